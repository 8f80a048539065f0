/- Texts of one claim (laid by shake.py). -/
import Derived.Test.YtljnlnbopohghaaZWa23
import Derived.Test.YtljnlnbopohghaaZWa8
import Derived.Test.YtljnlnbopohghaaZWa21
set_option linter.unusedVariables false
set_option linter.unusedSimpArgs false
section
namespace Go.Proofs.Ytljnlnbopohghaa.Mdl
open Go.RowKit Go.Shelf Go.Proofs.YtljnlnbopohghaaW.PrintWords Go.Proofs.YtljnlnbopohghaaW.PrintLast Go.Proofs.YtljnlnbopohghaaW.PrintMore Go.Proofs.Ytljnlnbopohghaa.Own Go.Proofs.Ytljnlnbopohghaa.Ord Go.Proofs.Ytljnlnbopohghaa Go.Proofs.Ytljnlnbopohghaa.P
open List renaming setIfInBounds_toArray → sA1, set_cons_zero → sA2, set_cons_succ → sA3, getElem_toArray → sA4, getElem_cons_zero → sA5, getElem_cons_succ → sA6
set_option maxHeartbeats 2000000
set_option maxRecDepth 100000
theorem lookT15 : rtab .any (opsOf Try.f37 15) = rtab .any (opsOf Try.f37 15) := rfl
theorem rd_look {Z : Nat → Prop} {w : World} {x tb : Nat} {c : Cf} {n sends : Int} {E : List En} {R : List (List Cu)} (h : Rx Z w x tb c n sends E R) (who : Int) (hw : ¬ (who < 1 ∨ who > n)) (o : Oq) {A : Option Addr} {cap : Nat} (hC : Kd.C P.k117 w A o.b.length o.b) (hcap : o.b.length ≤ cap) (ka : Nat) (e : Int) (hask : catchmentref21_Ask.f ka o.k o.y o.t o.n o.b c.f0 c.f1 c.f2 c.f3 c.f4 c.f5 c.f6 c.f7 c.f8 = some e) (hk : o.k = 3) (he : e = 0) (kf : Nat) (l : List En) (hF : catchmentref05_Some.f kf [] E o.y o.t o.n = some l) :
  Calls Try.prog 37 #[.pointer (some ⟨x, 0, none⟩), .int .i64 who, .agg #[.int .u8 o.k, .string o.y, .string o.t, .int .i64 o.n, .slice A o.b.length cap]] w (Rd Z w x tb c n ⟨0, false, e0, l, 0, false⟩ sends E R) := by
 have hup := Try.underlying59
 have huo := Try.underlying56
 have hum := Try.underlying65
 have huc := Try.underlying47
 have hur := Try.underlying29
 obtain ⟨AE, cE, hb, hE⟩ := h.blk
 obtain ⟨ok, oy, ot, on, ob⟩ := o
 have hk : ok = 3 := hk
 subst hk
 subst he
 have q0 : (((0 : Int)) == 0) = true := rfl
 have hB0 : Below w.heap.size w ((w.alloc (objO ⟨3, oy, ot, on, ob⟩ A cap)).alloc rep0) := below_alloc (below_alloc (Below.refl _ _) _) _
 have bO : ((w.alloc (objO ⟨3, oy, ot, on, ob⟩ A cap)).alloc rep0).heap[w.heap.size]? = some (objO ⟨3, oy, ot, on, ob⟩ A cap) := blk_alloc (blk_new w _) _
 have bD : ((w.alloc (objO ⟨3, oy, ot, on, ob⟩ A cap)).alloc rep0).heap[w.heap.size + 1]? = some rep0 := by have := blk_new (w.alloc (objO ⟨3, oy, ot, on, ob⟩ A cap)) rep0; rwa [World.size_alloc] at this
 have hsz2 : ((w.alloc (objO ⟨3, oy, ot, on, ob⟩ A cap)).alloc rep0).heap.size = w.heap.size + 2 := by simp
 have x9 := blk_cell (blk_below hb hB0) 9
 simp at x9
 have d0 := decide_eq_false (show ¬ who < 1 by omega)
 have d1 := decide_eq_false (show ¬ who > n by omega)
 have hA := aK_ (And.intro h (And.intro hB0 (And.intro bO (And.intro bD (And.intro hC (And.intro hcap (And.intro hsz2 hask)))))))
 have hbE := aK_ (And.intro hb hE)
 clear h hb hE hB0 bO bD hC hcap hsz2 hask
 go_enter Try.func37, Try.ntmps37
 go_wp2
 obtain ⟨h, hB0, bO, bD, hC, hcap, hsz2, hask⟩ := hA.out
 obtain ⟨hb, hE⟩ := hbE.out
 generalize (w.alloc (objO ⟨3, oy, ot, on, ob⟩ A cap)).alloc rep0 = w2 at hB0 bO bD hsz2 ⊢
 have hB0d := below_drew1 hB0
 have hm2 : w2.drew.heap[x]? = _ := blk_below hb hB0d
 have bO2 : w2.drew.heap[w.heap.size]? = _ := bO
 have o0 := blk_cell bO2 0
 have o1 := blk_cell bO2 1
 have o2 := blk_cell bO2 2
 have o3 := blk_cell bO2 3
 have o4 := blk_cell bO2 4
 have c0 := blk_cell hm2 0
 have c1 := blk_cell hm2 1
 have c2 := blk_cell hm2 2
 have c3 := blk_cell hm2 3
 have c4 := blk_cell hm2 4
 have c5 := blk_cell hm2 5
 have c6 := blk_cell hm2 6
 have c7 := blk_cell hm2 7
 have c8 := blk_cell hm2 8
 simp at o0 o1 o2 o3 o4 c0 c1 c2 c3 c4 c5 c6 c7 c8
 have AK := catchmentref21_Ask.calls ka 3 oy ot on A cap ob c.f0 c.f1 c.f2 c.f3 c.f4 c.f5 c.f6 c.f7 c.f8 0 w2.drew (Kd.C_below hC hB0d) hcap hask
 have AK2 := AK.mono (R' := fun x_ w' => x_ = .returned (.int .i64 0) ∧ (w'.cell? ⟨w.heap.size, 0, none⟩ = some (.int .u8 3) ∧ w'.cell? ⟨w.heap.size, 1, none⟩ = some (.string oy) ∧ w'.cell? ⟨w.heap.size, 2, none⟩ = some (.string ot) ∧ w'.cell? ⟨w.heap.size, 3, none⟩ = some (.int .i64 on) ∧ w'.cell? ⟨w.heap.size, 4, none⟩ = some (.slice A ob.length cap) ∧ w'.cell? ⟨x, 0, none⟩ = some (.int .i64 c.f0) ∧ w'.cell? ⟨x, 1, none⟩ = some (.int .i64 c.f1) ∧ w'.cell? ⟨x, 2, none⟩ = some (.int .i64 c.f2) ∧ w'.cell? ⟨x, 3, none⟩ = some (.int .i64 c.f3) ∧ w'.cell? ⟨x, 4, none⟩ = some (.int .i64 c.f4) ∧ w'.cell? ⟨x, 5, none⟩ = some (.int .i64 c.f5) ∧ w'.cell? ⟨x, 6, none⟩ = some (.int .i64 c.f6) ∧ w'.cell? ⟨x, 7, none⟩ = some (.int .i64 c.f7) ∧ w'.cell? ⟨x, 8, none⟩ = some (.int .i64 c.f8)) ∧ Aside0 (Below w.heap.size w w' ∧ w2.heap.size ≤ w'.heap.size ∧ w'.heap[w.heap.size + 1]? = some rep0 ∧ w'.heap[w.heap.size]? = some (objO ⟨3, oy, ot, on, ob⟩ A cap))) (by
  rintro x_ w' ⟨rfl, hb_⟩
  have hm5 := blk_below hm2 hb_
  have bO5 := blk_below bO2 hb_
  have o0 := blk_cell bO5 0
  have o1 := blk_cell bO5 1
  have o2 := blk_cell bO5 2
  have o3 := blk_cell bO5 3
  have o4 := blk_cell bO5 4
  have c0 := blk_cell hm5 0
  have c1 := blk_cell hm5 1
  have c2 := blk_cell hm5 2
  have c3 := blk_cell hm5 3
  have c4 := blk_cell hm5 4
  have c5 := blk_cell hm5 5
  have c6 := blk_cell hm5 6
  have c7 := blk_cell hm5 7
  have c8 := blk_cell hm5 8
  simp at o0 o1 o2 o3 o4 c0 c1 c2 c3 c4 c5 c6 c7 c8
  have bD5 := blk_below (show w2.drew.heap[w.heap.size + 1]? = some rep0 from bD) hb_
  exact ⟨rfl, ⟨o0, o1, o2, o3, o4, c0, c1, c2, c3, c4, c5, c6, c7, c8⟩, ⟨below_then hB0d hB0d.size hb_, hb_.size, bD5, bO5⟩⟩)
 have hA2 := aK_ hsz2
 clear AK hB0d hm2 bO2 h hb hE hB0 bO bD hC hcap hsz2 hask
 go_region_held3 (fun w' => w'.cell? ⟨w.heap.size, 0, none⟩ = some (.int .u8 3) ∧ w'.cell? ⟨w.heap.size, 1, none⟩ = some (.string oy) ∧ w'.cell? ⟨w.heap.size, 2, none⟩ = some (.string ot) ∧ w'.cell? ⟨w.heap.size, 3, none⟩ = some (.int .i64 on) ∧ w'.cell? ⟨w.heap.size, 4, none⟩ = some (.slice A ob.length cap) ∧ w'.cell? ⟨x, 0, none⟩ = some (.int .i64 c.f0) ∧ w'.cell? ⟨x, 1, none⟩ = some (.int .i64 c.f1) ∧ w'.cell? ⟨x, 2, none⟩ = some (.int .i64 c.f2) ∧ w'.cell? ⟨x, 3, none⟩ = some (.int .i64 c.f3) ∧ w'.cell? ⟨x, 4, none⟩ = some (.int .i64 c.f4) ∧ w'.cell? ⟨x, 5, none⟩ = some (.int .i64 c.f5) ∧ w'.cell? ⟨x, 6, none⟩ = some (.int .i64 c.f6) ∧ w'.cell? ⟨x, 7, none⟩ = some (.int .i64 c.f7) ∧ w'.cell? ⟨x, 8, none⟩ = some (.int .i64 c.f8)) (first | exact ⟨by assumption, by assumption, by assumption, by assumption, by assumption, by assumption, by assumption, by assumption, by assumption, by assumption, by assumption, by assumption, by assumption, by assumption⟩ | exact ⟨o0, o1, o2, o3, o4, c0, c1, c2, c3, c4, c5, c6, c7, c8⟩)
   (first
    | (go_at_call 24; refine AK2.mono ?_; clear AK2; rintro x_ w5 ⟨rfl, ⟨y0, y1, y2, y3, y4, y5, y6, y7, y8, y9, y10, y11, y12, y13⟩, hA5⟩))
 clear o0 o1 o2 o3 o4 c0 c1 c2 c3 c4 c5 c6 c7 c8 y0 y1 y2 y3 y4 y5 y6 y7 y8 y9 y10 y11 y12 y13
 obtain ⟨h, _, _, _, hC, hcap, _, _⟩ := hA.out
 obtain ⟨hb, hE⟩ := hbE.out
 obtain ⟨hB5, hs5, bD5, bO5⟩ := hA5.out
 have hB6 : Below w.heap.size w (w5.alloc (.cells #[.string oy, .string ot] 29)) := below_alloc hB5 _
 have bD6 := blk_alloc bD5 (.cells #[.string oy, .string ot] 29)
 have bO6 := blk_alloc bO5 (.cells #[.string oy, .string ot] 29)
 have bR6 := blk_new w5 (.cells #[.string oy, .string ot] 29)
 have o0 := blk_cell bO6 0
 have o1 := blk_cell bO6 1
 have o2 := blk_cell bO6 2
 have o3 := blk_cell bO6 3
 have o4 := blk_cell bO6 4
 simp at o0 o1 o2 o3 o4
 clear h hb hE hC hcap hB5 hs5 bD5 bO5 hB6 bD6 bO6 bR6
 go_wp2
 obtain ⟨h, _, _, _, hC, hcap, _, _⟩ := hA.out
 obtain ⟨hb, hE⟩ := hbE.out
 obtain ⟨hB5, hs5, bD5, bO5⟩ := hA5.out
 have hB6 : Below w.heap.size w (w5.alloc (.cells #[.string oy, .string ot] 29)) := below_alloc hB5 _
 have bD6 := blk_alloc bD5 (.cells #[.string oy, .string ot] 29)
 have bO6 := blk_alloc bO5 (.cells #[.string oy, .string ot] 29)
 have bR6 := blk_new w5 (.cells #[.string oy, .string ot] 29)
 generalize hw6 : w5.alloc (.cells #[.string oy, .string ot] 29) = w6 at hB6 bD6 bO6 bR6 ⊢
 have ls5 : w5.heap.size + 1 = w6.heap.size := by rw [← hw6]; simp
 clear hw6 o0 o1 o2 o3 o4
 have hB6d := below_drew1 hB6
 have hm6 : w6.drew.heap[x]? = _ := blk_below hb hB6d
 have bR7 : w6.drew.heap[w5.heap.size]? = _ := bR6
 have bO7 : w6.drew.heap[w.heap.size]? = _ := bO6
 have bD7 : w6.drew.heap[w.heap.size + 1]? = some rep0 := bD6
 have lsd : w6.drew.heap.size = w6.heap.size := rfl
 have hsz := hA2.out
 have u0 := blk_cell hm6 10
 have u1 := blk_cell bO7 3
 have u2 := blk_cell bR7 0
 have u3 := blk_cell bR7 1
 simp at u0 u1 u2 u3
 have rE := Kd.V_reads' (Kd.V_step hE (w1 := w6.drew) (fun k hk hl => hB6d.block k hl))
 have SM := (catchmentref05_Some.calls kf none 0 [] AE cE E oy ot on l w6.drew (Kd.C_nil _ _) (Nat.le_refl 0) rE.2.2 rE.2.1 hF).mono (R' := fun e w' => ∃ B cp, e = .returned (.slice B l.length cp) ∧ (w'.cell? ⟨x, 10, none⟩ = some (.slice AE E.length cE) ∧ w'.cell? ⟨w.heap.size, 3, none⟩ = some (.int .i64 on) ∧ w'.cell? ⟨w5.heap.size, 0, none⟩ = some (.string oy) ∧ w'.cell? ⟨w5.heap.size, 1, none⟩ = some (.string ot)) ∧ Aside0 (w'.heap[w.heap.size + 1]? = some rep0 ∧ P.k103.R 103 w' w6.drew.heap.size (fun _ => True) (.slice B l.length cp) l ∧ Below w.heap.size w w' ∧ w6.drew.heap.size ≤ w'.heap.size)) (by
  rintro e w' ⟨v, rfl, hR, hb_⟩
  obtain ⟨B, cp, rfl⟩ := Kd.R_slice hR
  have a0 := blk_cell (blk_below hm6 hb_) 10
  have a1 := blk_cell (blk_below bO7 hb_) 3
  have a2 := blk_cell (blk_below bR7 hb_) 0
  have a3 := blk_cell (blk_below bR7 hb_) 1
  simp at a0 a1 a2 a3
  exact ⟨B, cp, rfl, ⟨a0, a1, a2, a3⟩, ⟨blk_below bD7 hb_, hR, below_then hB6d hB6d.size hb_, hb_.size⟩⟩)
 have hls := aK_ (show w.heap.size + 2 ≤ w6.drew.heap.size by omega)
 clear h hb hE hC hcap hB5 hs5 bD5 bO5 hB6 bD6 bO6 bR6 hB6d hm6 bO7 bR7 bD7 rE lsd ls5 hsz
 refine start_ (n := 10) (S := fun w' : World => w'.cell? ⟨x, 10, none⟩ = some (.slice AE E.length cE) ∧ w'.cell? ⟨w.heap.size, 3, none⟩ = some (.int .i64 on) ∧ w'.cell? ⟨w5.heap.size, 0, none⟩ = some (.string oy) ∧ w'.cell? ⟨w5.heap.size, 1, none⟩ = some (.string ot)) (ds := [9]) #[false, false, false, false, false, false, false, false, false, false] (by kernel_rfl) rfl rfl ⟨u0, u1, u2, u3⟩ (fun hHeld => ?_)
 have HT_ := aK_ lookT15
 refine pU_ 0 84 #[true, false, false, false, false, false, false, false, false, false] ?_
 refine pU_ 1 85 #[true, true, false, false, false, false, false, false, false, false] ?_
 refine pU_ 2 86 #[true, true, true, false, false, false, false, false, false, false] ?_
 refine pU_ 5 89 #[true, true, true, false, false, true, false, false, false, false] ?_
 refine take_ (i := 3) (N := some 87) (v := ?_) (a' := ?_) #[true, true, true, true, false, true, false, false, false, false] rfl rfl (take_of HT_.out (by kernel_rfl)) (fun _ _ _ h => h) (Or.inl ⟨by rfl, ?_⟩) hHeld ?_ ?_
 rotate_left
 ·rintro w' ⟨s0, s1, s2, s3⟩
  go_simp
  with_reducible rfl
 rotate_left
 ·simp only [Act.put, sA1, sA2, sA3, i64_w, i32_w]
  rfl
 refine take_ (i := 4) (N := some 88) (v := ?_) (a' := ?_) #[true, true, true, true, true, true, false, false, false, false] rfl rfl (take_of HT_.out (by kernel_rfl)) (fun _ _ _ h => h) (Or.inl ⟨by rfl, ?_⟩) hHeld ?_ ?_
 rotate_left
 ·rintro w' ⟨s0, s1, s2, s3⟩
  go_simp
  with_reducible rfl
 rotate_left
 ·simp only [Act.put, sA1, sA2, sA3, i64_w, i32_w]
  rfl
 refine take_ (i := 6) (N := some 90) (v := ?_) (a' := ?_) #[true, true, true, true, true, true, true, false, false, false] rfl rfl (take_of HT_.out (by kernel_rfl)) (fun _ _ _ h => h) (Or.inl ⟨by rfl, ?_⟩) hHeld ?_ ?_
 rotate_left
 ·rintro w' ⟨s0, s1, s2, s3⟩
  go_simp
  with_reducible rfl
 rotate_left
 ·simp only [Act.put, sA1, sA2, sA3, i64_w, i32_w]
  rfl
 refine one_ (i := 7) (N := some 91) #[true, true, true, true, true, true, true, true, false, false] rfl rfl (one_of HT_.out (by kernel_rfl)) (by decide) (fun K hK => ?_)
 refine goes_ Try.func70 (by kernel_rfl) rfl #[.slice none 0 0, .slice AE E.length cE, .agg #[.string oy, .string ot], .int .i64 on] (by rfl) rfl rfl (by (try simp only [List.map_toArray, List.map_cons, List.map_nil]); first | done | rfl) ?_
 refine (SM).mono ?_
 rintro x_ w8 ⟨B, cp, rfl, v0, hA8⟩
 refine ⟨_, rfl, ?_⟩
 clear SM
 obtain ⟨bD8, hR8, hB8, hs8⟩ := hA8.out
 have y0 := blk_cell bD8 0
 have y1 := blk_cell bD8 1
 have y2 := blk_cell bD8 2
 have y3 := blk_cell bD8 3
 have y4 := blk_cell bD8 4
 have y5 := blk_cell bD8 5
 have q0 := blk_frozen bD8 0
 have q1 := blk_frozen bD8 1
 have q2 := blk_frozen bD8 2
 have q3 := blk_frozen bD8 3
 have q4 := blk_frozen bD8 4
 have q5 := blk_frozen bD8 5
 simp at y0 y1 y2 y3 y4 y5
 clear bD8 hR8 hB8 hs8
 refine hK.out _ _ v0 (fun hHeld => ?_)
 clear hK K
 refine norm_ (a' := ?_) ?_ ?_
 rotate_left
 ·show Act.put _ (some 91) _ = _
  simp only [Act.put, sA1, sA2, sA3, i64_w, i32_w]
  rfl
 refine pU_ 8 92 #[true, true, true, true, true, true, true, true, true, false] ?_
 refine last_ (i := 9) (N := none) #[true, true, true, true, true, true, true, true, true, true] rfl rfl (one_of HT_.out (by kernel_rfl)) (by decide) (fun K hK => ?_)
 refine skip_ (w1 := (setRep w8 (w.heap.size + 1) (.int .i64 0) (.bool false) (.string ⟨#[]⟩) (.slice B l.length cp) (.int .i64 0) (.bool false))) (by rfl) rfl ?_ ?_
 ·first | (go_simp; done) | (go_simp; rfl)
 refine hK.out _ _ ?_
 clear hK K
 refine done_ (done_of HT_.out (by kernel_rfl)) ?_
 clear u0 u1 u2 u3 v0 hHeld
 go_wp2
 obtain ⟨h, _, _, _, hC, hcap, _, _⟩ := hA.out
 obtain ⟨bD8, hR8, hB8, hs8⟩ := hA8.out
 have hl := hls.out
 refine rd_end (fun k hk => .inl hk) (h.below hB8) (.of_below hB8) (by omega) (fun hz => by have := h.lt _ hz; omega) h.ltx.1 h.ltx.2 rfl rfl rfl bD8 (fun W' f hs => ⟨_, _, rfl, ?_⟩)
 exact Kd.V_mono (Kd.V_step (V_of_R hR8) (fun j hj hjl => f.block j hjl (fun e => by omega))) (fun j hj => ⟨by omega, by omega⟩)
end Go.Proofs.Ytljnlnbopohghaa.Mdl
end
section
namespace Go.Proofs.Ytljnlnbopohghaa.Mdl
open Go.RowKit Go.Shelf Go.Proofs.YtljnlnbopohghaaW.PrintWords Go.Proofs.YtljnlnbopohghaaW.PrintLast Go.Proofs.YtljnlnbopohghaaW.PrintMore Go.Proofs.Ytljnlnbopohghaa.Own Go.Proofs.Ytljnlnbopohghaa.Ord Go.Proofs.Ytljnlnbopohghaa Go.Proofs.Ytljnlnbopohghaa.P
set_option maxHeartbeats 2000000
set_option maxRecDepth 100000
set_option maxHeartbeats 1000000
theorem rd_get {Z : Nat → Prop} {w : World} {x tb : Nat} {c : Cf} {n sends : Int} {E : List En} {R : List (List Cu)} (h : Rx Z w x tb c n sends E R) (who : Int) (hw : ¬ (who < 1 ∨ who > n)) (o : Oq) {A : Option Addr} {cap : Nat} (hC : Kd.C P.k117 w A o.b.length o.b) (hcap : o.b.length ≤ cap) (ka : Nat) (e : Int) (hask : catchmentref21_Ask.f ka o.k o.y o.t o.n o.b c.f0 c.f1 c.f2 c.f3 c.f4 c.f5 c.f6 c.f7 c.f8 = some e) (hk : o.k = 1) (he : e = 0) (kf : Nat) (v : ByteArray) (is : Bool) (hF : catchmentref05_Find.f kf E o.y = some (v, is)) :
  Calls Try.prog 37 #[.pointer (some ⟨x, 0, none⟩), .int .i64 who, .agg #[.int .u8 o.k, .string o.y, .string o.t, .int .i64 o.n, .slice A o.b.length cap]] w (Rd Z w x tb c n ⟨0, is, v, [], 0, false⟩ sends E R) := by
 have hup := Try.underlying59
 have huo := Try.underlying56
 have hum := Try.underlying65
 have huc := Try.underlying47
 have hur := Try.underlying29
 obtain ⟨AE, cE, hb, hE⟩ := h.blk
 obtain ⟨ok, oy, ot, on, ob⟩ := o
 have hk : ok = 1 := hk
 subst hk
 subst he
 have q0 : (((0 : Int)) == 0) = true := rfl
 have hB0 : Below w.heap.size w ((w.alloc (objO ⟨1, oy, ot, on, ob⟩ A cap)).alloc rep0) := below_alloc (below_alloc (Below.refl _ _) _) _
 have bO : ((w.alloc (objO ⟨1, oy, ot, on, ob⟩ A cap)).alloc rep0).heap[w.heap.size]? = some (objO ⟨1, oy, ot, on, ob⟩ A cap) := blk_alloc (blk_new w _) _
 have bD : ((w.alloc (objO ⟨1, oy, ot, on, ob⟩ A cap)).alloc rep0).heap[w.heap.size + 1]? = some rep0 := by have := blk_new (w.alloc (objO ⟨1, oy, ot, on, ob⟩ A cap)) rep0; rwa [World.size_alloc] at this
 have hsz2 : ((w.alloc (objO ⟨1, oy, ot, on, ob⟩ A cap)).alloc rep0).heap.size = w.heap.size + 2 := by simp
 have x9 := blk_cell (blk_below hb hB0) 9
 simp at x9
 have d0 := decide_eq_false (show ¬ who < 1 by omega)
 have d1 := decide_eq_false (show ¬ who > n by omega)
 have hA := aK_ (And.intro h (And.intro hB0 (And.intro bO (And.intro bD (And.intro hC (And.intro hcap (And.intro hsz2 hask)))))))
 have hbE := aK_ (And.intro hb hE)
 clear h hb hE hB0 bO bD hC hcap hsz2 hask
 go_enter Try.func37, Try.ntmps37
 go_wp2
 obtain ⟨h, hB0, bO, bD, hC, hcap, hsz2, hask⟩ := hA.out
 obtain ⟨hb, hE⟩ := hbE.out
 generalize (w.alloc (objO ⟨1, oy, ot, on, ob⟩ A cap)).alloc rep0 = w2 at hB0 bO bD hsz2 ⊢
 have hB0d := below_drew1 hB0
 have hm2 : w2.drew.heap[x]? = _ := blk_below hb hB0d
 have bO2 : w2.drew.heap[w.heap.size]? = _ := bO
 have o0 := blk_cell bO2 0
 have o1 := blk_cell bO2 1
 have o2 := blk_cell bO2 2
 have o3 := blk_cell bO2 3
 have o4 := blk_cell bO2 4
 have c0 := blk_cell hm2 0
 have c1 := blk_cell hm2 1
 have c2 := blk_cell hm2 2
 have c3 := blk_cell hm2 3
 have c4 := blk_cell hm2 4
 have c5 := blk_cell hm2 5
 have c6 := blk_cell hm2 6
 have c7 := blk_cell hm2 7
 have c8 := blk_cell hm2 8
 simp at o0 o1 o2 o3 o4 c0 c1 c2 c3 c4 c5 c6 c7 c8
 have AK := catchmentref21_Ask.calls ka 1 oy ot on A cap ob c.f0 c.f1 c.f2 c.f3 c.f4 c.f5 c.f6 c.f7 c.f8 0 w2.drew (Kd.C_below hC hB0d) hcap hask
 have AK2 := AK.mono (R' := fun x_ w' => x_ = .returned (.int .i64 0) ∧ (w'.cell? ⟨w.heap.size, 0, none⟩ = some (.int .u8 1) ∧ w'.cell? ⟨w.heap.size, 1, none⟩ = some (.string oy) ∧ w'.cell? ⟨w.heap.size, 2, none⟩ = some (.string ot) ∧ w'.cell? ⟨w.heap.size, 3, none⟩ = some (.int .i64 on) ∧ w'.cell? ⟨w.heap.size, 4, none⟩ = some (.slice A ob.length cap) ∧ w'.cell? ⟨x, 0, none⟩ = some (.int .i64 c.f0) ∧ w'.cell? ⟨x, 1, none⟩ = some (.int .i64 c.f1) ∧ w'.cell? ⟨x, 2, none⟩ = some (.int .i64 c.f2) ∧ w'.cell? ⟨x, 3, none⟩ = some (.int .i64 c.f3) ∧ w'.cell? ⟨x, 4, none⟩ = some (.int .i64 c.f4) ∧ w'.cell? ⟨x, 5, none⟩ = some (.int .i64 c.f5) ∧ w'.cell? ⟨x, 6, none⟩ = some (.int .i64 c.f6) ∧ w'.cell? ⟨x, 7, none⟩ = some (.int .i64 c.f7) ∧ w'.cell? ⟨x, 8, none⟩ = some (.int .i64 c.f8)) ∧ Aside0 (Below w.heap.size w w' ∧ w2.heap.size ≤ w'.heap.size ∧ w'.heap[w.heap.size + 1]? = some rep0 ∧ w'.heap[w.heap.size]? = some (objO ⟨1, oy, ot, on, ob⟩ A cap))) (by
  rintro x_ w' ⟨rfl, hb_⟩
  have hm5 := blk_below hm2 hb_
  have bO5 := blk_below bO2 hb_
  have o0 := blk_cell bO5 0
  have o1 := blk_cell bO5 1
  have o2 := blk_cell bO5 2
  have o3 := blk_cell bO5 3
  have o4 := blk_cell bO5 4
  have c0 := blk_cell hm5 0
  have c1 := blk_cell hm5 1
  have c2 := blk_cell hm5 2
  have c3 := blk_cell hm5 3
  have c4 := blk_cell hm5 4
  have c5 := blk_cell hm5 5
  have c6 := blk_cell hm5 6
  have c7 := blk_cell hm5 7
  have c8 := blk_cell hm5 8
  simp at o0 o1 o2 o3 o4 c0 c1 c2 c3 c4 c5 c6 c7 c8
  have bD5 := blk_below (show w2.drew.heap[w.heap.size + 1]? = some rep0 from bD) hb_
  exact ⟨rfl, ⟨o0, o1, o2, o3, o4, c0, c1, c2, c3, c4, c5, c6, c7, c8⟩, ⟨below_then hB0d hB0d.size hb_, hb_.size, bD5, bO5⟩⟩)
 have hA2 := aK_ hsz2
 clear AK hB0d hm2 bO2 h hb hE hB0 bO bD hC hcap hsz2 hask
 go_region_held3 (fun w' => w'.cell? ⟨w.heap.size, 0, none⟩ = some (.int .u8 1) ∧ w'.cell? ⟨w.heap.size, 1, none⟩ = some (.string oy) ∧ w'.cell? ⟨w.heap.size, 2, none⟩ = some (.string ot) ∧ w'.cell? ⟨w.heap.size, 3, none⟩ = some (.int .i64 on) ∧ w'.cell? ⟨w.heap.size, 4, none⟩ = some (.slice A ob.length cap) ∧ w'.cell? ⟨x, 0, none⟩ = some (.int .i64 c.f0) ∧ w'.cell? ⟨x, 1, none⟩ = some (.int .i64 c.f1) ∧ w'.cell? ⟨x, 2, none⟩ = some (.int .i64 c.f2) ∧ w'.cell? ⟨x, 3, none⟩ = some (.int .i64 c.f3) ∧ w'.cell? ⟨x, 4, none⟩ = some (.int .i64 c.f4) ∧ w'.cell? ⟨x, 5, none⟩ = some (.int .i64 c.f5) ∧ w'.cell? ⟨x, 6, none⟩ = some (.int .i64 c.f6) ∧ w'.cell? ⟨x, 7, none⟩ = some (.int .i64 c.f7) ∧ w'.cell? ⟨x, 8, none⟩ = some (.int .i64 c.f8)) (first | exact ⟨by assumption, by assumption, by assumption, by assumption, by assumption, by assumption, by assumption, by assumption, by assumption, by assumption, by assumption, by assumption, by assumption, by assumption⟩ | exact ⟨o0, o1, o2, o3, o4, c0, c1, c2, c3, c4, c5, c6, c7, c8⟩)
   (first
    | (go_at_call 24; refine AK2.mono ?_; clear AK2; rintro x_ w5 ⟨rfl, ⟨y0, y1, y2, y3, y4, y5, y6, y7, y8, y9, y10, y11, y12, y13⟩, hA5⟩))
 clear o0 o1 o2 o3 o4 c0 c1 c2 c3 c4 c5 c6 c7 c8 y0 y1 y2 y3 y4 y5 y6 y7 y8 y9 y10 y11 y12 y13
 obtain ⟨h, _, _, _, hC, hcap, _, _⟩ := hA.out
 obtain ⟨hb, hE⟩ := hbE.out
 obtain ⟨hB5, hs5, bD5, bO5⟩ := hA5.out
 have hB6 : Below w.heap.size w (w5.alloc (.cells #[.string oy, .string ot] 29)) := below_alloc hB5 _
 have bD6 := blk_alloc bD5 (.cells #[.string oy, .string ot] 29)
 have bO6 := blk_alloc bO5 (.cells #[.string oy, .string ot] 29)
 have bR6 := blk_new w5 (.cells #[.string oy, .string ot] 29)
 have o0 := blk_cell bO6 0
 have o1 := blk_cell bO6 1
 have o2 := blk_cell bO6 2
 have o3 := blk_cell bO6 3
 have o4 := blk_cell bO6 4
 simp at o0 o1 o2 o3 o4
 clear h hb hE hC hcap hB5 hs5 bD5 bO5 hB6 bD6 bO6 bR6
 go_wp2
 obtain ⟨h, _, _, _, hC, hcap, _, _⟩ := hA.out
 obtain ⟨hb, hE⟩ := hbE.out
 obtain ⟨hB5, hs5, bD5, bO5⟩ := hA5.out
 have hB6 : Below w.heap.size w (w5.alloc (.cells #[.string oy, .string ot] 29)) := below_alloc hB5 _
 have bD6 := blk_alloc bD5 (.cells #[.string oy, .string ot] 29)
 have bO6 := blk_alloc bO5 (.cells #[.string oy, .string ot] 29)
 have bR6 := blk_new w5 (.cells #[.string oy, .string ot] 29)
 generalize w5.alloc (.cells #[.string oy, .string ot] 29) = w6 at hB6 bD6 bO6 bR6 ⊢
 clear o0 o1 o2 o3 o4
 have hB6d := below_drew1 hB6
 have hm6 : w6.drew.heap[x]? = _ := blk_below hb hB6d
 have bO7 : w6.drew.heap[w.heap.size]? = _ := bO6
 have u0 := blk_cell hm6 10
 have u1 := blk_cell bO7 1
 simp at u0 u1
 have rE := Kd.V_reads' (Kd.V_step hE (w1 := w6.drew) (fun k hk hl => hB6d.block k hl))
 have GT := (catchmentref05_Find.calls kf AE cE E oy v is w6.drew rE.2.2 rE.2.1 hF).mono (R' := fun e w' => e = .returned (.tuple #[.string v, .bool is]) ∧ (w'.cell? ⟨x, 10, none⟩ = some (.slice AE E.length cE) ∧ w'.cell? ⟨w.heap.size, 1, none⟩ = some (.string oy)) ∧ Aside0 (Below w.heap.size w w' ∧ w'.heap[w.heap.size + 1]? = some rep0)) (by
  rintro e w' ⟨rfl, hb0_⟩
  have hb_ := hb0_.below
  have a0 := blk_cell (blk_below hm6 hb_) 10
  have a1 := blk_cell (blk_below bO7 hb_) 1
  simp at a0 a1
  exact ⟨rfl, ⟨a0, a1⟩, ⟨below_then hB6d hB6d.size hb_, blk_below (show w6.drew.heap[w.heap.size + 1]? = some rep0 from bD6) hb_⟩⟩)
 clear h hb hE hC hcap hB5 hs5 bD5 bO5 hB6 bD6 bO6 bR6 hB6d hm6 bO7 rE
 go_region_held3 (fun w' => w'.cell? ⟨x, 10, none⟩ = some (.slice AE E.length cE) ∧ w'.cell? ⟨w.heap.size, 1, none⟩ = some (.string oy)) (first | exact ⟨by assumption, by assumption⟩ | exact ⟨u0, u1⟩)
   (first
    | (go_at_call 27; refine GT.mono ?_; clear GT; rintro x_ w7 ⟨rfl, ⟨v0, v1⟩, hA7⟩))
 obtain ⟨hB7, bD7⟩ := hA7.out
 have y0 := blk_cell bD7 0
 have y1 := blk_cell bD7 1
 have y2 := blk_cell bD7 2
 have y3 := blk_cell bD7 3
 have y4 := blk_cell bD7 4
 have y5 := blk_cell bD7 5
 have q0 := blk_frozen bD7 0
 have q1 := blk_frozen bD7 1
 have q2 := blk_frozen bD7 2
 have q3 := blk_frozen bD7 3
 have q4 := blk_frozen bD7 4
 have q5 := blk_frozen bD7 5
 simp at y0 y1 y2 y3 y4 y5
 clear hB7 bD7 u0 u1 v0 v1
 go_wp2
 obtain ⟨h, _, _, _, hC, hcap, _, _⟩ := hA.out
 obtain ⟨hB7, bD7⟩ := hA7.out
 exact rd_end (fun k hk => .inl hk) (h.below hB7) (.of_below hB7) (by omega) (fun hz => by have := h.lt _ hz; omega) h.ltx.1 h.ltx.2 rfl rfl rfl bD7 (fun W' _ _ => RepV.bare _ _ _ _ _ _ _)
def RNewV (w : World) (c : Cf) (n : Int) (e : Ending) (w' : World) : Prop := ∃ x tb, e = .returned (.tuple #[.pointer (some ⟨x, 0, none⟩), .int .i64 0]) ∧ Rx (fun _ => False) w' x tb c n 0 [] (List.replicate (n.toNat + 1) []) ∧ w.heap.size ≤ x ∧ w.heap.size ≤ tb ∧ Below w.heap.size w w'
theorem rnew_bad (w : World) (c : Cf) (n : Int) (kc : Nat) (r : Int) (hc : catchmentref21_Check.f kc c.f0 c.f1 c.f2 c.f3 c.f4 c.f5 c.f6 c.f7 c.f8 = some r) (h : ¬ r = 0 ∨ n < 1 ∨ n > 64) :
  Calls Try.prog 35 #[aggC c, .int .i64 n] w fun e w' => e = .returned (.tuple #[.pointer none, .int .i64 2]) ∧ Below w.heap.size w w' := by
 have huc := Try.underlying47
 have hB0 : Below w.heap.size w (w.alloc (objC c)) := below_alloc (Below.refl _ _) _
 have CK := catchmentref21_Check.calls kc c.f0 c.f1 c.f2 c.f3 c.f4 c.f5 c.f6 c.f7 c.f8 r (w.alloc (objC c)) hc
 have hB := aK_ hB0
 clear hB0 hc
 go_enter Try.func35, Try.ntmps35
 by_cases h1 : r = 0
 ·subst h1
  have q0 : ((0 : Int) == 0) = true := rfl
  by_cases h2 : n < 1
  ·have d0 := decide_eq_true h2
   go_wp2_with (first | (go_at_call 69; refine CK.mono ?_; clear CK; rintro e w2 ⟨rfl, hb⟩; have hbA := aK_ hb; clear hb))
   go_ret2
   exact ⟨rfl, below_then hB.out hB.out.size hbA.out⟩
  have h3 : n > 64 := by omega
  have d0 := decide_eq_false h2
  have d1 := decide_eq_true h3
  go_wp2_with (first | (go_at_call 69; refine CK.mono ?_; clear CK; rintro e w2 ⟨rfl, hb⟩; have hbA := aK_ hb; clear hb))
  go_ret2
  exact ⟨rfl, below_then hB.out hB.out.size hbA.out⟩
 have q0 : (r == 0) = false := by simpa using h1
 go_wp2_with (first | (go_at_call 69; refine CK.mono ?_; clear CK; rintro e w2 ⟨rfl, hb⟩; have hbA := aK_ hb; clear hb))
 go_ret2
 exact ⟨rfl, below_then hB.out hB.out.size hbA.out⟩
theorem madeRows (m i : Nat) (h : i < m) : (madeCells #[.slice none 0 0] m)[i]? = some (.slice none 0 0) := by
 have e : i % 1 = 0 := by omega
 simp [madeCells, h, e]
theorem rnew_made {w W : World} {c : Cf} {n : Int} (hB : Below w.heap.size w W) (h1 : 1 ≤ n) :
  RNewV w c n (.returned (.tuple #[.pointer (some ⟨W.heap.size + 1, 0, none⟩), .int .i64 0])) ((W.alloc (.cells (madeCells #[.slice none 0 0] (n + 1).toNat) 25)).alloc (.cells #[.int .i64 c.f0, .int .i64 c.f1, .int .i64 c.f2, .int .i64 c.f3, .int .i64 c.f4, .int .i64 c.f5, .int .i64 c.f6, .int .i64 c.f7, .int .i64 c.f8, .int .i64 n, .slice none 0 0, .slice (some ⟨W.heap.size, 0, none⟩) (n + 1).toNat (n + 1).toNat, .int .i64 0] 65)) := by
 have sw := hB.size
 have e : (n + 1).toNat = n.toNat + 1 := by omega
 have hx := blk_new (W.alloc (.cells (madeCells #[.slice none 0 0] (n + 1).toNat) 25)) (.cells #[.int .i64 c.f0, .int .i64 c.f1, .int .i64 c.f2, .int .i64 c.f3, .int .i64 c.f4, .int .i64 c.f5, .int .i64 c.f6, .int .i64 c.f7, .int .i64 c.f8, .int .i64 n, .slice none 0 0, .slice (some ⟨W.heap.size, 0, none⟩) (n + 1).toNat (n + 1).toNat, .int .i64 0] 65)
 rw [World.size_alloc] at hx
 have hT := blk_alloc (blk_new W (.cells (madeCells #[.slice none 0 0] (n + 1).toNat) 25)) (.cells #[.int .i64 c.f0, .int .i64 c.f1, .int .i64 c.f2, .int .i64 c.f3, .int .i64 c.f4, .int .i64 c.f5, .int .i64 c.f6, .int .i64 c.f7, .int .i64 c.f8, .int .i64 n, .slice none 0 0, .slice (some ⟨W.heap.size, 0, none⟩) (n + 1).toNat (n + 1).toNat, .int .i64 0] 65)
 refine ⟨W.heap.size + 1, W.heap.size, rfl, ⟨⟨none, 0, ?_, V_empty _ _ _ _ _⟩, ⟨(madeCells #[.slice none 0 0] (n + 1).toNat).toList, by simp [size_madeCells, e], by simpa using hT, fun i r hr => ?_⟩, by omega, fun q => q, fun q => q, fun k hk => hk.elim⟩, by omega, sw, below_alloc (below_alloc hB _) _⟩
 ·rw [hx, List.length_replicate, e]; rfl
 obtain ⟨hi, rfl⟩ : i < n.toNat + 1 ∧ r = [] := by
  rw [List.getElem?_replicate] at hr
  split at hr
  ·rename_i q; exact ⟨q, by cases hr; rfl⟩
  cases hr
 refine ⟨none, 0, ?_, V_empty _ _ _ _ _⟩
 rw [Array.getElem?_toList]
 exact madeRows _ _ (by omega)
theorem rnew_ok (w : World) (c : Cf) (n : Int) (kc : Nat) (hc : catchmentref21_Check.f kc c.f0 c.f1 c.f2 c.f3 c.f4 c.f5 c.f6 c.f7 c.f8 = some 0) (h1 : 1 ≤ n) (h2 : n ≤ 64) :
  Calls Try.prog 35 #[aggC c, .int .i64 n] w (RNewV w c n) := by
 have huc := Try.underlying47
 have hum := Try.underlying65
 have hB0 : Below w.heap.size w (w.alloc (objC c)) := below_alloc (Below.refl _ _) _
 have bC := blk_new w (objC c)
 have CK := (catchmentref21_Check.calls kc c.f0 c.f1 c.f2 c.f3 c.f4 c.f5 c.f6 c.f7 c.f8 0 (w.alloc (objC c)) hc).mono (R' := fun e w2 => e = .returned (.int .i64 0) ∧ Aside0 (Below w.heap.size w w2 ∧ w2.heap[w.heap.size]? = some (objC c))) (by
  rintro e w2 ⟨rfl, hb⟩
  exact ⟨rfl, ⟨below_then hB0 hB0.size hb, blk_below bC hb⟩⟩)
 have d0 := decide_eq_false (show ¬ n < 1 by omega)
 have d1 := decide_eq_false (show ¬ n > 64 by omega)
 have q0 : ((0 : Int) == 0) = true := rfl
 clear hB0 hc bC
 go_enter Try.func35, Try.ntmps35
 go_wp2_with (first | (go_at_call 69; refine CK.mono ?_; clear CK; rintro e w2 ⟨rfl, hA2⟩))
 obtain ⟨hB2, bC2⟩ := hA2.out
 have bC3 : w2.drew.heap[w.heap.size]? = _ := bC2
 have u0 := blk_cell bC3 0
 have u1 := blk_cell bC3 1
 have u2 := blk_cell bC3 2
 have u3 := blk_cell bC3 3
 have u4 := blk_cell bC3 4
 have u5 := blk_cell bC3 5
 have u6 := blk_cell bC3 6
 have u7 := blk_cell bC3 7
 have u8 := blk_cell bC3 8
 simp at u0 u1 u2 u3 u4 u5 u6 u7 u8
 clear hB2 bC2 bC3
 have hw : IntKind.i64.wrap (n + 1) = n + 1 := IntWalk.i64_in _ (by omega)
 have hmk := print_make_int (P := Try.prog) 63 25 (.slice none 0 0) 24 (by kernel_rfl) (by kernel_rfl) rfl (by decide) (n + 1) (by omega) (by omega)
 have hOK : OK9 c w.heap.size w2.drew := ⟨u0, u1, u2, u3, u4, u5, u6, u7, u8⟩
 go_region_held3 (fun w' => w'.cell? ⟨w.heap.size, 0, none⟩ = some (.int .i64 c.f0) ∧ w'.cell? ⟨w.heap.size, 1, none⟩ = some (.int .i64 c.f1) ∧ w'.cell? ⟨w.heap.size, 2, none⟩ = some (.int .i64 c.f2) ∧ w'.cell? ⟨w.heap.size, 3, none⟩ = some (.int .i64 c.f3) ∧ w'.cell? ⟨w.heap.size, 4, none⟩ = some (.int .i64 c.f4) ∧ w'.cell? ⟨w.heap.size, 5, none⟩ = some (.int .i64 c.f5) ∧ w'.cell? ⟨w.heap.size, 6, none⟩ = some (.int .i64 c.f6) ∧ w'.cell? ⟨w.heap.size, 7, none⟩ = some (.int .i64 c.f7) ∧ w'.cell? ⟨w.heap.size, 8, none⟩ = some (.int .i64 c.f8)) (first | exact ⟨by assumption, by assumption, by assumption, by assumption, by assumption, by assumption, by assumption, by assumption, by assumption⟩ | exact hOK | exact hOK.alloc _ | exact ((hOK.alloc _).alloc _))
   (first
    | fail)
 go_wp2
 go_ret2
 obtain ⟨hB2, bC2⟩ := hA2.out
 have hB2d := below_drew1 hB2
 have sw := hB2d.size
 exact rnew_made hB2d h1
def rowsOf (n : Int) (T : Int → List Cu) : List (List Cu) := (List.range (n.toNat + 1)).map (fun (i : Nat) => T (i : Int))
theorem rows_length (n : Int) (T : Int → List Cu) : (rowsOf n T).length = n.toNat + 1 := by simp [rowsOf]
theorem rows_at (n : Int) (T : Int → List Cu) (who : Int) (h1 : 0 ≤ who) (h2 : who ≤ n) : (rowsOf n T)[who.toNat]? = some (T who) := by
 unfold rowsOf
 rw [List.getElem?_map, List.getElem?_range (by omega)]
 simp only [Option.map_some]
 rw [show ((who.toNat : Nat) : Int) = who by omega]
theorem rows_set (n : Int) (T : Int → List Cu) (who : Int) (h1 : 0 ≤ who) (h2 : who ≤ n) (cs : List Cu) : (rowsOf n T).set who.toNat cs = rowsOf n (setT T who cs) := by
 apply List.ext_getElem?
 intro i
 unfold rowsOf
 rw [List.getElem?_set, List.getElem?_map, List.getElem?_map, List.length_map, List.length_range]
 by_cases hi : i < n.toNat + 1
 ·rw [List.getElem?_range hi]
  simp only [Option.map_some]
  unfold setT
  by_cases e : who.toNat = i
  ·rw [if_pos e, if_pos (by omega), if_pos (by omega)]
  rw [if_neg e, if_neg (by omega)]
 have : (List.range (n.toNat + 1))[i]? = none := by simp; omega
 rw [this, if_neg (by omega)]
 rfl
theorem rows_nil (n : Int) : rowsOf n (fun _ => []) = List.replicate (n.toNat + 1) [] := by
 unfold rowsOf
 rw [List.map_const']
 simp
structure Inv (n : Int) (s : St) (i : Nat) : Prop where
 rise : Rise OrdSm.lt s.L
 len : s.L.length ≤ 20 * i
 key : ∀ x ∈ s.L, x.1.size ≤ 140737488351232
 t : ∀ who, (s.T who).length ≤ i
 t0 : ∀ who, ¬ (1 ≤ who ∧ who ≤ n) → s.T who = []
 s0 : 0 ≤ s.s
 s1 : s.s ≤ i
theorem Inv.zero (n : Int) : Inv n ⟨0, [], fun _ => []⟩ 0 := ⟨List.Pairwise.nil, by simp, by simp, by simp, by simp, by simp, by simp⟩
theorem Inv.up {n : Int} {s : St} {i j : Nat} (h : Inv n s i) (hj : i ≤ j) : Inv n s j :=
 ⟨h.rise, Nat.le_trans h.len (by omega), h.key, fun who => Nat.le_trans (h.t who) hj, h.t0, h.s0, Int.le_trans h.s1 (by omega)⟩
theorem Inv.setT {n : Int} {s : St} {i : Nat} (h : Inv n s i) (who : Int) (hw : 1 ≤ who ∧ who ≤ n) (cs : List Cu) (hc : cs.length ≤ i + 1) : Inv n ⟨s.s, s.L, Mdl.setT s.T who cs⟩ (i + 1) :=
 ⟨h.rise, Nat.le_trans h.len (by omega), h.key, fun v => by
  show (Mdl.setT s.T who cs v).length ≤ i + 1
  unfold Mdl.setT
  split
  ·exact hc
  ·exact Nat.le_trans (h.t v) (by omega), fun v hv => by
  show Mdl.setT s.T who cs v = []
  unfold Mdl.setT
  rw [if_neg (by rintro rfl; exact hv hw)]
  exact h.t0 v hv, h.s0, Int.le_trans h.s1 (by omega)⟩
theorem next_len (chunk : Int) (L : Row) (cs : List Cu) (k : Int) : (nextV chunk L cs k).2.length = cs.length := by
 unfold nextV
 split
 ·rfl
 exact (took_tab _ _ _ _).2.1
theorem open_len (cs : List Cu) (f t : ByteArray) : (openV cs f t).1.length ≤ cs.length + 1 := by
 unfold openV
 split
 ·simp
 simp
theorem Inv.step {n : Int} {s : St} {i : Nat} (h : Inv n s i) (c : Cf) (who : Int) (o : Oq) (hb : o.b.length ≤ 20) (hk : ∀ x ∈ o.b, x.f2.size ≤ 140737488351232) : Inv n (doV c n s who o).2 (i + 1) := by
 unfold doV
 by_cases hw : who < 1 ∨ who > n
 ·rw [if_pos hw]; exact h.up (by omega)
 rw [if_neg hw]
 split
 ·exact h.up (by omega)
 split
 ·exact h.up (by omega)
 split
 ·obtain ⟨a, b⟩ := sends_rise o.b h.rise
  have hl := h.len
  have h1 := h.s1
  have h0 := h.s0
  exact ⟨a, by show (o.b.foldl sendV s.L).length ≤ _; omega, sends_key (P := fun b => b.size ≤ 140737488351232) o.b h.key hk, fun v => Nat.le_trans (h.t v) (by omega), h.t0, by show 0 ≤ s.s + 1; omega, by show s.s + 1 ≤ _; omega⟩
 split
 ·exact h.up (by omega)
 split
 ·exact h.setT who (by omega) _ (by have := open_len (s.T who) o.y o.t; have := h.t who; omega)
 split
 ·exact h.setT who (by omega) _ (by rw [next_len]; have := h.t who; omega)
 exact h.setT who (by omega) _ (by rw [(close_tab _ _).2.1]; have := h.t who; omega)
theorem Is_all (cs : List Cu) (n : Int) (hl : cs.length ≤ 1000000) : catchmentref27_Is.f cs n = some (tabF cs n).isSome := by
 by_cases h : 1 ≤ n ∧ n ≤ cs.length
 ·exact Is_eq cs n (by omega) (by omega) hl
 unfold catchmentref27_Is.f
 rw [tabF_out h]
 by_cases h2 : n ≥ 1
 ·rw [if_pos h2, if_neg (by omega)]; rfl
 rw [if_neg h2]; rfl
theorem Close_all (cs : List Cu) (n : Int) (hl : cs.length ≤ 1000000) : catchmentref27_Close.f cs n = some (closeC cs n) := by
 by_cases h : 1 ≤ n ∧ n ≤ cs.length
 ·exact Close_eq cs n (by omega) (by omega) hl
 unfold catchmentref27_Close.f closeC
 rw [Is_all cs n hl, tabF_out h]
 rfl
theorem someM_len (f t : ByteArray) (L : Row) (k : Int) : (someM f t L k).length ≤ L.length := by
 unfold someM
 rw [List.length_take]
 have := List.length_filter_le (fun x : ByteArray × ByteArray => holds f t x.1) L
 omega
theorem someM_key {P : ByteArray → Prop} {L : Row} (h : ∀ x ∈ L, P x.1) (f t : ByteArray) (k : Int) : ∀ x ∈ (someM f t L k).map toE, P x.f0 := by
 intro x hx
 obtain ⟨y, hy, rfl⟩ := List.mem_map.1 hx
 exact h y (List.mem_filter.1 (List.mem_of_mem_take hy)).1
theorem rn_any {Z : Nat → Prop} {w : World} {x tb : Nat} {c : Cf} {n : Int} {s : St} {i : Nat} (h : Rx Z w x tb c n s.s (s.L.map toE) (rowsOf n s.T)) (hi : Inv n s i) (hiB : i ≤ 4000) (h8 : 1 ≤ c.f8) (who : Int) (h1 : 1 ≤ who) (h2 : who ≤ n) (k : Int) (hk : k ≤ 9223372036854775807) :
  Calls Try.prog 71 #[.pointer (some ⟨x, 0, none⟩), .int .i64 who, .int .i64 k] w (Rd Z w x tb c n (nextV c.f8 s.L (s.T who) k).1 s.s (s.L.map toE) (rowsOf n (setT s.T who (nextV c.f8 s.L (s.T who) k).2))) := by
 have hl : ((rowsOf n s.T).length : Int) = n + 1 := by rw [rows_length]; omega
 have hrow := rows_at n s.T who (by omega) h2
 have ht := hi.t who
 have hL := hi.len
 unfold nextV
 cases hx : tabF (s.T who) k with
 | none =>
  simp only
  rw [setT_self]
  exact rn_no h who h1 h2 hl (s.T who) hrow k (by rw [Is_all _ _ (by omega), hx]; rfl)
 | some y =>
  obtain ⟨k1, k2, d, hd, hd2, rfl⟩ := tabF_some hx
  have er := took_ok hi.rise (s.T who) k c.f8 h8 _ hx (by omega)
  simp only
  rw [er]
  have hF : catchmentref27_Is.f (s.T who) k = some true := by rw [Is_all _ _ (by omega), hx]; rfl
  have e := rdC_at hd
  rw [show (((k - 1).toNat : Nat) : Int) = k - 1 by omega] at e
  rw [← rows_set n s.T who (by omega) h2]
  obtain ⟨⟨df, dt⟩, de, dc⟩ := d
  have hm := someM_len df dt s.L c.f8
  have hmk := someM_key (P := fun b => b.size ≤ 140737488351232) hi.key df dt c.f8
  cases hde : de with
  | true =>
   subst hde
   simp only [curX, if_true]
   have hT := Took_eq (s.T who) k [] c.f8 (by omega) (by omega) (by omega) (by simp) (by simp) 11 (by simp)
   exact rn_end h who h1 h2 hl (s.T who) hrow k hF k1 k2 (by omega) (by rw [e]) 11 (tookC (s.T who) k [] c.f8).1 (tookC (s.T who) k [] c.f8).2.1 (tookC (s.T who) k [] c.f8).2.2 hT
  | false =>
   subst hde
   simp only [curX, Bool.false_eq_true, if_false]
   have hT := Took_eq (s.T who) k ((someM df dt s.L c.f8).map toE) c.f8 (by omega) (by omega) (by omega) (by rw [List.length_map]; omega) hmk (2 * ((someM df dt s.L c.f8).map toE).length + 11) (by omega)
   have hS := Some_eq (2 * (s.L.map toE).length + 21) [] (s.L.map toE) df dt c.f8 (by simp) (by rw [List.length_map]; omega) (by simp) (by simp)
   rw [some_ref2 hi.rise] at hS
   exact rn_more h who h1 h2 hl (s.T who) hrow k hF k1 k2 (by omega) (by rw [e]) _ _ ((someM df dt s.L c.f8).map toE) (by rw [e]; exact hS) (tookC (s.T who) k ((someM df dt s.L c.f8).map toE) c.f8).1 (tookC (s.T who) k ((someM df dt s.L c.f8).map toE) c.f8).2.1 (tookC (s.T who) k ((someM df dt s.L c.f8).map toE) c.f8).2.2 hT
theorem rd_any {Z : Nat → Prop} {w : World} {x tb : Nat} {c : Cf} {n : Int} {s : St} {i : Nat} (h : Rx Z w x tb c n s.s (s.L.map toE) (rowsOf n s.T)) (hi : Inv n s i) (hiB : i ≤ 4000) (h8 : 1 ≤ c.f8) (hn : n ≤ 1000000) (who : Int) (o : Oq) {A : Option Addr} {cap : Nat} (hC : Kd.C P.k117 w A o.b.length o.b) (hcap : o.b.length ≤ cap) (hb : o.b.length ≤ 20) (hkey : ∀ x ∈ o.b, x.f2.size ≤ 140737488351232) (hD : ∀ x ∈ o.b, okD x) (hk : o.n ≤ 9223372036854775807) :
  Calls Try.prog 37 #[.pointer (some ⟨x, 0, none⟩), .int .i64 who, .agg #[.int .u8 o.k, .string o.y, .string o.t, .int .i64 o.n, .slice A o.b.length cap]] w (Rd Z w x tb c n (doV c n s who o).1 (doV c n s who o).2.s ((doV c n s who o).2.L.map toE) (rowsOf n (doV c n s who o).2.T)) := by
 by_cases hw : who < 1 ∨ who > n
 ·have e : doV c n s who o = (⟨2, false, e0, [], 0, false⟩, s) := by unfold doV; rw [if_pos hw]
  rw [e]
  exact rd_bad h who hw o
 have hask := Pm.ref_Ask_eq c.f0 c.f1 c.f2 c.f3 c.f4 c.f5 c.f6 c.f7 c.f8 0 o.k o.y o.t o.n o.b hkey (by omega)
 by_cases he : ¬ Pm.askV o.k o.y o.t o.n o.b c.f0 c.f1 c.f8 = 0
 ·have e : doV c n s who o = (⟨Pm.askV o.k o.y o.t o.n o.b c.f0 c.f1 c.f8, false, e0, [], 0, false⟩, s) := by unfold doV; rw [if_neg hw, if_pos he]
  rw [e]
  exact rd_err h who hw o hC hcap _ _ hask he
 have he0 : Pm.askV o.k o.y o.t o.n o.b c.f0 c.f1 c.f8 = 0 := Decidable.not_not.1 he
 rw [he0] at hask
 have h1 : 1 ≤ who := by omega
 have h2 : who ≤ n := by omega
 have hl : ((rowsOf n s.T).length : Int) = n + 1 := by rw [rows_length]; omega
 have hrow := rows_at n s.T who (by omega) h2
 have ht := hi.t who
 have hL := hi.len
 have hE : (s.L.map toE).length ≤ 100000 := by rw [List.length_map]; omega
 rcases ask_kind he0 with q | q | q | q | q | q
 ·have e : doV c n s who o = (⟨0, (gotL s.L o.y).2, (gotL s.L o.y).1, [], 0, false⟩, s) := by unfold doV; rw [if_neg hw, if_neg he, if_pos q]
  rw [e]
  exact rd_get h who hw o hC hcap _ _ hask q rfl ((s.L.map toE).length + 1) _ _ (by rw [Find_eq _ _ _ (by omega) (by omega), find_ref])
 ·have e : doV c n s who o = (⟨0, false, e0, [], 0, false⟩, ⟨s.s + 1, o.b.foldl sendV s.L, s.T⟩) := by unfold doV; rw [if_neg hw, if_neg he, if_neg (by omega), if_pos q]
  rw [e]
  have h0 := hi.s0
  have h1 := hi.s1
  refine rd_send h who hw o hC hcap _ _ hask q rfl h0 (by omega) (2 * o.b.length + 2 * (s.L.map toE).length + 21) _ ?_
  rw [Entries_eq _ o.b (s.L.map toE) e0 e0 (by omega) hE hD (by omega), ents_send o.b hi.rise]
 ·have e : doV c n s who o = (⟨0, false, e0, (someM o.y o.t s.L o.n).map toE, 0, false⟩, s) := by unfold doV; rw [if_neg hw, if_neg he, if_neg (by omega), if_neg (by omega), if_pos q]
  rw [e]
  refine rd_look h who hw o hC hcap _ _ hask q rfl (2 * ([] : List Ms).length + 2 * (s.L.map toE).length + 21) _ ?_
  rw [Some_eq _ [] (s.L.map toE) o.y o.t o.n (by simp) hE (by simp) (by omega), some_ref2 hi.rise]
 ·have e : doV c n s who o = (⟨(openV (s.T who) o.y o.t).2.2, false, e0, [], (openV (s.T who) o.y o.t).2.1, false⟩, ⟨s.s, s.L, setT s.T who (openV (s.T who) o.y o.t).1⟩) := by unfold doV; rw [if_neg hw, if_neg he, if_neg (by omega), if_neg (by omega), if_neg (by omega), if_pos q]
  rw [e]
  have hz : (openV (s.T who) o.y o.t).2.2 = 0 := by
   have hr : rr o.y o.t = true := by
    unfold Pm.askV at he0
    rw [q] at he0
    cases hr : rr o.y o.t with
    | true => rfl
    | false =>
     have hr2 : Pm.rr o.y o.t = false := hr
     rw [hr2] at he0
     revert he0
     split
     ·intro q; cases q
     rw [if_neg (by omega), if_neg (by omega), if_pos (.inr rfl)]
     split
     ·intro q; cases q
     intro q; cases q
   unfold openV
   rw [rr_cur, if_pos hr]
  rw [hz]
  simp only
  rw [← rows_set n s.T who (by omega) h2]
  exact rd_open h who hw o hC hcap _ _ hask q rfl hl hn (s.T who) hrow (openV (s.T who) o.y o.t).1 (openV (s.T who) o.y o.t).2.1 (openV (s.T who) o.y o.t).2.2 (by rw [Open_eq _ _ _ (by omega)])
 ·have e : doV c n s who o = ((nextV c.f8 s.L (s.T who) o.n).1, ⟨s.s, s.L, setT s.T who (nextV c.f8 s.L (s.T who) o.n).2⟩) := by unfold doV; rw [if_neg hw, if_neg he, if_neg (by omega), if_neg (by omega), if_neg (by omega), if_neg (by omega), if_pos q]
  rw [e]
  exact rd_next h who hw o hC hcap _ _ hask q rfl _ _ (fun W hW => rn_any hW hi hiB h8 who h1 h2 o.n hk)
 have e : doV c n s who o = (⟨(closeC (s.T who) o.n).2, false, e0, [], 0, false⟩, ⟨s.s, s.L, setT s.T who (closeC (s.T who) o.n).1⟩) := by unfold doV; rw [if_neg hw, if_neg he, if_neg (by omega), if_neg (by omega), if_neg (by omega), if_neg (by omega), if_neg (by omega)]
 rw [e]
 simp only
 rw [← rows_set n s.T who (by omega) h2]
 exact rd_close h who hw o hC hcap _ _ hask q rfl hl hn (s.T who) hrow _ _ (by rw [Close_all _ _ (by omega)])
end Go.Proofs.Ytljnlnbopohghaa.Mdl
end
section
namespace Go.Proofs.Ytljnlnbopohghaa.Mdl
open Go.RowKit Go.Shelf Go.Proofs.YtljnlnbopohghaaW.PrintWords Go.Proofs.YtljnlnbopohghaaW.PrintLast Go.Proofs.YtljnlnbopohghaaW.PrintMore Go.Proofs.Ytljnlnbopohghaa.Own Go.Proofs.Ytljnlnbopohghaa.Ord Go.Proofs.Ytljnlnbopohghaa Go.Proofs.Ytljnlnbopohghaa.P
set_option maxHeartbeats 2000000
set_option maxRecDepth 100000
abbrev repA (r : Rp) (A : Option Addr) (cp : Nat) : Value := .agg #[.int .i64 r.e, .bool r.fd, .string r.v, .slice A r.l.length cp, .int .i64 r.n, .bool r.fin]
def Dq (G G' : Nat → Nat) (w : World) (m : Nat) (c : Cf) (n : Int) (N : Nat) (r : Rp) (s : St) (A : Option Addr) (cp : Nat) (w' : World) : Prop :=
 (∀ k, k < w.heap.size → G' k = G k) ∧ Mw G' w' m c n s.s s.L s.T N ∧ It.FrM (fun k => G k ≠ 0) w w' ∧ Kd.V P.k103 103 w' 0 (fun k => w.heap.size ≤ k ∧ k < w'.heap.size ∧ G' k = 0) (.slice A r.l.length cp) r.l
def Dd (G : Nat → Nat) (w : World) (m : Nat) (c : Cf) (n : Int) (N : Nat) (r : Rp) (s : St) (A : Option Addr) (cp : Nat) (w' : World) : Prop := ∃ G', Dq G G' w m c n N r s A cp w'
theorem do_dd {G : Nat → Nat} {w : World} {m : Nat} {c : Cf} {n : Int} {s : St} {N : Nat} (h : Mw G w m c n s.s s.L s.T N) (who : Int) (o : Oq) (hk : Okd n s who o N) {A : Option Addr} {cap : Nat} (hC : ∀ W, It.FrM (fun k => G k ≠ 0) w W → Kd.C P.k117 W A o.b.length o.b) (hcap : o.b.length ≤ cap) {r : Rp} {s' : St} (e : doV c n s who o = (r, s')) :
  Calls Try.prog 23 #[.pointer (some ⟨m, 0, none⟩), .int .i64 who, .agg #[.int .u8 o.k, .string o.y, .string o.t, .int .i64 o.n, .slice A o.b.length cap]] w fun x w' => ∃ B cp, x = .returned (repA r B cp) ∧ Dd G w m c n (N + 2) r s' B cp w' := by
 refine (do_any h who o hk hC hcap).mono ?_
 rintro x w' ⟨v, rfl, G', h1, h2, h3, B, cp, rfl, h4⟩
 rw [e] at h2 h4 ⊢
 exact ⟨B, cp, rfl, G', h1, h2, h3, h4⟩
theorem do_bare {G : Nat → Nat} {w : World} {m : Nat} {c : Cf} {n : Int} {s : St} {N : Nat} (h : Mw G w m c n s.s s.L s.T N) (who k nn : Int) (y t : ByteArray) (hk : Okd n s who ⟨k, y, t, nn, []⟩ N) {r : Rp} {s' : St} (e : doV c n s who ⟨k, y, t, nn, []⟩ = (r, s')) :
  Calls Try.prog 23 #[.pointer (some ⟨m, 0, none⟩), .int .i64 who, .agg #[.int .u8 k, .string y, .string t, .int .i64 nn, .slice none 0 0]] w fun x w' => ∃ B cp, x = .returned (repA r B cp) ∧ Dd G w m c n (N + 2) r s' B cp w' :=
 do_dd h who ⟨k, y, t, nn, []⟩ hk (A := none) (cap := 0) (fun W _ => Kd.C_nil _ W) (Nat.le_refl 0) e
def c0 : Cf := ⟨2, 8, 4, 0, 4, 2, 4, 0, 1⟩
abbrev sa : ByteArray := ⟨#[97]⟩
abbrev sb : ByteArray := ⟨#[98]⟩
abbrev s1 : ByteArray := ⟨#[49]⟩
abbrev s2 : ByteArray := ⟨#[50]⟩
def b0 : List Ms := [⟨1, 0, sa, ⟨#[]⟩, s1, 0⟩, ⟨1, 0, sb, ⟨#[]⟩, s2, 0⟩]
def T0 : Int → List Cu := fun _ => []
def L1 : Row := [(sa, s1), (sb, s2)]
def k1 : List Cu := [⟨⟨⟨#[]⟩, ⟨#[]⟩⟩, false, false⟩]
def k2 : List Cu := [⟨⟨⟨#[97, 0]⟩, ⟨#[]⟩⟩, false, false⟩]
def k3 : List Cu := [⟨⟨⟨#[98, 0]⟩, ⟨#[]⟩⟩, false, false⟩]
theorem lv1 : doV c0 1 ⟨0, [], T0⟩ 1 ⟨2, ⟨#[]⟩, ⟨#[]⟩, 0, b0⟩ = (⟨0, false, ⟨#[]⟩, [], 0, false⟩, ⟨1, L1, T0⟩) := by kernel_rfl
theorem lv2 : doV c0 1 ⟨1, L1, T0⟩ 1 ⟨4, ⟨#[]⟩, ⟨#[]⟩, 0, []⟩ = (⟨0, false, ⟨#[]⟩, [], 1, false⟩, ⟨1, L1, setT T0 1 k1⟩) := by kernel_rfl
def T1 : Int → List Cu := setT T0 1 k1
def T2 : Int → List Cu := setT T1 1 k2
def T3 : Int → List Cu := setT T2 1 k3
def k4 : List Cu := [⟨⟨⟨#[]⟩, ⟨#[]⟩⟩, true, false⟩]
def T4 : Int → List Cu := setT T3 1 k4
theorem lv3 : doV c0 1 ⟨1, L1, T1⟩ 1 ⟨5, ⟨#[]⟩, ⟨#[]⟩, 1, []⟩ = (⟨0, false, ⟨#[]⟩, [⟨sa, s1⟩], 0, false⟩, ⟨1, L1, T2⟩) := by kernel_rfl
theorem lv4 : doV c0 1 ⟨1, L1, T2⟩ 1 ⟨5, ⟨#[]⟩, ⟨#[]⟩, 1, []⟩ = (⟨0, false, ⟨#[]⟩, [⟨sb, s2⟩], 0, false⟩, ⟨1, L1, T3⟩) := by kernel_rfl
theorem lv5 : doV c0 1 ⟨1, L1, T3⟩ 1 ⟨5, ⟨#[]⟩, ⟨#[]⟩, 1, []⟩ = (⟨0, false, ⟨#[]⟩, [], 0, true⟩, ⟨1, L1, T4⟩) := by kernel_rfl
theorem lk (k : Int) (s : St) (N : Nat) (b : List Ms) (h0 : 0 ≤ k) (h1 : k ≤ 255) (hb : b.length ≤ 2) (hb2 : ∀ x ∈ b, x.f2.size ≤ 1) (hs0 : 0 ≤ s.s) (hs1 : s.s ≤ 1) (hL : s.L.length ≤ 2) (hL2 : ∀ x ∈ s.L, x.1.size ≤ 1) (hT : (s.T 1).length ≤ 1) (hN : N ≤ 10) (nn : Int) (hn : 0 ≤ nn ∧ nn ≤ 1) : Okd 1 s 1 ⟨k, ⟨#[]⟩, ⟨#[]⟩, nn, b⟩ N :=
 ⟨by omega, h0, h1, Cur.wf_small (by show _ ≤ nn; omega) (by show nn ≤ _; omega), by show b.length ≤ _; omega, fun x hx => by have := hb2 x hx; omega, hs0, by omega, by omega, fun x hx => by have := hL2 x hx; omega, by omega, by omega⟩
abbrev objB : Obj := .cells #[.int .u8 1, .int .i64 0, .string sa, .string ⟨#[]⟩, .string s1, .int .u64 0, .int .u8 1, .int .i64 0, .string sb, .string ⟨#[]⟩, .string s2, .int .u64 0] 117 (0, 0)
theorem b0_reads {W : World} {b : Nat} (h : W.heap[b]? = some objB) : Kd.C P.k117 W (some ⟨b, 0, none⟩) 2 b0 := by
 refine ⟨rfl, by decide, fun _ => ⟨_, rfl, fun j p hp => ?_⟩⟩
 match j, hp with
 | 0, hp =>
  cases hp
  refine ⟨_, rfl, P.k117_mk W _, fun i u hu => ?_⟩
  match i, hu with
  | 0, hu => cases hu; exact blk_cell h 0
  | 1, hu => cases hu; exact blk_cell h 1
  | 2, hu => cases hu; exact blk_cell h 2
  | 3, hu => cases hu; exact blk_cell h 3
  | 4, hu => cases hu; exact blk_cell h 4
  | 5, hu => cases hu; exact blk_cell h 5
 | 1, hp =>
  cases hp
  refine ⟨_, rfl, P.k117_mk W _, fun i u hu => ?_⟩
  match i, hu with
  | 0, hu => cases hu; exact blk_cell h 6
  | 1, hu => cases hu; exact blk_cell h 7
  | 2, hu => cases hu; exact blk_cell h 8
  | 3, hu => cases hu; exact blk_cell h 9
  | 4, hu => cases hu; exact blk_cell h 10
  | 5, hu => cases hu; exact blk_cell h 11
theorem keepZ {G G' : Nat → Nat} {W W' : World} {k : Nat} {o : Obj} (hG : ∀ j, j < W.heap.size → G' j = G j) (hf : It.FrM (fun j => G j ≠ 0) W W') (h0 : G k = 0) (hb : W.heap[k]? = some o) : W'.heap[k]? = some o ∧ G' k = 0 :=
 ⟨hf.blk hb (by rw [h0]; simp), (hG k (blk_lt hb)).trans h0⟩
theorem keepV {G G' : Nat → Nat} {W W' : World} {Z : Nat → Prop} {v : Value} {xs : List En} (hG : ∀ j, j < W.heap.size → G' j = G j) (hf : It.FrM (fun j => G j ≠ 0) W W') (h0 : ∀ k, Z k → k < W.heap.size ∧ G k = 0) (hV : Kd.V P.k103 103 W 0 Z v xs) : Kd.V P.k103 103 W' 0 Z v xs ∧ ∀ k, Z k → k < W'.heap.size ∧ G' k = 0 :=
 ⟨Kd.V_step hV (fun j hj hjl => hf.block j hjl (by rw [(h0 j hj).2]; simp)), fun k hk => ⟨Nat.lt_of_lt_of_le (h0 k hk).1 hf.size, (hG k (h0 k hk).1).trans (h0 k hk).2⟩⟩
abbrev objR (r : Rp) (A : Option Addr) (cp : Nat) : Obj := .cells #[.int .i64 r.e, .bool r.fd, .string r.v, .slice A r.l.length cp, .int .i64 r.n, .bool r.fin] 59 (0, 0)
abbrev r1 : Rp := ⟨0, false, ⟨#[]⟩, [], 0, false⟩
abbrev r2 : Rp := ⟨0, false, ⟨#[]⟩, [], 1, false⟩
abbrev r3 : Rp := ⟨0, false, ⟨#[]⟩, [⟨sa, s1⟩], 0, false⟩
abbrev r4 : Rp := ⟨0, false, ⟨#[]⟩, [⟨sb, s2⟩], 0, false⟩
abbrev r5 : Rp := ⟨0, false, ⟨#[]⟩, [], 0, true⟩
theorem chk0 : room_Check.f c0.f0 c0.f1 c0.f2 c0.f3 c0.f4 c0.f5 c0.f6 c0.f7 c0.f8 = some 0 := by kernel_rfl
theorem below_of_frm {G : Nat → Nat} {w W W' : World} (h0 : ∀ k, k < w.heap.size → G k = 0) (hB : Below w.heap.size w W) (hf : It.FrM (fun j => G j ≠ 0) W W') : Below w.heap.size w W' :=
 ⟨hf.os.trans hB.os, hf.tape.trans hB.tape, hf.output.trans hB.output, Nat.le_trans hB.size hf.size, fun k hk => (hf.block k (Nat.lt_of_lt_of_le hk hB.size) (by rw [h0 k hk]; simp)).trans (hB.block k hk)⟩
theorem belowF {G G' : Nat → Nat} {w W W' : World} (h0 : ∀ k, k < w.heap.size → G k = 0) (hB : Below w.heap.size w W) (hG : ∀ j, j < W.heap.size → G' j = G j) (hf : It.FrM (fun j => G j ≠ 0) W W') : Below w.heap.size w W' ∧ ∀ k, k < w.heap.size → G' k = 0 :=
 ⟨below_of_frm h0 hB hf, fun k hk => (hG k (Nat.lt_of_lt_of_le hk hB.size)).trans (h0 k hk)⟩
def LiveE (w : World) (m : Nat) (G6 : Nat → Nat) (a3 a4 a5 a6 : Nat) (B4 B5 B6 : Option Addr) (cp4 cp5 cp6 : Nat) (F : World) : Prop :=
 (∃ ad, B4 = some ad ∧ F.cell? ad = some (.string sa) ∧ F.cell? ⟨ad.block, ad.off + 1, none⟩ = some (.string s1)) ∧
 F.cell? ⟨a3, 4, none⟩ = some (.int .i64 1) ∧ F.cell? ⟨a4, 3, none⟩ = some (.slice B4 1 cp4) ∧ F.cell? ⟨a4, 5, none⟩ = some (.bool false) ∧ F.cell? ⟨a5, 3, none⟩ = some (.slice B5 1 cp5) ∧ F.cell? ⟨a5, 5, none⟩ = some (.bool false) ∧ F.cell? ⟨a6, 3, none⟩ = some (.slice B6 0 cp6) ∧ F.cell? ⟨a6, 5, none⟩ = some (.bool true) ∧ (∃ N, Mw G6 F m c0 1 1 L1 T4 N) ∧ Below w.heap.size w F
theorem live_end {w w1 w2 w3 w4 w5 w6 : World} {m N1 N2 N3 N4 N5 cp2 cp3 cp4 cp5 cp6 : Nat} {G G2 G3 G4 G5 G6 : Nat → Nat} {B2 B3 B4 B5 B6 : Option Addr} (a0 : ∀ k, k < w.heap.size → G k = 0) (a1 : Below w.heap.size w w1)
  (d1 : Dq G G2 (w1.alloc objB) m c0 1 N1 r1 ⟨1, L1, T0⟩ B2 cp2 w2) (d2 : Dq G2 G3 w2 m c0 1 N2 r2 ⟨1, L1, T1⟩ B3 cp3 w3)
  (d3 : Dq G3 G4 (w3.alloc (objR r2 B3 cp3)) m c0 1 N3 r3 ⟨1, L1, T2⟩ B4 cp4 w4) (d4 : Dq G4 G5 (w4.alloc (objR r3 B4 cp4)) m c0 1 N4 r4 ⟨1, L1, T3⟩ B5 cp5 w5) (d5 : Dq G5 G6 (w5.alloc (objR r4 B5 cp5)) m c0 1 N5 r5 ⟨1, L1, T4⟩ B6 cp6 w6) :
  LiveE w m G6 w3.heap.size w4.heap.size w5.heap.size w6.heap.size B4 B5 B6 cp4 cp5 cp6 (w6.alloc (objR r5 B6 cp6)) := by
 have A := fun (W : World) (o : Obj) => below_alloc (Below.refl W.heap.size W) o
 obtain ⟨b1, z1⟩ := belowF a0 (below_alloc a1 _) d1.1 d1.2.2.1
 obtain ⟨b2, z2⟩ := belowF z1 b1 d2.1 d2.2.2.1
 obtain ⟨b3, z3⟩ := belowF z2 (below_alloc b2 _) d3.1 d3.2.2.1
 obtain ⟨b4, z4⟩ := belowF z3 (below_alloc b3 _) d4.1 d4.2.2.1
 obtain ⟨b5, z5⟩ := belowF z4 (below_alloc b4 _) d5.1 d5.2.2.1
 obtain ⟨p4, q4⟩ := keepZ d3.1 d3.2.2.1 (g0 d2.2.1.1 _ (Nat.le_refl _)) (blk_new w3 (objR r2 B3 cp3))
 obtain ⟨p5, q5⟩ := keepZ d4.1 d4.2.2.1 q4 (blk_alloc p4 _)
 obtain ⟨p6, q6⟩ := keepZ d5.1 d5.2.2.1 q5 (blk_alloc p5 _)
 have p7 := blk_alloc p6 (objR r5 B6 cp6)
 obtain ⟨u5, v5⟩ := keepZ d4.1 d4.2.2.1 (g0 d3.2.1.1 _ (Nat.le_refl _)) (blk_new w4 (objR r3 B4 cp4))
 obtain ⟨u6, v6⟩ := keepZ d5.1 d5.2.2.1 v5 (blk_alloc u5 _)
 have u7 := blk_alloc u6 (objR r5 B6 cp6)
 obtain ⟨t6, x6⟩ := keepZ d5.1 d5.2.2.1 (g0 d4.2.1.1 _ (Nat.le_refl _)) (blk_new w5 (objR r4 B5 cp5))
 have t7 := blk_alloc t6 (objR r5 B6 cp6)
 have y7 := blk_new w6 (objR r5 B6 cp6)
 obtain ⟨V5, Z5⟩ := keepV d4.1 d4.2.2.1 (fun k hk => ⟨Nat.lt_of_lt_of_le hk.2.1 (A w4 (objR r3 B4 cp4)).size, hk.2.2⟩) (Kd.V_alloc d3.2.2.2 (objR r3 B4 cp4))
 obtain ⟨V6, Z6⟩ := keepV d5.1 d5.2.2.1 (fun k hk => ⟨Nat.lt_of_lt_of_le (Z5 k hk).1 (A w5 (objR r4 B5 cp5)).size, (Z5 k hk).2⟩) (Kd.V_alloc V5 (objR r4 B5 cp5))
 have C7 := (Kd.V_reads' (Kd.V_alloc V6 (objR r5 B6 cp6))).2.2
 obtain ⟨ad, x, e, hx, c0_, c1_⟩ := at_E C7 0 (by decide) (by decide)
 cases hx
 have ea : ad.add ((0 : Int).toNat * 2) = ad := by show ad.add 0 = ad; simp [Addr.add]
 rw [ea] at c0_ c1_
 exact ⟨⟨ad, e, c0_, c1_⟩, blk_cell p7 4, blk_cell u7 3, blk_cell u7 5, blk_cell t7 3, blk_cell t7 5, blk_cell y7 3, blk_cell y7 5, ⟨N5, d5.2.1.below (A _ _)⟩, below_alloc b5 _⟩
attribute [local go_sem high] P.eqA103
theorem live_any (w : World) : Calls Try.prog 21 #[] w fun e w' => e = .returned (.bool true) ∧ Below w.heap.size w w' := by
 have hup := Try.underlying59
 have huo := Try.underlying56
 have hux := Try.underlying117
 have hue := Try.underlying103
 have huc := Try.underlying47
 have NW := new_ok w c0 1 chk0 (by omega) (by omega)
 have NW2 : Calls Try.prog 34 #[.agg #[.int .i64 2, .int .i64 8, .int .i64 4, .int .i64 0, .int .i64 4, .int .i64 2, .int .i64 4, .int .i64 0, .int .i64 1], .int .i64 1] w (NewV w c0 1) := NW
 clear NW
 go_enter Try.func21, Try.ntmps21
 go_wp2_with (first
  | (go_at_call 34; refine NW2.mono ?_; clear NW2; rintro e w1 ⟨m, G, rfl, hM1, hG1, hB1⟩; have bB := blk_new w1 objB; have z1 := g0 hM1.1 _ (Nat.le_refl _); have D1 := do_dd (w := w1.alloc objB) (s := ⟨0, [], T0⟩) (hM1.below (below_alloc (Below.refl _ _) _)) 1 ⟨2, ⟨#[]⟩, ⟨#[]⟩, 0, b0⟩ (lk _ _ _ _ (by decide) (by decide) (by decide) (by decide) (by decide) (by decide) (by decide) (by decide) (by decide) (by decide) _ (by decide)) (A := some ⟨w1.heap.size, 0, none⟩) (cap := 2) (fun W f => b0_reads (f.blk bB (by rw [z1]; simp))) (Nat.le_refl 2) lv1; have hA1 := aK_ (And.intro hM1 (And.intro hG1 hB1)); clear hM1 hG1 hB1 z1 bB)
  | (go_at_call 23; refine D1.mono ?_; clear D1; rintro e w2 ⟨B2, cp2, rfl, G2, hD2⟩; have D2 := do_bare (s := ⟨1, L1, T0⟩) hD2.2.1 1 4 0 ⟨#[]⟩ ⟨#[]⟩ (lk _ _ _ _ (by decide) (by decide) (by decide) (by decide) (by decide) (by decide) (by decide) (by decide) (by decide) (by decide) _ (by decide)) lv2; have hA2 := aK_ hD2; clear hD2)
  | (go_at_call 23; refine D2.mono ?_; clear D2; rintro e w3 ⟨B3, cp3, rfl, G3, hD3⟩; have D3 := do_bare (w := w3.alloc (objR r2 B3 cp3)) (s := ⟨1, L1, T1⟩) (hD3.2.1.below (below_alloc (Below.refl _ _) _)) 1 5 1 ⟨#[]⟩ ⟨#[]⟩ (lk _ _ _ _ (by decide) (by decide) (by decide) (by decide) (by decide) (by decide) (by decide) (by decide) (by decide) (by decide) _ (by decide)) lv3; have hA3 := aK_ hD3; clear hD3)
  | (go_at_call 23; refine D3.mono ?_; clear D3; rintro e w4 ⟨B4, cp4, rfl, G4, hD4⟩; have D4 := do_bare (w := w4.alloc (objR r3 B4 cp4)) (s := ⟨1, L1, T2⟩) (hD4.2.1.below (below_alloc (Below.refl _ _) _)) 1 5 1 ⟨#[]⟩ ⟨#[]⟩ (lk _ _ _ _ (by decide) (by decide) (by decide) (by decide) (by decide) (by decide) (by decide) (by decide) (by decide) (by decide) _ (by decide)) lv4; have hA4 := aK_ hD4; clear hD4)
  | (go_at_call 23; refine D4.mono ?_; clear D4; rintro e w5 ⟨B5, cp5, rfl, G5, hD5⟩; have D5 := do_bare (w := w5.alloc (objR r4 B5 cp5)) (s := ⟨1, L1, T3⟩) (hD5.2.1.below (below_alloc (Below.refl _ _) _)) 1 5 1 ⟨#[]⟩ ⟨#[]⟩ (lk _ _ _ _ (by decide) (by decide) (by decide) (by decide) (by decide) (by decide) (by decide) (by decide) (by decide) (by decide) _ (by decide)) lv5; have hA5 := aK_ hD5; clear hD5)
  | (go_at_call 23; refine D5.mono ?_; clear D5; rintro e w6 ⟨B6, cp6, rfl, G6, hD6⟩; have hE : LiveE w m G6 w3.heap.size w4.heap.size w5.heap.size w6.heap.size B4 B5 B6 cp4 cp5 cp6 (w6.alloc (.cells #[.int .i64 0, .bool false, .string ⟨#[]⟩, .slice B6 0 cp6, .int .i64 0, .bool true] 59)) := live_end hA1.out.2.1 hA1.out.2.2 hA2.out hA3.out hA4.out hA5.out hD6; clear hA2 hA3 hA4 hA5 hD6; obtain ⟨⟨ad, rfl, k0, k1⟩, k2, k3, k4, k5, k6, k7, k8, ⟨N6, hM6⟩, hBF⟩ := hE; have SN := sends_any hM6; have hBA := aK_ hBF; clear hBF hM6)
  | (go_at_call 26; refine SN.mono ?_; clear SN; rintro e w7 ⟨rfl, rfl⟩)
  | (refine ⟨trivial, ?_⟩))
 go_ret
 exact ⟨rfl, hBA.out⟩
end Go.Proofs.Ytljnlnbopohghaa.Mdl
end
