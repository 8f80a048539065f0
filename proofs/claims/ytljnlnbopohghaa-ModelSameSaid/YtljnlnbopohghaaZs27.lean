/- Texts of one claim (laid by shake.py). -/
import Derived.Test.YtljnlnbopohghaaZs26
set_option linter.unusedVariables false
set_option linter.unusedSimpArgs false
section
namespace Go.Proofs.Ytljnlnbopohghaa.Mdl
open Go.RowKit Go.Shelf Go.Proofs.YtljnlnbopohghaaW.PrintWords Go.Proofs.YtljnlnbopohghaaW.PrintLast Go.Proofs.YtljnlnbopohghaaW.PrintMore Go.Proofs.Ytljnlnbopohghaa.Own Go.Proofs.Ytljnlnbopohghaa.Ord Go.Proofs.Ytljnlnbopohghaa Go.Proofs.Ytljnlnbopohghaa.P
open Go.Proofs.Ytljnlnbopohghaa.OrdSm (Hold hold_get)
set_option maxHeartbeats 2000000
set_option maxRecDepth 100000
theorem do_look {G : Nat → Nat} {w : World} {m : Nat} {c : Cf} {n sends : Int} {L : Row} {T : Int → List Cu} {N : Nat} (h : Mw G w m c n sends L T N) (who : Int) (hw : ¬ (who < 1 ∨ who > n)) (o : Oq) {A : Option Addr} {cap : Nat} (hC : Kd.C P.k117 w A o.b.length o.b) (hcap : o.b.length ≤ cap) (ka : Nat) (e : Int) (hask : room_Ask.f ka o.k o.y o.t o.n o.b c.f0 c.f1 c.f2 c.f3 c.f4 c.f5 c.f6 c.f7 c.f8 = some e) (hk : o.k = 3) (he : e = 0) (hl : L.length ≤ 1000000) :
  Calls Try.prog 23 #[.pointer (some ⟨m, 0, none⟩), .int .i64 who, .agg #[.int .u8 o.k, .string o.y, .string o.t, .int .i64 o.n, .slice A o.b.length cap]] w (Md G w m c n N ⟨0, false, e0, (someM o.y o.t L o.n).map toE, 0, false⟩ sends L T) := by
 have hup := Try.underlying59
 have huo := Try.underlying56
 have hum := Try.underlying122
 have huc := Try.underlying47
 have hur := Try.underlying29
 obtain ⟨hlt, em, cb, nn, F, B, hx⟩ := h
 obtain ⟨ok, oy, ot, on, ob⟩ := o
 have hk : ok = 3 := hk
 subst hk
 subst he
 have q0 : (((0 : Int)) == 0) = true := rfl
 have hB0 : Below w.heap.size w ((w.alloc (objO ⟨3, oy, ot, on, ob⟩ A cap)).alloc rep0) := below_alloc (below_alloc (Below.refl _ _) _) _
 have bO : ((w.alloc (objO ⟨3, oy, ot, on, ob⟩ A cap)).alloc rep0).heap[w.heap.size]? = some (objO ⟨3, oy, ot, on, ob⟩ A cap) := blk_alloc (blk_new w _) _
 have bD : ((w.alloc (objO ⟨3, oy, ot, on, ob⟩ A cap)).alloc rep0).heap[w.heap.size + 1]? = some rep0 := by have := blk_new (w.alloc (objO ⟨3, oy, ot, on, ob⟩ A cap)) rep0; rwa [World.size_alloc] at this
 have hsz2 : ((w.alloc (objO ⟨3, oy, ot, on, ob⟩ A cap)).alloc rep0).heap.size = w.heap.size + 2 := by simp
 have x9 := blk_cell (blk_below hx.hm hB0) 9
 simp at x9
 have d0 := decide_eq_false (show ¬ who < 1 by omega)
 have d1 := decide_eq_false (show ¬ who > n by omega)
 have hA := Aside0.mk (And.intro hx (And.intro hB0 (And.intro bO (And.intro bD (And.intro hC (And.intro hcap (And.intro hsz2 hask)))))))
 clear hx hB0 bO bD hC hcap hsz2 hask
 go_enter Try.func23, Try.ntmps23
 go_wp2
 obtain ⟨hx, hB0, bO, bD, hC, hcap, hsz2, hask⟩ := hA.out
 generalize (w.alloc (objO ⟨3, oy, ot, on, ob⟩ A cap)).alloc rep0 = w2 at hB0 bO bD hsz2 ⊢
 have hB0d := below_drew1 hB0
 have hm2 : w2.drew.heap[m]? = _ := blk_below hx.hm hB0d
 have bO2 : w2.drew.heap[w.heap.size]? = _ := bO
 have o0 := blk_cell bO2 0
 have o1 := blk_cell bO2 1
 have o2 := blk_cell bO2 2
 have o3 := blk_cell bO2 3
 have o4 := blk_cell bO2 4
 have c0 := blk_cell hm2 0
 have c1 := blk_cell hm2 1
 have c2 := blk_cell hm2 2
 have c3 := blk_cell hm2 3
 have c4 := blk_cell hm2 4
 have c5 := blk_cell hm2 5
 have c6 := blk_cell hm2 6
 have c7 := blk_cell hm2 7
 have c8 := blk_cell hm2 8
 simp at o0 o1 o2 o3 o4 c0 c1 c2 c3 c4 c5 c6 c7 c8
 have AK := room_Ask.calls ka 3 oy ot on A cap ob c.f0 c.f1 c.f2 c.f3 c.f4 c.f5 c.f6 c.f7 c.f8 0 w2.drew (Kd.C_below hC hB0d) hcap hask
 have AK2 := AK.mono (R' := fun x w' => x = .returned (.int .i64 0) ∧ (w'.cell? ⟨w.heap.size, 0, none⟩ = some (.int .u8 3) ∧ w'.cell? ⟨w.heap.size, 1, none⟩ = some (.string oy) ∧ w'.cell? ⟨w.heap.size, 2, none⟩ = some (.string ot) ∧ w'.cell? ⟨w.heap.size, 3, none⟩ = some (.int .i64 on) ∧ w'.cell? ⟨w.heap.size, 4, none⟩ = some (.slice A ob.length cap) ∧ w'.cell? ⟨m, 0, none⟩ = some (.int .i64 c.f0) ∧ w'.cell? ⟨m, 1, none⟩ = some (.int .i64 c.f1) ∧ w'.cell? ⟨m, 2, none⟩ = some (.int .i64 c.f2) ∧ w'.cell? ⟨m, 3, none⟩ = some (.int .i64 c.f3) ∧ w'.cell? ⟨m, 4, none⟩ = some (.int .i64 c.f4) ∧ w'.cell? ⟨m, 5, none⟩ = some (.int .i64 c.f5) ∧ w'.cell? ⟨m, 6, none⟩ = some (.int .i64 c.f6) ∧ w'.cell? ⟨m, 7, none⟩ = some (.int .i64 c.f7) ∧ w'.cell? ⟨m, 8, none⟩ = some (.int .i64 c.f8)) ∧ Aside0 (Below w.heap.size w w' ∧ w2.heap.size ≤ w'.heap.size ∧ w'.heap[w.heap.size + 1]? = some rep0 ∧ w'.heap[w.heap.size]? = some (objO ⟨3, oy, ot, on, ob⟩ A cap))) (by
  rintro x w' ⟨rfl, hb⟩
  have hm5 := blk_below hm2 hb
  have bO5 := blk_below bO2 hb
  have o0 := blk_cell bO5 0
  have o1 := blk_cell bO5 1
  have o2 := blk_cell bO5 2
  have o3 := blk_cell bO5 3
  have o4 := blk_cell bO5 4
  have c0 := blk_cell hm5 0
  have c1 := blk_cell hm5 1
  have c2 := blk_cell hm5 2
  have c3 := blk_cell hm5 3
  have c4 := blk_cell hm5 4
  have c5 := blk_cell hm5 5
  have c6 := blk_cell hm5 6
  have c7 := blk_cell hm5 7
  have c8 := blk_cell hm5 8
  simp at o0 o1 o2 o3 o4 c0 c1 c2 c3 c4 c5 c6 c7 c8
  have bD5 := blk_below (show w2.drew.heap[w.heap.size + 1]? = some rep0 from bD) hb
  exact ⟨rfl, ⟨o0, o1, o2, o3, o4, c0, c1, c2, c3, c4, c5, c6, c7, c8⟩, ⟨below_then hB0d hB0d.size hb, hb.size, bD5, bO5⟩⟩)
 have hA2 := Aside0.mk hsz2
 clear AK hB0d hm2 bO2 hx hB0 bO bD hC hcap hsz2 hask
 go_region_held3 (fun w' => w'.cell? ⟨w.heap.size, 0, none⟩ = some (.int .u8 3) ∧ w'.cell? ⟨w.heap.size, 1, none⟩ = some (.string oy) ∧ w'.cell? ⟨w.heap.size, 2, none⟩ = some (.string ot) ∧ w'.cell? ⟨w.heap.size, 3, none⟩ = some (.int .i64 on) ∧ w'.cell? ⟨w.heap.size, 4, none⟩ = some (.slice A ob.length cap) ∧ w'.cell? ⟨m, 0, none⟩ = some (.int .i64 c.f0) ∧ w'.cell? ⟨m, 1, none⟩ = some (.int .i64 c.f1) ∧ w'.cell? ⟨m, 2, none⟩ = some (.int .i64 c.f2) ∧ w'.cell? ⟨m, 3, none⟩ = some (.int .i64 c.f3) ∧ w'.cell? ⟨m, 4, none⟩ = some (.int .i64 c.f4) ∧ w'.cell? ⟨m, 5, none⟩ = some (.int .i64 c.f5) ∧ w'.cell? ⟨m, 6, none⟩ = some (.int .i64 c.f6) ∧ w'.cell? ⟨m, 7, none⟩ = some (.int .i64 c.f7) ∧ w'.cell? ⟨m, 8, none⟩ = some (.int .i64 c.f8)) (first | exact ⟨by assumption, by assumption, by assumption, by assumption, by assumption, by assumption, by assumption, by assumption, by assumption, by assumption, by assumption, by assumption, by assumption, by assumption⟩ | exact ⟨o0, o1, o2, o3, o4, c0, c1, c2, c3, c4, c5, c6, c7, c8⟩)
   (first
    | (go_at_call 55; refine AK2.mono ?_; clear AK2; rintro x w5 ⟨rfl, ⟨y0, y1, y2, y3, y4, y5, y6, y7, y8, y9, y10, y11, y12, y13⟩, hA5⟩))
 clear o0 o1 o2 o3 o4 c0 c1 c2 c3 c4 c5 c6 c7 c8 y0 y1 y2 y3 y4 y5 y6 y7 y8 y9 y10 y11 y12 y13
 obtain ⟨hx, _, _, _, hC, hcap, _, _⟩ := hA.out
 obtain ⟨hB5, hs5, bD5, bO5⟩ := hA5.out
 have hB6 : Below w.heap.size w (w5.alloc (.cells #[.string oy, .string ot] 29)) := below_alloc hB5 _
 have bD6 := blk_alloc bD5 (.cells #[.string oy, .string ot] 29)
 have bO6 := blk_alloc bO5 (.cells #[.string oy, .string ot] 29)
 have bR6 := blk_new w5 (.cells #[.string oy, .string ot] 29)
 have o0 := blk_cell bO6 0
 have o1 := blk_cell bO6 1
 have o2 := blk_cell bO6 2
 have o3 := blk_cell bO6 3
 have o4 := blk_cell bO6 4
 simp at o0 o1 o2 o3 o4
 have hx6 := hx.frm (w' := w5.alloc (.cells #[.string oy, .string ot] 29)) (.of_below hB6)
 have SM := some_any hx6.hm hx6.hH hl oy ot on
 have r0 := blk_cell bR6 0
 have r1 := blk_cell bR6 1
 simp at r0 r1
 obtain ⟨l, hr⟩ : ∃ l, l = (someM oy ot L on).map toE := ⟨_, rfl⟩
 rw [← hr] at SM
 have hrA := Aside0.mk hr
 clear hr
 have hA6 := Aside0.mk (And.intro hB6 bD6)
 clear hx hC hcap hB5 hs5 bD5 bO5 hB6 bD6 bO6 bR6 hx6
 go_wp2_with (first
  | (go_at_call 53; refine SM.mono ?_; clear SM; rintro x w7 ⟨v, rfl, hR7, hb7⟩; obtain ⟨A7, p7, rfl⟩ := Kd.R_slice hR7; have bD7 := blk_below hA6.out.2 hb7; have y0 := blk_cell bD7 0; have y1 := blk_cell bD7 1; have y2 := blk_cell bD7 2; have y3 := blk_cell bD7 3; have y4 := blk_cell bD7 4; have y5 := blk_cell bD7 5; have q0 := blk_frozen bD7 0; have q1 := blk_frozen bD7 1; have q2 := blk_frozen bD7 2; have q3 := blk_frozen bD7 3; have q4 := blk_frozen bD7 4; have q5 := blk_frozen bD7 5; simp at y0 y1 y2 y3 y4 y5; have hA7 := Aside0.mk (And.intro hb7 (And.intro bD7 hR7)); clear hb7 bD7 hR7))
 obtain ⟨hb7, bD7, hR7⟩ := hA7.out
 obtain hr := hrA.out
 clear hrA
 subst hr
 obtain ⟨hB6, bD6⟩ := hA6.out
 obtain ⟨hx, _, _, _, _, _, _, _⟩ := hA.out
 have hs6 := hB6.size
 have lD := blk_lt bD6
 have hB7 : Below w.heap.size w w7 := below_then hB6 hs6 hb7
 refine md_end (fun _ _ => rfl) ⟨fun k hk => Nat.lt_of_lt_of_le (hlt k hk) hB7.size, em, cb, nn, F, B, hx.frm (.of_below hB7)⟩ (.of_below hB7) (by omega) (g0 hlt _ (by omega)) rfl rfl rfl bD7 (fun W' f hs => ⟨_, _, rfl, ?_⟩)
 refine Kd.V_mono (Kd.V_step (V_of_R hR7) (fun j hj hjl => f.block j hjl (fun e => ?_))) (fun j hj => ⟨by omega, by omega, g0 hlt _ (by omega)⟩)
 omega
end Go.Proofs.Ytljnlnbopohghaa.Mdl
end
section
namespace Go.Proofs.Ytljnlnbopohghaa.Mdl
open Go.RowKit Go.Shelf Go.Proofs.YtljnlnbopohghaaW.PrintWords Go.Proofs.YtljnlnbopohghaaW.PrintLast Go.Proofs.YtljnlnbopohghaaW.PrintMore Go.Proofs.Ytljnlnbopohghaa.Own Go.Proofs.Ytljnlnbopohghaa.Ord Go.Proofs.Ytljnlnbopohghaa Go.Proofs.Ytljnlnbopohghaa.P
open Go.Proofs.Ytljnlnbopohghaa.OrdSm (Hold hold_get)
set_option maxHeartbeats 2000000
set_option maxRecDepth 100000
theorem opens {G1 : Nat → Nat} {w1 : World} {m : Nat} {c : Cf} {n sends : Int} {L : Row} {T : Int → List Cu} {N em cb nn1 : Nat} {F1 : Int → Option Nat} {B1 : Int → Nat} {who : Int} {p : Nat} (hx1 : Mx G1 w1 m c n sends L T N em cb nn1 F1 B1) (hF1 : F1 who = some p) (hN : N < 1000000) (hl : (T who).length < 1000000) (f t : ByteArray) :
  Calls Try.prog 15 #[.pointer (some ⟨p, 0, none⟩), .agg #[.string f, .string t]] w1 fun e w4 => e = .returned (.tuple #[.int .i64 (openV (T who) f t).2.1, .int .i64 (openV (T who) f t).2.2]) ∧ Mx G1 w4 m c n sends L (setT T who (openV (T who) f t).1) (N + 1) em cb nn1 F1 B1 ∧ It.FrM (fun k => G1 k ≠ 0) w1 w4 := by
 obtain ⟨_, h2, h3, k1, hk1, hTb⟩ := hx1.tab who p hF1
 refine (Cur.open_any hTb (by omega) (by omega) (by omega) (tabF_out (by omega)) f t).mono ?_
 rintro e w4 ⟨rfl, hT4, f4⟩
 by_cases hr : Cur.rrB f t = true
 ·obtain ⟨e1, e2, e3⟩ := open_tab (T who) f t hr
  rw [if_pos hr] at hT4
  refine ⟨?_, hx1.tabs hF1 f4 (by omega) (k := k1 + 1) (by omega) ?_⟩
  ·unfold openV; simp only [if_pos hr]
  ·rw [e1, e2, e3]; exact hT4
 ·rw [if_neg hr] at hT4
  have eo : openV (T who) f t = (T who, 0, 7) := by unfold openV; rw [if_neg hr]
  rw [eo]
  refine ⟨?_, hx1.tabs hF1 f4 (by omega) (k := k1) (by omega) hT4⟩
  simp only [if_neg hr]
theorem closes {G1 : Nat → Nat} {w1 : World} {m : Nat} {c : Cf} {n sends : Int} {L : Row} {T : Int → List Cu} {N em cb nn1 : Nat} {F1 : Int → Option Nat} {B1 : Int → Nat} {who : Int} {p : Nat} (hx1 : Mx G1 w1 m c n sends L T N em cb nn1 F1 B1) (hF1 : F1 who = some p) (k : Int) (hk : (Lit.int .i64 k).wf = true) :
  Calls Try.prog 18 #[.pointer (some ⟨p, 0, none⟩), .int .i64 k] w1 fun e w4 => e = .returned (.int .i64 (closeC (T who) k).2) ∧ Mx G1 w4 m c n sends L (setT T who (closeC (T who) k).1) N em cb nn1 F1 B1 ∧ It.FrM (fun k => G1 k ≠ 0) w1 w4 := by
 obtain ⟨_, h2, h3, k1, hk1, hTb⟩ := hx1.tab who p hF1
 refine (Cur.close_any hTb k hk).mono ?_
 rintro e w4 ⟨rfl, hT4, f4⟩
 obtain ⟨e1, e2, e3⟩ := close_tab (T who) k
 refine ⟨?_, hx1.tabs hF1 ⟨f4.os, f4.tape, f4.output, f4.size, fun j hj hn => f4.block j hj (fun h => hn (List.mem_cons_of_mem _ h))⟩ (Nat.le_refl _) hk1 ?_⟩
 ·unfold closeC; by_cases q : (tabF (T who) k).isSome = true
  ·simp only [if_pos q]
  ·simp only [if_neg q]
 ·rw [e1, e2]; exact hT4 _ e3
def Deed (G : Nat → Nat) (w : World) (m : Nat) (c : Cf) (n sends : Int) (L : Row) (T : Int → List Cu) (N : Nat) (w4 : World) : Prop := ∃ G', (∀ k, k < w.heap.size → G' k = G k) ∧ Mw G' w4 m c n sends L T N ∧ It.FrM (fun k => G k ≠ 0) w w4 ∧ G' (w.heap.size + 1) = 0 ∧ w4.heap[w.heap.size + 1]? = some rep0
theorem do_open {G : Nat → Nat} {w : World} {m : Nat} {c : Cf} {n sends : Int} {L : Row} {T : Int → List Cu} {N : Nat} (h : Mw G w m c n sends L T N) (who : Int) (hw : ¬ (who < 1 ∨ who > n)) (o : Oq) {A : Option Addr} {cap : Nat} (hC : Kd.C P.k117 w A o.b.length o.b) (hcap : o.b.length ≤ cap) (ka : Nat) (e : Int) (hask : room_Ask.f ka o.k o.y o.t o.n o.b c.f0 c.f1 c.f2 c.f3 c.f4 c.f5 c.f6 c.f7 c.f8 = some e) (hk : o.k = 4) (he : e = 0) (h1 : 1 ≤ who) (h2 : who ≤ 1000000) (hN : N + 1 < 1000000) (hl : (T who).length < 1000000) :
  Calls Try.prog 23 #[.pointer (some ⟨m, 0, none⟩), .int .i64 who, .agg #[.int .u8 o.k, .string o.y, .string o.t, .int .i64 o.n, .slice A o.b.length cap]] w (Md G w m c n (N + 2) ⟨(openV (T who) o.y o.t).2.2, false, e0, [], (openV (T who) o.y o.t).2.1, false⟩ sends L (setT T who (openV (T who) o.y o.t).1)) := by
 have hup := Try.underlying59
 have huo := Try.underlying56
 have hum := Try.underlying122
 have huc := Try.underlying47
 have hur := Try.underlying29
 obtain ⟨hlt, em, cb, nn, F, B, hx⟩ := h
 obtain ⟨ok, oy, ot, on, ob⟩ := o
 have hk : ok = 4 := hk
 subst hk
 subst he
 have q0 : (((0 : Int)) == 0) = true := rfl
 have hB0 : Below w.heap.size w ((w.alloc (objO ⟨4, oy, ot, on, ob⟩ A cap)).alloc rep0) := below_alloc (below_alloc (Below.refl _ _) _) _
 have bO : ((w.alloc (objO ⟨4, oy, ot, on, ob⟩ A cap)).alloc rep0).heap[w.heap.size]? = some (objO ⟨4, oy, ot, on, ob⟩ A cap) := blk_alloc (blk_new w _) _
 have bD : ((w.alloc (objO ⟨4, oy, ot, on, ob⟩ A cap)).alloc rep0).heap[w.heap.size + 1]? = some rep0 := by have := blk_new (w.alloc (objO ⟨4, oy, ot, on, ob⟩ A cap)) rep0; rwa [World.size_alloc] at this
 have hsz2 : ((w.alloc (objO ⟨4, oy, ot, on, ob⟩ A cap)).alloc rep0).heap.size = w.heap.size + 2 := by simp
 have x9 := blk_cell (blk_below hx.hm hB0) 9
 simp at x9
 have d0 := decide_eq_false (show ¬ who < 1 by omega)
 have d1 := decide_eq_false (show ¬ who > n by omega)
 have hA := Aside0.mk (And.intro hx (And.intro hB0 (And.intro bO (And.intro bD (And.intro hC (And.intro hcap (And.intro hsz2 hask)))))))
 clear hx hB0 bO bD hC hcap hsz2 hask
 go_enter Try.func23, Try.ntmps23
 go_wp2
 obtain ⟨hx, hB0, bO, bD, hC, hcap, hsz2, hask⟩ := hA.out
 generalize (w.alloc (objO ⟨4, oy, ot, on, ob⟩ A cap)).alloc rep0 = w2 at hB0 bO bD hsz2 ⊢
 have hB0d := below_drew1 hB0
 have hm2 : w2.drew.heap[m]? = _ := blk_below hx.hm hB0d
 have bO2 : w2.drew.heap[w.heap.size]? = _ := bO
 have o0 := blk_cell bO2 0
 have o1 := blk_cell bO2 1
 have o2 := blk_cell bO2 2
 have o3 := blk_cell bO2 3
 have o4 := blk_cell bO2 4
 have c0 := blk_cell hm2 0
 have c1 := blk_cell hm2 1
 have c2 := blk_cell hm2 2
 have c3 := blk_cell hm2 3
 have c4 := blk_cell hm2 4
 have c5 := blk_cell hm2 5
 have c6 := blk_cell hm2 6
 have c7 := blk_cell hm2 7
 have c8 := blk_cell hm2 8
 simp at o0 o1 o2 o3 o4 c0 c1 c2 c3 c4 c5 c6 c7 c8
 have AK := room_Ask.calls ka 4 oy ot on A cap ob c.f0 c.f1 c.f2 c.f3 c.f4 c.f5 c.f6 c.f7 c.f8 0 w2.drew (Kd.C_below hC hB0d) hcap hask
 have AK2 := AK.mono (R' := fun x w' => x = .returned (.int .i64 0) ∧ (w'.cell? ⟨w.heap.size, 0, none⟩ = some (.int .u8 4) ∧ w'.cell? ⟨w.heap.size, 1, none⟩ = some (.string oy) ∧ w'.cell? ⟨w.heap.size, 2, none⟩ = some (.string ot) ∧ w'.cell? ⟨w.heap.size, 3, none⟩ = some (.int .i64 on) ∧ w'.cell? ⟨w.heap.size, 4, none⟩ = some (.slice A ob.length cap) ∧ w'.cell? ⟨m, 0, none⟩ = some (.int .i64 c.f0) ∧ w'.cell? ⟨m, 1, none⟩ = some (.int .i64 c.f1) ∧ w'.cell? ⟨m, 2, none⟩ = some (.int .i64 c.f2) ∧ w'.cell? ⟨m, 3, none⟩ = some (.int .i64 c.f3) ∧ w'.cell? ⟨m, 4, none⟩ = some (.int .i64 c.f4) ∧ w'.cell? ⟨m, 5, none⟩ = some (.int .i64 c.f5) ∧ w'.cell? ⟨m, 6, none⟩ = some (.int .i64 c.f6) ∧ w'.cell? ⟨m, 7, none⟩ = some (.int .i64 c.f7) ∧ w'.cell? ⟨m, 8, none⟩ = some (.int .i64 c.f8)) ∧ Aside0 (Below w.heap.size w w' ∧ w2.heap.size ≤ w'.heap.size ∧ w'.heap[w.heap.size + 1]? = some rep0 ∧ w'.heap[w.heap.size]? = some (objO ⟨4, oy, ot, on, ob⟩ A cap))) (by
  rintro x w' ⟨rfl, hb⟩
  have hm5 := blk_below hm2 hb
  have bO5 := blk_below bO2 hb
  have o0 := blk_cell bO5 0
  have o1 := blk_cell bO5 1
  have o2 := blk_cell bO5 2
  have o3 := blk_cell bO5 3
  have o4 := blk_cell bO5 4
  have c0 := blk_cell hm5 0
  have c1 := blk_cell hm5 1
  have c2 := blk_cell hm5 2
  have c3 := blk_cell hm5 3
  have c4 := blk_cell hm5 4
  have c5 := blk_cell hm5 5
  have c6 := blk_cell hm5 6
  have c7 := blk_cell hm5 7
  have c8 := blk_cell hm5 8
  simp at o0 o1 o2 o3 o4 c0 c1 c2 c3 c4 c5 c6 c7 c8
  have bD5 := blk_below (show w2.drew.heap[w.heap.size + 1]? = some rep0 from bD) hb
  exact ⟨rfl, ⟨o0, o1, o2, o3, o4, c0, c1, c2, c3, c4, c5, c6, c7, c8⟩, ⟨below_then hB0d hB0d.size hb, hb.size, bD5, bO5⟩⟩)
 have hA2 := Aside0.mk hsz2
 clear AK hB0d hm2 bO2 hx hB0 bO bD hC hcap hsz2 hask
 go_region_held3 (fun w' => w'.cell? ⟨w.heap.size, 0, none⟩ = some (.int .u8 4) ∧ w'.cell? ⟨w.heap.size, 1, none⟩ = some (.string oy) ∧ w'.cell? ⟨w.heap.size, 2, none⟩ = some (.string ot) ∧ w'.cell? ⟨w.heap.size, 3, none⟩ = some (.int .i64 on) ∧ w'.cell? ⟨w.heap.size, 4, none⟩ = some (.slice A ob.length cap) ∧ w'.cell? ⟨m, 0, none⟩ = some (.int .i64 c.f0) ∧ w'.cell? ⟨m, 1, none⟩ = some (.int .i64 c.f1) ∧ w'.cell? ⟨m, 2, none⟩ = some (.int .i64 c.f2) ∧ w'.cell? ⟨m, 3, none⟩ = some (.int .i64 c.f3) ∧ w'.cell? ⟨m, 4, none⟩ = some (.int .i64 c.f4) ∧ w'.cell? ⟨m, 5, none⟩ = some (.int .i64 c.f5) ∧ w'.cell? ⟨m, 6, none⟩ = some (.int .i64 c.f6) ∧ w'.cell? ⟨m, 7, none⟩ = some (.int .i64 c.f7) ∧ w'.cell? ⟨m, 8, none⟩ = some (.int .i64 c.f8)) (first | exact ⟨by assumption, by assumption, by assumption, by assumption, by assumption, by assumption, by assumption, by assumption, by assumption, by assumption, by assumption, by assumption, by assumption, by assumption⟩ | exact ⟨o0, o1, o2, o3, o4, c0, c1, c2, c3, c4, c5, c6, c7, c8⟩)
   (first
    | (go_at_call 55; refine AK2.mono ?_; clear AK2; rintro x w5 ⟨rfl, ⟨y0, y1, y2, y3, y4, y5, y6, y7, y8, y9, y10, y11, y12, y13⟩, hA5⟩))
 clear o0 o1 o2 o3 o4 c0 c1 c2 c3 c4 c5 c6 c7 c8 y0 y1 y2 y3 y4 y5 y6 y7 y8 y9 y10 y11 y12 y13
 obtain ⟨hx, _, _, _, hC, hcap, _, _⟩ := hA.out
 obtain ⟨hB5, hs5, bD5, bO5⟩ := hA5.out
 have hB6 : Below w.heap.size w (w5.alloc (.cells #[.string oy, .string ot] 29)) := below_alloc hB5 _
 have bD6 := blk_alloc bD5 (.cells #[.string oy, .string ot] 29)
 have bO6 := blk_alloc bO5 (.cells #[.string oy, .string ot] 29)
 have bR6 := blk_new w5 (.cells #[.string oy, .string ot] 29)
 have o0 := blk_cell bO6 0
 have o1 := blk_cell bO6 1
 have o2 := blk_cell bO6 2
 have o3 := blk_cell bO6 3
 have o4 := blk_cell bO6 4
 simp at o0 o1 o2 o3 o4
 clear hx hC hcap hB5 hs5 bD5 bO5 hB6 bD6 bO6 bR6
 go_wp2
 obtain ⟨hx, _, _, _, hC, hcap, _, _⟩ := hA.out
 obtain ⟨hB5, hs5, bD5, bO5⟩ := hA5.out
 have hB6 : Below w.heap.size w (w5.alloc (.cells #[.string oy, .string ot] 29)) := below_alloc hB5 _
 have bD6 := blk_alloc bD5 (.cells #[.string oy, .string ot] 29)
 have bO6 := blk_alloc bO5 (.cells #[.string oy, .string ot] 29)
 have bR6 := blk_new w5 (.cells #[.string oy, .string ot] 29)
 generalize hw6 : w5.alloc (.cells #[.string oy, .string ot] 29) = w6 at hB6 bD6 bO6 bR6 ⊢
 have ls5 : w5.heap.size + 1 = w6.heap.size := by rw [← hw6]; simp
 clear hw6 o0 o1 o2 o3 o4
 have hB6d := below_drew1 hB6
 have bR7 : w6.drew.heap[w5.heap.size]? = _ := bR6
 have bO7 : w6.drew.heap[w.heap.size]? = _ := bO6
 have bD7 : w6.drew.heap[w.heap.size + 1]? = _ := bD6
 have u0 := blk_cell bR7 0
 have u1 := blk_cell bR7 1
 simp at u0 u1
 have lsd : w6.drew.heap.size = w6.heap.size := rfl
 have hsz := hA2.out
 have TB := (table_any (G := G) (fun k hk => Nat.lt_of_lt_of_le (hlt k hk) hB6d.size) (hx.frm (.of_below hB6d)) who h1 h2 (by omega)).mono (R' := fun e w1 => ∃ p, e = .returned (.pointer (some ⟨p, 0, none⟩)) ∧ (w1.cell? ⟨w5.heap.size, 0, none⟩ = some (.string oy) ∧ w1.cell? ⟨w5.heap.size, 1, none⟩ = some (.string ot)) ∧ Calls Try.prog 15 #[.pointer (some ⟨p, 0, none⟩), .agg #[.string oy, .string ot]] w1 (fun e w4 => e = .returned (.tuple #[.int .i64 (openV (T who) oy ot).2.1, .int .i64 (openV (T who) oy ot).2.2]) ∧ (w4.cell? ⟨w5.heap.size, 0, none⟩ = some (.string oy) ∧ w4.cell? ⟨w5.heap.size, 1, none⟩ = some (.string ot)) ∧ Aside0 (Deed G w m c n sends L (setT T who (openV (T who) oy ot).1) (N + 2) w4))) (by
  rintro e w1 ⟨p, rfl, G1, hG1, ⟨hlt1, nn1, F1, B1, hx1, hF1⟩, hf1⟩
  have z1 : G w5.heap.size = 0 := g0 hlt _ (by omega)
  have z2 : G (w.heap.size + 1) = 0 := g0 hlt _ (by omega)
  have z3 : G1 w5.heap.size = 0 := (hG1 _ (by omega)).trans z1
  have z4 : G1 (w.heap.size + 1) = 0 := (hG1 _ (by omega)).trans z2
  have bR1 := hf1.blk bR7 (by rw [z1]; simp)
  have bD1 := hf1.blk bD7 (by rw [z2]; simp)
  have a0 := blk_cell bR1 0
  have a1 := blk_cell bR1 1
  simp at a0 a1
  refine ⟨p, rfl, ⟨a0, a1⟩, (opens hx1 hF1 (by omega) hl oy ot).mono ?_⟩
  rintro e w4 ⟨rfl, hx4, hf4⟩
  have bR4 := hf4.blk bR1 (by rw [z3]; simp)
  have bD4 := hf4.blk bD1 (by rw [z4]; simp)
  have a0 := blk_cell bR4 0
  have a1 := blk_cell bR4 1
  simp at a0 a1
  refine ⟨rfl, ⟨a0, a1⟩, ⟨G1, fun k hk => hG1 k (by omega), ⟨fun k hk => Nat.lt_of_lt_of_le (hlt1 k hk) hf4.size, em, cb, nn1, F1, B1, hx4⟩, (((It.FrM.of_below hB6d).trans hf1 (fun i hi => .inl hi)).trans hf4 (fun i hi => ?_)), z4, bD4⟩⟩
  rcases Nat.lt_or_ge i w.heap.size with q | q
  ·rw [hG1 i (by omega)] at hi; exact .inl hi
  ·exact .inr q)
 clear hx hC hcap hB5 hs5 bD5 bO5 hB6 bD6 bO6 bR6 hB6d bR7 bO7 bD7 lsd ls5 hsz
 go_region_held3 (fun w' => (w'.cell? ⟨w5.heap.size, 0, none⟩ = some (.string oy) ∧ w'.cell? ⟨w5.heap.size, 1, none⟩ = some (.string ot))) (first | exact ⟨by assumption, by assumption⟩ | exact ⟨u0, u1⟩)
   (first
    | (go_at_call 58; refine TB.mono ?_; clear TB; rintro x w7 ⟨p, rfl, ⟨v0, v1⟩, OP⟩)
    | (go_at_call 15; refine OP.mono ?_; clear OP; rintro x w8 ⟨rfl, ⟨v2, v3⟩, hA8⟩))
 obtain ⟨G8, hG8, hM8, hf8, hD8, bD8⟩ := hA8.out
 have y0 := blk_cell bD8 0
 have y1 := blk_cell bD8 1
 have y2 := blk_cell bD8 2
 have y3 := blk_cell bD8 3
 have y4 := blk_cell bD8 4
 have y5 := blk_cell bD8 5
 have q0 := blk_frozen bD8 0
 have q1 := blk_frozen bD8 1
 have q2 := blk_frozen bD8 2
 have q3 := blk_frozen bD8 3
 have q4 := blk_frozen bD8 4
 have q5 := blk_frozen bD8 5
 simp at y0 y1 y2 y3 y4 y5
 clear hG8 hM8 hf8 hD8 bD8 u0 u1 v0 v1 v2 v3
 go_wp2
 obtain ⟨G8, hG8, hM8, hf8, hD8, bD8⟩ := hA8.out
 exact md_end hG8 hM8 hf8 (by omega) hD8 rfl rfl rfl bD8 (fun W' _ _ => RepV.bare _ _ _ _ _ _ _)
end Go.Proofs.Ytljnlnbopohghaa.Mdl
end
section
namespace Go.Proofs.Ytljnlnbopohghaa.Mdl
open Go.RowKit Go.Shelf Go.Proofs.YtljnlnbopohghaaW.PrintWords Go.Proofs.YtljnlnbopohghaaW.PrintLast Go.Proofs.YtljnlnbopohghaaW.PrintMore Go.Proofs.Ytljnlnbopohghaa.Own Go.Proofs.Ytljnlnbopohghaa.Ord Go.Proofs.Ytljnlnbopohghaa Go.Proofs.Ytljnlnbopohghaa.P
open List renaming setIfInBounds_toArray → sA1, set_cons_zero → sA2, set_cons_succ → sA3, getElem_toArray → sA4, getElem_cons_zero → sA5, getElem_cons_succ → sA6
open Go.Proofs.Ytljnlnbopohghaa.OrdSm (Hold hold_get)
set_option maxHeartbeats 2000000
set_option maxRecDepth 100000
theorem closeT23 : rtab .any (opsOf Try.f23 23) = rtab .any (opsOf Try.f23 23) := rfl
theorem do_close {G : Nat → Nat} {w : World} {m : Nat} {c : Cf} {n sends : Int} {L : Row} {T : Int → List Cu} {N : Nat} (h : Mw G w m c n sends L T N) (who : Int) (hw : ¬ (who < 1 ∨ who > n)) (o : Oq) {A : Option Addr} {cap : Nat} (hC : Kd.C P.k117 w A o.b.length o.b) (hcap : o.b.length ≤ cap) (ka : Nat) (e : Int) (hask : room_Ask.f ka o.k o.y o.t o.n o.b c.f0 c.f1 c.f2 c.f3 c.f4 c.f5 c.f6 c.f7 c.f8 = some e) (hk : o.k = 6) (he : e = 0) (h1 : 1 ≤ who) (h2 : who ≤ 1000000) (hN : N + 1 < 1000000) (hkw : (Lit.int .i64 o.n).wf = true) :
  Calls Try.prog 23 #[.pointer (some ⟨m, 0, none⟩), .int .i64 who, .agg #[.int .u8 o.k, .string o.y, .string o.t, .int .i64 o.n, .slice A o.b.length cap]] w (Md G w m c n (N + 2) ⟨(closeC (T who) o.n).2, false, e0, [], 0, false⟩ sends L (setT T who (closeC (T who) o.n).1)) := by
 have hup := Try.underlying59
 have huo := Try.underlying56
 have hum := Try.underlying122
 have huc := Try.underlying47
 have hur := Try.underlying29
 obtain ⟨hlt, em, cb, nn, F, B, hx⟩ := h
 obtain ⟨ok, oy, ot, on, ob⟩ := o
 have hk : ok = 6 := hk
 subst hk
 subst he
 have q0 : (((0 : Int)) == 0) = true := rfl
 have hB0 : Below w.heap.size w ((w.alloc (objO ⟨6, oy, ot, on, ob⟩ A cap)).alloc rep0) := below_alloc (below_alloc (Below.refl _ _) _) _
 have bO : ((w.alloc (objO ⟨6, oy, ot, on, ob⟩ A cap)).alloc rep0).heap[w.heap.size]? = some (objO ⟨6, oy, ot, on, ob⟩ A cap) := blk_alloc (blk_new w _) _
 have bD : ((w.alloc (objO ⟨6, oy, ot, on, ob⟩ A cap)).alloc rep0).heap[w.heap.size + 1]? = some rep0 := by have := blk_new (w.alloc (objO ⟨6, oy, ot, on, ob⟩ A cap)) rep0; rwa [World.size_alloc] at this
 have hsz2 : ((w.alloc (objO ⟨6, oy, ot, on, ob⟩ A cap)).alloc rep0).heap.size = w.heap.size + 2 := by simp
 have x9 := blk_cell (blk_below hx.hm hB0) 9
 simp at x9
 have d0 := decide_eq_false (show ¬ who < 1 by omega)
 have d1 := decide_eq_false (show ¬ who > n by omega)
 have hA := Aside0.mk (And.intro hx (And.intro hB0 (And.intro bO (And.intro bD (And.intro hC (And.intro hcap (And.intro hsz2 hask)))))))
 clear hx hB0 bO bD hC hcap hsz2 hask
 go_enter Try.func23, Try.ntmps23
 go_wp2
 obtain ⟨hx, hB0, bO, bD, hC, hcap, hsz2, hask⟩ := hA.out
 generalize (w.alloc (objO ⟨6, oy, ot, on, ob⟩ A cap)).alloc rep0 = w2 at hB0 bO bD hsz2 ⊢
 have hB0d := below_drew1 hB0
 have hm2 : w2.drew.heap[m]? = _ := blk_below hx.hm hB0d
 have bO2 : w2.drew.heap[w.heap.size]? = _ := bO
 have o0 := blk_cell bO2 0
 have o1 := blk_cell bO2 1
 have o2 := blk_cell bO2 2
 have o3 := blk_cell bO2 3
 have o4 := blk_cell bO2 4
 have c0 := blk_cell hm2 0
 have c1 := blk_cell hm2 1
 have c2 := blk_cell hm2 2
 have c3 := blk_cell hm2 3
 have c4 := blk_cell hm2 4
 have c5 := blk_cell hm2 5
 have c6 := blk_cell hm2 6
 have c7 := blk_cell hm2 7
 have c8 := blk_cell hm2 8
 simp at o0 o1 o2 o3 o4 c0 c1 c2 c3 c4 c5 c6 c7 c8
 have AK := room_Ask.calls ka 6 oy ot on A cap ob c.f0 c.f1 c.f2 c.f3 c.f4 c.f5 c.f6 c.f7 c.f8 0 w2.drew (Kd.C_below hC hB0d) hcap hask
 have AK2 := AK.mono (R' := fun x w' => x = .returned (.int .i64 0) ∧ (w'.cell? ⟨w.heap.size, 0, none⟩ = some (.int .u8 6) ∧ w'.cell? ⟨w.heap.size, 1, none⟩ = some (.string oy) ∧ w'.cell? ⟨w.heap.size, 2, none⟩ = some (.string ot) ∧ w'.cell? ⟨w.heap.size, 3, none⟩ = some (.int .i64 on) ∧ w'.cell? ⟨w.heap.size, 4, none⟩ = some (.slice A ob.length cap) ∧ w'.cell? ⟨m, 0, none⟩ = some (.int .i64 c.f0) ∧ w'.cell? ⟨m, 1, none⟩ = some (.int .i64 c.f1) ∧ w'.cell? ⟨m, 2, none⟩ = some (.int .i64 c.f2) ∧ w'.cell? ⟨m, 3, none⟩ = some (.int .i64 c.f3) ∧ w'.cell? ⟨m, 4, none⟩ = some (.int .i64 c.f4) ∧ w'.cell? ⟨m, 5, none⟩ = some (.int .i64 c.f5) ∧ w'.cell? ⟨m, 6, none⟩ = some (.int .i64 c.f6) ∧ w'.cell? ⟨m, 7, none⟩ = some (.int .i64 c.f7) ∧ w'.cell? ⟨m, 8, none⟩ = some (.int .i64 c.f8)) ∧ Aside0 (Below w.heap.size w w' ∧ w2.heap.size ≤ w'.heap.size ∧ w'.heap[w.heap.size + 1]? = some rep0 ∧ w'.heap[w.heap.size]? = some (objO ⟨6, oy, ot, on, ob⟩ A cap))) (by
  rintro x w' ⟨rfl, hb⟩
  have hm5 := blk_below hm2 hb
  have bO5 := blk_below bO2 hb
  have o0 := blk_cell bO5 0
  have o1 := blk_cell bO5 1
  have o2 := blk_cell bO5 2
  have o3 := blk_cell bO5 3
  have o4 := blk_cell bO5 4
  have c0 := blk_cell hm5 0
  have c1 := blk_cell hm5 1
  have c2 := blk_cell hm5 2
  have c3 := blk_cell hm5 3
  have c4 := blk_cell hm5 4
  have c5 := blk_cell hm5 5
  have c6 := blk_cell hm5 6
  have c7 := blk_cell hm5 7
  have c8 := blk_cell hm5 8
  simp at o0 o1 o2 o3 o4 c0 c1 c2 c3 c4 c5 c6 c7 c8
  have bD5 := blk_below (show w2.drew.heap[w.heap.size + 1]? = some rep0 from bD) hb
  exact ⟨rfl, ⟨o0, o1, o2, o3, o4, c0, c1, c2, c3, c4, c5, c6, c7, c8⟩, ⟨below_then hB0d hB0d.size hb, hb.size, bD5, bO5⟩⟩)
 have hA2 := Aside0.mk hsz2
 clear AK hB0d hm2 bO2 hx hB0 bO bD hC hcap hsz2 hask
 go_region_held3 (fun w' => w'.cell? ⟨w.heap.size, 0, none⟩ = some (.int .u8 6) ∧ w'.cell? ⟨w.heap.size, 1, none⟩ = some (.string oy) ∧ w'.cell? ⟨w.heap.size, 2, none⟩ = some (.string ot) ∧ w'.cell? ⟨w.heap.size, 3, none⟩ = some (.int .i64 on) ∧ w'.cell? ⟨w.heap.size, 4, none⟩ = some (.slice A ob.length cap) ∧ w'.cell? ⟨m, 0, none⟩ = some (.int .i64 c.f0) ∧ w'.cell? ⟨m, 1, none⟩ = some (.int .i64 c.f1) ∧ w'.cell? ⟨m, 2, none⟩ = some (.int .i64 c.f2) ∧ w'.cell? ⟨m, 3, none⟩ = some (.int .i64 c.f3) ∧ w'.cell? ⟨m, 4, none⟩ = some (.int .i64 c.f4) ∧ w'.cell? ⟨m, 5, none⟩ = some (.int .i64 c.f5) ∧ w'.cell? ⟨m, 6, none⟩ = some (.int .i64 c.f6) ∧ w'.cell? ⟨m, 7, none⟩ = some (.int .i64 c.f7) ∧ w'.cell? ⟨m, 8, none⟩ = some (.int .i64 c.f8)) (first | exact ⟨by assumption, by assumption, by assumption, by assumption, by assumption, by assumption, by assumption, by assumption, by assumption, by assumption, by assumption, by assumption, by assumption, by assumption⟩ | exact ⟨o0, o1, o2, o3, o4, c0, c1, c2, c3, c4, c5, c6, c7, c8⟩)
   (first
    | (go_at_call 55; refine AK2.mono ?_; clear AK2; rintro x w5 ⟨rfl, ⟨y0, y1, y2, y3, y4, y5, y6, y7, y8, y9, y10, y11, y12, y13⟩, hA5⟩))
 clear o0 o1 o2 o3 o4 c0 c1 c2 c3 c4 c5 c6 c7 c8 y0 y1 y2 y3 y4 y5 y6 y7 y8 y9 y10 y11 y12 y13
 obtain ⟨hx, _, _, _, hC, hcap, _, _⟩ := hA.out
 obtain ⟨hB5, hs5, bD5, bO5⟩ := hA5.out
 have hB6 : Below w.heap.size w (w5.alloc (.cells #[.string oy, .string ot] 29)) := below_alloc hB5 _
 have bD6 := blk_alloc bD5 (.cells #[.string oy, .string ot] 29)
 have bO6 := blk_alloc bO5 (.cells #[.string oy, .string ot] 29)
 have bR6 := blk_new w5 (.cells #[.string oy, .string ot] 29)
 have o0 := blk_cell bO6 0
 have o1 := blk_cell bO6 1
 have o2 := blk_cell bO6 2
 have o3 := blk_cell bO6 3
 have o4 := blk_cell bO6 4
 simp at o0 o1 o2 o3 o4
 clear hx hC hcap hB5 hs5 bD5 bO5 hB6 bD6 bO6 bR6
 go_wp2
 obtain ⟨hx, _, _, _, hC, hcap, _, _⟩ := hA.out
 obtain ⟨hB5, hs5, bD5, bO5⟩ := hA5.out
 have hB6 : Below w.heap.size w (w5.alloc (.cells #[.string oy, .string ot] 29)) := below_alloc hB5 _
 have bD6 := blk_alloc bD5 (.cells #[.string oy, .string ot] 29)
 have bO6 := blk_alloc bO5 (.cells #[.string oy, .string ot] 29)
 have bR6 := blk_new w5 (.cells #[.string oy, .string ot] 29)
 generalize hw6 : w5.alloc (.cells #[.string oy, .string ot] 29) = w6 at hB6 bD6 bO6 bR6 ⊢
 have ls5 : w5.heap.size + 1 = w6.heap.size := by rw [← hw6]; simp
 clear hw6 o0 o1 o2 o3 o4
 have hB6d := below_drew1 hB6
 have bR7 : w6.drew.heap[w5.heap.size]? = _ := bR6
 have bO7 : w6.drew.heap[w.heap.size]? = _ := bO6
 have bD7 : w6.drew.heap[w.heap.size + 1]? = _ := bD6
 have u0 := blk_cell bO7 3
 simp at u0
 have lsd : w6.drew.heap.size = w6.heap.size := rfl
 have hsz := hA2.out
 have TB := (table_any (G := G) (fun k hk => Nat.lt_of_lt_of_le (hlt k hk) hB6d.size) (hx.frm (.of_below hB6d)) who h1 h2 (by omega)).mono (R' := fun e w1 => ∃ p, e = .returned (.pointer (some ⟨p, 0, none⟩)) ∧ w1.cell? ⟨w.heap.size, 3, none⟩ = some (.int .i64 on) ∧ Calls Try.prog 18 #[.pointer (some ⟨p, 0, none⟩), .int .i64 on] w1 (fun e w4 => e = .returned (.int .i64 (closeC (T who) on).2) ∧ w4.cell? ⟨w.heap.size, 3, none⟩ = some (.int .i64 on) ∧ Aside0 (Deed G w m c n sends L (setT T who (closeC (T who) on).1) (N + 2) w4))) (by
  rintro e w1 ⟨p, rfl, G1, hG1, ⟨hlt1, nn1, F1, B1, hx1, hF1⟩, hf1⟩
  have z1 : G w.heap.size = 0 := g0 hlt _ (by omega)
  have z2 : G (w.heap.size + 1) = 0 := g0 hlt _ (by omega)
  have z3 : G1 w.heap.size = 0 := (hG1 _ (by omega)).trans z1
  have z4 : G1 (w.heap.size + 1) = 0 := (hG1 _ (by omega)).trans z2
  have bR1 := hf1.blk bO7 (by rw [z1]; simp)
  have bD1 := hf1.blk bD7 (by rw [z2]; simp)
  have a0 := blk_cell bR1 3
  simp at a0
  refine ⟨p, rfl, a0, (closes hx1 hF1 on hkw).mono ?_⟩
  rintro e w4 ⟨rfl, hx4, hf4⟩
  have bR4 := hf4.blk bR1 (by rw [z3]; simp)
  have bD4 := hf4.blk bD1 (by rw [z4]; simp)
  have a0 := blk_cell bR4 3
  simp at a0
  refine ⟨rfl, a0, ⟨G1, fun k hk => hG1 k (by omega), ⟨fun k hk => Nat.lt_of_lt_of_le (hlt1 k hk) hf4.size, em, cb, nn1, F1, B1, hx4.mono (by omega)⟩, (((It.FrM.of_below hB6d).trans hf1 (fun i hi => .inl hi)).trans hf4 (fun i hi => ?_)), z4, bD4⟩⟩
  rcases Nat.lt_or_ge i w.heap.size with q | q
  ·rw [hG1 i (by omega)] at hi; exact .inl hi
  ·exact .inr q)
 clear hx hC hcap hB5 hs5 bD5 bO5 hB6 bD6 bO6 bR6 hB6d bR7 bO7 bD7 lsd ls5 hsz
 refine start_ (n := 8) (S := fun w' : World => w'.cell? ⟨w.heap.size, 3, none⟩ = some (.int .i64 on)) (ds := [7]) #[false, false, false, false, false, false, false, false] (by kernel_rfl) rfl rfl u0 (fun hHeld => ?_)
 have HT_ := Aside0.mk closeT23
 refine pU_ 0 97 #[true, false, false, false, false, false, false, false] ?_
 refine pU_ 1 98 #[true, true, false, false, false, false, false, false] ?_
 refine pU_ 3 100 #[true, true, false, true, false, false, false, false] ?_
 refine take_ (i := 4) (N := some 101) (v := ?_) (a' := ?_) #[true, true, false, true, true, false, false, false] rfl rfl (take_of HT_.out (by kernel_rfl)) (fun _ _ _ h => h) (Or.inl ⟨by rfl, ?_⟩) hHeld ?_ ?_
 rotate_left
 ·rintro w' s0
  go_simp
  with_reducible rfl
 rotate_left
 ·simp only [Act.put, sA1, sA2, sA3, i64_w, i32_w]
  rfl
 refine one_ (i := 2) (N := some 99) #[true, true, true, true, true, false, false, false] rfl rfl (one_of HT_.out (by kernel_rfl)) (by decide) (fun K hK => ?_)
 refine goes_ Try.func58 (by kernel_rfl) rfl #[.pointer (some ⟨m, 0, none⟩), .int .i64 who] (by rfl) rfl rfl (by (try simp only [List.map_toArray, List.map_cons, List.map_nil]); first | done | rfl) ?_
 refine (TB).mono ?_
 rintro x w7 ⟨p, rfl, v0, OP⟩
 refine ⟨_, rfl, ?_⟩
 clear TB
 refine hK.out _ _ v0 (fun hHeld => ?_)
 clear hK K
 refine norm_ (a' := ?_) ?_ ?_
 rotate_left
 ·show Act.put _ (some 99) _ = _
  simp only [Act.put, sA1, sA2, sA3, i64_w, i32_w]
  rfl
 refine one_ (i := 5) (N := some 102) #[true, true, true, true, true, true, false, false] rfl rfl (one_of HT_.out (by kernel_rfl)) (by decide) (fun K hK => ?_)
 refine goes_ Try.func18 (by kernel_rfl) rfl #[.pointer (some ⟨p, 0, none⟩), .int .i64 on] (by rfl) rfl rfl (by (try simp only [List.map_toArray, List.map_cons, List.map_nil]); first | done | rfl) ?_
 refine (OP).mono ?_
 rintro x w8 ⟨rfl, v2, hA8⟩
 refine ⟨_, rfl, ?_⟩
 clear OP
 obtain ⟨G8, hG8, hM8, hf8, hD8, bD8⟩ := hA8.out
 have y0 := blk_cell bD8 0
 have y1 := blk_cell bD8 1
 have y2 := blk_cell bD8 2
 have y3 := blk_cell bD8 3
 have y4 := blk_cell bD8 4
 have y5 := blk_cell bD8 5
 have q0 := blk_frozen bD8 0
 have q1 := blk_frozen bD8 1
 have q2 := blk_frozen bD8 2
 have q3 := blk_frozen bD8 3
 have q4 := blk_frozen bD8 4
 have q5 := blk_frozen bD8 5
 simp at y0 y1 y2 y3 y4 y5
 clear hG8 hM8 hf8 hD8 bD8
 refine hK.out _ _ v2 (fun hHeld => ?_)
 clear hK K
 refine norm_ (a' := ?_) ?_ ?_
 rotate_left
 ·show Act.put _ (some 102) _ = _
  simp only [Act.put, sA1, sA2, sA3, i64_w, i32_w]
  rfl
 refine pU_ 6 103 #[true, true, true, true, true, true, true, false] ?_
 refine last_ (i := 7) (N := none) #[true, true, true, true, true, true, true, true] rfl rfl (one_of HT_.out (by kernel_rfl)) (by decide) (fun K hK => ?_)
 refine skip_ (w1 := (setRep w8 (w.heap.size + 1) (.int .i64 (closeC (T who) on).2) (.bool false) (.string ⟨#[]⟩) (.slice none 0 0) (.int .i64 0) (.bool false))) (by rfl) rfl ?_ ?_
 ·first | (go_simp; done) | (go_simp; rfl)
 refine hK.out _ _ ?_
 clear hK K
 refine done_ (done_of HT_.out (by kernel_rfl)) ?_
 clear u0 v0 v2 hHeld
 go_wp2
 obtain ⟨G8, hG8, hM8, hf8, hD8, bD8⟩ := hA8.out
 exact md_end hG8 hM8 hf8 (by omega) hD8 rfl rfl rfl bD8 (fun W' _ _ => RepV.bare _ _ _ _ _ _ _)
end Go.Proofs.Ytljnlnbopohghaa.Mdl
end
section
namespace Go.Proofs.Ytljnlnbopohghaa.Mdl
open Go.RowKit Go.Shelf Go.Proofs.YtljnlnbopohghaaW.PrintWords Go.Proofs.YtljnlnbopohghaaW.PrintLast Go.Proofs.YtljnlnbopohghaaW.PrintMore Go.Proofs.Ytljnlnbopohghaa.Own Go.Proofs.Ytljnlnbopohghaa.Ord Go.Proofs.Ytljnlnbopohghaa Go.Proofs.Ytljnlnbopohghaa.P
set_option maxHeartbeats 1000000
structure Okd (n : Int) (s : St) (who : Int) (o : Oq) (N : Nat) : Prop where
 hn : n ≤ 1000000
 k0 : 0 ≤ o.k
 k1 : o.k ≤ 255
 nw : (Lit.int .i64 o.n).wf = true
 b1 : o.b.length ≤ 100000
 b2 : ∀ x ∈ o.b, x.f2.size ≤ 140737488351232
 s0 : 0 ≤ s.s
 s1 : s.s < 1000000
 l1 : s.L.length ≤ 500000
 l2 : ∀ x ∈ s.L, x.1.size ≤ 140737488351232
 t1 : (s.T who).length < 1000000
 hN : N + 1 < 1000000
theorem ask_kind {k : Int} {y t : ByteArray} {n : Int} {b : List Ms} {c0 c1 c8 : Int} (h : Pm.askV k y t n b c0 c1 c8 = 0) : k = 1 ∨ k = 2 ∨ k = 3 ∨ k = 4 ∨ k = 5 ∨ k = 6 := by
 unfold Pm.askV at h
 split at h
 ·cases h
 ·omega
theorem Md.mono {G : Nat → Nat} {w w' : World} {m : Nat} {c : Cf} {n : Int} {N N' : Nat} {r : Rp} {sends : Int} {L : Row} {T : Int → List Cu} {e : Ending} (h : Md G w m c n N r sends L T e w') (hN : N ≤ N') : Md G w m c n N' r sends L T e w' := by
 obtain ⟨v, rfl, G', h1, h2, h3, h4⟩ := h
 exact ⟨v, rfl, G', h1, h2.mono hN, h3, h4⟩
theorem do_any {G : Nat → Nat} {w : World} {m : Nat} {c : Cf} {n : Int} {s : St} {N : Nat} (h : Mw G w m c n s.s s.L s.T N) (who : Int) (o : Oq) (hk : Okd n s who o N) {A : Option Addr} {cap : Nat} (hC : ∀ W, It.FrM (fun k => G k ≠ 0) w W → Kd.C P.k117 W A o.b.length o.b) (hcap : o.b.length ≤ cap) :
  Calls Try.prog 23 #[.pointer (some ⟨m, 0, none⟩), .int .i64 who, .agg #[.int .u8 o.k, .string o.y, .string o.t, .int .i64 o.n, .slice A o.b.length cap]] w (Md G w m c n (N + 2) (doV c n s who o).1 (doV c n s who o).2.s (doV c n s who o).2.L (doV c n s who o).2.T) := by
 obtain ⟨g1, g2, g3, g4, g5, g6, g7, g8, g9, g10, g11, g12⟩ := hk
 have hC0 := hC w (It.FrM.refl _ _)
 by_cases hw : who < 1 ∨ who > n
 ·have e : doV c n s who o = (⟨2, false, e0, [], 0, false⟩, s) := by unfold doV; rw [if_pos hw]
  rw [e]
  exact (do_bad h who hw o).mono (fun _ _ h => h.mono (by omega))
 have hask := Pm.Ask_eq c.f0 c.f1 c.f2 c.f3 c.f4 c.f5 c.f6 c.f7 c.f8 0 o.k o.y o.t o.n o.b g6 (by omega) g2 g3
 by_cases he : ¬ Pm.askV o.k o.y o.t o.n o.b c.f0 c.f1 c.f8 = 0
 ·have e : doV c n s who o = (⟨Pm.askV o.k o.y o.t o.n o.b c.f0 c.f1 c.f8, false, e0, [], 0, false⟩, s) := by unfold doV; rw [if_neg hw, if_pos he]
  rw [e]
  exact (do_err h who hw o hC0 hcap _ _ hask he).mono (fun _ _ h => h.mono (by omega))
 have he0 : Pm.askV o.k o.y o.t o.n o.b c.f0 c.f1 c.f8 = 0 := Decidable.not_not.1 he
 rw [he0] at hask
 have h1 : 1 ≤ who := by omega
 have h2 : who ≤ 1000000 := by omega
 have n1 : ∀ a b : Int, a ≠ b → (a = b) = False := fun a b h => eq_false h
 rcases ask_kind he0 with q | q | q | q | q | q
 ·have e : doV c n s who o = (⟨0, (gotL s.L o.y).2, (gotL s.L o.y).1, [], 0, false⟩, s) := by unfold doV; rw [if_neg hw, if_neg he, if_pos q]
  rw [e]
  exact (do_get h who hw o hC0 hcap _ _ hask q rfl).mono (fun _ _ h => h.mono (by omega))
 ·have e : doV c n s who o = (⟨0, false, e0, [], 0, false⟩, ⟨s.s + 1, o.b.foldl sendV s.L, s.T⟩) := by unfold doV; rw [if_neg hw, if_neg he, if_neg (by omega), if_pos q]
  rw [e]
  exact (do_send h who hw o hC0 hcap _ _ hask q rfl hC g7 g8 g9 g5 g6).mono (fun _ _ h => h.mono (by omega))
 ·have e : doV c n s who o = (⟨0, false, e0, (someM o.y o.t s.L o.n).map toE, 0, false⟩, s) := by unfold doV; rw [if_neg hw, if_neg he, if_neg (by omega), if_neg (by omega), if_pos q]
  rw [e]
  exact (do_look h who hw o hC0 hcap _ _ hask q rfl (by omega)).mono (fun _ _ h => h.mono (by omega))
 ·have e : doV c n s who o = (⟨(openV (s.T who) o.y o.t).2.2, false, e0, [], (openV (s.T who) o.y o.t).2.1, false⟩, ⟨s.s, s.L, setT s.T who (openV (s.T who) o.y o.t).1⟩) := by unfold doV; rw [if_neg hw, if_neg he, if_neg (by omega), if_neg (by omega), if_neg (by omega), if_pos q]
  rw [e]
  exact do_open h who hw o hC0 hcap _ _ hask q rfl h1 h2 g12 g11
 ·have e : doV c n s who o = ((nextV c.f8 s.L (s.T who) o.n).1, ⟨s.s, s.L, setT s.T who (nextV c.f8 s.L (s.T who) o.n).2⟩) := by unfold doV; rw [if_neg hw, if_neg he, if_neg (by omega), if_neg (by omega), if_neg (by omega), if_neg (by omega), if_pos q]
  rw [e]
  exact do_next h who hw o hC0 hcap _ _ hask q rfl h1 h2 g12 g4 (by omega) g10
 ·have e : doV c n s who o = (⟨(closeC (s.T who) o.n).2, false, e0, [], 0, false⟩, ⟨s.s, s.L, setT s.T who (closeC (s.T who) o.n).1⟩) := by unfold doV; rw [if_neg hw, if_neg he, if_neg (by omega), if_neg (by omega), if_neg (by omega), if_neg (by omega), if_neg (by omega)]
  rw [e]
  exact do_close h who hw o hC0 hcap _ _ hask q rfl h1 h2 g12 g4
end Go.Proofs.Ytljnlnbopohghaa.Mdl
end
section
namespace Go.Proofs.Ytljnlnbopohghaa.Mdl
open Go.RowKit Go.Shelf Go.Proofs.YtljnlnbopohghaaW.PrintWords Go.Proofs.YtljnlnbopohghaaW.PrintLast Go.Proofs.YtljnlnbopohghaaW.PrintMore Go.Proofs.Ytljnlnbopohghaa.Own Go.Proofs.Ytljnlnbopohghaa.Ord Go.Proofs.Ytljnlnbopohghaa Go.Proofs.Ytljnlnbopohghaa.P
open Go.Proofs.Ytljnlnbopohghaa.OrdSm (Hold hold_new)
set_option maxHeartbeats 2000000
set_option maxRecDepth 100000
abbrev aggC (c : Cf) : Value := .agg #[.int .i64 c.f0, .int .i64 c.f1, .int .i64 c.f2, .int .i64 c.f3, .int .i64 c.f4, .int .i64 c.f5, .int .i64 c.f6, .int .i64 c.f7, .int .i64 c.f8]
abbrev objC (c : Cf) : Obj := .cells #[.int .i64 c.f0, .int .i64 c.f1, .int .i64 c.f2, .int .i64 c.f3, .int .i64 c.f4, .int .i64 c.f5, .int .i64 c.f6, .int .i64 c.f7, .int .i64 c.f8] 47 (0, 0)
def NewV (w : World) (c : Cf) (n : Int) (e : Ending) (w' : World) : Prop := ∃ m G, e = .returned (.tuple #[.pointer (some ⟨m, 0, none⟩), .int .i64 0]) ∧ Mw G w' m c n 0 [] (fun _ => []) 0 ∧ (∀ k, k < w.heap.size → G k = 0) ∧ Below w.heap.size w w'
def OK9 (c : Cf) (a : Nat) (w : World) : Prop := w.cell? ⟨a, 0, none⟩ = some (.int .i64 c.f0) ∧ w.cell? ⟨a, 1, none⟩ = some (.int .i64 c.f1) ∧ w.cell? ⟨a, 2, none⟩ = some (.int .i64 c.f2) ∧ w.cell? ⟨a, 3, none⟩ = some (.int .i64 c.f3) ∧ w.cell? ⟨a, 4, none⟩ = some (.int .i64 c.f4) ∧ w.cell? ⟨a, 5, none⟩ = some (.int .i64 c.f5) ∧ w.cell? ⟨a, 6, none⟩ = some (.int .i64 c.f6) ∧ w.cell? ⟨a, 7, none⟩ = some (.int .i64 c.f7) ∧ w.cell? ⟨a, 8, none⟩ = some (.int .i64 c.f8)
theorem cell_below {w w' : World} {n : Nat} {a : Nat} {i : Nat} {v : Value} (h : w.cell? ⟨a, i, none⟩ = some v) (hb : Below w.heap.size w w') : w'.cell? ⟨a, i, none⟩ = some v := by
 have : a < w.heap.size := by
  rcases Nat.lt_or_ge a w.heap.size with q | q
  ·exact q
  ·exfalso
   have e : w.heap[a]? = none := by simp; omega
   simp [World.cell?, e] at h
 rw [← h]
 simp only [World.cell?, hb.block a this]
theorem OK9.below {c : Cf} {a : Nat} {w w' : World} (h : OK9 c a w) (hb : Below w.heap.size w w') : OK9 c a w' := by
 obtain ⟨h0, h1, h2, h3, h4, h5, h6, h7, h8⟩ := h
 exact ⟨cell_below (n := 0) h0 hb, cell_below (n := 0) h1 hb, cell_below (n := 0) h2 hb, cell_below (n := 0) h3 hb, cell_below (n := 0) h4 hb, cell_below (n := 0) h5 hb, cell_below (n := 0) h6 hb, cell_below (n := 0) h7 hb, cell_below (n := 0) h8 hb⟩
theorem OK9.alloc {c : Cf} {a : Nat} {w : World} (h : OK9 c a w) (o : Obj) : OK9 c a (w.alloc o) := h.below (below_alloc (Below.refl _ _) _)
theorem new_made {w W : World} {m em cb a b : Nat} {c : Cf} {n : Int} (hm : W.heap[m]? = some (objM c n em cb 0)) (hH : Hold (fun k => a ≤ k ∧ k < b) W em []) (hT : TP W cb 0 (fun _ => none)) (h1 : w.heap.size ≤ m) (h2 : w.heap.size ≤ cb) (h3 : m ≠ cb) (h4 : w.heap.size ≤ a) (h5 : ¬ (a ≤ m ∧ m < b)) (h6 : ¬ (a ≤ cb ∧ cb < b)) (hb : b ≤ W.heap.size) (hB : Below w.heap.size w W) :
  NewV w c n (.returned (.tuple #[.pointer (some ⟨m, 0, none⟩), .int .i64 0])) W := by
 have lm := blk_lt hm
 have lc := hT.lt
 refine ⟨m, fun k => if k = m then 1 else if k = cb then 2 else if a ≤ k ∧ k < b then 3 else 0, rfl, ⟨fun k hk => ?_, em, cb, 0, fun _ => none, fun _ => 0, ⟨hm, if_pos rfl, hH.mono (fun k hk => ?_), hT, ?_, Nat.le_refl _, fun _ _ => rfl, fun v q hq => by cases hq⟩⟩, fun k hk => ?_, hB⟩
 ·simp only at hk
  by_cases e1 : k = m
  ·omega
  ·by_cases e2 : k = cb
   ·omega
   ·rw [if_neg e1, if_neg e2] at hk
    by_cases e3 : a ≤ k ∧ k < b
    ·omega
    ·rw [if_neg e3] at hk; exact absurd rfl hk
 ·show (if k = m then 1 else if k = cb then 2 else if a ≤ k ∧ k < b then 3 else 0) = 3
  rw [if_neg (fun e : k = m => h5 (by rw [← e]; exact hk)), if_neg (fun e : k = cb => h6 (by rw [← e]; exact hk)), if_pos hk]
 ·show (if cb = m then 1 else if cb = cb then 2 else if a ≤ cb ∧ cb < b then 3 else 0) = 2
  rw [if_neg (fun e => h3 e.symm), if_pos rfl]
 ·show (if k = m then 1 else if k = cb then 2 else if a ≤ k ∧ k < b then 3 else 0) = 0
  rw [if_neg (by omega), if_neg (by omega), if_neg (by omega)]
theorem new_ok (w : World) (c : Cf) (n : Int) (hc : room_Check.f c.f0 c.f1 c.f2 c.f3 c.f4 c.f5 c.f6 c.f7 c.f8 = some 0) (h1 : 1 ≤ n) (h2 : n ≤ 64) :
  Calls Try.prog 34 #[aggC c, .int .i64 n] w (NewV w c n) := by
 have huc := Try.underlying47
 have hum := Try.underlying122
 have hmm := @run_makeMap Try.prog
 have hB0 : Below w.heap.size w (w.alloc (objC c)) := below_alloc (Below.refl _ _) _
 have bC := blk_new w (objC c)
 have CK := (room_Check.calls c.f0 c.f1 c.f2 c.f3 c.f4 c.f5 c.f6 c.f7 c.f8 0 (w.alloc (objC c)) hc).mono (R' := fun e w2 => e = .returned (.int .i64 0) ∧ Aside0 (Below w.heap.size w w2 ∧ w2.heap[w.heap.size]? = some (objC c))) (by
  rintro e w2 ⟨rfl, hb⟩
  exact ⟨rfl, ⟨below_then hB0 hB0.size hb, blk_below bC hb⟩⟩)
 have d0 := decide_eq_false (show ¬ n < 1 by omega)
 have d1 := decide_eq_false (show ¬ n > 64 by omega)
 have q0 : ((0 : Int) == 0) = true := rfl
 clear hB0 hc bC
 go_enter Try.func34, Try.ntmps34
 go_wp2_with (first | (go_at_call 67; refine CK.mono ?_; clear CK; rintro e w2 ⟨rfl, hA2⟩))
 obtain ⟨hB2, bC2⟩ := hA2.out
 have bC3 : w2.drew.heap[w.heap.size]? = _ := bC2
 have u0 := blk_cell bC3 0
 have u1 := blk_cell bC3 1
 have u2 := blk_cell bC3 2
 have u3 := blk_cell bC3 3
 have u4 := blk_cell bC3 4
 have u5 := blk_cell bC3 5
 have u6 := blk_cell bC3 6
 have u7 := blk_cell bC3 7
 have u8 := blk_cell bC3 8
 simp at u0 u1 u2 u3 u4 u5 u6 u7 u8
 have hN0 : ∀ W, OK9 c w.heap.size W → Calls Try.prog 68 #[] W fun e w' => ∃ em, e = .returned (.pointer (some ⟨em, 0, none⟩)) ∧ OK9 c w.heap.size w' ∧ Aside0 (Hold (fun k => W.heap.size ≤ k) w' em [] ∧ Below W.heap.size W w') := fun W hW => (hold_new W).mono (by
  rintro e w' ⟨em, rfl, hH, hb⟩
  exact ⟨em, rfl, hW.below hb, ⟨hH, hb⟩⟩)
 clear hB2 bC2 bC3
 have hOK : OK9 c w.heap.size w2.drew := ⟨u0, u1, u2, u3, u4, u5, u6, u7, u8⟩
 go_region_held3 (fun w' => w'.cell? ⟨w.heap.size, 0, none⟩ = some (.int .i64 c.f0) ∧ w'.cell? ⟨w.heap.size, 1, none⟩ = some (.int .i64 c.f1) ∧ w'.cell? ⟨w.heap.size, 2, none⟩ = some (.int .i64 c.f2) ∧ w'.cell? ⟨w.heap.size, 3, none⟩ = some (.int .i64 c.f3) ∧ w'.cell? ⟨w.heap.size, 4, none⟩ = some (.int .i64 c.f4) ∧ w'.cell? ⟨w.heap.size, 5, none⟩ = some (.int .i64 c.f5) ∧ w'.cell? ⟨w.heap.size, 6, none⟩ = some (.int .i64 c.f6) ∧ w'.cell? ⟨w.heap.size, 7, none⟩ = some (.int .i64 c.f7) ∧ w'.cell? ⟨w.heap.size, 8, none⟩ = some (.int .i64 c.f8)) (first | exact ⟨by assumption, by assumption, by assumption, by assumption, by assumption, by assumption, by assumption, by assumption, by assumption⟩ | exact hOK | exact hOK.alloc _ | exact (OK9.alloc (by assumption) _) | exact ((hOK.alloc _).alloc _) | exact (OK9.alloc (OK9.alloc (by assumption) _) _))
   (first
    | (go_at_call 68; (first | refine (hN0 _ hOK).mono ?_ | refine (hN0 _ (hOK.alloc _)).mono ?_); rintro x w3 ⟨em, rfl, hOK3, hA3⟩; obtain ⟨y0, y1, y2, y3, y4, y5, y6, y7, y8⟩ := id hOK3))
 ·go_wp2
  go_ret2
  obtain ⟨hB2, bC2⟩ := hA2.out
  obtain ⟨hH3, hb3⟩ := hA3.out
  have hB2d := below_drew1 hB2
  have hB3 := below_then hB2d hB2d.size hb3
  have sw := hB2d.size
  have s3 := hb3.size
  have hB5 : Below w.heap.size w ((w3.alloc (.map #[] 0)).alloc (objM c n em w3.heap.size 0)) := below_alloc (below_alloc hB3 _) _
  have hm5 := blk_new (w3.alloc (.map #[] 0)) (objM c n em w3.heap.size 0)
  rw [World.size_alloc] at hm5
  have g : Below w3.heap.size w3 ((w3.alloc (.map #[] 0)).alloc (objM c n em w3.heap.size 0)) := below_alloc (below_alloc (Below.refl _ _) _) _
  exact new_made (a := w2.drew.heap.size) (b := w3.heap.size) hm5 (hH3.bound.below g) ((TP.made w3).fr ((below_alloc (Below.refl (w3.alloc (.map #[] 0)).heap.size (w3.alloc (.map #[] 0))) (objM c n em w3.heap.size 0)).block _ (by simp))) (by omega) (by omega) (by omega) (by omega) (by omega) (by omega) g.size hB5
 ·go_wp2
  go_ret2
  obtain ⟨hB2, bC2⟩ := hA2.out
  obtain ⟨hH3, hb3⟩ := hA3.out
  have hB2d := below_drew1 hB2
  have sw := hB2d.size
  have hBm : Below w.heap.size w (w2.drew.alloc (.map #[] 0)) := below_alloc hB2d _
  have sm := hBm.size
  have hB3 := below_then hBm hBm.size hb3
  have s3 := hb3.size
  have sd : (w2.drew.alloc (.map #[] 0)).heap.size = w2.drew.heap.size + 1 := by simp
  have hm5 := blk_new w3 (objM c n em w2.drew.heap.size 0)
  have hT3 : TP w3 w2.drew.heap.size 0 (fun _ => none) := (TP.made w2.drew).fr (hb3.block _ (by omega))
  exact new_made (a := (w2.drew.alloc (.map #[] 0)).heap.size) (b := w3.heap.size) hm5 (hH3.bound.below (below_alloc (Below.refl _ _) _)) (hT3.fr ((below_alloc (Below.refl w3.heap.size w3) (objM c n em w2.drew.heap.size 0)).block _ (by omega))) (by omega) (by omega) (by omega) (by omega) (by omega) (by omega) (by simp) (below_alloc hB3 _)
end Go.Proofs.Ytljnlnbopohghaa.Mdl
end
