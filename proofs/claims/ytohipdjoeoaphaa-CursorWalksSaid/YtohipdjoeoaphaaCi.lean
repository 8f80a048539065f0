/- CursorRises, walked. -/
import Derived.Test.YtohipdjoeoaphaaCh
import Derived.Test.YtohipdjoeoaphaaKd
set_option linter.unusedVariables false
set_option linter.unusedSimpArgs false
namespace Go.Proofs.Ytohipdjoeoaphaa.Cur
open Go Go.RowKit Go.Maps Go.Proofs.YtohipdjoeoaphaaW.PrintWords Go.Proofs.YtohipdjoeoaphaaW.PrintLast Go.Proofs.YtohipdjoeoaphaaW.PrintMore Go.Proofs.Ytohipdjoeoaphaa.Own Go.Proofs.Ytohipdjoeoaphaa.Ord Go.Proofs.Ytohipdjoeoaphaa.P
set_option maxHeartbeats 2000000
set_option maxRecDepth 100000
abbrev Dd := P.S34
theorem new_ex (w : World) : Calls Try.prog 5 #[] w fun e w' => ∃ p b, e = .returned (.pointer (some ⟨p, 0, none⟩)) ∧ w.heap.size ≤ p ∧ w.heap.size ≤ b ∧ Tb w' p b 0 0 (fun _ => none) 0 ∧ Below w.heap.size w w' :=
  (new_any w).mono fun e w' q => ⟨_, _, q.1, by omega, by omega, q.2.1, q.2.2⟩
theorem at_D {w : World} {A : Option Addr} {n : Nat} {xs : List Dd} (h : Kd.C P.k34 w A n xs) (i : Int) (h0 : 0 ≤ i) (h1 : i < n) : ∃ ad, ∃ x : Dd, ∃ A5 c5, A = some ad ∧ xs[i.toNat]? = some x ∧ w.cell? (ad.add (i.toNat * 6)) = some (.int .i64 x.f0) ∧
    w.cell? ⟨(ad.add (i.toNat * 6)).block, (ad.add (i.toNat * 6)).off + 1, none⟩ = some (.int .i64 x.f1) ∧ w.cell? ⟨(ad.add (i.toNat * 6)).block, (ad.add (i.toNat * 6)).off + 2, none⟩ = some (.int .i64 x.f2) ∧ w.cell? ⟨(ad.add (i.toNat * 6)).block, (ad.add (i.toNat * 6)).off + 3, none⟩ = some (.string x.f3.f0) ∧
    w.cell? ⟨(ad.add (i.toNat * 6)).block, (ad.add (i.toNat * 6)).off + 4, none⟩ = some (.string x.f3.f1) ∧ w.cell? ⟨(ad.add (i.toNat * 6)).block, (ad.add (i.toNat * 6)).off + 5, none⟩ = some (.slice A5 x.f4.length c5) ∧ x.f4.length ≤ c5 ∧ Kd.C P.k39 w A5 x.f4.length x.f4 := by
  obtain ⟨ad, c, e, _, hK, hc0⟩ := Kd.C_get h P.z34 i h0 h1
  have hc : ∀ j u, c[j]? = some u → w.cell? (ad.add (i.toNat * 6 + j)) = some u := hc0
  obtain ⟨A5, c5, rfl, q, r⟩ := P.k34_open hK
  have hl := h.1
  refine ⟨ad, _, A5, c5, e, ?_, hc 0 _ rfl, by rw [← add_field _ _ 1 (by omega)]; exact hc 1 _ rfl, by rw [← add_field _ _ 2 (by omega)]; exact hc 2 _ rfl, by rw [← add_field _ _ 3 (by omega)]; exact hc 3 _ rfl, by rw [← add_field _ _ 4 (by omega)]; exact hc 4 _ rfl, by rw [← add_field _ _ 5 (by omega)]; exact hc 5 _ rfl, q, r⟩
  rw [List.getD_eq_getElem?_getD, List.getElem?_eq_getElem (by omega)]
  rfl
theorem cell_below {w W : World} (hb : Below w.heap.size w W) {a : Addr} {v : Value} (h : w.cell? a = some v) : W.cell? a = some v := (World.cell?_of_block (hb.block a.block (World.block_lt_of_cell? w a h))).trans h
theorem rises_no {w : World} {A : Option Addr} {c : Nat} {l : List Dd} (f t : ByteArray) (hr : rrB f t = false) :
    Calls Try.prog 3 #[.agg #[.string f, .string t], .slice A l.length c] w fun e w' => e = .returned (.bool true) ∧ Below w.heap.size w w' := by
  have hur := Try.underlying23
  have hB0 : Below w.heap.size w (w.alloc (.cells #[.string f, .string t] 23)) := below_alloc (Below.refl _ _) _
  have hx0 := blk_new w (.cells #[.string f, .string t] 23)
  have NW := new_ex (w.alloc (.cells #[.string f, .string t] 23))
  go_enter Try.func3, Try.ntmps3
  go_wp2_with (first
    | (go_at_call 5; refine NW.mono ?_; clear NW; rintro e w1 ⟨p, b, rfl, hp, hb, hT1, hB1⟩; have hO := open_no (w := w1) (p := p) f t hr; have hx1 := blk_below hx0 hB1; have hB2 := below_step hB0 hB1; have c0 := blk_cell hx1 0; have c1 := blk_cell hx1 1; simp at c0 c1; clear hT1 hB0 hB1 hx0)
    | (go_at_call 6; refine hO.mono ?_; clear hO; rintro e w2 ⟨rfl, hB3⟩; have hx2 := blk_below hx1 hB3; have hB4 := below_step hB2 hB3; have LV := live_any w2; clear hB2 hB3 hx1 c0 c1)
    | (go_at_call 7; refine LV.mono ?_; clear LV; rintro e w3 ⟨rfl, hB5⟩; have hx3 := blk_below hx2 hB5; have hB6 := below_step hB4 hB5; clear hB4 hB5 hx2; have c0 := blk_cell hx3 0; have c1 := blk_cell hx3 1; simp at c0 c1)
    | (go_at_call 8; refine (catchmentref02_Right.calls f t false _ ((right_eq f t).trans (by rw [hr]))).mono ?_; rintro e w4 ⟨rfl, hB7⟩))
  go_ret
  exact ⟨rfl, below_step hB6 hB7⟩
/-- What holds between two rounds: the box of the range, the table, what was told. -/
structure Mid (w : World) (p b : Nat) (f t : ByteArray) (x : X) (v : Value) (T : List En) (n : Nat) (W : World) : Prop where
  box : W.heap[w.heap.size]? = some (.cells #[.string f, .string t] 23 (0, 0))
  tab : ∃ F : Int → Option X, F 1 = some x ∧ Tb W p b 1 n F 1
  row : Kd.R P.k39 39 W w.heap.size (fun k => k ≠ p ∧ k ≠ b ∧ k ≠ w.heap.size) v T
  bel : Below w.heap.size w W
  lb : w.heap.size ≤ b
theorem Mid.below {w W W' : World} {p b n : Nat} {f t : ByteArray} {x : X} {v : Value} {T : List En} (h : Mid w p b f t x v T n W) (hb : Below W.heap.size W W') : Mid w p b f t x v T n W' := by
  obtain ⟨F, h1, h2⟩ := h.tab
  exact ⟨blk_below h.box hb, ⟨F, h1, h2.fr (B := []) (Fr.of_below hb) (by simp) (by simp)⟩, Kd.R_below h.row hb, below_step h.bel hb, h.lb⟩
theorem Tb.ne_cells {w : World} {p b n c : Nat} {last : Int} {F : Int → Option X} (h : Tb w p b last n F c) {g : Nat} {cs : Array Value} {t : TypeId} (hg : w.heap[g]? = some (.cells cs t (0, 0))) : g ≠ b := by
  rintro rfl
  obtain ⟨D, ⟨es, clock, hb, _⟩, _⟩ := h.map
  rw [hg] at hb
  cases hb
theorem Mid.took {w W : World} {p b n : Nat} {f t : ByteArray} {x : X} {v : Value} {T : List En} (h : Mid w p b f t x v T n W) (hn : n < 1000000) {A : Option Addr} {cl : Nat} {L : List En} (hC : Kd.C P.k39 W A L.length L) (hcap : L.length ≤ cl) (most : Int) (hsz : ∀ x ∈ L, x.f0.size ≤ 140737488351232) (hlen : L.length ≤ 1000000) :
    Calls Try.prog 9 #[.pointer (some ⟨p, 0, none⟩), .int .i64 1, .slice A L.length cl, .int .i64 most] W fun e w' => e = .returned (.tuple #[.bool (tookV (some x) L most).1, .int .i64 (tookV (some x) L most).2.1]) ∧ Mid w p b f t ((tookV (some x) L most).2.2.getD x) v T (n + 1) w' ∧ Fr [b] W w' := by
  obtain ⟨F, h1, h2⟩ := h.tab
  have ht := took_any h2 1 (wf_small (by omega) (by omega)) hC hcap most hn hsz hlen
  rw [h1] at ht
  refine ht.mono fun e w' q => ⟨q.1, ⟨q.2.2.blk h.box (by simpa using h2.ne_cells h.box), ?_, ?_, ?_, h.lb⟩, q.2.2⟩
  · refine ⟨_, ?_, q.2.1⟩
    cases (tookV (some x) L most).2.2 with
    | none => exact h1
    | some y => exact upd_same _ _ _
  · exact Kd.R_step h.row (fun k hk hlt => q.2.2.block k hlt (by simpa using hk.2.1))
  · refine ((Fr.of_below (B := []) h.bel).trans q.2.2 (fun y hy => ?_)).below (by simp) (Nat.le_refl _)
    simp at hy
    subst hy
    exact .inr h.lb
theorem TM.kept {w w' : World} {b n c : Nat} {F : Int → Option X} (h : TM w b n F c) {row : Option Nat} (hg : w.grownBy w' row) (hne : some b ≠ row) : TM w' b n F c := by
  obtain ⟨D, h1, h2, h3⟩ := h
  exact ⟨D, h1.kept hg hne, h2, h3⟩
theorem Mid.fresh {w W : World} {p b n : Nat} {f t : ByteArray} {x : X} {v : Value} {T : List En} (h : Mid w p b f t x v T n W) : ∀ k, W.heap.size ≤ k → k ≠ p ∧ k ≠ b ∧ k ≠ w.heap.size := fun k hk => by
  obtain ⟨F, _, h2⟩ := h.tab
  have h3 := blk_lt h2.blk
  have h4 := h2.map.lt
  have h5 := blk_lt h.box
  omega
theorem Mid.grown {w W W' : World} {p b n : Nat} {f t : ByteArray} {x : X} {v v' : Value} {T T' : List En} (h : Mid w p b f t x v T n W) (hg : W.grownBy W' v.ownBlock) (hr : Kd.R P.k39 39 W' w.heap.size (fun k => k ≠ p ∧ k ≠ b ∧ k ≠ w.heap.size) v' T') (hb : Below w.heap.size w W') : Mid w p b f t x v' T' n W' := by
  obtain ⟨F, h1, h2⟩ := h.tab
  exact ⟨blk_grown h.box hg (Kd.R_away h.row (fun k hk => hk.2.2)), ⟨F, h1, blk_grown h2.blk hg (Kd.R_away h.row (fun k hk => hk.1)), h2.map.kept hg (Kd.R_away h.row (fun k hk => hk.2.1))⟩, hr, hb, h.lb⟩
theorem rises_yes {w : World} {A : Option Addr} {c : Nat} {l : List Dd} (f t : ByteArray) (hr : rrB f t = true) (hC : Kd.C P.k34 w A l.length l) (hcap : l.length ≤ c) (hwf : ∀ d ∈ l, ∀ y ∈ d.f4, y.f0.size ≤ 140737488351232) :
    Calls Try.prog 3 #[.agg #[.string f, .string t], .slice A l.length c] w fun e w' => e = .returned (.bool true) ∧ Below w.heap.size w w' := by
  have hur := Try.underlying23
  have hmax := Kd.C_max hC
  have hB0 : Below w.heap.size w (w.alloc (.cells #[.string f, .string t] 23)) := below_alloc (Below.refl _ _) _
  have hx0 := blk_new w (.cells #[.string f, .string t] 23)
  have NW := new_ex (w.alloc (.cells #[.string f, .string t] 23))
  rw [World.size_alloc] at NW
  have hcA : Aside (1 = (if ((fun _ => none : Int → Option X) (0 + 1)).isSome then 0 else 0 + 1)) := rfl
  go_enter Try.func3, Try.ntmps3
  go_wp2_with (first
    | (go_at_call 5; refine NW.mono ?_; clear NW; rintro e w1 ⟨p, b, rfl, hp, hb, hT1, hB1⟩; have hO := open_yes hT1 (by omega) (by omega) (by omega) f t hr hcA; have hx1 := blk_below hx0 (by rw [World.size_alloc]; exact hB1); have hB2 := below_step hB0 (by rw [World.size_alloc]; exact hB1); have c0 := blk_cell hx1 0; have c1 := blk_cell hx1 1; simp at c0 c1; clear hT1 hB0 hB1 hx0)
    | (go_at_call 6; refine hO.mono ?_; clear hO; rintro e w2 ⟨rfl, hT2, f2⟩; have hM : Mid w p b f t (f, t, false) (.slice none 0 0) [] 1 w2 := ⟨f2.blk hx1 (by simp; omega), ⟨_, upd_same _ _ _, hT2⟩, Kd.R_nil _ _ _ _ _, ((Fr.of_below (B := []) hB2).trans f2 (fun x hx => .inr (by simp at hx; omega))).below (by simp) (Nat.le_refl _), by omega⟩; clear hx1 hB2 hT2 f2 c0 c1))
  clear hcA hr
  go_loopg [8, 9] 60 (fun g tv iv wr => ∃ (i : Int) (T : List En) (x : X) (n : Nat), iv = .int .i64 i ∧ Aside (0 ≤ i ∧ i.toNat + g = 60 ∧ T.length ≤ 20 * i.toNat ∧ n ≤ i.toNat + 1 ∧ Inv f t x T) ∧ Mid w p b f t x tv T n wr)
  case atStart => exact ⟨0, [], _, 1, rfl, ⟨Int.le_refl _, rfl, by simp, by simp, Inv.start f t⟩, hM⟩
  case round =>
    clear hM
    obtain ⟨i, T, x, n, rfl, hA, hM⟩ := hrel
    obtain ⟨h0, hg, hTl, hn, hI⟩ := hA.out
    obtain ⟨A8, c8, rfl⟩ := Kd.R_slice hM.row
    by_cases hA1 : i < l.length ∧ i < 60
    · obtain ⟨hA1, hA2⟩ := hA1
      cases gk with
      | zero => omega
      | succ g =>
        obtain ⟨ad, d, A5, c5, rfl, hdj, q0, q1, q2, q3, q4, q5, hc5, hC5w⟩ := at_D hC i h0 hA1
        replace q0 := cell_below hM.bel q0
        replace q1 := cell_below hM.bel q1
        replace q2 := cell_below hM.bel q2
        replace q3 := cell_below hM.bel q3
        replace q4 := cell_below hM.bel q4
        replace q5 := cell_below hM.bel q5
        have hC5 := Kd.C_below hC5w hM.bel
        replace hC5w := Aside0.mk hC5w
        have hwd := hwf d (List.mem_of_getElem? hdj)
        have hwfA : Aside (∀ y ∈ d.f4, y.f0.size ≤ 140737488351232) := fun y hy => hwd y hy
        have d0 := decide_eq_true h0
        have d1 := decide_eq_true hA1
        have d2 := decide_eq_true hA2
        have p0 := eq_true h0
        have p1 := eq_true hA1
        have hwi : wrap64 (i + 1) = i + 1 := IntWalk.wrap64_in _ (by omega)
        have hWf := Aside0.mk hwf
        have hIA := Aside0.mk hI
        have hgA := Aside0.mk (And.intro h0 (And.intro hg (And.intro hTl hn)))
        have hCA := Aside0.mk hC
        have hcapA := Aside0.mk hcap
        have hM1 := hM.below (below_alloc (Below.refl _ _) (.cells #[.int .i64 d.f0, .int .i64 d.f1, .int .i64 d.f2, .string d.f3.f0, .string d.f3.f1, .slice A5 d.f4.length c5] 34))
        have hd1 := blk_new wr (.cells #[.int .i64 d.f0, .int .i64 d.f1, .int .i64 d.f2, .string d.f3.f0, .string d.f3.f1, .slice A5 d.f4.length c5] 34)
        have hC6 := Kd.C_alloc hC5 (.cells #[.int .i64 d.f0, .int .i64 d.f1, .int .i64 d.f2, .string d.f3.f0, .string d.f3.f1, .slice A5 d.f4.length c5] 34)
        by_cases hbig : (20 : Int) < d.f4.length
        · have db := decide_eq_true hbig
          clear hwf hI hC hcap hC5 hC6 hM hd1 hwd hdj hg hTl hn hbig hA1 hA2 h0 hA
          go_wp2
          go_roundg g
          case measure => omega
          case rel =>
            obtain ⟨e0, eg, eT, en⟩ := hgA.out
            exact ⟨i + 1, T, x, n, by rw [hwi], ⟨by omega, by omega, by omega, by omega, hIA.out⟩, hM1⟩
        · have db := decide_eq_false hbig
          have hTk := hM1.took (by omega) hC6 hc5 d.f2 hwfA.out (by omega)
          have hlen20 : d.f4.length ≤ 20 := by omega
          have hcase : (∃ q, tookV (some x) d.f4 d.f2 = (false, q, none) ∧ q ≠ 0) ∨ ∃ ee x', tookV (some x) d.f4 d.f2 = (ee, 0, some x') ∧ Inv f t x' (T ++ d.f4) := by
            rcases took_cases x d.f4 d.f2 with hq | ⟨i1, i2, _, _, ⟨j1, j2, j3⟩ | ⟨j1, _, j3⟩ | ⟨j1, _, z, j2, j3⟩⟩
            · exact .inl hq
            · exact .inr ⟨_, _, j3, hI.step i1 i2 (fun _ => j2) _ (.inl rfl)⟩
            · exact .inr ⟨_, _, j3, hI.step i1 i2 (fun e => by rw [e] at j1; cases j1) _ (.inl rfl)⟩
            · exact .inr ⟨_, _, j3, hI.step i1 i2 (fun e => by rw [e] at j1; cases j1) _ (.inr ⟨j1, z, j2, rfl⟩)⟩
          rcases hcase with ⟨q, hq, hq0⟩ | ⟨ee, x', hq, hI'⟩
          · rw [hq] at hTk
            have dq := decide_eq_false hq0
            have dq2 : (q == 0) = false := by simpa using hq0
            have hlA := Aside0.mk hlen20
            clear hwf hI hC hcap hC5 hC6 hM hd1 hwd hdj hg hTl hn hbig hA1 hA2 h0 hA hq hq0 hM1 hlen20
            go_wp2_with (go_at_call 9; refine hTk.mono ?_; clear hTk; rintro e w3 ⟨rfl, hM3, f3⟩)
            go_roundg g
            case measure => omega
            case rel =>
              obtain ⟨e0, eg, eT, en⟩ := hgA.out
              exact ⟨i + 1, T, x, n + 1, by rw [hwi], ⟨by omega, by omega, by omega, by omega, hIA.out⟩, hM3⟩
          · rw [hq] at hTk
            have hIA' := Aside0.mk hI'
            have hlA := Aside0.mk hlen20
            have hdlt : wr.heap.size ≠ b := hM1.tab.elim fun F hF => hF.2.ne_cells hd1
            have hrow := hM1.row
            have hdA := Aside0.mk hd1
            have hC6A := Aside0.mk hC6
            have hM1A := Aside0.mk hM1
            clear hwf hI hC hcap hC5 hC6 hM hd1 hwd hdj hg hTl hn hbig hA1 hA2 h0 hA hq hI' hM1 hlen20 hrow
            go_wp2_with (first
              | (go_at_call 9; refine hTk.mono ?_; clear hTk; rintro e w3 ⟨rfl, hM3, f3⟩; have hd3 := f3.blk hdA.out (by simpa using hdlt); have c5' := blk_cell hd3 5; simp at c5'; have hC7 := Kd.C_below hC5w.out hM3.bel; have hro := hM3.row)
              | (at_builtin; refine Kd.R_append_rows P.k39 (w0 := w) w.heap.size rfl _ _ 32 39 (.agg #[(.string ⟨#[]⟩), (.string ⟨#[]⟩)]) 32 rfl Try.underlying32 P.info39 rfl (by decide) (by omega) _ T d.f4 A5 d.f4.length c5 (fun k => k ≠ p ∧ k ≠ b ∧ k ≠ w.heap.size) (fun _ => False) rfl rfl hro hC7 (fun y cs hy => by obtain rfl := P.k39_open hy; exact P.k39_mkM _ _ _ _) (fun _ hk => hk.elim) ?aF hM3.bel ?aS ?aL ?_; (case aL => have e1 := hgA.out; have e2 := hlA.out; omega); (case aS => exact hM3.bel.size); (case aF => exact hM3.fresh); intro v9 w9 ho9 hB9 hg9 hat9; have hM9 := hM3.grown hg9 ho9 hB9))
            clear hC7 hro c5' hd3 hM3 ho9 hB9 hg9 hat9 f3
            go_roundg g
            case measure => omega
            case rel =>
              obtain ⟨e0, eg, eT, en⟩ := hgA.out
              have e5 := hlA.out
              exact ⟨i + 1, T ++ d.f4, x', n + 1, by rw [hwi], ⟨by omega, by omega, by rw [List.length_append]; omega, by omega, hIA'.out⟩, hM9⟩
    · by_cases hA2 : i < l.length
      · have d1 := decide_eq_true hA2
        have d2 : decide (i < 60) = false := decide_eq_false (fun h => hA1 ⟨hA2, h⟩)
        clear hA1 hA2
        have hTA : Aside0 (T.length ≤ 1200) := ⟨by omega⟩
        have hIA := Aside0.mk hI
        have hA0 := Aside0.mk hM
        clear hI hwf hg hTl hn hA
        go_wp2
        clear d1 d2
        go_loopg [13] T.length (fun g iv wr2 => ∃ j : Int, iv = .int .i64 j ∧ Aside (0 ≤ j ∧ j.toNat + g = T.length) ∧ Mid w p b f t x (.slice A8 T.length c8) T n wr2)
        case atStart => exact ⟨0, rfl, ⟨Int.le_refl _, by simp⟩, hA0.out⟩
        case round =>
          obtain ⟨j, rfl, hj, hM2⟩ := hrel
          obtain ⟨j0, jg⟩ := hj.out
          clear hA0 hM
          obtain ⟨_, hc8, hC8⟩ := Kd.R_reads' hM2.row
          have hmx8 := Kd.C_max hC8
          have hbx := hM2.box
          have hbl := hM2.bel
          have hIA2 := hIA.out
          cases gk with
          | zero =>
            have e0 : decide (j < (T.length : Int)) = false := decide_eq_false (by omega)
            have LV := fun W => live_any W
            have RI := ref_eq 0 T (by have := hTA.out; omega)
            rw [hIA2.inc] at RI
            clear hIA2 hM2 hbx j0 jg hj hIA
            go_wp2_with (first
              | (go_at_call 7; refine (LV _).mono ?_; clear LV; rintro e w5 ⟨rfl, hB5⟩; have hC9 := Kd.C_below hC8 hB5; have hB6 := below_step hbl hB5; clear hB5 hbl hC8)
              | (go_at_call 11; refine (catchmentref05_Rises.calls _ A8 c8 T true _ hC9 hc8 RI).mono ?_; rintro e w6 ⟨rfl, hD6⟩; have hB7 := below_step hB6 hD6.below; clear hD6 hB6))
            go_ret
            exact ⟨rfl, hB7⟩
          | succ g =>
            have hlt : j < (T.length : Int) := by omega
            obtain ⟨a9, y, hA9, hyj, z0, z1⟩ := at_E hC8 j j0 hlt
            subst hA9
            have hold := hIA2.hold y (List.mem_of_getElem? hyj)
            have HO := (holds2_eq f t y.f0).trans (by rw [hold])
            have e0 := decide_eq_true hlt
            have e1 := decide_eq_true j0
            have e2 := eq_true j0
            have e3 := eq_true hlt
            have hwj : wrap64 (j + 1) = j + 1 := IntWalk.wrap64_in _ (by omega)
            have hMA := Aside0.mk hM2
            have hjA := Aside0.mk (And.intro j0 jg)
            clear hIA2 hM2 hold hyj j0 jg hj hlt hC8
            go_wp2
            have b0 := blk_cell hbx 0
            have b1 := blk_cell hbx 1
            simp at b0 b1
            refine still_tail 6 (by kernel_rfl) (by kernel_rfl) (fun W hW => ?_)
            simp only [List.take_succ_cons, List.take_zero, List.drop_succ_cons, List.drop_zero]
            have hbx2 : W.heap[w.heap.size]? = some (.cells #[.string f, .string t] 23 (0, 0)) := by rw [hW]; exact blk_drew hbx
            have zz0 : W.cell? (a9.add (j.toNat * 2)) = some (.string y.f0) := by rw [hW]; exact z0
            have hM3 := hMA.out.below (below_drew1 (Below.refl _ _))
            rw [← hW] at hM3
            clear hW hbx b0 b1 z0 z1
            have b0 := blk_cell hbx2 0
            have b1 := blk_cell hbx2 1
            simp at b0 b1
            have hM3A := Aside0.mk hM3
            clear hM3 hMA
            iterate 6 still_step
            refine wpStill_nil ?_
            go_wp2_with (go_at_call 10; refine (catchmentref02_Holds.calls f t y.f0 true _ HO).mono ?_; rintro e w7 ⟨rfl, hB7⟩; have hM7 := Aside0.mk (hM3A.out.below hB7); clear hB7)
            go_roundg g
            case measure => omega
            case rel =>
              obtain ⟨j0, jg⟩ := hjA.out
              exact ⟨j + 1, by rw [hwj], ⟨by omega, by omega⟩, hM7.out⟩
      · have d1 := decide_eq_false hA2
        clear hA1 hA2
        have hTA : Aside0 (T.length ≤ 1200) := ⟨by omega⟩
        have hIA := Aside0.mk hI
        have hA0 := Aside0.mk hM
        clear hI hwf hg hTl hn hA
        go_wp2
        clear d1
        go_loopg [13] T.length (fun g iv wr2 => ∃ j : Int, iv = .int .i64 j ∧ Aside (0 ≤ j ∧ j.toNat + g = T.length) ∧ Mid w p b f t x (.slice A8 T.length c8) T n wr2)
        case atStart => exact ⟨0, rfl, ⟨Int.le_refl _, by simp⟩, hA0.out⟩
        case round =>
          obtain ⟨j, rfl, hj, hM2⟩ := hrel
          obtain ⟨j0, jg⟩ := hj.out
          clear hA0 hM
          obtain ⟨_, hc8, hC8⟩ := Kd.R_reads' hM2.row
          have hmx8 := Kd.C_max hC8
          have hbx := hM2.box
          have hbl := hM2.bel
          have hIA2 := hIA.out
          cases gk with
          | zero =>
            have e0 : decide (j < (T.length : Int)) = false := decide_eq_false (by omega)
            have LV := fun W => live_any W
            have RI := ref_eq 0 T (by have := hTA.out; omega)
            rw [hIA2.inc] at RI
            clear hIA2 hM2 hbx j0 jg hj hIA
            go_wp2_with (first
              | (go_at_call 7; refine (LV _).mono ?_; clear LV; rintro e w5 ⟨rfl, hB5⟩; have hC9 := Kd.C_below hC8 hB5; have hB6 := below_step hbl hB5; clear hB5 hbl hC8)
              | (go_at_call 11; refine (catchmentref05_Rises.calls _ A8 c8 T true _ hC9 hc8 RI).mono ?_; rintro e w6 ⟨rfl, hD6⟩; have hB7 := below_step hB6 hD6.below; clear hD6 hB6))
            go_ret
            exact ⟨rfl, hB7⟩
          | succ g =>
            have hlt : j < (T.length : Int) := by omega
            obtain ⟨a9, y, hA9, hyj, z0, z1⟩ := at_E hC8 j j0 hlt
            subst hA9
            have hold := hIA2.hold y (List.mem_of_getElem? hyj)
            have HO := (holds2_eq f t y.f0).trans (by rw [hold])
            have e0 := decide_eq_true hlt
            have e1 := decide_eq_true j0
            have e2 := eq_true j0
            have e3 := eq_true hlt
            have hwj : wrap64 (j + 1) = j + 1 := IntWalk.wrap64_in _ (by omega)
            have hMA := Aside0.mk hM2
            have hjA := Aside0.mk (And.intro j0 jg)
            clear hIA2 hM2 hold hyj j0 jg hj hlt hC8
            go_wp2
            have b0 := blk_cell hbx 0
            have b1 := blk_cell hbx 1
            simp at b0 b1
            refine still_tail 6 (by kernel_rfl) (by kernel_rfl) (fun W hW => ?_)
            simp only [List.take_succ_cons, List.take_zero, List.drop_succ_cons, List.drop_zero]
            have hbx2 : W.heap[w.heap.size]? = some (.cells #[.string f, .string t] 23 (0, 0)) := by rw [hW]; exact blk_drew hbx
            have zz0 : W.cell? (a9.add (j.toNat * 2)) = some (.string y.f0) := by rw [hW]; exact z0
            have hM3 := hMA.out.below (below_drew1 (Below.refl _ _))
            rw [← hW] at hM3
            clear hW hbx b0 b1 z0 z1
            have b0 := blk_cell hbx2 0
            have b1 := blk_cell hbx2 1
            simp at b0 b1
            have hM3A := Aside0.mk hM3
            clear hM3 hMA
            iterate 6 still_step
            refine wpStill_nil ?_
            go_wp2_with (go_at_call 10; refine (catchmentref02_Holds.calls f t y.f0 true _ HO).mono ?_; rintro e w7 ⟨rfl, hB7⟩; have hM7 := Aside0.mk (hM3A.out.below hB7); clear hB7)
            go_roundg g
            case measure => omega
            case rel =>
              obtain ⟨j0, jg⟩ := hjA.out
              exact ⟨j + 1, by rw [hwj], ⟨by omega, by omega⟩, hM7.out⟩
end Go.Proofs.Ytohipdjoeoaphaa.Cur
