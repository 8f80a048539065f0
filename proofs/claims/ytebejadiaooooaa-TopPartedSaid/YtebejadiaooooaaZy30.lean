/- Texts of one claim (laid by shake.py). -/
import Derived.Test.YtebejadiaooooaaZy29
set_option linter.unusedVariables false
set_option linter.unusedSimpArgs false
section
namespace Go.Proofs.Ytebejadiaooooaa.Cp
open Go.RowKit Go.Shelf Go.Proofs.YtebejadiaooooaaW.PrintWords Go.Proofs.YtebejadiaooooaaW.PrintLast Go.Proofs.YtebejadiaooooaaW.PrintMore Go.Proofs.Ytebejadiaooooaa.Own Go.Proofs.Ytebejadiaooooaa
open List renaming setIfInBounds_toArray → sA1, set_cons_zero → sA2, set_cons_succ → sA3, getElem_toArray → sA4, getElem_cons_zero → sA5, getElem_cons_succ → sA6
set_option maxHeartbeats 8000000
set_option maxRecDepth 100000
theorem listT9 : rtab .any (opsOf Try.f16 9) = rtab .any (opsOf Try.f16 9) := rfl
theorem right_any (f t : ByteArray) (W : World) : Calls Try.prog 53 #[.agg #[.string f, .string t]] W fun e w' => e = .returned (.bool (P.rr f t)) ∧ Below W.heap.size W w' := P.key_RightRange.calls _ _ _ W (P.RightRange_eq _ _)
theorem foldl_take {l : List Ms} {i : Nat} {x : Ms} (hx : l[i]? = some x) : P.listV (l.take (i + 1)) = P.stepV (P.listV (l.take i)) x := by
 unfold P.listV
 rw [List.take_add_one, hx, List.foldl_append]
 rfl
theorem listV_bound : ∀ (l : List Ms) (o : List Ms), (l.foldl P.stepV o).length ≤ o.length + l.length
 | [], o => by simp
 | m :: l, o => by
  have h1 := listV_bound l (P.stepV o m)
  have h2 := P.stepV_length o m
  simp only [List.foldl_cons, List.length_cons]
  omega
theorem listV_okS : ∀ (l : List Ms) (o : List Ms), (∀ x ∈ l, P.okS x) → (∀ x ∈ o, P.okS x) → ∀ x ∈ l.foldl P.stepV o, P.okS x
 | [], o, _, ho => ho
 | m :: l, o, hl, ho => listV_okS l (P.stepV o m) (fun x hx => hl x (List.mem_cons_of_mem _ hx)) (P.stepV_okS o m ho (hl m (by simp)))
theorem list_any {w : World} {A : Option Addr} {c : Nat} {l : List Ms} (hC : Kd.C P.k32 w A l.length l) (hcap : l.length ≤ c) (hlen : l.length ≤ 50000) (hsz : ∀ x ∈ l, P.okS x) :
  Calls Try.prog 16 #[.slice A l.length c] w fun e w' => ∃ v, e = .returned v ∧ Rw w' w.heap.size v (P.listV l) ∧ Below w.heap.size w w' := by
 have hmax := Kd.C_max hC
 have hum := Try.underlying32
 have hur := Try.underlying28
 have hmf : ∀ (fn : Fn) (first cap : Array Value) (w : World), (Instr.makeFunc fn first cap).run Try.prog w = .ok (.func fn first cap) w := fun _ _ _ _ => rfl
 obtain ⟨i0, hi, hz0, hz1, hz2⟩ := info_parts P.info32
 have hB0 := Below.refl w.heap.size w
 have hR0 : Rw w w.heap.size (.slice none 0 0) (P.listV (l.take 0)) := World.ownsRow_nil _ _ _ _
 go_enter Try.func16, Try.ntmps16
 go_wp2
 go_loopg [3, 9] l.length (fun n ov iv wr => ∃ i : Int, iv = .int .i64 i ∧ Aside (0 ≤ i ∧ i.toNat + n = l.length) ∧ Aside (Rw wr w.heap.size ov (P.listV (l.take i.toNat))) ∧ Aside (Below w.heap.size w wr))
 case atStart => exact ⟨0, rfl, ⟨Int.le_refl _, by simp⟩, hR0, hB0⟩
 case round =>
  clear hB0 hR0
  rename_i ov iv
  obtain ⟨i, rfl, hA, hR, hB⟩ := hrel
  obtain ⟨A', c', rfl⟩ := Rw.slice hR.out
  obtain ⟨h0, hg⟩ := hA.out
  cases gk with
  | zero =>
   have d0 : decide (i < (l.length : Int)) = false := decide_eq_false (by omega)
   have hi : l.take i.toNat = l := List.take_of_length_le (by omega)
   have hRF := hR.out
   rw [hi] at hRF ⊢
   clear hi hg hC
   go_wp2
   go_ret
   exact ⟨_, rfl, hRF, hB.out⟩
  | succ n =>
   have hlt : i < (l.length : Int) := by omega
   obtain ⟨ad, x, rfl, hx, q0, q1, q2, q3, q4, q5⟩ := at_M hC i h0 hlt
   have e0 := cell_below hB.out q0
   have e1 := cell_below hB.out q1
   have e2 := cell_below hB.out q2
   have e3 := cell_below hB.out q3
   have e4 := cell_below hB.out q4
   have e5 := cell_below hB.out q5
   have d0 := decide_eq_true hlt
   have d1 := decide_eq_true h0
   have d2 := eq_true h0
   have d3 := eq_true hlt
   have hwi : wrap64 (i + 1) = i + 1 := IntWalk.wrap64_in _ (by omega)
   have hxs := hsz x (List.mem_of_getElem? hx)
   have hst : Aside (P.listV (l.take (i + 1).toNat) = P.stepV (P.listV (l.take i.toNat)) x) := by
    show _ = _
    rw [show (i + 1).toNat = i.toNat + 1 by omega]
    exact foldl_take hx
   have hoS : Aside (∀ y ∈ P.listV (l.take i.toNat), P.okS y) := listV_okS _ [] (fun y hy => hsz y (List.mem_of_mem_take hy)) (fun y hy => by simp at hy)
   have hoL : Aside ((P.listV (l.take i.toNat)).length ≤ 50000) := by
    show _ ≤ _
    have := listV_bound (l.take i.toNat) []
    simp only [List.length_nil, List.length_take] at this
    unfold P.listV
    omega
   have hbs := hB.out.size
   have hgA := Aside0.mk (And.intro h0 (And.intro hlt hg))
   have hCA := Aside0.mk hC
   generalize P.listV (l.take i.toNat) = out at hR hst hoS hoL ⊢
   have SP := span_any x hxs
   have IP := isPt_any x
   clear hC hg hx q0 q1 q2 q3 q4 q5 hlt h0 hA
   cases hp : P.isPt x.f0 with
   | true =>
    rw [hp] at IP
    have hpA := Aside0.mk hp
    clear hp
    go_wp2_with (first
     | (go_at_call 58; refine (SP _).mono ?_; clear SP; rintro e w1 ⟨rfl, hb1⟩; have hD1 := blk_below (blk_new wr (objM x)) hb1; have hl1 := blk_lt hD1; have hD1' := blk_alloc hD1 (objR (P.span x.f0 x.f2 x.f3).1 (P.span x.f0 x.f2 x.f3).2); obtain ⟨y0, y1, y2, y3, y4, y5⟩ := cellsM hD1')
     | (go_at_call 55; refine (IP _).mono ?_; clear IP; rintro e w2 ⟨rfl, hb2⟩; have hD2 := blk_below (blk_alloc hD1 _) hb2; clear y0 y1 y2 y3 y4 y5; obtain ⟨y0, y1, y2, y3, y4, y5⟩ := cellsM hD2; have hb02 := Aside0.mk (below_step (below_alloc (below_step (below_alloc (Below.refl wr.heap.size wr) (objM x)) hb1) (objR (P.span x.f0 x.f2 x.f3).1 (P.span x.f0 x.f2 x.f3).2)) hb2); have hsb := hb02.out.size; have hr2 := Aside0.mk (Rw.below hR.out hb02.out))
     | (go_at_call 60; refine (point_any (out.length + 1) x hr2.out (by omega) (by have := hoL.out; omega) hoS.out hpA.out (Nat.lt_succ_self _)).mono ?_; rintro e w3 ⟨v', rfl, hr3, hg3, hat3⟩))
    go_roundg n
    case measure => omega
    case rel =>
     obtain ⟨h0, hlt, hg⟩ := hgA.out
     refine ⟨i + 1, by rw [hwi], ⟨by omega, by omega⟩, ?_, ?_⟩
     ·show Rw _ _ _ _
      rw [hst.out]
      unfold P.stepV P.pointV
      rw [if_pos hpA.out]
      exact hr3
     ·refine Below.grown (below_step hB.out hb02.out) hg3 (by omega) (fun k hk => ?_)
      exact own_base hR.out k hk
   | false =>
    rw [hp] at IP
    have hpA := Aside0.mk hp
    clear hp
    by_cases h4 : x.f0 = 4
    ·have hk4 : (x.f0 == 4) = true := by simpa using h4
     rw [show P.span x.f0 x.f2 x.f3 = (x.f2, x.f3) from by unfold P.span; rw [if_neg (by rw [hpA.out]; simp), if_pos h4]] at SP
     have h4A := Aside0.mk h4
     clear h4
     have RR := right_any x.f2 x.f3
     cases hrr : P.rr x.f2 x.f3 with
     | false =>
      rw [hrr] at RR
      have hqA := Aside0.mk hrr
      clear hrr
      go_wp2_with (first
       | (go_at_call 58; refine (SP _).mono ?_; clear SP; rintro e w1 ⟨rfl, hb1⟩; have hD1 := blk_below (blk_new wr (objM x)) hb1; have hl1 := blk_lt hD1; have hD1' := blk_alloc hD1 (objR x.f2 x.f3); obtain ⟨y0, y1, y2, y3, y4, y5⟩ := cellsM hD1')
       | (go_at_call 55; refine (IP _).mono ?_; clear IP; rintro e w2 ⟨rfl, hb2⟩; have hD2 := blk_below (blk_alloc hD1 _) hb2; have hX2 := blk_below (blk_new w1 (objR x.f2 x.f3)) hb2; clear y0 y1 y2 y3 y4 y5; obtain ⟨y0, y1, y2, y3, y4, y5⟩ := cellsM hD2; have r0 := blk_cell hX2 0; have r1 := blk_cell hX2 1; simp at r0 r1; have hb02 := Aside0.mk (below_step (below_alloc (below_step (below_alloc (Below.refl wr.heap.size wr) (objM x)) hb1) (objR x.f2 x.f3)) hb2); have hr2 := Aside0.mk (Rw.below hR.out hb02.out))
       | (go_at_call 53; refine (RR _).mono ?_; clear RR; rintro e w3 ⟨rfl, hb3⟩))
      go_roundg n
      case measure => omega
      case rel =>
       obtain ⟨h0, hlt, hg⟩ := hgA.out
       refine ⟨i + 1, by rw [hwi], ⟨by omega, by omega⟩, ?_, ?_⟩
       ·show Rw _ _ _ _
        rw [hst.out]
        unfold P.stepV
        rw [if_neg (by rw [hpA.out]; simp), if_neg (by simp [hqA.out])]
        exact hr2.out.below hb3
       ·exact below_step hB.out (below_step hb02.out hb3)
     | true =>
      rw [hrr] at RR
      have hqA := Aside0.mk hrr
      clear hrr
      go_wp2_with (first
       | (go_at_call 58; refine (SP _).mono ?_; clear SP; rintro e w1 ⟨rfl, hb1⟩; have hD1 := blk_below (blk_new wr (objM x)) hb1; have hl1 := blk_lt hD1; have hD1' := blk_alloc hD1 (objR x.f2 x.f3); obtain ⟨y0, y1, y2, y3, y4, y5⟩ := cellsM hD1')
       | (go_at_call 55; refine (IP _).mono ?_; clear IP; rintro e w2 ⟨rfl, hb2⟩; have hD2 := blk_below (blk_alloc hD1 _) hb2; have hX2 := blk_below (blk_new w1 (objR x.f2 x.f3)) hb2; clear y0 y1 y2 y3 y4 y5; obtain ⟨y0, y1, y2, y3, y4, y5⟩ := cellsM hD2; have r0 := blk_cell hX2 0; have r1 := blk_cell hX2 1; simp at r0 r1; have hb02 := Aside0.mk (below_step (below_alloc (below_step (below_alloc (Below.refl wr.heap.size wr) (objM x)) hb1) (objR x.f2 x.f3)) hb2); have hr2 := Aside0.mk (Rw.below hR.out hb02.out))
       | (go_at_call 53; refine (RR _).mono ?_; clear RR; rintro e w3 ⟨rfl, hb3⟩; have hD3 := blk_below hD2 hb3; have hX3 := blk_below hX2 hb3; clear y0 y1 y2 y3 y4 y5 r0 r1))
      rename_i K0 hK0
      have hr3 := hr2.out.below hb3
      have hb03 := below_step hb02.out hb3
      have hD4 : w3.drew.heap[wr.heap.size]? = some (objM x) := hD3
      have hX4 : w3.drew.heap[w1.heap.size]? = some (objR x.f2 x.f3) := hX3
      have hr4 : Rw w3.drew w.heap.size (.slice A' out.length c') out := hr3
      have hb04 : Below wr.heap.size wr w3.drew := below_drew hb03
      have hown := own_lt hR.out
      have hobase := own_base hR.out
      have hl0 := hoL.out
      clear hr3 hb03 hD3 hX3 hD2 hX2 hb2 hb3 hD1 hD1' hl1 hb1
      refine start_ (n := 7) (S := fun w' => w'.cell? ⟨wr.heap.size, 0, none⟩ = some (.int .u8 x.f0) ∧ w'.cell? ⟨wr.heap.size, 1, none⟩ = some (.int .i64 x.f1) ∧ w'.cell? ⟨wr.heap.size, 2, none⟩ = some (.string x.f2) ∧ w'.cell? ⟨wr.heap.size, 3, none⟩ = some (.string x.f3) ∧ w'.cell? ⟨wr.heap.size, 4, none⟩ = some (.string x.f4) ∧ w'.cell? ⟨wr.heap.size, 5, none⟩ = some (.int .u64 x.f5)) (ds := []) #[false, false, false, false, false, false, false] (by kernel_rfl) rfl rfl ⟨blk_cell hD4 0, blk_cell hD4 1, blk_cell hD4 2, blk_cell hD4 3, blk_cell hD4 4, blk_cell hD4 5⟩ (fun hHeld => ?_)
      have HT_ := Aside0.mk listT9
      generalize w3.drew = w4 at hD4 hX4 hr4 hb04 hHeld ⊢
      have hlD := blk_lt hD4
      refine pU_ 0 29 #[true, false, false, false, false, false, false] ?_
      refine pU_ 1 30 #[true, true, false, false, false, false, false] ?_
      refine take_ (i := 3) (N := some 32) (v := ?_) (a' := ?_) #[true, true, false, true, false, false, false] rfl rfl (take_of HT_.out (by kernel_rfl)) (fun _ _ _ h => h) (Or.inl ⟨by rfl, ?_⟩) hHeld ?_ ?_
      rotate_left
      ·rintro w' ⟨s0, s1, s2, s3, s4, s5⟩
       go_simp
       with_reducible rfl
      rotate_left
      ·simp only [Act.put, sA1, sA2, sA3, i64_w, i32_w]
       rfl
      refine two_ (i := 2) (j := 4) (Ni := some 31) (Nj := some 33) #[true, true, true, true, false, false, false] #[true, true, false, true, true, false, false] rfl rfl rfl rfl (two_of HT_.out (by kernel_rfl)) (by decide) (by decide) (fun K hK => ?_) (fun K hK => ?_)
      ·refine goes_ Try.func61 (by kernel_rfl) rfl #[.slice A' out.length c', fnG w1.heap.size] (by rfl) rfl rfl (by (try simp only [List.map_toArray, List.map_cons, List.map_nil]); first | done | rfl) ?_
       refine (deleteF_any hr4 (by omega) hX4 hoS.out).mono ?_
       rintro e w5 ⟨A5, c5, rfl, hr5, hg5, ho5⟩
       refine ⟨_, rfl, ?_⟩
       have hD5 := (hg5.block wr.heap.size hlD (fun e => by have := hown _ e.symm; omega)).trans hD4
       refine hK.out _ _ ⟨blk_cell hD5 0, blk_cell hD5 1, blk_cell hD5 2, blk_cell hD5 3, blk_cell hD5 4, blk_cell hD5 5⟩ (fun hHeld => ?_)
       clear hK K
       refine norm_ (a' := ?_) ?_ ?_
       rotate_left
       ·show Act.put _ (some 31) _ = _
        simp only [Act.put, sA1, sA2, sA3, i64_w, i32_w]
        rfl
       refine one_ (i := 4) (N := some 33) #[true, true, true, true, true, false, false] rfl rfl (one_of HT_.out (by kernel_rfl)) (by decide) (fun K hK => ?_)
       refine value_ (w1 := w5.alloc (objM x)) (v := .slice (some ⟨w5.heap.size, 0, none⟩) 1 1) (by rfl) rfl ?_ ?_
       ·first | (go_simp; done) | (go_simp; rfl)
       have hD6 := blk_alloc hD5 (objM x)
       refine hK.out _ _ ⟨blk_cell hD6 0, blk_cell hD6 1, blk_cell hD6 2, blk_cell hD6 3, blk_cell hD6 4, blk_cell hD6 5⟩ (fun hHeld => ?_)
       clear hK K
       refine norm_ (a' := ?_) ?_ ?_
       rotate_left
       ·show Act.put _ (some 33) _ = _
        simp only [Act.put, sA1, sA2, sA3, i64_w, i32_w]
        rfl
       refine one_ (i := 5) (N := some 34) #[true, true, true, true, true, true, false] rfl rfl (one_of HT_.out (by kernel_rfl)) (by decide) (fun K hK => ?_)
       refine append_step (by rfl) rfl _ _ 22 rfl w.heap.size 32 i0 zM 6 72 Try.underlying22 hi hz0 hz1 hz2 rfl (by decide) (.slice A5 (out.filter (fun y => !P.gone x.f2 x.f3 y)).length c5) (out.filter (fun y => !P.gone x.f2 x.f3 y)).length (flat (out.filter (fun y => !P.gone x.f2 x.f3 y))) rfl (World.ownsRow.alloc hr5 _) ⟨w5.heap.size, 0, none⟩ 1 1 (enc x) rfl rfl (cell_enc (blk_new w5 (objM x))) (enc_one x) (le_max (Nat.le_trans (List.length_filter_le _ _) (by omega))) (by have := List.length_filter_le (fun y => !P.gone x.f2 x.f3 y) out; omega) (by have := hg5.size; have := hb04.size; simp; omega) ?_
       intro v7 w7 hown7 hg7 hat7
       have hD7 := (hg7.block wr.heap.size (blk_lt hD6) (by rw [ho5]; exact (fun e => by have := hown _ e.symm; omega))).trans hD6
       refine hK.out _ _ ⟨blk_cell hD7 0, blk_cell hD7 1, blk_cell hD7 2, blk_cell hD7 3, blk_cell hD7 4, blk_cell hD7 5⟩ (fun hHeld => ?_)
       clear hK K
       refine norm_ (a' := ?_) ?_ ?_
       rotate_left
       ·show Act.put _ (some 34) _ = _
        simp only [Act.put, sA1, sA2, sA3, i64_w, i32_w]
        rfl
       refine pU_ 6 3 #[true, true, true, true, true, true, true] ?_
       refine done_ (done_of HT_.out (by kernel_rfl)) ?_
       show K0 _ _
       refine hK0 _ _ ?_
       go_wp2
       go_roundg n
       case measure => omega
       case rel =>
        obtain ⟨h0, hlt, hg⟩ := hgA.out
        refine ⟨i + 1, rfl, ⟨by omega, by omega⟩, ?_, ?_⟩
        ·show Rw _ _ _ _
         rw [hst.out]
         unfold P.stepV
         rw [if_neg (by rw [hpA.out]; simp), if_pos (by simp [hqA.out, h4A.out])]
         exact Rw.snoc hown7
        ·exact Below.grown ((Below.grown (below_step hB.out hb04) hg5 (by have := hb04.size; omega) (fun k hk => hobase k hk)).alloc (by have := hg5.size; have := hb04.size; omega) (objM x)) hg7 (by have := hg5.size; have := hb04.size; simp; omega) (fun k hk => by rw [ho5] at hk; exact hobase k hk)
      ·refine value_ (w1 := w4.alloc (objM x)) (v := .slice (some ⟨w4.heap.size, 0, none⟩) 1 1) (by rfl) rfl ?_ ?_
       ·first | (go_simp; done) | (go_simp; rfl)
       have hD4' := blk_alloc hD4 (objM x)
       refine hK.out _ _ ⟨blk_cell hD4' 0, blk_cell hD4' 1, blk_cell hD4' 2, blk_cell hD4' 3, blk_cell hD4' 4, blk_cell hD4' 5⟩ (fun hHeld => ?_)
       clear hK K
       refine norm_ (a' := ?_) ?_ ?_
       rotate_left
       ·show Act.put _ (some 33) _ = _
        simp only [Act.put, sA1, sA2, sA3, i64_w, i32_w]
        rfl
       refine one_ (i := 2) (N := some 31) #[true, true, true, true, true, false, false] rfl rfl (one_of HT_.out (by kernel_rfl)) (by decide) (fun K hK => ?_)
       refine goes_ Try.func61 (by kernel_rfl) rfl #[.slice A' out.length c', fnG w1.heap.size] (by rfl) rfl rfl (by (try simp only [List.map_toArray, List.map_cons, List.map_nil]); first | done | rfl) ?_
       refine (deleteF_any (World.ownsRow.alloc hr4 (objM x)) (by omega) (blk_alloc hX4 (objM x)) hoS.out).mono ?_
       rintro e w5 ⟨A5, c5, rfl, hr5, hg5, ho5⟩
       refine ⟨_, rfl, ?_⟩
       have hD6 := (hg5.block wr.heap.size (blk_lt hD4') (fun e => by have := hown _ e.symm; omega)).trans hD4'
       have hA6 := (hg5.block w4.heap.size (blk_lt (blk_new w4 (objM x))) (fun e => by have := hown _ e.symm; have := hb04.size; omega)).trans (blk_new w4 (objM x))
       refine hK.out _ _ ⟨blk_cell hD6 0, blk_cell hD6 1, blk_cell hD6 2, blk_cell hD6 3, blk_cell hD6 4, blk_cell hD6 5⟩ (fun hHeld => ?_)
       clear hK K
       refine norm_ (a' := ?_) ?_ ?_
       rotate_left
       ·show Act.put _ (some 31) _ = _
        simp only [Act.put, sA1, sA2, sA3, i64_w, i32_w]
        rfl
       refine one_ (i := 5) (N := some 34) #[true, true, true, true, true, true, false] rfl rfl (one_of HT_.out (by kernel_rfl)) (by decide) (fun K hK => ?_)
       refine append_step (by rfl) rfl _ _ 22 rfl w.heap.size 32 i0 zM 6 72 Try.underlying22 hi hz0 hz1 hz2 rfl (by decide) (.slice A5 (out.filter (fun y => !P.gone x.f2 x.f3 y)).length c5) (out.filter (fun y => !P.gone x.f2 x.f3 y)).length (flat (out.filter (fun y => !P.gone x.f2 x.f3 y))) rfl (hr5) ⟨w4.heap.size, 0, none⟩ 1 1 (enc x) rfl rfl (cell_enc (hA6)) (enc_one x) (le_max (Nat.le_trans (List.length_filter_le _ _) (by omega))) (by have := List.length_filter_le (fun y => !P.gone x.f2 x.f3 y) out; omega) (by have h1 := hg5.size; have h2 := hb04.size; simp at h1; omega) ?_
       intro v7 w7 hown7 hg7 hat7
       have hD7 := (hg7.block wr.heap.size (blk_lt hD6) (by rw [ho5]; exact (fun e => by have := hown _ e.symm; omega))).trans hD6
       refine hK.out _ _ ⟨blk_cell hD7 0, blk_cell hD7 1, blk_cell hD7 2, blk_cell hD7 3, blk_cell hD7 4, blk_cell hD7 5⟩ (fun hHeld => ?_)
       clear hK K
       refine norm_ (a' := ?_) ?_ ?_
       rotate_left
       ·show Act.put _ (some 34) _ = _
        simp only [Act.put, sA1, sA2, sA3, i64_w, i32_w]
        rfl
       refine pU_ 6 3 #[true, true, true, true, true, true, true] ?_
       refine done_ (done_of HT_.out (by kernel_rfl)) ?_
       show K0 _ _
       refine hK0 _ _ ?_
       go_wp2
       go_roundg n
       case measure => omega
       case rel =>
        obtain ⟨h0, hlt, hg⟩ := hgA.out
        refine ⟨i + 1, rfl, ⟨by omega, by omega⟩, ?_, ?_⟩
        ·show Rw _ _ _ _
         rw [hst.out]
         unfold P.stepV
         rw [if_neg (by rw [hpA.out]; simp), if_pos (by simp [hqA.out, h4A.out])]
         exact Rw.snoc hown7
        ·exact Below.grown (Below.grown ((below_step hB.out hb04).alloc (by have := hb04.size; omega) (objM x)) hg5 (by have := hb04.size; simp; omega) (fun k hk => hobase k hk)) hg7 (by have h1 := hg5.size; have h2 := hb04.size; simp at h1; omega) (fun k hk => by rw [ho5] at hk; exact hobase k hk)
    ·have hk4 : (x.f0 == 4) = false := by simpa using h4
     have hqA := Aside0.mk h4
     clear h4
     go_wp2_with (first
      | (go_at_call 58; refine (SP _).mono ?_; clear SP; rintro e w1 ⟨rfl, hb1⟩; have hD1 := blk_below (blk_new wr (objM x)) hb1; have hl1 := blk_lt hD1; have hD1' := blk_alloc hD1 (objR (P.span x.f0 x.f2 x.f3).1 (P.span x.f0 x.f2 x.f3).2); obtain ⟨y0, y1, y2, y3, y4, y5⟩ := cellsM hD1')
      | (go_at_call 55; refine (IP _).mono ?_; clear IP; rintro e w2 ⟨rfl, hb2⟩; have hD2 := blk_below (blk_alloc hD1 _) hb2; have hX2 := blk_below (blk_new w1 (objR (P.span x.f0 x.f2 x.f3).1 (P.span x.f0 x.f2 x.f3).2)) hb2; clear y0 y1 y2 y3 y4 y5; obtain ⟨y0, y1, y2, y3, y4, y5⟩ := cellsM hD2; have r0 := blk_cell hX2 0; have r1 := blk_cell hX2 1; simp at r0 r1; have hb02 := Aside0.mk (below_step (below_alloc (below_step (below_alloc (Below.refl wr.heap.size wr) (objM x)) hb1) (objR (P.span x.f0 x.f2 x.f3).1 (P.span x.f0 x.f2 x.f3).2)) hb2); have hr2 := Aside0.mk (Rw.below hR.out hb02.out)))
     go_roundg n
     case measure => omega
     case rel =>
      obtain ⟨h0, hlt, hg⟩ := hgA.out
      refine ⟨i + 1, by rw [hwi], ⟨by omega, by omega⟩, ?_, ?_⟩
      ·show Rw _ _ _ _
       rw [hst.out]
       unfold P.stepV
       rw [if_neg (by rw [hpA.out]; simp), if_neg (by simp [hqA.out])]
       exact hr2.out
      ·exact below_step hB.out hb02.out
end Go.Proofs.Ytebejadiaooooaa.Cp
end
section
namespace Go.Proofs.Ytebejadiaooooaa.Cp
open Go.RowKit Go.Proofs.YtebejadiaooooaaW.PrintWords Go.Proofs.YtebejadiaooooaaW.PrintLast Go.Proofs.YtebejadiaooooaaW.PrintMore Go.Proofs.Ytebejadiaooooaa.Own Go.Proofs.Ytebejadiaooooaa
def okL (l : List Ms) : Bool := decide (l.length ≤ 50000) && l.all (fun x => decide (x.f2.size ≤ 140737488351232))
theorem okL_iff {l : List Ms} : okL l = true ↔ l.length ≤ 50000 ∧ ∀ x ∈ l, P.okS x := by
 simp [okL, P.okS]
def listF (l : List Ms) : Option (List Ms) := if okL l = true then some (P.listV l) else none
theorem listF_calls {w : World} {A0 : Option Addr} {c0 : Nat} {l0 r : List Ms} (hr0 : Kd.C P.k32 w A0 l0.length l0) (hc0 : l0.length ≤ c0) (h : listF l0 = some r) :
  Calls Try.prog 16 #[.slice A0 l0.length c0] w fun e w' => ∃ v0_ : Value, e = .returned (v0_) ∧ Kd.R P.k32 32 w' w.heap.size (fun _ => True) v0_ r ∧ Below w.heap.size w w' := by
 unfold listF at h
 split at h
 ·rename_i hk
  obtain ⟨hl, hs⟩ := okL_iff.1 hk
  have := Option.some.inj h
  subst this
  refine (list_any hr0 hc0 hl hs).mono ?_
  rintro e w' ⟨v, rfl, hr, hb⟩
  exact ⟨v, rfl, R_of_Rw hr, hb⟩
 ·cases h
end Go.Proofs.Ytebejadiaooooaa.Cp
end
