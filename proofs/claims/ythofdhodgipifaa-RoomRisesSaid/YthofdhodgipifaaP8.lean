-- Laid for this claim by a program of this seat's own (wip/tools/pp.py) out of the translation's print. Lean checks it.
import Derived.Test.YthofdhodgipifaaP0
namespace Go.Proofs.Ythofdhodgipifaa.P
open Go.RowKit Go.Proofs.YthofdhodgipifaaW.PrintWords Go.Proofs.YthofdhodgipifaaW.PrintLast Go.Proofs.YthofdhodgipifaaW.PrintMore Go.Proofs.Ythofdhodgipifaa.Own
open Go.Proofs.YthofdhodgipifaaW.PrintWords renaming blk_cell → bC, blk_frozen → bF, pw_below_drewN → wN, below_drew1 → w1, below_set → wS, below_alloc → wA, below_step → wT, below_size → wZ
attribute [local go_sem] max2_str max2_int min2_int max_two min_two max_three min_three max_four min_four   -- for this text's walks alone
set_option linter.unusedVariables false
set_option linter.unusedSimpArgs false

/-! ### catchmentref21_zero: function 17 -/
def catchmentref21_zero.f (a0_0 : Int) (a0_1 : BA) (a0_2 : BA) (a0_3 : Int) (l0_4 : List (S47)) : Option (Bool) := if a0_0 = 1 then (if a0_0 = 3 then (if a0_0 = 2 then (some true) else (some ((l0_4.length : Int) == 0))) else (if a0_0 = 5 then (if a0_0 = 4 then (if a0_0 = 2 then (some true) else (some ((l0_4.length : Int) == 0))) else (if a0_2.toList = ([] : List UInt8) then (if a0_0 = 2 then (some true) else (some ((l0_4.length : Int) == 0))) else (some false))) else (if a0_0 = 4 then (if a0_0 = 6 then (if a0_0 = 2 then (some true) else (some ((l0_4.length : Int) == 0))) else (if a0_3 = 0 then (if a0_0 = 2 then (some true) else (some ((l0_4.length : Int) == 0))) else (some false))) else (if a0_2.toList = ([] : List UInt8) then (if a0_0 = 6 then (if a0_0 = 2 then (some true) else (some ((l0_4.length : Int) == 0))) else (if a0_3 = 0 then (if a0_0 = 2 then (some true) else (some ((l0_4.length : Int) == 0))) else (some false))) else (some false))))) else (if a0_0 = 3 then (if a0_0 = 2 then (some true) else (some ((l0_4.length : Int) == 0))) else (if a0_0 = 5 then (if a0_0 = 4 then (if a0_0 = 2 then (some true) else (some ((l0_4.length : Int) == 0))) else (if a0_1.toList = ([] : List UInt8) then (if a0_2.toList = ([] : List UInt8) then (if a0_0 = 2 then (some true) else (some ((l0_4.length : Int) == 0))) else (some false)) else (some false))) else (if a0_0 = 4 then (if a0_0 = 6 then (if a0_0 = 2 then (some true) else (some ((l0_4.length : Int) == 0))) else (if a0_3 = 0 then (if a0_0 = 2 then (some true) else (some ((l0_4.length : Int) == 0))) else (some false))) else (if a0_1.toList = ([] : List UInt8) then (if a0_2.toList = ([] : List UInt8) then (if a0_0 = 6 then (if a0_0 = 2 then (some true) else (some ((l0_4.length : Int) == 0))) else (if a0_3 = 0 then (if a0_0 = 2 then (some true) else (some ((l0_4.length : Int) == 0))) else (some false))) else (some false)) else (some false)))))
set_option maxHeartbeats 8000000 in
set_option maxRecDepth 100000 in
theorem catchmentref21_zero.calls (a0_0 : Int) (a0_1 : BA) (a0_2 : BA) (a0_3 : Int) (A0_4 : Option Addr) (c0_4 : Nat) (l0_4 : List (S47)) (r : Bool) (w : World) (hr0_4 : Kd.C k47 w A0_4 l0_4.length l0_4) (hc0_4 : l0_4.length ≤ c0_4) (h : catchmentref21_zero.f a0_0 a0_1 a0_2 a0_3 l0_4 = some r) :
  Calls Try.prog 17 #[.agg #[.int .u8 a0_0, .string a0_1, .string a0_2, .int .i64 a0_3, .slice A0_4 l0_4.length c0_4]] w fun e w' => e = .returned (.bool r) ∧ Below w.heap.size w w' := by
 have hu27 := Try.underlying27
 have HR0_4 := Aside0.mk hr0_4
 have HC0_4 := Aside0.mk hc0_4
 clear hr0_4 hc0_4
 have HB := Aside0.mk (Below.refl w.heap.size w)
 have H : (if a0_0 = 1 then (if a0_0 = 3 then (if a0_0 = 2 then (some true) else (some ((l0_4.length : Int) == 0))) else (if a0_0 = 5 then (if a0_0 = 4 then (if a0_0 = 2 then (some true) else (some ((l0_4.length : Int) == 0))) else (if a0_2.toList = ([] : List UInt8) then (if a0_0 = 2 then (some true) else (some ((l0_4.length : Int) == 0))) else (some false))) else (if a0_0 = 4 then (if a0_0 = 6 then (if a0_0 = 2 then (some true) else (some ((l0_4.length : Int) == 0))) else (if a0_3 = 0 then (if a0_0 = 2 then (some true) else (some ((l0_4.length : Int) == 0))) else (some false))) else (if a0_2.toList = ([] : List UInt8) then (if a0_0 = 6 then (if a0_0 = 2 then (some true) else (some ((l0_4.length : Int) == 0))) else (if a0_3 = 0 then (if a0_0 = 2 then (some true) else (some ((l0_4.length : Int) == 0))) else (some false))) else (some false))))) else (if a0_0 = 3 then (if a0_0 = 2 then (some true) else (some ((l0_4.length : Int) == 0))) else (if a0_0 = 5 then (if a0_0 = 4 then (if a0_0 = 2 then (some true) else (some ((l0_4.length : Int) == 0))) else (if a0_1.toList = ([] : List UInt8) then (if a0_2.toList = ([] : List UInt8) then (if a0_0 = 2 then (some true) else (some ((l0_4.length : Int) == 0))) else (some false)) else (some false))) else (if a0_0 = 4 then (if a0_0 = 6 then (if a0_0 = 2 then (some true) else (some ((l0_4.length : Int) == 0))) else (if a0_3 = 0 then (if a0_0 = 2 then (some true) else (some ((l0_4.length : Int) == 0))) else (some false))) else (if a0_1.toList = ([] : List UInt8) then (if a0_2.toList = ([] : List UInt8) then (if a0_0 = 6 then (if a0_0 = 2 then (some true) else (some ((l0_4.length : Int) == 0))) else (if a0_3 = 0 then (if a0_0 = 2 then (some true) else (some ((l0_4.length : Int) == 0))) else (some false))) else (some false)) else (some false)))))) = some r := h
 clear h
 by_cases c2 : a0_0 = 1
 ·rw [if_pos c2] at H
  have c2b0 : (a0_0 == 1) = true := beq_iff_eq.mpr c2
  have c2b1 : (a0_0 != 1) = false := bne_eq_false_iff_eq.mpr c2
  clear c2
  by_cases c3 : a0_0 = 3
  ·rw [if_pos c3] at H
   have c3b0 : (a0_0 == 3) = true := beq_iff_eq.mpr c3
   have c3b1 : (a0_0 != 3) = false := bne_eq_false_iff_eq.mpr c3
   clear c3
   by_cases c4 : a0_0 = 2
   ·rw [if_pos c4] at H
    have c4b0 : (a0_0 == 2) = true := beq_iff_eq.mpr c4
    have c4b1 : (a0_0 != 2) = false := bne_eq_false_iff_eq.mpr c4
    clear c4
    obtain rfl := Option.some.inj H
    go_enter Try.func17, Try.ntmps17
    go_wp2_with (first | ((with_reducible refine gate_dst (N := 1) rfl ?_); (try (refine gate_guard (by rfl) ?_; dsimp only)); refine box_event ?hg (N := 1) ?hd (cs := #[.int .u8 a0_0, .string a0_1, .string a0_2, .int .i64 a0_3, .slice A0_4 l0_4.length c0_4]) (t := 27) ?hr ?_; (case hd => rfl); (case hg => rfl); (case hr => first | (go_simp; done) | (go_simp; rfl)); intro gb186 hg w5 hbox hb; have n0_ := Aside0.mk (wT (by repeat (first | (with_reducible first | exact HB.out | apply wA | apply wN | apply w1) | exact HB.out)) hb); have n1_ := Aside0.mk (hbox); have n2_ := Aside0.mk ((by rw [hg]; exact (wZ (by repeat (first | (with_reducible first | exact HB.out | apply wA | apply wN | apply w1) | exact HB.out))) : w.heap.size ≤ gb186)); have n3_ := Aside0.mk ((by rw [hg]; exact (wZ (by repeat (first | (with_reducible first | exact HB.out | apply wA | apply wN | apply w1) | exact HB.out))) : w.heap.size ≤ gb186)); clear HB; have HB := n0_; have BK186 := n1_; have GW186 := n2_; have GE186 := n3_; clear n0_ n1_ n2_ n3_; clear hb hbox hg; have hcz6_0 : w5.cell? ⟨gb186, 0, none⟩ = some (.int .u8 a0_0) := (bC BK186.out 0).trans rfl; have hcz6_1 : w5.cell? ⟨gb186, 1, none⟩ = some (.string a0_1) := (bC BK186.out 1).trans rfl; have hcz6_2 : w5.cell? ⟨gb186, 2, none⟩ = some (.string a0_2) := (bC BK186.out 2).trans rfl; have hcz6_3 : w5.cell? ⟨gb186, 3, none⟩ = some (.int .i64 a0_3) := (bC BK186.out 3).trans rfl; have hcz6_4 : w5.cell? ⟨gb186, 4, none⟩ = some (.slice A0_4 l0_4.length c0_4) := (bC BK186.out 4).trans rfl; have hfz6_0 := bF BK186.out 0; have hfz6_1 := bF BK186.out 1; have hfz6_2 := bF BK186.out 2; have hfz6_3 := bF BK186.out 3; have hfz6_4 := bF BK186.out 4))
    go_ret
    exact ⟨by first | rfl | (simp [errW_none, errW_some] <;> rfl) | (simp [*, errW_none, errW_some] <;> rfl), by repeat (first | (with_reducible first | exact HB.out | apply wA | apply wN | apply w1 | refine wS ?_ GE186.out) | exact HB.out)⟩
   ·rw [if_neg c4] at H
    have c4b0 : (a0_0 == 2) = false := beq_eq_false_iff_ne.mpr c4
    have c4b1 : (a0_0 != 2) = true := bne_iff_ne.mpr c4
    obtain rfl := Option.some.inj H
    go_enter Try.func17, Try.ntmps17
    go_wp2_with (first | ((with_reducible refine gate_dst (N := 1) rfl ?_); (try (refine gate_guard (by rfl) ?_; dsimp only)); refine box_event ?hg (N := 1) ?hd (cs := #[.int .u8 a0_0, .string a0_1, .string a0_2, .int .i64 a0_3, .slice A0_4 l0_4.length c0_4]) (t := 27) ?hr ?_; (case hd => rfl); (case hg => rfl); (case hr => first | (go_simp; done) | (go_simp; rfl)); intro gb186 hg w7 hbox hb; have n0_ := Aside0.mk (wT (by repeat (first | (with_reducible first | exact HB.out | apply wA | apply wN | apply w1) | exact HB.out)) hb); have n1_ := Aside0.mk (hbox); have n2_ := Aside0.mk ((by rw [hg]; exact (wZ (by repeat (first | (with_reducible first | exact HB.out | apply wA | apply wN | apply w1) | exact HB.out))) : w.heap.size ≤ gb186)); have n3_ := Aside0.mk ((by rw [hg]; exact (wZ (by repeat (first | (with_reducible first | exact HB.out | apply wA | apply wN | apply w1) | exact HB.out))) : w.heap.size ≤ gb186)); clear HB; have HB := n0_; have BK186 := n1_; have GW186 := n2_; have GE186 := n3_; clear n0_ n1_ n2_ n3_; clear hb hbox hg; have hcz8_0 : w7.cell? ⟨gb186, 0, none⟩ = some (.int .u8 a0_0) := (bC BK186.out 0).trans rfl; have hcz8_1 : w7.cell? ⟨gb186, 1, none⟩ = some (.string a0_1) := (bC BK186.out 1).trans rfl; have hcz8_2 : w7.cell? ⟨gb186, 2, none⟩ = some (.string a0_2) := (bC BK186.out 2).trans rfl; have hcz8_3 : w7.cell? ⟨gb186, 3, none⟩ = some (.int .i64 a0_3) := (bC BK186.out 3).trans rfl; have hcz8_4 : w7.cell? ⟨gb186, 4, none⟩ = some (.slice A0_4 l0_4.length c0_4) := (bC BK186.out 4).trans rfl; have hfz8_0 := bF BK186.out 0; have hfz8_1 := bF BK186.out 1; have hfz8_2 := bF BK186.out 2; have hfz8_3 := bF BK186.out 3; have hfz8_4 := bF BK186.out 4))
    go_ret
    exact ⟨by first | rfl | (simp [errW_none, errW_some] <;> rfl) | (simp [*, errW_none, errW_some] <;> rfl), by repeat (first | (with_reducible first | exact HB.out | apply wA | apply wN | apply w1 | refine wS ?_ GE186.out) | exact HB.out)⟩
  ·rw [if_neg c3] at H
   have c3b0 : (a0_0 == 3) = false := beq_eq_false_iff_ne.mpr c3
   have c3b1 : (a0_0 != 3) = true := bne_iff_ne.mpr c3
   by_cases c9 : a0_0 = 5
   ·rw [if_pos c9] at H
    have c9b0 : (a0_0 == 5) = true := beq_iff_eq.mpr c9
    have c9b1 : (a0_0 != 5) = false := bne_eq_false_iff_eq.mpr c9
    clear c9
    by_cases c10 : a0_0 = 4
    ·rw [if_pos c10] at H
     have c10b0 : (a0_0 == 4) = true := beq_iff_eq.mpr c10
     have c10b1 : (a0_0 != 4) = false := bne_eq_false_iff_eq.mpr c10
     clear c10
     by_cases c11 : a0_0 = 2
     ·rw [if_pos c11] at H
      have c11b0 : (a0_0 == 2) = true := beq_iff_eq.mpr c11
      have c11b1 : (a0_0 != 2) = false := bne_eq_false_iff_eq.mpr c11
      clear c11
      obtain rfl := Option.some.inj H
      go_enter Try.func17, Try.ntmps17
      go_wp2_with (first | ((with_reducible refine gate_dst (N := 1) rfl ?_); (try (refine gate_guard (by rfl) ?_; dsimp only)); refine box_event ?hg (N := 1) ?hd (cs := #[.int .u8 a0_0, .string a0_1, .string a0_2, .int .i64 a0_3, .slice A0_4 l0_4.length c0_4]) (t := 27) ?hr ?_; (case hd => rfl); (case hg => rfl); (case hr => first | (go_simp; done) | (go_simp; rfl)); intro gb186 hg w12 hbox hb; have n0_ := Aside0.mk (wT (by repeat (first | (with_reducible first | exact HB.out | apply wA | apply wN | apply w1) | exact HB.out)) hb); have n1_ := Aside0.mk (hbox); have n2_ := Aside0.mk ((by rw [hg]; exact (wZ (by repeat (first | (with_reducible first | exact HB.out | apply wA | apply wN | apply w1) | exact HB.out))) : w.heap.size ≤ gb186)); have n3_ := Aside0.mk ((by rw [hg]; exact (wZ (by repeat (first | (with_reducible first | exact HB.out | apply wA | apply wN | apply w1) | exact HB.out))) : w.heap.size ≤ gb186)); clear HB; have HB := n0_; have BK186 := n1_; have GW186 := n2_; have GE186 := n3_; clear n0_ n1_ n2_ n3_; clear hb hbox hg; have hcz13_0 : w12.cell? ⟨gb186, 0, none⟩ = some (.int .u8 a0_0) := (bC BK186.out 0).trans rfl; have hcz13_1 : w12.cell? ⟨gb186, 1, none⟩ = some (.string a0_1) := (bC BK186.out 1).trans rfl; have hcz13_2 : w12.cell? ⟨gb186, 2, none⟩ = some (.string a0_2) := (bC BK186.out 2).trans rfl; have hcz13_3 : w12.cell? ⟨gb186, 3, none⟩ = some (.int .i64 a0_3) := (bC BK186.out 3).trans rfl; have hcz13_4 : w12.cell? ⟨gb186, 4, none⟩ = some (.slice A0_4 l0_4.length c0_4) := (bC BK186.out 4).trans rfl; have hfz13_0 := bF BK186.out 0; have hfz13_1 := bF BK186.out 1; have hfz13_2 := bF BK186.out 2; have hfz13_3 := bF BK186.out 3; have hfz13_4 := bF BK186.out 4))
      go_ret
      exact ⟨by first | rfl | (simp [errW_none, errW_some] <;> rfl) | (simp [*, errW_none, errW_some] <;> rfl), by repeat (first | (with_reducible first | exact HB.out | apply wA | apply wN | apply w1 | refine wS ?_ GE186.out) | exact HB.out)⟩
     ·rw [if_neg c11] at H
      have c11b0 : (a0_0 == 2) = false := beq_eq_false_iff_ne.mpr c11
      have c11b1 : (a0_0 != 2) = true := bne_iff_ne.mpr c11
      obtain rfl := Option.some.inj H
      go_enter Try.func17, Try.ntmps17
      go_wp2_with (first | ((with_reducible refine gate_dst (N := 1) rfl ?_); (try (refine gate_guard (by rfl) ?_; dsimp only)); refine box_event ?hg (N := 1) ?hd (cs := #[.int .u8 a0_0, .string a0_1, .string a0_2, .int .i64 a0_3, .slice A0_4 l0_4.length c0_4]) (t := 27) ?hr ?_; (case hd => rfl); (case hg => rfl); (case hr => first | (go_simp; done) | (go_simp; rfl)); intro gb186 hg w14 hbox hb; have n0_ := Aside0.mk (wT (by repeat (first | (with_reducible first | exact HB.out | apply wA | apply wN | apply w1) | exact HB.out)) hb); have n1_ := Aside0.mk (hbox); have n2_ := Aside0.mk ((by rw [hg]; exact (wZ (by repeat (first | (with_reducible first | exact HB.out | apply wA | apply wN | apply w1) | exact HB.out))) : w.heap.size ≤ gb186)); have n3_ := Aside0.mk ((by rw [hg]; exact (wZ (by repeat (first | (with_reducible first | exact HB.out | apply wA | apply wN | apply w1) | exact HB.out))) : w.heap.size ≤ gb186)); clear HB; have HB := n0_; have BK186 := n1_; have GW186 := n2_; have GE186 := n3_; clear n0_ n1_ n2_ n3_; clear hb hbox hg; have hcz15_0 : w14.cell? ⟨gb186, 0, none⟩ = some (.int .u8 a0_0) := (bC BK186.out 0).trans rfl; have hcz15_1 : w14.cell? ⟨gb186, 1, none⟩ = some (.string a0_1) := (bC BK186.out 1).trans rfl; have hcz15_2 : w14.cell? ⟨gb186, 2, none⟩ = some (.string a0_2) := (bC BK186.out 2).trans rfl; have hcz15_3 : w14.cell? ⟨gb186, 3, none⟩ = some (.int .i64 a0_3) := (bC BK186.out 3).trans rfl; have hcz15_4 : w14.cell? ⟨gb186, 4, none⟩ = some (.slice A0_4 l0_4.length c0_4) := (bC BK186.out 4).trans rfl; have hfz15_0 := bF BK186.out 0; have hfz15_1 := bF BK186.out 1; have hfz15_2 := bF BK186.out 2; have hfz15_3 := bF BK186.out 3; have hfz15_4 := bF BK186.out 4))
      go_ret
      exact ⟨by first | rfl | (simp [errW_none, errW_some] <;> rfl) | (simp [*, errW_none, errW_some] <;> rfl), by repeat (first | (with_reducible first | exact HB.out | apply wA | apply wN | apply w1 | refine wS ?_ GE186.out) | exact HB.out)⟩
    ·rw [if_neg c10] at H
     have c10b0 : (a0_0 == 4) = false := beq_eq_false_iff_ne.mpr c10
     have c10b1 : (a0_0 != 4) = true := bne_iff_ne.mpr c10
     by_cases c16 : a0_2.toList = ([] : List UInt8)
     ·rw [if_pos c16] at H
      have c16b0 : (a0_2.toList == ([] : List UInt8)) = true := beq_iff_eq.mpr c16
      have c16b1 : (a0_2.toList != ([] : List UInt8)) = false := bne_eq_false_iff_eq.mpr c16
      clear c16
      by_cases c17 : a0_0 = 2
      ·rw [if_pos c17] at H
       have c17b0 : (a0_0 == 2) = true := beq_iff_eq.mpr c17
       have c17b1 : (a0_0 != 2) = false := bne_eq_false_iff_eq.mpr c17
       clear c17
       obtain rfl := Option.some.inj H
       go_enter Try.func17, Try.ntmps17
       go_wp2_with (first | ((with_reducible refine gate_dst (N := 1) rfl ?_); (try (refine gate_guard (by rfl) ?_; dsimp only)); refine box_event ?hg (N := 1) ?hd (cs := #[.int .u8 a0_0, .string a0_1, .string a0_2, .int .i64 a0_3, .slice A0_4 l0_4.length c0_4]) (t := 27) ?hr ?_; (case hd => rfl); (case hg => rfl); (case hr => first | (go_simp; done) | (go_simp; rfl)); intro gb186 hg w18 hbox hb; have n0_ := Aside0.mk (wT (by repeat (first | (with_reducible first | exact HB.out | apply wA | apply wN | apply w1) | exact HB.out)) hb); have n1_ := Aside0.mk (hbox); have n2_ := Aside0.mk ((by rw [hg]; exact (wZ (by repeat (first | (with_reducible first | exact HB.out | apply wA | apply wN | apply w1) | exact HB.out))) : w.heap.size ≤ gb186)); have n3_ := Aside0.mk ((by rw [hg]; exact (wZ (by repeat (first | (with_reducible first | exact HB.out | apply wA | apply wN | apply w1) | exact HB.out))) : w.heap.size ≤ gb186)); clear HB; have HB := n0_; have BK186 := n1_; have GW186 := n2_; have GE186 := n3_; clear n0_ n1_ n2_ n3_; clear hb hbox hg; have hcz19_0 : w18.cell? ⟨gb186, 0, none⟩ = some (.int .u8 a0_0) := (bC BK186.out 0).trans rfl; have hcz19_1 : w18.cell? ⟨gb186, 1, none⟩ = some (.string a0_1) := (bC BK186.out 1).trans rfl; have hcz19_2 : w18.cell? ⟨gb186, 2, none⟩ = some (.string a0_2) := (bC BK186.out 2).trans rfl; have hcz19_3 : w18.cell? ⟨gb186, 3, none⟩ = some (.int .i64 a0_3) := (bC BK186.out 3).trans rfl; have hcz19_4 : w18.cell? ⟨gb186, 4, none⟩ = some (.slice A0_4 l0_4.length c0_4) := (bC BK186.out 4).trans rfl; have hfz19_0 := bF BK186.out 0; have hfz19_1 := bF BK186.out 1; have hfz19_2 := bF BK186.out 2; have hfz19_3 := bF BK186.out 3; have hfz19_4 := bF BK186.out 4))
       go_ret
       exact ⟨by first | rfl | (simp [errW_none, errW_some] <;> rfl) | (simp [*, errW_none, errW_some] <;> rfl), by repeat (first | (with_reducible first | exact HB.out | apply wA | apply wN | apply w1 | refine wS ?_ GE186.out) | exact HB.out)⟩
      ·rw [if_neg c17] at H
       have c17b0 : (a0_0 == 2) = false := beq_eq_false_iff_ne.mpr c17
       have c17b1 : (a0_0 != 2) = true := bne_iff_ne.mpr c17
       obtain rfl := Option.some.inj H
       go_enter Try.func17, Try.ntmps17
       go_wp2_with (first | ((with_reducible refine gate_dst (N := 1) rfl ?_); (try (refine gate_guard (by rfl) ?_; dsimp only)); refine box_event ?hg (N := 1) ?hd (cs := #[.int .u8 a0_0, .string a0_1, .string a0_2, .int .i64 a0_3, .slice A0_4 l0_4.length c0_4]) (t := 27) ?hr ?_; (case hd => rfl); (case hg => rfl); (case hr => first | (go_simp; done) | (go_simp; rfl)); intro gb186 hg w20 hbox hb; have n0_ := Aside0.mk (wT (by repeat (first | (with_reducible first | exact HB.out | apply wA | apply wN | apply w1) | exact HB.out)) hb); have n1_ := Aside0.mk (hbox); have n2_ := Aside0.mk ((by rw [hg]; exact (wZ (by repeat (first | (with_reducible first | exact HB.out | apply wA | apply wN | apply w1) | exact HB.out))) : w.heap.size ≤ gb186)); have n3_ := Aside0.mk ((by rw [hg]; exact (wZ (by repeat (first | (with_reducible first | exact HB.out | apply wA | apply wN | apply w1) | exact HB.out))) : w.heap.size ≤ gb186)); clear HB; have HB := n0_; have BK186 := n1_; have GW186 := n2_; have GE186 := n3_; clear n0_ n1_ n2_ n3_; clear hb hbox hg; have hcz21_0 : w20.cell? ⟨gb186, 0, none⟩ = some (.int .u8 a0_0) := (bC BK186.out 0).trans rfl; have hcz21_1 : w20.cell? ⟨gb186, 1, none⟩ = some (.string a0_1) := (bC BK186.out 1).trans rfl; have hcz21_2 : w20.cell? ⟨gb186, 2, none⟩ = some (.string a0_2) := (bC BK186.out 2).trans rfl; have hcz21_3 : w20.cell? ⟨gb186, 3, none⟩ = some (.int .i64 a0_3) := (bC BK186.out 3).trans rfl; have hcz21_4 : w20.cell? ⟨gb186, 4, none⟩ = some (.slice A0_4 l0_4.length c0_4) := (bC BK186.out 4).trans rfl; have hfz21_0 := bF BK186.out 0; have hfz21_1 := bF BK186.out 1; have hfz21_2 := bF BK186.out 2; have hfz21_3 := bF BK186.out 3; have hfz21_4 := bF BK186.out 4))
       go_ret
       exact ⟨by first | rfl | (simp [errW_none, errW_some] <;> rfl) | (simp [*, errW_none, errW_some] <;> rfl), by repeat (first | (with_reducible first | exact HB.out | apply wA | apply wN | apply w1 | refine wS ?_ GE186.out) | exact HB.out)⟩
     ·rw [if_neg c16] at H
      have c16b0 : (a0_2.toList == ([] : List UInt8)) = false := beq_eq_false_iff_ne.mpr c16
      have c16b1 : (a0_2.toList != ([] : List UInt8)) = true := bne_iff_ne.mpr c16
      obtain rfl := Option.some.inj H
      go_enter Try.func17, Try.ntmps17
      go_wp2_with (first | ((with_reducible refine gate_dst (N := 1) rfl ?_); (try (refine gate_guard (by rfl) ?_; dsimp only)); refine box_event ?hg (N := 1) ?hd (cs := #[.int .u8 a0_0, .string a0_1, .string a0_2, .int .i64 a0_3, .slice A0_4 l0_4.length c0_4]) (t := 27) ?hr ?_; (case hd => rfl); (case hg => rfl); (case hr => first | (go_simp; done) | (go_simp; rfl)); intro gb186 hg w22 hbox hb; have n0_ := Aside0.mk (wT (by repeat (first | (with_reducible first | exact HB.out | apply wA | apply wN | apply w1) | exact HB.out)) hb); have n1_ := Aside0.mk (hbox); have n2_ := Aside0.mk ((by rw [hg]; exact (wZ (by repeat (first | (with_reducible first | exact HB.out | apply wA | apply wN | apply w1) | exact HB.out))) : w.heap.size ≤ gb186)); have n3_ := Aside0.mk ((by rw [hg]; exact (wZ (by repeat (first | (with_reducible first | exact HB.out | apply wA | apply wN | apply w1) | exact HB.out))) : w.heap.size ≤ gb186)); clear HB; have HB := n0_; have BK186 := n1_; have GW186 := n2_; have GE186 := n3_; clear n0_ n1_ n2_ n3_; clear hb hbox hg; have hcz23_0 : w22.cell? ⟨gb186, 0, none⟩ = some (.int .u8 a0_0) := (bC BK186.out 0).trans rfl; have hcz23_1 : w22.cell? ⟨gb186, 1, none⟩ = some (.string a0_1) := (bC BK186.out 1).trans rfl; have hcz23_2 : w22.cell? ⟨gb186, 2, none⟩ = some (.string a0_2) := (bC BK186.out 2).trans rfl; have hcz23_3 : w22.cell? ⟨gb186, 3, none⟩ = some (.int .i64 a0_3) := (bC BK186.out 3).trans rfl; have hcz23_4 : w22.cell? ⟨gb186, 4, none⟩ = some (.slice A0_4 l0_4.length c0_4) := (bC BK186.out 4).trans rfl; have hfz23_0 := bF BK186.out 0; have hfz23_1 := bF BK186.out 1; have hfz23_2 := bF BK186.out 2; have hfz23_3 := bF BK186.out 3; have hfz23_4 := bF BK186.out 4))
      go_ret
      exact ⟨by first | rfl | (simp [errW_none, errW_some] <;> rfl) | (simp [*, errW_none, errW_some] <;> rfl), by repeat (first | (with_reducible first | exact HB.out | apply wA | apply wN | apply w1 | refine wS ?_ GE186.out) | exact HB.out)⟩
   ·rw [if_neg c9] at H
    have c9b0 : (a0_0 == 5) = false := beq_eq_false_iff_ne.mpr c9
    have c9b1 : (a0_0 != 5) = true := bne_iff_ne.mpr c9
    by_cases c24 : a0_0 = 4
    ·rw [if_pos c24] at H
     have c24b0 : (a0_0 == 4) = true := beq_iff_eq.mpr c24
     have c24b1 : (a0_0 != 4) = false := bne_eq_false_iff_eq.mpr c24
     clear c24
     by_cases c25 : a0_0 = 6
     ·rw [if_pos c25] at H
      have c25b0 : (a0_0 == 6) = true := beq_iff_eq.mpr c25
      have c25b1 : (a0_0 != 6) = false := bne_eq_false_iff_eq.mpr c25
      clear c25
      by_cases c26 : a0_0 = 2
      ·rw [if_pos c26] at H
       have c26b0 : (a0_0 == 2) = true := beq_iff_eq.mpr c26
       have c26b1 : (a0_0 != 2) = false := bne_eq_false_iff_eq.mpr c26
       clear c26
       obtain rfl := Option.some.inj H
       go_enter Try.func17, Try.ntmps17
       go_wp2_with (first | ((with_reducible refine gate_dst (N := 1) rfl ?_); (try (refine gate_guard (by rfl) ?_; dsimp only)); refine box_event ?hg (N := 1) ?hd (cs := #[.int .u8 a0_0, .string a0_1, .string a0_2, .int .i64 a0_3, .slice A0_4 l0_4.length c0_4]) (t := 27) ?hr ?_; (case hd => rfl); (case hg => rfl); (case hr => first | (go_simp; done) | (go_simp; rfl)); intro gb186 hg w27 hbox hb; have n0_ := Aside0.mk (wT (by repeat (first | (with_reducible first | exact HB.out | apply wA | apply wN | apply w1) | exact HB.out)) hb); have n1_ := Aside0.mk (hbox); have n2_ := Aside0.mk ((by rw [hg]; exact (wZ (by repeat (first | (with_reducible first | exact HB.out | apply wA | apply wN | apply w1) | exact HB.out))) : w.heap.size ≤ gb186)); have n3_ := Aside0.mk ((by rw [hg]; exact (wZ (by repeat (first | (with_reducible first | exact HB.out | apply wA | apply wN | apply w1) | exact HB.out))) : w.heap.size ≤ gb186)); clear HB; have HB := n0_; have BK186 := n1_; have GW186 := n2_; have GE186 := n3_; clear n0_ n1_ n2_ n3_; clear hb hbox hg; have hcz28_0 : w27.cell? ⟨gb186, 0, none⟩ = some (.int .u8 a0_0) := (bC BK186.out 0).trans rfl; have hcz28_1 : w27.cell? ⟨gb186, 1, none⟩ = some (.string a0_1) := (bC BK186.out 1).trans rfl; have hcz28_2 : w27.cell? ⟨gb186, 2, none⟩ = some (.string a0_2) := (bC BK186.out 2).trans rfl; have hcz28_3 : w27.cell? ⟨gb186, 3, none⟩ = some (.int .i64 a0_3) := (bC BK186.out 3).trans rfl; have hcz28_4 : w27.cell? ⟨gb186, 4, none⟩ = some (.slice A0_4 l0_4.length c0_4) := (bC BK186.out 4).trans rfl; have hfz28_0 := bF BK186.out 0; have hfz28_1 := bF BK186.out 1; have hfz28_2 := bF BK186.out 2; have hfz28_3 := bF BK186.out 3; have hfz28_4 := bF BK186.out 4))
       go_ret
       exact ⟨by first | rfl | (simp [errW_none, errW_some] <;> rfl) | (simp [*, errW_none, errW_some] <;> rfl), by repeat (first | (with_reducible first | exact HB.out | apply wA | apply wN | apply w1 | refine wS ?_ GE186.out) | exact HB.out)⟩
      ·rw [if_neg c26] at H
       have c26b0 : (a0_0 == 2) = false := beq_eq_false_iff_ne.mpr c26
       have c26b1 : (a0_0 != 2) = true := bne_iff_ne.mpr c26
       obtain rfl := Option.some.inj H
       go_enter Try.func17, Try.ntmps17
       go_wp2_with (first | ((with_reducible refine gate_dst (N := 1) rfl ?_); (try (refine gate_guard (by rfl) ?_; dsimp only)); refine box_event ?hg (N := 1) ?hd (cs := #[.int .u8 a0_0, .string a0_1, .string a0_2, .int .i64 a0_3, .slice A0_4 l0_4.length c0_4]) (t := 27) ?hr ?_; (case hd => rfl); (case hg => rfl); (case hr => first | (go_simp; done) | (go_simp; rfl)); intro gb186 hg w29 hbox hb; have n0_ := Aside0.mk (wT (by repeat (first | (with_reducible first | exact HB.out | apply wA | apply wN | apply w1) | exact HB.out)) hb); have n1_ := Aside0.mk (hbox); have n2_ := Aside0.mk ((by rw [hg]; exact (wZ (by repeat (first | (with_reducible first | exact HB.out | apply wA | apply wN | apply w1) | exact HB.out))) : w.heap.size ≤ gb186)); have n3_ := Aside0.mk ((by rw [hg]; exact (wZ (by repeat (first | (with_reducible first | exact HB.out | apply wA | apply wN | apply w1) | exact HB.out))) : w.heap.size ≤ gb186)); clear HB; have HB := n0_; have BK186 := n1_; have GW186 := n2_; have GE186 := n3_; clear n0_ n1_ n2_ n3_; clear hb hbox hg; have hcz30_0 : w29.cell? ⟨gb186, 0, none⟩ = some (.int .u8 a0_0) := (bC BK186.out 0).trans rfl; have hcz30_1 : w29.cell? ⟨gb186, 1, none⟩ = some (.string a0_1) := (bC BK186.out 1).trans rfl; have hcz30_2 : w29.cell? ⟨gb186, 2, none⟩ = some (.string a0_2) := (bC BK186.out 2).trans rfl; have hcz30_3 : w29.cell? ⟨gb186, 3, none⟩ = some (.int .i64 a0_3) := (bC BK186.out 3).trans rfl; have hcz30_4 : w29.cell? ⟨gb186, 4, none⟩ = some (.slice A0_4 l0_4.length c0_4) := (bC BK186.out 4).trans rfl; have hfz30_0 := bF BK186.out 0; have hfz30_1 := bF BK186.out 1; have hfz30_2 := bF BK186.out 2; have hfz30_3 := bF BK186.out 3; have hfz30_4 := bF BK186.out 4))
       go_ret
       exact ⟨by first | rfl | (simp [errW_none, errW_some] <;> rfl) | (simp [*, errW_none, errW_some] <;> rfl), by repeat (first | (with_reducible first | exact HB.out | apply wA | apply wN | apply w1 | refine wS ?_ GE186.out) | exact HB.out)⟩
     ·rw [if_neg c25] at H
      have c25b0 : (a0_0 == 6) = false := beq_eq_false_iff_ne.mpr c25
      have c25b1 : (a0_0 != 6) = true := bne_iff_ne.mpr c25
      by_cases c31 : a0_3 = 0
      ·rw [if_pos c31] at H
       have c31b0 : (a0_3 == 0) = true := beq_iff_eq.mpr c31
       have c31b1 : (a0_3 != 0) = false := bne_eq_false_iff_eq.mpr c31
       clear c31
       by_cases c32 : a0_0 = 2
       ·rw [if_pos c32] at H
        have c32b0 : (a0_0 == 2) = true := beq_iff_eq.mpr c32
        have c32b1 : (a0_0 != 2) = false := bne_eq_false_iff_eq.mpr c32
        clear c32
        obtain rfl := Option.some.inj H
        go_enter Try.func17, Try.ntmps17
        go_wp2_with (first | ((with_reducible refine gate_dst (N := 1) rfl ?_); (try (refine gate_guard (by rfl) ?_; dsimp only)); refine box_event ?hg (N := 1) ?hd (cs := #[.int .u8 a0_0, .string a0_1, .string a0_2, .int .i64 a0_3, .slice A0_4 l0_4.length c0_4]) (t := 27) ?hr ?_; (case hd => rfl); (case hg => rfl); (case hr => first | (go_simp; done) | (go_simp; rfl)); intro gb186 hg w33 hbox hb; have n0_ := Aside0.mk (wT (by repeat (first | (with_reducible first | exact HB.out | apply wA | apply wN | apply w1) | exact HB.out)) hb); have n1_ := Aside0.mk (hbox); have n2_ := Aside0.mk ((by rw [hg]; exact (wZ (by repeat (first | (with_reducible first | exact HB.out | apply wA | apply wN | apply w1) | exact HB.out))) : w.heap.size ≤ gb186)); have n3_ := Aside0.mk ((by rw [hg]; exact (wZ (by repeat (first | (with_reducible first | exact HB.out | apply wA | apply wN | apply w1) | exact HB.out))) : w.heap.size ≤ gb186)); clear HB; have HB := n0_; have BK186 := n1_; have GW186 := n2_; have GE186 := n3_; clear n0_ n1_ n2_ n3_; clear hb hbox hg; have hcz34_0 : w33.cell? ⟨gb186, 0, none⟩ = some (.int .u8 a0_0) := (bC BK186.out 0).trans rfl; have hcz34_1 : w33.cell? ⟨gb186, 1, none⟩ = some (.string a0_1) := (bC BK186.out 1).trans rfl; have hcz34_2 : w33.cell? ⟨gb186, 2, none⟩ = some (.string a0_2) := (bC BK186.out 2).trans rfl; have hcz34_3 : w33.cell? ⟨gb186, 3, none⟩ = some (.int .i64 a0_3) := (bC BK186.out 3).trans rfl; have hcz34_4 : w33.cell? ⟨gb186, 4, none⟩ = some (.slice A0_4 l0_4.length c0_4) := (bC BK186.out 4).trans rfl; have hfz34_0 := bF BK186.out 0; have hfz34_1 := bF BK186.out 1; have hfz34_2 := bF BK186.out 2; have hfz34_3 := bF BK186.out 3; have hfz34_4 := bF BK186.out 4))
        go_ret
        exact ⟨by first | rfl | (simp [errW_none, errW_some] <;> rfl) | (simp [*, errW_none, errW_some] <;> rfl), by repeat (first | (with_reducible first | exact HB.out | apply wA | apply wN | apply w1 | refine wS ?_ GE186.out) | exact HB.out)⟩
       ·rw [if_neg c32] at H
        have c32b0 : (a0_0 == 2) = false := beq_eq_false_iff_ne.mpr c32
        have c32b1 : (a0_0 != 2) = true := bne_iff_ne.mpr c32
        obtain rfl := Option.some.inj H
        go_enter Try.func17, Try.ntmps17
        go_wp2_with (first | ((with_reducible refine gate_dst (N := 1) rfl ?_); (try (refine gate_guard (by rfl) ?_; dsimp only)); refine box_event ?hg (N := 1) ?hd (cs := #[.int .u8 a0_0, .string a0_1, .string a0_2, .int .i64 a0_3, .slice A0_4 l0_4.length c0_4]) (t := 27) ?hr ?_; (case hd => rfl); (case hg => rfl); (case hr => first | (go_simp; done) | (go_simp; rfl)); intro gb186 hg w35 hbox hb; have n0_ := Aside0.mk (wT (by repeat (first | (with_reducible first | exact HB.out | apply wA | apply wN | apply w1) | exact HB.out)) hb); have n1_ := Aside0.mk (hbox); have n2_ := Aside0.mk ((by rw [hg]; exact (wZ (by repeat (first | (with_reducible first | exact HB.out | apply wA | apply wN | apply w1) | exact HB.out))) : w.heap.size ≤ gb186)); have n3_ := Aside0.mk ((by rw [hg]; exact (wZ (by repeat (first | (with_reducible first | exact HB.out | apply wA | apply wN | apply w1) | exact HB.out))) : w.heap.size ≤ gb186)); clear HB; have HB := n0_; have BK186 := n1_; have GW186 := n2_; have GE186 := n3_; clear n0_ n1_ n2_ n3_; clear hb hbox hg; have hcz36_0 : w35.cell? ⟨gb186, 0, none⟩ = some (.int .u8 a0_0) := (bC BK186.out 0).trans rfl; have hcz36_1 : w35.cell? ⟨gb186, 1, none⟩ = some (.string a0_1) := (bC BK186.out 1).trans rfl; have hcz36_2 : w35.cell? ⟨gb186, 2, none⟩ = some (.string a0_2) := (bC BK186.out 2).trans rfl; have hcz36_3 : w35.cell? ⟨gb186, 3, none⟩ = some (.int .i64 a0_3) := (bC BK186.out 3).trans rfl; have hcz36_4 : w35.cell? ⟨gb186, 4, none⟩ = some (.slice A0_4 l0_4.length c0_4) := (bC BK186.out 4).trans rfl; have hfz36_0 := bF BK186.out 0; have hfz36_1 := bF BK186.out 1; have hfz36_2 := bF BK186.out 2; have hfz36_3 := bF BK186.out 3; have hfz36_4 := bF BK186.out 4))
        go_ret
        exact ⟨by first | rfl | (simp [errW_none, errW_some] <;> rfl) | (simp [*, errW_none, errW_some] <;> rfl), by repeat (first | (with_reducible first | exact HB.out | apply wA | apply wN | apply w1 | refine wS ?_ GE186.out) | exact HB.out)⟩
      ·rw [if_neg c31] at H
       have c31b0 : (a0_3 == 0) = false := beq_eq_false_iff_ne.mpr c31
       have c31b1 : (a0_3 != 0) = true := bne_iff_ne.mpr c31
       obtain rfl := Option.some.inj H
       go_enter Try.func17, Try.ntmps17
       go_wp2_with (first | ((with_reducible refine gate_dst (N := 1) rfl ?_); (try (refine gate_guard (by rfl) ?_; dsimp only)); refine box_event ?hg (N := 1) ?hd (cs := #[.int .u8 a0_0, .string a0_1, .string a0_2, .int .i64 a0_3, .slice A0_4 l0_4.length c0_4]) (t := 27) ?hr ?_; (case hd => rfl); (case hg => rfl); (case hr => first | (go_simp; done) | (go_simp; rfl)); intro gb186 hg w37 hbox hb; have n0_ := Aside0.mk (wT (by repeat (first | (with_reducible first | exact HB.out | apply wA | apply wN | apply w1) | exact HB.out)) hb); have n1_ := Aside0.mk (hbox); have n2_ := Aside0.mk ((by rw [hg]; exact (wZ (by repeat (first | (with_reducible first | exact HB.out | apply wA | apply wN | apply w1) | exact HB.out))) : w.heap.size ≤ gb186)); have n3_ := Aside0.mk ((by rw [hg]; exact (wZ (by repeat (first | (with_reducible first | exact HB.out | apply wA | apply wN | apply w1) | exact HB.out))) : w.heap.size ≤ gb186)); clear HB; have HB := n0_; have BK186 := n1_; have GW186 := n2_; have GE186 := n3_; clear n0_ n1_ n2_ n3_; clear hb hbox hg; have hcz38_0 : w37.cell? ⟨gb186, 0, none⟩ = some (.int .u8 a0_0) := (bC BK186.out 0).trans rfl; have hcz38_1 : w37.cell? ⟨gb186, 1, none⟩ = some (.string a0_1) := (bC BK186.out 1).trans rfl; have hcz38_2 : w37.cell? ⟨gb186, 2, none⟩ = some (.string a0_2) := (bC BK186.out 2).trans rfl; have hcz38_3 : w37.cell? ⟨gb186, 3, none⟩ = some (.int .i64 a0_3) := (bC BK186.out 3).trans rfl; have hcz38_4 : w37.cell? ⟨gb186, 4, none⟩ = some (.slice A0_4 l0_4.length c0_4) := (bC BK186.out 4).trans rfl; have hfz38_0 := bF BK186.out 0; have hfz38_1 := bF BK186.out 1; have hfz38_2 := bF BK186.out 2; have hfz38_3 := bF BK186.out 3; have hfz38_4 := bF BK186.out 4))
       go_ret
       exact ⟨by first | rfl | (simp [errW_none, errW_some] <;> rfl) | (simp [*, errW_none, errW_some] <;> rfl), by repeat (first | (with_reducible first | exact HB.out | apply wA | apply wN | apply w1 | refine wS ?_ GE186.out) | exact HB.out)⟩
    ·rw [if_neg c24] at H
     have c24b0 : (a0_0 == 4) = false := beq_eq_false_iff_ne.mpr c24
     have c24b1 : (a0_0 != 4) = true := bne_iff_ne.mpr c24
     by_cases c39 : a0_2.toList = ([] : List UInt8)
     ·rw [if_pos c39] at H
      have c39b0 : (a0_2.toList == ([] : List UInt8)) = true := beq_iff_eq.mpr c39
      have c39b1 : (a0_2.toList != ([] : List UInt8)) = false := bne_eq_false_iff_eq.mpr c39
      clear c39
      by_cases c40 : a0_0 = 6
      ·rw [if_pos c40] at H
       have c40b0 : (a0_0 == 6) = true := beq_iff_eq.mpr c40
       have c40b1 : (a0_0 != 6) = false := bne_eq_false_iff_eq.mpr c40
       clear c40
       by_cases c41 : a0_0 = 2
       ·rw [if_pos c41] at H
        have c41b0 : (a0_0 == 2) = true := beq_iff_eq.mpr c41
        have c41b1 : (a0_0 != 2) = false := bne_eq_false_iff_eq.mpr c41
        clear c41
        obtain rfl := Option.some.inj H
        go_enter Try.func17, Try.ntmps17
        go_wp2_with (first | ((with_reducible refine gate_dst (N := 1) rfl ?_); (try (refine gate_guard (by rfl) ?_; dsimp only)); refine box_event ?hg (N := 1) ?hd (cs := #[.int .u8 a0_0, .string a0_1, .string a0_2, .int .i64 a0_3, .slice A0_4 l0_4.length c0_4]) (t := 27) ?hr ?_; (case hd => rfl); (case hg => rfl); (case hr => first | (go_simp; done) | (go_simp; rfl)); intro gb186 hg w42 hbox hb; have n0_ := Aside0.mk (wT (by repeat (first | (with_reducible first | exact HB.out | apply wA | apply wN | apply w1) | exact HB.out)) hb); have n1_ := Aside0.mk (hbox); have n2_ := Aside0.mk ((by rw [hg]; exact (wZ (by repeat (first | (with_reducible first | exact HB.out | apply wA | apply wN | apply w1) | exact HB.out))) : w.heap.size ≤ gb186)); have n3_ := Aside0.mk ((by rw [hg]; exact (wZ (by repeat (first | (with_reducible first | exact HB.out | apply wA | apply wN | apply w1) | exact HB.out))) : w.heap.size ≤ gb186)); clear HB; have HB := n0_; have BK186 := n1_; have GW186 := n2_; have GE186 := n3_; clear n0_ n1_ n2_ n3_; clear hb hbox hg; have hcz43_0 : w42.cell? ⟨gb186, 0, none⟩ = some (.int .u8 a0_0) := (bC BK186.out 0).trans rfl; have hcz43_1 : w42.cell? ⟨gb186, 1, none⟩ = some (.string a0_1) := (bC BK186.out 1).trans rfl; have hcz43_2 : w42.cell? ⟨gb186, 2, none⟩ = some (.string a0_2) := (bC BK186.out 2).trans rfl; have hcz43_3 : w42.cell? ⟨gb186, 3, none⟩ = some (.int .i64 a0_3) := (bC BK186.out 3).trans rfl; have hcz43_4 : w42.cell? ⟨gb186, 4, none⟩ = some (.slice A0_4 l0_4.length c0_4) := (bC BK186.out 4).trans rfl; have hfz43_0 := bF BK186.out 0; have hfz43_1 := bF BK186.out 1; have hfz43_2 := bF BK186.out 2; have hfz43_3 := bF BK186.out 3; have hfz43_4 := bF BK186.out 4))
        go_ret
        exact ⟨by first | rfl | (simp [errW_none, errW_some] <;> rfl) | (simp [*, errW_none, errW_some] <;> rfl), by repeat (first | (with_reducible first | exact HB.out | apply wA | apply wN | apply w1 | refine wS ?_ GE186.out) | exact HB.out)⟩
       ·rw [if_neg c41] at H
        have c41b0 : (a0_0 == 2) = false := beq_eq_false_iff_ne.mpr c41
        have c41b1 : (a0_0 != 2) = true := bne_iff_ne.mpr c41
        obtain rfl := Option.some.inj H
        go_enter Try.func17, Try.ntmps17
        go_wp2_with (first | ((with_reducible refine gate_dst (N := 1) rfl ?_); (try (refine gate_guard (by rfl) ?_; dsimp only)); refine box_event ?hg (N := 1) ?hd (cs := #[.int .u8 a0_0, .string a0_1, .string a0_2, .int .i64 a0_3, .slice A0_4 l0_4.length c0_4]) (t := 27) ?hr ?_; (case hd => rfl); (case hg => rfl); (case hr => first | (go_simp; done) | (go_simp; rfl)); intro gb186 hg w44 hbox hb; have n0_ := Aside0.mk (wT (by repeat (first | (with_reducible first | exact HB.out | apply wA | apply wN | apply w1) | exact HB.out)) hb); have n1_ := Aside0.mk (hbox); have n2_ := Aside0.mk ((by rw [hg]; exact (wZ (by repeat (first | (with_reducible first | exact HB.out | apply wA | apply wN | apply w1) | exact HB.out))) : w.heap.size ≤ gb186)); have n3_ := Aside0.mk ((by rw [hg]; exact (wZ (by repeat (first | (with_reducible first | exact HB.out | apply wA | apply wN | apply w1) | exact HB.out))) : w.heap.size ≤ gb186)); clear HB; have HB := n0_; have BK186 := n1_; have GW186 := n2_; have GE186 := n3_; clear n0_ n1_ n2_ n3_; clear hb hbox hg; have hcz45_0 : w44.cell? ⟨gb186, 0, none⟩ = some (.int .u8 a0_0) := (bC BK186.out 0).trans rfl; have hcz45_1 : w44.cell? ⟨gb186, 1, none⟩ = some (.string a0_1) := (bC BK186.out 1).trans rfl; have hcz45_2 : w44.cell? ⟨gb186, 2, none⟩ = some (.string a0_2) := (bC BK186.out 2).trans rfl; have hcz45_3 : w44.cell? ⟨gb186, 3, none⟩ = some (.int .i64 a0_3) := (bC BK186.out 3).trans rfl; have hcz45_4 : w44.cell? ⟨gb186, 4, none⟩ = some (.slice A0_4 l0_4.length c0_4) := (bC BK186.out 4).trans rfl; have hfz45_0 := bF BK186.out 0; have hfz45_1 := bF BK186.out 1; have hfz45_2 := bF BK186.out 2; have hfz45_3 := bF BK186.out 3; have hfz45_4 := bF BK186.out 4))
        go_ret
        exact ⟨by first | rfl | (simp [errW_none, errW_some] <;> rfl) | (simp [*, errW_none, errW_some] <;> rfl), by repeat (first | (with_reducible first | exact HB.out | apply wA | apply wN | apply w1 | refine wS ?_ GE186.out) | exact HB.out)⟩
      ·rw [if_neg c40] at H
       have c40b0 : (a0_0 == 6) = false := beq_eq_false_iff_ne.mpr c40
       have c40b1 : (a0_0 != 6) = true := bne_iff_ne.mpr c40
       by_cases c46 : a0_3 = 0
       ·rw [if_pos c46] at H
        have c46b0 : (a0_3 == 0) = true := beq_iff_eq.mpr c46
        have c46b1 : (a0_3 != 0) = false := bne_eq_false_iff_eq.mpr c46
        clear c46
        by_cases c47 : a0_0 = 2
        ·rw [if_pos c47] at H
         have c47b0 : (a0_0 == 2) = true := beq_iff_eq.mpr c47
         have c47b1 : (a0_0 != 2) = false := bne_eq_false_iff_eq.mpr c47
         clear c47
         obtain rfl := Option.some.inj H
         go_enter Try.func17, Try.ntmps17
         go_wp2_with (first | ((with_reducible refine gate_dst (N := 1) rfl ?_); (try (refine gate_guard (by rfl) ?_; dsimp only)); refine box_event ?hg (N := 1) ?hd (cs := #[.int .u8 a0_0, .string a0_1, .string a0_2, .int .i64 a0_3, .slice A0_4 l0_4.length c0_4]) (t := 27) ?hr ?_; (case hd => rfl); (case hg => rfl); (case hr => first | (go_simp; done) | (go_simp; rfl)); intro gb186 hg w48 hbox hb; have n0_ := Aside0.mk (wT (by repeat (first | (with_reducible first | exact HB.out | apply wA | apply wN | apply w1) | exact HB.out)) hb); have n1_ := Aside0.mk (hbox); have n2_ := Aside0.mk ((by rw [hg]; exact (wZ (by repeat (first | (with_reducible first | exact HB.out | apply wA | apply wN | apply w1) | exact HB.out))) : w.heap.size ≤ gb186)); have n3_ := Aside0.mk ((by rw [hg]; exact (wZ (by repeat (first | (with_reducible first | exact HB.out | apply wA | apply wN | apply w1) | exact HB.out))) : w.heap.size ≤ gb186)); clear HB; have HB := n0_; have BK186 := n1_; have GW186 := n2_; have GE186 := n3_; clear n0_ n1_ n2_ n3_; clear hb hbox hg; have hcz49_0 : w48.cell? ⟨gb186, 0, none⟩ = some (.int .u8 a0_0) := (bC BK186.out 0).trans rfl; have hcz49_1 : w48.cell? ⟨gb186, 1, none⟩ = some (.string a0_1) := (bC BK186.out 1).trans rfl; have hcz49_2 : w48.cell? ⟨gb186, 2, none⟩ = some (.string a0_2) := (bC BK186.out 2).trans rfl; have hcz49_3 : w48.cell? ⟨gb186, 3, none⟩ = some (.int .i64 a0_3) := (bC BK186.out 3).trans rfl; have hcz49_4 : w48.cell? ⟨gb186, 4, none⟩ = some (.slice A0_4 l0_4.length c0_4) := (bC BK186.out 4).trans rfl; have hfz49_0 := bF BK186.out 0; have hfz49_1 := bF BK186.out 1; have hfz49_2 := bF BK186.out 2; have hfz49_3 := bF BK186.out 3; have hfz49_4 := bF BK186.out 4))
         go_ret
         exact ⟨by first | rfl | (simp [errW_none, errW_some] <;> rfl) | (simp [*, errW_none, errW_some] <;> rfl), by repeat (first | (with_reducible first | exact HB.out | apply wA | apply wN | apply w1 | refine wS ?_ GE186.out) | exact HB.out)⟩
        ·rw [if_neg c47] at H
         have c47b0 : (a0_0 == 2) = false := beq_eq_false_iff_ne.mpr c47
         have c47b1 : (a0_0 != 2) = true := bne_iff_ne.mpr c47
         obtain rfl := Option.some.inj H
         go_enter Try.func17, Try.ntmps17
         go_wp2_with (first | ((with_reducible refine gate_dst (N := 1) rfl ?_); (try (refine gate_guard (by rfl) ?_; dsimp only)); refine box_event ?hg (N := 1) ?hd (cs := #[.int .u8 a0_0, .string a0_1, .string a0_2, .int .i64 a0_3, .slice A0_4 l0_4.length c0_4]) (t := 27) ?hr ?_; (case hd => rfl); (case hg => rfl); (case hr => first | (go_simp; done) | (go_simp; rfl)); intro gb186 hg w50 hbox hb; have n0_ := Aside0.mk (wT (by repeat (first | (with_reducible first | exact HB.out | apply wA | apply wN | apply w1) | exact HB.out)) hb); have n1_ := Aside0.mk (hbox); have n2_ := Aside0.mk ((by rw [hg]; exact (wZ (by repeat (first | (with_reducible first | exact HB.out | apply wA | apply wN | apply w1) | exact HB.out))) : w.heap.size ≤ gb186)); have n3_ := Aside0.mk ((by rw [hg]; exact (wZ (by repeat (first | (with_reducible first | exact HB.out | apply wA | apply wN | apply w1) | exact HB.out))) : w.heap.size ≤ gb186)); clear HB; have HB := n0_; have BK186 := n1_; have GW186 := n2_; have GE186 := n3_; clear n0_ n1_ n2_ n3_; clear hb hbox hg; have hcz51_0 : w50.cell? ⟨gb186, 0, none⟩ = some (.int .u8 a0_0) := (bC BK186.out 0).trans rfl; have hcz51_1 : w50.cell? ⟨gb186, 1, none⟩ = some (.string a0_1) := (bC BK186.out 1).trans rfl; have hcz51_2 : w50.cell? ⟨gb186, 2, none⟩ = some (.string a0_2) := (bC BK186.out 2).trans rfl; have hcz51_3 : w50.cell? ⟨gb186, 3, none⟩ = some (.int .i64 a0_3) := (bC BK186.out 3).trans rfl; have hcz51_4 : w50.cell? ⟨gb186, 4, none⟩ = some (.slice A0_4 l0_4.length c0_4) := (bC BK186.out 4).trans rfl; have hfz51_0 := bF BK186.out 0; have hfz51_1 := bF BK186.out 1; have hfz51_2 := bF BK186.out 2; have hfz51_3 := bF BK186.out 3; have hfz51_4 := bF BK186.out 4))
         go_ret
         exact ⟨by first | rfl | (simp [errW_none, errW_some] <;> rfl) | (simp [*, errW_none, errW_some] <;> rfl), by repeat (first | (with_reducible first | exact HB.out | apply wA | apply wN | apply w1 | refine wS ?_ GE186.out) | exact HB.out)⟩
       ·rw [if_neg c46] at H
        have c46b0 : (a0_3 == 0) = false := beq_eq_false_iff_ne.mpr c46
        have c46b1 : (a0_3 != 0) = true := bne_iff_ne.mpr c46
        obtain rfl := Option.some.inj H
        go_enter Try.func17, Try.ntmps17
        go_wp2_with (first | ((with_reducible refine gate_dst (N := 1) rfl ?_); (try (refine gate_guard (by rfl) ?_; dsimp only)); refine box_event ?hg (N := 1) ?hd (cs := #[.int .u8 a0_0, .string a0_1, .string a0_2, .int .i64 a0_3, .slice A0_4 l0_4.length c0_4]) (t := 27) ?hr ?_; (case hd => rfl); (case hg => rfl); (case hr => first | (go_simp; done) | (go_simp; rfl)); intro gb186 hg w52 hbox hb; have n0_ := Aside0.mk (wT (by repeat (first | (with_reducible first | exact HB.out | apply wA | apply wN | apply w1) | exact HB.out)) hb); have n1_ := Aside0.mk (hbox); have n2_ := Aside0.mk ((by rw [hg]; exact (wZ (by repeat (first | (with_reducible first | exact HB.out | apply wA | apply wN | apply w1) | exact HB.out))) : w.heap.size ≤ gb186)); have n3_ := Aside0.mk ((by rw [hg]; exact (wZ (by repeat (first | (with_reducible first | exact HB.out | apply wA | apply wN | apply w1) | exact HB.out))) : w.heap.size ≤ gb186)); clear HB; have HB := n0_; have BK186 := n1_; have GW186 := n2_; have GE186 := n3_; clear n0_ n1_ n2_ n3_; clear hb hbox hg; have hcz53_0 : w52.cell? ⟨gb186, 0, none⟩ = some (.int .u8 a0_0) := (bC BK186.out 0).trans rfl; have hcz53_1 : w52.cell? ⟨gb186, 1, none⟩ = some (.string a0_1) := (bC BK186.out 1).trans rfl; have hcz53_2 : w52.cell? ⟨gb186, 2, none⟩ = some (.string a0_2) := (bC BK186.out 2).trans rfl; have hcz53_3 : w52.cell? ⟨gb186, 3, none⟩ = some (.int .i64 a0_3) := (bC BK186.out 3).trans rfl; have hcz53_4 : w52.cell? ⟨gb186, 4, none⟩ = some (.slice A0_4 l0_4.length c0_4) := (bC BK186.out 4).trans rfl; have hfz53_0 := bF BK186.out 0; have hfz53_1 := bF BK186.out 1; have hfz53_2 := bF BK186.out 2; have hfz53_3 := bF BK186.out 3; have hfz53_4 := bF BK186.out 4))
        go_ret
        exact ⟨by first | rfl | (simp [errW_none, errW_some] <;> rfl) | (simp [*, errW_none, errW_some] <;> rfl), by repeat (first | (with_reducible first | exact HB.out | apply wA | apply wN | apply w1 | refine wS ?_ GE186.out) | exact HB.out)⟩
     ·rw [if_neg c39] at H
      have c39b0 : (a0_2.toList == ([] : List UInt8)) = false := beq_eq_false_iff_ne.mpr c39
      have c39b1 : (a0_2.toList != ([] : List UInt8)) = true := bne_iff_ne.mpr c39
      obtain rfl := Option.some.inj H
      go_enter Try.func17, Try.ntmps17
      go_wp2_with (first | ((with_reducible refine gate_dst (N := 1) rfl ?_); (try (refine gate_guard (by rfl) ?_; dsimp only)); refine box_event ?hg (N := 1) ?hd (cs := #[.int .u8 a0_0, .string a0_1, .string a0_2, .int .i64 a0_3, .slice A0_4 l0_4.length c0_4]) (t := 27) ?hr ?_; (case hd => rfl); (case hg => rfl); (case hr => first | (go_simp; done) | (go_simp; rfl)); intro gb186 hg w54 hbox hb; have n0_ := Aside0.mk (wT (by repeat (first | (with_reducible first | exact HB.out | apply wA | apply wN | apply w1) | exact HB.out)) hb); have n1_ := Aside0.mk (hbox); have n2_ := Aside0.mk ((by rw [hg]; exact (wZ (by repeat (first | (with_reducible first | exact HB.out | apply wA | apply wN | apply w1) | exact HB.out))) : w.heap.size ≤ gb186)); have n3_ := Aside0.mk ((by rw [hg]; exact (wZ (by repeat (first | (with_reducible first | exact HB.out | apply wA | apply wN | apply w1) | exact HB.out))) : w.heap.size ≤ gb186)); clear HB; have HB := n0_; have BK186 := n1_; have GW186 := n2_; have GE186 := n3_; clear n0_ n1_ n2_ n3_; clear hb hbox hg; have hcz55_0 : w54.cell? ⟨gb186, 0, none⟩ = some (.int .u8 a0_0) := (bC BK186.out 0).trans rfl; have hcz55_1 : w54.cell? ⟨gb186, 1, none⟩ = some (.string a0_1) := (bC BK186.out 1).trans rfl; have hcz55_2 : w54.cell? ⟨gb186, 2, none⟩ = some (.string a0_2) := (bC BK186.out 2).trans rfl; have hcz55_3 : w54.cell? ⟨gb186, 3, none⟩ = some (.int .i64 a0_3) := (bC BK186.out 3).trans rfl; have hcz55_4 : w54.cell? ⟨gb186, 4, none⟩ = some (.slice A0_4 l0_4.length c0_4) := (bC BK186.out 4).trans rfl; have hfz55_0 := bF BK186.out 0; have hfz55_1 := bF BK186.out 1; have hfz55_2 := bF BK186.out 2; have hfz55_3 := bF BK186.out 3; have hfz55_4 := bF BK186.out 4))
      go_ret
      exact ⟨by first | rfl | (simp [errW_none, errW_some] <;> rfl) | (simp [*, errW_none, errW_some] <;> rfl), by repeat (first | (with_reducible first | exact HB.out | apply wA | apply wN | apply w1 | refine wS ?_ GE186.out) | exact HB.out)⟩
 ·rw [if_neg c2] at H
  have c2b0 : (a0_0 == 1) = false := beq_eq_false_iff_ne.mpr c2
  have c2b1 : (a0_0 != 1) = true := bne_iff_ne.mpr c2
  by_cases c56 : a0_0 = 3
  ·rw [if_pos c56] at H
   have c56b0 : (a0_0 == 3) = true := beq_iff_eq.mpr c56
   have c56b1 : (a0_0 != 3) = false := bne_eq_false_iff_eq.mpr c56
   clear c56
   by_cases c57 : a0_0 = 2
   ·rw [if_pos c57] at H
    have c57b0 : (a0_0 == 2) = true := beq_iff_eq.mpr c57
    have c57b1 : (a0_0 != 2) = false := bne_eq_false_iff_eq.mpr c57
    clear c57
    obtain rfl := Option.some.inj H
    go_enter Try.func17, Try.ntmps17
    go_wp2_with (first | ((with_reducible refine gate_dst (N := 1) rfl ?_); (try (refine gate_guard (by rfl) ?_; dsimp only)); refine box_event ?hg (N := 1) ?hd (cs := #[.int .u8 a0_0, .string a0_1, .string a0_2, .int .i64 a0_3, .slice A0_4 l0_4.length c0_4]) (t := 27) ?hr ?_; (case hd => rfl); (case hg => rfl); (case hr => first | (go_simp; done) | (go_simp; rfl)); intro gb186 hg w58 hbox hb; have n0_ := Aside0.mk (wT (by repeat (first | (with_reducible first | exact HB.out | apply wA | apply wN | apply w1) | exact HB.out)) hb); have n1_ := Aside0.mk (hbox); have n2_ := Aside0.mk ((by rw [hg]; exact (wZ (by repeat (first | (with_reducible first | exact HB.out | apply wA | apply wN | apply w1) | exact HB.out))) : w.heap.size ≤ gb186)); have n3_ := Aside0.mk ((by rw [hg]; exact (wZ (by repeat (first | (with_reducible first | exact HB.out | apply wA | apply wN | apply w1) | exact HB.out))) : w.heap.size ≤ gb186)); clear HB; have HB := n0_; have BK186 := n1_; have GW186 := n2_; have GE186 := n3_; clear n0_ n1_ n2_ n3_; clear hb hbox hg; have hcz59_0 : w58.cell? ⟨gb186, 0, none⟩ = some (.int .u8 a0_0) := (bC BK186.out 0).trans rfl; have hcz59_1 : w58.cell? ⟨gb186, 1, none⟩ = some (.string a0_1) := (bC BK186.out 1).trans rfl; have hcz59_2 : w58.cell? ⟨gb186, 2, none⟩ = some (.string a0_2) := (bC BK186.out 2).trans rfl; have hcz59_3 : w58.cell? ⟨gb186, 3, none⟩ = some (.int .i64 a0_3) := (bC BK186.out 3).trans rfl; have hcz59_4 : w58.cell? ⟨gb186, 4, none⟩ = some (.slice A0_4 l0_4.length c0_4) := (bC BK186.out 4).trans rfl; have hfz59_0 := bF BK186.out 0; have hfz59_1 := bF BK186.out 1; have hfz59_2 := bF BK186.out 2; have hfz59_3 := bF BK186.out 3; have hfz59_4 := bF BK186.out 4))
    go_ret
    exact ⟨by first | rfl | (simp [errW_none, errW_some] <;> rfl) | (simp [*, errW_none, errW_some] <;> rfl), by repeat (first | (with_reducible first | exact HB.out | apply wA | apply wN | apply w1 | refine wS ?_ GE186.out) | exact HB.out)⟩
   ·rw [if_neg c57] at H
    have c57b0 : (a0_0 == 2) = false := beq_eq_false_iff_ne.mpr c57
    have c57b1 : (a0_0 != 2) = true := bne_iff_ne.mpr c57
    obtain rfl := Option.some.inj H
    go_enter Try.func17, Try.ntmps17
    go_wp2_with (first | ((with_reducible refine gate_dst (N := 1) rfl ?_); (try (refine gate_guard (by rfl) ?_; dsimp only)); refine box_event ?hg (N := 1) ?hd (cs := #[.int .u8 a0_0, .string a0_1, .string a0_2, .int .i64 a0_3, .slice A0_4 l0_4.length c0_4]) (t := 27) ?hr ?_; (case hd => rfl); (case hg => rfl); (case hr => first | (go_simp; done) | (go_simp; rfl)); intro gb186 hg w60 hbox hb; have n0_ := Aside0.mk (wT (by repeat (first | (with_reducible first | exact HB.out | apply wA | apply wN | apply w1) | exact HB.out)) hb); have n1_ := Aside0.mk (hbox); have n2_ := Aside0.mk ((by rw [hg]; exact (wZ (by repeat (first | (with_reducible first | exact HB.out | apply wA | apply wN | apply w1) | exact HB.out))) : w.heap.size ≤ gb186)); have n3_ := Aside0.mk ((by rw [hg]; exact (wZ (by repeat (first | (with_reducible first | exact HB.out | apply wA | apply wN | apply w1) | exact HB.out))) : w.heap.size ≤ gb186)); clear HB; have HB := n0_; have BK186 := n1_; have GW186 := n2_; have GE186 := n3_; clear n0_ n1_ n2_ n3_; clear hb hbox hg; have hcz61_0 : w60.cell? ⟨gb186, 0, none⟩ = some (.int .u8 a0_0) := (bC BK186.out 0).trans rfl; have hcz61_1 : w60.cell? ⟨gb186, 1, none⟩ = some (.string a0_1) := (bC BK186.out 1).trans rfl; have hcz61_2 : w60.cell? ⟨gb186, 2, none⟩ = some (.string a0_2) := (bC BK186.out 2).trans rfl; have hcz61_3 : w60.cell? ⟨gb186, 3, none⟩ = some (.int .i64 a0_3) := (bC BK186.out 3).trans rfl; have hcz61_4 : w60.cell? ⟨gb186, 4, none⟩ = some (.slice A0_4 l0_4.length c0_4) := (bC BK186.out 4).trans rfl; have hfz61_0 := bF BK186.out 0; have hfz61_1 := bF BK186.out 1; have hfz61_2 := bF BK186.out 2; have hfz61_3 := bF BK186.out 3; have hfz61_4 := bF BK186.out 4))
    go_ret
    exact ⟨by first | rfl | (simp [errW_none, errW_some] <;> rfl) | (simp [*, errW_none, errW_some] <;> rfl), by repeat (first | (with_reducible first | exact HB.out | apply wA | apply wN | apply w1 | refine wS ?_ GE186.out) | exact HB.out)⟩
  ·rw [if_neg c56] at H
   have c56b0 : (a0_0 == 3) = false := beq_eq_false_iff_ne.mpr c56
   have c56b1 : (a0_0 != 3) = true := bne_iff_ne.mpr c56
   by_cases c62 : a0_0 = 5
   ·rw [if_pos c62] at H
    have c62b0 : (a0_0 == 5) = true := beq_iff_eq.mpr c62
    have c62b1 : (a0_0 != 5) = false := bne_eq_false_iff_eq.mpr c62
    clear c62
    by_cases c63 : a0_0 = 4
    ·rw [if_pos c63] at H
     have c63b0 : (a0_0 == 4) = true := beq_iff_eq.mpr c63
     have c63b1 : (a0_0 != 4) = false := bne_eq_false_iff_eq.mpr c63
     clear c63
     by_cases c64 : a0_0 = 2
     ·rw [if_pos c64] at H
      have c64b0 : (a0_0 == 2) = true := beq_iff_eq.mpr c64
      have c64b1 : (a0_0 != 2) = false := bne_eq_false_iff_eq.mpr c64
      clear c64
      obtain rfl := Option.some.inj H
      go_enter Try.func17, Try.ntmps17
      go_wp2_with (first | ((with_reducible refine gate_dst (N := 1) rfl ?_); (try (refine gate_guard (by rfl) ?_; dsimp only)); refine box_event ?hg (N := 1) ?hd (cs := #[.int .u8 a0_0, .string a0_1, .string a0_2, .int .i64 a0_3, .slice A0_4 l0_4.length c0_4]) (t := 27) ?hr ?_; (case hd => rfl); (case hg => rfl); (case hr => first | (go_simp; done) | (go_simp; rfl)); intro gb186 hg w65 hbox hb; have n0_ := Aside0.mk (wT (by repeat (first | (with_reducible first | exact HB.out | apply wA | apply wN | apply w1) | exact HB.out)) hb); have n1_ := Aside0.mk (hbox); have n2_ := Aside0.mk ((by rw [hg]; exact (wZ (by repeat (first | (with_reducible first | exact HB.out | apply wA | apply wN | apply w1) | exact HB.out))) : w.heap.size ≤ gb186)); have n3_ := Aside0.mk ((by rw [hg]; exact (wZ (by repeat (first | (with_reducible first | exact HB.out | apply wA | apply wN | apply w1) | exact HB.out))) : w.heap.size ≤ gb186)); clear HB; have HB := n0_; have BK186 := n1_; have GW186 := n2_; have GE186 := n3_; clear n0_ n1_ n2_ n3_; clear hb hbox hg; have hcz66_0 : w65.cell? ⟨gb186, 0, none⟩ = some (.int .u8 a0_0) := (bC BK186.out 0).trans rfl; have hcz66_1 : w65.cell? ⟨gb186, 1, none⟩ = some (.string a0_1) := (bC BK186.out 1).trans rfl; have hcz66_2 : w65.cell? ⟨gb186, 2, none⟩ = some (.string a0_2) := (bC BK186.out 2).trans rfl; have hcz66_3 : w65.cell? ⟨gb186, 3, none⟩ = some (.int .i64 a0_3) := (bC BK186.out 3).trans rfl; have hcz66_4 : w65.cell? ⟨gb186, 4, none⟩ = some (.slice A0_4 l0_4.length c0_4) := (bC BK186.out 4).trans rfl; have hfz66_0 := bF BK186.out 0; have hfz66_1 := bF BK186.out 1; have hfz66_2 := bF BK186.out 2; have hfz66_3 := bF BK186.out 3; have hfz66_4 := bF BK186.out 4))
      go_ret
      exact ⟨by first | rfl | (simp [errW_none, errW_some] <;> rfl) | (simp [*, errW_none, errW_some] <;> rfl), by repeat (first | (with_reducible first | exact HB.out | apply wA | apply wN | apply w1 | refine wS ?_ GE186.out) | exact HB.out)⟩
     ·rw [if_neg c64] at H
      have c64b0 : (a0_0 == 2) = false := beq_eq_false_iff_ne.mpr c64
      have c64b1 : (a0_0 != 2) = true := bne_iff_ne.mpr c64
      obtain rfl := Option.some.inj H
      go_enter Try.func17, Try.ntmps17
      go_wp2_with (first | ((with_reducible refine gate_dst (N := 1) rfl ?_); (try (refine gate_guard (by rfl) ?_; dsimp only)); refine box_event ?hg (N := 1) ?hd (cs := #[.int .u8 a0_0, .string a0_1, .string a0_2, .int .i64 a0_3, .slice A0_4 l0_4.length c0_4]) (t := 27) ?hr ?_; (case hd => rfl); (case hg => rfl); (case hr => first | (go_simp; done) | (go_simp; rfl)); intro gb186 hg w67 hbox hb; have n0_ := Aside0.mk (wT (by repeat (first | (with_reducible first | exact HB.out | apply wA | apply wN | apply w1) | exact HB.out)) hb); have n1_ := Aside0.mk (hbox); have n2_ := Aside0.mk ((by rw [hg]; exact (wZ (by repeat (first | (with_reducible first | exact HB.out | apply wA | apply wN | apply w1) | exact HB.out))) : w.heap.size ≤ gb186)); have n3_ := Aside0.mk ((by rw [hg]; exact (wZ (by repeat (first | (with_reducible first | exact HB.out | apply wA | apply wN | apply w1) | exact HB.out))) : w.heap.size ≤ gb186)); clear HB; have HB := n0_; have BK186 := n1_; have GW186 := n2_; have GE186 := n3_; clear n0_ n1_ n2_ n3_; clear hb hbox hg; have hcz68_0 : w67.cell? ⟨gb186, 0, none⟩ = some (.int .u8 a0_0) := (bC BK186.out 0).trans rfl; have hcz68_1 : w67.cell? ⟨gb186, 1, none⟩ = some (.string a0_1) := (bC BK186.out 1).trans rfl; have hcz68_2 : w67.cell? ⟨gb186, 2, none⟩ = some (.string a0_2) := (bC BK186.out 2).trans rfl; have hcz68_3 : w67.cell? ⟨gb186, 3, none⟩ = some (.int .i64 a0_3) := (bC BK186.out 3).trans rfl; have hcz68_4 : w67.cell? ⟨gb186, 4, none⟩ = some (.slice A0_4 l0_4.length c0_4) := (bC BK186.out 4).trans rfl; have hfz68_0 := bF BK186.out 0; have hfz68_1 := bF BK186.out 1; have hfz68_2 := bF BK186.out 2; have hfz68_3 := bF BK186.out 3; have hfz68_4 := bF BK186.out 4))
      go_ret
      exact ⟨by first | rfl | (simp [errW_none, errW_some] <;> rfl) | (simp [*, errW_none, errW_some] <;> rfl), by repeat (first | (with_reducible first | exact HB.out | apply wA | apply wN | apply w1 | refine wS ?_ GE186.out) | exact HB.out)⟩
    ·rw [if_neg c63] at H
     have c63b0 : (a0_0 == 4) = false := beq_eq_false_iff_ne.mpr c63
     have c63b1 : (a0_0 != 4) = true := bne_iff_ne.mpr c63
     by_cases c69 : a0_1.toList = ([] : List UInt8)
     ·rw [if_pos c69] at H
      have c69b0 : (a0_1.toList == ([] : List UInt8)) = true := beq_iff_eq.mpr c69
      have c69b1 : (a0_1.toList != ([] : List UInt8)) = false := bne_eq_false_iff_eq.mpr c69
      clear c69
      by_cases c70 : a0_2.toList = ([] : List UInt8)
      ·rw [if_pos c70] at H
       have c70b0 : (a0_2.toList == ([] : List UInt8)) = true := beq_iff_eq.mpr c70
       have c70b1 : (a0_2.toList != ([] : List UInt8)) = false := bne_eq_false_iff_eq.mpr c70
       clear c70
       by_cases c71 : a0_0 = 2
       ·rw [if_pos c71] at H
        have c71b0 : (a0_0 == 2) = true := beq_iff_eq.mpr c71
        have c71b1 : (a0_0 != 2) = false := bne_eq_false_iff_eq.mpr c71
        clear c71
        obtain rfl := Option.some.inj H
        go_enter Try.func17, Try.ntmps17
        go_wp2_with (first | ((with_reducible refine gate_dst (N := 1) rfl ?_); (try (refine gate_guard (by rfl) ?_; dsimp only)); refine box_event ?hg (N := 1) ?hd (cs := #[.int .u8 a0_0, .string a0_1, .string a0_2, .int .i64 a0_3, .slice A0_4 l0_4.length c0_4]) (t := 27) ?hr ?_; (case hd => rfl); (case hg => rfl); (case hr => first | (go_simp; done) | (go_simp; rfl)); intro gb186 hg w72 hbox hb; have n0_ := Aside0.mk (wT (by repeat (first | (with_reducible first | exact HB.out | apply wA | apply wN | apply w1) | exact HB.out)) hb); have n1_ := Aside0.mk (hbox); have n2_ := Aside0.mk ((by rw [hg]; exact (wZ (by repeat (first | (with_reducible first | exact HB.out | apply wA | apply wN | apply w1) | exact HB.out))) : w.heap.size ≤ gb186)); have n3_ := Aside0.mk ((by rw [hg]; exact (wZ (by repeat (first | (with_reducible first | exact HB.out | apply wA | apply wN | apply w1) | exact HB.out))) : w.heap.size ≤ gb186)); clear HB; have HB := n0_; have BK186 := n1_; have GW186 := n2_; have GE186 := n3_; clear n0_ n1_ n2_ n3_; clear hb hbox hg; have hcz73_0 : w72.cell? ⟨gb186, 0, none⟩ = some (.int .u8 a0_0) := (bC BK186.out 0).trans rfl; have hcz73_1 : w72.cell? ⟨gb186, 1, none⟩ = some (.string a0_1) := (bC BK186.out 1).trans rfl; have hcz73_2 : w72.cell? ⟨gb186, 2, none⟩ = some (.string a0_2) := (bC BK186.out 2).trans rfl; have hcz73_3 : w72.cell? ⟨gb186, 3, none⟩ = some (.int .i64 a0_3) := (bC BK186.out 3).trans rfl; have hcz73_4 : w72.cell? ⟨gb186, 4, none⟩ = some (.slice A0_4 l0_4.length c0_4) := (bC BK186.out 4).trans rfl; have hfz73_0 := bF BK186.out 0; have hfz73_1 := bF BK186.out 1; have hfz73_2 := bF BK186.out 2; have hfz73_3 := bF BK186.out 3; have hfz73_4 := bF BK186.out 4))
        go_ret
        exact ⟨by first | rfl | (simp [errW_none, errW_some] <;> rfl) | (simp [*, errW_none, errW_some] <;> rfl), by repeat (first | (with_reducible first | exact HB.out | apply wA | apply wN | apply w1 | refine wS ?_ GE186.out) | exact HB.out)⟩
       ·rw [if_neg c71] at H
        have c71b0 : (a0_0 == 2) = false := beq_eq_false_iff_ne.mpr c71
        have c71b1 : (a0_0 != 2) = true := bne_iff_ne.mpr c71
        obtain rfl := Option.some.inj H
        go_enter Try.func17, Try.ntmps17
        go_wp2_with (first | ((with_reducible refine gate_dst (N := 1) rfl ?_); (try (refine gate_guard (by rfl) ?_; dsimp only)); refine box_event ?hg (N := 1) ?hd (cs := #[.int .u8 a0_0, .string a0_1, .string a0_2, .int .i64 a0_3, .slice A0_4 l0_4.length c0_4]) (t := 27) ?hr ?_; (case hd => rfl); (case hg => rfl); (case hr => first | (go_simp; done) | (go_simp; rfl)); intro gb186 hg w74 hbox hb; have n0_ := Aside0.mk (wT (by repeat (first | (with_reducible first | exact HB.out | apply wA | apply wN | apply w1) | exact HB.out)) hb); have n1_ := Aside0.mk (hbox); have n2_ := Aside0.mk ((by rw [hg]; exact (wZ (by repeat (first | (with_reducible first | exact HB.out | apply wA | apply wN | apply w1) | exact HB.out))) : w.heap.size ≤ gb186)); have n3_ := Aside0.mk ((by rw [hg]; exact (wZ (by repeat (first | (with_reducible first | exact HB.out | apply wA | apply wN | apply w1) | exact HB.out))) : w.heap.size ≤ gb186)); clear HB; have HB := n0_; have BK186 := n1_; have GW186 := n2_; have GE186 := n3_; clear n0_ n1_ n2_ n3_; clear hb hbox hg; have hcz75_0 : w74.cell? ⟨gb186, 0, none⟩ = some (.int .u8 a0_0) := (bC BK186.out 0).trans rfl; have hcz75_1 : w74.cell? ⟨gb186, 1, none⟩ = some (.string a0_1) := (bC BK186.out 1).trans rfl; have hcz75_2 : w74.cell? ⟨gb186, 2, none⟩ = some (.string a0_2) := (bC BK186.out 2).trans rfl; have hcz75_3 : w74.cell? ⟨gb186, 3, none⟩ = some (.int .i64 a0_3) := (bC BK186.out 3).trans rfl; have hcz75_4 : w74.cell? ⟨gb186, 4, none⟩ = some (.slice A0_4 l0_4.length c0_4) := (bC BK186.out 4).trans rfl; have hfz75_0 := bF BK186.out 0; have hfz75_1 := bF BK186.out 1; have hfz75_2 := bF BK186.out 2; have hfz75_3 := bF BK186.out 3; have hfz75_4 := bF BK186.out 4))
        go_ret
        exact ⟨by first | rfl | (simp [errW_none, errW_some] <;> rfl) | (simp [*, errW_none, errW_some] <;> rfl), by repeat (first | (with_reducible first | exact HB.out | apply wA | apply wN | apply w1 | refine wS ?_ GE186.out) | exact HB.out)⟩
      ·rw [if_neg c70] at H
       have c70b0 : (a0_2.toList == ([] : List UInt8)) = false := beq_eq_false_iff_ne.mpr c70
       have c70b1 : (a0_2.toList != ([] : List UInt8)) = true := bne_iff_ne.mpr c70
       obtain rfl := Option.some.inj H
       go_enter Try.func17, Try.ntmps17
       go_wp2_with (first | ((with_reducible refine gate_dst (N := 1) rfl ?_); (try (refine gate_guard (by rfl) ?_; dsimp only)); refine box_event ?hg (N := 1) ?hd (cs := #[.int .u8 a0_0, .string a0_1, .string a0_2, .int .i64 a0_3, .slice A0_4 l0_4.length c0_4]) (t := 27) ?hr ?_; (case hd => rfl); (case hg => rfl); (case hr => first | (go_simp; done) | (go_simp; rfl)); intro gb186 hg w76 hbox hb; have n0_ := Aside0.mk (wT (by repeat (first | (with_reducible first | exact HB.out | apply wA | apply wN | apply w1) | exact HB.out)) hb); have n1_ := Aside0.mk (hbox); have n2_ := Aside0.mk ((by rw [hg]; exact (wZ (by repeat (first | (with_reducible first | exact HB.out | apply wA | apply wN | apply w1) | exact HB.out))) : w.heap.size ≤ gb186)); have n3_ := Aside0.mk ((by rw [hg]; exact (wZ (by repeat (first | (with_reducible first | exact HB.out | apply wA | apply wN | apply w1) | exact HB.out))) : w.heap.size ≤ gb186)); clear HB; have HB := n0_; have BK186 := n1_; have GW186 := n2_; have GE186 := n3_; clear n0_ n1_ n2_ n3_; clear hb hbox hg; have hcz77_0 : w76.cell? ⟨gb186, 0, none⟩ = some (.int .u8 a0_0) := (bC BK186.out 0).trans rfl; have hcz77_1 : w76.cell? ⟨gb186, 1, none⟩ = some (.string a0_1) := (bC BK186.out 1).trans rfl; have hcz77_2 : w76.cell? ⟨gb186, 2, none⟩ = some (.string a0_2) := (bC BK186.out 2).trans rfl; have hcz77_3 : w76.cell? ⟨gb186, 3, none⟩ = some (.int .i64 a0_3) := (bC BK186.out 3).trans rfl; have hcz77_4 : w76.cell? ⟨gb186, 4, none⟩ = some (.slice A0_4 l0_4.length c0_4) := (bC BK186.out 4).trans rfl; have hfz77_0 := bF BK186.out 0; have hfz77_1 := bF BK186.out 1; have hfz77_2 := bF BK186.out 2; have hfz77_3 := bF BK186.out 3; have hfz77_4 := bF BK186.out 4))
       go_ret
       exact ⟨by first | rfl | (simp [errW_none, errW_some] <;> rfl) | (simp [*, errW_none, errW_some] <;> rfl), by repeat (first | (with_reducible first | exact HB.out | apply wA | apply wN | apply w1 | refine wS ?_ GE186.out) | exact HB.out)⟩
     ·rw [if_neg c69] at H
      have c69b0 : (a0_1.toList == ([] : List UInt8)) = false := beq_eq_false_iff_ne.mpr c69
      have c69b1 : (a0_1.toList != ([] : List UInt8)) = true := bne_iff_ne.mpr c69
      obtain rfl := Option.some.inj H
      go_enter Try.func17, Try.ntmps17
      go_wp2_with (first | ((with_reducible refine gate_dst (N := 1) rfl ?_); (try (refine gate_guard (by rfl) ?_; dsimp only)); refine box_event ?hg (N := 1) ?hd (cs := #[.int .u8 a0_0, .string a0_1, .string a0_2, .int .i64 a0_3, .slice A0_4 l0_4.length c0_4]) (t := 27) ?hr ?_; (case hd => rfl); (case hg => rfl); (case hr => first | (go_simp; done) | (go_simp; rfl)); intro gb186 hg w78 hbox hb; have n0_ := Aside0.mk (wT (by repeat (first | (with_reducible first | exact HB.out | apply wA | apply wN | apply w1) | exact HB.out)) hb); have n1_ := Aside0.mk (hbox); have n2_ := Aside0.mk ((by rw [hg]; exact (wZ (by repeat (first | (with_reducible first | exact HB.out | apply wA | apply wN | apply w1) | exact HB.out))) : w.heap.size ≤ gb186)); have n3_ := Aside0.mk ((by rw [hg]; exact (wZ (by repeat (first | (with_reducible first | exact HB.out | apply wA | apply wN | apply w1) | exact HB.out))) : w.heap.size ≤ gb186)); clear HB; have HB := n0_; have BK186 := n1_; have GW186 := n2_; have GE186 := n3_; clear n0_ n1_ n2_ n3_; clear hb hbox hg; have hcz79_0 : w78.cell? ⟨gb186, 0, none⟩ = some (.int .u8 a0_0) := (bC BK186.out 0).trans rfl; have hcz79_1 : w78.cell? ⟨gb186, 1, none⟩ = some (.string a0_1) := (bC BK186.out 1).trans rfl; have hcz79_2 : w78.cell? ⟨gb186, 2, none⟩ = some (.string a0_2) := (bC BK186.out 2).trans rfl; have hcz79_3 : w78.cell? ⟨gb186, 3, none⟩ = some (.int .i64 a0_3) := (bC BK186.out 3).trans rfl; have hcz79_4 : w78.cell? ⟨gb186, 4, none⟩ = some (.slice A0_4 l0_4.length c0_4) := (bC BK186.out 4).trans rfl; have hfz79_0 := bF BK186.out 0; have hfz79_1 := bF BK186.out 1; have hfz79_2 := bF BK186.out 2; have hfz79_3 := bF BK186.out 3; have hfz79_4 := bF BK186.out 4))
      go_ret
      exact ⟨by first | rfl | (simp [errW_none, errW_some] <;> rfl) | (simp [*, errW_none, errW_some] <;> rfl), by repeat (first | (with_reducible first | exact HB.out | apply wA | apply wN | apply w1 | refine wS ?_ GE186.out) | exact HB.out)⟩
   ·rw [if_neg c62] at H
    have c62b0 : (a0_0 == 5) = false := beq_eq_false_iff_ne.mpr c62
    have c62b1 : (a0_0 != 5) = true := bne_iff_ne.mpr c62
    by_cases c80 : a0_0 = 4
    ·rw [if_pos c80] at H
     have c80b0 : (a0_0 == 4) = true := beq_iff_eq.mpr c80
     have c80b1 : (a0_0 != 4) = false := bne_eq_false_iff_eq.mpr c80
     clear c80
     by_cases c81 : a0_0 = 6
     ·rw [if_pos c81] at H
      have c81b0 : (a0_0 == 6) = true := beq_iff_eq.mpr c81
      have c81b1 : (a0_0 != 6) = false := bne_eq_false_iff_eq.mpr c81
      clear c81
      by_cases c82 : a0_0 = 2
      ·rw [if_pos c82] at H
       have c82b0 : (a0_0 == 2) = true := beq_iff_eq.mpr c82
       have c82b1 : (a0_0 != 2) = false := bne_eq_false_iff_eq.mpr c82
       clear c82
       obtain rfl := Option.some.inj H
       go_enter Try.func17, Try.ntmps17
       go_wp2_with (first | ((with_reducible refine gate_dst (N := 1) rfl ?_); (try (refine gate_guard (by rfl) ?_; dsimp only)); refine box_event ?hg (N := 1) ?hd (cs := #[.int .u8 a0_0, .string a0_1, .string a0_2, .int .i64 a0_3, .slice A0_4 l0_4.length c0_4]) (t := 27) ?hr ?_; (case hd => rfl); (case hg => rfl); (case hr => first | (go_simp; done) | (go_simp; rfl)); intro gb186 hg w83 hbox hb; have n0_ := Aside0.mk (wT (by repeat (first | (with_reducible first | exact HB.out | apply wA | apply wN | apply w1) | exact HB.out)) hb); have n1_ := Aside0.mk (hbox); have n2_ := Aside0.mk ((by rw [hg]; exact (wZ (by repeat (first | (with_reducible first | exact HB.out | apply wA | apply wN | apply w1) | exact HB.out))) : w.heap.size ≤ gb186)); have n3_ := Aside0.mk ((by rw [hg]; exact (wZ (by repeat (first | (with_reducible first | exact HB.out | apply wA | apply wN | apply w1) | exact HB.out))) : w.heap.size ≤ gb186)); clear HB; have HB := n0_; have BK186 := n1_; have GW186 := n2_; have GE186 := n3_; clear n0_ n1_ n2_ n3_; clear hb hbox hg; have hcz84_0 : w83.cell? ⟨gb186, 0, none⟩ = some (.int .u8 a0_0) := (bC BK186.out 0).trans rfl; have hcz84_1 : w83.cell? ⟨gb186, 1, none⟩ = some (.string a0_1) := (bC BK186.out 1).trans rfl; have hcz84_2 : w83.cell? ⟨gb186, 2, none⟩ = some (.string a0_2) := (bC BK186.out 2).trans rfl; have hcz84_3 : w83.cell? ⟨gb186, 3, none⟩ = some (.int .i64 a0_3) := (bC BK186.out 3).trans rfl; have hcz84_4 : w83.cell? ⟨gb186, 4, none⟩ = some (.slice A0_4 l0_4.length c0_4) := (bC BK186.out 4).trans rfl; have hfz84_0 := bF BK186.out 0; have hfz84_1 := bF BK186.out 1; have hfz84_2 := bF BK186.out 2; have hfz84_3 := bF BK186.out 3; have hfz84_4 := bF BK186.out 4))
       go_ret
       exact ⟨by first | rfl | (simp [errW_none, errW_some] <;> rfl) | (simp [*, errW_none, errW_some] <;> rfl), by repeat (first | (with_reducible first | exact HB.out | apply wA | apply wN | apply w1 | refine wS ?_ GE186.out) | exact HB.out)⟩
      ·rw [if_neg c82] at H
       have c82b0 : (a0_0 == 2) = false := beq_eq_false_iff_ne.mpr c82
       have c82b1 : (a0_0 != 2) = true := bne_iff_ne.mpr c82
       obtain rfl := Option.some.inj H
       go_enter Try.func17, Try.ntmps17
       go_wp2_with (first | ((with_reducible refine gate_dst (N := 1) rfl ?_); (try (refine gate_guard (by rfl) ?_; dsimp only)); refine box_event ?hg (N := 1) ?hd (cs := #[.int .u8 a0_0, .string a0_1, .string a0_2, .int .i64 a0_3, .slice A0_4 l0_4.length c0_4]) (t := 27) ?hr ?_; (case hd => rfl); (case hg => rfl); (case hr => first | (go_simp; done) | (go_simp; rfl)); intro gb186 hg w85 hbox hb; have n0_ := Aside0.mk (wT (by repeat (first | (with_reducible first | exact HB.out | apply wA | apply wN | apply w1) | exact HB.out)) hb); have n1_ := Aside0.mk (hbox); have n2_ := Aside0.mk ((by rw [hg]; exact (wZ (by repeat (first | (with_reducible first | exact HB.out | apply wA | apply wN | apply w1) | exact HB.out))) : w.heap.size ≤ gb186)); have n3_ := Aside0.mk ((by rw [hg]; exact (wZ (by repeat (first | (with_reducible first | exact HB.out | apply wA | apply wN | apply w1) | exact HB.out))) : w.heap.size ≤ gb186)); clear HB; have HB := n0_; have BK186 := n1_; have GW186 := n2_; have GE186 := n3_; clear n0_ n1_ n2_ n3_; clear hb hbox hg; have hcz86_0 : w85.cell? ⟨gb186, 0, none⟩ = some (.int .u8 a0_0) := (bC BK186.out 0).trans rfl; have hcz86_1 : w85.cell? ⟨gb186, 1, none⟩ = some (.string a0_1) := (bC BK186.out 1).trans rfl; have hcz86_2 : w85.cell? ⟨gb186, 2, none⟩ = some (.string a0_2) := (bC BK186.out 2).trans rfl; have hcz86_3 : w85.cell? ⟨gb186, 3, none⟩ = some (.int .i64 a0_3) := (bC BK186.out 3).trans rfl; have hcz86_4 : w85.cell? ⟨gb186, 4, none⟩ = some (.slice A0_4 l0_4.length c0_4) := (bC BK186.out 4).trans rfl; have hfz86_0 := bF BK186.out 0; have hfz86_1 := bF BK186.out 1; have hfz86_2 := bF BK186.out 2; have hfz86_3 := bF BK186.out 3; have hfz86_4 := bF BK186.out 4))
       go_ret
       exact ⟨by first | rfl | (simp [errW_none, errW_some] <;> rfl) | (simp [*, errW_none, errW_some] <;> rfl), by repeat (first | (with_reducible first | exact HB.out | apply wA | apply wN | apply w1 | refine wS ?_ GE186.out) | exact HB.out)⟩
     ·rw [if_neg c81] at H
      have c81b0 : (a0_0 == 6) = false := beq_eq_false_iff_ne.mpr c81
      have c81b1 : (a0_0 != 6) = true := bne_iff_ne.mpr c81
      by_cases c87 : a0_3 = 0
      ·rw [if_pos c87] at H
       have c87b0 : (a0_3 == 0) = true := beq_iff_eq.mpr c87
       have c87b1 : (a0_3 != 0) = false := bne_eq_false_iff_eq.mpr c87
       clear c87
       by_cases c88 : a0_0 = 2
       ·rw [if_pos c88] at H
        have c88b0 : (a0_0 == 2) = true := beq_iff_eq.mpr c88
        have c88b1 : (a0_0 != 2) = false := bne_eq_false_iff_eq.mpr c88
        clear c88
        obtain rfl := Option.some.inj H
        go_enter Try.func17, Try.ntmps17
        go_wp2_with (first | ((with_reducible refine gate_dst (N := 1) rfl ?_); (try (refine gate_guard (by rfl) ?_; dsimp only)); refine box_event ?hg (N := 1) ?hd (cs := #[.int .u8 a0_0, .string a0_1, .string a0_2, .int .i64 a0_3, .slice A0_4 l0_4.length c0_4]) (t := 27) ?hr ?_; (case hd => rfl); (case hg => rfl); (case hr => first | (go_simp; done) | (go_simp; rfl)); intro gb186 hg w89 hbox hb; have n0_ := Aside0.mk (wT (by repeat (first | (with_reducible first | exact HB.out | apply wA | apply wN | apply w1) | exact HB.out)) hb); have n1_ := Aside0.mk (hbox); have n2_ := Aside0.mk ((by rw [hg]; exact (wZ (by repeat (first | (with_reducible first | exact HB.out | apply wA | apply wN | apply w1) | exact HB.out))) : w.heap.size ≤ gb186)); have n3_ := Aside0.mk ((by rw [hg]; exact (wZ (by repeat (first | (with_reducible first | exact HB.out | apply wA | apply wN | apply w1) | exact HB.out))) : w.heap.size ≤ gb186)); clear HB; have HB := n0_; have BK186 := n1_; have GW186 := n2_; have GE186 := n3_; clear n0_ n1_ n2_ n3_; clear hb hbox hg; have hcz90_0 : w89.cell? ⟨gb186, 0, none⟩ = some (.int .u8 a0_0) := (bC BK186.out 0).trans rfl; have hcz90_1 : w89.cell? ⟨gb186, 1, none⟩ = some (.string a0_1) := (bC BK186.out 1).trans rfl; have hcz90_2 : w89.cell? ⟨gb186, 2, none⟩ = some (.string a0_2) := (bC BK186.out 2).trans rfl; have hcz90_3 : w89.cell? ⟨gb186, 3, none⟩ = some (.int .i64 a0_3) := (bC BK186.out 3).trans rfl; have hcz90_4 : w89.cell? ⟨gb186, 4, none⟩ = some (.slice A0_4 l0_4.length c0_4) := (bC BK186.out 4).trans rfl; have hfz90_0 := bF BK186.out 0; have hfz90_1 := bF BK186.out 1; have hfz90_2 := bF BK186.out 2; have hfz90_3 := bF BK186.out 3; have hfz90_4 := bF BK186.out 4))
        go_ret
        exact ⟨by first | rfl | (simp [errW_none, errW_some] <;> rfl) | (simp [*, errW_none, errW_some] <;> rfl), by repeat (first | (with_reducible first | exact HB.out | apply wA | apply wN | apply w1 | refine wS ?_ GE186.out) | exact HB.out)⟩
       ·rw [if_neg c88] at H
        have c88b0 : (a0_0 == 2) = false := beq_eq_false_iff_ne.mpr c88
        have c88b1 : (a0_0 != 2) = true := bne_iff_ne.mpr c88
        obtain rfl := Option.some.inj H
        go_enter Try.func17, Try.ntmps17
        go_wp2_with (first | ((with_reducible refine gate_dst (N := 1) rfl ?_); (try (refine gate_guard (by rfl) ?_; dsimp only)); refine box_event ?hg (N := 1) ?hd (cs := #[.int .u8 a0_0, .string a0_1, .string a0_2, .int .i64 a0_3, .slice A0_4 l0_4.length c0_4]) (t := 27) ?hr ?_; (case hd => rfl); (case hg => rfl); (case hr => first | (go_simp; done) | (go_simp; rfl)); intro gb186 hg w91 hbox hb; have n0_ := Aside0.mk (wT (by repeat (first | (with_reducible first | exact HB.out | apply wA | apply wN | apply w1) | exact HB.out)) hb); have n1_ := Aside0.mk (hbox); have n2_ := Aside0.mk ((by rw [hg]; exact (wZ (by repeat (first | (with_reducible first | exact HB.out | apply wA | apply wN | apply w1) | exact HB.out))) : w.heap.size ≤ gb186)); have n3_ := Aside0.mk ((by rw [hg]; exact (wZ (by repeat (first | (with_reducible first | exact HB.out | apply wA | apply wN | apply w1) | exact HB.out))) : w.heap.size ≤ gb186)); clear HB; have HB := n0_; have BK186 := n1_; have GW186 := n2_; have GE186 := n3_; clear n0_ n1_ n2_ n3_; clear hb hbox hg; have hcz92_0 : w91.cell? ⟨gb186, 0, none⟩ = some (.int .u8 a0_0) := (bC BK186.out 0).trans rfl; have hcz92_1 : w91.cell? ⟨gb186, 1, none⟩ = some (.string a0_1) := (bC BK186.out 1).trans rfl; have hcz92_2 : w91.cell? ⟨gb186, 2, none⟩ = some (.string a0_2) := (bC BK186.out 2).trans rfl; have hcz92_3 : w91.cell? ⟨gb186, 3, none⟩ = some (.int .i64 a0_3) := (bC BK186.out 3).trans rfl; have hcz92_4 : w91.cell? ⟨gb186, 4, none⟩ = some (.slice A0_4 l0_4.length c0_4) := (bC BK186.out 4).trans rfl; have hfz92_0 := bF BK186.out 0; have hfz92_1 := bF BK186.out 1; have hfz92_2 := bF BK186.out 2; have hfz92_3 := bF BK186.out 3; have hfz92_4 := bF BK186.out 4))
        go_ret
        exact ⟨by first | rfl | (simp [errW_none, errW_some] <;> rfl) | (simp [*, errW_none, errW_some] <;> rfl), by repeat (first | (with_reducible first | exact HB.out | apply wA | apply wN | apply w1 | refine wS ?_ GE186.out) | exact HB.out)⟩
      ·rw [if_neg c87] at H
       have c87b0 : (a0_3 == 0) = false := beq_eq_false_iff_ne.mpr c87
       have c87b1 : (a0_3 != 0) = true := bne_iff_ne.mpr c87
       obtain rfl := Option.some.inj H
       go_enter Try.func17, Try.ntmps17
       go_wp2_with (first | ((with_reducible refine gate_dst (N := 1) rfl ?_); (try (refine gate_guard (by rfl) ?_; dsimp only)); refine box_event ?hg (N := 1) ?hd (cs := #[.int .u8 a0_0, .string a0_1, .string a0_2, .int .i64 a0_3, .slice A0_4 l0_4.length c0_4]) (t := 27) ?hr ?_; (case hd => rfl); (case hg => rfl); (case hr => first | (go_simp; done) | (go_simp; rfl)); intro gb186 hg w93 hbox hb; have n0_ := Aside0.mk (wT (by repeat (first | (with_reducible first | exact HB.out | apply wA | apply wN | apply w1) | exact HB.out)) hb); have n1_ := Aside0.mk (hbox); have n2_ := Aside0.mk ((by rw [hg]; exact (wZ (by repeat (first | (with_reducible first | exact HB.out | apply wA | apply wN | apply w1) | exact HB.out))) : w.heap.size ≤ gb186)); have n3_ := Aside0.mk ((by rw [hg]; exact (wZ (by repeat (first | (with_reducible first | exact HB.out | apply wA | apply wN | apply w1) | exact HB.out))) : w.heap.size ≤ gb186)); clear HB; have HB := n0_; have BK186 := n1_; have GW186 := n2_; have GE186 := n3_; clear n0_ n1_ n2_ n3_; clear hb hbox hg; have hcz94_0 : w93.cell? ⟨gb186, 0, none⟩ = some (.int .u8 a0_0) := (bC BK186.out 0).trans rfl; have hcz94_1 : w93.cell? ⟨gb186, 1, none⟩ = some (.string a0_1) := (bC BK186.out 1).trans rfl; have hcz94_2 : w93.cell? ⟨gb186, 2, none⟩ = some (.string a0_2) := (bC BK186.out 2).trans rfl; have hcz94_3 : w93.cell? ⟨gb186, 3, none⟩ = some (.int .i64 a0_3) := (bC BK186.out 3).trans rfl; have hcz94_4 : w93.cell? ⟨gb186, 4, none⟩ = some (.slice A0_4 l0_4.length c0_4) := (bC BK186.out 4).trans rfl; have hfz94_0 := bF BK186.out 0; have hfz94_1 := bF BK186.out 1; have hfz94_2 := bF BK186.out 2; have hfz94_3 := bF BK186.out 3; have hfz94_4 := bF BK186.out 4))
       go_ret
       exact ⟨by first | rfl | (simp [errW_none, errW_some] <;> rfl) | (simp [*, errW_none, errW_some] <;> rfl), by repeat (first | (with_reducible first | exact HB.out | apply wA | apply wN | apply w1 | refine wS ?_ GE186.out) | exact HB.out)⟩
    ·rw [if_neg c80] at H
     have c80b0 : (a0_0 == 4) = false := beq_eq_false_iff_ne.mpr c80
     have c80b1 : (a0_0 != 4) = true := bne_iff_ne.mpr c80
     by_cases c95 : a0_1.toList = ([] : List UInt8)
     ·rw [if_pos c95] at H
      have c95b0 : (a0_1.toList == ([] : List UInt8)) = true := beq_iff_eq.mpr c95
      have c95b1 : (a0_1.toList != ([] : List UInt8)) = false := bne_eq_false_iff_eq.mpr c95
      clear c95
      by_cases c96 : a0_2.toList = ([] : List UInt8)
      ·rw [if_pos c96] at H
       have c96b0 : (a0_2.toList == ([] : List UInt8)) = true := beq_iff_eq.mpr c96
       have c96b1 : (a0_2.toList != ([] : List UInt8)) = false := bne_eq_false_iff_eq.mpr c96
       clear c96
       by_cases c97 : a0_0 = 6
       ·rw [if_pos c97] at H
        have c97b0 : (a0_0 == 6) = true := beq_iff_eq.mpr c97
        have c97b1 : (a0_0 != 6) = false := bne_eq_false_iff_eq.mpr c97
        clear c97
        by_cases c98 : a0_0 = 2
        ·rw [if_pos c98] at H
         have c98b0 : (a0_0 == 2) = true := beq_iff_eq.mpr c98
         have c98b1 : (a0_0 != 2) = false := bne_eq_false_iff_eq.mpr c98
         clear c98
         obtain rfl := Option.some.inj H
         go_enter Try.func17, Try.ntmps17
         go_wp2_with (first | ((with_reducible refine gate_dst (N := 1) rfl ?_); (try (refine gate_guard (by rfl) ?_; dsimp only)); refine box_event ?hg (N := 1) ?hd (cs := #[.int .u8 a0_0, .string a0_1, .string a0_2, .int .i64 a0_3, .slice A0_4 l0_4.length c0_4]) (t := 27) ?hr ?_; (case hd => rfl); (case hg => rfl); (case hr => first | (go_simp; done) | (go_simp; rfl)); intro gb186 hg w99 hbox hb; have n0_ := Aside0.mk (wT (by repeat (first | (with_reducible first | exact HB.out | apply wA | apply wN | apply w1) | exact HB.out)) hb); have n1_ := Aside0.mk (hbox); have n2_ := Aside0.mk ((by rw [hg]; exact (wZ (by repeat (first | (with_reducible first | exact HB.out | apply wA | apply wN | apply w1) | exact HB.out))) : w.heap.size ≤ gb186)); have n3_ := Aside0.mk ((by rw [hg]; exact (wZ (by repeat (first | (with_reducible first | exact HB.out | apply wA | apply wN | apply w1) | exact HB.out))) : w.heap.size ≤ gb186)); clear HB; have HB := n0_; have BK186 := n1_; have GW186 := n2_; have GE186 := n3_; clear n0_ n1_ n2_ n3_; clear hb hbox hg; have hcz100_0 : w99.cell? ⟨gb186, 0, none⟩ = some (.int .u8 a0_0) := (bC BK186.out 0).trans rfl; have hcz100_1 : w99.cell? ⟨gb186, 1, none⟩ = some (.string a0_1) := (bC BK186.out 1).trans rfl; have hcz100_2 : w99.cell? ⟨gb186, 2, none⟩ = some (.string a0_2) := (bC BK186.out 2).trans rfl; have hcz100_3 : w99.cell? ⟨gb186, 3, none⟩ = some (.int .i64 a0_3) := (bC BK186.out 3).trans rfl; have hcz100_4 : w99.cell? ⟨gb186, 4, none⟩ = some (.slice A0_4 l0_4.length c0_4) := (bC BK186.out 4).trans rfl; have hfz100_0 := bF BK186.out 0; have hfz100_1 := bF BK186.out 1; have hfz100_2 := bF BK186.out 2; have hfz100_3 := bF BK186.out 3; have hfz100_4 := bF BK186.out 4))
         go_ret
         exact ⟨by first | rfl | (simp [errW_none, errW_some] <;> rfl) | (simp [*, errW_none, errW_some] <;> rfl), by repeat (first | (with_reducible first | exact HB.out | apply wA | apply wN | apply w1 | refine wS ?_ GE186.out) | exact HB.out)⟩
        ·rw [if_neg c98] at H
         have c98b0 : (a0_0 == 2) = false := beq_eq_false_iff_ne.mpr c98
         have c98b1 : (a0_0 != 2) = true := bne_iff_ne.mpr c98
         obtain rfl := Option.some.inj H
         go_enter Try.func17, Try.ntmps17
         go_wp2_with (first | ((with_reducible refine gate_dst (N := 1) rfl ?_); (try (refine gate_guard (by rfl) ?_; dsimp only)); refine box_event ?hg (N := 1) ?hd (cs := #[.int .u8 a0_0, .string a0_1, .string a0_2, .int .i64 a0_3, .slice A0_4 l0_4.length c0_4]) (t := 27) ?hr ?_; (case hd => rfl); (case hg => rfl); (case hr => first | (go_simp; done) | (go_simp; rfl)); intro gb186 hg w101 hbox hb; have n0_ := Aside0.mk (wT (by repeat (first | (with_reducible first | exact HB.out | apply wA | apply wN | apply w1) | exact HB.out)) hb); have n1_ := Aside0.mk (hbox); have n2_ := Aside0.mk ((by rw [hg]; exact (wZ (by repeat (first | (with_reducible first | exact HB.out | apply wA | apply wN | apply w1) | exact HB.out))) : w.heap.size ≤ gb186)); have n3_ := Aside0.mk ((by rw [hg]; exact (wZ (by repeat (first | (with_reducible first | exact HB.out | apply wA | apply wN | apply w1) | exact HB.out))) : w.heap.size ≤ gb186)); clear HB; have HB := n0_; have BK186 := n1_; have GW186 := n2_; have GE186 := n3_; clear n0_ n1_ n2_ n3_; clear hb hbox hg; have hcz102_0 : w101.cell? ⟨gb186, 0, none⟩ = some (.int .u8 a0_0) := (bC BK186.out 0).trans rfl; have hcz102_1 : w101.cell? ⟨gb186, 1, none⟩ = some (.string a0_1) := (bC BK186.out 1).trans rfl; have hcz102_2 : w101.cell? ⟨gb186, 2, none⟩ = some (.string a0_2) := (bC BK186.out 2).trans rfl; have hcz102_3 : w101.cell? ⟨gb186, 3, none⟩ = some (.int .i64 a0_3) := (bC BK186.out 3).trans rfl; have hcz102_4 : w101.cell? ⟨gb186, 4, none⟩ = some (.slice A0_4 l0_4.length c0_4) := (bC BK186.out 4).trans rfl; have hfz102_0 := bF BK186.out 0; have hfz102_1 := bF BK186.out 1; have hfz102_2 := bF BK186.out 2; have hfz102_3 := bF BK186.out 3; have hfz102_4 := bF BK186.out 4))
         go_ret
         exact ⟨by first | rfl | (simp [errW_none, errW_some] <;> rfl) | (simp [*, errW_none, errW_some] <;> rfl), by repeat (first | (with_reducible first | exact HB.out | apply wA | apply wN | apply w1 | refine wS ?_ GE186.out) | exact HB.out)⟩
       ·rw [if_neg c97] at H
        have c97b0 : (a0_0 == 6) = false := beq_eq_false_iff_ne.mpr c97
        have c97b1 : (a0_0 != 6) = true := bne_iff_ne.mpr c97
        by_cases c103 : a0_3 = 0
        ·rw [if_pos c103] at H
         have c103b0 : (a0_3 == 0) = true := beq_iff_eq.mpr c103
         have c103b1 : (a0_3 != 0) = false := bne_eq_false_iff_eq.mpr c103
         clear c103
         by_cases c104 : a0_0 = 2
         ·rw [if_pos c104] at H
          have c104b0 : (a0_0 == 2) = true := beq_iff_eq.mpr c104
          have c104b1 : (a0_0 != 2) = false := bne_eq_false_iff_eq.mpr c104
          clear c104
          obtain rfl := Option.some.inj H
          go_enter Try.func17, Try.ntmps17
          go_wp2_with (first | ((with_reducible refine gate_dst (N := 1) rfl ?_); (try (refine gate_guard (by rfl) ?_; dsimp only)); refine box_event ?hg (N := 1) ?hd (cs := #[.int .u8 a0_0, .string a0_1, .string a0_2, .int .i64 a0_3, .slice A0_4 l0_4.length c0_4]) (t := 27) ?hr ?_; (case hd => rfl); (case hg => rfl); (case hr => first | (go_simp; done) | (go_simp; rfl)); intro gb186 hg w105 hbox hb; have n0_ := Aside0.mk (wT (by repeat (first | (with_reducible first | exact HB.out | apply wA | apply wN | apply w1) | exact HB.out)) hb); have n1_ := Aside0.mk (hbox); have n2_ := Aside0.mk ((by rw [hg]; exact (wZ (by repeat (first | (with_reducible first | exact HB.out | apply wA | apply wN | apply w1) | exact HB.out))) : w.heap.size ≤ gb186)); have n3_ := Aside0.mk ((by rw [hg]; exact (wZ (by repeat (first | (with_reducible first | exact HB.out | apply wA | apply wN | apply w1) | exact HB.out))) : w.heap.size ≤ gb186)); clear HB; have HB := n0_; have BK186 := n1_; have GW186 := n2_; have GE186 := n3_; clear n0_ n1_ n2_ n3_; clear hb hbox hg; have hcz106_0 : w105.cell? ⟨gb186, 0, none⟩ = some (.int .u8 a0_0) := (bC BK186.out 0).trans rfl; have hcz106_1 : w105.cell? ⟨gb186, 1, none⟩ = some (.string a0_1) := (bC BK186.out 1).trans rfl; have hcz106_2 : w105.cell? ⟨gb186, 2, none⟩ = some (.string a0_2) := (bC BK186.out 2).trans rfl; have hcz106_3 : w105.cell? ⟨gb186, 3, none⟩ = some (.int .i64 a0_3) := (bC BK186.out 3).trans rfl; have hcz106_4 : w105.cell? ⟨gb186, 4, none⟩ = some (.slice A0_4 l0_4.length c0_4) := (bC BK186.out 4).trans rfl; have hfz106_0 := bF BK186.out 0; have hfz106_1 := bF BK186.out 1; have hfz106_2 := bF BK186.out 2; have hfz106_3 := bF BK186.out 3; have hfz106_4 := bF BK186.out 4))
          go_ret
          exact ⟨by first | rfl | (simp [errW_none, errW_some] <;> rfl) | (simp [*, errW_none, errW_some] <;> rfl), by repeat (first | (with_reducible first | exact HB.out | apply wA | apply wN | apply w1 | refine wS ?_ GE186.out) | exact HB.out)⟩
         ·rw [if_neg c104] at H
          have c104b0 : (a0_0 == 2) = false := beq_eq_false_iff_ne.mpr c104
          have c104b1 : (a0_0 != 2) = true := bne_iff_ne.mpr c104
          obtain rfl := Option.some.inj H
          go_enter Try.func17, Try.ntmps17
          go_wp2_with (first | ((with_reducible refine gate_dst (N := 1) rfl ?_); (try (refine gate_guard (by rfl) ?_; dsimp only)); refine box_event ?hg (N := 1) ?hd (cs := #[.int .u8 a0_0, .string a0_1, .string a0_2, .int .i64 a0_3, .slice A0_4 l0_4.length c0_4]) (t := 27) ?hr ?_; (case hd => rfl); (case hg => rfl); (case hr => first | (go_simp; done) | (go_simp; rfl)); intro gb186 hg w107 hbox hb; have n0_ := Aside0.mk (wT (by repeat (first | (with_reducible first | exact HB.out | apply wA | apply wN | apply w1) | exact HB.out)) hb); have n1_ := Aside0.mk (hbox); have n2_ := Aside0.mk ((by rw [hg]; exact (wZ (by repeat (first | (with_reducible first | exact HB.out | apply wA | apply wN | apply w1) | exact HB.out))) : w.heap.size ≤ gb186)); have n3_ := Aside0.mk ((by rw [hg]; exact (wZ (by repeat (first | (with_reducible first | exact HB.out | apply wA | apply wN | apply w1) | exact HB.out))) : w.heap.size ≤ gb186)); clear HB; have HB := n0_; have BK186 := n1_; have GW186 := n2_; have GE186 := n3_; clear n0_ n1_ n2_ n3_; clear hb hbox hg; have hcz108_0 : w107.cell? ⟨gb186, 0, none⟩ = some (.int .u8 a0_0) := (bC BK186.out 0).trans rfl; have hcz108_1 : w107.cell? ⟨gb186, 1, none⟩ = some (.string a0_1) := (bC BK186.out 1).trans rfl; have hcz108_2 : w107.cell? ⟨gb186, 2, none⟩ = some (.string a0_2) := (bC BK186.out 2).trans rfl; have hcz108_3 : w107.cell? ⟨gb186, 3, none⟩ = some (.int .i64 a0_3) := (bC BK186.out 3).trans rfl; have hcz108_4 : w107.cell? ⟨gb186, 4, none⟩ = some (.slice A0_4 l0_4.length c0_4) := (bC BK186.out 4).trans rfl; have hfz108_0 := bF BK186.out 0; have hfz108_1 := bF BK186.out 1; have hfz108_2 := bF BK186.out 2; have hfz108_3 := bF BK186.out 3; have hfz108_4 := bF BK186.out 4))
          go_ret
          exact ⟨by first | rfl | (simp [errW_none, errW_some] <;> rfl) | (simp [*, errW_none, errW_some] <;> rfl), by repeat (first | (with_reducible first | exact HB.out | apply wA | apply wN | apply w1 | refine wS ?_ GE186.out) | exact HB.out)⟩
        ·rw [if_neg c103] at H
         have c103b0 : (a0_3 == 0) = false := beq_eq_false_iff_ne.mpr c103
         have c103b1 : (a0_3 != 0) = true := bne_iff_ne.mpr c103
         obtain rfl := Option.some.inj H
         go_enter Try.func17, Try.ntmps17
         go_wp2_with (first | ((with_reducible refine gate_dst (N := 1) rfl ?_); (try (refine gate_guard (by rfl) ?_; dsimp only)); refine box_event ?hg (N := 1) ?hd (cs := #[.int .u8 a0_0, .string a0_1, .string a0_2, .int .i64 a0_3, .slice A0_4 l0_4.length c0_4]) (t := 27) ?hr ?_; (case hd => rfl); (case hg => rfl); (case hr => first | (go_simp; done) | (go_simp; rfl)); intro gb186 hg w109 hbox hb; have n0_ := Aside0.mk (wT (by repeat (first | (with_reducible first | exact HB.out | apply wA | apply wN | apply w1) | exact HB.out)) hb); have n1_ := Aside0.mk (hbox); have n2_ := Aside0.mk ((by rw [hg]; exact (wZ (by repeat (first | (with_reducible first | exact HB.out | apply wA | apply wN | apply w1) | exact HB.out))) : w.heap.size ≤ gb186)); have n3_ := Aside0.mk ((by rw [hg]; exact (wZ (by repeat (first | (with_reducible first | exact HB.out | apply wA | apply wN | apply w1) | exact HB.out))) : w.heap.size ≤ gb186)); clear HB; have HB := n0_; have BK186 := n1_; have GW186 := n2_; have GE186 := n3_; clear n0_ n1_ n2_ n3_; clear hb hbox hg; have hcz110_0 : w109.cell? ⟨gb186, 0, none⟩ = some (.int .u8 a0_0) := (bC BK186.out 0).trans rfl; have hcz110_1 : w109.cell? ⟨gb186, 1, none⟩ = some (.string a0_1) := (bC BK186.out 1).trans rfl; have hcz110_2 : w109.cell? ⟨gb186, 2, none⟩ = some (.string a0_2) := (bC BK186.out 2).trans rfl; have hcz110_3 : w109.cell? ⟨gb186, 3, none⟩ = some (.int .i64 a0_3) := (bC BK186.out 3).trans rfl; have hcz110_4 : w109.cell? ⟨gb186, 4, none⟩ = some (.slice A0_4 l0_4.length c0_4) := (bC BK186.out 4).trans rfl; have hfz110_0 := bF BK186.out 0; have hfz110_1 := bF BK186.out 1; have hfz110_2 := bF BK186.out 2; have hfz110_3 := bF BK186.out 3; have hfz110_4 := bF BK186.out 4))
         go_ret
         exact ⟨by first | rfl | (simp [errW_none, errW_some] <;> rfl) | (simp [*, errW_none, errW_some] <;> rfl), by repeat (first | (with_reducible first | exact HB.out | apply wA | apply wN | apply w1 | refine wS ?_ GE186.out) | exact HB.out)⟩
      ·rw [if_neg c96] at H
       have c96b0 : (a0_2.toList == ([] : List UInt8)) = false := beq_eq_false_iff_ne.mpr c96
       have c96b1 : (a0_2.toList != ([] : List UInt8)) = true := bne_iff_ne.mpr c96
       obtain rfl := Option.some.inj H
       go_enter Try.func17, Try.ntmps17
       go_wp2_with (first | ((with_reducible refine gate_dst (N := 1) rfl ?_); (try (refine gate_guard (by rfl) ?_; dsimp only)); refine box_event ?hg (N := 1) ?hd (cs := #[.int .u8 a0_0, .string a0_1, .string a0_2, .int .i64 a0_3, .slice A0_4 l0_4.length c0_4]) (t := 27) ?hr ?_; (case hd => rfl); (case hg => rfl); (case hr => first | (go_simp; done) | (go_simp; rfl)); intro gb186 hg w111 hbox hb; have n0_ := Aside0.mk (wT (by repeat (first | (with_reducible first | exact HB.out | apply wA | apply wN | apply w1) | exact HB.out)) hb); have n1_ := Aside0.mk (hbox); have n2_ := Aside0.mk ((by rw [hg]; exact (wZ (by repeat (first | (with_reducible first | exact HB.out | apply wA | apply wN | apply w1) | exact HB.out))) : w.heap.size ≤ gb186)); have n3_ := Aside0.mk ((by rw [hg]; exact (wZ (by repeat (first | (with_reducible first | exact HB.out | apply wA | apply wN | apply w1) | exact HB.out))) : w.heap.size ≤ gb186)); clear HB; have HB := n0_; have BK186 := n1_; have GW186 := n2_; have GE186 := n3_; clear n0_ n1_ n2_ n3_; clear hb hbox hg; have hcz112_0 : w111.cell? ⟨gb186, 0, none⟩ = some (.int .u8 a0_0) := (bC BK186.out 0).trans rfl; have hcz112_1 : w111.cell? ⟨gb186, 1, none⟩ = some (.string a0_1) := (bC BK186.out 1).trans rfl; have hcz112_2 : w111.cell? ⟨gb186, 2, none⟩ = some (.string a0_2) := (bC BK186.out 2).trans rfl; have hcz112_3 : w111.cell? ⟨gb186, 3, none⟩ = some (.int .i64 a0_3) := (bC BK186.out 3).trans rfl; have hcz112_4 : w111.cell? ⟨gb186, 4, none⟩ = some (.slice A0_4 l0_4.length c0_4) := (bC BK186.out 4).trans rfl; have hfz112_0 := bF BK186.out 0; have hfz112_1 := bF BK186.out 1; have hfz112_2 := bF BK186.out 2; have hfz112_3 := bF BK186.out 3; have hfz112_4 := bF BK186.out 4))
       go_ret
       exact ⟨by first | rfl | (simp [errW_none, errW_some] <;> rfl) | (simp [*, errW_none, errW_some] <;> rfl), by repeat (first | (with_reducible first | exact HB.out | apply wA | apply wN | apply w1 | refine wS ?_ GE186.out) | exact HB.out)⟩
     ·rw [if_neg c95] at H
      have c95b0 : (a0_1.toList == ([] : List UInt8)) = false := beq_eq_false_iff_ne.mpr c95
      have c95b1 : (a0_1.toList != ([] : List UInt8)) = true := bne_iff_ne.mpr c95
      obtain rfl := Option.some.inj H
      go_enter Try.func17, Try.ntmps17
      go_wp2_with (first | ((with_reducible refine gate_dst (N := 1) rfl ?_); (try (refine gate_guard (by rfl) ?_; dsimp only)); refine box_event ?hg (N := 1) ?hd (cs := #[.int .u8 a0_0, .string a0_1, .string a0_2, .int .i64 a0_3, .slice A0_4 l0_4.length c0_4]) (t := 27) ?hr ?_; (case hd => rfl); (case hg => rfl); (case hr => first | (go_simp; done) | (go_simp; rfl)); intro gb186 hg w113 hbox hb; have n0_ := Aside0.mk (wT (by repeat (first | (with_reducible first | exact HB.out | apply wA | apply wN | apply w1) | exact HB.out)) hb); have n1_ := Aside0.mk (hbox); have n2_ := Aside0.mk ((by rw [hg]; exact (wZ (by repeat (first | (with_reducible first | exact HB.out | apply wA | apply wN | apply w1) | exact HB.out))) : w.heap.size ≤ gb186)); have n3_ := Aside0.mk ((by rw [hg]; exact (wZ (by repeat (first | (with_reducible first | exact HB.out | apply wA | apply wN | apply w1) | exact HB.out))) : w.heap.size ≤ gb186)); clear HB; have HB := n0_; have BK186 := n1_; have GW186 := n2_; have GE186 := n3_; clear n0_ n1_ n2_ n3_; clear hb hbox hg; have hcz114_0 : w113.cell? ⟨gb186, 0, none⟩ = some (.int .u8 a0_0) := (bC BK186.out 0).trans rfl; have hcz114_1 : w113.cell? ⟨gb186, 1, none⟩ = some (.string a0_1) := (bC BK186.out 1).trans rfl; have hcz114_2 : w113.cell? ⟨gb186, 2, none⟩ = some (.string a0_2) := (bC BK186.out 2).trans rfl; have hcz114_3 : w113.cell? ⟨gb186, 3, none⟩ = some (.int .i64 a0_3) := (bC BK186.out 3).trans rfl; have hcz114_4 : w113.cell? ⟨gb186, 4, none⟩ = some (.slice A0_4 l0_4.length c0_4) := (bC BK186.out 4).trans rfl; have hfz114_0 := bF BK186.out 0; have hfz114_1 := bF BK186.out 1; have hfz114_2 := bF BK186.out 2; have hfz114_3 := bF BK186.out 3; have hfz114_4 := bF BK186.out 4))
      go_ret
      exact ⟨by first | rfl | (simp [errW_none, errW_some] <;> rfl) | (simp [*, errW_none, errW_some] <;> rfl), by repeat (first | (with_reducible first | exact HB.out | apply wA | apply wN | apply w1 | refine wS ?_ GE186.out) | exact HB.out)⟩

/-! ### catchmentref04_Point: function 23 -/
def catchmentref04_Point.f (a0_0 : Int) (a0_1 : Int) (a0_2 : BA) (a0_3 : BA) (a0_4 : BA) (a0_5 : Int) : Option (Bool) := if a0_0 ≥ 1 then (some (decide (a0_0 ≤ 3))) else (some false)
set_option maxHeartbeats 8000000 in
set_option maxRecDepth 100000 in
theorem catchmentref04_Point.calls (a0_0 : Int) (a0_1 : Int) (a0_2 : BA) (a0_3 : BA) (a0_4 : BA) (a0_5 : Int) (r : Bool) (w : World) (h : catchmentref04_Point.f a0_0 a0_1 a0_2 a0_3 a0_4 a0_5 = some r) :
  Calls Try.prog 23 #[.agg #[.int .u8 a0_0, .int .i64 a0_1, .string a0_2, .string a0_3, .string a0_4, .int .u64 a0_5]] w fun e w' => e = .returned (.bool r) ∧ Below w.heap.size w w' := by
 have hu47 := Try.underlying47
 have HB := Aside0.mk (Below.refl w.heap.size w)
 have H : (if a0_0 ≥ 1 then (some (decide (a0_0 ≤ 3))) else (some false)) = some r := h
 clear h
 by_cases c2 : a0_0 ≥ 1
 ·rw [if_pos c2] at H
  have c2b0 : decide (1 ≤ a0_0) = true := decide_eq_true c2
  clear c2
  obtain rfl := Option.some.inj H
  go_enter Try.func23, Try.ntmps23
  go_wp2_with (first | ((with_reducible refine gate_dst (N := 1) rfl ?_); refine box_event ?hg (N := 1) ?hd (cs := #[.int .u8 a0_0, .int .i64 a0_1, .string a0_2, .string a0_3, .string a0_4, .int .u64 a0_5]) (t := 47) ?hr ?_; (case hd => rfl); (case hg => rfl); (case hr => first | (go_simp; done) | (go_simp; rfl)); intro gb187 hg w3 hbox hb; have n0_ := Aside0.mk (wT (by repeat (first | (with_reducible first | exact HB.out | apply wA | apply wN | apply w1) | exact HB.out)) hb); have n1_ := Aside0.mk (hbox); have n2_ := Aside0.mk ((by rw [hg]; exact (wZ (by repeat (first | (with_reducible first | exact HB.out | apply wA | apply wN | apply w1) | exact HB.out))) : w.heap.size ≤ gb187)); have n3_ := Aside0.mk ((by rw [hg]; exact (wZ (by repeat (first | (with_reducible first | exact HB.out | apply wA | apply wN | apply w1) | exact HB.out))) : w.heap.size ≤ gb187)); clear HB; have HB := n0_; have BK187 := n1_; have GW187 := n2_; have GE187 := n3_; clear n0_ n1_ n2_ n3_; clear hb hbox hg; have hcz4_0 : w3.cell? ⟨gb187, 0, none⟩ = some (.int .u8 a0_0) := (bC BK187.out 0).trans rfl; have hcz4_1 : w3.cell? ⟨gb187, 1, none⟩ = some (.int .i64 a0_1) := (bC BK187.out 1).trans rfl; have hcz4_2 : w3.cell? ⟨gb187, 2, none⟩ = some (.string a0_2) := (bC BK187.out 2).trans rfl; have hcz4_3 : w3.cell? ⟨gb187, 3, none⟩ = some (.string a0_3) := (bC BK187.out 3).trans rfl; have hcz4_4 : w3.cell? ⟨gb187, 4, none⟩ = some (.string a0_4) := (bC BK187.out 4).trans rfl; have hcz4_5 : w3.cell? ⟨gb187, 5, none⟩ = some (.int .u64 a0_5) := (bC BK187.out 5).trans rfl; have hfz4_0 := bF BK187.out 0; have hfz4_1 := bF BK187.out 1; have hfz4_2 := bF BK187.out 2; have hfz4_3 := bF BK187.out 3; have hfz4_4 := bF BK187.out 4; have hfz4_5 := bF BK187.out 5))
  go_ret
  exact ⟨by first | rfl | (simp [errW_none, errW_some] <;> rfl) | (simp [*, errW_none, errW_some] <;> rfl), by repeat (first | (with_reducible first | exact HB.out | apply wA | apply wN | apply w1 | refine wS ?_ GE187.out) | exact HB.out)⟩
 ·rw [if_neg c2] at H
  have c2b0 : decide (1 ≤ a0_0) = false := decide_eq_false c2
  clear c2
  obtain rfl := Option.some.inj H
  go_enter Try.func23, Try.ntmps23
  go_wp2_with (first | ((with_reducible refine gate_dst (N := 1) rfl ?_); refine box_event ?hg (N := 1) ?hd (cs := #[.int .u8 a0_0, .int .i64 a0_1, .string a0_2, .string a0_3, .string a0_4, .int .u64 a0_5]) (t := 47) ?hr ?_; (case hd => rfl); (case hg => rfl); (case hr => first | (go_simp; done) | (go_simp; rfl)); intro gb187 hg w5 hbox hb; have n0_ := Aside0.mk (wT (by repeat (first | (with_reducible first | exact HB.out | apply wA | apply wN | apply w1) | exact HB.out)) hb); have n1_ := Aside0.mk (hbox); have n2_ := Aside0.mk ((by rw [hg]; exact (wZ (by repeat (first | (with_reducible first | exact HB.out | apply wA | apply wN | apply w1) | exact HB.out))) : w.heap.size ≤ gb187)); have n3_ := Aside0.mk ((by rw [hg]; exact (wZ (by repeat (first | (with_reducible first | exact HB.out | apply wA | apply wN | apply w1) | exact HB.out))) : w.heap.size ≤ gb187)); clear HB; have HB := n0_; have BK187 := n1_; have GW187 := n2_; have GE187 := n3_; clear n0_ n1_ n2_ n3_; clear hb hbox hg; have hcz6_0 : w5.cell? ⟨gb187, 0, none⟩ = some (.int .u8 a0_0) := (bC BK187.out 0).trans rfl; have hcz6_1 : w5.cell? ⟨gb187, 1, none⟩ = some (.int .i64 a0_1) := (bC BK187.out 1).trans rfl; have hcz6_2 : w5.cell? ⟨gb187, 2, none⟩ = some (.string a0_2) := (bC BK187.out 2).trans rfl; have hcz6_3 : w5.cell? ⟨gb187, 3, none⟩ = some (.string a0_3) := (bC BK187.out 3).trans rfl; have hcz6_4 : w5.cell? ⟨gb187, 4, none⟩ = some (.string a0_4) := (bC BK187.out 4).trans rfl; have hcz6_5 : w5.cell? ⟨gb187, 5, none⟩ = some (.int .u64 a0_5) := (bC BK187.out 5).trans rfl; have hfz6_0 := bF BK187.out 0; have hfz6_1 := bF BK187.out 1; have hfz6_2 := bF BK187.out 2; have hfz6_3 := bF BK187.out 3; have hfz6_4 := bF BK187.out 4; have hfz6_5 := bF BK187.out 5))
  go_ret
  exact ⟨by first | rfl | (simp [errW_none, errW_some] <;> rfl) | (simp [*, errW_none, errW_some] <;> rfl), by repeat (first | (with_reducible first | exact HB.out | apply wA | apply wN | apply w1 | refine wS ?_ GE187.out) | exact HB.out)⟩

end Go.Proofs.Ythofdhodgipifaa.P
