/- Texts of one claim (laid by shake.py). -/
import Derived.Test.YtebejadiaooooaaZs4
set_option linter.unusedVariables false
set_option linter.unusedSimpArgs false
section
namespace Go.Proofs.Ytebejadiaooooaa.P
open Go.RowKit Go.Proofs.YtebejadiaooooaaW.PrintWords Go.Proofs.YtebejadiaooooaaW.PrintLast Go.Proofs.YtebejadiaooooaaW.PrintMore Go.Proofs.Ytebejadiaooooaa.Own
attribute [local go_sem] max2_str max2_int min2_int max_two min_two max_three min_three max_four min_four   -- for this text's walks alone
theorem eqA39 (d : Nat) (w : World) (x0 y0 : BA) (x1 y1 : BA) :
  (Op.equalIn (d + 2) 39 (.agg #[.string x0, .string x1]) (.agg #[.string y0, .string y1])).run Try.prog w = .ok (x0.toList == y0.toList && (x1.toList == y1.toList)) w := by
 refine eqA_of Try.underlying39 (by kernel_rfl) ?_
 refine eqf_cons (by rfl) (by go_simp; rfl) (by go_simp; rfl) (by go_simp) ?_
 exact eqf_last (by rfl) (by go_simp; rfl) (by go_simp; rfl) (by go_simp)
end Go.Proofs.Ytebejadiaooooaa.P
end
section
namespace Go.Proofs.Ytebejadiaooooaa.P
open Go.RowKit Go.Proofs.YtebejadiaooooaaW.PrintWords Go.Proofs.YtebejadiaooooaaW.PrintLast Go.Proofs.YtebejadiaooooaaW.PrintMore Go.Proofs.Ytebejadiaooooaa.Own
open Go.Proofs.YtebejadiaooooaaW.PrintWords renaming blk_cell → bC, blk_frozen → bF, blk_drewN → bN, blk_alloc → bA, pw_below_drewN → wN, blk_drew → bD, below_drew1 → w1, below_set → wS, below_alloc → wA, blk_below → bB, below_step → wT, below_size → wZ
open List renaming setIfInBounds_toArray → sA1, set_cons_zero → sA2, set_cons_succ → sA3, map_toArray → mA1, map_cons → mA2, map_nil → mA3, length_take → mA4, length_drop → mA5
attribute [local go_sem] max2_str max2_int min2_int max_two min_two max_three min_three max_four min_four   -- for this text's walks alone
attribute [local go_sem high] eqA39
def catchmentref05_Same.l0 : Nat → List (S39) → List (S39) → Int → Option (Bool)
 | 0, _, _, _ => none
 | k + 1, x0, x1, x5 => if x5 < (x0.length : Int) then (if 0 ≤ x5 then (if x5 < (x1.length : Int) then (if (!((((rd_T39 x0 x5).f0).toList) == (((rd_T39 x1 x5).f0).toList)) || (!((((rd_T39 x0 x5).f1).toList) == (((rd_T39 x1 x5).f1).toList)))) = true then (some false) else (catchmentref05_Same.l0 k x0 x1 (wrap64 (x5 + 1)))) else (none)) else (none)) else (some true)
def catchmentref05_Same.f (k : Nat) (l0 : List (S39)) (l1 : List (S39)) : Option (Bool) := if (l0.length : Int) = (l1.length : Int) then (catchmentref05_Same.l0 k l0 l1 0) else (some false)
set_option maxHeartbeats 8000000 in
set_option maxRecDepth 100000 in
theorem catchmentref05_Same.calls (k : Nat) (A0 : Option Addr) (c0 : Nat) (l0 : List (S39)) (A1 : Option Addr) (c1 : Nat) (l1 : List (S39)) (r : Bool) (w : World) (hr0 : Kd.C k39 w A0 l0.length l0) (hc0 : l0.length ≤ c0) (hr1 : Kd.C k39 w A1 l1.length l1) (hc1 : l1.length ≤ c1) (h : catchmentref05_Same.f k l0 l1 = some r) :
  Calls Try.prog 18 #[.slice A0 l0.length c0, .slice A1 l1.length c1] w fun e w' => e = .returned (.bool r) ∧ Drawn0 w w' := by
 have hu39 := Try.underlying39
 have HR0 := Aside0.mk hr0
 have HC0 := Aside0.mk hc0
 clear hr0 hc0
 have HR1 := Aside0.mk hr1
 have HC1 := Aside0.mk hc1
 clear hr1 hc1
 have H : (if (l0.length : Int) = (l1.length : Int) then (catchmentref05_Same.l0 k l0 l1 0) else (some false)) = some r := h
 clear h
 by_cases c3 : (l0.length : Int) = (l1.length : Int)
 ·rw [if_pos c3] at H
  have c3b0 : ((l0.length : Int) == (l1.length : Int)) = true := beq_iff_eq.mpr c3
  have c3b1 : ((l0.length : Int) != (l1.length : Int)) = false := bne_eq_false_iff_eq.mpr c3
  have c3b2 : (l0.length == l1.length) = true := by first | simpa using c3 | (simp at c3 ⊢; omega)
  clear c3
  have H' := Aside0.mk H
  clear H
  go_enter Try.func18, Try.ntmps18
  go_wp2
  repeat (go_quiet (fail); try go_wp2)
  go_loopg [5] k (fun kq v5 w' => ∃ (x5_1 : Int), v5 = .int .i64 x5_1 ∧ Aside0 (catchmentref05_Same.l0 kq l0 l1 x5_1 = some r) ∧ Aside0 (kq ≤ k) ∧ Drawn0 w w')
  case atStart => exact ⟨(0), (by first | rfl | (simp; done) | (simp [*]; done)), H', ⟨Nat.le_refl _⟩, by repeat (first | exact Drawn0.refl _ | apply Drawn0.step)⟩
  case round =>
   clear H'
   try clear c1
   try clear p2
   try clear c3
   try clear c3b0
   try clear c3b1
   try clear c3b2
   obtain ⟨x5_1, rfl, HA, HK1, ⟨m1, rfl⟩⟩ := hrel
   cases gk with
   | zero => exact absurd HA.out (by simp [catchmentref05_Same.l0])
   | succ k1 =>
    have H := HA.out
    clear HA
    simp only [catchmentref05_Same.l0] at H
    by_cases c4 : x5_1 < (l0.length : Int)
    ·rw [if_pos c4] at H
     have c4b0 : decide (x5_1 < (l0.length : Int)) = true := decide_eq_true c4
     clear c4
     by_cases c5 : 0 ≤ x5_1
     ·rw [if_pos c5] at H
      have c5b0 : decide (0 ≤ x5_1) = true := decide_eq_true c5
      clear c5
      by_cases c6 : x5_1 < (l1.length : Int)
      ·rw [if_pos c6] at H
       have c6b0 : decide (x5_1 < (l1.length : Int)) = true := decide_eq_true c6
       clear c6
       by_cases c7 : (!((((rd_T39 l0 x5_1).f0).toList) == (((rd_T39 l1 x5_1).f0).toList)) || (!((((rd_T39 l0 x5_1).f1).toList) == (((rd_T39 l1 x5_1).f1).toList)))) = true
       ·rw [if_pos c7] at H
        have c7b0 : (!((((rd_T39 l0 x5_1).f0).toList) == (((rd_T39 l1 x5_1).f0).toList)) || (!((((rd_T39 l0 x5_1).f1).toList) == (((rd_T39 l1 x5_1).f1).toList)))) = true := c7
        clear c7
        obtain rfl := Option.some.inj H
        have p101 : 0 ≤ (x5_1 : Int) := of_decide_eq_true (by first | (with_reducible assumption) | assumption)
        have q101 : x5_1 < (l0.length : Int) := of_decide_eq_true (by first | (with_reducible assumption) | assumption)
        obtain ⟨ad101, e101, hx101_0, hx101_1⟩ := at_T39 HR0.out x5_1 p101 q101
        cases e101
        replace p101 := eq_true p101
        replace q101 := eq_true q101
        have p102 : 0 ≤ (x5_1 : Int) := of_decide_eq_true (by first | (with_reducible assumption) | assumption)
        have q102 : x5_1 < (l1.length : Int) := of_decide_eq_true (by first | (with_reducible assumption) | assumption)
        obtain ⟨ad102, e102, hx102_0, hx102_1⟩ := at_T39 HR1.out x5_1 p102 q102
        cases e102
        replace p102 := eq_true p102
        replace q102 := eq_true q102
        go_wp2
        repeat (go_quiet (fail); try go_wp2)
        go_ret
        exact ⟨by first | rfl | (simp; done) | (simp [*]; done), by repeat (first | exact Drawn0.refl _ | apply Drawn0.step)⟩
       ·rw [if_neg c7] at H
        have c7b0 : (!((((rd_T39 l0 x5_1).f0).toList) == (((rd_T39 l1 x5_1).f0).toList)) || (!((((rd_T39 l0 x5_1).f1).toList) == (((rd_T39 l1 x5_1).f1).toList)))) = false := by simpa using c7
        clear c7
        have H' := Aside0.mk H
        clear H
        have p101 : 0 ≤ (x5_1 : Int) := of_decide_eq_true (by first | (with_reducible assumption) | assumption)
        have q101 : x5_1 < (l0.length : Int) := of_decide_eq_true (by first | (with_reducible assumption) | assumption)
        obtain ⟨ad101, e101, hx101_0, hx101_1⟩ := at_T39 HR0.out x5_1 p101 q101
        cases e101
        replace p101 := eq_true p101
        replace q101 := eq_true q101
        have p102 : 0 ≤ (x5_1 : Int) := of_decide_eq_true (by first | (with_reducible assumption) | assumption)
        have q102 : x5_1 < (l1.length : Int) := of_decide_eq_true (by first | (with_reducible assumption) | assumption)
        obtain ⟨ad102, e102, hx102_0, hx102_1⟩ := at_T39 HR1.out x5_1 p102 q102
        cases e102
        replace p102 := eq_true p102
        replace q102 := eq_true q102
        go_wp2
        repeat (go_quiet (fail); try go_wp2)
        go_roundg k1
        case measure => have := HK1.out; omega
        case rel => exact ⟨(wrap64 (x5_1 + 1)), (by first | rfl | (simp; done) | (simp [*]; done)), H', ⟨by have := HK1.out; omega⟩, by repeat (first | exact Drawn0.refl _ | apply Drawn0.step)⟩
      ·rw [if_neg c6] at H
       exact absurd H (by simp)
     ·rw [if_neg c5] at H
      exact absurd H (by simp)
    ·rw [if_neg c4] at H
     have c4b0 : decide (x5_1 < (l0.length : Int)) = false := decide_eq_false c4
     clear c4
     obtain rfl := Option.some.inj H
     go_wp2
     repeat (go_quiet (fail); try go_wp2)
     go_ret
     exact ⟨by first | rfl | (simp; done) | (simp [*]; done), by repeat (first | exact Drawn0.refl _ | apply Drawn0.step)⟩
 ·rw [if_neg c3] at H
  have c3b0 : ((l0.length : Int) == (l1.length : Int)) = false := beq_eq_false_iff_ne.mpr c3
  have c3b1 : ((l0.length : Int) != (l1.length : Int)) = true := bne_iff_ne.mpr c3
  have c3b2 : (l0.length == l1.length) = false := by first | simpa using c3 | (simp at c3 ⊢; omega)
  obtain rfl := Option.some.inj H
  go_enter Try.func18, Try.ntmps18
  go_wp2
  repeat (go_quiet (fail); try go_wp2)
  go_ret
  exact ⟨by first | rfl | (simp; done) | (simp [*]; done), by repeat (first | exact Drawn0.refl _ | apply Drawn0.step)⟩
def catchmentref04_Point.f (a0_0 : Int) (a0_1 : Int) (a0_2 : BA) (a0_3 : BA) (a0_4 : BA) (a0_5 : Int) : Option (Bool) := if a0_0 ≥ 1 then (some (decide (a0_0 ≤ 3))) else (some false)
set_option maxHeartbeats 8000000 in
set_option maxRecDepth 100000 in
theorem catchmentref04_Point.calls (a0_0 : Int) (a0_1 : Int) (a0_2 : BA) (a0_3 : BA) (a0_4 : BA) (a0_5 : Int) (r : Bool) (w : World) (h : catchmentref04_Point.f a0_0 a0_1 a0_2 a0_3 a0_4 a0_5 = some r) :
  Calls Try.prog 76 #[.agg #[.int .u8 a0_0, .int .i64 a0_1, .string a0_2, .string a0_3, .string a0_4, .int .u64 a0_5]] w fun e w' => e = .returned (.bool r) ∧ Below w.heap.size w w' := by
 have hu32 := Try.underlying32
 have HB := Aside0.mk (Below.refl w.heap.size w)
 have H : (if a0_0 ≥ 1 then (some (decide (a0_0 ≤ 3))) else (some false)) = some r := h
 clear h
 by_cases c2 : a0_0 ≥ 1
 ·rw [if_pos c2] at H
  have c2b0 : decide (1 ≤ a0_0) = true := decide_eq_true c2
  clear c2
  obtain rfl := Option.some.inj H
  go_enter Try.func76, Try.ntmps76
  go_wp2_with (first | ((with_reducible refine gate_dst (N := 1) rfl ?_); refine box_event ?hg (N := 1) ?hd (cs := #[.int .u8 a0_0, .int .i64 a0_1, .string a0_2, .string a0_3, .string a0_4, .int .u64 a0_5]) (t := 32) ?hr ?_; (case hd => rfl); (case hg => rfl); (case hr => first | (go_simp; done) | (go_simp; rfl)); intro gb106 hg w3 hbox hb; have n0_ := Aside0.mk (wT bW_ hb); have n1_ := Aside0.mk (hbox); have n2_ := Aside0.mk ((by rw [hg]; exact (wZ bW_) : w.heap.size ≤ gb106)); have n3_ := n2_; clear HB; have HB := n0_; have BK106 := n1_; have GW106 := n2_; have GE106 := n3_; clear n0_ n1_ n2_ n3_; clear hb hbox hg; have hcz4_0 := cz_ BK106.out 0; have hcz4_1 := cz_ BK106.out 1; have hcz4_2 := cz_ BK106.out 2; have hcz4_3 := cz_ BK106.out 3; have hcz4_4 := cz_ BK106.out 4; have hcz4_5 := cz_ BK106.out 5; have hfz4_0 := bF BK106.out 0; have hfz4_1 := bF BK106.out 1; have hfz4_2 := bF BK106.out 2; have hfz4_3 := bF BK106.out 3; have hfz4_4 := bF BK106.out 4; have hfz4_5 := bF BK106.out 5))
  go_ret
  exact ⟨by first | rfl | (simp [errW_none, errW_some] <;> rfl) | (simp [*, errW_none, errW_some] <;> rfl), by repeat (first | (with_reducible first | exact HB.out | apply wA | apply wN | apply w1 | refine wS ?_ GE106.out) | exact HB.out)⟩
 ·rw [if_neg c2] at H
  have c2b0 : decide (1 ≤ a0_0) = false := decide_eq_false c2
  clear c2
  obtain rfl := Option.some.inj H
  go_enter Try.func76, Try.ntmps76
  go_wp2_with (first | ((with_reducible refine gate_dst (N := 1) rfl ?_); refine box_event ?hg (N := 1) ?hd (cs := #[.int .u8 a0_0, .int .i64 a0_1, .string a0_2, .string a0_3, .string a0_4, .int .u64 a0_5]) (t := 32) ?hr ?_; (case hd => rfl); (case hg => rfl); (case hr => first | (go_simp; done) | (go_simp; rfl)); intro gb106 hg w5 hbox hb; have n0_ := Aside0.mk (wT bW_ hb); have n1_ := Aside0.mk (hbox); have n2_ := Aside0.mk ((by rw [hg]; exact (wZ bW_) : w.heap.size ≤ gb106)); have n3_ := n2_; clear HB; have HB := n0_; have BK106 := n1_; have GW106 := n2_; have GE106 := n3_; clear n0_ n1_ n2_ n3_; clear hb hbox hg; have hcz6_0 := cz_ BK106.out 0; have hcz6_1 := cz_ BK106.out 1; have hcz6_2 := cz_ BK106.out 2; have hcz6_3 := cz_ BK106.out 3; have hcz6_4 := cz_ BK106.out 4; have hcz6_5 := cz_ BK106.out 5; have hfz6_0 := bF BK106.out 0; have hfz6_1 := bF BK106.out 1; have hfz6_2 := bF BK106.out 2; have hfz6_3 := bF BK106.out 3; have hfz6_4 := bF BK106.out 4; have hfz6_5 := bF BK106.out 5))
  go_ret
  exact ⟨by first | rfl | (simp [errW_none, errW_some] <;> rfl) | (simp [*, errW_none, errW_some] <;> rfl), by repeat (first | (with_reducible first | exact HB.out | apply wA | apply wN | apply w1 | refine wS ?_ GE106.out) | exact HB.out)⟩
def catchmentref04_Touches.f (a0_0 : Int) (a0_1 : Int) (a0_2 : BA) (a0_3 : BA) (a0_4 : BA) (a0_5 : Int) (a1 : BA) : Option (Bool) := (catchmentref04_Point.f a0_0 a0_1 a0_2 a0_3 a0_4 a0_5).bind fun t108 => (if t108 = true then (some (a0_2.toList == a1.toList)) else (if a0_0 = 4 then (if ((Op.bytesLess a1.toList a0_2.toList) = true) then (some false) else (if a0_3.toList = ([] : List UInt8) then (some true) else (some (Op.bytesLess a1.toList a0_3.toList)))) else (some false)))
set_option maxHeartbeats 8000000 in
set_option maxRecDepth 100000 in
theorem catchmentref04_Touches.calls (a0_0 : Int) (a0_1 : Int) (a0_2 : BA) (a0_3 : BA) (a0_4 : BA) (a0_5 : Int) (a1 : BA) (r : Bool) (w : World) (h : catchmentref04_Touches.f a0_0 a0_1 a0_2 a0_3 a0_4 a0_5 a1 = some r) :
  Calls Try.prog 110 #[.agg #[.int .u8 a0_0, .int .i64 a0_1, .string a0_2, .string a0_3, .string a0_4, .int .u64 a0_5], .string a1] w fun e w' => e = .returned (.bool r) ∧ Below w.heap.size w w' := by
 have hu32 := Try.underlying32
 have HB := Aside0.mk (Below.refl w.heap.size w)
 have H : ((catchmentref04_Point.f a0_0 a0_1 a0_2 a0_3 a0_4 a0_5).bind fun t108 => (if t108 = true then (some (a0_2.toList == a1.toList)) else (if a0_0 = 4 then (if ((Op.bytesLess a1.toList a0_2.toList) = true) then (some false) else (if a0_3.toList = ([] : List UInt8) then (some true) else (some (Op.bytesLess a1.toList a0_3.toList)))) else (some false)))) = some r := h
 clear h
 replace H := Option.bind_eq_some_iff.mp H
 obtain ⟨t108, A30, H⟩ := H
 replace H : (if t108 = true then (some (a0_2.toList == a1.toList)) else (if a0_0 = 4 then (if ((Op.bytesLess a1.toList a0_2.toList) = true) then (some false) else (if a0_3.toList = ([] : List UInt8) then (some true) else (some (Op.bytesLess a1.toList a0_3.toList)))) else (some false))) = some r := H
 have A3 := Aside0.mk A30
 clear A30
 by_cases c4 : t108 = true
 ·subst c4
  have H1 : (some (a0_2.toList == a1.toList)) = some r := by rw [if_pos rfl] at H; exact H
  clear H
  have H := H1
  clear H1
  obtain rfl := Option.some.inj H
  go_enter Try.func110, Try.ntmps110
  go_wp2_with (first | ((with_reducible refine gate_dst (N := 2) rfl ?_); refine box_event ?hg (N := 2) ?hd (cs := #[.int .u8 a0_0, .int .i64 a0_1, .string a0_2, .string a0_3, .string a0_4, .int .u64 a0_5]) (t := 32) ?hr ?_; (case hd => rfl); (case hg => rfl); (case hr => first | (go_simp; done) | (go_simp; rfl)); intro gb107 hg w5 hbox hb; have n0_ := Aside0.mk (wT bW_ hb); have n1_ := Aside0.mk (hbox); have n2_ := Aside0.mk ((by rw [hg]; exact (wZ bW_) : w.heap.size ≤ gb107)); have n3_ := n2_; clear HB; have HB := n0_; have BK107 := n1_; have GW107 := n2_; have GE107 := n3_; clear n0_ n1_ n2_ n3_; clear hb hbox hg; have hcz6_0 := cz_ BK107.out 0; have hcz6_1 := cz_ BK107.out 1; have hcz6_2 := cz_ BK107.out 2; have hcz6_3 := cz_ BK107.out 3; have hcz6_4 := cz_ BK107.out 4; have hcz6_5 := cz_ BK107.out 5; have hfz6_0 := bF BK107.out 0; have hfz6_1 := bF BK107.out 1; have hfz6_2 := bF BK107.out 2; have hfz6_3 := bF BK107.out 3; have hfz6_4 := bF BK107.out 4; have hfz6_5 := bF BK107.out 5) | ((with_reducible refine gate_callee (f := 76) rfl ?_); refine goesL_ (some 6) rfl rfl Try.func76 (by kernel_rfl) rfl #[.agg #[.int .u8 a0_0, .int .i64 a0_1, .string a0_2, .string a0_3, .string a0_4, .int .u64 a0_5]] rfl mS_ ?_; (with_reducible refine (catchmentref04_Point.calls a0_0 a0_1 a0_2 a0_3 a0_4 a0_5 true _ A3.out).mono ?_); rintro e w7 ⟨rfl, hb⟩; refine ⟨_, rfl, ?_⟩; have n0_ := Aside0.mk (bB (bX_ BK107.out) hb); have n1_ := Aside0.mk (wT (bS1_ GE107.out) hb); clear BK107; clear HB; have BK107 := n0_; have HB := n1_; clear n0_ n1_; (try clear hb); (try clear hb2); (try clear hk); (try clear hi); have hcz8_0 := cz_ BK107.out 0; have hcz8_1 := cz_ BK107.out 1; have hcz8_2 := cz_ BK107.out 2; have hcz8_3 := cz_ BK107.out 3; have hcz8_4 := cz_ BK107.out 4; have hcz8_5 := cz_ BK107.out 5; have hfz8_0 := bF BK107.out 0; have hfz8_1 := bF BK107.out 1; have hfz8_2 := bF BK107.out 2; have hfz8_3 := bF BK107.out 3; have hfz8_4 := bF BK107.out 4; have hfz8_5 := bF BK107.out 5))
  go_ret
  exact ⟨by first | rfl | (simp [errW_none, errW_some] <;> rfl) | (simp [*, errW_none, errW_some] <;> rfl), by repeat (first | (with_reducible first | exact HB.out | apply wA | apply wN | apply w1 | refine wS ?_ GE107.out) | exact HB.out)⟩
 ·replace c4 := Bool.eq_false_iff.mpr c4
  subst c4
  have H1 : (if a0_0 = 4 then (if ((Op.bytesLess a1.toList a0_2.toList) = true) then (some false) else (if a0_3.toList = ([] : List UInt8) then (some true) else (some (Op.bytesLess a1.toList a0_3.toList)))) else (some false)) = some r := by rw [if_neg (show ¬ (false = true) by decide)] at H; exact H
  clear H
  have H := H1
  clear H1
  by_cases c9 : a0_0 = 4
  ·rw [if_pos c9] at H
   have c9b0 : (a0_0 == 4) = true := beq_iff_eq.mpr c9
   have c9b1 : (a0_0 != 4) = false := bne_eq_false_iff_eq.mpr c9
   clear c9
   by_cases c10 : ((Op.bytesLess a1.toList a0_2.toList) = true)
   ·rw [if_pos c10] at H
    have c10b0 : (Op.bytesLess a1.toList a0_2.toList) = true := c10
    clear c10
    obtain rfl := Option.some.inj H
    go_enter Try.func110, Try.ntmps110
    go_wp2_with (first | ((with_reducible refine gate_dst (N := 2) rfl ?_); refine box_event ?hg (N := 2) ?hd (cs := #[.int .u8 a0_0, .int .i64 a0_1, .string a0_2, .string a0_3, .string a0_4, .int .u64 a0_5]) (t := 32) ?hr ?_; (case hd => rfl); (case hg => rfl); (case hr => first | (go_simp; done) | (go_simp; rfl)); intro gb107 hg w11 hbox hb; have n0_ := Aside0.mk (wT bW_ hb); have n1_ := Aside0.mk (hbox); have n2_ := Aside0.mk ((by rw [hg]; exact (wZ bW_) : w.heap.size ≤ gb107)); have n3_ := n2_; clear HB; have HB := n0_; have BK107 := n1_; have GW107 := n2_; have GE107 := n3_; clear n0_ n1_ n2_ n3_; clear hb hbox hg; have hcz12_0 := cz_ BK107.out 0; have hcz12_1 := cz_ BK107.out 1; have hcz12_2 := cz_ BK107.out 2; have hcz12_3 := cz_ BK107.out 3; have hcz12_4 := cz_ BK107.out 4; have hcz12_5 := cz_ BK107.out 5; have hfz12_0 := bF BK107.out 0; have hfz12_1 := bF BK107.out 1; have hfz12_2 := bF BK107.out 2; have hfz12_3 := bF BK107.out 3; have hfz12_4 := bF BK107.out 4; have hfz12_5 := bF BK107.out 5) | ((with_reducible refine gate_callee (f := 76) rfl ?_); refine goesL_ (some 6) rfl rfl Try.func76 (by kernel_rfl) rfl #[.agg #[.int .u8 a0_0, .int .i64 a0_1, .string a0_2, .string a0_3, .string a0_4, .int .u64 a0_5]] rfl mS_ ?_; (with_reducible refine (catchmentref04_Point.calls a0_0 a0_1 a0_2 a0_3 a0_4 a0_5 false _ A3.out).mono ?_); rintro e w13 ⟨rfl, hb⟩; refine ⟨_, rfl, ?_⟩; have n0_ := Aside0.mk (bB (bX_ BK107.out) hb); have n1_ := Aside0.mk (wT (bS1_ GE107.out) hb); clear BK107; clear HB; have BK107 := n0_; have HB := n1_; clear n0_ n1_; (try clear hb); (try clear hb2); (try clear hk); (try clear hi); have hcz14_0 := cz_ BK107.out 0; have hcz14_1 := cz_ BK107.out 1; have hcz14_2 := cz_ BK107.out 2; have hcz14_3 := cz_ BK107.out 3; have hcz14_4 := cz_ BK107.out 4; have hcz14_5 := cz_ BK107.out 5; have hfz14_0 := bF BK107.out 0; have hfz14_1 := bF BK107.out 1; have hfz14_2 := bF BK107.out 2; have hfz14_3 := bF BK107.out 3; have hfz14_4 := bF BK107.out 4; have hfz14_5 := bF BK107.out 5))
    go_ret
    exact ⟨by first | rfl | (simp [errW_none, errW_some] <;> rfl) | (simp [*, errW_none, errW_some] <;> rfl), by repeat (first | (with_reducible first | exact HB.out | apply wA | apply wN | apply w1 | refine wS ?_ GE107.out) | exact HB.out)⟩
   ·rw [if_neg c10] at H
    have c10b0 : (Op.bytesLess a1.toList a0_2.toList) = false := by simpa using c10
    clear c10
    by_cases c15 : a0_3.toList = ([] : List UInt8)
    ·rw [if_pos c15] at H
     have c15b0 : (a0_3.toList == ([] : List UInt8)) = true := beq_iff_eq.mpr c15
     have c15b1 : (a0_3.toList != ([] : List UInt8)) = false := bne_eq_false_iff_eq.mpr c15
     clear c15
     obtain rfl := Option.some.inj H
     go_enter Try.func110, Try.ntmps110
     go_wp2_with (first | ((with_reducible refine gate_dst (N := 2) rfl ?_); refine box_event ?hg (N := 2) ?hd (cs := #[.int .u8 a0_0, .int .i64 a0_1, .string a0_2, .string a0_3, .string a0_4, .int .u64 a0_5]) (t := 32) ?hr ?_; (case hd => rfl); (case hg => rfl); (case hr => first | (go_simp; done) | (go_simp; rfl)); intro gb107 hg w16 hbox hb; have n0_ := Aside0.mk (wT bW_ hb); have n1_ := Aside0.mk (hbox); have n2_ := Aside0.mk ((by rw [hg]; exact (wZ bW_) : w.heap.size ≤ gb107)); have n3_ := n2_; clear HB; have HB := n0_; have BK107 := n1_; have GW107 := n2_; have GE107 := n3_; clear n0_ n1_ n2_ n3_; clear hb hbox hg; have hcz17_0 := cz_ BK107.out 0; have hcz17_1 := cz_ BK107.out 1; have hcz17_2 := cz_ BK107.out 2; have hcz17_3 := cz_ BK107.out 3; have hcz17_4 := cz_ BK107.out 4; have hcz17_5 := cz_ BK107.out 5; have hfz17_0 := bF BK107.out 0; have hfz17_1 := bF BK107.out 1; have hfz17_2 := bF BK107.out 2; have hfz17_3 := bF BK107.out 3; have hfz17_4 := bF BK107.out 4; have hfz17_5 := bF BK107.out 5) | ((with_reducible refine gate_callee (f := 76) rfl ?_); refine goesL_ (some 6) rfl rfl Try.func76 (by kernel_rfl) rfl #[.agg #[.int .u8 a0_0, .int .i64 a0_1, .string a0_2, .string a0_3, .string a0_4, .int .u64 a0_5]] rfl mS_ ?_; (with_reducible refine (catchmentref04_Point.calls a0_0 a0_1 a0_2 a0_3 a0_4 a0_5 false _ A3.out).mono ?_); rintro e w18 ⟨rfl, hb⟩; refine ⟨_, rfl, ?_⟩; have n0_ := Aside0.mk (bB (bX_ BK107.out) hb); have n1_ := Aside0.mk (wT (bS1_ GE107.out) hb); clear BK107; clear HB; have BK107 := n0_; have HB := n1_; clear n0_ n1_; (try clear hb); (try clear hb2); (try clear hk); (try clear hi); have hcz19_0 := cz_ BK107.out 0; have hcz19_1 := cz_ BK107.out 1; have hcz19_2 := cz_ BK107.out 2; have hcz19_3 := cz_ BK107.out 3; have hcz19_4 := cz_ BK107.out 4; have hcz19_5 := cz_ BK107.out 5; have hfz19_0 := bF BK107.out 0; have hfz19_1 := bF BK107.out 1; have hfz19_2 := bF BK107.out 2; have hfz19_3 := bF BK107.out 3; have hfz19_4 := bF BK107.out 4; have hfz19_5 := bF BK107.out 5))
     go_ret
     exact ⟨by first | rfl | (simp [errW_none, errW_some] <;> rfl) | (simp [*, errW_none, errW_some] <;> rfl), by repeat (first | (with_reducible first | exact HB.out | apply wA | apply wN | apply w1 | refine wS ?_ GE107.out) | exact HB.out)⟩
    ·rw [if_neg c15] at H
     have c15b0 : (a0_3.toList == ([] : List UInt8)) = false := beq_eq_false_iff_ne.mpr c15
     have c15b1 : (a0_3.toList != ([] : List UInt8)) = true := bne_iff_ne.mpr c15
     obtain rfl := Option.some.inj H
     go_enter Try.func110, Try.ntmps110
     go_wp2_with (first | ((with_reducible refine gate_dst (N := 2) rfl ?_); refine box_event ?hg (N := 2) ?hd (cs := #[.int .u8 a0_0, .int .i64 a0_1, .string a0_2, .string a0_3, .string a0_4, .int .u64 a0_5]) (t := 32) ?hr ?_; (case hd => rfl); (case hg => rfl); (case hr => first | (go_simp; done) | (go_simp; rfl)); intro gb107 hg w20 hbox hb; have n0_ := Aside0.mk (wT bW_ hb); have n1_ := Aside0.mk (hbox); have n2_ := Aside0.mk ((by rw [hg]; exact (wZ bW_) : w.heap.size ≤ gb107)); have n3_ := n2_; clear HB; have HB := n0_; have BK107 := n1_; have GW107 := n2_; have GE107 := n3_; clear n0_ n1_ n2_ n3_; clear hb hbox hg; have hcz21_0 := cz_ BK107.out 0; have hcz21_1 := cz_ BK107.out 1; have hcz21_2 := cz_ BK107.out 2; have hcz21_3 := cz_ BK107.out 3; have hcz21_4 := cz_ BK107.out 4; have hcz21_5 := cz_ BK107.out 5; have hfz21_0 := bF BK107.out 0; have hfz21_1 := bF BK107.out 1; have hfz21_2 := bF BK107.out 2; have hfz21_3 := bF BK107.out 3; have hfz21_4 := bF BK107.out 4; have hfz21_5 := bF BK107.out 5) | ((with_reducible refine gate_callee (f := 76) rfl ?_); refine goesL_ (some 6) rfl rfl Try.func76 (by kernel_rfl) rfl #[.agg #[.int .u8 a0_0, .int .i64 a0_1, .string a0_2, .string a0_3, .string a0_4, .int .u64 a0_5]] rfl mS_ ?_; (with_reducible refine (catchmentref04_Point.calls a0_0 a0_1 a0_2 a0_3 a0_4 a0_5 false _ A3.out).mono ?_); rintro e w22 ⟨rfl, hb⟩; refine ⟨_, rfl, ?_⟩; have n0_ := Aside0.mk (bB (bX_ BK107.out) hb); have n1_ := Aside0.mk (wT (bS1_ GE107.out) hb); clear BK107; clear HB; have BK107 := n0_; have HB := n1_; clear n0_ n1_; (try clear hb); (try clear hb2); (try clear hk); (try clear hi); have hcz23_0 := cz_ BK107.out 0; have hcz23_1 := cz_ BK107.out 1; have hcz23_2 := cz_ BK107.out 2; have hcz23_3 := cz_ BK107.out 3; have hcz23_4 := cz_ BK107.out 4; have hcz23_5 := cz_ BK107.out 5; have hfz23_0 := bF BK107.out 0; have hfz23_1 := bF BK107.out 1; have hfz23_2 := bF BK107.out 2; have hfz23_3 := bF BK107.out 3; have hfz23_4 := bF BK107.out 4; have hfz23_5 := bF BK107.out 5))
     go_ret
     exact ⟨by first | rfl | (simp [errW_none, errW_some] <;> rfl) | (simp [*, errW_none, errW_some] <;> rfl), by repeat (first | (with_reducible first | exact HB.out | apply wA | apply wN | apply w1 | refine wS ?_ GE107.out) | exact HB.out)⟩
  ·rw [if_neg c9] at H
   have c9b0 : (a0_0 == 4) = false := beq_eq_false_iff_ne.mpr c9
   have c9b1 : (a0_0 != 4) = true := bne_iff_ne.mpr c9
   obtain rfl := Option.some.inj H
   go_enter Try.func110, Try.ntmps110
   go_wp2_with (first | ((with_reducible refine gate_dst (N := 2) rfl ?_); refine box_event ?hg (N := 2) ?hd (cs := #[.int .u8 a0_0, .int .i64 a0_1, .string a0_2, .string a0_3, .string a0_4, .int .u64 a0_5]) (t := 32) ?hr ?_; (case hd => rfl); (case hg => rfl); (case hr => first | (go_simp; done) | (go_simp; rfl)); intro gb107 hg w24 hbox hb; have n0_ := Aside0.mk (wT bW_ hb); have n1_ := Aside0.mk (hbox); have n2_ := Aside0.mk ((by rw [hg]; exact (wZ bW_) : w.heap.size ≤ gb107)); have n3_ := n2_; clear HB; have HB := n0_; have BK107 := n1_; have GW107 := n2_; have GE107 := n3_; clear n0_ n1_ n2_ n3_; clear hb hbox hg; have hcz25_0 := cz_ BK107.out 0; have hcz25_1 := cz_ BK107.out 1; have hcz25_2 := cz_ BK107.out 2; have hcz25_3 := cz_ BK107.out 3; have hcz25_4 := cz_ BK107.out 4; have hcz25_5 := cz_ BK107.out 5; have hfz25_0 := bF BK107.out 0; have hfz25_1 := bF BK107.out 1; have hfz25_2 := bF BK107.out 2; have hfz25_3 := bF BK107.out 3; have hfz25_4 := bF BK107.out 4; have hfz25_5 := bF BK107.out 5) | ((with_reducible refine gate_callee (f := 76) rfl ?_); refine goesL_ (some 6) rfl rfl Try.func76 (by kernel_rfl) rfl #[.agg #[.int .u8 a0_0, .int .i64 a0_1, .string a0_2, .string a0_3, .string a0_4, .int .u64 a0_5]] rfl mS_ ?_; (with_reducible refine (catchmentref04_Point.calls a0_0 a0_1 a0_2 a0_3 a0_4 a0_5 false _ A3.out).mono ?_); rintro e w26 ⟨rfl, hb⟩; refine ⟨_, rfl, ?_⟩; have n0_ := Aside0.mk (bB (bX_ BK107.out) hb); have n1_ := Aside0.mk (wT (bS1_ GE107.out) hb); clear BK107; clear HB; have BK107 := n0_; have HB := n1_; clear n0_ n1_; (try clear hb); (try clear hb2); (try clear hk); (try clear hi); have hcz27_0 := cz_ BK107.out 0; have hcz27_1 := cz_ BK107.out 1; have hcz27_2 := cz_ BK107.out 2; have hcz27_3 := cz_ BK107.out 3; have hcz27_4 := cz_ BK107.out 4; have hcz27_5 := cz_ BK107.out 5; have hfz27_0 := bF BK107.out 0; have hfz27_1 := bF BK107.out 1; have hfz27_2 := bF BK107.out 2; have hfz27_3 := bF BK107.out 3; have hfz27_4 := bF BK107.out 4; have hfz27_5 := bF BK107.out 5))
   go_ret
   exact ⟨by first | rfl | (simp [errW_none, errW_some] <;> rfl) | (simp [*, errW_none, errW_some] <;> rfl), by repeat (first | (with_reducible first | exact HB.out | apply wA | apply wN | apply w1 | refine wS ?_ GE107.out) | exact HB.out)⟩
def catchmentref03_Put.l0 : Nat → Int → ByteArray → Int → Option (ByteArray)
 | 0, _, _, _ => none
 | k + 1, x0, x3, x4 => if x4 < 8 then ((some (([(Int.tmod x0 256) % 256] : List Int) : List Int)).bind fun y109 => (if (strOfNums y109).size + x3.size ≤ 9223372036854775807 then (catchmentref03_Put.l0 k (IntKind.u64.wrap (Int.tdiv x0 256)) ((strOfNums y109) ++ x3) (wrap64 (x4 + 1))) else (none))) else (some x3)
def catchmentref03_Put.f (k : Nat) (a0 : Int) : Option (ByteArray) := catchmentref03_Put.l0 k a0 (⟨#[]⟩ : BA) 0
set_option maxHeartbeats 8000000 in
set_option maxRecDepth 100000 in
theorem catchmentref03_Put.calls (k : Nat) (a0 : Int) (r : BA) (w : World) (h : catchmentref03_Put.f k a0 = some r) :
  Calls Try.prog 128 #[.int .u64 a0] w fun e w' => e = .returned (.string r) ∧ Below w.heap.size w w' := by
 have HB := Aside0.mk (Below.refl w.heap.size w)
 have H : (catchmentref03_Put.l0 k a0 (⟨#[]⟩ : BA) 0) = some r := h
 clear h
 have H' := Aside0.mk H
 clear H
 go_enter Try.func128, Try.ntmps128
 go_wp2
 go_loopg [0, 3, 4] k (fun kq v0 v3 v4 w' => ∃ (x0_1 : Int) (x3_1 : BA) (x4_1 : Int), v0 = .int .u64 x0_1 ∧ v3 = .string x3_1 ∧ v4 = .int .i64 x4_1 ∧ Aside0 (catchmentref03_Put.l0 kq x0_1 x3_1 x4_1 = some r) ∧ Aside0 (kq ≤ k) ∧ Aside0 (Below w.heap.size w w'))
 case atStart => exact ⟨(a0), ((⟨#[]⟩ : BA)), (0), (by first | rfl | (simp; done) | (simp [*]; done)), (by first | rfl | (simp; done) | (simp [*]; done)), (by first | rfl | (simp; done) | (simp [*]; done)), H', ⟨Nat.le_refl _⟩, ⟨by repeat (first | (with_reducible first | exact HB.out | apply wA | apply wN | apply w1) | exact HB.out)⟩⟩
 case round =>
  clear H'
  try clear c1
  obtain ⟨x0_1, x3_1, x4_1, rfl, rfl, rfl, HA, HK1, HB⟩ := hrel
  cases gk with
  | zero => exact absurd HA.out (by simp [catchmentref03_Put.l0])
  | succ k1 =>
   have H := HA.out
   clear HA
   simp only [catchmentref03_Put.l0] at H
   by_cases c2 : x4_1 < 8
   ·rw [if_pos c2] at H
    have c2b0 : decide (x4_1 < 8) = true := decide_eq_true c2
    clear c2
    obtain ⟨y109, hy109⟩ : ∃ y_ : List Int, y_ = (([(Int.tmod x0_1 256) % 256] : List Int)) := ⟨_, rfl⟩
    replace H : (if (strOfNums y109).size + x3_1.size ≤ 9223372036854775807 then (catchmentref03_Put.l0 k1 (IntKind.u64.wrap (Int.tdiv x0_1 256)) ((strOfNums y109) ++ x3_1) (wrap64 (x4_1 + 1))) else (none)) = some r := by first | (rw [hy109]; with_reducible exact H) | (have H2_ := (Option.bind_some _ _).symm.trans H; rw [hy109]; with_reducible exact H2_) | (have H2_ := (Option.bind_some _ _).symm.trans H; with_reducible exact H2_) | with_reducible exact H | (rw [hy109]; exact H) | exact H
    have Ny109 := Aside0.mk hy109
    clear hy109
    by_cases c3 : (strOfNums y109).size + x3_1.size ≤ 9223372036854775807
    ·rw [if_pos c3] at H
     have c3b0 := eq_true c3
     have c3b1 : decide ((strOfNums y109).size + x3_1.size ≤ 9223372036854775807) = true := decide_eq_true c3
     try have c3b2 : (9223372036854775807 < (strOfNums y109).size + x3_1.size) = False := eq_false (Nat.not_lt.2 c3)
     have H' := Aside0.mk H
     clear H
     go_wp2_with (first | ((with_reducible refine gate_dst (N := 12) rfl ?_); refine Kd.R_lit (Kd.int .u8) _ 5 ?hg (N := 12) ?hd (xs := ([(Int.tmod x0_1 256) % 256] : List Int)) (inner := [.int .u8 ((Int.tmod x0_1 256) % 256)]) (ok := fun _ => True) (okp := fun _ => True) ?hr ?hp (fun _ hk => hk) trivial (Below.refl _ _) (Nat.le_refl _) (by simp) ?_; (case hd => rfl); (case hg => rfl); (case hr => first | (go_simp; done) | (go_simp; rfl)); (case hp => exact (Reps.one (show Kd.M (Kd.int .u8) _ _ _ ((Int.tmod x0_1 256) % 256) [.int .u8 ((Int.tmod x0_1 256) % 256)] from rfl) (Reps.none _ _))); intro v110 w4 ho5 hb hg_ hnew_; clear hg_ hnew_; (first | rw [← Ny109.out] at ho5 | (simp only [Int.reduceToNat] at ho5; rw [← Ny109.out] at ho5)); have n0_ := Aside0.mk (Kd.R_lower ho5 (wZ bW_)); have n1_ := Aside0.mk (wT bW_ hb); clear HB; have HO111 := n0_; have HB := n1_; clear n0_ n1_; clear hb ho5; have hcv6 := own_string (P := Try.prog) Try.underlying135 Try.underlying5 Try.underlying9 (Kd.own_of_R HO111.out)))
     go_roundg k1
     case measure => have := HK1.out; omega
     case rel => exact ⟨(IntKind.u64.wrap (Int.tdiv x0_1 256)), ((strOfNums y109) ++ x3_1), (wrap64 (x4_1 + 1)), (by first | rfl | (simp; done) | (simp [*]; done)), (by first | rfl | (simp; done) | (simp [*]; done)), (by first | rfl | (simp; done) | (simp [*]; done)), H', ⟨by have := HK1.out; omega⟩, ⟨by repeat (first | (with_reducible first | exact HB.out | apply wA | apply wN | apply w1) | exact HB.out)⟩⟩
    ·rw [if_neg c3] at H
     exact absurd H (by simp)
   ·rw [if_neg c2] at H
    have c2b0 : decide (x4_1 < 8) = false := decide_eq_false c2
    clear c2
    obtain rfl := Option.some.inj H
    go_wp2
    go_ret
    exact ⟨eR_, bW_⟩
def catchmentref03_Take.l0 : Nat → ByteArray → Int → Int → Option (Int × Bool)
 | 0, _, _, _ => none
 | k + 1, x0, x4, x5 => if x5 < 8 then (if 0 ≤ x5 then (if x5 < (x0.size : Int) then (catchmentref03_Take.l0 k x0 (IntKind.u64.wrap ((IntKind.u64.wrap (x4 * 256)) + (IntKind.u64.wrap (bt x0 x5)))) (wrap64 (x5 + 1))) else (none)) else (none)) else (some (x4, true))
def catchmentref03_Take.f (k : Nat) (a0 : BA) : Option (Int × Bool) := if (a0.size : Int) = 8 then (catchmentref03_Take.l0 k a0 0 0) else (some (0, false))
set_option maxHeartbeats 8000000 in
set_option maxRecDepth 100000 in
theorem catchmentref03_Take.calls (k : Nat) (a0 : BA) (r1 : Int) (r2 : Bool) (w : World) (h : catchmentref03_Take.f k a0 = some (r1, r2)) :
  Calls Try.prog 129 #[.string a0] w fun e w' => e = .returned (.tuple #[.int .u64 r1, .bool r2]) ∧ Drawn0 w w' := by
 have H : (if (a0.size : Int) = 8 then (catchmentref03_Take.l0 k a0 0 0) else (some (0, false))) = some (r1, r2) := h
 clear h
 by_cases c2 : (a0.size : Int) = 8
 ·rw [if_pos c2] at H
  have c2b0 : ((a0.size : Int) == 8) = true := beq_iff_eq.mpr c2
  have c2b1 : ((a0.size : Int) != 8) = false := bne_eq_false_iff_eq.mpr c2
  clear c2
  have H' := Aside0.mk H
  clear H
  go_enter Try.func129, Try.ntmps129
  go_wp2
  go_loopg [4, 5] k (fun kq v4 v5 w' => ∃ (x4_1 : Int) (x5_1 : Int), v4 = .int .u64 x4_1 ∧ v5 = .int .i64 x5_1 ∧ Aside0 (catchmentref03_Take.l0 kq a0 x4_1 x5_1 = some (r1, r2)) ∧ Aside0 (kq ≤ k) ∧ Drawn0 w w')
  case atStart => exact ⟨(0), (0), (by first | rfl | (simp; done) | (simp [*]; done)), (by first | rfl | (simp; done) | (simp [*]; done)), H', ⟨Nat.le_refl _⟩, by repeat (first | exact Drawn0.refl _ | apply Drawn0.step)⟩
  case round =>
   clear H'
   try clear c1
   try clear c2
   try clear c2b0
   try clear c2b1
   try clear p2
   obtain ⟨x4_1, x5_1, rfl, rfl, HA, HK1, ⟨m1, rfl⟩⟩ := hrel
   cases gk with
   | zero => exact absurd HA.out (by simp [catchmentref03_Take.l0])
   | succ k1 =>
    have H := HA.out
    clear HA
    simp only [catchmentref03_Take.l0] at H
    by_cases c3 : x5_1 < 8
    ·rw [if_pos c3] at H
     have c3b0 : decide (x5_1 < 8) = true := decide_eq_true c3
     clear c3
     by_cases c4 : 0 ≤ x5_1
     ·rw [if_pos c4] at H
      have c4b0 : decide (0 ≤ x5_1) = true := decide_eq_true c4
      clear c4
      by_cases c5 : x5_1 < (a0.size : Int)
      ·rw [if_pos c5] at H
       have c5b0 : decide (x5_1 < (a0.size : Int)) = true := decide_eq_true c5
       clear c5
       have H' := Aside0.mk H
       clear H
       have p6 : 0 ≤ (x5_1 : Int) := of_decide_eq_true (by first | (with_reducible assumption) | assumption)
       have q6 : x5_1 < (a0.size : Int) := of_decide_eq_true (by first | (with_reducible assumption) | assumption)
       have hx6 := bt_at a0 x5_1
       replace p6 := eq_true p6
       replace q6 := eq_true q6
       go_wp2
       go_roundg k1
       case measure => have := HK1.out; omega
       case rel => exact ⟨(IntKind.u64.wrap ((IntKind.u64.wrap (x4_1 * 256)) + (IntKind.u64.wrap (bt a0 x5_1)))), (wrap64 (x5_1 + 1)), (by first | rfl | (simp; done) | (simp [*]; done)), (by first | rfl | (simp; done) | (simp [*]; done)), H', ⟨by have := HK1.out; omega⟩, by repeat (first | exact Drawn0.refl _ | apply Drawn0.step)⟩
      ·rw [if_neg c5] at H
       exact absurd H (by simp)
     ·rw [if_neg c4] at H
      exact absurd H (by simp)
    ·rw [if_neg c3] at H
     have c3b0 : decide (x5_1 < 8) = false := decide_eq_false c3
     clear c3
     simp only [Option.some.injEq, Prod.mk.injEq] at H
     obtain ⟨rfl, rfl⟩ := H
     go_wp2
     go_ret2
     exact ⟨by first | rfl | (simp; done) | (simp [*]; done), by repeat (first | exact Drawn0.refl _ | apply Drawn0.step)⟩
 ·rw [if_neg c2] at H
  have c2b0 : ((a0.size : Int) == 8) = false := beq_eq_false_iff_ne.mpr c2
  have c2b1 : ((a0.size : Int) != 8) = true := bne_iff_ne.mpr c2
  simp only [Option.some.injEq, Prod.mk.injEq] at H
  obtain ⟨rfl, rfl⟩ := H
  go_enter Try.func129, Try.ntmps129
  go_wp2
  go_ret2
  exact ⟨by first | rfl | (simp; done) | (simp [*]; done), by repeat (first | exact Drawn0.refl _ | apply Drawn0.step)⟩
def catchmentref03_Add.f (k : Nat) (a0 : BA) (a1 : Bool) (a2 : Int) : Option (ByteArray) := if a1 = true then ((catchmentref03_Take.f k a0).bind fun bt113 => (if bt113.2 = true then ((catchmentref03_Put.f k (IntKind.u64.wrap (bt113.1 + a2))).bind fun t115 => (some t115)) else (some a0))) else ((catchmentref03_Put.f k a2).bind fun t112 => (some t112))
set_option maxHeartbeats 8000000 in
set_option maxRecDepth 100000 in
theorem catchmentref03_Add.calls (k : Nat) (a0 : BA) (a1 : Bool) (a2 : Int) (r : BA) (w : World) (h : catchmentref03_Add.f k a0 a1 a2 = some r) :
  Calls Try.prog 111 #[.string a0, .bool a1, .int .u64 a2] w fun e w' => e = .returned (.string r) ∧ Below w.heap.size w w' := by
 have HB := Aside0.mk (Below.refl w.heap.size w)
 have H : (if a1 = true then ((catchmentref03_Take.f k a0).bind fun bt113 => (if bt113.2 = true then ((catchmentref03_Put.f k (IntKind.u64.wrap (bt113.1 + a2))).bind fun t115 => (some t115)) else (some a0))) else ((catchmentref03_Put.f k a2).bind fun t112 => (some t112))) = some r := h
 clear h
 by_cases c4 : a1 = true
 ·subst c4
  have H1 : ((catchmentref03_Take.f k a0).bind fun bt113 => (if bt113.2 = true then ((catchmentref03_Put.f k (IntKind.u64.wrap (bt113.1 + a2))).bind fun t115 => (some t115)) else (some a0))) = some r := by rw [if_pos rfl] at H; exact H
  clear H
  have H := H1
  clear H1
  replace H := Option.bind_eq_some_iff.mp H
  obtain ⟨⟨t113, t114⟩, A50, H⟩ := H
  replace H : (if t114 = true then ((catchmentref03_Put.f k (IntKind.u64.wrap (t113 + a2))).bind fun t115 => (some t115)) else (some a0)) = some r := H
  have A5 := Aside0.mk A50
  clear A50
  by_cases c6 : t114 = true
  ·subst c6
   have H1 : ((catchmentref03_Put.f k (IntKind.u64.wrap (t113 + a2))).bind fun t115 => (some t115)) = some r := by rw [if_pos rfl] at H; exact H
   clear H
   have H := H1
   clear H1
   replace H := Option.bind_eq_some_iff.mp H
   obtain ⟨t115, A70, H⟩ := H
   replace H : (some t115) = some r := H
   have A7 := Aside0.mk A70
   clear A70
   obtain rfl := Option.some.inj H
   go_enter Try.func111, Try.ntmps111
   go_wp2_with (first | ((with_reducible refine gate_callee (f := 129) rfl ?_); refine goesL_ (some 15) rfl rfl Try.func129 (by kernel_rfl) rfl #[.string a0] rfl mS_ ?_; (with_reducible refine (catchmentref03_Take.calls k a0 t113 true _ A5.out).mono ?_); rintro e w' ⟨rfl, ⟨nd, rfl⟩⟩; refine ⟨_, rfl, ?_⟩) | ((with_reducible refine gate_callee (f := 128) rfl ?_); refine goesL_ (some 22) rfl rfl Try.func128 (by kernel_rfl) rfl #[.int .u64 (IntKind.u64.wrap (t113 + a2))] rfl mS_ ?_; (with_reducible refine (catchmentref03_Put.calls k (IntKind.u64.wrap (t113 + a2)) t115 _ A7.out).mono ?_); rintro e w8 ⟨rfl, hb⟩; refine ⟨_, rfl, ?_⟩; have n0_ := Aside0.mk (wT bW_ hb); clear HB; have HB := n0_; clear n0_; (try clear hb); (try clear hb2); (try clear hk); (try clear hi)))
   go_ret
   exact ⟨eR_, bW_⟩
  ·replace c6 := Bool.eq_false_iff.mpr c6
   subst c6
   have H1 : (some a0) = some r := by rw [if_neg (show ¬ (false = true) by decide)] at H; exact H
   clear H
   have H := H1
   clear H1
   obtain rfl := Option.some.inj H
   go_enter Try.func111, Try.ntmps111
   go_wp2_with (first | ((with_reducible refine gate_callee (f := 129) rfl ?_); refine goesL_ (some 15) rfl rfl Try.func129 (by kernel_rfl) rfl #[.string a0] rfl mS_ ?_; (with_reducible refine (catchmentref03_Take.calls k a0 t113 false _ A5.out).mono ?_); rintro e w' ⟨rfl, ⟨nd, rfl⟩⟩; refine ⟨_, rfl, ?_⟩))
   go_ret
   exact ⟨eR_, bW_⟩
 ·replace c4 := Bool.eq_false_iff.mpr c4
  subst c4
  have H1 : ((catchmentref03_Put.f k a2).bind fun t112 => (some t112)) = some r := by rw [if_neg (show ¬ (false = true) by decide)] at H; exact H
  clear H
  have H := H1
  clear H1
  replace H := Option.bind_eq_some_iff.mp H
  obtain ⟨t112, A90, H⟩ := H
  replace H : (some t112) = some r := H
  have A9 := Aside0.mk A90
  clear A90
  obtain rfl := Option.some.inj H
  go_enter Try.func111, Try.ntmps111
  go_wp2_with (first | ((with_reducible refine gate_callee (f := 128) rfl ?_); refine goesL_ (some 12) rfl rfl Try.func128 (by kernel_rfl) rfl #[.int .u64 a2] rfl mS_ ?_; (with_reducible refine (catchmentref03_Put.calls k a2 t112 _ A9.out).mono ?_); rintro e w10 ⟨rfl, hb⟩; refine ⟨_, rfl, ?_⟩; have n0_ := Aside0.mk (wT bW_ hb); clear HB; have HB := n0_; clear n0_; (try clear hb); (try clear hb2); (try clear hk); (try clear hi)))
  go_ret
  exact ⟨eR_, bW_⟩
def catchmentref04_On.j0 : Nat → ByteArray → ByteArray → Bool → Int → Int → ByteArray → ByteArray → ByteArray → Int → Option (ByteArray × Bool)
 | 0, _, _, _, _, _, _, _, _, _ => none
 | k + 1, x1, x2, x3, x117000, x117001, x117002, x117003, x117004, x117005 => (catchmentref04_Touches.f x117000 x117001 x117002 x117003 x117004 x117005 x1).bind fun t117 => (if t117 = true then (if x117000 = 1 then (some (x117004, true)) else (if x117000 = 3 then ((catchmentref03_Add.f k x2 x3 x117005).bind fun t118 => (some (t118, true))) else (some ((⟨#[]⟩ : BA), false)))) else (some (x2, x3)))
def catchmentref04_On.f (k : Nat) (a0_0 : Int) (a0_1 : Int) (a0_2 : BA) (a0_3 : BA) (a0_4 : BA) (a0_5 : Int) (a1 : BA) (a2 : BA) (a3 : Bool) : Option (ByteArray × Bool) := if a3 = true then (catchmentref04_On.j0 k a1 a2 a3 a0_0 a0_1 a0_2 a0_3 a0_4 a0_5) else (catchmentref04_On.j0 k a1 (⟨#[]⟩ : BA) a3 a0_0 a0_1 a0_2 a0_3 a0_4 a0_5)
set_option maxHeartbeats 8000000 in
set_option maxRecDepth 100000 in
theorem catchmentref04_On.calls (k : Nat) (a0_0 : Int) (a0_1 : Int) (a0_2 : BA) (a0_3 : BA) (a0_4 : BA) (a0_5 : Int) (a1 : BA) (a2 : BA) (a3 : Bool) (r1 : BA) (r2 : Bool) (w : World) (h : catchmentref04_On.f k a0_0 a0_1 a0_2 a0_3 a0_4 a0_5 a1 a2 a3 = some (r1, r2)) :
  Calls Try.prog 75 #[.agg #[.int .u8 a0_0, .int .i64 a0_1, .string a0_2, .string a0_3, .string a0_4, .int .u64 a0_5], .string a1, .string a2, .bool a3] w fun e w' => e = .returned (.tuple #[.string r1, .bool r2]) ∧ Below w.heap.size w w' := by
 have hu32 := Try.underlying32
 have HB := Aside0.mk (Below.refl w.heap.size w)
 have H : (if a3 = true then (catchmentref04_On.j0 k a1 a2 a3 a0_0 a0_1 a0_2 a0_3 a0_4 a0_5) else (catchmentref04_On.j0 k a1 (⟨#[]⟩ : BA) a3 a0_0 a0_1 a0_2 a0_3 a0_4 a0_5)) = some (r1, r2) := h
 clear h
 have HC5 := Aside0.mk H
 clear H
 go_enter Try.func75, Try.ntmps75
 go_upto_if 11 with (first | ((with_reducible refine gate_dst (N := 4) rfl ?_); refine box_event ?hg (N := 4) ?hd (cs := #[.int .u8 a0_0, .int .i64 a0_1, .string a0_2, .string a0_3, .string a0_4, .int .u64 a0_5]) (t := 32) ?hr ?_; (case hd => rfl); (case hg => rfl); (case hr => first | (go_simp; done) | (go_simp; rfl)); intro gb116 hg w6 hbox hb; have n0_ := Aside0.mk (wT bW_ hb); have n1_ := Aside0.mk (hbox); have n2_ := Aside0.mk ((by rw [hg]; exact (wZ bW_) : w.heap.size ≤ gb116)); have n3_ := n2_; clear HB; have HB := n0_; have BK116 := n1_; have GW116 := n2_; have GE116 := n3_; clear n0_ n1_ n2_ n3_; clear hb hbox hg))
 (try simp only [Act.put, sA1, sA2, sA3])
 go_cut [2] (fun v2 wc => ∃ (kq : Nat) (x2_4 : BA), v2 = .string x2_4 ∧ Aside0 (catchmentref04_On.j0 kq a1 x2_4 a3 a0_0 a0_1 a0_2 a0_3 a0_4 a0_5 = some (r1, r2)) ∧ Aside0 (kq ≤ k) ∧ Aside0 (wc.heap[gb116]? = some (.cells #[.int .u8 a0_0, .int .i64 a0_1, .string a0_2, .string a0_3, .string a0_4, .int .u64 a0_5] 32 (0, 0))) ∧ Aside0 (Below w.heap.size w wc))
 case first =>
  have H := HC5.out
  clear HC5
  by_cases c7 : a3 = true
  ·subst c7
   have H1 : (catchmentref04_On.j0 k a1 a2 true a0_0 a0_1 a0_2 a0_3 a0_4 a0_5) = some (r1, r2) := by rw [if_pos rfl] at H; exact H
   clear H
   have H := H1
   clear H1
   have H' := Aside0.mk H
   clear H
   go_wp2
   go_meet
   case rel => exact ⟨_, (a2), (by first | rfl | (simp; done) | (simp [*]; done)), H', ⟨by first | omega | exact Nat.le_refl _⟩, ⟨by (with_reducible repeat (first | refine bN ?_ _ | refine bD ?_ | refine bA ?_ _)); exact BK116.out⟩, ⟨by repeat (first | (with_reducible first | exact HB.out | apply wA | apply wN | apply w1 | refine wS ?_ GE116.out) | exact HB.out)⟩⟩
  ·replace c7 := Bool.eq_false_iff.mpr c7
   subst c7
   have H1 : (catchmentref04_On.j0 k a1 (⟨#[]⟩ : BA) false a0_0 a0_1 a0_2 a0_3 a0_4 a0_5) = some (r1, r2) := by rw [if_neg (show ¬ (false = true) by decide)] at H; exact H
   clear H
   have H := H1
   clear H1
   have H' := Aside0.mk H
   clear H
   go_wp2
   go_meet
   case rel => exact ⟨_, ((⟨#[]⟩ : BA)), (by first | rfl | (simp; done) | (simp [*]; done)), H', ⟨by first | omega | exact Nat.le_refl _⟩, ⟨by (with_reducible repeat (first | refine bN ?_ _ | refine bD ?_ | refine bA ?_ _)); exact BK116.out⟩, ⟨by repeat (first | (with_reducible first | exact HB.out | apply wA | apply wN | apply w1 | refine wS ?_ GE116.out) | exact HB.out)⟩⟩
 case rest =>
  clear HC5
  try clear p2
  try clear c7
  obtain ⟨kq, x2_4, rfl, HA, HJ4, BK116, HB⟩ := hcut
  cases kq with
  | zero => exact absurd HA.out (by simp [catchmentref04_On.j0])
  | succ kj4 =>
   have H := HA.out
   clear HA
   simp only [catchmentref04_On.j0] at H
   replace H := Option.bind_eq_some_iff.mp H
   obtain ⟨t117, A80, H⟩ := H
   replace H : (if t117 = true then (if a0_0 = 1 then (some (a0_4, true)) else (if a0_0 = 3 then ((catchmentref03_Add.f kj4 x2_4 a3 a0_5).bind fun t118 => (some (t118, true))) else (some ((⟨#[]⟩ : BA), false)))) else (some (x2_4, a3))) = some (r1, r2) := H
   have A8 := Aside0.mk A80
   clear A80
   by_cases c9 : t117 = true
   ·subst c9
    have H1 : (if a0_0 = 1 then (some (a0_4, true)) else (if a0_0 = 3 then ((catchmentref03_Add.f kj4 x2_4 a3 a0_5).bind fun t118 => (some (t118, true))) else (some ((⟨#[]⟩ : BA), false)))) = some (r1, r2) := by rw [if_pos rfl] at H; exact H
    clear H
    have H := H1
    clear H1
    by_cases c10 : a0_0 = 1
    ·rw [if_pos c10] at H
     have c10b0 : (a0_0 == 1) = true := beq_iff_eq.mpr c10
     have c10b1 : (a0_0 != 1) = false := bne_eq_false_iff_eq.mpr c10
     clear c10
     simp only [Option.some.injEq, Prod.mk.injEq] at H
     obtain ⟨rfl, rfl⟩ := H
     have hcz11_0 := cz_ BK116.out 0
     have hcz11_1 := cz_ BK116.out 1
     have hcz11_2 := cz_ BK116.out 2
     have hcz11_3 := cz_ BK116.out 3
     have hcz11_4 := cz_ BK116.out 4
     have hcz11_5 := cz_ BK116.out 5
     have hfz11_0 := bF BK116.out 0
     have hfz11_1 := bF BK116.out 1
     have hfz11_2 := bF BK116.out 2
     have hfz11_3 := bF BK116.out 3
     have hfz11_4 := bF BK116.out 4
     have hfz11_5 := bF BK116.out 5
     go_wp2_with (first | ((with_reducible refine gate_callee (f := 110) rfl ?_); refine goesL_ (some 14) rfl rfl Try.func110 (by kernel_rfl) rfl #[.agg #[.int .u8 a0_0, .int .i64 a0_1, .string a0_2, .string a0_3, .string a0_4, .int .u64 a0_5], .string a1] rfl mS_ ?_; (with_reducible refine (catchmentref04_Touches.calls a0_0 a0_1 a0_2 a0_3 a0_4 a0_5 a1 true _ A8.out).mono ?_); rintro e w12 ⟨rfl, hb⟩; refine ⟨_, rfl, ?_⟩; have n0_ := Aside0.mk (bB (bX_ BK116.out) hb); have n1_ := Aside0.mk (wT (bS1_ GE116.out) hb); clear BK116; clear HB; have BK116 := n0_; have HB := n1_; clear n0_ n1_; (try clear hb); (try clear hb2); (try clear hk); (try clear hi); have hcz13_0 := cz_ BK116.out 0; have hcz13_1 := cz_ BK116.out 1; have hcz13_2 := cz_ BK116.out 2; have hcz13_3 := cz_ BK116.out 3; have hcz13_4 := cz_ BK116.out 4; have hcz13_5 := cz_ BK116.out 5; have hfz13_0 := bF BK116.out 0; have hfz13_1 := bF BK116.out 1; have hfz13_2 := bF BK116.out 2; have hfz13_3 := bF BK116.out 3; have hfz13_4 := bF BK116.out 4; have hfz13_5 := bF BK116.out 5))
     go_ret2
     exact ⟨by first | rfl | (simp [errW_none, errW_some] <;> rfl) | (simp [*, errW_none, errW_some] <;> rfl), by repeat (first | (with_reducible first | exact HB.out | apply wA | apply wN | apply w1 | refine wS ?_ GE116.out) | exact HB.out)⟩
    ·rw [if_neg c10] at H
     have c10b0 : (a0_0 == 1) = false := beq_eq_false_iff_ne.mpr c10
     have c10b1 : (a0_0 != 1) = true := bne_iff_ne.mpr c10
     by_cases c14 : a0_0 = 3
     ·rw [if_pos c14] at H
      have c14b0 : (a0_0 == 3) = true := beq_iff_eq.mpr c14
      have c14b1 : (a0_0 != 3) = false := bne_eq_false_iff_eq.mpr c14
      clear c14
      replace H := Option.bind_eq_some_iff.mp H
      obtain ⟨t118, A150, H⟩ := H
      replace H : (some (t118, true)) = some (r1, r2) := H
      have A15 := Aside0.mk A150
      clear A150
      simp only [Option.some.injEq, Prod.mk.injEq] at H
      obtain ⟨rfl, rfl⟩ := H
      have hcz16_0 := cz_ BK116.out 0
      have hcz16_1 := cz_ BK116.out 1
      have hcz16_2 := cz_ BK116.out 2
      have hcz16_3 := cz_ BK116.out 3
      have hcz16_4 := cz_ BK116.out 4
      have hcz16_5 := cz_ BK116.out 5
      have hfz16_0 := bF BK116.out 0
      have hfz16_1 := bF BK116.out 1
      have hfz16_2 := bF BK116.out 2
      have hfz16_3 := bF BK116.out 3
      have hfz16_4 := bF BK116.out 4
      have hfz16_5 := bF BK116.out 5
      go_wp2_with (first | ((with_reducible refine gate_callee (f := 110) rfl ?_); refine goesL_ (some 14) rfl rfl Try.func110 (by kernel_rfl) rfl #[.agg #[.int .u8 a0_0, .int .i64 a0_1, .string a0_2, .string a0_3, .string a0_4, .int .u64 a0_5], .string a1] rfl mS_ ?_; (with_reducible refine (catchmentref04_Touches.calls a0_0 a0_1 a0_2 a0_3 a0_4 a0_5 a1 true _ A8.out).mono ?_); rintro e w17 ⟨rfl, hb⟩; refine ⟨_, rfl, ?_⟩; have n0_ := Aside0.mk (bB (bX_ BK116.out) hb); have n1_ := Aside0.mk (wT (bS1_ GE116.out) hb); clear BK116; clear HB; have BK116 := n0_; have HB := n1_; clear n0_ n1_; (try clear hb); (try clear hb2); (try clear hk); (try clear hi); have hcz18_0 := cz_ BK116.out 0; have hcz18_1 := cz_ BK116.out 1; have hcz18_2 := cz_ BK116.out 2; have hcz18_3 := cz_ BK116.out 3; have hcz18_4 := cz_ BK116.out 4; have hcz18_5 := cz_ BK116.out 5; have hfz18_0 := bF BK116.out 0; have hfz18_1 := bF BK116.out 1; have hfz18_2 := bF BK116.out 2; have hfz18_3 := bF BK116.out 3; have hfz18_4 := bF BK116.out 4; have hfz18_5 := bF BK116.out 5) | ((with_reducible refine gate_callee (f := 111) rfl ?_); refine goesL_ (some 30) rfl rfl Try.func111 (by kernel_rfl) rfl #[.string x2_4, .bool a3, .int .u64 a0_5] rfl mS_ ?_; (with_reducible refine (catchmentref03_Add.calls kj4 x2_4 a3 a0_5 t118 _ A15.out).mono ?_); rintro e w19 ⟨rfl, hb⟩; refine ⟨_, rfl, ?_⟩; have n0_ := Aside0.mk (bB (bX_ BK116.out) hb); have n1_ := Aside0.mk (wT (bS1_ GE116.out) hb); clear BK116; clear HB; have BK116 := n0_; have HB := n1_; clear n0_ n1_; (try clear hb); (try clear hb2); (try clear hk); (try clear hi)))
      go_ret2
      exact ⟨by first | rfl | (simp [errW_none, errW_some] <;> rfl) | (simp [*, errW_none, errW_some] <;> rfl), by repeat (first | (with_reducible first | exact HB.out | apply wA | apply wN | apply w1 | refine wS ?_ GE116.out) | exact HB.out)⟩
     ·rw [if_neg c14] at H
      have c14b0 : (a0_0 == 3) = false := beq_eq_false_iff_ne.mpr c14
      have c14b1 : (a0_0 != 3) = true := bne_iff_ne.mpr c14
      simp only [Option.some.injEq, Prod.mk.injEq] at H
      obtain ⟨rfl, rfl⟩ := H
      have hcz20_0 := cz_ BK116.out 0
      have hcz20_1 := cz_ BK116.out 1
      have hcz20_2 := cz_ BK116.out 2
      have hcz20_3 := cz_ BK116.out 3
      have hcz20_4 := cz_ BK116.out 4
      have hcz20_5 := cz_ BK116.out 5
      have hfz20_0 := bF BK116.out 0
      have hfz20_1 := bF BK116.out 1
      have hfz20_2 := bF BK116.out 2
      have hfz20_3 := bF BK116.out 3
      have hfz20_4 := bF BK116.out 4
      have hfz20_5 := bF BK116.out 5
      go_wp2_with (first | ((with_reducible refine gate_callee (f := 110) rfl ?_); refine goesL_ (some 14) rfl rfl Try.func110 (by kernel_rfl) rfl #[.agg #[.int .u8 a0_0, .int .i64 a0_1, .string a0_2, .string a0_3, .string a0_4, .int .u64 a0_5], .string a1] rfl mS_ ?_; (with_reducible refine (catchmentref04_Touches.calls a0_0 a0_1 a0_2 a0_3 a0_4 a0_5 a1 true _ A8.out).mono ?_); rintro e w21 ⟨rfl, hb⟩; refine ⟨_, rfl, ?_⟩; have n0_ := Aside0.mk (bB (bX_ BK116.out) hb); have n1_ := Aside0.mk (wT (bS1_ GE116.out) hb); clear BK116; clear HB; have BK116 := n0_; have HB := n1_; clear n0_ n1_; (try clear hb); (try clear hb2); (try clear hk); (try clear hi); have hcz22_0 := cz_ BK116.out 0; have hcz22_1 := cz_ BK116.out 1; have hcz22_2 := cz_ BK116.out 2; have hcz22_3 := cz_ BK116.out 3; have hcz22_4 := cz_ BK116.out 4; have hcz22_5 := cz_ BK116.out 5; have hfz22_0 := bF BK116.out 0; have hfz22_1 := bF BK116.out 1; have hfz22_2 := bF BK116.out 2; have hfz22_3 := bF BK116.out 3; have hfz22_4 := bF BK116.out 4; have hfz22_5 := bF BK116.out 5))
      go_ret2
      exact ⟨by first | rfl | (simp [errW_none, errW_some] <;> rfl) | (simp [*, errW_none, errW_some] <;> rfl), by repeat (first | (with_reducible first | exact HB.out | apply wA | apply wN | apply w1 | refine wS ?_ GE116.out) | exact HB.out)⟩
   ·replace c9 := Bool.eq_false_iff.mpr c9
    subst c9
    have H1 : (some (x2_4, a3)) = some (r1, r2) := by rw [if_neg (show ¬ (false = true) by decide)] at H; exact H
    clear H
    have H := H1
    clear H1
    simp only [Option.some.injEq, Prod.mk.injEq] at H
    obtain ⟨rfl, rfl⟩ := H
    have hcz23_0 := cz_ BK116.out 0
    have hcz23_1 := cz_ BK116.out 1
    have hcz23_2 := cz_ BK116.out 2
    have hcz23_3 := cz_ BK116.out 3
    have hcz23_4 := cz_ BK116.out 4
    have hcz23_5 := cz_ BK116.out 5
    have hfz23_0 := bF BK116.out 0
    have hfz23_1 := bF BK116.out 1
    have hfz23_2 := bF BK116.out 2
    have hfz23_3 := bF BK116.out 3
    have hfz23_4 := bF BK116.out 4
    have hfz23_5 := bF BK116.out 5
    go_wp2_with (first | ((with_reducible refine gate_callee (f := 110) rfl ?_); refine goesL_ (some 14) rfl rfl Try.func110 (by kernel_rfl) rfl #[.agg #[.int .u8 a0_0, .int .i64 a0_1, .string a0_2, .string a0_3, .string a0_4, .int .u64 a0_5], .string a1] rfl mS_ ?_; (with_reducible refine (catchmentref04_Touches.calls a0_0 a0_1 a0_2 a0_3 a0_4 a0_5 a1 false _ A8.out).mono ?_); rintro e w24 ⟨rfl, hb⟩; refine ⟨_, rfl, ?_⟩; have n0_ := Aside0.mk (bB (bX_ BK116.out) hb); have n1_ := Aside0.mk (wT (bS1_ GE116.out) hb); clear BK116; clear HB; have BK116 := n0_; have HB := n1_; clear n0_ n1_; (try clear hb); (try clear hb2); (try clear hk); (try clear hi)))
    go_ret2
    exact ⟨by first | rfl | (simp [errW_none, errW_some] <;> rfl) | (simp [*, errW_none, errW_some] <;> rfl), by repeat (first | (with_reducible first | exact HB.out | apply wA | apply wN | apply w1 | refine wS ?_ GE116.out) | exact HB.out)⟩
end Go.Proofs.Ytebejadiaooooaa.P
end
