/- Texts of one claim (laid by shake.py). -/
import Derived.Test.YtebejadiaooooaaZs4
import Derived.Test.YtebejadiaooooaaZs10
set_option linter.unusedVariables false
set_option linter.unusedSimpArgs false
section
namespace Go.Proofs.Ytebejadiaooooaa.P
open Go.RowKit Go.Proofs.YtebejadiaooooaaW.PrintWords Go.Proofs.YtebejadiaooooaaW.PrintLast Go.Proofs.YtebejadiaooooaaW.PrintMore Go.Proofs.Ytebejadiaooooaa.Own
open Bool renaming true → YY, false → ZZ
open Go.Proofs.YtebejadiaooooaaW.PrintWords renaming blk_cell → bC, blk_frozen → bF, blk_drewN → bN, blk_alloc → bA, pw_below_drewN → wN, blk_drew → bD, below_drew1 → w1, below_set → wS, below_alloc → wA, blk_below → bB, below_step → wT, below_size → wZ, cell_far → cF, blk_far → bR, blk_put → bP
open List renaming setIfInBounds_toArray → sA1, set_cons_zero → sA2, set_cons_succ → sA3, map_toArray → mA1, map_cons → mA2, map_nil → mA3, length_take → mA4, length_drop → mA5
attribute [local go_sem] max2_str max2_int min2_int max_two min_two max_three min_three max_four min_four   -- for this text's walks alone
def key_Holds.f (a0_0 : BA) (a0_1 : BA) (a1 : BA) : Option (Bool) := if ((Op.bytesLess a1.toList a0_0.toList) = true) then (some false) else ((key_ahead.f a1 a0_1).bind fun t337 => (some t337))
set_option maxHeartbeats 8000000 in
set_option maxRecDepth 100000 in
theorem key_Holds.calls (a0_0 : BA) (a0_1 : BA) (a1 : BA) (r : Bool) (w : World) (h : key_Holds.f a0_0 a0_1 a1 = some r) :
  Calls Try.prog 56 #[.agg #[.string a0_0, .string a0_1], .string a1] w fun e w' => e = .returned (.bool r) ∧ Below w.heap.size w w' := by
 have hu28 := Try.underlying28
 have HB := Aside0.mk (Below.refl w.heap.size w)
 have H : (if ((Op.bytesLess a1.toList a0_0.toList) = true) then (some false) else ((key_ahead.f a1 a0_1).bind fun t337 => (some t337))) = some r := h
 clear h
 by_cases c3 : ((Op.bytesLess a1.toList a0_0.toList) = true)
 ·rw [if_pos c3] at H
  have c3b0 : (Op.bytesLess a1.toList a0_0.toList) = true := c3
  clear c3
  obtain rfl := Option.some.inj H
  go_enter Try.func56, Try.ntmps56
  go_wp2_with (first | ((with_reducible refine gate_dst (N := 2) rfl ?_); refine box_event ?hg (N := 2) ?hd (cs := #[.string a0_0, .string a0_1]) (t := 28) ?hr ?_; (case hd => rfl); (case hg => rfl); (case hr => first | (go_simp; done) | (go_simp; rfl)); intro gb336 hg w4 hbox hb; have n0_ := Aside0.mk (wT bW_ hb); have n1_ := Aside0.mk (hbox); have n2_ := Aside0.mk ((by rw [hg]; exact (wZ bW_) : w.heap.size ≤ gb336)); have n3_ := n2_; clear HB; have HB := n0_; have BK336 := n1_; have GW336 := n2_; have GE336 := n3_; clear n0_ n1_ n2_ n3_; clear hb hbox hg; have hcz5_0 := cz_ BK336.out 0; have hcz5_1 := cz_ BK336.out 1; have hfz5_0 := bF BK336.out 0; have hfz5_1 := bF BK336.out 1))
  go_ret
  exact ⟨by first | rfl | (simp [errW_none, errW_some] <;> rfl) | (simp [*, errW_none, errW_some] <;> rfl), by repeat (first | (with_reducible first | exact HB.out | apply wA | apply wN | apply w1 | refine wS ?_ GE336.out) | exact HB.out)⟩
 ·rw [if_neg c3] at H
  have c3b0 : (Op.bytesLess a1.toList a0_0.toList) = false := by simpa using c3
  clear c3
  replace H := Option.bind_eq_some_iff.mp H
  obtain ⟨t337, A60, H⟩ := H
  replace H : (some t337) = some r := H
  have A6 := Aside0.mk A60
  clear A60
  obtain rfl := Option.some.inj H
  go_enter Try.func56, Try.ntmps56
  go_wp2_with (first | ((with_reducible refine gate_dst (N := 2) rfl ?_); refine box_event ?hg (N := 2) ?hd (cs := #[.string a0_0, .string a0_1]) (t := 28) ?hr ?_; (case hd => rfl); (case hg => rfl); (case hr => first | (go_simp; done) | (go_simp; rfl)); intro gb336 hg w7 hbox hb; have n0_ := Aside0.mk (wT bW_ hb); have n1_ := Aside0.mk (hbox); have n2_ := Aside0.mk ((by rw [hg]; exact (wZ bW_) : w.heap.size ≤ gb336)); have n3_ := n2_; clear HB; have HB := n0_; have BK336 := n1_; have GW336 := n2_; have GE336 := n3_; clear n0_ n1_ n2_ n3_; clear hb hbox hg; have hcz8_0 := cz_ BK336.out 0; have hcz8_1 := cz_ BK336.out 1; have hfz8_0 := bF BK336.out 0; have hfz8_1 := bF BK336.out 1) | (go_at_call 87; (with_reducible refine (key_ahead.calls a1 a0_1 t337 _ A6.out).mono ?_); rintro e w' ⟨rfl, ⟨nd, rfl⟩⟩))
  go_ret
  exact ⟨by first | rfl | (simp [errW_none, errW_some] <;> rfl) | (simp [*, errW_none, errW_some] <;> rfl), by repeat (first | (with_reducible first | exact HB.out | apply wA | apply wN | apply w1 | refine wS ?_ GE336.out) | exact HB.out)⟩
def msg_Touches.f (a0_0 : Int) (a0_1 : Int) (a0_2 : BA) (a0_3 : BA) (a0_4 : BA) (a0_5 : Int) (a1 : BA) : Option (Bool) := (msg_IsPoint.f a0_0 a0_1 a0_2 a0_3 a0_4 a0_5).bind fun t339 => (if t339 = true then (if a0_2.toList = a1.toList then (some true) else (if a0_0 = 4 then ((msg_Span.f a0_0 a0_1 a0_2 a0_3 a0_4 a0_5).bind fun bt340 => ((key_Holds.f bt340.1 bt340.2 a1).bind fun t342 => (some t342))) else (some false))) else (if a0_0 = 4 then ((msg_Span.f a0_0 a0_1 a0_2 a0_3 a0_4 a0_5).bind fun bt343 => ((key_Holds.f bt343.1 bt343.2 a1).bind fun t345 => (some t345))) else (some false)))
set_option maxHeartbeats 8000000 in
set_option maxRecDepth 100000 in
theorem msg_Touches.calls (a0_0 : Int) (a0_1 : Int) (a0_2 : BA) (a0_3 : BA) (a0_4 : BA) (a0_5 : Int) (a1 : BA) (r : Bool) (w : World) (h : msg_Touches.f a0_0 a0_1 a0_2 a0_3 a0_4 a0_5 a1 = some r) :
  Calls Try.prog 109 #[.agg #[.int .u8 a0_0, .int .i64 a0_1, .string a0_2, .string a0_3, .string a0_4, .int .u64 a0_5], .string a1] w fun e w' => e = .returned (.bool r) ∧ Below w.heap.size w w' := by
 have hu32 := Try.underlying32
 have HB := Aside0.mk (Below.refl w.heap.size w)
 have H : ((msg_IsPoint.f a0_0 a0_1 a0_2 a0_3 a0_4 a0_5).bind fun t339 => (if t339 = true then (if a0_2.toList = a1.toList then (some true) else (if a0_0 = 4 then ((msg_Span.f a0_0 a0_1 a0_2 a0_3 a0_4 a0_5).bind fun bt340 => ((key_Holds.f bt340.1 bt340.2 a1).bind fun t342 => (some t342))) else (some false))) else (if a0_0 = 4 then ((msg_Span.f a0_0 a0_1 a0_2 a0_3 a0_4 a0_5).bind fun bt343 => ((key_Holds.f bt343.1 bt343.2 a1).bind fun t345 => (some t345))) else (some false)))) = some r := h
 clear h
 replace H := Option.bind_eq_some_iff.mp H
 obtain ⟨t339, A30, H⟩ := H
 replace H : (if t339 = true then (if a0_2.toList = a1.toList then (some true) else (if a0_0 = 4 then ((msg_Span.f a0_0 a0_1 a0_2 a0_3 a0_4 a0_5).bind fun bt340 => ((key_Holds.f bt340.1 bt340.2 a1).bind fun t342 => (some t342))) else (some false))) else (if a0_0 = 4 then ((msg_Span.f a0_0 a0_1 a0_2 a0_3 a0_4 a0_5).bind fun bt343 => ((key_Holds.f bt343.1 bt343.2 a1).bind fun t345 => (some t345))) else (some false))) = some r := H
 have A3 := Aside0.mk A30
 clear A30
 by_cases c4 : t339 = true
 ·subst c4
  have H1 : (if a0_2.toList = a1.toList then (some true) else (if a0_0 = 4 then ((msg_Span.f a0_0 a0_1 a0_2 a0_3 a0_4 a0_5).bind fun bt340 => ((key_Holds.f bt340.1 bt340.2 a1).bind fun t342 => (some t342))) else (some false))) = some r := by rw [if_pos rfl] at H; exact H
  clear H
  have H := H1
  clear H1
  by_cases c5 : a0_2.toList = a1.toList
  ·rw [if_pos c5] at H
   have c5b0 : (a0_2.toList == a1.toList) = true := beq_iff_eq.mpr c5
   have c5b1 : (a0_2.toList != a1.toList) = false := bne_eq_false_iff_eq.mpr c5
   clear c5
   obtain rfl := Option.some.inj H
   go_enter Try.func109, Try.ntmps109
   go_wp2_with (first | ((with_reducible refine gate_dst (N := 2) rfl ?_); refine box_event ?hg (N := 2) ?hd (cs := #[.int .u8 a0_0, .int .i64 a0_1, .string a0_2, .string a0_3, .string a0_4, .int .u64 a0_5]) (t := 32) ?hr ?_; (case hd => rfl); (case hg => rfl); (case hr => first | (go_simp; done) | (go_simp; rfl)); intro gb338 hg w6 hbox hb; have n0_ := Aside0.mk (wT bW_ hb); have n1_ := Aside0.mk (hbox); have n2_ := Aside0.mk ((by rw [hg]; exact (wZ bW_) : w.heap.size ≤ gb338)); have n3_ := n2_; clear HB; have HB := n0_; have BK338 := n1_; have GW338 := n2_; have GE338 := n3_; clear n0_ n1_ n2_ n3_; clear hb hbox hg; have hcz7_0 := cz_ BK338.out 0; have hcz7_1 := cz_ BK338.out 1; have hcz7_2 := cz_ BK338.out 2; have hcz7_3 := cz_ BK338.out 3; have hcz7_4 := cz_ BK338.out 4; have hcz7_5 := cz_ BK338.out 5; have hfz7_0 := bF BK338.out 0; have hfz7_1 := bF BK338.out 1; have hfz7_2 := bF BK338.out 2; have hfz7_3 := bF BK338.out 3; have hfz7_4 := bF BK338.out 4; have hfz7_5 := bF BK338.out 5) | ((with_reducible refine gate_callee (f := 55) rfl ?_); refine goesL_ (some 6) rfl rfl Try.func55 (by kernel_rfl) rfl #[.agg #[.int .u8 a0_0, .int .i64 a0_1, .string a0_2, .string a0_3, .string a0_4, .int .u64 a0_5]] rfl mS_ ?_; (with_reducible refine (msg_IsPoint.calls a0_0 a0_1 a0_2 a0_3 a0_4 a0_5 true _ A3.out).mono ?_); rintro e w8 ⟨rfl, hb⟩; refine ⟨_, rfl, ?_⟩; have n0_ := Aside0.mk (bB (bX_ BK338.out) hb); have n1_ := Aside0.mk (wT (bS1_ GE338.out) hb); clear BK338; clear HB; have BK338 := n0_; have HB := n1_; clear n0_ n1_; (try clear hb); (try clear hb2); (try clear hk); (try clear hi); have hcz9_0 := cz_ BK338.out 0; have hcz9_1 := cz_ BK338.out 1; have hcz9_2 := cz_ BK338.out 2; have hcz9_3 := cz_ BK338.out 3; have hcz9_4 := cz_ BK338.out 4; have hcz9_5 := cz_ BK338.out 5; have hfz9_0 := bF BK338.out 0; have hfz9_1 := bF BK338.out 1; have hfz9_2 := bF BK338.out 2; have hfz9_3 := bF BK338.out 3; have hfz9_4 := bF BK338.out 4; have hfz9_5 := bF BK338.out 5))
   go_ret
   exact ⟨by first | rfl | (simp [errW_none, errW_some] <;> rfl) | (simp [*, errW_none, errW_some] <;> rfl), by repeat (first | (with_reducible first | exact HB.out | apply wA | apply wN | apply w1 | refine wS ?_ GE338.out) | exact HB.out)⟩
  ·rw [if_neg c5] at H
   have c5b0 : (a0_2.toList == a1.toList) = false := beq_eq_false_iff_ne.mpr c5
   have c5b1 : (a0_2.toList != a1.toList) = true := bne_iff_ne.mpr c5
   by_cases c10 : a0_0 = 4
   ·rw [if_pos c10] at H
    have c10b0 : (a0_0 == 4) = true := beq_iff_eq.mpr c10
    have c10b1 : (a0_0 != 4) = false := bne_eq_false_iff_eq.mpr c10
    clear c10
    replace H := Option.bind_eq_some_iff.mp H
    obtain ⟨⟨t340, t341⟩, A110, H⟩ := H
    replace H : ((key_Holds.f t340 t341 a1).bind fun t342 => (some t342)) = some r := H
    have A11 := Aside0.mk A110
    clear A110
    replace H := Option.bind_eq_some_iff.mp H
    obtain ⟨t342, A120, H⟩ := H
    replace H : (some t342) = some r := H
    have A12 := Aside0.mk A120
    clear A120
    obtain rfl := Option.some.inj H
    go_enter Try.func109, Try.ntmps109
    go_wp2_with (first | ((with_reducible refine gate_dst (N := 2) rfl ?_); refine box_event ?hg (N := 2) ?hd (cs := #[.int .u8 a0_0, .int .i64 a0_1, .string a0_2, .string a0_3, .string a0_4, .int .u64 a0_5]) (t := 32) ?hr ?_; (case hd => rfl); (case hg => rfl); (case hr => first | (go_simp; done) | (go_simp; rfl)); intro gb338 hg w13 hbox hb; have n0_ := Aside0.mk (wT bW_ hb); have n1_ := Aside0.mk (hbox); have n2_ := Aside0.mk ((by rw [hg]; exact (wZ bW_) : w.heap.size ≤ gb338)); have n3_ := n2_; clear HB; have HB := n0_; have BK338 := n1_; have GW338 := n2_; have GE338 := n3_; clear n0_ n1_ n2_ n3_; clear hb hbox hg; have hcz14_0 := cz_ BK338.out 0; have hcz14_1 := cz_ BK338.out 1; have hcz14_2 := cz_ BK338.out 2; have hcz14_3 := cz_ BK338.out 3; have hcz14_4 := cz_ BK338.out 4; have hcz14_5 := cz_ BK338.out 5; have hfz14_0 := bF BK338.out 0; have hfz14_1 := bF BK338.out 1; have hfz14_2 := bF BK338.out 2; have hfz14_3 := bF BK338.out 3; have hfz14_4 := bF BK338.out 4; have hfz14_5 := bF BK338.out 5) | ((with_reducible refine gate_callee (f := 55) rfl ?_); refine goesL_ (some 6) rfl rfl Try.func55 (by kernel_rfl) rfl #[.agg #[.int .u8 a0_0, .int .i64 a0_1, .string a0_2, .string a0_3, .string a0_4, .int .u64 a0_5]] rfl mS_ ?_; (with_reducible refine (msg_IsPoint.calls a0_0 a0_1 a0_2 a0_3 a0_4 a0_5 true _ A3.out).mono ?_); rintro e w15 ⟨rfl, hb⟩; refine ⟨_, rfl, ?_⟩; have n0_ := Aside0.mk (bB (bX_ BK338.out) hb); have n1_ := Aside0.mk (wT (bS1_ GE338.out) hb); clear BK338; clear HB; have BK338 := n0_; have HB := n1_; clear n0_ n1_; (try clear hb); (try clear hb2); (try clear hk); (try clear hi); have hcz16_0 := cz_ BK338.out 0; have hcz16_1 := cz_ BK338.out 1; have hcz16_2 := cz_ BK338.out 2; have hcz16_3 := cz_ BK338.out 3; have hcz16_4 := cz_ BK338.out 4; have hcz16_5 := cz_ BK338.out 5; have hfz16_0 := bF BK338.out 0; have hfz16_1 := bF BK338.out 1; have hfz16_2 := bF BK338.out 2; have hfz16_3 := bF BK338.out 3; have hfz16_4 := bF BK338.out 4; have hfz16_5 := bF BK338.out 5) | (go_at_call 58; (with_reducible refine (msg_Span.calls a0_0 a0_1 a0_2 a0_3 a0_4 a0_5 t340 t341 _ A11.out).mono ?_); rintro e w17 ⟨rfl, hb⟩; have n0_ := Aside0.mk (bB (bX_ BK338.out) hb); have n1_ := Aside0.mk (wT (bS1_ GE338.out) hb); clear BK338; clear HB; have BK338 := n0_; have HB := n1_; clear n0_ n1_; (try clear hb); (try clear hb2); (try clear hk); (try clear hi)) | (go_at_call 56; (with_reducible refine (key_Holds.calls t340 t341 a1 t342 _ A12.out).mono ?_); rintro e w18 ⟨rfl, hb⟩; have n0_ := Aside0.mk (bB (bX_ BK338.out) hb); have n1_ := Aside0.mk (wT (bS1_ GE338.out) hb); clear BK338; clear HB; have BK338 := n0_; have HB := n1_; clear n0_ n1_; (try clear hb); (try clear hb2); (try clear hk); (try clear hi)))
    go_ret
    exact ⟨by first | rfl | (simp [errW_none, errW_some] <;> rfl) | (simp [*, errW_none, errW_some] <;> rfl), by repeat (first | (with_reducible first | exact HB.out | apply wA | apply wN | apply w1 | refine wS ?_ GE338.out) | exact HB.out)⟩
   ·rw [if_neg c10] at H
    have c10b0 : (a0_0 == 4) = false := beq_eq_false_iff_ne.mpr c10
    have c10b1 : (a0_0 != 4) = true := bne_iff_ne.mpr c10
    obtain rfl := Option.some.inj H
    go_enter Try.func109, Try.ntmps109
    go_wp2_with (first | ((with_reducible refine gate_dst (N := 2) rfl ?_); refine box_event ?hg (N := 2) ?hd (cs := #[.int .u8 a0_0, .int .i64 a0_1, .string a0_2, .string a0_3, .string a0_4, .int .u64 a0_5]) (t := 32) ?hr ?_; (case hd => rfl); (case hg => rfl); (case hr => first | (go_simp; done) | (go_simp; rfl)); intro gb338 hg w19 hbox hb; have n0_ := Aside0.mk (wT bW_ hb); have n1_ := Aside0.mk (hbox); have n2_ := Aside0.mk ((by rw [hg]; exact (wZ bW_) : w.heap.size ≤ gb338)); have n3_ := n2_; clear HB; have HB := n0_; have BK338 := n1_; have GW338 := n2_; have GE338 := n3_; clear n0_ n1_ n2_ n3_; clear hb hbox hg; have hcz20_0 := cz_ BK338.out 0; have hcz20_1 := cz_ BK338.out 1; have hcz20_2 := cz_ BK338.out 2; have hcz20_3 := cz_ BK338.out 3; have hcz20_4 := cz_ BK338.out 4; have hcz20_5 := cz_ BK338.out 5; have hfz20_0 := bF BK338.out 0; have hfz20_1 := bF BK338.out 1; have hfz20_2 := bF BK338.out 2; have hfz20_3 := bF BK338.out 3; have hfz20_4 := bF BK338.out 4; have hfz20_5 := bF BK338.out 5) | ((with_reducible refine gate_callee (f := 55) rfl ?_); refine goesL_ (some 6) rfl rfl Try.func55 (by kernel_rfl) rfl #[.agg #[.int .u8 a0_0, .int .i64 a0_1, .string a0_2, .string a0_3, .string a0_4, .int .u64 a0_5]] rfl mS_ ?_; (with_reducible refine (msg_IsPoint.calls a0_0 a0_1 a0_2 a0_3 a0_4 a0_5 true _ A3.out).mono ?_); rintro e w21 ⟨rfl, hb⟩; refine ⟨_, rfl, ?_⟩; have n0_ := Aside0.mk (bB (bX_ BK338.out) hb); have n1_ := Aside0.mk (wT (bS1_ GE338.out) hb); clear BK338; clear HB; have BK338 := n0_; have HB := n1_; clear n0_ n1_; (try clear hb); (try clear hb2); (try clear hk); (try clear hi); have hcz22_0 := cz_ BK338.out 0; have hcz22_1 := cz_ BK338.out 1; have hcz22_2 := cz_ BK338.out 2; have hcz22_3 := cz_ BK338.out 3; have hcz22_4 := cz_ BK338.out 4; have hcz22_5 := cz_ BK338.out 5; have hfz22_0 := bF BK338.out 0; have hfz22_1 := bF BK338.out 1; have hfz22_2 := bF BK338.out 2; have hfz22_3 := bF BK338.out 3; have hfz22_4 := bF BK338.out 4; have hfz22_5 := bF BK338.out 5))
    go_ret
    exact ⟨by first | rfl | (simp [errW_none, errW_some] <;> rfl) | (simp [*, errW_none, errW_some] <;> rfl), by repeat (first | (with_reducible first | exact HB.out | apply wA | apply wN | apply w1 | refine wS ?_ GE338.out) | exact HB.out)⟩
 ·replace c4 := Bool.eq_false_iff.mpr c4
  subst c4
  have H1 : (if a0_0 = 4 then ((msg_Span.f a0_0 a0_1 a0_2 a0_3 a0_4 a0_5).bind fun bt343 => ((key_Holds.f bt343.1 bt343.2 a1).bind fun t345 => (some t345))) else (some false)) = some r := by rw [if_neg (show ¬ (false = true) by decide)] at H; exact H
  clear H
  have H := H1
  clear H1
  by_cases c23 : a0_0 = 4
  ·rw [if_pos c23] at H
   have c23b0 : (a0_0 == 4) = true := beq_iff_eq.mpr c23
   have c23b1 : (a0_0 != 4) = false := bne_eq_false_iff_eq.mpr c23
   clear c23
   replace H := Option.bind_eq_some_iff.mp H
   obtain ⟨⟨t343, t344⟩, A240, H⟩ := H
   replace H : ((key_Holds.f t343 t344 a1).bind fun t345 => (some t345)) = some r := H
   have A24 := Aside0.mk A240
   clear A240
   replace H := Option.bind_eq_some_iff.mp H
   obtain ⟨t345, A250, H⟩ := H
   replace H : (some t345) = some r := H
   have A25 := Aside0.mk A250
   clear A250
   obtain rfl := Option.some.inj H
   go_enter Try.func109, Try.ntmps109
   go_wp2_with (first | ((with_reducible refine gate_dst (N := 2) rfl ?_); refine box_event ?hg (N := 2) ?hd (cs := #[.int .u8 a0_0, .int .i64 a0_1, .string a0_2, .string a0_3, .string a0_4, .int .u64 a0_5]) (t := 32) ?hr ?_; (case hd => rfl); (case hg => rfl); (case hr => first | (go_simp; done) | (go_simp; rfl)); intro gb338 hg w26 hbox hb; have n0_ := Aside0.mk (wT bW_ hb); have n1_ := Aside0.mk (hbox); have n2_ := Aside0.mk ((by rw [hg]; exact (wZ bW_) : w.heap.size ≤ gb338)); have n3_ := n2_; clear HB; have HB := n0_; have BK338 := n1_; have GW338 := n2_; have GE338 := n3_; clear n0_ n1_ n2_ n3_; clear hb hbox hg; have hcz27_0 := cz_ BK338.out 0; have hcz27_1 := cz_ BK338.out 1; have hcz27_2 := cz_ BK338.out 2; have hcz27_3 := cz_ BK338.out 3; have hcz27_4 := cz_ BK338.out 4; have hcz27_5 := cz_ BK338.out 5; have hfz27_0 := bF BK338.out 0; have hfz27_1 := bF BK338.out 1; have hfz27_2 := bF BK338.out 2; have hfz27_3 := bF BK338.out 3; have hfz27_4 := bF BK338.out 4; have hfz27_5 := bF BK338.out 5) | ((with_reducible refine gate_callee (f := 55) rfl ?_); refine goesL_ (some 6) rfl rfl Try.func55 (by kernel_rfl) rfl #[.agg #[.int .u8 a0_0, .int .i64 a0_1, .string a0_2, .string a0_3, .string a0_4, .int .u64 a0_5]] rfl mS_ ?_; (with_reducible refine (msg_IsPoint.calls a0_0 a0_1 a0_2 a0_3 a0_4 a0_5 false _ A3.out).mono ?_); rintro e w28 ⟨rfl, hb⟩; refine ⟨_, rfl, ?_⟩; have n0_ := Aside0.mk (bB (bX_ BK338.out) hb); have n1_ := Aside0.mk (wT (bS1_ GE338.out) hb); clear BK338; clear HB; have BK338 := n0_; have HB := n1_; clear n0_ n1_; (try clear hb); (try clear hb2); (try clear hk); (try clear hi); have hcz29_0 := cz_ BK338.out 0; have hcz29_1 := cz_ BK338.out 1; have hcz29_2 := cz_ BK338.out 2; have hcz29_3 := cz_ BK338.out 3; have hcz29_4 := cz_ BK338.out 4; have hcz29_5 := cz_ BK338.out 5; have hfz29_0 := bF BK338.out 0; have hfz29_1 := bF BK338.out 1; have hfz29_2 := bF BK338.out 2; have hfz29_3 := bF BK338.out 3; have hfz29_4 := bF BK338.out 4; have hfz29_5 := bF BK338.out 5) | (go_at_call 58; (with_reducible refine (msg_Span.calls a0_0 a0_1 a0_2 a0_3 a0_4 a0_5 t343 t344 _ A24.out).mono ?_); rintro e w30 ⟨rfl, hb⟩; have n0_ := Aside0.mk (bB (bX_ BK338.out) hb); have n1_ := Aside0.mk (wT (bS1_ GE338.out) hb); clear BK338; clear HB; have BK338 := n0_; have HB := n1_; clear n0_ n1_; (try clear hb); (try clear hb2); (try clear hk); (try clear hi)) | (go_at_call 56; (with_reducible refine (key_Holds.calls t343 t344 a1 t345 _ A25.out).mono ?_); rintro e w31 ⟨rfl, hb⟩; have n0_ := Aside0.mk (bB (bX_ BK338.out) hb); have n1_ := Aside0.mk (wT (bS1_ GE338.out) hb); clear BK338; clear HB; have BK338 := n0_; have HB := n1_; clear n0_ n1_; (try clear hb); (try clear hb2); (try clear hk); (try clear hi)))
   go_ret
   exact ⟨by first | rfl | (simp [errW_none, errW_some] <;> rfl) | (simp [*, errW_none, errW_some] <;> rfl), by repeat (first | (with_reducible first | exact HB.out | apply wA | apply wN | apply w1 | refine wS ?_ GE338.out) | exact HB.out)⟩
  ·rw [if_neg c23] at H
   have c23b0 : (a0_0 == 4) = false := beq_eq_false_iff_ne.mpr c23
   have c23b1 : (a0_0 != 4) = true := bne_iff_ne.mpr c23
   obtain rfl := Option.some.inj H
   go_enter Try.func109, Try.ntmps109
   go_wp2_with (first | ((with_reducible refine gate_dst (N := 2) rfl ?_); refine box_event ?hg (N := 2) ?hd (cs := #[.int .u8 a0_0, .int .i64 a0_1, .string a0_2, .string a0_3, .string a0_4, .int .u64 a0_5]) (t := 32) ?hr ?_; (case hd => rfl); (case hg => rfl); (case hr => first | (go_simp; done) | (go_simp; rfl)); intro gb338 hg w32 hbox hb; have n0_ := Aside0.mk (wT bW_ hb); have n1_ := Aside0.mk (hbox); have n2_ := Aside0.mk ((by rw [hg]; exact (wZ bW_) : w.heap.size ≤ gb338)); have n3_ := n2_; clear HB; have HB := n0_; have BK338 := n1_; have GW338 := n2_; have GE338 := n3_; clear n0_ n1_ n2_ n3_; clear hb hbox hg; have hcz33_0 := cz_ BK338.out 0; have hcz33_1 := cz_ BK338.out 1; have hcz33_2 := cz_ BK338.out 2; have hcz33_3 := cz_ BK338.out 3; have hcz33_4 := cz_ BK338.out 4; have hcz33_5 := cz_ BK338.out 5; have hfz33_0 := bF BK338.out 0; have hfz33_1 := bF BK338.out 1; have hfz33_2 := bF BK338.out 2; have hfz33_3 := bF BK338.out 3; have hfz33_4 := bF BK338.out 4; have hfz33_5 := bF BK338.out 5) | ((with_reducible refine gate_callee (f := 55) rfl ?_); refine goesL_ (some 6) rfl rfl Try.func55 (by kernel_rfl) rfl #[.agg #[.int .u8 a0_0, .int .i64 a0_1, .string a0_2, .string a0_3, .string a0_4, .int .u64 a0_5]] rfl mS_ ?_; (with_reducible refine (msg_IsPoint.calls a0_0 a0_1 a0_2 a0_3 a0_4 a0_5 false _ A3.out).mono ?_); rintro e w34 ⟨rfl, hb⟩; refine ⟨_, rfl, ?_⟩; have n0_ := Aside0.mk (bB (bX_ BK338.out) hb); have n1_ := Aside0.mk (wT (bS1_ GE338.out) hb); clear BK338; clear HB; have BK338 := n0_; have HB := n1_; clear n0_ n1_; (try clear hb); (try clear hb2); (try clear hk); (try clear hi); have hcz35_0 := cz_ BK338.out 0; have hcz35_1 := cz_ BK338.out 1; have hcz35_2 := cz_ BK338.out 2; have hcz35_3 := cz_ BK338.out 3; have hcz35_4 := cz_ BK338.out 4; have hcz35_5 := cz_ BK338.out 5; have hfz35_0 := bF BK338.out 0; have hfz35_1 := bF BK338.out 1; have hfz35_2 := bF BK338.out 2; have hfz35_3 := bF BK338.out 3; have hfz35_4 := bF BK338.out 4; have hfz35_5 := bF BK338.out 5))
   go_ret
   exact ⟨by first | rfl | (simp [errW_none, errW_some] <;> rfl) | (simp [*, errW_none, errW_some] <;> rfl), by repeat (first | (with_reducible first | exact HB.out | apply wA | apply wN | apply w1 | refine wS ?_ GE338.out) | exact HB.out)⟩
def msg_On.f (k : Nat) (a0_0 : Int) (a0_1 : Int) (a0_2 : BA) (a0_3 : BA) (a0_4 : BA) (a0_5 : Int) (a1 : BA) (a2 : BA) (a3 : Bool) : Option (ByteArray × Bool) := (msg_Touches.f a0_0 a0_1 a0_2 a0_3 a0_4 a0_5 a1).bind fun t347 => (if t347 = true then ((msg_Apply.f k a0_0 a0_1 a0_2 a0_3 a0_4 a0_5 a2 a3).bind fun bt348 => (some (bt348.1, bt348.2))) else ((msg_Apply.f k 0 0 (⟨#[]⟩ : BA) (⟨#[]⟩ : BA) (⟨#[]⟩ : BA) 0 a2 a3).bind fun bt350 => (some (bt350.1, bt350.2))))
set_option maxHeartbeats 8000000 in
set_option maxRecDepth 100000 in
theorem msg_On.calls (k : Nat) (a0_0 : Int) (a0_1 : Int) (a0_2 : BA) (a0_3 : BA) (a0_4 : BA) (a0_5 : Int) (a1 : BA) (a2 : BA) (a3 : Bool) (r1 : BA) (r2 : Bool) (w : World) (h : msg_On.f k a0_0 a0_1 a0_2 a0_3 a0_4 a0_5 a1 a2 a3 = some (r1, r2)) :
  Calls Try.prog 74 #[.agg #[.int .u8 a0_0, .int .i64 a0_1, .string a0_2, .string a0_3, .string a0_4, .int .u64 a0_5], .string a1, .string a2, .bool a3] w fun e w' => e = .returned (.tuple #[.string r1, .bool r2]) ∧ Below w.heap.size w w' := by
 have hu32 := Try.underlying32
 have HB := Aside0.mk (Below.refl w.heap.size w)
 have H : ((msg_Touches.f a0_0 a0_1 a0_2 a0_3 a0_4 a0_5 a1).bind fun t347 => (if t347 = true then ((msg_Apply.f k a0_0 a0_1 a0_2 a0_3 a0_4 a0_5 a2 a3).bind fun bt348 => (some (bt348.1, bt348.2))) else ((msg_Apply.f k 0 0 (⟨#[]⟩ : BA) (⟨#[]⟩ : BA) (⟨#[]⟩ : BA) 0 a2 a3).bind fun bt350 => (some (bt350.1, bt350.2))))) = some (r1, r2) := h
 clear h
 replace H := Option.bind_eq_some_iff.mp H
 obtain ⟨t347, A50, H⟩ := H
 replace H : (if t347 = true then ((msg_Apply.f k a0_0 a0_1 a0_2 a0_3 a0_4 a0_5 a2 a3).bind fun bt348 => (some (bt348.1, bt348.2))) else ((msg_Apply.f k 0 0 (⟨#[]⟩ : BA) (⟨#[]⟩ : BA) (⟨#[]⟩ : BA) 0 a2 a3).bind fun bt350 => (some (bt350.1, bt350.2)))) = some (r1, r2) := H
 have A5 := Aside0.mk A50
 clear A50
 by_cases c6 : t347 = true
 ·subst c6
  have H1 : ((msg_Apply.f k a0_0 a0_1 a0_2 a0_3 a0_4 a0_5 a2 a3).bind fun bt348 => (some (bt348.1, bt348.2))) = some (r1, r2) := by rw [if_pos rfl] at H; exact H
  clear H
  have H := H1
  clear H1
  replace H := Option.bind_eq_some_iff.mp H
  obtain ⟨⟨t348, t349⟩, A70, H⟩ := H
  replace H : (some (t348, t349)) = some (r1, r2) := H
  have A7 := Aside0.mk A70
  clear A70
  simp only [Option.some.injEq, Prod.mk.injEq] at H
  obtain ⟨rfl, rfl⟩ := H
  go_enter Try.func74, Try.ntmps74
  go_wp2_with (first | ((with_reducible refine gate_dst (N := 4) rfl ?_); refine box_event ?hg (N := 4) ?hd (cs := #[.int .u8 a0_0, .int .i64 a0_1, .string a0_2, .string a0_3, .string a0_4, .int .u64 a0_5]) (t := 32) ?hr ?_; (case hd => rfl); (case hg => rfl); (case hr => first | (go_simp; done) | (go_simp; rfl)); intro gb346 hg w8 hbox hb; have n0_ := Aside0.mk (wT bW_ hb); have n1_ := Aside0.mk (hbox); have n2_ := Aside0.mk ((by rw [hg]; exact (wZ bW_) : w.heap.size ≤ gb346)); have n3_ := n2_; clear HB; have HB := n0_; have BK346 := n1_; have GW346 := n2_; have GE346 := n3_; clear n0_ n1_ n2_ n3_; clear hb hbox hg; have hcz9_0 := cz_ BK346.out 0; have hcz9_1 := cz_ BK346.out 1; have hcz9_2 := cz_ BK346.out 2; have hcz9_3 := cz_ BK346.out 3; have hcz9_4 := cz_ BK346.out 4; have hcz9_5 := cz_ BK346.out 5; have hfz9_0 := bF BK346.out 0; have hfz9_1 := bF BK346.out 1; have hfz9_2 := bF BK346.out 2; have hfz9_3 := bF BK346.out 3; have hfz9_4 := bF BK346.out 4; have hfz9_5 := bF BK346.out 5) | ((with_reducible refine gate_callee (f := 109) rfl ?_); refine goesL_ (some 12) rfl rfl Try.func109 (by kernel_rfl) rfl #[.agg #[.int .u8 a0_0, .int .i64 a0_1, .string a0_2, .string a0_3, .string a0_4, .int .u64 a0_5], .string a1] rfl mS_ ?_; (with_reducible refine (msg_Touches.calls a0_0 a0_1 a0_2 a0_3 a0_4 a0_5 a1 true _ A5.out).mono ?_); rintro e w10 ⟨rfl, hb⟩; refine ⟨_, rfl, ?_⟩; have n0_ := Aside0.mk (bB (bX_ BK346.out) hb); have n1_ := Aside0.mk (wT (bS1_ GE346.out) hb); clear BK346; clear HB; have BK346 := n0_; have HB := n1_; clear n0_ n1_; (try clear hb); (try clear hb2); (try clear hk); (try clear hi); have hcz11_0 := cz_ BK346.out 0; have hcz11_1 := cz_ BK346.out 1; have hcz11_2 := cz_ BK346.out 2; have hcz11_3 := cz_ BK346.out 3; have hcz11_4 := cz_ BK346.out 4; have hcz11_5 := cz_ BK346.out 5; have hfz11_0 := bF BK346.out 0; have hfz11_1 := bF BK346.out 1; have hfz11_2 := bF BK346.out 2; have hfz11_3 := bF BK346.out 3; have hfz11_4 := bF BK346.out 4; have hfz11_5 := bF BK346.out 5) | ((with_reducible refine gate_callee (f := 73) rfl ?_); refine goesL_ (some 23) rfl rfl Try.func73 (by kernel_rfl) rfl #[.agg #[.int .u8 a0_0, .int .i64 a0_1, .string a0_2, .string a0_3, .string a0_4, .int .u64 a0_5], .string a2, .bool a3] rfl mS_ ?_; (with_reducible refine (msg_Apply.calls k a0_0 a0_1 a0_2 a0_3 a0_4 a0_5 a2 a3 t348 t349 _ A7.out).mono ?_); rintro e w12 ⟨rfl, hb⟩; refine ⟨_, rfl, ?_⟩; have n0_ := Aside0.mk (bB (bX_ BK346.out) hb); have n1_ := Aside0.mk (wT (bS1_ GE346.out) hb); clear BK346; clear HB; have BK346 := n0_; have HB := n1_; clear n0_ n1_; (try clear hb); (try clear hb2); (try clear hk); (try clear hi)))
  go_ret2
  exact ⟨by first | rfl | (simp [errW_none, errW_some] <;> rfl) | (simp [*, errW_none, errW_some] <;> rfl), by repeat (first | (with_reducible first | exact HB.out | apply wA | apply wN | apply w1 | refine wS ?_ GE346.out) | exact HB.out)⟩
 ·replace c6 := Bool.eq_false_iff.mpr c6
  subst c6
  have H1 : ((msg_Apply.f k 0 0 (⟨#[]⟩ : BA) (⟨#[]⟩ : BA) (⟨#[]⟩ : BA) 0 a2 a3).bind fun bt350 => (some (bt350.1, bt350.2))) = some (r1, r2) := by rw [if_neg (show ¬ (false = true) by decide)] at H; exact H
  clear H
  have H := H1
  clear H1
  replace H := Option.bind_eq_some_iff.mp H
  obtain ⟨⟨t350, t351⟩, A130, H⟩ := H
  replace H : (some (t350, t351)) = some (r1, r2) := H
  have A13 := Aside0.mk A130
  clear A130
  simp only [Option.some.injEq, Prod.mk.injEq] at H
  obtain ⟨rfl, rfl⟩ := H
  go_enter Try.func74, Try.ntmps74
  go_wp2_with (first | ((with_reducible refine gate_dst (N := 4) rfl ?_); refine box_event ?hg (N := 4) ?hd (cs := #[.int .u8 a0_0, .int .i64 a0_1, .string a0_2, .string a0_3, .string a0_4, .int .u64 a0_5]) (t := 32) ?hr ?_; (case hd => rfl); (case hg => rfl); (case hr => first | (go_simp; done) | (go_simp; rfl)); intro gb346 hg w14 hbox hb; have n0_ := Aside0.mk (wT bW_ hb); have n1_ := Aside0.mk (hbox); have n2_ := Aside0.mk ((by rw [hg]; exact (wZ bW_) : w.heap.size ≤ gb346)); have n3_ := n2_; clear HB; have HB := n0_; have BK346 := n1_; have GW346 := n2_; have GE346 := n3_; clear n0_ n1_ n2_ n3_; clear hb hbox hg; have hcz15_0 := cz_ BK346.out 0; have hcz15_1 := cz_ BK346.out 1; have hcz15_2 := cz_ BK346.out 2; have hcz15_3 := cz_ BK346.out 3; have hcz15_4 := cz_ BK346.out 4; have hcz15_5 := cz_ BK346.out 5; have hfz15_0 := bF BK346.out 0; have hfz15_1 := bF BK346.out 1; have hfz15_2 := bF BK346.out 2; have hfz15_3 := bF BK346.out 3; have hfz15_4 := bF BK346.out 4; have hfz15_5 := bF BK346.out 5) | ((with_reducible refine gate_callee (f := 109) rfl ?_); refine goesL_ (some 12) rfl rfl Try.func109 (by kernel_rfl) rfl #[.agg #[.int .u8 a0_0, .int .i64 a0_1, .string a0_2, .string a0_3, .string a0_4, .int .u64 a0_5], .string a1] rfl mS_ ?_; (with_reducible refine (msg_Touches.calls a0_0 a0_1 a0_2 a0_3 a0_4 a0_5 a1 false _ A5.out).mono ?_); rintro e w16 ⟨rfl, hb⟩; refine ⟨_, rfl, ?_⟩; have n0_ := Aside0.mk (bB (bX_ BK346.out) hb); have n1_ := Aside0.mk (wT (bS1_ GE346.out) hb); clear BK346; clear HB; have BK346 := n0_; have HB := n1_; clear n0_ n1_; (try clear hb); (try clear hb2); (try clear hk); (try clear hi)) | ((with_reducible refine gate_callee (f := 73) rfl ?_); refine goesL_ (some 17) rfl rfl Try.func73 (by kernel_rfl) rfl #[.agg #[.int .u8 0, .int .i64 0, .string (⟨#[]⟩ : BA), .string (⟨#[]⟩ : BA), .string (⟨#[]⟩ : BA), .int .u64 0], .string a2, .bool a3] rfl mS_ ?_; (with_reducible refine (msg_Apply.calls k 0 0 (⟨#[]⟩ : BA) (⟨#[]⟩ : BA) (⟨#[]⟩ : BA) 0 a2 a3 t350 t351 _ A13.out).mono ?_); rintro e w17 ⟨rfl, hb⟩; refine ⟨_, rfl, ?_⟩; have n0_ := Aside0.mk (bB (bX_ BK346.out) hb); have n1_ := Aside0.mk (wT (bS1_ GE346.out) hb); clear BK346; clear HB; have BK346 := n0_; have HB := n1_; clear n0_ n1_; (try clear hb); (try clear hb2); (try clear hk); (try clear hi)))
  go_ret2
  exact ⟨by first | rfl | (simp [errW_none, errW_some] <;> rfl) | (simp [*, errW_none, errW_some] <;> rfl), by repeat (first | (with_reducible first | exact HB.out | apply wA | apply wN | apply w1 | refine wS ?_ GE346.out) | exact HB.out)⟩
def fold_Value.l0 : Nat → ByteArray → ByteArray → Bool → List (S32) → Int → Int → Option (ByteArray × Bool)
 | 0, _, _, _, _, _, _ => none
 | k + 1, x1, x2, x3, x19, x20, x21 => if x21 < x20 then (if 0 ≤ x21 then (if x21 < (x19.length : Int) then ((msg_On.f k ((rd_T32 x19 x21).f0) ((rd_T32 x19 x21).f1) ((rd_T32 x19 x21).f2) ((rd_T32 x19 x21).f3) ((rd_T32 x19 x21).f4) ((rd_T32 x19 x21).f5) x1 x2 x3).bind fun bt356 => (fold_Value.l0 k x1 bt356.1 bt356.2 x19 x20 (wrap64 (x21 + 1)))) else (none)) else (none)) else (some (x2, x3))
def fold_Value.f (k : Nat) (l0 : List (S32)) (a1 : BA) (a2 : BA) (a3 : Bool) : Option (ByteArray × Bool) := (msg_Apply.f k 0 0 (⟨#[]⟩ : BA) (⟨#[]⟩ : BA) (⟨#[]⟩ : BA) 0 a2 a3).bind fun bt352 => (fold_Value.l0 k a1 bt352.1 bt352.2 l0 (l0.length : Int) 0)
set_option maxHeartbeats 8000000 in
set_option maxRecDepth 100000 in
theorem fold_Value.calls (k : Nat) (A0 : Option Addr) (c0 : Nat) (l0 : List (S32)) (a1 : BA) (a2 : BA) (a3 : Bool) (r1 : BA) (r2 : Bool) (w : World) (hr0 : Kd.C k32 w A0 l0.length l0) (hc0 : l0.length ≤ c0) (h : fold_Value.f k l0 a1 a2 a3 = some (r1, r2)) :
  Calls Try.prog 34 #[.slice A0 l0.length c0, .string a1, .string a2, .bool a3] w fun e w' => e = .returned (.tuple #[.string r1, .bool r2]) ∧ Below w.heap.size w w' := by
 have hu32 := Try.underlying32
 have HR0 := Aside0.mk hr0
 have HC0 := Aside0.mk hc0
 clear hr0 hc0
 have HB := Aside0.mk (Below.refl w.heap.size w)
 have H : ((msg_Apply.f k 0 0 (⟨#[]⟩ : BA) (⟨#[]⟩ : BA) (⟨#[]⟩ : BA) 0 a2 a3).bind fun bt352 => (fold_Value.l0 k a1 bt352.1 bt352.2 l0 (l0.length : Int) 0)) = some (r1, r2) := h
 clear h
 replace H := Option.bind_eq_some_iff.mp H
 obtain ⟨⟨t352, t353⟩, A50, H⟩ := H
 replace H : (fold_Value.l0 k a1 t352 t353 l0 (l0.length : Int) 0) = some (r1, r2) := H
 have A5 := Aside0.mk A50
 clear A50
 have H' := Aside0.mk H
 clear H
 go_enter Try.func34, Try.ntmps34
 go_wp2_with (first | ((with_reducible refine gate_callee (f := 73) rfl ?_); refine goesL_ (some 16) rfl rfl Try.func73 (by kernel_rfl) rfl #[.agg #[.int .u8 0, .int .i64 0, .string (⟨#[]⟩ : BA), .string (⟨#[]⟩ : BA), .string (⟨#[]⟩ : BA), .int .u64 0], .string a2, .bool a3] rfl mS_ ?_; (with_reducible refine (msg_Apply.calls k 0 0 (⟨#[]⟩ : BA) (⟨#[]⟩ : BA) (⟨#[]⟩ : BA) 0 a2 a3 t352 t353 _ A5.out).mono ?_); rintro e w6 ⟨rfl, hb⟩; refine ⟨_, rfl, ?_⟩; have n0_ := Aside0.mk (wT bW_ hb); clear HB; have HB := n0_; clear n0_; (try clear hb); (try clear hb2); (try clear hk); (try clear hi)))
 go_loopg [2, 3, 21] k (fun kq v2 v3 v21 w' => ∃ (x2_1 : BA) (x3_1 : Bool) (x21_1 : Int), v2 = .string x2_1 ∧ v3 = .bool x3_1 ∧ v21 = .int .i64 x21_1 ∧ Aside0 (fold_Value.l0 kq a1 x2_1 x3_1 l0 (l0.length : Int) x21_1 = some (r1, r2)) ∧ Aside0 (kq ≤ k) ∧ Aside0 (Below w.heap.size w w'))
 case atStart => exact ⟨(t352), (t353), (0), (by first | rfl | (simp; done) | (simp [*]; done)), (by first | rfl | (simp; done) | (simp [*]; done)), (by first | rfl | (simp; done) | (simp [*]; done)), H', ⟨Nat.le_refl _⟩, ⟨by repeat (first | (with_reducible first | exact HB.out | apply wA | apply wN | apply w1) | exact HB.out)⟩⟩
 case round =>
  clear H'
  try clear p2
  try clear c3
  obtain ⟨x2_1, x3_1, x21_1, rfl, rfl, rfl, HA, HK1, HB⟩ := hrel
  cases gk with
  | zero => exact absurd HA.out (by simp [fold_Value.l0])
  | succ k1 =>
   have H := HA.out
   clear HA
   simp only [fold_Value.l0] at H
   by_cases c7 : x21_1 < (l0.length : Int)
   ·rw [if_pos c7] at H
    have c7b0 : decide (x21_1 < (l0.length : Int)) = true := decide_eq_true c7
    clear c7
    by_cases c8 : 0 ≤ x21_1
    ·rw [if_pos c8] at H
     have c8b0 : decide (0 ≤ x21_1) = true := decide_eq_true c8
     clear c8
     by_cases c9 : x21_1 < (l0.length : Int)
     ·rw [if_pos c9] at H
      have c9b0 : decide (x21_1 < (l0.length : Int)) = true := decide_eq_true c9
      clear c9
      replace H := Option.bind_eq_some_iff.mp H
      obtain ⟨⟨t356, t357⟩, A100, H⟩ := H
      replace H : (fold_Value.l0 k1 a1 t356 t357 l0 (l0.length : Int) (wrap64 (x21_1 + 1))) = some (r1, r2) := H
      have A10 := Aside0.mk A100
      clear A100
      have H' := Aside0.mk H
      clear H
      have p354 : 0 ≤ (x21_1 : Int) := of_decide_eq_true (by first | (with_reducible assumption) | assumption)
      have q354 : x21_1 < (l0.length : Int) := of_decide_eq_true (by first | (with_reducible assumption) | assumption)
      obtain ⟨ad354, e354, hx354_0, hx354_1, hx354_2, hx354_3, hx354_4, hx354_5⟩ := at_T32 HR0.out x21_1 p354 q354
      cases e354
      replace hx354_0 := (HB.out.cell (World.block_lt_of_cell? w _ hx354_0)).trans hx354_0
      replace hx354_1 := (HB.out.cell (World.block_lt_of_cell? w _ hx354_1)).trans hx354_1
      replace hx354_2 := (HB.out.cell (World.block_lt_of_cell? w _ hx354_2)).trans hx354_2
      replace hx354_3 := (HB.out.cell (World.block_lt_of_cell? w _ hx354_3)).trans hx354_3
      replace hx354_4 := (HB.out.cell (World.block_lt_of_cell? w _ hx354_4)).trans hx354_4
      replace hx354_5 := (HB.out.cell (World.block_lt_of_cell? w _ hx354_5)).trans hx354_5
      replace p354 := eq_true p354
      replace q354 := eq_true q354
      go_wp2_with (first | ((with_reducible refine gate_dst (N := 11) rfl ?_); refine box_event ?hg (N := 11) ?hd (cs := #[.int .u8 0, .int .i64 0, .string (⟨#[]⟩ : BA), .string (⟨#[]⟩ : BA), .string (⟨#[]⟩ : BA), .int .u64 0]) (t := 32) ?hr ?_; (case hd => rfl); (case hg => rfl); (case hr => first | (go_simp; done) | (go_simp; rfl)); intro gb355 hg w11 hbox hb; have n0_ := Aside0.mk (wT bW_ hb); have n1_ := Aside0.mk (hbox); have n2_ := Aside0.mk ((by rw [hg]; exact (wZ bW_) : w.heap.size ≤ gb355)); have n3_ := n2_; clear HB; have HB := n0_; have BK355 := n1_; have GW355 := n2_; have GE355 := n3_; clear n0_ n1_ n2_ n3_; clear hb hbox hg; have hcz12_0 := cz_ BK355.out 0; have hcz12_1 := cz_ BK355.out 1; have hcz12_2 := cz_ BK355.out 2; have hcz12_3 := cz_ BK355.out 3; have hcz12_4 := cz_ BK355.out 4; have hcz12_5 := cz_ BK355.out 5; have hfz12_0 := bF BK355.out 0; have hfz12_1 := bF BK355.out 1; have hfz12_2 := bF BK355.out 2; have hfz12_3 := bF BK355.out 3; have hfz12_4 := bF BK355.out 4; have hfz12_5 := bF BK355.out 5) | ((with_reducible refine gate_callee (f := 74) rfl ?_); refine goesL_ (some 30) rfl rfl Try.func74 (by kernel_rfl) rfl #[.agg #[.int .u8 ((rd_T32 l0 x21_1).f0), .int .i64 ((rd_T32 l0 x21_1).f1), .string ((rd_T32 l0 x21_1).f2), .string ((rd_T32 l0 x21_1).f3), .string ((rd_T32 l0 x21_1).f4), .int .u64 ((rd_T32 l0 x21_1).f5)], .string a1, .string x2_1, .bool x3_1] rfl mS_ ?_; (with_reducible refine (msg_On.calls k1 ((rd_T32 l0 x21_1).f0) ((rd_T32 l0 x21_1).f1) ((rd_T32 l0 x21_1).f2) ((rd_T32 l0 x21_1).f3) ((rd_T32 l0 x21_1).f4) ((rd_T32 l0 x21_1).f5) a1 x2_1 x3_1 t356 t357 _ A10.out).mono ?_); rintro e w13 ⟨rfl, hb⟩; refine ⟨_, rfl, ?_⟩; have n0_ := Aside0.mk (bB (g := gb355) (o := .cells #[.int .u8 ((rd_T32 l0 x21_1).f0), .int .i64 ((rd_T32 l0 x21_1).f1), .string ((rd_T32 l0 x21_1).f2), .string ((rd_T32 l0 x21_1).f3), .string ((rd_T32 l0 x21_1).f4), .int .u64 ((rd_T32 l0 x21_1).f5)] 32 (0, 0)) (by (with_reducible repeat (first | refine bN ?_ _ | refine bD ?_ | refine bA ?_ _)); refine bP (cs := #[.int .u8 ((rd_T32 l0 x21_1).f0), .int .i64 ((rd_T32 l0 x21_1).f1), .string ((rd_T32 l0 x21_1).f2), .string ((rd_T32 l0 x21_1).f3), .string ((rd_T32 l0 x21_1).f4), .int .u64 0]) ?_ 5 _ rfl; (with_reducible repeat (first | refine bN ?_ _ | refine bD ?_ | refine bA ?_ _)); refine bP (cs := #[.int .u8 ((rd_T32 l0 x21_1).f0), .int .i64 ((rd_T32 l0 x21_1).f1), .string ((rd_T32 l0 x21_1).f2), .string ((rd_T32 l0 x21_1).f3), .string (⟨#[]⟩ : BA), .int .u64 0]) ?_ 4 _ rfl; (with_reducible repeat (first | refine bN ?_ _ | refine bD ?_ | refine bA ?_ _)); refine bP (cs := #[.int .u8 ((rd_T32 l0 x21_1).f0), .int .i64 ((rd_T32 l0 x21_1).f1), .string ((rd_T32 l0 x21_1).f2), .string (⟨#[]⟩ : BA), .string (⟨#[]⟩ : BA), .int .u64 0]) ?_ 3 _ rfl; (with_reducible repeat (first | refine bN ?_ _ | refine bD ?_ | refine bA ?_ _)); refine bP (cs := #[.int .u8 ((rd_T32 l0 x21_1).f0), .int .i64 ((rd_T32 l0 x21_1).f1), .string (⟨#[]⟩ : BA), .string (⟨#[]⟩ : BA), .string (⟨#[]⟩ : BA), .int .u64 0]) ?_ 2 _ rfl; (with_reducible repeat (first | refine bN ?_ _ | refine bD ?_ | refine bA ?_ _)); refine bP (cs := #[.int .u8 ((rd_T32 l0 x21_1).f0), .int .i64 0, .string (⟨#[]⟩ : BA), .string (⟨#[]⟩ : BA), .string (⟨#[]⟩ : BA), .int .u64 0]) ?_ 1 _ rfl; (with_reducible repeat (first | refine bN ?_ _ | refine bD ?_ | refine bA ?_ _)); refine bP (cs := #[.int .u8 0, .int .i64 0, .string (⟨#[]⟩ : BA), .string (⟨#[]⟩ : BA), .string (⟨#[]⟩ : BA), .int .u64 0]) ?_ 0 _ rfl; (with_reducible repeat (first | refine bN ?_ _ | refine bD ?_ | refine bA ?_ _)); exact BK355.out) hb); have n1_ := Aside0.mk (wT (bS1_ GE355.out) hb); clear BK355; clear HB; have BK355 := n0_; have HB := n1_; clear n0_ n1_; (try clear hb); (try clear hb2); (try clear hk); (try clear hi)))
      go_roundg k1
      case measure => have := HK1.out; omega
      case rel => exact ⟨(t356), (t357), (wrap64 (x21_1 + 1)), (by first | rfl | (simp; done) | (simp [*]; done)), (by first | rfl | (simp; done) | (simp [*]; done)), (by first | rfl | (simp; done) | (simp [*]; done)), H', ⟨by have := HK1.out; omega⟩, ⟨by repeat (first | (with_reducible first | exact HB.out | apply wA | apply wN | apply w1 | refine wS ?_ GE355.out) | exact HB.out)⟩⟩
     ·rw [if_neg c9] at H
      exact absurd H (by simp)
    ·rw [if_neg c8] at H
     exact absurd H (by simp)
   ·rw [if_neg c7] at H
    have c7b0 : decide (x21_1 < (l0.length : Int)) = false := decide_eq_false c7
    clear c7
    simp only [Option.some.injEq, Prod.mk.injEq] at H
    obtain ⟨rfl, rfl⟩ := H
    go_wp2
    go_ret2
    exact ⟨eR_, bW_⟩
def key_RightRange.f (a0_0 : BA) (a0_1 : BA) : Option (Bool) := (key_ahead.f a0_0 a0_1).bind fun t383 => (some t383)
set_option maxHeartbeats 8000000 in
set_option maxRecDepth 100000 in
theorem key_RightRange.calls (a0_0 : BA) (a0_1 : BA) (r : Bool) (w : World) (h : key_RightRange.f a0_0 a0_1 = some r) :
  Calls Try.prog 53 #[.agg #[.string a0_0, .string a0_1]] w fun e w' => e = .returned (.bool r) ∧ Below w.heap.size w w' := by
 have hu28 := Try.underlying28
 have HB := Aside0.mk (Below.refl w.heap.size w)
 have H : ((key_ahead.f a0_0 a0_1).bind fun t383 => (some t383)) = some r := h
 clear h
 replace H := Option.bind_eq_some_iff.mp H
 obtain ⟨t383, A20, H⟩ := H
 replace H : (some t383) = some r := H
 have A2 := Aside0.mk A20
 clear A20
 obtain rfl := Option.some.inj H
 go_enter Try.func53, Try.ntmps53
 go_wp2_with (first | ((with_reducible refine gate_dst (N := 1) rfl ?_); refine box_event ?hg (N := 1) ?hd (cs := #[.string a0_0, .string a0_1]) (t := 28) ?hr ?_; (case hd => rfl); (case hg => rfl); (case hr => first | (go_simp; done) | (go_simp; rfl)); intro gb382 hg w3 hbox hb; have n0_ := Aside0.mk (wT bW_ hb); have n1_ := Aside0.mk (hbox); have n2_ := Aside0.mk ((by rw [hg]; exact (wZ bW_) : w.heap.size ≤ gb382)); have n3_ := n2_; clear HB; have HB := n0_; have BK382 := n1_; have GW382 := n2_; have GE382 := n3_; clear n0_ n1_ n2_ n3_; clear hb hbox hg; have hcz4_0 := cz_ BK382.out 0; have hcz4_1 := cz_ BK382.out 1; have hfz4_0 := bF BK382.out 0; have hfz4_1 := bF BK382.out 1) | ((with_reducible refine gate_callee (f := 87) rfl ?_); refine goesL_ (some 7) rfl rfl Try.func87 (by kernel_rfl) rfl #[.string a0_0, .string a0_1] rfl mS_ ?_; (with_reducible refine (key_ahead.calls a0_0 a0_1 t383 _ A2.out).mono ?_); rintro e w' ⟨rfl, ⟨nd, rfl⟩⟩; refine ⟨_, rfl, ?_⟩))
 go_ret
 exact ⟨by first | rfl | (simp [errW_none, errW_some] <;> rfl) | (simp [*, errW_none, errW_some] <;> rfl), by repeat (first | (with_reducible first | exact HB.out | apply wA | apply wN | apply w1 | refine wS ?_ GE382.out) | exact HB.out)⟩
end Go.Proofs.Ytebejadiaooooaa.P
end
section
namespace Go.Proofs.Ytebejadiaooooaa.P
open Go.RowKit Go.Proofs.YtebejadiaooooaaW.PrintWords Go.Proofs.YtebejadiaooooaaW.PrintLast Go.Proofs.YtebejadiaooooaaW.PrintMore Go.Proofs.Ytebejadiaooooaa.Own
open Bool renaming true → YY, false → ZZ
open Go.Proofs.YtebejadiaooooaaW.PrintWords renaming blk_cell → bC, blk_frozen → bF, blk_drewN → bN, blk_alloc → bA, pw_below_drewN → wN, blk_drew → bD, below_drew1 → w1, below_set → wS, below_alloc → wA, blk_below → bB, below_step → wT, below_size → wZ, cell_far → cF, blk_far → bR, blk_put → bP
open List renaming setIfInBounds_toArray → sA1, set_cons_zero → sA2, set_cons_succ → sA3, map_toArray → mA1, map_cons → mA2, map_nil → mA3, length_take → mA4, length_drop → mA5
attribute [local go_sem] max2_str max2_int min2_int max_two min_two max_three min_three max_four min_four   -- for this text's walks alone
end Go.Proofs.Ytebejadiaooooaa.P
end
