/- Texts of one claim (laid by shake.py). -/
import Derived.Test.YtebejadiaooooaaZy3
import Derived.Test.YtebejadiaooooaaZy4
import Derived.Test.YtebejadiaooooaaZy5
import Derived.Test.YtebejadiaooooaaZy8
set_option linter.unusedVariables false
set_option linter.unusedSimpArgs false
section
namespace Go.Proofs.Ytebejadiaooooaa.P
open Go.RowKit Go.Proofs.YtebejadiaooooaaW.PrintWords Go.Proofs.YtebejadiaooooaaW.PrintLast Go.Proofs.YtebejadiaooooaaW.PrintMore Go.Proofs.Ytebejadiaooooaa.Own
open Go.Proofs.YtebejadiaooooaaW.PrintWords renaming blk_cell → bC, blk_frozen → bF, blk_drewN → bN, blk_alloc → bA, pw_below_drewN → wN, blk_drew → bD, below_drew1 → w1, below_set → wS, below_alloc → wA, blk_below → bB, below_step → wT, below_size → wZ
open List renaming setIfInBounds_toArray → sA1, set_cons_zero → sA2, set_cons_succ → sA3, map_toArray → mA1, map_cons → mA2, map_nil → mA3, length_take → mA4, length_drop → mA5
attribute [local go_sem] max2_str max2_int min2_int max_two min_two max_three min_three max_four min_four   -- for this text's walks alone
def msg_Touches.f (a0_0 : Int) (a0_1 : Int) (a0_2 : BA) (a0_3 : BA) (a0_4 : BA) (a0_5 : Int) (a1 : BA) : Option (Bool) := (msg_IsPoint.f a0_0 a0_1 a0_2 a0_3 a0_4 a0_5).bind fun t156 => (if t156 = true then (if a0_2.toList = a1.toList then (some true) else (if a0_0 = 4 then ((msg_Span.f a0_0 a0_1 a0_2 a0_3 a0_4 a0_5).bind fun bt157 => ((key_Holds.f bt157.1 bt157.2 a1).bind fun t159 => (some t159))) else (some false))) else (if a0_0 = 4 then ((msg_Span.f a0_0 a0_1 a0_2 a0_3 a0_4 a0_5).bind fun bt160 => ((key_Holds.f bt160.1 bt160.2 a1).bind fun t162 => (some t162))) else (some false)))
set_option maxHeartbeats 8000000 in
set_option maxRecDepth 100000 in
theorem msg_Touches.calls (a0_0 : Int) (a0_1 : Int) (a0_2 : BA) (a0_3 : BA) (a0_4 : BA) (a0_5 : Int) (a1 : BA) (r : Bool) (w : World) (h : msg_Touches.f a0_0 a0_1 a0_2 a0_3 a0_4 a0_5 a1 = some r) :
  Calls Try.prog 109 #[.agg #[.int .u8 a0_0, .int .i64 a0_1, .string a0_2, .string a0_3, .string a0_4, .int .u64 a0_5], .string a1] w fun e w' => e = .returned (.bool r) ∧ Below w.heap.size w w' := by
 have hu32 := Try.underlying32
 have HB := Aside0.mk (Below.refl w.heap.size w)
 have H : ((msg_IsPoint.f a0_0 a0_1 a0_2 a0_3 a0_4 a0_5).bind fun t156 => (if t156 = true then (if a0_2.toList = a1.toList then (some true) else (if a0_0 = 4 then ((msg_Span.f a0_0 a0_1 a0_2 a0_3 a0_4 a0_5).bind fun bt157 => ((key_Holds.f bt157.1 bt157.2 a1).bind fun t159 => (some t159))) else (some false))) else (if a0_0 = 4 then ((msg_Span.f a0_0 a0_1 a0_2 a0_3 a0_4 a0_5).bind fun bt160 => ((key_Holds.f bt160.1 bt160.2 a1).bind fun t162 => (some t162))) else (some false)))) = some r := h
 clear h
 replace H := Option.bind_eq_some_iff.mp H
 obtain ⟨t156, A30, H⟩ := H
 replace H : (if t156 = true then (if a0_2.toList = a1.toList then (some true) else (if a0_0 = 4 then ((msg_Span.f a0_0 a0_1 a0_2 a0_3 a0_4 a0_5).bind fun bt157 => ((key_Holds.f bt157.1 bt157.2 a1).bind fun t159 => (some t159))) else (some false))) else (if a0_0 = 4 then ((msg_Span.f a0_0 a0_1 a0_2 a0_3 a0_4 a0_5).bind fun bt160 => ((key_Holds.f bt160.1 bt160.2 a1).bind fun t162 => (some t162))) else (some false))) = some r := H
 have A3 := Aside0.mk A30
 clear A30
 by_cases c4 : t156 = true
 ·subst c4
  have H1 : (if a0_2.toList = a1.toList then (some true) else (if a0_0 = 4 then ((msg_Span.f a0_0 a0_1 a0_2 a0_3 a0_4 a0_5).bind fun bt157 => ((key_Holds.f bt157.1 bt157.2 a1).bind fun t159 => (some t159))) else (some false))) = some r := by rw [if_pos rfl] at H; exact H
  clear H
  have H := H1
  clear H1
  by_cases c5 : a0_2.toList = a1.toList
  ·rw [if_pos c5] at H
   have c5b0 : (a0_2.toList == a1.toList) = true := beq_iff_eq.mpr c5
   have c5b1 : (a0_2.toList != a1.toList) = false := bne_eq_false_iff_eq.mpr c5
   clear c5
   obtain rfl := Option.some.inj H
   go_enter Try.func109, Try.ntmps109
   go_wp2_with (first | ((with_reducible refine gate_dst (N := 2) rfl ?_); refine box_event ?hg (N := 2) ?hd (cs := #[.int .u8 a0_0, .int .i64 a0_1, .string a0_2, .string a0_3, .string a0_4, .int .u64 a0_5]) (t := 32) ?hr ?_; (case hd => rfl); (case hg => rfl); (case hr => first | (go_simp; done) | (go_simp; rfl)); intro gb155 hg w6 hbox hb; have n0_ := Aside0.mk (wT bW_ hb); have n1_ := Aside0.mk (hbox); have n2_ := Aside0.mk ((by rw [hg]; exact (wZ bW_) : w.heap.size ≤ gb155)); have n3_ := n2_; clear HB; have HB := n0_; have BK155 := n1_; have GW155 := n2_; have GE155 := n3_; clear n0_ n1_ n2_ n3_; clear hb hbox hg; have hcz7_0 := cz_ BK155.out 0; have hcz7_1 := cz_ BK155.out 1; have hcz7_2 := cz_ BK155.out 2; have hcz7_3 := cz_ BK155.out 3; have hcz7_4 := cz_ BK155.out 4; have hcz7_5 := cz_ BK155.out 5; have hfz7_0 := bF BK155.out 0; have hfz7_1 := bF BK155.out 1; have hfz7_2 := bF BK155.out 2; have hfz7_3 := bF BK155.out 3; have hfz7_4 := bF BK155.out 4; have hfz7_5 := bF BK155.out 5) | ((with_reducible refine gate_callee (f := 55) rfl ?_); refine goesL_ (some 6) rfl rfl Try.func55 (by kernel_rfl) rfl #[.agg #[.int .u8 a0_0, .int .i64 a0_1, .string a0_2, .string a0_3, .string a0_4, .int .u64 a0_5]] rfl mS_ ?_; (with_reducible refine (msg_IsPoint.calls a0_0 a0_1 a0_2 a0_3 a0_4 a0_5 true _ A3.out).mono ?_); rintro e w8 ⟨rfl, hb⟩; refine ⟨_, rfl, ?_⟩; have n0_ := Aside0.mk (bB (bX_ BK155.out) hb); have n1_ := Aside0.mk (wT (bS1_ GE155.out) hb); clear BK155; clear HB; have BK155 := n0_; have HB := n1_; clear n0_ n1_; (try clear hb); (try clear hb2); (try clear hk); (try clear hi); have hcz9_0 := cz_ BK155.out 0; have hcz9_1 := cz_ BK155.out 1; have hcz9_2 := cz_ BK155.out 2; have hcz9_3 := cz_ BK155.out 3; have hcz9_4 := cz_ BK155.out 4; have hcz9_5 := cz_ BK155.out 5; have hfz9_0 := bF BK155.out 0; have hfz9_1 := bF BK155.out 1; have hfz9_2 := bF BK155.out 2; have hfz9_3 := bF BK155.out 3; have hfz9_4 := bF BK155.out 4; have hfz9_5 := bF BK155.out 5))
   go_ret
   exact ⟨by first | rfl | (simp [errW_none, errW_some] <;> rfl) | (simp [*, errW_none, errW_some] <;> rfl), by repeat (first | (with_reducible first | exact HB.out | apply wA | apply wN | apply w1 | refine wS ?_ GE155.out) | exact HB.out)⟩
  ·rw [if_neg c5] at H
   have c5b0 : (a0_2.toList == a1.toList) = false := beq_eq_false_iff_ne.mpr c5
   have c5b1 : (a0_2.toList != a1.toList) = true := bne_iff_ne.mpr c5
   by_cases c10 : a0_0 = 4
   ·rw [if_pos c10] at H
    have c10b0 : (a0_0 == 4) = true := beq_iff_eq.mpr c10
    have c10b1 : (a0_0 != 4) = false := bne_eq_false_iff_eq.mpr c10
    clear c10
    replace H := Option.bind_eq_some_iff.mp H
    obtain ⟨⟨t157, t158⟩, A110, H⟩ := H
    replace H : ((key_Holds.f t157 t158 a1).bind fun t159 => (some t159)) = some r := H
    have A11 := Aside0.mk A110
    clear A110
    replace H := Option.bind_eq_some_iff.mp H
    obtain ⟨t159, A120, H⟩ := H
    replace H : (some t159) = some r := H
    have A12 := Aside0.mk A120
    clear A120
    obtain rfl := Option.some.inj H
    go_enter Try.func109, Try.ntmps109
    go_wp2_with (first | ((with_reducible refine gate_dst (N := 2) rfl ?_); refine box_event ?hg (N := 2) ?hd (cs := #[.int .u8 a0_0, .int .i64 a0_1, .string a0_2, .string a0_3, .string a0_4, .int .u64 a0_5]) (t := 32) ?hr ?_; (case hd => rfl); (case hg => rfl); (case hr => first | (go_simp; done) | (go_simp; rfl)); intro gb155 hg w13 hbox hb; have n0_ := Aside0.mk (wT bW_ hb); have n1_ := Aside0.mk (hbox); have n2_ := Aside0.mk ((by rw [hg]; exact (wZ bW_) : w.heap.size ≤ gb155)); have n3_ := n2_; clear HB; have HB := n0_; have BK155 := n1_; have GW155 := n2_; have GE155 := n3_; clear n0_ n1_ n2_ n3_; clear hb hbox hg; have hcz14_0 := cz_ BK155.out 0; have hcz14_1 := cz_ BK155.out 1; have hcz14_2 := cz_ BK155.out 2; have hcz14_3 := cz_ BK155.out 3; have hcz14_4 := cz_ BK155.out 4; have hcz14_5 := cz_ BK155.out 5; have hfz14_0 := bF BK155.out 0; have hfz14_1 := bF BK155.out 1; have hfz14_2 := bF BK155.out 2; have hfz14_3 := bF BK155.out 3; have hfz14_4 := bF BK155.out 4; have hfz14_5 := bF BK155.out 5) | ((with_reducible refine gate_callee (f := 55) rfl ?_); refine goesL_ (some 6) rfl rfl Try.func55 (by kernel_rfl) rfl #[.agg #[.int .u8 a0_0, .int .i64 a0_1, .string a0_2, .string a0_3, .string a0_4, .int .u64 a0_5]] rfl mS_ ?_; (with_reducible refine (msg_IsPoint.calls a0_0 a0_1 a0_2 a0_3 a0_4 a0_5 true _ A3.out).mono ?_); rintro e w15 ⟨rfl, hb⟩; refine ⟨_, rfl, ?_⟩; have n0_ := Aside0.mk (bB (bX_ BK155.out) hb); have n1_ := Aside0.mk (wT (bS1_ GE155.out) hb); clear BK155; clear HB; have BK155 := n0_; have HB := n1_; clear n0_ n1_; (try clear hb); (try clear hb2); (try clear hk); (try clear hi); have hcz16_0 := cz_ BK155.out 0; have hcz16_1 := cz_ BK155.out 1; have hcz16_2 := cz_ BK155.out 2; have hcz16_3 := cz_ BK155.out 3; have hcz16_4 := cz_ BK155.out 4; have hcz16_5 := cz_ BK155.out 5; have hfz16_0 := bF BK155.out 0; have hfz16_1 := bF BK155.out 1; have hfz16_2 := bF BK155.out 2; have hfz16_3 := bF BK155.out 3; have hfz16_4 := bF BK155.out 4; have hfz16_5 := bF BK155.out 5) | (go_at_call 58; (with_reducible refine (msg_Span.calls a0_0 a0_1 a0_2 a0_3 a0_4 a0_5 t157 t158 _ A11.out).mono ?_); rintro e w17 ⟨rfl, hb⟩; have n0_ := Aside0.mk (bB (bX_ BK155.out) hb); have n1_ := Aside0.mk (wT (bS1_ GE155.out) hb); clear BK155; clear HB; have BK155 := n0_; have HB := n1_; clear n0_ n1_; (try clear hb); (try clear hb2); (try clear hk); (try clear hi)) | (go_at_call 56; (with_reducible refine (key_Holds.calls t157 t158 a1 t159 _ A12.out).mono ?_); rintro e w18 ⟨rfl, hb⟩; have n0_ := Aside0.mk (bB (bX_ BK155.out) hb); have n1_ := Aside0.mk (wT (bS1_ GE155.out) hb); clear BK155; clear HB; have BK155 := n0_; have HB := n1_; clear n0_ n1_; (try clear hb); (try clear hb2); (try clear hk); (try clear hi)))
    go_ret
    exact ⟨by first | rfl | (simp [errW_none, errW_some] <;> rfl) | (simp [*, errW_none, errW_some] <;> rfl), by repeat (first | (with_reducible first | exact HB.out | apply wA | apply wN | apply w1 | refine wS ?_ GE155.out) | exact HB.out)⟩
   ·rw [if_neg c10] at H
    have c10b0 : (a0_0 == 4) = false := beq_eq_false_iff_ne.mpr c10
    have c10b1 : (a0_0 != 4) = true := bne_iff_ne.mpr c10
    obtain rfl := Option.some.inj H
    go_enter Try.func109, Try.ntmps109
    go_wp2_with (first | ((with_reducible refine gate_dst (N := 2) rfl ?_); refine box_event ?hg (N := 2) ?hd (cs := #[.int .u8 a0_0, .int .i64 a0_1, .string a0_2, .string a0_3, .string a0_4, .int .u64 a0_5]) (t := 32) ?hr ?_; (case hd => rfl); (case hg => rfl); (case hr => first | (go_simp; done) | (go_simp; rfl)); intro gb155 hg w19 hbox hb; have n0_ := Aside0.mk (wT bW_ hb); have n1_ := Aside0.mk (hbox); have n2_ := Aside0.mk ((by rw [hg]; exact (wZ bW_) : w.heap.size ≤ gb155)); have n3_ := n2_; clear HB; have HB := n0_; have BK155 := n1_; have GW155 := n2_; have GE155 := n3_; clear n0_ n1_ n2_ n3_; clear hb hbox hg; have hcz20_0 := cz_ BK155.out 0; have hcz20_1 := cz_ BK155.out 1; have hcz20_2 := cz_ BK155.out 2; have hcz20_3 := cz_ BK155.out 3; have hcz20_4 := cz_ BK155.out 4; have hcz20_5 := cz_ BK155.out 5; have hfz20_0 := bF BK155.out 0; have hfz20_1 := bF BK155.out 1; have hfz20_2 := bF BK155.out 2; have hfz20_3 := bF BK155.out 3; have hfz20_4 := bF BK155.out 4; have hfz20_5 := bF BK155.out 5) | ((with_reducible refine gate_callee (f := 55) rfl ?_); refine goesL_ (some 6) rfl rfl Try.func55 (by kernel_rfl) rfl #[.agg #[.int .u8 a0_0, .int .i64 a0_1, .string a0_2, .string a0_3, .string a0_4, .int .u64 a0_5]] rfl mS_ ?_; (with_reducible refine (msg_IsPoint.calls a0_0 a0_1 a0_2 a0_3 a0_4 a0_5 true _ A3.out).mono ?_); rintro e w21 ⟨rfl, hb⟩; refine ⟨_, rfl, ?_⟩; have n0_ := Aside0.mk (bB (bX_ BK155.out) hb); have n1_ := Aside0.mk (wT (bS1_ GE155.out) hb); clear BK155; clear HB; have BK155 := n0_; have HB := n1_; clear n0_ n1_; (try clear hb); (try clear hb2); (try clear hk); (try clear hi); have hcz22_0 := cz_ BK155.out 0; have hcz22_1 := cz_ BK155.out 1; have hcz22_2 := cz_ BK155.out 2; have hcz22_3 := cz_ BK155.out 3; have hcz22_4 := cz_ BK155.out 4; have hcz22_5 := cz_ BK155.out 5; have hfz22_0 := bF BK155.out 0; have hfz22_1 := bF BK155.out 1; have hfz22_2 := bF BK155.out 2; have hfz22_3 := bF BK155.out 3; have hfz22_4 := bF BK155.out 4; have hfz22_5 := bF BK155.out 5))
    go_ret
    exact ⟨by first | rfl | (simp [errW_none, errW_some] <;> rfl) | (simp [*, errW_none, errW_some] <;> rfl), by repeat (first | (with_reducible first | exact HB.out | apply wA | apply wN | apply w1 | refine wS ?_ GE155.out) | exact HB.out)⟩
 ·replace c4 := Bool.eq_false_iff.mpr c4
  subst c4
  have H1 : (if a0_0 = 4 then ((msg_Span.f a0_0 a0_1 a0_2 a0_3 a0_4 a0_5).bind fun bt160 => ((key_Holds.f bt160.1 bt160.2 a1).bind fun t162 => (some t162))) else (some false)) = some r := by rw [if_neg (show ¬ (false = true) by decide)] at H; exact H
  clear H
  have H := H1
  clear H1
  by_cases c23 : a0_0 = 4
  ·rw [if_pos c23] at H
   have c23b0 : (a0_0 == 4) = true := beq_iff_eq.mpr c23
   have c23b1 : (a0_0 != 4) = false := bne_eq_false_iff_eq.mpr c23
   clear c23
   replace H := Option.bind_eq_some_iff.mp H
   obtain ⟨⟨t160, t161⟩, A240, H⟩ := H
   replace H : ((key_Holds.f t160 t161 a1).bind fun t162 => (some t162)) = some r := H
   have A24 := Aside0.mk A240
   clear A240
   replace H := Option.bind_eq_some_iff.mp H
   obtain ⟨t162, A250, H⟩ := H
   replace H : (some t162) = some r := H
   have A25 := Aside0.mk A250
   clear A250
   obtain rfl := Option.some.inj H
   go_enter Try.func109, Try.ntmps109
   go_wp2_with (first | ((with_reducible refine gate_dst (N := 2) rfl ?_); refine box_event ?hg (N := 2) ?hd (cs := #[.int .u8 a0_0, .int .i64 a0_1, .string a0_2, .string a0_3, .string a0_4, .int .u64 a0_5]) (t := 32) ?hr ?_; (case hd => rfl); (case hg => rfl); (case hr => first | (go_simp; done) | (go_simp; rfl)); intro gb155 hg w26 hbox hb; have n0_ := Aside0.mk (wT bW_ hb); have n1_ := Aside0.mk (hbox); have n2_ := Aside0.mk ((by rw [hg]; exact (wZ bW_) : w.heap.size ≤ gb155)); have n3_ := n2_; clear HB; have HB := n0_; have BK155 := n1_; have GW155 := n2_; have GE155 := n3_; clear n0_ n1_ n2_ n3_; clear hb hbox hg; have hcz27_0 := cz_ BK155.out 0; have hcz27_1 := cz_ BK155.out 1; have hcz27_2 := cz_ BK155.out 2; have hcz27_3 := cz_ BK155.out 3; have hcz27_4 := cz_ BK155.out 4; have hcz27_5 := cz_ BK155.out 5; have hfz27_0 := bF BK155.out 0; have hfz27_1 := bF BK155.out 1; have hfz27_2 := bF BK155.out 2; have hfz27_3 := bF BK155.out 3; have hfz27_4 := bF BK155.out 4; have hfz27_5 := bF BK155.out 5) | ((with_reducible refine gate_callee (f := 55) rfl ?_); refine goesL_ (some 6) rfl rfl Try.func55 (by kernel_rfl) rfl #[.agg #[.int .u8 a0_0, .int .i64 a0_1, .string a0_2, .string a0_3, .string a0_4, .int .u64 a0_5]] rfl mS_ ?_; (with_reducible refine (msg_IsPoint.calls a0_0 a0_1 a0_2 a0_3 a0_4 a0_5 false _ A3.out).mono ?_); rintro e w28 ⟨rfl, hb⟩; refine ⟨_, rfl, ?_⟩; have n0_ := Aside0.mk (bB (bX_ BK155.out) hb); have n1_ := Aside0.mk (wT (bS1_ GE155.out) hb); clear BK155; clear HB; have BK155 := n0_; have HB := n1_; clear n0_ n1_; (try clear hb); (try clear hb2); (try clear hk); (try clear hi); have hcz29_0 := cz_ BK155.out 0; have hcz29_1 := cz_ BK155.out 1; have hcz29_2 := cz_ BK155.out 2; have hcz29_3 := cz_ BK155.out 3; have hcz29_4 := cz_ BK155.out 4; have hcz29_5 := cz_ BK155.out 5; have hfz29_0 := bF BK155.out 0; have hfz29_1 := bF BK155.out 1; have hfz29_2 := bF BK155.out 2; have hfz29_3 := bF BK155.out 3; have hfz29_4 := bF BK155.out 4; have hfz29_5 := bF BK155.out 5) | (go_at_call 58; (with_reducible refine (msg_Span.calls a0_0 a0_1 a0_2 a0_3 a0_4 a0_5 t160 t161 _ A24.out).mono ?_); rintro e w30 ⟨rfl, hb⟩; have n0_ := Aside0.mk (bB (bX_ BK155.out) hb); have n1_ := Aside0.mk (wT (bS1_ GE155.out) hb); clear BK155; clear HB; have BK155 := n0_; have HB := n1_; clear n0_ n1_; (try clear hb); (try clear hb2); (try clear hk); (try clear hi)) | (go_at_call 56; (with_reducible refine (key_Holds.calls t160 t161 a1 t162 _ A25.out).mono ?_); rintro e w31 ⟨rfl, hb⟩; have n0_ := Aside0.mk (bB (bX_ BK155.out) hb); have n1_ := Aside0.mk (wT (bS1_ GE155.out) hb); clear BK155; clear HB; have BK155 := n0_; have HB := n1_; clear n0_ n1_; (try clear hb); (try clear hb2); (try clear hk); (try clear hi)))
   go_ret
   exact ⟨by first | rfl | (simp [errW_none, errW_some] <;> rfl) | (simp [*, errW_none, errW_some] <;> rfl), by repeat (first | (with_reducible first | exact HB.out | apply wA | apply wN | apply w1 | refine wS ?_ GE155.out) | exact HB.out)⟩
  ·rw [if_neg c23] at H
   have c23b0 : (a0_0 == 4) = false := beq_eq_false_iff_ne.mpr c23
   have c23b1 : (a0_0 != 4) = true := bne_iff_ne.mpr c23
   obtain rfl := Option.some.inj H
   go_enter Try.func109, Try.ntmps109
   go_wp2_with (first | ((with_reducible refine gate_dst (N := 2) rfl ?_); refine box_event ?hg (N := 2) ?hd (cs := #[.int .u8 a0_0, .int .i64 a0_1, .string a0_2, .string a0_3, .string a0_4, .int .u64 a0_5]) (t := 32) ?hr ?_; (case hd => rfl); (case hg => rfl); (case hr => first | (go_simp; done) | (go_simp; rfl)); intro gb155 hg w32 hbox hb; have n0_ := Aside0.mk (wT bW_ hb); have n1_ := Aside0.mk (hbox); have n2_ := Aside0.mk ((by rw [hg]; exact (wZ bW_) : w.heap.size ≤ gb155)); have n3_ := n2_; clear HB; have HB := n0_; have BK155 := n1_; have GW155 := n2_; have GE155 := n3_; clear n0_ n1_ n2_ n3_; clear hb hbox hg; have hcz33_0 := cz_ BK155.out 0; have hcz33_1 := cz_ BK155.out 1; have hcz33_2 := cz_ BK155.out 2; have hcz33_3 := cz_ BK155.out 3; have hcz33_4 := cz_ BK155.out 4; have hcz33_5 := cz_ BK155.out 5; have hfz33_0 := bF BK155.out 0; have hfz33_1 := bF BK155.out 1; have hfz33_2 := bF BK155.out 2; have hfz33_3 := bF BK155.out 3; have hfz33_4 := bF BK155.out 4; have hfz33_5 := bF BK155.out 5) | ((with_reducible refine gate_callee (f := 55) rfl ?_); refine goesL_ (some 6) rfl rfl Try.func55 (by kernel_rfl) rfl #[.agg #[.int .u8 a0_0, .int .i64 a0_1, .string a0_2, .string a0_3, .string a0_4, .int .u64 a0_5]] rfl mS_ ?_; (with_reducible refine (msg_IsPoint.calls a0_0 a0_1 a0_2 a0_3 a0_4 a0_5 false _ A3.out).mono ?_); rintro e w34 ⟨rfl, hb⟩; refine ⟨_, rfl, ?_⟩; have n0_ := Aside0.mk (bB (bX_ BK155.out) hb); have n1_ := Aside0.mk (wT (bS1_ GE155.out) hb); clear BK155; clear HB; have BK155 := n0_; have HB := n1_; clear n0_ n1_; (try clear hb); (try clear hb2); (try clear hk); (try clear hi); have hcz35_0 := cz_ BK155.out 0; have hcz35_1 := cz_ BK155.out 1; have hcz35_2 := cz_ BK155.out 2; have hcz35_3 := cz_ BK155.out 3; have hcz35_4 := cz_ BK155.out 4; have hcz35_5 := cz_ BK155.out 5; have hfz35_0 := bF BK155.out 0; have hfz35_1 := bF BK155.out 1; have hfz35_2 := bF BK155.out 2; have hfz35_3 := bF BK155.out 3; have hfz35_4 := bF BK155.out 4; have hfz35_5 := bF BK155.out 5))
   go_ret
   exact ⟨by first | rfl | (simp [errW_none, errW_some] <;> rfl) | (simp [*, errW_none, errW_some] <;> rfl), by repeat (first | (with_reducible first | exact HB.out | apply wA | apply wN | apply w1 | refine wS ?_ GE155.out) | exact HB.out)⟩
def compact_last.l0 : Nat → List (S32) → ByteArray → Int → Option (Int)
 | 0, _, _, _ => none
 | k + 1, x0, x1, x5 => if x5 ≥ 0 then (if 0 ≤ x5 then (if x5 < (x0.length : Int) then ((msg_Touches.f ((rd_T32 x0 x5).f0) ((rd_T32 x0 x5).f1) ((rd_T32 x0 x5).f2) ((rd_T32 x0 x5).f3) ((rd_T32 x0 x5).f4) ((rd_T32 x0 x5).f5) x1).bind fun t164 => (if t164 = true then (some x5) else (compact_last.l0 k x0 x1 (wrap64 (x5 - 1))))) else (none)) else (none)) else (some (-1))
def compact_last.f (k : Nat) (l0 : List (S32)) (a1 : BA) : Option (Int) := compact_last.l0 k l0 a1 (wrap64 ((l0.length : Int) - 1))
set_option maxHeartbeats 8000000 in
set_option maxRecDepth 100000 in
theorem compact_last.calls (k : Nat) (A0 : Option Addr) (c0 : Nat) (l0 : List (S32)) (a1 : BA) (r : Int) (w : World) (hr0 : Kd.C k32 w A0 l0.length l0) (hc0 : l0.length ≤ c0) (h : compact_last.f k l0 a1 = some r) :
  Calls Try.prog 92 #[.slice A0 l0.length c0, .string a1] w fun e w' => e = .returned (.int .i64 r) ∧ Below w.heap.size w w' := by
 have hu32 := Try.underlying32
 have HR0 := Aside0.mk hr0
 have HC0 := Aside0.mk hc0
 clear hr0 hc0
 have HB := Aside0.mk (Below.refl w.heap.size w)
 have H : (compact_last.l0 k l0 a1 (wrap64 ((l0.length : Int) - 1))) = some r := h
 clear h
 have H' := Aside0.mk H
 clear H
 go_enter Try.func92, Try.ntmps92
 go_wp2
 go_loopg [5] k (fun kq v5 w' => ∃ (x5_1 : Int), v5 = .int .i64 x5_1 ∧ Aside0 (compact_last.l0 kq l0 a1 x5_1 = some r) ∧ Aside0 (kq ≤ k) ∧ Aside0 (Below w.heap.size w w'))
 case atStart => exact ⟨(wrap64 ((l0.length : Int) - 1)), (by first | rfl | (simp; done) | (simp [*]; done)), H', ⟨Nat.le_refl _⟩, ⟨by repeat (first | (with_reducible first | exact HB.out | apply wA | apply wN | apply w1) | exact HB.out)⟩⟩
 case round =>
  clear H'
  try clear p2
  obtain ⟨x5_1, rfl, HA, HK1, HB⟩ := hrel
  cases gk with
  | zero => exact absurd HA.out (by simp [compact_last.l0])
  | succ k1 =>
   have H := HA.out
   clear HA
   simp only [compact_last.l0] at H
   by_cases c3 : x5_1 ≥ 0
   ·rw [if_pos c3] at H
    have c3b0 : decide (0 ≤ x5_1) = true := decide_eq_true c3
    clear c3
    by_cases c4 : 0 ≤ x5_1
    ·rw [if_pos c4] at H
     have c4b0 : decide (0 ≤ x5_1) = true := decide_eq_true c4
     clear c4
     by_cases c5 : x5_1 < (l0.length : Int)
     ·rw [if_pos c5] at H
      have c5b0 : decide (x5_1 < (l0.length : Int)) = true := decide_eq_true c5
      clear c5
      replace H := Option.bind_eq_some_iff.mp H
      obtain ⟨t164, A60, H⟩ := H
      replace H : (if t164 = true then (some x5_1) else (compact_last.l0 k1 l0 a1 (wrap64 (x5_1 - 1)))) = some r := H
      have A6 := Aside0.mk A60
      clear A60
      by_cases c7 : t164 = true
      ·subst c7
       have H1 : (some x5_1) = some r := by rw [if_pos rfl] at H; exact H
       clear H
       have H := H1
       clear H1
       obtain rfl := Option.some.inj H
       have p163 : 0 ≤ (x5_1 : Int) := of_decide_eq_true (by first | (with_reducible assumption) | assumption)
       have q163 : x5_1 < (l0.length : Int) := of_decide_eq_true (by first | (with_reducible assumption) | assumption)
       obtain ⟨ad163, e163, hx163_0, hx163_1, hx163_2, hx163_3, hx163_4, hx163_5⟩ := at_T32 HR0.out x5_1 p163 q163
       cases e163
       replace hx163_0 := (HB.out.cell (World.block_lt_of_cell? w _ hx163_0)).trans hx163_0
       replace hx163_1 := (HB.out.cell (World.block_lt_of_cell? w _ hx163_1)).trans hx163_1
       replace hx163_2 := (HB.out.cell (World.block_lt_of_cell? w _ hx163_2)).trans hx163_2
       replace hx163_3 := (HB.out.cell (World.block_lt_of_cell? w _ hx163_3)).trans hx163_3
       replace hx163_4 := (HB.out.cell (World.block_lt_of_cell? w _ hx163_4)).trans hx163_4
       replace hx163_5 := (HB.out.cell (World.block_lt_of_cell? w _ hx163_5)).trans hx163_5
       replace p163 := eq_true p163
       replace q163 := eq_true q163
       go_wp2_with (first | ((with_reducible refine gate_callee (f := 109) rfl ?_); refine goesL_ (some 18) rfl rfl Try.func109 (by kernel_rfl) rfl #[.agg #[.int .u8 ((rd_T32 l0 x5_1).f0), .int .i64 ((rd_T32 l0 x5_1).f1), .string ((rd_T32 l0 x5_1).f2), .string ((rd_T32 l0 x5_1).f3), .string ((rd_T32 l0 x5_1).f4), .int .u64 ((rd_T32 l0 x5_1).f5)], .string a1] rfl mS_ ?_; (with_reducible refine (msg_Touches.calls ((rd_T32 l0 x5_1).f0) ((rd_T32 l0 x5_1).f1) ((rd_T32 l0 x5_1).f2) ((rd_T32 l0 x5_1).f3) ((rd_T32 l0 x5_1).f4) ((rd_T32 l0 x5_1).f5) a1 true _ A6.out).mono ?_); rintro e w8 ⟨rfl, hb⟩; refine ⟨_, rfl, ?_⟩; have n0_ := Aside0.mk (wT bW_ hb); clear HB; have HB := n0_; clear n0_; (try clear hb); (try clear hb2); (try clear hk); (try clear hi)))
       go_ret
       exact ⟨eR_, bW_⟩
      ·replace c7 := Bool.eq_false_iff.mpr c7
       subst c7
       have H1 : (compact_last.l0 k1 l0 a1 (wrap64 (x5_1 - 1))) = some r := by rw [if_neg (show ¬ (false = true) by decide)] at H; exact H
       clear H
       have H := H1
       clear H1
       have H' := Aside0.mk H
       clear H
       have p163 : 0 ≤ (x5_1 : Int) := of_decide_eq_true (by first | (with_reducible assumption) | assumption)
       have q163 : x5_1 < (l0.length : Int) := of_decide_eq_true (by first | (with_reducible assumption) | assumption)
       obtain ⟨ad163, e163, hx163_0, hx163_1, hx163_2, hx163_3, hx163_4, hx163_5⟩ := at_T32 HR0.out x5_1 p163 q163
       cases e163
       replace hx163_0 := (HB.out.cell (World.block_lt_of_cell? w _ hx163_0)).trans hx163_0
       replace hx163_1 := (HB.out.cell (World.block_lt_of_cell? w _ hx163_1)).trans hx163_1
       replace hx163_2 := (HB.out.cell (World.block_lt_of_cell? w _ hx163_2)).trans hx163_2
       replace hx163_3 := (HB.out.cell (World.block_lt_of_cell? w _ hx163_3)).trans hx163_3
       replace hx163_4 := (HB.out.cell (World.block_lt_of_cell? w _ hx163_4)).trans hx163_4
       replace hx163_5 := (HB.out.cell (World.block_lt_of_cell? w _ hx163_5)).trans hx163_5
       replace p163 := eq_true p163
       replace q163 := eq_true q163
       go_wp2_with (first | ((with_reducible refine gate_callee (f := 109) rfl ?_); refine goesL_ (some 18) rfl rfl Try.func109 (by kernel_rfl) rfl #[.agg #[.int .u8 ((rd_T32 l0 x5_1).f0), .int .i64 ((rd_T32 l0 x5_1).f1), .string ((rd_T32 l0 x5_1).f2), .string ((rd_T32 l0 x5_1).f3), .string ((rd_T32 l0 x5_1).f4), .int .u64 ((rd_T32 l0 x5_1).f5)], .string a1] rfl mS_ ?_; (with_reducible refine (msg_Touches.calls ((rd_T32 l0 x5_1).f0) ((rd_T32 l0 x5_1).f1) ((rd_T32 l0 x5_1).f2) ((rd_T32 l0 x5_1).f3) ((rd_T32 l0 x5_1).f4) ((rd_T32 l0 x5_1).f5) a1 false _ A6.out).mono ?_); rintro e w9 ⟨rfl, hb⟩; refine ⟨_, rfl, ?_⟩; have n0_ := Aside0.mk (wT bW_ hb); clear HB; have HB := n0_; clear n0_; (try clear hb); (try clear hb2); (try clear hk); (try clear hi)))
       go_roundg k1
       case measure => have := HK1.out; omega
       case rel => exact ⟨(wrap64 (x5_1 - 1)), (by first | rfl | (simp; done) | (simp [*]; done)), H', ⟨by have := HK1.out; omega⟩, ⟨by repeat (first | (with_reducible first | exact HB.out | apply wA | apply wN | apply w1) | exact HB.out)⟩⟩
     ·rw [if_neg c5] at H
      exact absurd H (by simp)
    ·rw [if_neg c4] at H
     exact absurd H (by simp)
   ·rw [if_neg c3] at H
    have c3b0 : decide (0 ≤ x5_1) = false := decide_eq_false c3
    clear c3
    obtain rfl := Option.some.inj H
    go_wp2
    go_ret
    exact ⟨eR_, bW_⟩
def word_Put.f (a0 : Int) : Option (ByteArray) := some (strOfNums (Wp.eight a0))
theorem word_Put.calls (a0 : Int) (r : BA) (w : World) (h : word_Put.f a0 = some r) :
  Calls Try.prog 95 #[.int .u64 a0] w fun e w' => e = .returned (.string r) ∧ Below w.heap.size w w' := by
 obtain rfl := Option.some.inj h
 exact Wp.put_any a0 w
def word_Take.l0 : Nat → ByteArray → Int → Int → Int → Option (Int × Bool)
 | 0, _, _, _, _ => none
 | k + 1, x0, x4, x10, x11 => if x11 < x10 then (if 0 ≤ x11 then (if x11 < (x0.size : Int) then (word_Take.l0 k x0 (Go.bits .or .u64 (IntKind.u64.wrap (x4 * 256)) (IntKind.u64.wrap (bt x0 x11))) x10 (wrap64 (x11 + 1))) else (none)) else (none)) else (some (x4, true))
def word_Take.f (k : Nat) (a0 : BA) : Option (Int × Bool) := if (a0.size : Int) = 8 then (word_Take.l0 k a0 0 (a0.size : Int) 0) else (some (0, false))
set_option maxHeartbeats 8000000 in
set_option maxRecDepth 100000 in
theorem word_Take.calls (k : Nat) (a0 : BA) (r1 : Int) (r2 : Bool) (w : World) (h : word_Take.f k a0 = some (r1, r2)) :
  Calls Try.prog 127 #[.string a0] w fun e w' => e = .returned (.tuple #[.int .u64 r1, .bool r2]) ∧ Drawn0 w w' := by
 have H : (if (a0.size : Int) = 8 then (word_Take.l0 k a0 0 (a0.size : Int) 0) else (some (0, false))) = some (r1, r2) := h
 clear h
 by_cases c2 : (a0.size : Int) = 8
 ·rw [if_pos c2] at H
  have c2b0 : ((a0.size : Int) == 8) = true := beq_iff_eq.mpr c2
  have c2b1 : ((a0.size : Int) != 8) = false := bne_eq_false_iff_eq.mpr c2
  clear c2
  have H' := Aside0.mk H
  clear H
  go_enter Try.func127, Try.ntmps127
  go_wp2
  go_loopg [4, 11] k (fun kq v4 v11 w' => ∃ (x4_1 : Int) (x11_1 : Int), v4 = .int .u64 x4_1 ∧ v11 = .int .i64 x11_1 ∧ Aside0 (word_Take.l0 kq a0 x4_1 (a0.size : Int) x11_1 = some (r1, r2)) ∧ Aside0 (kq ≤ k) ∧ Drawn0 w w')
  case atStart => exact ⟨(0), (0), (by first | rfl | (simp; done) | (simp [*]; done)), (by first | rfl | (simp; done) | (simp [*]; done)), H', ⟨Nat.le_refl _⟩, by repeat (first | exact Drawn0.refl _ | apply Drawn0.step)⟩
  case round =>
   clear H'
   try clear c1
   try clear c2
   try clear c2b0
   try clear c2b1
   try clear p2
   obtain ⟨x4_1, x11_1, rfl, rfl, HA, HK1, ⟨m1, rfl⟩⟩ := hrel
   cases gk with
   | zero => exact absurd HA.out (by simp [word_Take.l0])
   | succ k1 =>
    have H := HA.out
    clear HA
    simp only [word_Take.l0] at H
    by_cases c3 : x11_1 < (a0.size : Int)
    ·rw [if_pos c3] at H
     have c3b0 : decide (x11_1 < (a0.size : Int)) = true := decide_eq_true c3
     clear c3
     by_cases c4 : 0 ≤ x11_1
     ·rw [if_pos c4] at H
      have c4b0 : decide (0 ≤ x11_1) = true := decide_eq_true c4
      clear c4
      by_cases c5 : x11_1 < (a0.size : Int)
      ·rw [if_pos c5] at H
       have c5b0 : decide (x11_1 < (a0.size : Int)) = true := decide_eq_true c5
       clear c5
       have H' := Aside0.mk H
       clear H
       have p6 : 0 ≤ (x11_1 : Int) := of_decide_eq_true (by first | (with_reducible assumption) | assumption)
       have q6 : x11_1 < (a0.size : Int) := of_decide_eq_true (by first | (with_reducible assumption) | assumption)
       have hx6 := bt_at a0 x11_1
       replace p6 := eq_true p6
       replace q6 := eq_true q6
       go_wp2
       go_roundg k1
       case measure => have := HK1.out; omega
       case rel => exact ⟨(Go.bits .or .u64 (IntKind.u64.wrap (x4_1 * 256)) (IntKind.u64.wrap (bt a0 x11_1))), (wrap64 (x11_1 + 1)), (by first | rfl | (simp; done) | (simp [*]; done)), (by first | rfl | (simp; done) | (simp [*]; done)), H', ⟨by have := HK1.out; omega⟩, by repeat (first | exact Drawn0.refl _ | apply Drawn0.step)⟩
      ·rw [if_neg c5] at H
       exact absurd H (by simp)
     ·rw [if_neg c4] at H
      exact absurd H (by simp)
    ·rw [if_neg c3] at H
     have c3b0 : decide (x11_1 < (a0.size : Int)) = false := decide_eq_false c3
     clear c3
     simp only [Option.some.injEq, Prod.mk.injEq] at H
     obtain ⟨rfl, rfl⟩ := H
     go_wp2
     go_ret2
     exact ⟨by first | rfl | (simp; done) | (simp [*]; done), by repeat (first | exact Drawn0.refl _ | apply Drawn0.step)⟩
 ·rw [if_neg c2] at H
  have c2b0 : ((a0.size : Int) == 8) = false := beq_eq_false_iff_ne.mpr c2
  have c2b1 : ((a0.size : Int) != 8) = true := bne_iff_ne.mpr c2
  simp only [Option.some.injEq, Prod.mk.injEq] at H
  obtain ⟨rfl, rfl⟩ := H
  go_enter Try.func127, Try.ntmps127
  go_wp2
  go_ret2
  exact ⟨by first | rfl | (simp; done) | (simp [*]; done), by repeat (first | exact Drawn0.refl _ | apply Drawn0.step)⟩
def word_Add.f (k : Nat) (a0 : BA) (a1 : Bool) (a2 : Int) : Option (ByteArray) := (word_Take.f k a0).bind fun bt165 => (if a1 = true then (if bt165.2 = true then ((word_Put.f (IntKind.u64.wrap (bt165.1 + a2))).bind fun t167 => (some t167)) else (some a0)) else ((word_Put.f a2).bind fun t168 => (some t168)))
set_option maxHeartbeats 8000000 in
set_option maxRecDepth 100000 in
theorem word_Add.calls (k : Nat) (a0 : BA) (a1 : Bool) (a2 : Int) (r : BA) (w : World) (h : word_Add.f k a0 a1 a2 = some r) :
  Calls Try.prog 108 #[.string a0, .bool a1, .int .u64 a2] w fun e w' => e = .returned (.string r) ∧ Below w.heap.size w w' := by
 have HB := Aside0.mk (Below.refl w.heap.size w)
 have H : ((word_Take.f k a0).bind fun bt165 => (if a1 = true then (if bt165.2 = true then ((word_Put.f (IntKind.u64.wrap (bt165.1 + a2))).bind fun t167 => (some t167)) else (some a0)) else ((word_Put.f a2).bind fun t168 => (some t168)))) = some r := h
 clear h
 replace H := Option.bind_eq_some_iff.mp H
 obtain ⟨⟨t165, t166⟩, A40, H⟩ := H
 replace H : (if a1 = true then (if t166 = true then ((word_Put.f (IntKind.u64.wrap (t165 + a2))).bind fun t167 => (some t167)) else (some a0)) else ((word_Put.f a2).bind fun t168 => (some t168))) = some r := H
 have A4 := Aside0.mk A40
 clear A40
 by_cases c5 : a1 = true
 ·subst c5
  have H1 : (if t166 = true then ((word_Put.f (IntKind.u64.wrap (t165 + a2))).bind fun t167 => (some t167)) else (some a0)) = some r := by rw [if_pos rfl] at H; exact H
  clear H
  have H := H1
  clear H1
  by_cases c6 : t166 = true
  ·subst c6
   have H1 : ((word_Put.f (IntKind.u64.wrap (t165 + a2))).bind fun t167 => (some t167)) = some r := by rw [if_pos rfl] at H; exact H
   clear H
   have H := H1
   clear H1
   replace H := Option.bind_eq_some_iff.mp H
   obtain ⟨t167, A70, H⟩ := H
   replace H : (some t167) = some r := H
   have A7 := Aside0.mk A70
   clear A70
   obtain rfl := Option.some.inj H
   go_enter Try.func108, Try.ntmps108
   go_wp2_with (first | ((with_reducible refine gate_callee (f := 127) rfl ?_); refine goesL_ (some 11) rfl rfl Try.func127 (by kernel_rfl) rfl #[.string a0] rfl mS_ ?_; (with_reducible refine (word_Take.calls k a0 t165 true _ A4.out).mono ?_); rintro e w' ⟨rfl, ⟨nd, rfl⟩⟩; refine ⟨_, rfl, ?_⟩) | ((with_reducible refine gate_callee (f := 95) rfl ?_); refine goesL_ (some 24) rfl rfl Try.func95 (by kernel_rfl) rfl #[.int .u64 (IntKind.u64.wrap (t165 + a2))] rfl mS_ ?_; (with_reducible refine (word_Put.calls (IntKind.u64.wrap (t165 + a2)) t167 _ A7.out).mono ?_); rintro e w8 ⟨rfl, hb⟩; refine ⟨_, rfl, ?_⟩; have n0_ := Aside0.mk (wT bW_ hb); clear HB; have HB := n0_; clear n0_; (try clear hb); (try clear hb2); (try clear hk); (try clear hi)))
   go_ret
   exact ⟨eR_, bW_⟩
  ·replace c6 := Bool.eq_false_iff.mpr c6
   subst c6
   have H1 : (some a0) = some r := by rw [if_neg (show ¬ (false = true) by decide)] at H; exact H
   clear H
   have H := H1
   clear H1
   obtain rfl := Option.some.inj H
   go_enter Try.func108, Try.ntmps108
   go_wp2_with (first | ((with_reducible refine gate_callee (f := 127) rfl ?_); refine goesL_ (some 11) rfl rfl Try.func127 (by kernel_rfl) rfl #[.string a0] rfl mS_ ?_; (with_reducible refine (word_Take.calls k a0 t165 false _ A4.out).mono ?_); rintro e w' ⟨rfl, ⟨nd, rfl⟩⟩; refine ⟨_, rfl, ?_⟩))
   go_ret
   exact ⟨eR_, bW_⟩
 ·replace c5 := Bool.eq_false_iff.mpr c5
  subst c5
  have H1 : ((word_Put.f a2).bind fun t168 => (some t168)) = some r := by rw [if_neg (show ¬ (false = true) by decide)] at H; exact H
  clear H
  have H := H1
  clear H1
  replace H := Option.bind_eq_some_iff.mp H
  obtain ⟨t168, A90, H⟩ := H
  replace H : (some t168) = some r := H
  have A9 := Aside0.mk A90
  clear A90
  obtain rfl := Option.some.inj H
  go_enter Try.func108, Try.ntmps108
  go_wp2_with (first | ((with_reducible refine gate_callee (f := 127) rfl ?_); refine goesL_ (some 11) rfl rfl Try.func127 (by kernel_rfl) rfl #[.string a0] rfl mS_ ?_; (with_reducible refine (word_Take.calls k a0 t165 t166 _ A4.out).mono ?_); rintro e w' ⟨rfl, ⟨nd, rfl⟩⟩; refine ⟨_, rfl, ?_⟩) | ((with_reducible refine gate_callee (f := 95) rfl ?_); refine goesL_ (some 18) rfl rfl Try.func95 (by kernel_rfl) rfl #[.int .u64 a2] rfl mS_ ?_; (with_reducible refine (word_Put.calls a2 t168 _ A9.out).mono ?_); rintro e w10 ⟨rfl, hb⟩; refine ⟨_, rfl, ?_⟩; have n0_ := Aside0.mk (wT bW_ hb); clear HB; have HB := n0_; clear n0_; (try clear hb); (try clear hb2); (try clear hk); (try clear hi)))
  go_ret
  exact ⟨eR_, bW_⟩
def msg_Apply.j0 : Nat → ByteArray → Bool → Bool → Option (ByteArray × Bool)
 | 0, _, _, _ => none
 | k + 1, x1, x2, x21 => if x21 = true then (some ((⟨#[]⟩ : BA), false)) else (if x2 = true then (some (x1, true)) else (some ((⟨#[]⟩ : BA), false)))
def msg_Apply.f (k : Nat) (a0_0 : Int) (a0_1 : Int) (a0_2 : BA) (a0_3 : BA) (a0_4 : BA) (a0_5 : Int) (a1 : BA) (a2 : Bool) : Option (ByteArray × Bool) := if a0_0 = 1 then (some (a0_4, true)) else (if a0_0 = 3 then ((word_Add.f k a1 a2 a0_5).bind fun t170 => (some (t170, true))) else (if a0_0 = 2 then (msg_Apply.j0 k a1 a2 (a0_0 == 2)) else (msg_Apply.j0 k a1 a2 (a0_0 == 4))))
set_option maxHeartbeats 8000000 in
set_option maxRecDepth 100000 in
theorem msg_Apply.calls (k : Nat) (a0_0 : Int) (a0_1 : Int) (a0_2 : BA) (a0_3 : BA) (a0_4 : BA) (a0_5 : Int) (a1 : BA) (a2 : Bool) (r1 : BA) (r2 : Bool) (w : World) (h : msg_Apply.f k a0_0 a0_1 a0_2 a0_3 a0_4 a0_5 a1 a2 = some (r1, r2)) :
  Calls Try.prog 73 #[.agg #[.int .u8 a0_0, .int .i64 a0_1, .string a0_2, .string a0_3, .string a0_4, .int .u64 a0_5], .string a1, .bool a2] w fun e w' => e = .returned (.tuple #[.string r1, .bool r2]) ∧ Below w.heap.size w w' := by
 have hu32 := Try.underlying32
 have HB := Aside0.mk (Below.refl w.heap.size w)
 have H : (if a0_0 = 1 then (some (a0_4, true)) else (if a0_0 = 3 then ((word_Add.f k a1 a2 a0_5).bind fun t170 => (some (t170, true))) else (if a0_0 = 2 then (msg_Apply.j0 k a1 a2 (a0_0 == 2)) else (msg_Apply.j0 k a1 a2 (a0_0 == 4))))) = some (r1, r2) := h
 clear h
 by_cases c4 : a0_0 = 1
 ·rw [if_pos c4] at H
  have c4b0 : (a0_0 == 1) = true := beq_iff_eq.mpr c4
  have c4b1 : (a0_0 != 1) = false := bne_eq_false_iff_eq.mpr c4
  clear c4
  simp only [Option.some.injEq, Prod.mk.injEq] at H
  obtain ⟨rfl, rfl⟩ := H
  go_enter Try.func73, Try.ntmps73
  go_wp2_with (first | ((with_reducible refine gate_dst (N := 3) rfl ?_); refine box_event ?hg (N := 3) ?hd (cs := #[.int .u8 a0_0, .int .i64 a0_1, .string a0_2, .string a0_3, .string a0_4, .int .u64 a0_5]) (t := 32) ?hr ?_; (case hd => rfl); (case hg => rfl); (case hr => first | (go_simp; done) | (go_simp; rfl)); intro gb169 hg w5 hbox hb; have n0_ := Aside0.mk (wT bW_ hb); have n1_ := Aside0.mk (hbox); have n2_ := Aside0.mk ((by rw [hg]; exact (wZ bW_) : w.heap.size ≤ gb169)); have n3_ := n2_; clear HB; have HB := n0_; have BK169 := n1_; have GW169 := n2_; have GE169 := n3_; clear n0_ n1_ n2_ n3_; clear hb hbox hg; have hcz6_0 := cz_ BK169.out 0; have hcz6_1 := cz_ BK169.out 1; have hcz6_2 := cz_ BK169.out 2; have hcz6_3 := cz_ BK169.out 3; have hcz6_4 := cz_ BK169.out 4; have hcz6_5 := cz_ BK169.out 5; have hfz6_0 := bF BK169.out 0; have hfz6_1 := bF BK169.out 1; have hfz6_2 := bF BK169.out 2; have hfz6_3 := bF BK169.out 3; have hfz6_4 := bF BK169.out 4; have hfz6_5 := bF BK169.out 5))
  go_ret2
  exact ⟨by first | rfl | (simp [errW_none, errW_some] <;> rfl) | (simp [*, errW_none, errW_some] <;> rfl), by repeat (first | (with_reducible first | exact HB.out | apply wA | apply wN | apply w1 | refine wS ?_ GE169.out) | exact HB.out)⟩
 ·rw [if_neg c4] at H
  have c4b0 : (a0_0 == 1) = false := beq_eq_false_iff_ne.mpr c4
  have c4b1 : (a0_0 != 1) = true := bne_iff_ne.mpr c4
  by_cases c7 : a0_0 = 3
  ·rw [if_pos c7] at H
   have c7b0 : (a0_0 == 3) = true := beq_iff_eq.mpr c7
   have c7b1 : (a0_0 != 3) = false := bne_eq_false_iff_eq.mpr c7
   clear c7
   replace H := Option.bind_eq_some_iff.mp H
   obtain ⟨t170, A80, H⟩ := H
   replace H : (some (t170, true)) = some (r1, r2) := H
   have A8 := Aside0.mk A80
   clear A80
   simp only [Option.some.injEq, Prod.mk.injEq] at H
   obtain ⟨rfl, rfl⟩ := H
   go_enter Try.func73, Try.ntmps73
   go_wp2_with (first | ((with_reducible refine gate_dst (N := 3) rfl ?_); refine box_event ?hg (N := 3) ?hd (cs := #[.int .u8 a0_0, .int .i64 a0_1, .string a0_2, .string a0_3, .string a0_4, .int .u64 a0_5]) (t := 32) ?hr ?_; (case hd => rfl); (case hg => rfl); (case hr => first | (go_simp; done) | (go_simp; rfl)); intro gb169 hg w9 hbox hb; have n0_ := Aside0.mk (wT bW_ hb); have n1_ := Aside0.mk (hbox); have n2_ := Aside0.mk ((by rw [hg]; exact (wZ bW_) : w.heap.size ≤ gb169)); have n3_ := n2_; clear HB; have HB := n0_; have BK169 := n1_; have GW169 := n2_; have GE169 := n3_; clear n0_ n1_ n2_ n3_; clear hb hbox hg; have hcz10_0 := cz_ BK169.out 0; have hcz10_1 := cz_ BK169.out 1; have hcz10_2 := cz_ BK169.out 2; have hcz10_3 := cz_ BK169.out 3; have hcz10_4 := cz_ BK169.out 4; have hcz10_5 := cz_ BK169.out 5; have hfz10_0 := bF BK169.out 0; have hfz10_1 := bF BK169.out 1; have hfz10_2 := bF BK169.out 2; have hfz10_3 := bF BK169.out 3; have hfz10_4 := bF BK169.out 4; have hfz10_5 := bF BK169.out 5) | ((with_reducible refine gate_callee (f := 108) rfl ?_); refine goesL_ (some 20) rfl rfl Try.func108 (by kernel_rfl) rfl #[.string a1, .bool a2, .int .u64 a0_5] rfl mS_ ?_; (with_reducible refine (word_Add.calls k a1 a2 a0_5 t170 _ A8.out).mono ?_); rintro e w11 ⟨rfl, hb⟩; refine ⟨_, rfl, ?_⟩; have n0_ := Aside0.mk (bB (bX_ BK169.out) hb); have n1_ := Aside0.mk (wT (bS1_ GE169.out) hb); clear BK169; clear HB; have BK169 := n0_; have HB := n1_; clear n0_ n1_; (try clear hb); (try clear hb2); (try clear hk); (try clear hi)))
   go_ret2
   exact ⟨by first | rfl | (simp [errW_none, errW_some] <;> rfl) | (simp [*, errW_none, errW_some] <;> rfl), by repeat (first | (with_reducible first | exact HB.out | apply wA | apply wN | apply w1 | refine wS ?_ GE169.out) | exact HB.out)⟩
  ·rw [if_neg c7] at H
   have c7b0 : (a0_0 == 3) = false := beq_eq_false_iff_ne.mpr c7
   have c7b1 : (a0_0 != 3) = true := bne_iff_ne.mpr c7
   have HC12 := Aside0.mk H
   clear H
   go_enter Try.func73, Try.ntmps73
   go_upto_if 21 with (first | ((with_reducible refine gate_dst (N := 3) rfl ?_); refine box_event ?hg (N := 3) ?hd (cs := #[.int .u8 a0_0, .int .i64 a0_1, .string a0_2, .string a0_3, .string a0_4, .int .u64 a0_5]) (t := 32) ?hr ?_; (case hd => rfl); (case hg => rfl); (case hr => first | (go_simp; done) | (go_simp; rfl)); intro gb169 hg w13 hbox hb; have n0_ := Aside0.mk (wT bW_ hb); have n1_ := Aside0.mk (hbox); have n2_ := Aside0.mk ((by rw [hg]; exact (wZ bW_) : w.heap.size ≤ gb169)); have n3_ := n2_; clear HB; have HB := n0_; have BK169 := n1_; have GW169 := n2_; have GE169 := n3_; clear n0_ n1_ n2_ n3_; clear hb hbox hg; have hcz14_0 := cz_ BK169.out 0; have hcz14_1 := cz_ BK169.out 1; have hcz14_2 := cz_ BK169.out 2; have hcz14_3 := cz_ BK169.out 3; have hcz14_4 := cz_ BK169.out 4; have hcz14_5 := cz_ BK169.out 5; have hfz14_0 := bF BK169.out 0; have hfz14_1 := bF BK169.out 1; have hfz14_2 := bF BK169.out 2; have hfz14_3 := bF BK169.out 3; have hfz14_4 := bF BK169.out 4; have hfz14_5 := bF BK169.out 5))
   (try simp only [Act.put, sA1, sA2, sA3])
   go_cut [21] (fun v21 wc => ∃ (kq : Nat) (x21_11 : Bool), v21 = .bool x21_11 ∧ Aside0 (msg_Apply.j0 kq a1 a2 x21_11 = some (r1, r2)) ∧ Aside0 (kq ≤ k) ∧ Aside0 (wc.heap[gb169]? = some (.cells #[.int .u8 a0_0, .int .i64 a0_1, .string a0_2, .string a0_3, .string a0_4, .int .u64 a0_5] 32 (0, 0))) ∧ Aside0 (Below w.heap.size w wc))
   case first =>
    have H := HC12.out
    clear HC12
    by_cases c15 : a0_0 = 2
    ·rw [if_pos c15] at H
     have c15b0 : (a0_0 == 2) = true := beq_iff_eq.mpr c15
     have c15b1 : (a0_0 != 2) = false := bne_eq_false_iff_eq.mpr c15
     clear c15
     (first | rw [c15b0] | (simp only [i64_w, i32_w]; rw [c15b0]) | skip)
     have H' := Aside0.mk H
     clear H
     go_wp2
     go_meet
     case rel => exact ⟨_, ((a0_0 == 2)), (by first | rfl | (simp; done) | (simp [*]; done)), H', ⟨by first | omega | exact Nat.le_refl _⟩, ⟨by (with_reducible repeat (first | refine bN ?_ _ | refine bD ?_ | refine bA ?_ _)); exact BK169.out⟩, ⟨by repeat (first | (with_reducible first | exact HB.out | apply wA | apply wN | apply w1 | refine wS ?_ GE169.out) | exact HB.out)⟩⟩
    ·rw [if_neg c15] at H
     have c15b0 : (a0_0 == 2) = false := beq_eq_false_iff_ne.mpr c15
     have c15b1 : (a0_0 != 2) = true := bne_iff_ne.mpr c15
     (first | rw [c15b0] | (simp only [i64_w, i32_w]; rw [c15b0]) | skip)
     have H' := Aside0.mk H
     clear H
     go_wp2
     go_meet
     case rel => exact ⟨_, ((a0_0 == 4)), (by first | rfl | (simp; done) | (simp [*]; done)), H', ⟨by first | omega | exact Nat.le_refl _⟩, ⟨by (with_reducible repeat (first | refine bN ?_ _ | refine bD ?_ | refine bA ?_ _)); exact BK169.out⟩, ⟨by repeat (first | (with_reducible first | exact HB.out | apply wA | apply wN | apply w1 | refine wS ?_ GE169.out) | exact HB.out)⟩⟩
   case rest =>
    clear HC12
    try clear c1
    try clear p2
    try clear c4
    try clear c4b0
    try clear c4b1
    try clear c7
    try clear c7b0
    try clear c7b1
    try clear c10
    try clear c15
    try clear c15b0
    try clear c15b1
    try clear hcz10_0
    try clear hcz10_1
    try clear hcz10_2
    try clear hcz10_3
    try clear hcz10_4
    try clear hcz10_5
    try clear hcz14_0
    try clear hcz14_1
    try clear hcz14_2
    try clear hcz14_3
    try clear hcz14_4
    try clear hcz14_5
    try clear hcz6_0
    try clear hcz6_1
    try clear hcz6_2
    try clear hcz6_3
    try clear hcz6_4
    try clear hcz6_5
    try clear hfz10_0
    try clear hfz10_1
    try clear hfz10_2
    try clear hfz10_3
    try clear hfz10_4
    try clear hfz10_5
    try clear hfz14_0
    try clear hfz14_1
    try clear hfz14_2
    try clear hfz14_3
    try clear hfz14_4
    try clear hfz14_5
    try clear hfz6_0
    try clear hfz6_1
    try clear hfz6_2
    try clear hfz6_3
    try clear hfz6_4
    try clear hfz6_5
    obtain ⟨kq, x21_11, rfl, HA, HJ11, BK169, HB⟩ := hcut
    cases kq with
    | zero => exact absurd HA.out (by simp [msg_Apply.j0])
    | succ kj11 =>
     have H := HA.out
     clear HA
     simp only [msg_Apply.j0] at H
     by_cases c16 : x21_11 = true
     ·subst c16
      have H1 : (some ((⟨#[]⟩ : BA), false)) = some (r1, r2) := by rw [if_pos rfl] at H; exact H
      clear H
      have H := H1
      clear H1
      simp only [Option.some.injEq, Prod.mk.injEq] at H
      obtain ⟨rfl, rfl⟩ := H
      go_wp2
      go_ret2
      exact ⟨by first | rfl | (simp [errW_none, errW_some] <;> rfl) | (simp [*, errW_none, errW_some] <;> rfl), by repeat (first | (with_reducible first | exact HB.out | apply wA | apply wN | apply w1 | refine wS ?_ GE169.out) | exact HB.out)⟩
     ·replace c16 := Bool.eq_false_iff.mpr c16
      subst c16
      have H1 : (if a2 = true then (some (a1, true)) else (some ((⟨#[]⟩ : BA), false))) = some (r1, r2) := by rw [if_neg (show ¬ (false = true) by decide)] at H; exact H
      clear H
      have H := H1
      clear H1
      by_cases c17 : a2 = true
      ·subst c17
       have H1 : (some (a1, true)) = some (r1, r2) := by rw [if_pos rfl] at H; exact H
       clear H
       have H := H1
       clear H1
       simp only [Option.some.injEq, Prod.mk.injEq] at H
       obtain ⟨rfl, rfl⟩ := H
       go_wp2
       go_ret2
       exact ⟨by first | rfl | (simp [errW_none, errW_some] <;> rfl) | (simp [*, errW_none, errW_some] <;> rfl), by repeat (first | (with_reducible first | exact HB.out | apply wA | apply wN | apply w1 | refine wS ?_ GE169.out) | exact HB.out)⟩
      ·replace c17 := Bool.eq_false_iff.mpr c17
       subst c17
       have H1 : (some ((⟨#[]⟩ : BA), false)) = some (r1, r2) := by rw [if_neg (show ¬ (false = true) by decide)] at H; exact H
       clear H
       have H := H1
       clear H1
       simp only [Option.some.injEq, Prod.mk.injEq] at H
       obtain ⟨rfl, rfl⟩ := H
       go_wp2
       go_ret2
       exact ⟨by first | rfl | (simp [errW_none, errW_some] <;> rfl) | (simp [*, errW_none, errW_some] <;> rfl), by repeat (first | (with_reducible first | exact HB.out | apply wA | apply wN | apply w1 | refine wS ?_ GE169.out) | exact HB.out)⟩
end Go.Proofs.Ytebejadiaooooaa.P
end
