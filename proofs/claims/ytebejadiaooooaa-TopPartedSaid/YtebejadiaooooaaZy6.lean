/- Texts of one claim (laid by shake.py). -/
import Derived.Test.YtebejadiaooooaaZy3
import Derived.Test.YtebejadiaooooaaZy4
import Derived.Test.YtebejadiaooooaaZy5
set_option linter.unusedVariables false
set_option linter.unusedSimpArgs false
section
namespace Go.Proofs.Ytebejadiaooooaa.P
open Go.RowKit Go.Proofs.YtebejadiaooooaaW.PrintWords Go.Proofs.YtebejadiaooooaaW.PrintLast Go.Proofs.YtebejadiaooooaaW.PrintMore Go.Proofs.Ytebejadiaooooaa.Own
open Bool renaming true → YY, false → ZZ
open Go.Proofs.YtebejadiaooooaaW.PrintWords renaming blk_cell → bC, blk_frozen → bF, blk_drewN → bN, blk_alloc → bA, pw_below_drewN → wN, blk_drew → bD, below_drew1 → w1, below_set → wS, below_alloc → wA, blk_below → bB, below_step → wT, below_size → wZ, cell_far → cF, blk_far → bR, blk_put → bP
open List renaming setIfInBounds_toArray → sA1, set_cons_zero → sA2, set_cons_succ → sA3, map_toArray → mA1, map_cons → mA2, map_nil → mA3, length_take → mA4, length_drop → mA5
attribute [local go_sem] max2_str max2_int min2_int max_two min_two max_three min_three max_four min_four   -- for this text's walks alone
def msg_Clip.j0 : Nat → Bool → Int → Int → ByteArray → ByteArray → ByteArray → Int → ByteArray → ByteArray → Option (Int × Int × ByteArray × ByteArray × ByteArray × Int × Bool)
 | 0, _, _, _, _, _, _, _, _, _ => none
 | k + 1, x19, x144000, x144001, x144002, x144003, x144004, x144005, x145000, x145001 => if x19 = true then (some (x144000, x144001, x144002, x144003, x144004, x144005, true)) else (if x144000 = 4 then ((msg_Span.f x144000 x144001 x144002 x144003 x144004 x144005).bind fun bt149 => ((key_Meet.f k bt149.1 bt149.2 x145000 x145001).bind fun bt151 => (if bt151.2.2 = true then (some (x144000, x144001, bt151.1, bt151.2.1, x144004, x144005, true)) else (some (0, 0, (⟨#[]⟩ : BA), (⟨#[]⟩ : BA), (⟨#[]⟩ : BA), 0, false))))) else (some (0, 0, (⟨#[]⟩ : BA), (⟨#[]⟩ : BA), (⟨#[]⟩ : BA), 0, false)))
def msg_Clip.f (k : Nat) (a0_0 : Int) (a0_1 : Int) (a0_2 : BA) (a0_3 : BA) (a0_4 : BA) (a0_5 : Int) (a1_0 : BA) (a1_1 : BA) : Option (Int × Int × ByteArray × ByteArray × ByteArray × Int × Bool) := (msg_IsPoint.f a0_0 a0_1 a0_2 a0_3 a0_4 a0_5).bind fun t146 => (if t146 = true then ((key_RightRange.f a1_0 a1_1).bind fun t147 => (if t147 = true then ((key_Holds.f a1_0 a1_1 a0_2).bind fun t148 => (msg_Clip.j0 k t148 a0_0 a0_1 a0_2 a0_3 a0_4 a0_5 a1_0 a1_1)) else (msg_Clip.j0 k false a0_0 a0_1 a0_2 a0_3 a0_4 a0_5 a1_0 a1_1))) else (msg_Clip.j0 k false a0_0 a0_1 a0_2 a0_3 a0_4 a0_5 a1_0 a1_1))
def msg_Clip.T4 : Bool × List (List Nat × List Nat) := (true, [([], []), ([0], [0]), ([], []), ([1, 2, 1], [1, 2]), ([3], [3]), ([4], [4]), ([4], [4]), ([], []), ([7, 5, 3, 0, 1, 2, 3, 4, 5, 7], [5, 7]), ([6, 8, 0, 1, 2, 3, 4, 5, 6, 7, 8], [6])])
def msg_Clip.B4 : List Nat := [0, 1, 0, 7, 15, 31, 31, 0, 191, 511]
theorem msg_Clip.tab4 : rtab .any (opsOf Try.f14 4) = msg_Clip.T4 := by kernel_rfl
theorem msg_Clip.bits4 : waitsOk msg_Clip.T4.2 msg_Clip.B4 = true := by kernel_rfl
def msg_Clip.T6 : Bool × List (List Nat × List Nat) := (true, [([], []), ([0], [0]), ([], []), ([2], [2]), ([0, 1], []), ([4, 1, 0, 1], [1, 4]), ([0, 1, 2, 3, 4, 5], []), ([6, 3, 5, 0, 1, 2, 3, 4, 5], [3, 6])])
def msg_Clip.B6 : List Nat := [0, 1, 0, 4, 3, 19, 63, 127]
theorem msg_Clip.tab6 : rtab .any (opsOf Try.f14 6) = msg_Clip.T6 := by kernel_rfl
theorem msg_Clip.bits6 : waitsOk msg_Clip.T6.2 msg_Clip.B6 = true := by kernel_rfl
set_option maxHeartbeats 8000000 in
set_option maxRecDepth 100000 in
theorem msg_Clip.calls (k : Nat) (a0_0 : Int) (a0_1 : Int) (a0_2 : BA) (a0_3 : BA) (a0_4 : BA) (a0_5 : Int) (a1_0 : BA) (a1_1 : BA) (r1 : Int) (r2 : Int) (r3 : BA) (r4 : BA) (r5 : BA) (r6 : Int) (r7 : Bool) (w : World) (h : msg_Clip.f k a0_0 a0_1 a0_2 a0_3 a0_4 a0_5 a1_0 a1_1 = some (r1, r2, r3, r4, r5, r6, r7)) :
  Calls Try.prog 14 #[.agg #[.int .u8 a0_0, .int .i64 a0_1, .string a0_2, .string a0_3, .string a0_4, .int .u64 a0_5], .agg #[.string a1_0, .string a1_1]] w fun e w' => e = .returned (.tuple #[.agg #[.int .u8 r1, .int .i64 r2, .string r3, .string r4, .string r5, .int .u64 r6], .bool r7]) ∧ Below w.heap.size w w' := by
 have hu32 := Try.underlying32
 have hu28 := Try.underlying28
 have HB := Aside0.mk (Below.refl w.heap.size w)
 have H : ((msg_IsPoint.f a0_0 a0_1 a0_2 a0_3 a0_4 a0_5).bind fun t146 => (if t146 = true then ((key_RightRange.f a1_0 a1_1).bind fun t147 => (if t147 = true then ((key_Holds.f a1_0 a1_1 a0_2).bind fun t148 => (msg_Clip.j0 k t148 a0_0 a0_1 a0_2 a0_3 a0_4 a0_5 a1_0 a1_1)) else (msg_Clip.j0 k false a0_0 a0_1 a0_2 a0_3 a0_4 a0_5 a1_0 a1_1))) else (msg_Clip.j0 k false a0_0 a0_1 a0_2 a0_3 a0_4 a0_5 a1_0 a1_1))) = some (r1, r2, r3, r4, r5, r6, r7) := h
 clear h
 have HC3 := Aside0.mk H
 clear H
 go_enter Try.func14, Try.ntmps14
 go_upto_region 1 with (first | ((with_reducible refine gate_dst (N := 2) rfl ?_); refine box_event ?hg (N := 2) ?hd (cs := #[.int .u8 a0_0, .int .i64 a0_1, .string a0_2, .string a0_3, .string a0_4, .int .u64 a0_5]) (t := 32) ?hr ?_; (case hd => rfl); (case hg => rfl); (case hr => first | (go_simp; done) | (go_simp; rfl)); intro gb143 hg w4 hbox hb; have n0_ := Aside0.mk (wT bW_ hb); have n1_ := Aside0.mk (hbox); have n2_ := Aside0.mk ((by rw [hg]; exact (wZ bW_) : w.heap.size ≤ gb143)); have n3_ := n2_; clear HB; have HB := n0_; have BK143 := n1_; have GW143 := n2_; have GE143 := n3_; clear n0_ n1_ n2_ n3_; clear hb hbox hg) | ((with_reducible refine gate_dst (N := 3) rfl ?_); refine box_event ?hg (N := 3) ?hd (cs := #[.string a1_0, .string a1_1]) (t := 28) ?hr ?_; (case hd => rfl); (case hg => rfl); (case hr => first | (go_simp; done) | (go_simp; rfl)); intro gb144 hg w5 hbox hb; have n0_ := Aside0.mk (bB (bX_ BK143.out) hb); have n1_ := Aside0.mk (wT (bS1_ GE143.out) hb); have n2_ := Aside0.mk (hbox); have n3_ := Aside0.mk ((by rw [hg]; exact (wZ (bS1_ GE143.out)) : w.heap.size ≤ gb144)); have n4_ := n3_; have n5_ := Aside0.mk ((by rw [hg]; exact Nat.ne_of_lt (blk_lt (g := gb143) (o := .cells #[.int .u8 a0_0, .int .i64 a0_1, .string a0_2, .string a0_3, .string a0_4, .int .u64 a0_5] 32 (0, 0)) (bX_ BK143.out)) : gb143 ≠ gb144)); have n6_ := Aside0.mk ((by rw [hg]; exact Nat.ne_of_gt (blk_lt (g := gb143) (o := .cells #[.int .u8 a0_0, .int .i64 a0_1, .string a0_2, .string a0_3, .string a0_4, .int .u64 a0_5] 32 (0, 0)) (bX_ BK143.out)) : gb144 ≠ gb143)); clear BK143; clear HB; have BK143 := n0_; have HB := n1_; have BK144 := n2_; have GW144 := n3_; have GE144 := n4_; have NB143_144 := n5_; have NB144_143 := n6_; clear n0_ n1_ n2_ n3_ n4_ n5_ n6_; clear hb hbox hg) | ((with_reducible refine gate_dst (N := 4) rfl ?_); refine box_event ?hg (N := 4) ?hd (cs := #[.int .u8 0, .int .i64 0, .string (⟨#[]⟩ : BA), .string (⟨#[]⟩ : BA), .string (⟨#[]⟩ : BA), .int .u64 0]) (t := 32) ?hr ?_; (case hd => rfl); (case hg => rfl); (case hr => first | (go_simp; done) | (go_simp; rfl)); intro gb145 hg w6 hbox hb; have n0_ := Aside0.mk (bB (bX_ BK143.out) hb); have n1_ := Aside0.mk (bB (bX_ BK144.out) hb); have n2_ := Aside0.mk (wT (bS2_ GE143.out GE144.out) hb); have n3_ := Aside0.mk (hbox); have n4_ := Aside0.mk ((by rw [hg]; exact (wZ (bS2_ GE143.out GE144.out)) : w.heap.size ≤ gb145)); have n5_ := n4_; have n6_ := Aside0.mk ((by rw [hg]; exact Nat.ne_of_lt (blk_lt (g := gb143) (o := .cells #[.int .u8 a0_0, .int .i64 a0_1, .string a0_2, .string a0_3, .string a0_4, .int .u64 a0_5] 32 (0, 0)) (bX_ BK143.out)) : gb143 ≠ gb145)); have n7_ := Aside0.mk ((by rw [hg]; exact Nat.ne_of_gt (blk_lt (g := gb143) (o := .cells #[.int .u8 a0_0, .int .i64 a0_1, .string a0_2, .string a0_3, .string a0_4, .int .u64 a0_5] 32 (0, 0)) (bX_ BK143.out)) : gb145 ≠ gb143)); have n8_ := Aside0.mk ((by rw [hg]; exact Nat.ne_of_lt (blk_lt (g := gb144) (o := .cells #[.string a1_0, .string a1_1] 28 (0, 0)) (bX_ BK144.out)) : gb144 ≠ gb145)); have n9_ := Aside0.mk ((by rw [hg]; exact Nat.ne_of_gt (blk_lt (g := gb144) (o := .cells #[.string a1_0, .string a1_1] 28 (0, 0)) (bX_ BK144.out)) : gb145 ≠ gb144)); clear BK143; clear BK144; clear HB; have BK143 := n0_; have BK144 := n1_; have HB := n2_; have BK145 := n3_; have GW145 := n4_; have GE145 := n5_; have NB143_145 := n6_; have NB145_143 := n7_; have NB144_145 := n8_; have NB145_144 := n9_; clear n0_ n1_ n2_ n3_ n4_ n5_ n6_ n7_ n8_ n9_; clear hb hbox hg))
 (try simp only [Act.put, sA1, sA2, sA3])
 go_cut [19] (fun v19 wc => ∃ (kq : Nat) (x19_2 : Bool), v19 = .bool x19_2 ∧ Aside0 (msg_Clip.j0 kq x19_2 a0_0 a0_1 a0_2 a0_3 a0_4 a0_5 a1_0 a1_1 = some (r1, r2, r3, r4, r5, r6, r7)) ∧ Aside0 (kq ≤ k) ∧ Aside0 (wc.heap[gb143]? = some (.cells #[.int .u8 a0_0, .int .i64 a0_1, .string a0_2, .string a0_3, .string a0_4, .int .u64 a0_5] 32 (0, 0))) ∧ Aside0 (wc.heap[gb144]? = some (.cells #[.string a1_0, .string a1_1] 28 (0, 0))) ∧ Aside0 (wc.heap[gb145]? = some (.cells #[.int .u8 0, .int .i64 0, .string (⟨#[]⟩ : BA), .string (⟨#[]⟩ : BA), .string (⟨#[]⟩ : BA), .int .u64 0] 32 (0, 0))) ∧ Aside0 (Below w.heap.size w wc))
 case first =>
  have H := HC3.out
  clear HC3
  replace H := Option.bind_eq_some_iff.mp H
  obtain ⟨t146, A70, H⟩ := H
  replace H : (if t146 = true then ((key_RightRange.f a1_0 a1_1).bind fun t147 => (if t147 = true then ((key_Holds.f a1_0 a1_1 a0_2).bind fun t148 => (msg_Clip.j0 k t148 a0_0 a0_1 a0_2 a0_3 a0_4 a0_5 a1_0 a1_1)) else (msg_Clip.j0 k false a0_0 a0_1 a0_2 a0_3 a0_4 a0_5 a1_0 a1_1))) else (msg_Clip.j0 k false a0_0 a0_1 a0_2 a0_3 a0_4 a0_5 a1_0 a1_1)) = some (r1, r2, r3, r4, r5, r6, r7) := H
  have A7 := Aside0.mk A70
  clear A70
  by_cases c8 : t146 = true
  ·subst c8
   have H1 : ((key_RightRange.f a1_0 a1_1).bind fun t147 => (if t147 = true then ((key_Holds.f a1_0 a1_1 a0_2).bind fun t148 => (msg_Clip.j0 k t148 a0_0 a0_1 a0_2 a0_3 a0_4 a0_5 a1_0 a1_1)) else (msg_Clip.j0 k false a0_0 a0_1 a0_2 a0_3 a0_4 a0_5 a1_0 a1_1))) = some (r1, r2, r3, r4, r5, r6, r7) := by rw [if_pos rfl] at H; exact H
   clear H
   have H := H1
   clear H1
   replace H := Option.bind_eq_some_iff.mp H
   obtain ⟨t147, A90, H⟩ := H
   replace H : (if t147 = true then ((key_Holds.f a1_0 a1_1 a0_2).bind fun t148 => (msg_Clip.j0 k t148 a0_0 a0_1 a0_2 a0_3 a0_4 a0_5 a1_0 a1_1)) else (msg_Clip.j0 k false a0_0 a0_1 a0_2 a0_3 a0_4 a0_5 a1_0 a1_1)) = some (r1, r2, r3, r4, r5, r6, r7) := H
   have A9 := Aside0.mk A90
   clear A90
   by_cases c10 : t147 = true
   ·subst c10
    have H1 : ((key_Holds.f a1_0 a1_1 a0_2).bind fun t148 => (msg_Clip.j0 k t148 a0_0 a0_1 a0_2 a0_3 a0_4 a0_5 a1_0 a1_1)) = some (r1, r2, r3, r4, r5, r6, r7) := by rw [if_pos rfl] at H; exact H
    clear H
    have H := H1
    clear H1
    replace H := Option.bind_eq_some_iff.mp H
    obtain ⟨t148, A110, H⟩ := H
    replace H : (msg_Clip.j0 k t148 a0_0 a0_1 a0_2 a0_3 a0_4 a0_5 a1_0 a1_1) = some (r1, r2, r3, r4, r5, r6, r7) := H
    have A11 := Aside0.mk A110
    clear A110
    have H' := Aside0.mk H
    clear H
    have hnb12 := NB143_144.out
    have hnc12 := NB144_143.out
    have hnb13 := NB143_145.out
    have hnc13 := NB145_143.out
    have hcz14_0 := cz_ BK143.out 0
    have hcz14_1 := cz_ BK143.out 1
    have hcz14_2 := cz_ BK143.out 2
    have hcz14_3 := cz_ BK143.out 3
    have hcz14_4 := cz_ BK143.out 4
    have hcz14_5 := cz_ BK143.out 5
    have hfz14_0 := bF BK143.out 0
    have hfz14_1 := bF BK143.out 1
    have hfz14_2 := bF BK143.out 2
    have hfz14_3 := bF BK143.out 3
    have hfz14_4 := bF BK143.out 4
    have hfz14_5 := bF BK143.out 5
    go_wp2_with (first | ((with_reducible refine gate_callee (f := 55) rfl ?_); refine goesL_ (some 9) rfl rfl Try.func55 (by kernel_rfl) rfl #[.agg #[.int .u8 a0_0, .int .i64 a0_1, .string a0_2, .string a0_3, .string a0_4, .int .u64 a0_5]] rfl mS_ ?_; (with_reducible refine (msg_IsPoint.calls a0_0 a0_1 a0_2 a0_3 a0_4 a0_5 true _ A7.out).mono ?_); rintro e w15 ⟨rfl, hb⟩; refine ⟨_, rfl, ?_⟩; have n0_ := Aside0.mk (bB (bX_ BK143.out) hb); have n1_ := Aside0.mk (bB (bX_ BK144.out) hb); have n2_ := Aside0.mk (bB (bX_ BK145.out) hb); have n3_ := Aside0.mk (wT (bS3_ GE143.out GE144.out GE145.out) hb); clear BK143; clear BK144; clear BK145; clear HB; have BK143 := n0_; have BK144 := n1_; have BK145 := n2_; have HB := n3_; clear n0_ n1_ n2_ n3_; (try clear hb); (try clear hb2); (try clear hk); (try clear hi); have hnb16 := NB144_145.out; have hnc16 := NB145_144.out; have hcz17_0 := cz_ BK144.out 0; have hcz17_1 := cz_ BK144.out 1; have hfz17_0 := bF BK144.out 0; have hfz17_1 := bF BK144.out 1) | (go_at_call 53; (with_reducible refine (key_RightRange.calls a1_0 a1_1 true _ A9.out).mono ?_); rintro e w18 ⟨rfl, hb⟩; have n0_ := Aside0.mk (bB (bX_ BK143.out) hb); have n1_ := Aside0.mk (bB (bX_ BK144.out) hb); have n2_ := Aside0.mk (bB (bX_ BK145.out) hb); have n3_ := Aside0.mk (wT (bS3_ GE143.out GE144.out GE145.out) hb); clear BK143; clear BK144; clear BK145; clear HB; have BK143 := n0_; have BK144 := n1_; have BK145 := n2_; have HB := n3_; clear n0_ n1_ n2_ n3_; (try clear hb); (try clear hb2); (try clear hk); (try clear hi); have hcz19_0 := cz_ BK144.out 0; have hcz19_1 := cz_ BK144.out 1; have hfz19_0 := bF BK144.out 0; have hfz19_1 := bF BK144.out 1; have hcz20_0 := cz_ BK143.out 0; have hcz20_1 := cz_ BK143.out 1; have hcz20_2 := cz_ BK143.out 2; have hcz20_3 := cz_ BK143.out 3; have hcz20_4 := cz_ BK143.out 4; have hcz20_5 := cz_ BK143.out 5; have hfz20_0 := bF BK143.out 0; have hfz20_1 := bF BK143.out 1; have hfz20_2 := bF BK143.out 2; have hfz20_3 := bF BK143.out 3; have hfz20_4 := bF BK143.out 4; have hfz20_5 := bF BK143.out 5) | (go_at_call 56; (with_reducible refine (key_Holds.calls a1_0 a1_1 a0_2 t148 _ A11.out).mono ?_); rintro e w21 ⟨rfl, hb⟩; have n0_ := Aside0.mk (bB (bX_ BK143.out) hb); have n1_ := Aside0.mk (bB (bX_ BK144.out) hb); have n2_ := Aside0.mk (bB (bX_ BK145.out) hb); have n3_ := Aside0.mk (wT (bS3_ GE143.out GE144.out GE145.out) hb); clear BK143; clear BK144; clear BK145; clear HB; have BK143 := n0_; have BK144 := n1_; have BK145 := n2_; have HB := n3_; clear n0_ n1_ n2_ n3_; (try clear hb); (try clear hb2); (try clear hk); (try clear hi)))
    go_meet
    case rel => exact ⟨_, (t148), (by first | rfl | (simp; done) | (simp [*]; done)), H', ⟨by first | omega | exact Nat.le_refl _⟩, ⟨by (with_reducible repeat (first | refine bN ?_ _ | refine bD ?_ | refine bA ?_ _)); exact BK143.out⟩, ⟨by (with_reducible repeat (first | refine bN ?_ _ | refine bD ?_ | refine bA ?_ _)); exact BK144.out⟩, ⟨by (with_reducible repeat (first | refine bN ?_ _ | refine bD ?_ | refine bA ?_ _)); exact BK145.out⟩, ⟨by repeat (first | (with_reducible first | exact HB.out | apply wA | apply wN | apply w1 | refine wS ?_ GE143.out | refine wS ?_ GE144.out | refine wS ?_ GE145.out) | exact HB.out)⟩⟩
   ·replace c10 := Bool.eq_false_iff.mpr c10
    subst c10
    have H1 : (msg_Clip.j0 k false a0_0 a0_1 a0_2 a0_3 a0_4 a0_5 a1_0 a1_1) = some (r1, r2, r3, r4, r5, r6, r7) := by rw [if_neg (show ¬ (false = true) by decide)] at H; exact H
    clear H
    have H := H1
    clear H1
    have H' := Aside0.mk H
    clear H
    have hnb22 := NB143_144.out
    have hnc22 := NB144_143.out
    have hnb23 := NB143_145.out
    have hnc23 := NB145_143.out
    have hcz24_0 := cz_ BK143.out 0
    have hcz24_1 := cz_ BK143.out 1
    have hcz24_2 := cz_ BK143.out 2
    have hcz24_3 := cz_ BK143.out 3
    have hcz24_4 := cz_ BK143.out 4
    have hcz24_5 := cz_ BK143.out 5
    have hfz24_0 := bF BK143.out 0
    have hfz24_1 := bF BK143.out 1
    have hfz24_2 := bF BK143.out 2
    have hfz24_3 := bF BK143.out 3
    have hfz24_4 := bF BK143.out 4
    have hfz24_5 := bF BK143.out 5
    go_wp2_with (first | ((with_reducible refine gate_callee (f := 55) rfl ?_); refine goesL_ (some 9) rfl rfl Try.func55 (by kernel_rfl) rfl #[.agg #[.int .u8 a0_0, .int .i64 a0_1, .string a0_2, .string a0_3, .string a0_4, .int .u64 a0_5]] rfl mS_ ?_; (with_reducible refine (msg_IsPoint.calls a0_0 a0_1 a0_2 a0_3 a0_4 a0_5 true _ A7.out).mono ?_); rintro e w25 ⟨rfl, hb⟩; refine ⟨_, rfl, ?_⟩; have n0_ := Aside0.mk (bB (bX_ BK143.out) hb); have n1_ := Aside0.mk (bB (bX_ BK144.out) hb); have n2_ := Aside0.mk (bB (bX_ BK145.out) hb); have n3_ := Aside0.mk (wT (bS3_ GE143.out GE144.out GE145.out) hb); clear BK143; clear BK144; clear BK145; clear HB; have BK143 := n0_; have BK144 := n1_; have BK145 := n2_; have HB := n3_; clear n0_ n1_ n2_ n3_; (try clear hb); (try clear hb2); (try clear hk); (try clear hi); have hnb26 := NB144_145.out; have hnc26 := NB145_144.out; have hcz27_0 := cz_ BK144.out 0; have hcz27_1 := cz_ BK144.out 1; have hfz27_0 := bF BK144.out 0; have hfz27_1 := bF BK144.out 1) | (go_at_call 53; (with_reducible refine (key_RightRange.calls a1_0 a1_1 false _ A9.out).mono ?_); rintro e w28 ⟨rfl, hb⟩; have n0_ := Aside0.mk (bB (bX_ BK143.out) hb); have n1_ := Aside0.mk (bB (bX_ BK144.out) hb); have n2_ := Aside0.mk (bB (bX_ BK145.out) hb); have n3_ := Aside0.mk (wT (bS3_ GE143.out GE144.out GE145.out) hb); clear BK143; clear BK144; clear BK145; clear HB; have BK143 := n0_; have BK144 := n1_; have BK145 := n2_; have HB := n3_; clear n0_ n1_ n2_ n3_; (try clear hb); (try clear hb2); (try clear hk); (try clear hi)))
    go_meet
    case rel => exact ⟨_, (false), (by first | rfl | (simp; done) | (simp [*]; done)), H', ⟨by first | omega | exact Nat.le_refl _⟩, ⟨by (with_reducible repeat (first | refine bN ?_ _ | refine bD ?_ | refine bA ?_ _)); exact BK143.out⟩, ⟨by (with_reducible repeat (first | refine bN ?_ _ | refine bD ?_ | refine bA ?_ _)); exact BK144.out⟩, ⟨by (with_reducible repeat (first | refine bN ?_ _ | refine bD ?_ | refine bA ?_ _)); exact BK145.out⟩, ⟨by repeat (first | (with_reducible first | exact HB.out | apply wA | apply wN | apply w1 | refine wS ?_ GE143.out | refine wS ?_ GE144.out | refine wS ?_ GE145.out) | exact HB.out)⟩⟩
  ·replace c8 := Bool.eq_false_iff.mpr c8
   subst c8
   have H1 : (msg_Clip.j0 k false a0_0 a0_1 a0_2 a0_3 a0_4 a0_5 a1_0 a1_1) = some (r1, r2, r3, r4, r5, r6, r7) := by rw [if_neg (show ¬ (false = true) by decide)] at H; exact H
   clear H
   have H := H1
   clear H1
   have H' := Aside0.mk H
   clear H
   have hnb29 := NB143_144.out
   have hnc29 := NB144_143.out
   have hnb30 := NB143_145.out
   have hnc30 := NB145_143.out
   have hcz31_0 := cz_ BK143.out 0
   have hcz31_1 := cz_ BK143.out 1
   have hcz31_2 := cz_ BK143.out 2
   have hcz31_3 := cz_ BK143.out 3
   have hcz31_4 := cz_ BK143.out 4
   have hcz31_5 := cz_ BK143.out 5
   have hfz31_0 := bF BK143.out 0
   have hfz31_1 := bF BK143.out 1
   have hfz31_2 := bF BK143.out 2
   have hfz31_3 := bF BK143.out 3
   have hfz31_4 := bF BK143.out 4
   have hfz31_5 := bF BK143.out 5
   go_wp2_with (first | ((with_reducible refine gate_callee (f := 55) rfl ?_); refine goesL_ (some 9) rfl rfl Try.func55 (by kernel_rfl) rfl #[.agg #[.int .u8 a0_0, .int .i64 a0_1, .string a0_2, .string a0_3, .string a0_4, .int .u64 a0_5]] rfl mS_ ?_; (with_reducible refine (msg_IsPoint.calls a0_0 a0_1 a0_2 a0_3 a0_4 a0_5 false _ A7.out).mono ?_); rintro e w32 ⟨rfl, hb⟩; refine ⟨_, rfl, ?_⟩; have n0_ := Aside0.mk (bB (bX_ BK143.out) hb); have n1_ := Aside0.mk (bB (bX_ BK144.out) hb); have n2_ := Aside0.mk (bB (bX_ BK145.out) hb); have n3_ := Aside0.mk (wT (bS3_ GE143.out GE144.out GE145.out) hb); clear BK143; clear BK144; clear BK145; clear HB; have BK143 := n0_; have BK144 := n1_; have BK145 := n2_; have HB := n3_; clear n0_ n1_ n2_ n3_; (try clear hb); (try clear hb2); (try clear hk); (try clear hi)))
   go_meet
   case rel => exact ⟨_, (false), (by first | rfl | (simp; done) | (simp [*]; done)), H', ⟨by first | omega | exact Nat.le_refl _⟩, ⟨by (with_reducible repeat (first | refine bN ?_ _ | refine bD ?_ | refine bA ?_ _)); exact BK143.out⟩, ⟨by (with_reducible repeat (first | refine bN ?_ _ | refine bD ?_ | refine bA ?_ _)); exact BK144.out⟩, ⟨by (with_reducible repeat (first | refine bN ?_ _ | refine bD ?_ | refine bA ?_ _)); exact BK145.out⟩, ⟨by repeat (first | (with_reducible first | exact HB.out | apply wA | apply wN | apply w1 | refine wS ?_ GE143.out | refine wS ?_ GE144.out | refine wS ?_ GE145.out) | exact HB.out)⟩⟩
 case rest =>
  clear HC3
  try clear c1
  try clear c2
  try clear p2
  try clear c3
  try clear c5
  try clear c8
  try clear c10
  try clear c12
  try clear c13
  try clear c14
  try clear c16
  try clear c22
  try clear c23
  try clear c26
  try clear c29
  try clear c30
  try clear hcz14_0
  try clear hcz14_1
  try clear hcz14_2
  try clear hcz14_3
  try clear hcz14_4
  try clear hcz14_5
  try clear hcz17_0
  try clear hcz17_1
  try clear hcz19_0
  try clear hcz19_1
  try clear hcz20_0
  try clear hcz20_1
  try clear hcz20_2
  try clear hcz20_3
  try clear hcz20_4
  try clear hcz20_5
  try clear hcz24_0
  try clear hcz24_1
  try clear hcz24_2
  try clear hcz24_3
  try clear hcz24_4
  try clear hcz24_5
  try clear hcz27_0
  try clear hcz27_1
  try clear hcz31_0
  try clear hcz31_1
  try clear hcz31_2
  try clear hcz31_3
  try clear hcz31_4
  try clear hcz31_5
  try clear hfz14_0
  try clear hfz14_1
  try clear hfz14_2
  try clear hfz14_3
  try clear hfz14_4
  try clear hfz14_5
  try clear hfz17_0
  try clear hfz17_1
  try clear hfz19_0
  try clear hfz19_1
  try clear hfz20_0
  try clear hfz20_1
  try clear hfz20_2
  try clear hfz20_3
  try clear hfz20_4
  try clear hfz20_5
  try clear hfz24_0
  try clear hfz24_1
  try clear hfz24_2
  try clear hfz24_3
  try clear hfz24_4
  try clear hfz24_5
  try clear hfz27_0
  try clear hfz27_1
  try clear hfz31_0
  try clear hfz31_1
  try clear hfz31_2
  try clear hfz31_3
  try clear hfz31_4
  try clear hfz31_5
  obtain ⟨kq, x19_2, rfl, HA, HJ2, BK143, BK144, BK145, HB⟩ := hcut
  cases kq with
  | zero => exact absurd HA.out (by simp [msg_Clip.j0])
  | succ kj2 =>
   have H := HA.out
   clear HA
   simp only [msg_Clip.j0] at H
   by_cases c33 : x19_2 = true
   ·subst c33
    have H1 : (some (a0_0, a0_1, a0_2, a0_3, a0_4, a0_5, true)) = some (r1, r2, r3, r4, r5, r6, r7) := by rw [if_pos rfl] at H; exact H
    clear H
    have H := H1
    clear H1
    simp only [Option.some.injEq, Prod.mk.injEq] at H
    obtain ⟨rfl, rfl, rfl, rfl, rfl, rfl, rfl⟩ := H
    have hnb34 := NB143_144.out
    have hnc34 := NB144_143.out
    have hnb35 := NB143_145.out
    have hnc35 := NB145_143.out
    have hcz36_0 := cz_ BK143.out 0
    have hcz36_1 := cz_ BK143.out 1
    have hcz36_2 := cz_ BK143.out 2
    have hcz36_3 := cz_ BK143.out 3
    have hcz36_4 := cz_ BK143.out 4
    have hcz36_5 := cz_ BK143.out 5
    have hfz36_0 := bF BK143.out 0
    have hfz36_1 := bF BK143.out 1
    have hfz36_2 := bF BK143.out 2
    have hfz36_3 := bF BK143.out 3
    have hfz36_4 := bF BK143.out 4
    have hfz36_5 := bF BK143.out 5
    have hnb37 := NB145_144.out
    have hnc37 := NB144_145.out
    have hcz38_0 := cz_ BK145.out 0
    have hcz38_1 := cz_ BK145.out 1
    have hcz38_2 := cz_ BK145.out 2
    have hcz38_3 := cz_ BK145.out 3
    have hcz38_4 := cz_ BK145.out 4
    have hcz38_5 := cz_ BK145.out 5
    have hfz38_0 := bF BK145.out 0
    have hfz38_1 := bF BK145.out 1
    have hfz38_2 := bF BK145.out 2
    have hfz38_3 := bF BK145.out 3
    have hfz38_4 := bF BK145.out 4
    have hfz38_5 := bF BK145.out 5
    go_wp2
    refine bodyPost_ret (results_ct rfl _ _ gb145 32 #[.int .u8 a0_0, .int .i64 a0_1, .string a0_2, .string a0_3, .string a0_4, .int .u64 a0_5] (0, 0) _ rfl (by (with_reducible repeat (first | refine bN ?_ _ | refine bD ?_ | refine bA ?_ _)); refine bP (cs := #[.int .u8 a0_0, .int .i64 a0_1, .string a0_2, .string a0_3, .string a0_4, .int .u64 0]) ?_ 5 _ rfl; (with_reducible repeat (first | refine bN ?_ _ | refine bD ?_ | refine bA ?_ _)); refine bP (cs := #[.int .u8 a0_0, .int .i64 a0_1, .string a0_2, .string a0_3, .string (⟨#[]⟩ : BA), .int .u64 0]) ?_ 4 _ rfl; (with_reducible repeat (first | refine bN ?_ _ | refine bD ?_ | refine bA ?_ _)); refine bP (cs := #[.int .u8 a0_0, .int .i64 a0_1, .string a0_2, .string (⟨#[]⟩ : BA), .string (⟨#[]⟩ : BA), .int .u64 0]) ?_ 3 _ rfl; (with_reducible repeat (first | refine bN ?_ _ | refine bD ?_ | refine bA ?_ _)); refine bP (cs := #[.int .u8 a0_0, .int .i64 a0_1, .string (⟨#[]⟩ : BA), .string (⟨#[]⟩ : BA), .string (⟨#[]⟩ : BA), .int .u64 0]) ?_ 2 _ rfl; (with_reducible repeat (first | refine bN ?_ _ | refine bD ?_ | refine bA ?_ _)); refine bP (cs := #[.int .u8 a0_0, .int .i64 0, .string (⟨#[]⟩ : BA), .string (⟨#[]⟩ : BA), .string (⟨#[]⟩ : BA), .int .u64 0]) ?_ 1 _ rfl; (with_reducible repeat (first | refine bN ?_ _ | refine bD ?_ | refine bA ?_ _)); refine bP (cs := #[.int .u8 0, .int .i64 0, .string (⟨#[]⟩ : BA), .string (⟨#[]⟩ : BA), .string (⟨#[]⟩ : BA), .int .u64 0]) ?_ 0 _ rfl; (with_reducible repeat (first | refine bN ?_ _ | refine bD ?_ | refine bA ?_ _)); exact BK145.out) Try.underlying32 rfl (by kernel_rfl)) rfl ?_
    exact ⟨by first | rfl | (simp [errW_none, errW_some] <;> rfl) | (simp [*, errW_none, errW_some] <;> rfl), by repeat (first | (with_reducible first | exact HB.out | apply wA | apply wN | apply w1 | refine wS ?_ GE143.out | refine wS ?_ GE144.out | refine wS ?_ GE145.out) | exact HB.out)⟩
   ·replace c33 := Bool.eq_false_iff.mpr c33
    subst c33
    have H1 : (if a0_0 = 4 then ((msg_Span.f a0_0 a0_1 a0_2 a0_3 a0_4 a0_5).bind fun bt149 => ((key_Meet.f kj2 bt149.1 bt149.2 a1_0 a1_1).bind fun bt151 => (if bt151.2.2 = true then (some (a0_0, a0_1, bt151.1, bt151.2.1, a0_4, a0_5, true)) else (some (0, 0, (⟨#[]⟩ : BA), (⟨#[]⟩ : BA), (⟨#[]⟩ : BA), 0, false))))) else (some (0, 0, (⟨#[]⟩ : BA), (⟨#[]⟩ : BA), (⟨#[]⟩ : BA), 0, false))) = some (r1, r2, r3, r4, r5, r6, r7) := by rw [if_neg (show ¬ (false = true) by decide)] at H; exact H
    clear H
    have H := H1
    clear H1
    by_cases c39 : a0_0 = 4
    ·rw [if_pos c39] at H
     have c39b0 : (a0_0 == 4) = true := beq_iff_eq.mpr c39
     have c39b1 : (a0_0 != 4) = false := bne_eq_false_iff_eq.mpr c39
     clear c39
     replace H := Option.bind_eq_some_iff.mp H
     obtain ⟨⟨t149, t150⟩, A400, H⟩ := H
     replace H : ((key_Meet.f kj2 t149 t150 a1_0 a1_1).bind fun bt151 => (if bt151.2.2 = true then (some (a0_0, a0_1, bt151.1, bt151.2.1, a0_4, a0_5, true)) else (some (0, 0, (⟨#[]⟩ : BA), (⟨#[]⟩ : BA), (⟨#[]⟩ : BA), 0, false)))) = some (r1, r2, r3, r4, r5, r6, r7) := H
     have A40 := Aside0.mk A400
     clear A400
     replace H := Option.bind_eq_some_iff.mp H
     obtain ⟨⟨t151, t152, t153⟩, A410, H⟩ := H
     replace H : (if t153 = true then (some (a0_0, a0_1, t151, t152, a0_4, a0_5, true)) else (some (0, 0, (⟨#[]⟩ : BA), (⟨#[]⟩ : BA), (⟨#[]⟩ : BA), 0, false))) = some (r1, r2, r3, r4, r5, r6, r7) := H
     have A41 := Aside0.mk A410
     clear A410
     by_cases c42 : t153 = true
     ·subst c42
      have H1 : (some (a0_0, a0_1, t151, t152, a0_4, a0_5, true)) = some (r1, r2, r3, r4, r5, r6, r7) := by rw [if_pos rfl] at H; exact H
      clear H
      have H := H1
      clear H1
      simp only [Option.some.injEq, Prod.mk.injEq] at H
      obtain ⟨rfl, rfl, rfl, rfl, rfl, rfl, rfl⟩ := H
      have hnb43 := NB143_144.out
      have hnc43 := NB144_143.out
      have hnb44 := NB143_145.out
      have hnc44 := NB145_143.out
      have hcz45_0 := cz_ BK143.out 0
      have hcz45_1 := cz_ BK143.out 1
      have hcz45_2 := cz_ BK143.out 2
      have hcz45_3 := cz_ BK143.out 3
      have hcz45_4 := cz_ BK143.out 4
      have hcz45_5 := cz_ BK143.out 5
      have hfz45_0 := bF BK143.out 0
      have hfz45_1 := bF BK143.out 1
      have hfz45_2 := bF BK143.out 2
      have hfz45_3 := bF BK143.out 3
      have hfz45_4 := bF BK143.out 4
      have hfz45_5 := bF BK143.out 5
      try go_wp2
      have n0_ := Aside0.mk (bD BK143.out)
      have n1_ := Aside0.mk (bD BK144.out)
      have n2_ := Aside0.mk (bD BK145.out)
      have n3_ := Aside0.mk (w1 HB.out)
      clear BK143
      clear BK144
      clear BK145
      clear HB
      have BK143 := n0_
      have BK144 := n1_
      have BK145 := n2_
      have HB := n3_
      clear n0_ n1_ n2_ n3_
      refine start_ (n := 10) (S := fun w' => w'.cell? ⟨gb143, 0, none⟩ = some (.int .u8 a0_0) ∧ w'.cell? ⟨gb143, 1, none⟩ = some (.int .i64 a0_1) ∧ w'.cell? ⟨gb143, 2, none⟩ = some (.string a0_2) ∧ w'.cell? ⟨gb143, 3, none⟩ = some (.string a0_3) ∧ w'.cell? ⟨gb143, 4, none⟩ = some (.string a0_4) ∧ w'.cell? ⟨gb143, 5, none⟩ = some (.int .u64 a0_5) ∧ w'.cell? ⟨gb144, 0, none⟩ = some (.string a1_0) ∧ w'.cell? ⟨gb144, 1, none⟩ = some (.string a1_1)) (ds := []) #[ZZ,ZZ,ZZ,ZZ,ZZ,ZZ,ZZ,ZZ,ZZ,ZZ] (by kernel_rfl) rfl rfl ⟨(bC BK143.out 0).trans rfl, (bC BK143.out 1).trans rfl, (bC BK143.out 2).trans rfl, (bC BK143.out 3).trans rfl, (bC BK143.out 4).trans rfl, (bC BK143.out 5).trans rfl, (bC BK144.out 0).trans rfl, (bC BK144.out 1).trans rfl⟩ (fun hHeld => ?_); refine with_tabW msg_Clip.tab4 msg_Clip.bits4 (fun HT_ HW_ => ?_)
      generalize wc.drew = w46 at BK143 BK144 BK145 HB hHeld ⊢
      refine take_ (i := 0) (N := some 25) (v := ?_) (a' := ?_) #[YY,ZZ,ZZ,ZZ,ZZ,ZZ,ZZ,ZZ,ZZ,ZZ] rfl rfl (take_ofW HT_.out HW_.out (by kernel_rfl)) (fun _ _ _ h => h) (Or.inl ⟨by rfl, ?_⟩) hHeld ?_ ?_
      rotate_left
      ·rintro w' ⟨s0, s1, s2, s3, s4, s5, s6, s7⟩
       go_simp
       with_reducible rfl
      rotate_left
      ·simp only [Act.put, sA1, sA2, sA3, i64_w, i32_w]
       rfl
      refine take_ (i := 2) (N := some 27) (v := ?_) (a' := ?_) #[YY,ZZ,YY,ZZ,ZZ,ZZ,ZZ,ZZ,ZZ,ZZ] rfl rfl (take_ofW HT_.out HW_.out (by kernel_rfl)) (fun _ _ _ h => h) (Or.inl ⟨by rfl, ?_⟩) hHeld ?_ ?_
      rotate_left
      ·rintro w' ⟨s0, s1, s2, s3, s4, s5, s6, s7⟩
       go_simp
       with_reducible rfl
      rotate_left
      ·simp only [Act.put, sA1, sA2, sA3, i64_w, i32_w]
       rfl
      refine join_ (σ := Nat) 2 #[YY,YY,YY,YY,YY,YY,YY,YY,ZZ,ZZ] (fun s_ => [(26, .agg #[.string t149, .string t150]), (28, .tuple #[.agg #[.string t151, .string t152], .bool true]), (6, .pointer (some ⟨s_, 0, none⟩)), (24, .tuple #[.agg #[.string t151, .string t152], .bool true]), (29, .agg #[.string t151, .string t152]), (30, .bool true)]) (fun s_ w' => (w'.cell? ⟨gb143, 0, none⟩ = some (.int .u8 a0_0) ∧ w'.cell? ⟨gb143, 1, none⟩ = some (.int .i64 a0_1) ∧ w'.cell? ⟨gb143, 2, none⟩ = some (.string a0_2) ∧ w'.cell? ⟨gb143, 3, none⟩ = some (.string a0_3) ∧ w'.cell? ⟨gb143, 4, none⟩ = some (.string a0_4) ∧ w'.cell? ⟨gb143, 5, none⟩ = some (.int .u64 a0_5) ∧ w'.cell? ⟨gb144, 0, none⟩ = some (.string a1_0) ∧ w'.cell? ⟨gb144, 1, none⟩ = some (.string a1_1)) ∧ (w'.heap[gb143]? = some (.cells #[.int .u8 a0_0, .int .i64 a0_1, .string a0_2, .string a0_3, .string a0_4, .int .u64 a0_5] 32 (0, 0))) ∧ (w'.heap[gb144]? = some (.cells #[.string a1_0, .string a1_1] 28 (0, 0))) ∧ (w'.heap[gb145]? = some (.cells #[.int .u8 0, .int .i64 0, .string (⟨#[]⟩ : BA), .string (⟨#[]⟩ : BA), .string (⟨#[]⟩ : BA), .int .u64 0] 32 (0, 0))) ∧ (w'.heap[s_]? = some (.cells #[.string (⟨#[]⟩ : BA), .string (⟨#[]⟩ : BA)] 28 (0, 0))) ∧ (w.heap.size ≤ s_) ∧ (w.heap.size ≤ s_) ∧ (gb143 ≠ s_) ∧ (s_ ≠ gb143) ∧ (gb144 ≠ s_) ∧ (s_ ≠ gb144) ∧ (gb145 ≠ s_) ∧ (s_ ≠ gb145) ∧ (Below w.heap.size w w')) ?_ ?_
      rotate_left
      ·intro hCont
       refine two_ (i := 1) (j := 7) (Ni := some 26) (Nj := some 6) #[YY,YY,YY,ZZ,ZZ,ZZ,ZZ,ZZ,ZZ,ZZ] #[YY,ZZ,YY,ZZ,ZZ,ZZ,ZZ,YY,ZZ,ZZ] rfl rfl rfl rfl (two_of HT_.out (by kernel_rfl)) (by decide) (by decide) (fun K hK => ?_) (fun K hK => ?_)
       ·skip
        refine goes_ Try.func58 (by kernel_rfl) rfl #[.agg #[.int .u8 a0_0, .int .i64 a0_1, .string a0_2, .string a0_3, .string a0_4, .int .u64 a0_5]] (by rfl) rfl rfl mS_ ?_
        with_reducible refine (msg_Span.calls a0_0 a0_1 a0_2 a0_3 a0_4 a0_5 t149 t150 _ A40.out).mono ?_
        rintro e w47 ⟨rfl, hb⟩
        refine ⟨_, rfl, ?_⟩
        have n0_ := Aside0.mk (bB (bX_ BK143.out) hb)
        have n1_ := Aside0.mk (bB (bX_ BK144.out) hb)
        have n2_ := Aside0.mk (bB (bX_ BK145.out) hb)
        have n3_ := Aside0.mk (wT (bS3_ GE143.out GE144.out GE145.out) hb)
        clear BK143
        clear BK144
        clear BK145
        clear HB
        have BK143 := n0_
        have BK144 := n1_
        have BK145 := n2_
        have HB := n3_
        clear n0_ n1_ n2_ n3_
        (try clear hb)
        (try clear hb2)
        (try clear hk)
        (try clear hi)
        refine hK.out _ _ ⟨(bC BK143.out 0).trans rfl, (bC BK143.out 1).trans rfl, (bC BK143.out 2).trans rfl, (bC BK143.out 3).trans rfl, (bC BK143.out 4).trans rfl, (bC BK143.out 5).trans rfl, (bC BK144.out 0).trans rfl, (bC BK144.out 1).trans rfl⟩ (fun hHeld => ?_)
        clear hK K
        refine norm_ (a' := ?_) ?_ ?_
        rotate_left
        ·show Act.put _ (some 26) _ = _
         simp only [Act.put, sA1, sA2, sA3, i64_w, i32_w]
         rfl
        refine two_ (i := 3) (j := 7) (Ni := some 28) (Nj := some 6) #[YY,YY,YY,YY,ZZ,ZZ,ZZ,ZZ,ZZ,ZZ] #[YY,YY,YY,ZZ,ZZ,ZZ,ZZ,YY,ZZ,ZZ] rfl rfl rfl rfl (two_of HT_.out (by kernel_rfl)) (by decide) (by decide) (fun K hK => ?_) (fun K hK => ?_)
        ·skip
         refine goes_ Try.func57 (by kernel_rfl) rfl #[.agg #[.string t149, .string t150], .agg #[.string a1_0, .string a1_1]] (by rfl) rfl rfl mS_ ?_
         with_reducible refine (key_Meet.calls kj2 t149 t150 a1_0 a1_1 t151 t152 true _ A41.out).mono ?_
         rintro e w48 ⟨rfl, hb⟩
         refine ⟨_, rfl, ?_⟩
         have n0_ := Aside0.mk (bB (bX_ BK143.out) hb)
         have n1_ := Aside0.mk (bB (bX_ BK144.out) hb)
         have n2_ := Aside0.mk (bB (bX_ BK145.out) hb)
         have n3_ := Aside0.mk (wT (bS3_ GE143.out GE144.out GE145.out) hb)
         clear BK143
         clear BK144
         clear BK145
         clear HB
         have BK143 := n0_
         have BK144 := n1_
         have BK145 := n2_
         have HB := n3_
         clear n0_ n1_ n2_ n3_
         (try clear hb)
         (try clear hb2)
         (try clear hk)
         (try clear hi)
         refine hK.out _ _ ⟨(bC BK143.out 0).trans rfl, (bC BK143.out 1).trans rfl, (bC BK143.out 2).trans rfl, (bC BK143.out 3).trans rfl, (bC BK143.out 4).trans rfl, (bC BK143.out 5).trans rfl, (bC BK144.out 0).trans rfl, (bC BK144.out 1).trans rfl⟩ (fun hHeld => ?_)
         clear hK K
         refine norm_ (a' := ?_) ?_ ?_
         rotate_left
         ·show Act.put _ (some 28) _ = _
          simp only [Act.put, sA1, sA2, sA3, i64_w, i32_w]
          rfl
         refine pU_ 4 24 #[YY,YY,YY,YY,YY,ZZ,ZZ,ZZ,ZZ,ZZ] ?_
         refine pU_ 5 29 #[YY,YY,YY,YY,YY,YY,ZZ,ZZ,ZZ,ZZ] ?_
         refine pU_ 6 30 #[YY,YY,YY,YY,YY,YY,YY,ZZ,ZZ,ZZ] ?_
         refine one_ (i := 7) (N := some 6) #[YY,YY,YY,YY,YY,YY,YY,YY,ZZ,ZZ] rfl rfl (one_of HT_.out (by kernel_rfl)) (by decide) (fun K hK => ?_)
         refine box_step ?hg (N := 6) ?hd (cs := #[.string (⟨#[]⟩ : BA), .string (⟨#[]⟩ : BA)]) (t := 28) ?hr ?_; (case hd => rfl); (case hg => rfl); (case hr => first | (go_simp; done) | (go_simp; rfl))
         intro gb154 hg w49 hbox hb
         have n0_ := Aside0.mk (bB (bX_ BK143.out) hb)
         have n1_ := Aside0.mk (bB (bX_ BK144.out) hb)
         have n2_ := Aside0.mk (bB (bX_ BK145.out) hb)
         have n3_ := Aside0.mk (wT (bS3_ GE143.out GE144.out GE145.out) hb)
         have n4_ := Aside0.mk (hbox)
         have n5_ := Aside0.mk ((by rw [hg]; exact (wZ (bS3_ GE143.out GE144.out GE145.out)) : w.heap.size ≤ gb154))
         have n6_ := Aside0.mk ((by rw [hg]; exact (wZ (bS3_ GE143.out GE144.out GE145.out)) : w.heap.size ≤ gb154))
         have n7_ := Aside0.mk ((by rw [hg]; exact Nat.ne_of_lt (blk_lt (g := gb143) (o := .cells #[.int .u8 a0_0, .int .i64 a0_1, .string a0_2, .string a0_3, .string a0_4, .int .u64 a0_5] 32 (0, 0)) (bX_ BK143.out)) : gb143 ≠ gb154))
         have n8_ := Aside0.mk ((by rw [hg]; exact Nat.ne_of_gt (blk_lt (g := gb143) (o := .cells #[.int .u8 a0_0, .int .i64 a0_1, .string a0_2, .string a0_3, .string a0_4, .int .u64 a0_5] 32 (0, 0)) (bX_ BK143.out)) : gb154 ≠ gb143))
         have n9_ := Aside0.mk ((by rw [hg]; exact Nat.ne_of_lt (blk_lt (g := gb144) (o := .cells #[.string a1_0, .string a1_1] 28 (0, 0)) (bX_ BK144.out)) : gb144 ≠ gb154))
         have n10_ := Aside0.mk ((by rw [hg]; exact Nat.ne_of_gt (blk_lt (g := gb144) (o := .cells #[.string a1_0, .string a1_1] 28 (0, 0)) (bX_ BK144.out)) : gb154 ≠ gb144))
         have n11_ := Aside0.mk ((by rw [hg]; exact Nat.ne_of_lt (blk_lt (g := gb145) (o := .cells #[.int .u8 0, .int .i64 0, .string (⟨#[]⟩ : BA), .string (⟨#[]⟩ : BA), .string (⟨#[]⟩ : BA), .int .u64 0] 32 (0, 0)) (bX_ BK145.out)) : gb145 ≠ gb154))
         have n12_ := Aside0.mk ((by rw [hg]; exact Nat.ne_of_gt (blk_lt (g := gb145) (o := .cells #[.int .u8 0, .int .i64 0, .string (⟨#[]⟩ : BA), .string (⟨#[]⟩ : BA), .string (⟨#[]⟩ : BA), .int .u64 0] 32 (0, 0)) (bX_ BK145.out)) : gb154 ≠ gb145))
         clear BK143
         clear BK144
         clear BK145
         clear HB
         have BK143 := n0_
         have BK144 := n1_
         have BK145 := n2_
         have HB := n3_
         have BK154 := n4_
         have GW154 := n5_
         have GE154 := n6_
         have NB143_154 := n7_
         have NB154_143 := n8_
         have NB144_154 := n9_
         have NB154_144 := n10_
         have NB145_154 := n11_
         have NB154_145 := n12_
         clear n0_ n1_ n2_ n3_ n4_ n5_ n6_ n7_ n8_ n9_ n10_ n11_ n12_
         clear hb hbox hg
         refine hK.out _ _ ⟨(bC BK143.out 0).trans rfl, (bC BK143.out 1).trans rfl, (bC BK143.out 2).trans rfl, (bC BK143.out 3).trans rfl, (bC BK143.out 4).trans rfl, (bC BK143.out 5).trans rfl, (bC BK144.out 0).trans rfl, (bC BK144.out 1).trans rfl⟩ (fun hHeld => ?_)
         clear hK K
         refine norm_ (a' := ?_) ?_ ?_
         rotate_left
         ·show Act.put _ (some 6) _ = _
          simp only [Act.put, sA1, sA2, sA3, i64_w, i32_w]
          rfl
         exact norm_ (by simp only [putAll, Act.put, sA1, sA2, sA3]) (hCont (gb154) _ ⟨hHeld, (bX_ BK143.out), (bX_ BK144.out), (bX_ BK145.out), (bX_ BK154.out), GW154.out, GE154.out, NB143_154.out, NB154_143.out, NB144_154.out, NB154_144.out, NB145_154.out, NB154_145.out, (bS4_ GE143.out GE144.out GE145.out GE154.out)⟩)
        ·skip
         refine box_step ?hg (N := 6) ?hd (cs := #[.string (⟨#[]⟩ : BA), .string (⟨#[]⟩ : BA)]) (t := 28) ?hr ?_; (case hd => rfl); (case hg => rfl); (case hr => first | (go_simp; done) | (go_simp; rfl))
         intro gb154 hg w48 hbox hb
         have n0_ := Aside0.mk (bB (bX_ BK143.out) hb)
         have n1_ := Aside0.mk (bB (bX_ BK144.out) hb)
         have n2_ := Aside0.mk (bB (bX_ BK145.out) hb)
         have n3_ := Aside0.mk (wT (bS3_ GE143.out GE144.out GE145.out) hb)
         have n4_ := Aside0.mk (hbox)
         have n5_ := Aside0.mk ((by rw [hg]; exact (wZ (bS3_ GE143.out GE144.out GE145.out)) : w.heap.size ≤ gb154))
         have n6_ := Aside0.mk ((by rw [hg]; exact (wZ (bS3_ GE143.out GE144.out GE145.out)) : w.heap.size ≤ gb154))
         have n7_ := Aside0.mk ((by rw [hg]; exact Nat.ne_of_lt (blk_lt (g := gb143) (o := .cells #[.int .u8 a0_0, .int .i64 a0_1, .string a0_2, .string a0_3, .string a0_4, .int .u64 a0_5] 32 (0, 0)) (bX_ BK143.out)) : gb143 ≠ gb154))
         have n8_ := Aside0.mk ((by rw [hg]; exact Nat.ne_of_gt (blk_lt (g := gb143) (o := .cells #[.int .u8 a0_0, .int .i64 a0_1, .string a0_2, .string a0_3, .string a0_4, .int .u64 a0_5] 32 (0, 0)) (bX_ BK143.out)) : gb154 ≠ gb143))
         have n9_ := Aside0.mk ((by rw [hg]; exact Nat.ne_of_lt (blk_lt (g := gb144) (o := .cells #[.string a1_0, .string a1_1] 28 (0, 0)) (bX_ BK144.out)) : gb144 ≠ gb154))
         have n10_ := Aside0.mk ((by rw [hg]; exact Nat.ne_of_gt (blk_lt (g := gb144) (o := .cells #[.string a1_0, .string a1_1] 28 (0, 0)) (bX_ BK144.out)) : gb154 ≠ gb144))
         have n11_ := Aside0.mk ((by rw [hg]; exact Nat.ne_of_lt (blk_lt (g := gb145) (o := .cells #[.int .u8 0, .int .i64 0, .string (⟨#[]⟩ : BA), .string (⟨#[]⟩ : BA), .string (⟨#[]⟩ : BA), .int .u64 0] 32 (0, 0)) (bX_ BK145.out)) : gb145 ≠ gb154))
         have n12_ := Aside0.mk ((by rw [hg]; exact Nat.ne_of_gt (blk_lt (g := gb145) (o := .cells #[.int .u8 0, .int .i64 0, .string (⟨#[]⟩ : BA), .string (⟨#[]⟩ : BA), .string (⟨#[]⟩ : BA), .int .u64 0] 32 (0, 0)) (bX_ BK145.out)) : gb154 ≠ gb145))
         clear BK143
         clear BK144
         clear BK145
         clear HB
         have BK143 := n0_
         have BK144 := n1_
         have BK145 := n2_
         have HB := n3_
         have BK154 := n4_
         have GW154 := n5_
         have GE154 := n6_
         have NB143_154 := n7_
         have NB154_143 := n8_
         have NB144_154 := n9_
         have NB154_144 := n10_
         have NB145_154 := n11_
         have NB154_145 := n12_
         clear n0_ n1_ n2_ n3_ n4_ n5_ n6_ n7_ n8_ n9_ n10_ n11_ n12_
         clear hb hbox hg
         refine hK.out _ _ ⟨(bC BK143.out 0).trans rfl, (bC BK143.out 1).trans rfl, (bC BK143.out 2).trans rfl, (bC BK143.out 3).trans rfl, (bC BK143.out 4).trans rfl, (bC BK143.out 5).trans rfl, (bC BK144.out 0).trans rfl, (bC BK144.out 1).trans rfl⟩ (fun hHeld => ?_)
         clear hK K
         refine norm_ (a' := ?_) ?_ ?_
         rotate_left
         ·show Act.put _ (some 6) _ = _
          simp only [Act.put, sA1, sA2, sA3, i64_w, i32_w]
          rfl
         refine one_ (i := 3) (N := some 28) #[YY,YY,YY,YY,ZZ,ZZ,ZZ,YY,ZZ,ZZ] rfl rfl (one_of HT_.out (by kernel_rfl)) (by decide) (fun K hK => ?_)
         refine goes_ Try.func57 (by kernel_rfl) rfl #[.agg #[.string t149, .string t150], .agg #[.string a1_0, .string a1_1]] (by rfl) rfl rfl mS_ ?_
         with_reducible refine (key_Meet.calls kj2 t149 t150 a1_0 a1_1 t151 t152 true _ A41.out).mono ?_
         rintro e w49 ⟨rfl, hb⟩
         refine ⟨_, rfl, ?_⟩
         have n0_ := Aside0.mk (bB (bX_ BK143.out) hb)
         have n1_ := Aside0.mk (bB (bX_ BK144.out) hb)
         have n2_ := Aside0.mk (bB (bX_ BK145.out) hb)
         have n3_ := Aside0.mk (bB (bX_ BK154.out) hb)
         have n4_ := Aside0.mk (wT (bS4_ GE143.out GE144.out GE145.out GE154.out) hb)
         clear BK143
         clear BK144
         clear BK145
         clear BK154
         clear HB
         have BK143 := n0_
         have BK144 := n1_
         have BK145 := n2_
         have BK154 := n3_
         have HB := n4_
         clear n0_ n1_ n2_ n3_ n4_
         (try clear hb)
         (try clear hb2)
         (try clear hk)
         (try clear hi)
         refine hK.out _ _ ⟨(bC BK143.out 0).trans rfl, (bC BK143.out 1).trans rfl, (bC BK143.out 2).trans rfl, (bC BK143.out 3).trans rfl, (bC BK143.out 4).trans rfl, (bC BK143.out 5).trans rfl, (bC BK144.out 0).trans rfl, (bC BK144.out 1).trans rfl⟩ (fun hHeld => ?_)
         clear hK K
         refine norm_ (a' := ?_) ?_ ?_
         rotate_left
         ·show Act.put _ (some 28) _ = _
          simp only [Act.put, sA1, sA2, sA3, i64_w, i32_w]
          rfl
         refine pU_ 4 24 #[YY,YY,YY,YY,YY,ZZ,ZZ,YY,ZZ,ZZ] ?_
         refine pU_ 5 29 #[YY,YY,YY,YY,YY,YY,ZZ,YY,ZZ,ZZ] ?_
         refine pU_ 6 30 #[YY,YY,YY,YY,YY,YY,YY,YY,ZZ,ZZ] ?_
         exact norm_ (by simp only [putAll, Act.put, sA1, sA2, sA3]) (hCont (gb154) _ ⟨hHeld, (bX_ BK143.out), (bX_ BK144.out), (bX_ BK145.out), (bX_ BK154.out), GW154.out, GE154.out, NB143_154.out, NB154_143.out, NB144_154.out, NB154_144.out, NB145_154.out, NB154_145.out, (bS4_ GE143.out GE144.out GE145.out GE154.out)⟩)
       ·skip
        refine box_step ?hg (N := 6) ?hd (cs := #[.string (⟨#[]⟩ : BA), .string (⟨#[]⟩ : BA)]) (t := 28) ?hr ?_; (case hd => rfl); (case hg => rfl); (case hr => first | (go_simp; done) | (go_simp; rfl))
        intro gb154 hg w47 hbox hb
        have n0_ := Aside0.mk (bB (bX_ BK143.out) hb)
        have n1_ := Aside0.mk (bB (bX_ BK144.out) hb)
        have n2_ := Aside0.mk (bB (bX_ BK145.out) hb)
        have n3_ := Aside0.mk (wT (bS3_ GE143.out GE144.out GE145.out) hb)
        have n4_ := Aside0.mk (hbox)
        have n5_ := Aside0.mk ((by rw [hg]; exact (wZ (bS3_ GE143.out GE144.out GE145.out)) : w.heap.size ≤ gb154))
        have n6_ := Aside0.mk ((by rw [hg]; exact (wZ (bS3_ GE143.out GE144.out GE145.out)) : w.heap.size ≤ gb154))
        have n7_ := Aside0.mk ((by rw [hg]; exact Nat.ne_of_lt (blk_lt (g := gb143) (o := .cells #[.int .u8 a0_0, .int .i64 a0_1, .string a0_2, .string a0_3, .string a0_4, .int .u64 a0_5] 32 (0, 0)) (bX_ BK143.out)) : gb143 ≠ gb154))
        have n8_ := Aside0.mk ((by rw [hg]; exact Nat.ne_of_gt (blk_lt (g := gb143) (o := .cells #[.int .u8 a0_0, .int .i64 a0_1, .string a0_2, .string a0_3, .string a0_4, .int .u64 a0_5] 32 (0, 0)) (bX_ BK143.out)) : gb154 ≠ gb143))
        have n9_ := Aside0.mk ((by rw [hg]; exact Nat.ne_of_lt (blk_lt (g := gb144) (o := .cells #[.string a1_0, .string a1_1] 28 (0, 0)) (bX_ BK144.out)) : gb144 ≠ gb154))
        have n10_ := Aside0.mk ((by rw [hg]; exact Nat.ne_of_gt (blk_lt (g := gb144) (o := .cells #[.string a1_0, .string a1_1] 28 (0, 0)) (bX_ BK144.out)) : gb154 ≠ gb144))
        have n11_ := Aside0.mk ((by rw [hg]; exact Nat.ne_of_lt (blk_lt (g := gb145) (o := .cells #[.int .u8 0, .int .i64 0, .string (⟨#[]⟩ : BA), .string (⟨#[]⟩ : BA), .string (⟨#[]⟩ : BA), .int .u64 0] 32 (0, 0)) (bX_ BK145.out)) : gb145 ≠ gb154))
        have n12_ := Aside0.mk ((by rw [hg]; exact Nat.ne_of_gt (blk_lt (g := gb145) (o := .cells #[.int .u8 0, .int .i64 0, .string (⟨#[]⟩ : BA), .string (⟨#[]⟩ : BA), .string (⟨#[]⟩ : BA), .int .u64 0] 32 (0, 0)) (bX_ BK145.out)) : gb154 ≠ gb145))
        clear BK143
        clear BK144
        clear BK145
        clear HB
        have BK143 := n0_
        have BK144 := n1_
        have BK145 := n2_
        have HB := n3_
        have BK154 := n4_
        have GW154 := n5_
        have GE154 := n6_
        have NB143_154 := n7_
        have NB154_143 := n8_
        have NB144_154 := n9_
        have NB154_144 := n10_
        have NB145_154 := n11_
        have NB154_145 := n12_
        clear n0_ n1_ n2_ n3_ n4_ n5_ n6_ n7_ n8_ n9_ n10_ n11_ n12_
        clear hb hbox hg
        refine hK.out _ _ ⟨(bC BK143.out 0).trans rfl, (bC BK143.out 1).trans rfl, (bC BK143.out 2).trans rfl, (bC BK143.out 3).trans rfl, (bC BK143.out 4).trans rfl, (bC BK143.out 5).trans rfl, (bC BK144.out 0).trans rfl, (bC BK144.out 1).trans rfl⟩ (fun hHeld => ?_)
        clear hK K
        refine norm_ (a' := ?_) ?_ ?_
        rotate_left
        ·show Act.put _ (some 6) _ = _
         simp only [Act.put, sA1, sA2, sA3, i64_w, i32_w]
         rfl
        refine one_ (i := 1) (N := some 26) #[YY,YY,YY,ZZ,ZZ,ZZ,ZZ,YY,ZZ,ZZ] rfl rfl (one_of HT_.out (by kernel_rfl)) (by decide) (fun K hK => ?_)
        refine goes_ Try.func58 (by kernel_rfl) rfl #[.agg #[.int .u8 a0_0, .int .i64 a0_1, .string a0_2, .string a0_3, .string a0_4, .int .u64 a0_5]] (by rfl) rfl rfl mS_ ?_
        with_reducible refine (msg_Span.calls a0_0 a0_1 a0_2 a0_3 a0_4 a0_5 t149 t150 _ A40.out).mono ?_
        rintro e w48 ⟨rfl, hb⟩
        refine ⟨_, rfl, ?_⟩
        have n0_ := Aside0.mk (bB (bX_ BK143.out) hb)
        have n1_ := Aside0.mk (bB (bX_ BK144.out) hb)
        have n2_ := Aside0.mk (bB (bX_ BK145.out) hb)
        have n3_ := Aside0.mk (bB (bX_ BK154.out) hb)
        have n4_ := Aside0.mk (wT (bS4_ GE143.out GE144.out GE145.out GE154.out) hb)
        clear BK143
        clear BK144
        clear BK145
        clear BK154
        clear HB
        have BK143 := n0_
        have BK144 := n1_
        have BK145 := n2_
        have BK154 := n3_
        have HB := n4_
        clear n0_ n1_ n2_ n3_ n4_
        (try clear hb)
        (try clear hb2)
        (try clear hk)
        (try clear hi)
        refine hK.out _ _ ⟨(bC BK143.out 0).trans rfl, (bC BK143.out 1).trans rfl, (bC BK143.out 2).trans rfl, (bC BK143.out 3).trans rfl, (bC BK143.out 4).trans rfl, (bC BK143.out 5).trans rfl, (bC BK144.out 0).trans rfl, (bC BK144.out 1).trans rfl⟩ (fun hHeld => ?_)
        clear hK K
        refine norm_ (a' := ?_) ?_ ?_
        rotate_left
        ·show Act.put _ (some 26) _ = _
         simp only [Act.put, sA1, sA2, sA3, i64_w, i32_w]
         rfl
        refine one_ (i := 3) (N := some 28) #[YY,YY,YY,YY,ZZ,ZZ,ZZ,YY,ZZ,ZZ] rfl rfl (one_of HT_.out (by kernel_rfl)) (by decide) (fun K hK => ?_)
        refine goes_ Try.func57 (by kernel_rfl) rfl #[.agg #[.string t149, .string t150], .agg #[.string a1_0, .string a1_1]] (by rfl) rfl rfl mS_ ?_
        with_reducible refine (key_Meet.calls kj2 t149 t150 a1_0 a1_1 t151 t152 true _ A41.out).mono ?_
        rintro e w49 ⟨rfl, hb⟩
        refine ⟨_, rfl, ?_⟩
        have n0_ := Aside0.mk (bB (bX_ BK143.out) hb)
        have n1_ := Aside0.mk (bB (bX_ BK144.out) hb)
        have n2_ := Aside0.mk (bB (bX_ BK145.out) hb)
        have n3_ := Aside0.mk (bB (bX_ BK154.out) hb)
        have n4_ := Aside0.mk (wT (bS4_ GE143.out GE144.out GE145.out GE154.out) hb)
        clear BK143
        clear BK144
        clear BK145
        clear BK154
        clear HB
        have BK143 := n0_
        have BK144 := n1_
        have BK145 := n2_
        have BK154 := n3_
        have HB := n4_
        clear n0_ n1_ n2_ n3_ n4_
        (try clear hb)
        (try clear hb2)
        (try clear hk)
        (try clear hi)
        refine hK.out _ _ ⟨(bC BK143.out 0).trans rfl, (bC BK143.out 1).trans rfl, (bC BK143.out 2).trans rfl, (bC BK143.out 3).trans rfl, (bC BK143.out 4).trans rfl, (bC BK143.out 5).trans rfl, (bC BK144.out 0).trans rfl, (bC BK144.out 1).trans rfl⟩ (fun hHeld => ?_)
        clear hK K
        refine norm_ (a' := ?_) ?_ ?_
        rotate_left
        ·show Act.put _ (some 28) _ = _
         simp only [Act.put, sA1, sA2, sA3, i64_w, i32_w]
         rfl
        refine pU_ 4 24 #[YY,YY,YY,YY,YY,ZZ,ZZ,YY,ZZ,ZZ] ?_
        refine pU_ 5 29 #[YY,YY,YY,YY,YY,YY,ZZ,YY,ZZ,ZZ] ?_
        refine pU_ 6 30 #[YY,YY,YY,YY,YY,YY,YY,YY,ZZ,ZZ] ?_
        exact norm_ (by simp only [putAll, Act.put, sA1, sA2, sA3]) (hCont (gb154) _ ⟨hHeld, (bX_ BK143.out), (bX_ BK144.out), (bX_ BK145.out), (bX_ BK154.out), GW154.out, GE154.out, NB143_154.out, NB154_143.out, NB144_154.out, NB154_144.out, NB145_154.out, NB154_145.out, (bS4_ GE143.out GE144.out GE145.out GE154.out)⟩)
      rintro gb154 w50 ⟨hS_, h0_, h1_, h2_, h3_, h4_, h5_, h6_, h7_, h8_, h9_, h10_, h11_, h12_⟩
      have n0_ : Aside0 (w50.heap[gb143]? = some (.cells #[.int .u8 a0_0, .int .i64 a0_1, .string a0_2, .string a0_3, .string a0_4, .int .u64 a0_5] 32 (0, 0))) := ⟨h0_⟩
      have n1_ : Aside0 (w50.heap[gb144]? = some (.cells #[.string a1_0, .string a1_1] 28 (0, 0))) := ⟨h1_⟩
      have n2_ : Aside0 (w50.heap[gb145]? = some (.cells #[.int .u8 0, .int .i64 0, .string (⟨#[]⟩ : BA), .string (⟨#[]⟩ : BA), .string (⟨#[]⟩ : BA), .int .u64 0] 32 (0, 0))) := ⟨h2_⟩
      have n3_ : Aside0 (w50.heap[gb154]? = some (.cells #[.string (⟨#[]⟩ : BA), .string (⟨#[]⟩ : BA)] 28 (0, 0))) := ⟨h3_⟩
      have n4_ : Aside0 (w.heap.size ≤ gb154) := ⟨h4_⟩
      have n5_ : Aside0 (w.heap.size ≤ gb154) := ⟨h5_⟩
      have n6_ : Aside0 (gb143 ≠ gb154) := ⟨h6_⟩
      have n7_ : Aside0 (gb154 ≠ gb143) := ⟨h7_⟩
      have n8_ : Aside0 (gb144 ≠ gb154) := ⟨h8_⟩
      have n9_ : Aside0 (gb154 ≠ gb144) := ⟨h9_⟩
      have n10_ : Aside0 (gb145 ≠ gb154) := ⟨h10_⟩
      have n11_ : Aside0 (gb154 ≠ gb145) := ⟨h11_⟩
      have n12_ : Aside0 (Below w.heap.size w w50) := ⟨h12_⟩
      clear BK143
      clear BK144
      clear BK145
      clear HB
      clear h0_ h1_ h2_ h3_ h4_ h5_ h6_ h7_ h8_ h9_ h10_ h11_ h12_
      have BK143 := n0_
      have BK144 := n1_
      have BK145 := n2_
      have BK154 := n3_
      have GW154 := n4_
      have GE154 := n5_
      have NB143_154 := n6_
      have NB154_143 := n7_
      have NB144_154 := n8_
      have NB154_144 := n9_
      have NB145_154 := n10_
      have NB154_145 := n11_
      have HB := n12_
      clear n0_ n1_ n2_ n3_ n4_ n5_ n6_ n7_ n8_ n9_ n10_ n11_ n12_
      have hHeld : w50.cell? ⟨gb143, 0, none⟩ = some (.int .u8 a0_0) ∧ w50.cell? ⟨gb143, 1, none⟩ = some (.int .i64 a0_1) ∧ w50.cell? ⟨gb143, 2, none⟩ = some (.string a0_2) ∧ w50.cell? ⟨gb143, 3, none⟩ = some (.string a0_3) ∧ w50.cell? ⟨gb143, 4, none⟩ = some (.string a0_4) ∧ w50.cell? ⟨gb143, 5, none⟩ = some (.int .u64 a0_5) ∧ w50.cell? ⟨gb144, 0, none⟩ = some (.string a1_0) ∧ w50.cell? ⟨gb144, 1, none⟩ = some (.string a1_1) := hS_
      refine norm_ (a' := ?_) ?_ ?_
      rotate_left
      ·simp only [putAll, Act.put, sA1, sA2, sA3]
       rfl
      refine one_ (i := 8) (N := none) #[YY,YY,YY,YY,YY,YY,YY,YY,YY,ZZ] rfl rfl (one_of HT_.out (by kernel_rfl)) (by decide) (fun K hK => ?_)
      have hs51 : w50.cell? ⟨gb154, 0, none⟩ = some (.string (⟨#[]⟩ : BA)) := (bC BK154.out 0).trans rfl
      have hfs51 := bF BK154.out 0
      have hns51_0 := NB143_154.out
      have hns51_1 := NB144_154.out
      have hns51_2 := NB145_154.out
      have hms51_0 := NB154_143.out
      have hms51_1 := NB154_144.out
      have hms51_2 := NB154_145.out
      have hs52 : w50.cell? ⟨gb154, 1, none⟩ = some (.string (⟨#[]⟩ : BA)) := (bC BK154.out 1).trans rfl
      have hfs52 := bF BK154.out 1
      have hns52_0 := NB143_154.out
      have hns52_1 := NB144_154.out
      have hns52_2 := NB145_154.out
      have hms52_0 := NB154_143.out
      have hms52_1 := NB154_144.out
      have hms52_2 := NB154_145.out
      refine skip_ (w1 := ?_) (by rfl) rfl ?_ ?_
      rotate_left
      ·go_simp
       rfl
      refine hK.out _ _ ⟨((cF (p := ⟨gb154, _, none⟩) NB143_154.out _).trans (((cF (p := ⟨gb154, _, none⟩) NB143_154.out _).trans (hHeld.1)))), ((cF (p := ⟨gb154, _, none⟩) NB143_154.out _).trans (((cF (p := ⟨gb154, _, none⟩) NB143_154.out _).trans (hHeld.2.1)))), ((cF (p := ⟨gb154, _, none⟩) NB143_154.out _).trans (((cF (p := ⟨gb154, _, none⟩) NB143_154.out _).trans (hHeld.2.2.1)))), ((cF (p := ⟨gb154, _, none⟩) NB143_154.out _).trans (((cF (p := ⟨gb154, _, none⟩) NB143_154.out _).trans (hHeld.2.2.2.1)))), ((cF (p := ⟨gb154, _, none⟩) NB143_154.out _).trans (((cF (p := ⟨gb154, _, none⟩) NB143_154.out _).trans (hHeld.2.2.2.2.1)))), ((cF (p := ⟨gb154, _, none⟩) NB143_154.out _).trans (((cF (p := ⟨gb154, _, none⟩) NB143_154.out _).trans (hHeld.2.2.2.2.2.1)))), ((cF (p := ⟨gb154, _, none⟩) NB144_154.out _).trans (((cF (p := ⟨gb154, _, none⟩) NB144_154.out _).trans (hHeld.2.2.2.2.2.2.1)))), ((cF (p := ⟨gb154, _, none⟩) NB144_154.out _).trans (((cF (p := ⟨gb154, _, none⟩) NB144_154.out _).trans (hHeld.2.2.2.2.2.2.2))))⟩ (fun hHeld => ?_)
      clear hK K
      refine pU_ 9 7 #[YY,YY,YY,YY,YY,YY,YY,YY,YY,YY] ?_
      refine done_ (done_of HT_.out (by kernel_rfl)) ?_
      try go_wp2
      have n0_ : Aside0 (((w50.setCell ⟨gb154, 0, none⟩ (.string t151)).setCell ⟨gb154, 1, none⟩ (.string t152)).heap[gb143]? = some (.cells #[.int .u8 a0_0, .int .i64 a0_1, .string a0_2, .string a0_3, .string a0_4, .int .u64 a0_5] 32 (0, 0))) := ⟨by (with_reducible repeat (first | refine bN ?_ _ | refine bD ?_ | refine bA ?_ _)); refine bR ?_ NB143_154.out _; (with_reducible repeat (first | refine bN ?_ _ | refine bD ?_ | refine bA ?_ _)); refine bR ?_ NB143_154.out _; (with_reducible repeat (first | refine bN ?_ _ | refine bD ?_ | refine bA ?_ _)); exact BK143.out⟩
      have n1_ : Aside0 (((w50.setCell ⟨gb154, 0, none⟩ (.string t151)).setCell ⟨gb154, 1, none⟩ (.string t152)).heap[gb144]? = some (.cells #[.string a1_0, .string a1_1] 28 (0, 0))) := ⟨by (with_reducible repeat (first | refine bN ?_ _ | refine bD ?_ | refine bA ?_ _)); refine bR ?_ NB144_154.out _; (with_reducible repeat (first | refine bN ?_ _ | refine bD ?_ | refine bA ?_ _)); refine bR ?_ NB144_154.out _; (with_reducible repeat (first | refine bN ?_ _ | refine bD ?_ | refine bA ?_ _)); exact BK144.out⟩
      have n2_ : Aside0 (((w50.setCell ⟨gb154, 0, none⟩ (.string t151)).setCell ⟨gb154, 1, none⟩ (.string t152)).heap[gb145]? = some (.cells #[.int .u8 0, .int .i64 0, .string (⟨#[]⟩ : BA), .string (⟨#[]⟩ : BA), .string (⟨#[]⟩ : BA), .int .u64 0] 32 (0, 0))) := ⟨by (with_reducible repeat (first | refine bN ?_ _ | refine bD ?_ | refine bA ?_ _)); refine bR ?_ NB145_154.out _; (with_reducible repeat (first | refine bN ?_ _ | refine bD ?_ | refine bA ?_ _)); refine bR ?_ NB145_154.out _; (with_reducible repeat (first | refine bN ?_ _ | refine bD ?_ | refine bA ?_ _)); exact BK145.out⟩
      have n3_ : Aside0 (((w50.setCell ⟨gb154, 0, none⟩ (.string t151)).setCell ⟨gb154, 1, none⟩ (.string t152)).heap[gb154]? = some (.cells #[.string t151, .string t152] 28 (0, 0))) := ⟨by (with_reducible repeat (first | refine bN ?_ _ | refine bD ?_ | refine bA ?_ _)); refine bP (cs := #[.string t151, .string (⟨#[]⟩ : BA)]) ?_ 1 _ rfl; (with_reducible repeat (first | refine bN ?_ _ | refine bD ?_ | refine bA ?_ _)); refine bP (cs := #[.string (⟨#[]⟩ : BA), .string (⟨#[]⟩ : BA)]) ?_ 0 _ rfl; (with_reducible repeat (first | refine bN ?_ _ | refine bD ?_ | refine bA ?_ _)); exact BK154.out⟩
      have n4_ : Aside0 (Below w.heap.size w ((w50.setCell ⟨gb154, 0, none⟩ (.string t151)).setCell ⟨gb154, 1, none⟩ (.string t152))) := ⟨by repeat (first | (with_reducible first | exact HB.out | apply wA | apply wN | apply w1 | refine wS ?_ GE143.out | refine wS ?_ GE144.out | refine wS ?_ GE145.out | refine wS ?_ GE154.out) | exact HB.out)⟩
      (try clear BK143)
      (try clear BK144)
      (try clear BK145)
      (try clear BK154)
      (try clear HB)
      generalize ((w50.setCell ⟨gb154, 0, none⟩ (.string t151)).setCell ⟨gb154, 1, none⟩ (.string t152)) = w53 at n0_ n1_ n2_ n3_ n4_ ⊢
      have BK143 := n0_
      have BK144 := n1_
      have BK145 := n2_
      have BK154 := n3_
      have HB := n4_
      clear n0_ n1_ n2_ n3_ n4_
      have n0_ := Aside0.mk (bD BK143.out)
      have n1_ := Aside0.mk (bD BK144.out)
      have n2_ := Aside0.mk (bD BK145.out)
      have n3_ := Aside0.mk (bD BK154.out)
      have n4_ := Aside0.mk (w1 HB.out)
      clear BK143
      clear BK144
      clear BK145
      clear BK154
      clear HB
      have BK143 := n0_
      have BK144 := n1_
      have BK145 := n2_
      have BK154 := n3_
      have HB := n4_
      clear n0_ n1_ n2_ n3_ n4_
      refine start_ (n := 8) (S := fun w' => w'.cell? ⟨gb154, 0, none⟩ = some (.string t151) ∧ w'.cell? ⟨gb154, 1, none⟩ = some (.string t152)) (ds := []) #[ZZ,ZZ,ZZ,ZZ,ZZ,ZZ,ZZ,ZZ] (by kernel_rfl) rfl rfl ⟨(bC BK154.out 0).trans rfl, (bC BK154.out 1).trans rfl⟩ (fun hHeld => ?_); refine with_tabW msg_Clip.tab6 msg_Clip.bits6 (fun HT_ HW_ => ?_)
      generalize w53.drew = w54 at BK143 BK144 BK145 BK154 HB hHeld ⊢
      refine pU_ 0 32 #[YY,ZZ,ZZ,ZZ,ZZ,ZZ,ZZ,ZZ] ?_
      refine pU_ 2 34 #[YY,ZZ,YY,ZZ,ZZ,ZZ,ZZ,ZZ] ?_
      refine take_ (i := 1) (N := some 33) (v := ?_) (a' := ?_) #[YY,YY,YY,ZZ,ZZ,ZZ,ZZ,ZZ] rfl rfl (take_ofW HT_.out HW_.out (by kernel_rfl)) (fun _ _ _ h => h) (Or.inl ⟨by rfl, ?_⟩) hHeld ?_ ?_
      rotate_left
      ·rintro w' ⟨s0, s1⟩
       go_simp
       with_reducible rfl
      rotate_left
      ·simp only [Act.put, sA1, sA2, sA3, i64_w, i32_w]
       rfl
      refine pU_ 4 36 #[YY,YY,YY,ZZ,YY,ZZ,ZZ,ZZ] ?_
      refine take_ (i := 3) (N := some 35) (v := ?_) (a' := ?_) #[YY,YY,YY,YY,YY,ZZ,ZZ,ZZ] rfl rfl (take_ofW HT_.out HW_.out (by kernel_rfl)) (fun _ _ _ h => h) (Or.inl ⟨by rfl, ?_⟩) hHeld ?_ ?_
      rotate_left
      ·rintro w' ⟨s0, s1⟩
       go_simp
       with_reducible rfl
      rotate_left
      ·simp only [Act.put, sA1, sA2, sA3, i64_w, i32_w]
       rfl
      refine one_ (i := 5) (N := none) #[YY,YY,YY,YY,YY,YY,ZZ,ZZ] rfl rfl (one_of HT_.out (by kernel_rfl)) (by decide) (fun K hK => ?_)
      have hs55 : w54.cell? ⟨gb143, 2, none⟩ = some (.string a0_2) := (bC BK143.out 2).trans rfl
      have hfs55 := bF BK143.out 2
      have hns55_1 := NB144_143.out
      have hns55_2 := NB145_143.out
      have hns55_3 := NB154_143.out
      have hms55_1 := NB143_144.out
      have hms55_2 := NB143_145.out
      have hms55_3 := NB143_154.out
      refine skip_ (w1 := ?_) (by rfl) rfl ?_ ?_
      rotate_left
      ·go_simp
       rfl
      refine hK.out _ _ ⟨((cF (p := ⟨gb143, _, none⟩) NB154_143.out _).trans (hHeld.1)), ((cF (p := ⟨gb143, _, none⟩) NB154_143.out _).trans (hHeld.2))⟩ (fun hHeld => ?_)
      clear hK K
      refine pU_ 6 37 #[YY,YY,YY,YY,YY,YY,YY,ZZ] ?_
      refine one_ (i := 7) (N := none) #[YY,YY,YY,YY,YY,YY,YY,YY] rfl rfl (one_of HT_.out (by kernel_rfl)) (by decide) (fun K hK => ?_)
      have hs56 : w54.cell? ⟨gb143, 3, none⟩ = some (.string a0_3) := (bC BK143.out 3).trans rfl
      have hfs56 := bF BK143.out 3
      have hns56_1 := NB144_143.out
      have hns56_2 := NB145_143.out
      have hns56_3 := NB154_143.out
      have hms56_1 := NB143_144.out
      have hms56_2 := NB143_145.out
      have hms56_3 := NB143_154.out
      refine skip_ (w1 := ?_) (by rfl) rfl ?_ ?_
      rotate_left
      ·go_simp
       rfl
      refine hK.out _ _ ⟨((cF (p := ⟨gb143, _, none⟩) NB154_143.out _).trans (hHeld.1)), ((cF (p := ⟨gb143, _, none⟩) NB154_143.out _).trans (hHeld.2))⟩ (fun hHeld => ?_)
      clear hK K
      refine done_ (done_of HT_.out (by kernel_rfl)) ?_
      have hnb57 := NB143_154.out
      have hnc57 := NB154_143.out
      have hcz58_0 := cz_ BK143.out 0
      have hcz58_1 := cz_ BK143.out 1
      have hcz58_2 := cz_ BK143.out 2
      have hcz58_3 := cz_ BK143.out 3
      have hcz58_4 := cz_ BK143.out 4
      have hcz58_5 := cz_ BK143.out 5
      have hfz58_0 := bF BK143.out 0
      have hfz58_1 := bF BK143.out 1
      have hfz58_2 := bF BK143.out 2
      have hfz58_3 := bF BK143.out 3
      have hfz58_4 := bF BK143.out 4
      have hfz58_5 := bF BK143.out 5
      have hnb59 := NB145_144.out
      have hnc59 := NB144_145.out
      have hnb60 := NB145_154.out
      have hnc60 := NB154_145.out
      have hcz61_0 := cz_ BK145.out 0
      have hcz61_1 := cz_ BK145.out 1
      have hcz61_2 := cz_ BK145.out 2
      have hcz61_3 := cz_ BK145.out 3
      have hcz61_4 := cz_ BK145.out 4
      have hcz61_5 := cz_ BK145.out 5
      have hfz61_0 := bF BK145.out 0
      have hfz61_1 := bF BK145.out 1
      have hfz61_2 := bF BK145.out 2
      have hfz61_3 := bF BK145.out 3
      have hfz61_4 := bF BK145.out 4
      have hfz61_5 := bF BK145.out 5
      try go_wp2
      refine bodyPost_ret (results_ct rfl _ _ gb145 32 #[.int .u8 a0_0, .int .i64 a0_1, .string t151, .string t152, .string a0_4, .int .u64 a0_5] (0, 0) _ rfl (by (with_reducible repeat (first | refine bN ?_ _ | refine bD ?_ | refine bA ?_ _)); refine bP (cs := #[.int .u8 a0_0, .int .i64 a0_1, .string t151, .string t152, .string a0_4, .int .u64 0]) ?_ 5 _ rfl; (with_reducible repeat (first | refine bN ?_ _ | refine bD ?_ | refine bA ?_ _)); refine bP (cs := #[.int .u8 a0_0, .int .i64 a0_1, .string t151, .string t152, .string (⟨#[]⟩ : BA), .int .u64 0]) ?_ 4 _ rfl; (with_reducible repeat (first | refine bN ?_ _ | refine bD ?_ | refine bA ?_ _)); refine bP (cs := #[.int .u8 a0_0, .int .i64 a0_1, .string t151, .string (⟨#[]⟩ : BA), .string (⟨#[]⟩ : BA), .int .u64 0]) ?_ 3 _ rfl; (with_reducible repeat (first | refine bN ?_ _ | refine bD ?_ | refine bA ?_ _)); refine bP (cs := #[.int .u8 a0_0, .int .i64 a0_1, .string (⟨#[]⟩ : BA), .string (⟨#[]⟩ : BA), .string (⟨#[]⟩ : BA), .int .u64 0]) ?_ 2 _ rfl; (with_reducible repeat (first | refine bN ?_ _ | refine bD ?_ | refine bA ?_ _)); refine bP (cs := #[.int .u8 a0_0, .int .i64 0, .string (⟨#[]⟩ : BA), .string (⟨#[]⟩ : BA), .string (⟨#[]⟩ : BA), .int .u64 0]) ?_ 1 _ rfl; (with_reducible repeat (first | refine bN ?_ _ | refine bD ?_ | refine bA ?_ _)); refine bP (cs := #[.int .u8 0, .int .i64 0, .string (⟨#[]⟩ : BA), .string (⟨#[]⟩ : BA), .string (⟨#[]⟩ : BA), .int .u64 0]) ?_ 0 _ rfl; (with_reducible repeat (first | refine bN ?_ _ | refine bD ?_ | refine bA ?_ _)); refine bR ?_ NB145_143.out _; (with_reducible repeat (first | refine bN ?_ _ | refine bD ?_ | refine bA ?_ _)); refine bR ?_ NB145_143.out _; (with_reducible repeat (first | refine bN ?_ _ | refine bD ?_ | refine bA ?_ _)); exact BK145.out) Try.underlying32 rfl (by kernel_rfl)) rfl ?_
      exact ⟨by first | rfl | (simp [errW_none, errW_some] <;> rfl) | (simp [*, errW_none, errW_some] <;> rfl), by repeat (first | (with_reducible first | exact HB.out | apply wA | apply wN | apply w1 | refine wS ?_ GE143.out | refine wS ?_ GE144.out | refine wS ?_ GE145.out | refine wS ?_ GE154.out) | exact HB.out)⟩
     ·replace c42 := Bool.eq_false_iff.mpr c42
      subst c42
      have H1 : (some (0, 0, (⟨#[]⟩ : BA), (⟨#[]⟩ : BA), (⟨#[]⟩ : BA), 0, false)) = some (r1, r2, r3, r4, r5, r6, r7) := by rw [if_neg (show ¬ (false = true) by decide)] at H; exact H
      clear H
      have H := H1
      clear H1
      simp only [Option.some.injEq, Prod.mk.injEq] at H
      obtain ⟨rfl, rfl, rfl, rfl, rfl, rfl, rfl⟩ := H
      have hnb62 := NB143_144.out
      have hnc62 := NB144_143.out
      have hnb63 := NB143_145.out
      have hnc63 := NB145_143.out
      have hcz64_0 := cz_ BK143.out 0
      have hcz64_1 := cz_ BK143.out 1
      have hcz64_2 := cz_ BK143.out 2
      have hcz64_3 := cz_ BK143.out 3
      have hcz64_4 := cz_ BK143.out 4
      have hcz64_5 := cz_ BK143.out 5
      have hfz64_0 := bF BK143.out 0
      have hfz64_1 := bF BK143.out 1
      have hfz64_2 := bF BK143.out 2
      have hfz64_3 := bF BK143.out 3
      have hfz64_4 := bF BK143.out 4
      have hfz64_5 := bF BK143.out 5
      try go_wp2
      have n0_ := Aside0.mk (bD BK143.out)
      have n1_ := Aside0.mk (bD BK144.out)
      have n2_ := Aside0.mk (bD BK145.out)
      have n3_ := Aside0.mk (w1 HB.out)
      clear BK143
      clear BK144
      clear BK145
      clear HB
      have BK143 := n0_
      have BK144 := n1_
      have BK145 := n2_
      have HB := n3_
      clear n0_ n1_ n2_ n3_
      refine start_ (n := 10) (S := fun w' => w'.cell? ⟨gb143, 0, none⟩ = some (.int .u8 a0_0) ∧ w'.cell? ⟨gb143, 1, none⟩ = some (.int .i64 a0_1) ∧ w'.cell? ⟨gb143, 2, none⟩ = some (.string a0_2) ∧ w'.cell? ⟨gb143, 3, none⟩ = some (.string a0_3) ∧ w'.cell? ⟨gb143, 4, none⟩ = some (.string a0_4) ∧ w'.cell? ⟨gb143, 5, none⟩ = some (.int .u64 a0_5) ∧ w'.cell? ⟨gb144, 0, none⟩ = some (.string a1_0) ∧ w'.cell? ⟨gb144, 1, none⟩ = some (.string a1_1)) (ds := []) #[ZZ,ZZ,ZZ,ZZ,ZZ,ZZ,ZZ,ZZ,ZZ,ZZ] (by kernel_rfl) rfl rfl ⟨(bC BK143.out 0).trans rfl, (bC BK143.out 1).trans rfl, (bC BK143.out 2).trans rfl, (bC BK143.out 3).trans rfl, (bC BK143.out 4).trans rfl, (bC BK143.out 5).trans rfl, (bC BK144.out 0).trans rfl, (bC BK144.out 1).trans rfl⟩ (fun hHeld => ?_); refine with_tabW msg_Clip.tab4 msg_Clip.bits4 (fun HT_ HW_ => ?_)
      generalize wc.drew = w65 at BK143 BK144 BK145 HB hHeld ⊢
      refine take_ (i := 0) (N := some 25) (v := ?_) (a' := ?_) #[YY,ZZ,ZZ,ZZ,ZZ,ZZ,ZZ,ZZ,ZZ,ZZ] rfl rfl (take_ofW HT_.out HW_.out (by kernel_rfl)) (fun _ _ _ h => h) (Or.inl ⟨by rfl, ?_⟩) hHeld ?_ ?_
      rotate_left
      ·rintro w' ⟨s0, s1, s2, s3, s4, s5, s6, s7⟩
       go_simp
       with_reducible rfl
      rotate_left
      ·simp only [Act.put, sA1, sA2, sA3, i64_w, i32_w]
       rfl
      refine take_ (i := 2) (N := some 27) (v := ?_) (a' := ?_) #[YY,ZZ,YY,ZZ,ZZ,ZZ,ZZ,ZZ,ZZ,ZZ] rfl rfl (take_ofW HT_.out HW_.out (by kernel_rfl)) (fun _ _ _ h => h) (Or.inl ⟨by rfl, ?_⟩) hHeld ?_ ?_
      rotate_left
      ·rintro w' ⟨s0, s1, s2, s3, s4, s5, s6, s7⟩
       go_simp
       with_reducible rfl
      rotate_left
      ·simp only [Act.put, sA1, sA2, sA3, i64_w, i32_w]
       rfl
      refine join_ (σ := Nat) 2 #[YY,YY,YY,YY,YY,YY,YY,YY,ZZ,ZZ] (fun s_ => [(26, .agg #[.string t149, .string t150]), (28, .tuple #[.agg #[.string t151, .string t152], .bool false]), (6, .pointer (some ⟨s_, 0, none⟩)), (24, .tuple #[.agg #[.string t151, .string t152], .bool false]), (29, .agg #[.string t151, .string t152]), (30, .bool false)]) (fun s_ w' => (w'.cell? ⟨gb143, 0, none⟩ = some (.int .u8 a0_0) ∧ w'.cell? ⟨gb143, 1, none⟩ = some (.int .i64 a0_1) ∧ w'.cell? ⟨gb143, 2, none⟩ = some (.string a0_2) ∧ w'.cell? ⟨gb143, 3, none⟩ = some (.string a0_3) ∧ w'.cell? ⟨gb143, 4, none⟩ = some (.string a0_4) ∧ w'.cell? ⟨gb143, 5, none⟩ = some (.int .u64 a0_5) ∧ w'.cell? ⟨gb144, 0, none⟩ = some (.string a1_0) ∧ w'.cell? ⟨gb144, 1, none⟩ = some (.string a1_1)) ∧ (w'.heap[gb143]? = some (.cells #[.int .u8 a0_0, .int .i64 a0_1, .string a0_2, .string a0_3, .string a0_4, .int .u64 a0_5] 32 (0, 0))) ∧ (w'.heap[gb144]? = some (.cells #[.string a1_0, .string a1_1] 28 (0, 0))) ∧ (w'.heap[gb145]? = some (.cells #[.int .u8 0, .int .i64 0, .string (⟨#[]⟩ : BA), .string (⟨#[]⟩ : BA), .string (⟨#[]⟩ : BA), .int .u64 0] 32 (0, 0))) ∧ (w'.heap[s_]? = some (.cells #[.string (⟨#[]⟩ : BA), .string (⟨#[]⟩ : BA)] 28 (0, 0))) ∧ (w.heap.size ≤ s_) ∧ (w.heap.size ≤ s_) ∧ (gb143 ≠ s_) ∧ (s_ ≠ gb143) ∧ (gb144 ≠ s_) ∧ (s_ ≠ gb144) ∧ (gb145 ≠ s_) ∧ (s_ ≠ gb145) ∧ (Below w.heap.size w w')) ?_ ?_
      rotate_left
      ·intro hCont
       refine two_ (i := 1) (j := 7) (Ni := some 26) (Nj := some 6) #[YY,YY,YY,ZZ,ZZ,ZZ,ZZ,ZZ,ZZ,ZZ] #[YY,ZZ,YY,ZZ,ZZ,ZZ,ZZ,YY,ZZ,ZZ] rfl rfl rfl rfl (two_of HT_.out (by kernel_rfl)) (by decide) (by decide) (fun K hK => ?_) (fun K hK => ?_)
       ·skip
        refine goes_ Try.func58 (by kernel_rfl) rfl #[.agg #[.int .u8 a0_0, .int .i64 a0_1, .string a0_2, .string a0_3, .string a0_4, .int .u64 a0_5]] (by rfl) rfl rfl mS_ ?_
        with_reducible refine (msg_Span.calls a0_0 a0_1 a0_2 a0_3 a0_4 a0_5 t149 t150 _ A40.out).mono ?_
        rintro e w66 ⟨rfl, hb⟩
        refine ⟨_, rfl, ?_⟩
        have n0_ := Aside0.mk (bB (bX_ BK143.out) hb)
        have n1_ := Aside0.mk (bB (bX_ BK144.out) hb)
        have n2_ := Aside0.mk (bB (bX_ BK145.out) hb)
        have n3_ := Aside0.mk (wT (bS3_ GE143.out GE144.out GE145.out) hb)
        clear BK143
        clear BK144
        clear BK145
        clear HB
        have BK143 := n0_
        have BK144 := n1_
        have BK145 := n2_
        have HB := n3_
        clear n0_ n1_ n2_ n3_
        (try clear hb)
        (try clear hb2)
        (try clear hk)
        (try clear hi)
        refine hK.out _ _ ⟨(bC BK143.out 0).trans rfl, (bC BK143.out 1).trans rfl, (bC BK143.out 2).trans rfl, (bC BK143.out 3).trans rfl, (bC BK143.out 4).trans rfl, (bC BK143.out 5).trans rfl, (bC BK144.out 0).trans rfl, (bC BK144.out 1).trans rfl⟩ (fun hHeld => ?_)
        clear hK K
        refine norm_ (a' := ?_) ?_ ?_
        rotate_left
        ·show Act.put _ (some 26) _ = _
         simp only [Act.put, sA1, sA2, sA3, i64_w, i32_w]
         rfl
        refine two_ (i := 3) (j := 7) (Ni := some 28) (Nj := some 6) #[YY,YY,YY,YY,ZZ,ZZ,ZZ,ZZ,ZZ,ZZ] #[YY,YY,YY,ZZ,ZZ,ZZ,ZZ,YY,ZZ,ZZ] rfl rfl rfl rfl (two_of HT_.out (by kernel_rfl)) (by decide) (by decide) (fun K hK => ?_) (fun K hK => ?_)
        ·skip
         refine goes_ Try.func57 (by kernel_rfl) rfl #[.agg #[.string t149, .string t150], .agg #[.string a1_0, .string a1_1]] (by rfl) rfl rfl mS_ ?_
         with_reducible refine (key_Meet.calls kj2 t149 t150 a1_0 a1_1 t151 t152 false _ A41.out).mono ?_
         rintro e w67 ⟨rfl, hb⟩
         refine ⟨_, rfl, ?_⟩
         have n0_ := Aside0.mk (bB (bX_ BK143.out) hb)
         have n1_ := Aside0.mk (bB (bX_ BK144.out) hb)
         have n2_ := Aside0.mk (bB (bX_ BK145.out) hb)
         have n3_ := Aside0.mk (wT (bS3_ GE143.out GE144.out GE145.out) hb)
         clear BK143
         clear BK144
         clear BK145
         clear HB
         have BK143 := n0_
         have BK144 := n1_
         have BK145 := n2_
         have HB := n3_
         clear n0_ n1_ n2_ n3_
         (try clear hb)
         (try clear hb2)
         (try clear hk)
         (try clear hi)
         refine hK.out _ _ ⟨(bC BK143.out 0).trans rfl, (bC BK143.out 1).trans rfl, (bC BK143.out 2).trans rfl, (bC BK143.out 3).trans rfl, (bC BK143.out 4).trans rfl, (bC BK143.out 5).trans rfl, (bC BK144.out 0).trans rfl, (bC BK144.out 1).trans rfl⟩ (fun hHeld => ?_)
         clear hK K
         refine norm_ (a' := ?_) ?_ ?_
         rotate_left
         ·show Act.put _ (some 28) _ = _
          simp only [Act.put, sA1, sA2, sA3, i64_w, i32_w]
          rfl
         refine pU_ 4 24 #[YY,YY,YY,YY,YY,ZZ,ZZ,ZZ,ZZ,ZZ] ?_
         refine pU_ 5 29 #[YY,YY,YY,YY,YY,YY,ZZ,ZZ,ZZ,ZZ] ?_
         refine pU_ 6 30 #[YY,YY,YY,YY,YY,YY,YY,ZZ,ZZ,ZZ] ?_
         refine one_ (i := 7) (N := some 6) #[YY,YY,YY,YY,YY,YY,YY,YY,ZZ,ZZ] rfl rfl (one_of HT_.out (by kernel_rfl)) (by decide) (fun K hK => ?_)
         refine box_step ?hg (N := 6) ?hd (cs := #[.string (⟨#[]⟩ : BA), .string (⟨#[]⟩ : BA)]) (t := 28) ?hr ?_; (case hd => rfl); (case hg => rfl); (case hr => first | (go_simp; done) | (go_simp; rfl))
         intro gb154 hg w68 hbox hb
         have n0_ := Aside0.mk (bB (bX_ BK143.out) hb)
         have n1_ := Aside0.mk (bB (bX_ BK144.out) hb)
         have n2_ := Aside0.mk (bB (bX_ BK145.out) hb)
         have n3_ := Aside0.mk (wT (bS3_ GE143.out GE144.out GE145.out) hb)
         have n4_ := Aside0.mk (hbox)
         have n5_ := Aside0.mk ((by rw [hg]; exact (wZ (bS3_ GE143.out GE144.out GE145.out)) : w.heap.size ≤ gb154))
         have n6_ := Aside0.mk ((by rw [hg]; exact (wZ (bS3_ GE143.out GE144.out GE145.out)) : w.heap.size ≤ gb154))
         have n7_ := Aside0.mk ((by rw [hg]; exact Nat.ne_of_lt (blk_lt (g := gb143) (o := .cells #[.int .u8 a0_0, .int .i64 a0_1, .string a0_2, .string a0_3, .string a0_4, .int .u64 a0_5] 32 (0, 0)) (bX_ BK143.out)) : gb143 ≠ gb154))
         have n8_ := Aside0.mk ((by rw [hg]; exact Nat.ne_of_gt (blk_lt (g := gb143) (o := .cells #[.int .u8 a0_0, .int .i64 a0_1, .string a0_2, .string a0_3, .string a0_4, .int .u64 a0_5] 32 (0, 0)) (bX_ BK143.out)) : gb154 ≠ gb143))
         have n9_ := Aside0.mk ((by rw [hg]; exact Nat.ne_of_lt (blk_lt (g := gb144) (o := .cells #[.string a1_0, .string a1_1] 28 (0, 0)) (bX_ BK144.out)) : gb144 ≠ gb154))
         have n10_ := Aside0.mk ((by rw [hg]; exact Nat.ne_of_gt (blk_lt (g := gb144) (o := .cells #[.string a1_0, .string a1_1] 28 (0, 0)) (bX_ BK144.out)) : gb154 ≠ gb144))
         have n11_ := Aside0.mk ((by rw [hg]; exact Nat.ne_of_lt (blk_lt (g := gb145) (o := .cells #[.int .u8 0, .int .i64 0, .string (⟨#[]⟩ : BA), .string (⟨#[]⟩ : BA), .string (⟨#[]⟩ : BA), .int .u64 0] 32 (0, 0)) (bX_ BK145.out)) : gb145 ≠ gb154))
         have n12_ := Aside0.mk ((by rw [hg]; exact Nat.ne_of_gt (blk_lt (g := gb145) (o := .cells #[.int .u8 0, .int .i64 0, .string (⟨#[]⟩ : BA), .string (⟨#[]⟩ : BA), .string (⟨#[]⟩ : BA), .int .u64 0] 32 (0, 0)) (bX_ BK145.out)) : gb154 ≠ gb145))
         clear BK143
         clear BK144
         clear BK145
         clear HB
         have BK143 := n0_
         have BK144 := n1_
         have BK145 := n2_
         have HB := n3_
         have BK154 := n4_
         have GW154 := n5_
         have GE154 := n6_
         have NB143_154 := n7_
         have NB154_143 := n8_
         have NB144_154 := n9_
         have NB154_144 := n10_
         have NB145_154 := n11_
         have NB154_145 := n12_
         clear n0_ n1_ n2_ n3_ n4_ n5_ n6_ n7_ n8_ n9_ n10_ n11_ n12_
         clear hb hbox hg
         refine hK.out _ _ ⟨(bC BK143.out 0).trans rfl, (bC BK143.out 1).trans rfl, (bC BK143.out 2).trans rfl, (bC BK143.out 3).trans rfl, (bC BK143.out 4).trans rfl, (bC BK143.out 5).trans rfl, (bC BK144.out 0).trans rfl, (bC BK144.out 1).trans rfl⟩ (fun hHeld => ?_)
         clear hK K
         refine norm_ (a' := ?_) ?_ ?_
         rotate_left
         ·show Act.put _ (some 6) _ = _
          simp only [Act.put, sA1, sA2, sA3, i64_w, i32_w]
          rfl
         exact norm_ (by simp only [putAll, Act.put, sA1, sA2, sA3]) (hCont (gb154) _ ⟨hHeld, (bX_ BK143.out), (bX_ BK144.out), (bX_ BK145.out), (bX_ BK154.out), GW154.out, GE154.out, NB143_154.out, NB154_143.out, NB144_154.out, NB154_144.out, NB145_154.out, NB154_145.out, (bS4_ GE143.out GE144.out GE145.out GE154.out)⟩)
        ·skip
         refine box_step ?hg (N := 6) ?hd (cs := #[.string (⟨#[]⟩ : BA), .string (⟨#[]⟩ : BA)]) (t := 28) ?hr ?_; (case hd => rfl); (case hg => rfl); (case hr => first | (go_simp; done) | (go_simp; rfl))
         intro gb154 hg w67 hbox hb
         have n0_ := Aside0.mk (bB (bX_ BK143.out) hb)
         have n1_ := Aside0.mk (bB (bX_ BK144.out) hb)
         have n2_ := Aside0.mk (bB (bX_ BK145.out) hb)
         have n3_ := Aside0.mk (wT (bS3_ GE143.out GE144.out GE145.out) hb)
         have n4_ := Aside0.mk (hbox)
         have n5_ := Aside0.mk ((by rw [hg]; exact (wZ (bS3_ GE143.out GE144.out GE145.out)) : w.heap.size ≤ gb154))
         have n6_ := Aside0.mk ((by rw [hg]; exact (wZ (bS3_ GE143.out GE144.out GE145.out)) : w.heap.size ≤ gb154))
         have n7_ := Aside0.mk ((by rw [hg]; exact Nat.ne_of_lt (blk_lt (g := gb143) (o := .cells #[.int .u8 a0_0, .int .i64 a0_1, .string a0_2, .string a0_3, .string a0_4, .int .u64 a0_5] 32 (0, 0)) (bX_ BK143.out)) : gb143 ≠ gb154))
         have n8_ := Aside0.mk ((by rw [hg]; exact Nat.ne_of_gt (blk_lt (g := gb143) (o := .cells #[.int .u8 a0_0, .int .i64 a0_1, .string a0_2, .string a0_3, .string a0_4, .int .u64 a0_5] 32 (0, 0)) (bX_ BK143.out)) : gb154 ≠ gb143))
         have n9_ := Aside0.mk ((by rw [hg]; exact Nat.ne_of_lt (blk_lt (g := gb144) (o := .cells #[.string a1_0, .string a1_1] 28 (0, 0)) (bX_ BK144.out)) : gb144 ≠ gb154))
         have n10_ := Aside0.mk ((by rw [hg]; exact Nat.ne_of_gt (blk_lt (g := gb144) (o := .cells #[.string a1_0, .string a1_1] 28 (0, 0)) (bX_ BK144.out)) : gb154 ≠ gb144))
         have n11_ := Aside0.mk ((by rw [hg]; exact Nat.ne_of_lt (blk_lt (g := gb145) (o := .cells #[.int .u8 0, .int .i64 0, .string (⟨#[]⟩ : BA), .string (⟨#[]⟩ : BA), .string (⟨#[]⟩ : BA), .int .u64 0] 32 (0, 0)) (bX_ BK145.out)) : gb145 ≠ gb154))
         have n12_ := Aside0.mk ((by rw [hg]; exact Nat.ne_of_gt (blk_lt (g := gb145) (o := .cells #[.int .u8 0, .int .i64 0, .string (⟨#[]⟩ : BA), .string (⟨#[]⟩ : BA), .string (⟨#[]⟩ : BA), .int .u64 0] 32 (0, 0)) (bX_ BK145.out)) : gb154 ≠ gb145))
         clear BK143
         clear BK144
         clear BK145
         clear HB
         have BK143 := n0_
         have BK144 := n1_
         have BK145 := n2_
         have HB := n3_
         have BK154 := n4_
         have GW154 := n5_
         have GE154 := n6_
         have NB143_154 := n7_
         have NB154_143 := n8_
         have NB144_154 := n9_
         have NB154_144 := n10_
         have NB145_154 := n11_
         have NB154_145 := n12_
         clear n0_ n1_ n2_ n3_ n4_ n5_ n6_ n7_ n8_ n9_ n10_ n11_ n12_
         clear hb hbox hg
         refine hK.out _ _ ⟨(bC BK143.out 0).trans rfl, (bC BK143.out 1).trans rfl, (bC BK143.out 2).trans rfl, (bC BK143.out 3).trans rfl, (bC BK143.out 4).trans rfl, (bC BK143.out 5).trans rfl, (bC BK144.out 0).trans rfl, (bC BK144.out 1).trans rfl⟩ (fun hHeld => ?_)
         clear hK K
         refine norm_ (a' := ?_) ?_ ?_
         rotate_left
         ·show Act.put _ (some 6) _ = _
          simp only [Act.put, sA1, sA2, sA3, i64_w, i32_w]
          rfl
         refine one_ (i := 3) (N := some 28) #[YY,YY,YY,YY,ZZ,ZZ,ZZ,YY,ZZ,ZZ] rfl rfl (one_of HT_.out (by kernel_rfl)) (by decide) (fun K hK => ?_)
         refine goes_ Try.func57 (by kernel_rfl) rfl #[.agg #[.string t149, .string t150], .agg #[.string a1_0, .string a1_1]] (by rfl) rfl rfl mS_ ?_
         with_reducible refine (key_Meet.calls kj2 t149 t150 a1_0 a1_1 t151 t152 false _ A41.out).mono ?_
         rintro e w68 ⟨rfl, hb⟩
         refine ⟨_, rfl, ?_⟩
         have n0_ := Aside0.mk (bB (bX_ BK143.out) hb)
         have n1_ := Aside0.mk (bB (bX_ BK144.out) hb)
         have n2_ := Aside0.mk (bB (bX_ BK145.out) hb)
         have n3_ := Aside0.mk (bB (bX_ BK154.out) hb)
         have n4_ := Aside0.mk (wT (bS4_ GE143.out GE144.out GE145.out GE154.out) hb)
         clear BK143
         clear BK144
         clear BK145
         clear BK154
         clear HB
         have BK143 := n0_
         have BK144 := n1_
         have BK145 := n2_
         have BK154 := n3_
         have HB := n4_
         clear n0_ n1_ n2_ n3_ n4_
         (try clear hb)
         (try clear hb2)
         (try clear hk)
         (try clear hi)
         refine hK.out _ _ ⟨(bC BK143.out 0).trans rfl, (bC BK143.out 1).trans rfl, (bC BK143.out 2).trans rfl, (bC BK143.out 3).trans rfl, (bC BK143.out 4).trans rfl, (bC BK143.out 5).trans rfl, (bC BK144.out 0).trans rfl, (bC BK144.out 1).trans rfl⟩ (fun hHeld => ?_)
         clear hK K
         refine norm_ (a' := ?_) ?_ ?_
         rotate_left
         ·show Act.put _ (some 28) _ = _
          simp only [Act.put, sA1, sA2, sA3, i64_w, i32_w]
          rfl
         refine pU_ 4 24 #[YY,YY,YY,YY,YY,ZZ,ZZ,YY,ZZ,ZZ] ?_
         refine pU_ 5 29 #[YY,YY,YY,YY,YY,YY,ZZ,YY,ZZ,ZZ] ?_
         refine pU_ 6 30 #[YY,YY,YY,YY,YY,YY,YY,YY,ZZ,ZZ] ?_
         exact norm_ (by simp only [putAll, Act.put, sA1, sA2, sA3]) (hCont (gb154) _ ⟨hHeld, (bX_ BK143.out), (bX_ BK144.out), (bX_ BK145.out), (bX_ BK154.out), GW154.out, GE154.out, NB143_154.out, NB154_143.out, NB144_154.out, NB154_144.out, NB145_154.out, NB154_145.out, (bS4_ GE143.out GE144.out GE145.out GE154.out)⟩)
       ·skip
        refine box_step ?hg (N := 6) ?hd (cs := #[.string (⟨#[]⟩ : BA), .string (⟨#[]⟩ : BA)]) (t := 28) ?hr ?_; (case hd => rfl); (case hg => rfl); (case hr => first | (go_simp; done) | (go_simp; rfl))
        intro gb154 hg w66 hbox hb
        have n0_ := Aside0.mk (bB (bX_ BK143.out) hb)
        have n1_ := Aside0.mk (bB (bX_ BK144.out) hb)
        have n2_ := Aside0.mk (bB (bX_ BK145.out) hb)
        have n3_ := Aside0.mk (wT (bS3_ GE143.out GE144.out GE145.out) hb)
        have n4_ := Aside0.mk (hbox)
        have n5_ := Aside0.mk ((by rw [hg]; exact (wZ (bS3_ GE143.out GE144.out GE145.out)) : w.heap.size ≤ gb154))
        have n6_ := Aside0.mk ((by rw [hg]; exact (wZ (bS3_ GE143.out GE144.out GE145.out)) : w.heap.size ≤ gb154))
        have n7_ := Aside0.mk ((by rw [hg]; exact Nat.ne_of_lt (blk_lt (g := gb143) (o := .cells #[.int .u8 a0_0, .int .i64 a0_1, .string a0_2, .string a0_3, .string a0_4, .int .u64 a0_5] 32 (0, 0)) (bX_ BK143.out)) : gb143 ≠ gb154))
        have n8_ := Aside0.mk ((by rw [hg]; exact Nat.ne_of_gt (blk_lt (g := gb143) (o := .cells #[.int .u8 a0_0, .int .i64 a0_1, .string a0_2, .string a0_3, .string a0_4, .int .u64 a0_5] 32 (0, 0)) (bX_ BK143.out)) : gb154 ≠ gb143))
        have n9_ := Aside0.mk ((by rw [hg]; exact Nat.ne_of_lt (blk_lt (g := gb144) (o := .cells #[.string a1_0, .string a1_1] 28 (0, 0)) (bX_ BK144.out)) : gb144 ≠ gb154))
        have n10_ := Aside0.mk ((by rw [hg]; exact Nat.ne_of_gt (blk_lt (g := gb144) (o := .cells #[.string a1_0, .string a1_1] 28 (0, 0)) (bX_ BK144.out)) : gb154 ≠ gb144))
        have n11_ := Aside0.mk ((by rw [hg]; exact Nat.ne_of_lt (blk_lt (g := gb145) (o := .cells #[.int .u8 0, .int .i64 0, .string (⟨#[]⟩ : BA), .string (⟨#[]⟩ : BA), .string (⟨#[]⟩ : BA), .int .u64 0] 32 (0, 0)) (bX_ BK145.out)) : gb145 ≠ gb154))
        have n12_ := Aside0.mk ((by rw [hg]; exact Nat.ne_of_gt (blk_lt (g := gb145) (o := .cells #[.int .u8 0, .int .i64 0, .string (⟨#[]⟩ : BA), .string (⟨#[]⟩ : BA), .string (⟨#[]⟩ : BA), .int .u64 0] 32 (0, 0)) (bX_ BK145.out)) : gb154 ≠ gb145))
        clear BK143
        clear BK144
        clear BK145
        clear HB
        have BK143 := n0_
        have BK144 := n1_
        have BK145 := n2_
        have HB := n3_
        have BK154 := n4_
        have GW154 := n5_
        have GE154 := n6_
        have NB143_154 := n7_
        have NB154_143 := n8_
        have NB144_154 := n9_
        have NB154_144 := n10_
        have NB145_154 := n11_
        have NB154_145 := n12_
        clear n0_ n1_ n2_ n3_ n4_ n5_ n6_ n7_ n8_ n9_ n10_ n11_ n12_
        clear hb hbox hg
        refine hK.out _ _ ⟨(bC BK143.out 0).trans rfl, (bC BK143.out 1).trans rfl, (bC BK143.out 2).trans rfl, (bC BK143.out 3).trans rfl, (bC BK143.out 4).trans rfl, (bC BK143.out 5).trans rfl, (bC BK144.out 0).trans rfl, (bC BK144.out 1).trans rfl⟩ (fun hHeld => ?_)
        clear hK K
        refine norm_ (a' := ?_) ?_ ?_
        rotate_left
        ·show Act.put _ (some 6) _ = _
         simp only [Act.put, sA1, sA2, sA3, i64_w, i32_w]
         rfl
        refine one_ (i := 1) (N := some 26) #[YY,YY,YY,ZZ,ZZ,ZZ,ZZ,YY,ZZ,ZZ] rfl rfl (one_of HT_.out (by kernel_rfl)) (by decide) (fun K hK => ?_)
        refine goes_ Try.func58 (by kernel_rfl) rfl #[.agg #[.int .u8 a0_0, .int .i64 a0_1, .string a0_2, .string a0_3, .string a0_4, .int .u64 a0_5]] (by rfl) rfl rfl mS_ ?_
        with_reducible refine (msg_Span.calls a0_0 a0_1 a0_2 a0_3 a0_4 a0_5 t149 t150 _ A40.out).mono ?_
        rintro e w67 ⟨rfl, hb⟩
        refine ⟨_, rfl, ?_⟩
        have n0_ := Aside0.mk (bB (bX_ BK143.out) hb)
        have n1_ := Aside0.mk (bB (bX_ BK144.out) hb)
        have n2_ := Aside0.mk (bB (bX_ BK145.out) hb)
        have n3_ := Aside0.mk (bB (bX_ BK154.out) hb)
        have n4_ := Aside0.mk (wT (bS4_ GE143.out GE144.out GE145.out GE154.out) hb)
        clear BK143
        clear BK144
        clear BK145
        clear BK154
        clear HB
        have BK143 := n0_
        have BK144 := n1_
        have BK145 := n2_
        have BK154 := n3_
        have HB := n4_
        clear n0_ n1_ n2_ n3_ n4_
        (try clear hb)
        (try clear hb2)
        (try clear hk)
        (try clear hi)
        refine hK.out _ _ ⟨(bC BK143.out 0).trans rfl, (bC BK143.out 1).trans rfl, (bC BK143.out 2).trans rfl, (bC BK143.out 3).trans rfl, (bC BK143.out 4).trans rfl, (bC BK143.out 5).trans rfl, (bC BK144.out 0).trans rfl, (bC BK144.out 1).trans rfl⟩ (fun hHeld => ?_)
        clear hK K
        refine norm_ (a' := ?_) ?_ ?_
        rotate_left
        ·show Act.put _ (some 26) _ = _
         simp only [Act.put, sA1, sA2, sA3, i64_w, i32_w]
         rfl
        refine one_ (i := 3) (N := some 28) #[YY,YY,YY,YY,ZZ,ZZ,ZZ,YY,ZZ,ZZ] rfl rfl (one_of HT_.out (by kernel_rfl)) (by decide) (fun K hK => ?_)
        refine goes_ Try.func57 (by kernel_rfl) rfl #[.agg #[.string t149, .string t150], .agg #[.string a1_0, .string a1_1]] (by rfl) rfl rfl mS_ ?_
        with_reducible refine (key_Meet.calls kj2 t149 t150 a1_0 a1_1 t151 t152 false _ A41.out).mono ?_
        rintro e w68 ⟨rfl, hb⟩
        refine ⟨_, rfl, ?_⟩
        have n0_ := Aside0.mk (bB (bX_ BK143.out) hb)
        have n1_ := Aside0.mk (bB (bX_ BK144.out) hb)
        have n2_ := Aside0.mk (bB (bX_ BK145.out) hb)
        have n3_ := Aside0.mk (bB (bX_ BK154.out) hb)
        have n4_ := Aside0.mk (wT (bS4_ GE143.out GE144.out GE145.out GE154.out) hb)
        clear BK143
        clear BK144
        clear BK145
        clear BK154
        clear HB
        have BK143 := n0_
        have BK144 := n1_
        have BK145 := n2_
        have BK154 := n3_
        have HB := n4_
        clear n0_ n1_ n2_ n3_ n4_
        (try clear hb)
        (try clear hb2)
        (try clear hk)
        (try clear hi)
        refine hK.out _ _ ⟨(bC BK143.out 0).trans rfl, (bC BK143.out 1).trans rfl, (bC BK143.out 2).trans rfl, (bC BK143.out 3).trans rfl, (bC BK143.out 4).trans rfl, (bC BK143.out 5).trans rfl, (bC BK144.out 0).trans rfl, (bC BK144.out 1).trans rfl⟩ (fun hHeld => ?_)
        clear hK K
        refine norm_ (a' := ?_) ?_ ?_
        rotate_left
        ·show Act.put _ (some 28) _ = _
         simp only [Act.put, sA1, sA2, sA3, i64_w, i32_w]
         rfl
        refine pU_ 4 24 #[YY,YY,YY,YY,YY,ZZ,ZZ,YY,ZZ,ZZ] ?_
        refine pU_ 5 29 #[YY,YY,YY,YY,YY,YY,ZZ,YY,ZZ,ZZ] ?_
        refine pU_ 6 30 #[YY,YY,YY,YY,YY,YY,YY,YY,ZZ,ZZ] ?_
        exact norm_ (by simp only [putAll, Act.put, sA1, sA2, sA3]) (hCont (gb154) _ ⟨hHeld, (bX_ BK143.out), (bX_ BK144.out), (bX_ BK145.out), (bX_ BK154.out), GW154.out, GE154.out, NB143_154.out, NB154_143.out, NB144_154.out, NB154_144.out, NB145_154.out, NB154_145.out, (bS4_ GE143.out GE144.out GE145.out GE154.out)⟩)
      rintro gb154 w69 ⟨hS_, h0_, h1_, h2_, h3_, h4_, h5_, h6_, h7_, h8_, h9_, h10_, h11_, h12_⟩
      have n0_ : Aside0 (w69.heap[gb143]? = some (.cells #[.int .u8 a0_0, .int .i64 a0_1, .string a0_2, .string a0_3, .string a0_4, .int .u64 a0_5] 32 (0, 0))) := ⟨h0_⟩
      have n1_ : Aside0 (w69.heap[gb144]? = some (.cells #[.string a1_0, .string a1_1] 28 (0, 0))) := ⟨h1_⟩
      have n2_ : Aside0 (w69.heap[gb145]? = some (.cells #[.int .u8 0, .int .i64 0, .string (⟨#[]⟩ : BA), .string (⟨#[]⟩ : BA), .string (⟨#[]⟩ : BA), .int .u64 0] 32 (0, 0))) := ⟨h2_⟩
      have n3_ : Aside0 (w69.heap[gb154]? = some (.cells #[.string (⟨#[]⟩ : BA), .string (⟨#[]⟩ : BA)] 28 (0, 0))) := ⟨h3_⟩
      have n4_ : Aside0 (w.heap.size ≤ gb154) := ⟨h4_⟩
      have n5_ : Aside0 (w.heap.size ≤ gb154) := ⟨h5_⟩
      have n6_ : Aside0 (gb143 ≠ gb154) := ⟨h6_⟩
      have n7_ : Aside0 (gb154 ≠ gb143) := ⟨h7_⟩
      have n8_ : Aside0 (gb144 ≠ gb154) := ⟨h8_⟩
      have n9_ : Aside0 (gb154 ≠ gb144) := ⟨h9_⟩
      have n10_ : Aside0 (gb145 ≠ gb154) := ⟨h10_⟩
      have n11_ : Aside0 (gb154 ≠ gb145) := ⟨h11_⟩
      have n12_ : Aside0 (Below w.heap.size w w69) := ⟨h12_⟩
      clear BK143
      clear BK144
      clear BK145
      clear HB
      clear h0_ h1_ h2_ h3_ h4_ h5_ h6_ h7_ h8_ h9_ h10_ h11_ h12_
      have BK143 := n0_
      have BK144 := n1_
      have BK145 := n2_
      have BK154 := n3_
      have GW154 := n4_
      have GE154 := n5_
      have NB143_154 := n6_
      have NB154_143 := n7_
      have NB144_154 := n8_
      have NB154_144 := n9_
      have NB145_154 := n10_
      have NB154_145 := n11_
      have HB := n12_
      clear n0_ n1_ n2_ n3_ n4_ n5_ n6_ n7_ n8_ n9_ n10_ n11_ n12_
      have hHeld : w69.cell? ⟨gb143, 0, none⟩ = some (.int .u8 a0_0) ∧ w69.cell? ⟨gb143, 1, none⟩ = some (.int .i64 a0_1) ∧ w69.cell? ⟨gb143, 2, none⟩ = some (.string a0_2) ∧ w69.cell? ⟨gb143, 3, none⟩ = some (.string a0_3) ∧ w69.cell? ⟨gb143, 4, none⟩ = some (.string a0_4) ∧ w69.cell? ⟨gb143, 5, none⟩ = some (.int .u64 a0_5) ∧ w69.cell? ⟨gb144, 0, none⟩ = some (.string a1_0) ∧ w69.cell? ⟨gb144, 1, none⟩ = some (.string a1_1) := hS_
      refine norm_ (a' := ?_) ?_ ?_
      rotate_left
      ·simp only [putAll, Act.put, sA1, sA2, sA3]
       rfl
      refine one_ (i := 8) (N := none) #[YY,YY,YY,YY,YY,YY,YY,YY,YY,ZZ] rfl rfl (one_of HT_.out (by kernel_rfl)) (by decide) (fun K hK => ?_)
      have hs70 : w69.cell? ⟨gb154, 0, none⟩ = some (.string (⟨#[]⟩ : BA)) := (bC BK154.out 0).trans rfl
      have hfs70 := bF BK154.out 0
      have hns70_0 := NB143_154.out
      have hns70_1 := NB144_154.out
      have hns70_2 := NB145_154.out
      have hms70_0 := NB154_143.out
      have hms70_1 := NB154_144.out
      have hms70_2 := NB154_145.out
      have hs71 : w69.cell? ⟨gb154, 1, none⟩ = some (.string (⟨#[]⟩ : BA)) := (bC BK154.out 1).trans rfl
      have hfs71 := bF BK154.out 1
      have hns71_0 := NB143_154.out
      have hns71_1 := NB144_154.out
      have hns71_2 := NB145_154.out
      have hms71_0 := NB154_143.out
      have hms71_1 := NB154_144.out
      have hms71_2 := NB154_145.out
      refine skip_ (w1 := ?_) (by rfl) rfl ?_ ?_
      rotate_left
      ·go_simp
       rfl
      refine hK.out _ _ ⟨((cF (p := ⟨gb154, _, none⟩) NB143_154.out _).trans (((cF (p := ⟨gb154, _, none⟩) NB143_154.out _).trans (hHeld.1)))), ((cF (p := ⟨gb154, _, none⟩) NB143_154.out _).trans (((cF (p := ⟨gb154, _, none⟩) NB143_154.out _).trans (hHeld.2.1)))), ((cF (p := ⟨gb154, _, none⟩) NB143_154.out _).trans (((cF (p := ⟨gb154, _, none⟩) NB143_154.out _).trans (hHeld.2.2.1)))), ((cF (p := ⟨gb154, _, none⟩) NB143_154.out _).trans (((cF (p := ⟨gb154, _, none⟩) NB143_154.out _).trans (hHeld.2.2.2.1)))), ((cF (p := ⟨gb154, _, none⟩) NB143_154.out _).trans (((cF (p := ⟨gb154, _, none⟩) NB143_154.out _).trans (hHeld.2.2.2.2.1)))), ((cF (p := ⟨gb154, _, none⟩) NB143_154.out _).trans (((cF (p := ⟨gb154, _, none⟩) NB143_154.out _).trans (hHeld.2.2.2.2.2.1)))), ((cF (p := ⟨gb154, _, none⟩) NB144_154.out _).trans (((cF (p := ⟨gb154, _, none⟩) NB144_154.out _).trans (hHeld.2.2.2.2.2.2.1)))), ((cF (p := ⟨gb154, _, none⟩) NB144_154.out _).trans (((cF (p := ⟨gb154, _, none⟩) NB144_154.out _).trans (hHeld.2.2.2.2.2.2.2))))⟩ (fun hHeld => ?_)
      clear hK K
      refine pU_ 9 7 #[YY,YY,YY,YY,YY,YY,YY,YY,YY,YY] ?_
      refine done_ (done_of HT_.out (by kernel_rfl)) ?_
      have hnb72 := NB145_144.out
      have hnc72 := NB144_145.out
      have hnb73 := NB145_154.out
      have hnc73 := NB154_145.out
      have hcz74_0 := cz_ BK145.out 0
      have hcz74_1 := cz_ BK145.out 1
      have hcz74_2 := cz_ BK145.out 2
      have hcz74_3 := cz_ BK145.out 3
      have hcz74_4 := cz_ BK145.out 4
      have hcz74_5 := cz_ BK145.out 5
      have hfz74_0 := bF BK145.out 0
      have hfz74_1 := bF BK145.out 1
      have hfz74_2 := bF BK145.out 2
      have hfz74_3 := bF BK145.out 3
      have hfz74_4 := bF BK145.out 4
      have hfz74_5 := bF BK145.out 5
      try go_wp2
      refine bodyPost_ret (results_ct rfl _ _ gb145 32 #[.int .u8 0, .int .i64 0, .string (⟨#[]⟩ : BA), .string (⟨#[]⟩ : BA), .string (⟨#[]⟩ : BA), .int .u64 0] (0, 0) _ rfl (by (with_reducible repeat (first | refine bN ?_ _ | refine bD ?_ | refine bA ?_ _)); refine bP (cs := #[.int .u8 0, .int .i64 0, .string (⟨#[]⟩ : BA), .string (⟨#[]⟩ : BA), .string (⟨#[]⟩ : BA), .int .u64 0]) ?_ 5 _ rfl; (with_reducible repeat (first | refine bN ?_ _ | refine bD ?_ | refine bA ?_ _)); refine bP (cs := #[.int .u8 0, .int .i64 0, .string (⟨#[]⟩ : BA), .string (⟨#[]⟩ : BA), .string (⟨#[]⟩ : BA), .int .u64 0]) ?_ 4 _ rfl; (with_reducible repeat (first | refine bN ?_ _ | refine bD ?_ | refine bA ?_ _)); refine bP (cs := #[.int .u8 0, .int .i64 0, .string (⟨#[]⟩ : BA), .string (⟨#[]⟩ : BA), .string (⟨#[]⟩ : BA), .int .u64 0]) ?_ 3 _ rfl; (with_reducible repeat (first | refine bN ?_ _ | refine bD ?_ | refine bA ?_ _)); refine bP (cs := #[.int .u8 0, .int .i64 0, .string (⟨#[]⟩ : BA), .string (⟨#[]⟩ : BA), .string (⟨#[]⟩ : BA), .int .u64 0]) ?_ 2 _ rfl; (with_reducible repeat (first | refine bN ?_ _ | refine bD ?_ | refine bA ?_ _)); refine bP (cs := #[.int .u8 0, .int .i64 0, .string (⟨#[]⟩ : BA), .string (⟨#[]⟩ : BA), .string (⟨#[]⟩ : BA), .int .u64 0]) ?_ 1 _ rfl; (with_reducible repeat (first | refine bN ?_ _ | refine bD ?_ | refine bA ?_ _)); refine bP (cs := #[.int .u8 0, .int .i64 0, .string (⟨#[]⟩ : BA), .string (⟨#[]⟩ : BA), .string (⟨#[]⟩ : BA), .int .u64 0]) ?_ 0 _ rfl; (with_reducible repeat (first | refine bN ?_ _ | refine bD ?_ | refine bA ?_ _)); refine bR ?_ NB145_154.out _; (with_reducible repeat (first | refine bN ?_ _ | refine bD ?_ | refine bA ?_ _)); refine bR ?_ NB145_154.out _; (with_reducible repeat (first | refine bN ?_ _ | refine bD ?_ | refine bA ?_ _)); exact BK145.out) Try.underlying32 rfl (by kernel_rfl)) rfl ?_
      exact ⟨by first | rfl | (simp [errW_none, errW_some] <;> rfl) | (simp [*, errW_none, errW_some] <;> rfl), by repeat (first | (with_reducible first | exact HB.out | apply wA | apply wN | apply w1 | refine wS ?_ GE143.out | refine wS ?_ GE144.out | refine wS ?_ GE145.out | refine wS ?_ GE154.out) | exact HB.out)⟩
    ·rw [if_neg c39] at H
     have c39b0 : (a0_0 == 4) = false := beq_eq_false_iff_ne.mpr c39
     have c39b1 : (a0_0 != 4) = true := bne_iff_ne.mpr c39
     simp only [Option.some.injEq, Prod.mk.injEq] at H
     obtain ⟨rfl, rfl, rfl, rfl, rfl, rfl, rfl⟩ := H
     have hnb75 := NB143_144.out
     have hnc75 := NB144_143.out
     have hnb76 := NB143_145.out
     have hnc76 := NB145_143.out
     have hcz77_0 := cz_ BK143.out 0
     have hcz77_1 := cz_ BK143.out 1
     have hcz77_2 := cz_ BK143.out 2
     have hcz77_3 := cz_ BK143.out 3
     have hcz77_4 := cz_ BK143.out 4
     have hcz77_5 := cz_ BK143.out 5
     have hfz77_0 := bF BK143.out 0
     have hfz77_1 := bF BK143.out 1
     have hfz77_2 := bF BK143.out 2
     have hfz77_3 := bF BK143.out 3
     have hfz77_4 := bF BK143.out 4
     have hfz77_5 := bF BK143.out 5
     have hnb78 := NB145_144.out
     have hnc78 := NB144_145.out
     have hcz79_0 := cz_ BK145.out 0
     have hcz79_1 := cz_ BK145.out 1
     have hcz79_2 := cz_ BK145.out 2
     have hcz79_3 := cz_ BK145.out 3
     have hcz79_4 := cz_ BK145.out 4
     have hcz79_5 := cz_ BK145.out 5
     have hfz79_0 := bF BK145.out 0
     have hfz79_1 := bF BK145.out 1
     have hfz79_2 := bF BK145.out 2
     have hfz79_3 := bF BK145.out 3
     have hfz79_4 := bF BK145.out 4
     have hfz79_5 := bF BK145.out 5
     go_wp2
     refine bodyPost_ret (results_ct rfl _ _ gb145 32 #[.int .u8 0, .int .i64 0, .string (⟨#[]⟩ : BA), .string (⟨#[]⟩ : BA), .string (⟨#[]⟩ : BA), .int .u64 0] (0, 0) _ rfl (by (with_reducible repeat (first | refine bN ?_ _ | refine bD ?_ | refine bA ?_ _)); refine bP (cs := #[.int .u8 0, .int .i64 0, .string (⟨#[]⟩ : BA), .string (⟨#[]⟩ : BA), .string (⟨#[]⟩ : BA), .int .u64 0]) ?_ 5 _ rfl; (with_reducible repeat (first | refine bN ?_ _ | refine bD ?_ | refine bA ?_ _)); refine bP (cs := #[.int .u8 0, .int .i64 0, .string (⟨#[]⟩ : BA), .string (⟨#[]⟩ : BA), .string (⟨#[]⟩ : BA), .int .u64 0]) ?_ 4 _ rfl; (with_reducible repeat (first | refine bN ?_ _ | refine bD ?_ | refine bA ?_ _)); refine bP (cs := #[.int .u8 0, .int .i64 0, .string (⟨#[]⟩ : BA), .string (⟨#[]⟩ : BA), .string (⟨#[]⟩ : BA), .int .u64 0]) ?_ 3 _ rfl; (with_reducible repeat (first | refine bN ?_ _ | refine bD ?_ | refine bA ?_ _)); refine bP (cs := #[.int .u8 0, .int .i64 0, .string (⟨#[]⟩ : BA), .string (⟨#[]⟩ : BA), .string (⟨#[]⟩ : BA), .int .u64 0]) ?_ 2 _ rfl; (with_reducible repeat (first | refine bN ?_ _ | refine bD ?_ | refine bA ?_ _)); refine bP (cs := #[.int .u8 0, .int .i64 0, .string (⟨#[]⟩ : BA), .string (⟨#[]⟩ : BA), .string (⟨#[]⟩ : BA), .int .u64 0]) ?_ 1 _ rfl; (with_reducible repeat (first | refine bN ?_ _ | refine bD ?_ | refine bA ?_ _)); refine bP (cs := #[.int .u8 0, .int .i64 0, .string (⟨#[]⟩ : BA), .string (⟨#[]⟩ : BA), .string (⟨#[]⟩ : BA), .int .u64 0]) ?_ 0 _ rfl; (with_reducible repeat (first | refine bN ?_ _ | refine bD ?_ | refine bA ?_ _)); exact BK145.out) Try.underlying32 rfl (by kernel_rfl)) rfl ?_
     exact ⟨by first | rfl | (simp [errW_none, errW_some] <;> rfl) | (simp [*, errW_none, errW_some] <;> rfl), by repeat (first | (with_reducible first | exact HB.out | apply wA | apply wN | apply w1 | refine wS ?_ GE143.out | refine wS ?_ GE144.out | refine wS ?_ GE145.out) | exact HB.out)⟩
end Go.Proofs.Ytebejadiaooooaa.P
end
