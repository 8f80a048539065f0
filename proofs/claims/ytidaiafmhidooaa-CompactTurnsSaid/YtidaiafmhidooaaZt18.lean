/- Texts of one claim (laid by shake.py). -/
import Derived.Test.YtidaiafmhidooaaZt3
import Derived.Test.YtidaiafmhidooaaZt17
import Derived.Test.YtidaiafmhidooaaZt9
set_option linter.unusedVariables false
set_option linter.unusedSimpArgs false
section
namespace Go.Proofs.Ytidaiafmhidooaa.P
open Go.RowKit Go.Proofs.YtidaiafmhidooaaW.PrintWords Go.Proofs.YtidaiafmhidooaaW.PrintLast Go.Proofs.YtidaiafmhidooaaW.PrintMore Go.Proofs.Ytidaiafmhidooaa.Own
open Bool renaming true → YY, false → ZZ
open Go.Proofs.YtidaiafmhidooaaW.PrintWords renaming blk_cell → bC, blk_frozen → bF, blk_drewN → bN, blk_alloc → bA, pw_below_drewN → wN, blk_drew → bD, below_drew1 → w1, below_set → wS, below_alloc → wA, blk_below → bB, below_step → wT, below_size → wZ, cell_far → cF, blk_far → bR, blk_put → bP
open List renaming setIfInBounds_toArray → sA1, set_cons_zero → sA2, set_cons_succ → sA3, map_toArray → mA1, map_cons → mA2, map_nil → mA3, length_take → mA4, length_drop → mA5
attribute [local go_sem] max2_str max2_int min2_int max_two min_two max_three min_three max_four min_four   -- for this text's walks alone
attribute [local go_sem high] eqA38
def key_Meet.j0 : Nat → Bool → ByteArray → ByteArray → ByteArray → ByteArray → Option (ByteArray × ByteArray × Bool)
 | 0, _, _, _, _, _ => none
 | k + 1, x14, x657000, x657001, x658000, x658001 => if x14 = true then (some ((⟨#[]⟩ : BA), (⟨#[]⟩ : BA), false)) else ((key_First.f x657001 x658001).bind fun t661 => ((key_RightRange.f (mxs x657000 x658000) t661).bind fun t663 => (if t663 = true then (some (mxs x657000 x658000, t661, true)) else (some ((⟨#[]⟩ : BA), (⟨#[]⟩ : BA), false)))))
def key_Meet.f (k : Nat) (a0_0 : BA) (a0_1 : BA) (a1_0 : BA) (a1_1 : BA) : Option (ByteArray × ByteArray × Bool) := (key_RightRange.f a0_0 a0_1).bind fun t659 => (if t659 = true then ((key_RightRange.f a1_0 a1_1).bind fun t660 => (key_Meet.j0 k (!t660) a0_0 a0_1 a1_0 a1_1)) else (key_Meet.j0 k true a0_0 a0_1 a1_0 a1_1))
def key_Meet.T3 : Bool × List (List Nat × List Nat) := (true, [([], []), ([0], [0]), ([], []), ([2], [2]), ([1, 3], [1, 3]), ([], []), ([5], [5]), ([], []), ([7], [7]), ([6, 8], [6, 8]), ([4, 9], [4, 9]), ([], []), ([11, 10, 9, 0, 1, 2, 3, 4, 5, 6, 7, 8, 9, 10, 11], [10, 11])])
def key_Meet.B3 : List Nat := [0, 1, 0, 4, 15, 0, 32, 0, 128, 480, 1023, 0, 4095]
theorem key_Meet.tab3 : rtab .any (opsOf Try.f82 3) = key_Meet.T3 := by kernel_rfl
theorem key_Meet.bits3 : waitsOk key_Meet.T3.2 key_Meet.B3 = true := by kernel_rfl
set_option maxHeartbeats 8000000 in
set_option maxRecDepth 100000 in
theorem key_Meet.calls (k : Nat) (a0_0 : BA) (a0_1 : BA) (a1_0 : BA) (a1_1 : BA) (r1 : BA) (r2 : BA) (r3 : Bool) (w : World) (h : key_Meet.f k a0_0 a0_1 a1_0 a1_1 = some (r1, r2, r3)) :
  Calls Try.prog 82 #[.agg #[.string a0_0, .string a0_1], .agg #[.string a1_0, .string a1_1]] w fun e w' => e = .returned (.tuple #[.agg #[.string r1, .string r2], .bool r3]) ∧ Below w.heap.size w w' := by
 have hu38 := Try.underlying38
 have HB := Aside0.mk (Below.refl w.heap.size w)
 have H : ((key_RightRange.f a0_0 a0_1).bind fun t659 => (if t659 = true then ((key_RightRange.f a1_0 a1_1).bind fun t660 => (key_Meet.j0 k (!t660) a0_0 a0_1 a1_0 a1_1)) else (key_Meet.j0 k true a0_0 a0_1 a1_0 a1_1))) = some (r1, r2, r3) := h
 clear h
 have HC3 := Aside0.mk H
 clear H
 go_enter Try.func82, Try.ntmps82
 go_upto_region 1 with (first | ((with_reducible refine gate_dst (N := 2) rfl ?_); refine box_event ?hg (N := 2) ?hd (cs := #[.string a0_0, .string a0_1]) (t := 38) ?hr ?_; (case hd => rfl); (case hg => rfl); (case hr => first | (go_simp; done) | (go_simp; rfl)); intro gb656 hg w4 hbox hb; have n0_ := Aside0.mk (wT bW_ hb); have n1_ := Aside0.mk (hbox); have n2_ := Aside0.mk ((by rw [hg]; exact (wZ bW_) : w.heap.size ≤ gb656)); have n3_ := n2_; clear HB; have HB := n0_; have BK656 := n1_; have GW656 := n2_; have GE656 := n3_; clear n0_ n1_ n2_ n3_; clear hb hbox hg) | ((with_reducible refine gate_dst (N := 3) rfl ?_); refine box_event ?hg (N := 3) ?hd (cs := #[.string a1_0, .string a1_1]) (t := 38) ?hr ?_; (case hd => rfl); (case hg => rfl); (case hr => first | (go_simp; done) | (go_simp; rfl)); intro gb657 hg w5 hbox hb; have n0_ := Aside0.mk (bB (g := gb656) (o := .cells #[.string a0_0, .string a0_1] 38 (0, 0)) (bX_ BK656.out) hb); have n1_ := Aside0.mk (wT (by repeat (first | (with_reducible first | exact HB.out | apply wA | apply wN | apply w1 | refine wS ?_ GE656.out) | exact HB.out)) hb); have n2_ := Aside0.mk (hbox); have n3_ := Aside0.mk ((by rw [hg]; exact (wZ (by repeat (first | (with_reducible first | exact HB.out | apply wA | apply wN | apply w1 | refine wS ?_ GE656.out) | exact HB.out))) : w.heap.size ≤ gb657)); have n4_ := n3_; have n5_ := Aside0.mk ((by rw [hg]; exact Nat.ne_of_lt (blk_lt (g := gb656) (o := .cells #[.string a0_0, .string a0_1] 38 (0, 0)) (bX_ BK656.out)) : gb656 ≠ gb657)); have n6_ := Aside0.mk ((by rw [hg]; exact Nat.ne_of_gt (blk_lt (g := gb656) (o := .cells #[.string a0_0, .string a0_1] 38 (0, 0)) (bX_ BK656.out)) : gb657 ≠ gb656)); clear BK656; clear HB; have BK656 := n0_; have HB := n1_; have BK657 := n2_; have GW657 := n3_; have GE657 := n4_; have NB656_657 := n5_; have NB657_656 := n6_; clear n0_ n1_ n2_ n3_ n4_ n5_ n6_; clear hb hbox hg) | ((with_reducible refine gate_dst (N := 4) rfl ?_); refine box_event ?hg (N := 4) ?hd (cs := #[.string (⟨#[]⟩ : BA), .string (⟨#[]⟩ : BA)]) (t := 38) ?hr ?_; (case hd => rfl); (case hg => rfl); (case hr => first | (go_simp; done) | (go_simp; rfl)); intro gb658 hg w6 hbox hb; have n0_ := Aside0.mk (bB (g := gb656) (o := .cells #[.string a0_0, .string a0_1] 38 (0, 0)) (bX_ BK656.out) hb); have n1_ := Aside0.mk (bB (g := gb657) (o := .cells #[.string a1_0, .string a1_1] 38 (0, 0)) (bX_ BK657.out) hb); have n2_ := Aside0.mk (wT (by repeat (first | (with_reducible first | exact HB.out | apply wA | apply wN | apply w1 | refine wS ?_ GE656.out | refine wS ?_ GE657.out) | exact HB.out)) hb); have n3_ := Aside0.mk (hbox); have n4_ := Aside0.mk ((by rw [hg]; exact (wZ (by repeat (first | (with_reducible first | exact HB.out | apply wA | apply wN | apply w1 | refine wS ?_ GE656.out | refine wS ?_ GE657.out) | exact HB.out))) : w.heap.size ≤ gb658)); have n5_ := n4_; have n6_ := Aside0.mk ((by rw [hg]; exact Nat.ne_of_lt (blk_lt (g := gb656) (o := .cells #[.string a0_0, .string a0_1] 38 (0, 0)) (bX_ BK656.out)) : gb656 ≠ gb658)); have n7_ := Aside0.mk ((by rw [hg]; exact Nat.ne_of_gt (blk_lt (g := gb656) (o := .cells #[.string a0_0, .string a0_1] 38 (0, 0)) (bX_ BK656.out)) : gb658 ≠ gb656)); have n8_ := Aside0.mk ((by rw [hg]; exact Nat.ne_of_lt (blk_lt (g := gb657) (o := .cells #[.string a1_0, .string a1_1] 38 (0, 0)) (bX_ BK657.out)) : gb657 ≠ gb658)); have n9_ := Aside0.mk ((by rw [hg]; exact Nat.ne_of_gt (blk_lt (g := gb657) (o := .cells #[.string a1_0, .string a1_1] 38 (0, 0)) (bX_ BK657.out)) : gb658 ≠ gb657)); clear BK656; clear BK657; clear HB; have BK656 := n0_; have BK657 := n1_; have HB := n2_; have BK658 := n3_; have GW658 := n4_; have GE658 := n5_; have NB656_658 := n6_; have NB658_656 := n7_; have NB657_658 := n8_; have NB658_657 := n9_; clear n0_ n1_ n2_ n3_ n4_ n5_ n6_ n7_ n8_ n9_; clear hb hbox hg))
 (try simp only [Act.put, sA1, sA2, sA3])
 go_cut [14] (fun v14 wc => ∃ (kq : Nat) (x14_2 : Bool), v14 = .bool x14_2 ∧ Aside0 (key_Meet.j0 kq x14_2 a0_0 a0_1 a1_0 a1_1 = some (r1, r2, r3)) ∧ Aside0 (kq ≤ k) ∧ Aside0 (wc.heap[gb656]? = some (.cells #[.string a0_0, .string a0_1] 38 (0, 0))) ∧ Aside0 (wc.heap[gb657]? = some (.cells #[.string a1_0, .string a1_1] 38 (0, 0))) ∧ Aside0 (wc.heap[gb658]? = some (.cells #[.string (⟨#[]⟩ : BA), .string (⟨#[]⟩ : BA)] 38 (0, 0))) ∧ Aside0 (Below w.heap.size w wc))
 case first =>
  have H := HC3.out
  clear HC3
  replace H := Option.bind_eq_some_iff.mp H
  obtain ⟨t659, A70, H⟩ := H
  replace H : (if t659 = true then ((key_RightRange.f a1_0 a1_1).bind fun t660 => (key_Meet.j0 k (!t660) a0_0 a0_1 a1_0 a1_1)) else (key_Meet.j0 k true a0_0 a0_1 a1_0 a1_1)) = some (r1, r2, r3) := H
  have A7 := Aside0.mk A70
  clear A70
  by_cases c8 : t659 = true
  ·subst c8
   have H1 : ((key_RightRange.f a1_0 a1_1).bind fun t660 => (key_Meet.j0 k (!t660) a0_0 a0_1 a1_0 a1_1)) = some (r1, r2, r3) := by rw [if_pos rfl] at H; exact H
   clear H
   have H := H1
   clear H1
   replace H := Option.bind_eq_some_iff.mp H
   obtain ⟨t660, A90, H⟩ := H
   replace H : (key_Meet.j0 k (!t660) a0_0 a0_1 a1_0 a1_1) = some (r1, r2, r3) := H
   have A9 := Aside0.mk A90
   clear A90
   have H' := Aside0.mk H
   clear H
   have hnb10 := NB656_657.out
   have hnc10 := NB657_656.out
   have hnb11 := NB656_658.out
   have hnc11 := NB658_656.out
   have hcz12_0 : w6.cell? ⟨gb656, 0, none⟩ = some (.string a0_0) := (bC BK656.out 0).trans rfl
   have hcz12_1 : w6.cell? ⟨gb656, 1, none⟩ = some (.string a0_1) := (bC BK656.out 1).trans rfl
   have hfz12_0 := bF BK656.out 0
   have hfz12_1 := bF BK656.out 1
   go_wp2_with (first | ((with_reducible refine gate_callee (f := 49) rfl ?_); refine goesL_ (some 8) rfl rfl Try.func49 (by kernel_rfl) rfl #[.agg #[.string a0_0, .string a0_1]] rfl mS_ ?_; (with_reducible refine (key_RightRange.calls a0_0 a0_1 true _ A7.out).mono ?_); rintro e w13 ⟨rfl, hb⟩; refine ⟨_, rfl, ?_⟩; have n0_ := Aside0.mk (bB (g := gb656) (o := .cells #[.string a0_0, .string a0_1] 38 (0, 0)) (bX_ BK656.out) hb); have n1_ := Aside0.mk (bB (g := gb657) (o := .cells #[.string a1_0, .string a1_1] 38 (0, 0)) (bX_ BK657.out) hb); have n2_ := Aside0.mk (bB (g := gb658) (o := .cells #[.string (⟨#[]⟩ : BA), .string (⟨#[]⟩ : BA)] 38 (0, 0)) (bX_ BK658.out) hb); have n3_ := Aside0.mk (wT (by repeat (first | (with_reducible first | exact HB.out | apply wA | apply wN | apply w1 | refine wS ?_ GE656.out | refine wS ?_ GE657.out | refine wS ?_ GE658.out) | exact HB.out)) hb); clear BK656; clear BK657; clear BK658; clear HB; have BK656 := n0_; have BK657 := n1_; have BK658 := n2_; have HB := n3_; clear n0_ n1_ n2_ n3_; (try clear hb); (try clear hb2); (try clear hk); (try clear hi); have hnb14 := NB657_658.out; have hnc14 := NB658_657.out; have hcz15_0 : w13.cell? ⟨gb657, 0, none⟩ = some (.string a1_0) := (bC BK657.out 0).trans rfl; have hcz15_1 : w13.cell? ⟨gb657, 1, none⟩ = some (.string a1_1) := (bC BK657.out 1).trans rfl; have hfz15_0 := bF BK657.out 0; have hfz15_1 := bF BK657.out 1) | (go_at_call 49; (with_reducible refine (key_RightRange.calls a1_0 a1_1 t660 _ A9.out).mono ?_); rintro e w16 ⟨rfl, hb⟩; have n0_ := Aside0.mk (bB (g := gb656) (o := .cells #[.string a0_0, .string a0_1] 38 (0, 0)) (bX_ BK656.out) hb); have n1_ := Aside0.mk (bB (g := gb657) (o := .cells #[.string a1_0, .string a1_1] 38 (0, 0)) (bX_ BK657.out) hb); have n2_ := Aside0.mk (bB (g := gb658) (o := .cells #[.string (⟨#[]⟩ : BA), .string (⟨#[]⟩ : BA)] 38 (0, 0)) (bX_ BK658.out) hb); have n3_ := Aside0.mk (wT (by repeat (first | (with_reducible first | exact HB.out | apply wA | apply wN | apply w1 | refine wS ?_ GE656.out | refine wS ?_ GE657.out | refine wS ?_ GE658.out) | exact HB.out)) hb); clear BK656; clear BK657; clear BK658; clear HB; have BK656 := n0_; have BK657 := n1_; have BK658 := n2_; have HB := n3_; clear n0_ n1_ n2_ n3_; (try clear hb); (try clear hb2); (try clear hk); (try clear hi)))
   go_meet
   case rel => exact ⟨_, (!t660), (by first | rfl | (simp; done) | (simp [*]; done)), H', ⟨by first | omega | exact Nat.le_refl _⟩, ⟨by (with_reducible repeat (first | refine bN ?_ _ | refine bD ?_ | refine bA ?_ _)); exact BK656.out⟩, ⟨by (with_reducible repeat (first | refine bN ?_ _ | refine bD ?_ | refine bA ?_ _)); exact BK657.out⟩, ⟨by (with_reducible repeat (first | refine bN ?_ _ | refine bD ?_ | refine bA ?_ _)); exact BK658.out⟩, ⟨by repeat (first | (with_reducible first | exact HB.out | apply wA | apply wN | apply w1 | refine wS ?_ GE656.out | refine wS ?_ GE657.out | refine wS ?_ GE658.out) | exact HB.out)⟩⟩
  ·replace c8 := Bool.eq_false_iff.mpr c8
   subst c8
   have H1 : (key_Meet.j0 k true a0_0 a0_1 a1_0 a1_1) = some (r1, r2, r3) := by rw [if_neg (show ¬ (false = true) by decide)] at H; exact H
   clear H
   have H := H1
   clear H1
   have H' := Aside0.mk H
   clear H
   have hnb17 := NB656_657.out
   have hnc17 := NB657_656.out
   have hnb18 := NB656_658.out
   have hnc18 := NB658_656.out
   have hcz19_0 : w6.cell? ⟨gb656, 0, none⟩ = some (.string a0_0) := (bC BK656.out 0).trans rfl
   have hcz19_1 : w6.cell? ⟨gb656, 1, none⟩ = some (.string a0_1) := (bC BK656.out 1).trans rfl
   have hfz19_0 := bF BK656.out 0
   have hfz19_1 := bF BK656.out 1
   go_wp2_with (first | ((with_reducible refine gate_callee (f := 49) rfl ?_); refine goesL_ (some 8) rfl rfl Try.func49 (by kernel_rfl) rfl #[.agg #[.string a0_0, .string a0_1]] rfl mS_ ?_; (with_reducible refine (key_RightRange.calls a0_0 a0_1 false _ A7.out).mono ?_); rintro e w20 ⟨rfl, hb⟩; refine ⟨_, rfl, ?_⟩; have n0_ := Aside0.mk (bB (g := gb656) (o := .cells #[.string a0_0, .string a0_1] 38 (0, 0)) (bX_ BK656.out) hb); have n1_ := Aside0.mk (bB (g := gb657) (o := .cells #[.string a1_0, .string a1_1] 38 (0, 0)) (bX_ BK657.out) hb); have n2_ := Aside0.mk (bB (g := gb658) (o := .cells #[.string (⟨#[]⟩ : BA), .string (⟨#[]⟩ : BA)] 38 (0, 0)) (bX_ BK658.out) hb); have n3_ := Aside0.mk (wT (by repeat (first | (with_reducible first | exact HB.out | apply wA | apply wN | apply w1 | refine wS ?_ GE656.out | refine wS ?_ GE657.out | refine wS ?_ GE658.out) | exact HB.out)) hb); clear BK656; clear BK657; clear BK658; clear HB; have BK656 := n0_; have BK657 := n1_; have BK658 := n2_; have HB := n3_; clear n0_ n1_ n2_ n3_; (try clear hb); (try clear hb2); (try clear hk); (try clear hi)))
   go_meet
   case rel => exact ⟨_, (true), (by first | rfl | (simp; done) | (simp [*]; done)), H', ⟨by first | omega | exact Nat.le_refl _⟩, ⟨by (with_reducible repeat (first | refine bN ?_ _ | refine bD ?_ | refine bA ?_ _)); exact BK656.out⟩, ⟨by (with_reducible repeat (first | refine bN ?_ _ | refine bD ?_ | refine bA ?_ _)); exact BK657.out⟩, ⟨by (with_reducible repeat (first | refine bN ?_ _ | refine bD ?_ | refine bA ?_ _)); exact BK658.out⟩, ⟨by repeat (first | (with_reducible first | exact HB.out | apply wA | apply wN | apply w1 | refine wS ?_ GE656.out | refine wS ?_ GE657.out | refine wS ?_ GE658.out) | exact HB.out)⟩⟩
 case rest =>
  clear HC3
  try clear c1
  try clear p2
  try clear c4
  try clear c8
  try clear c10
  try clear c11
  try clear c14
  try clear c17
  try clear c18
  try clear hcz12_0
  try clear hcz12_1
  try clear hcz15_0
  try clear hcz15_1
  try clear hcz19_0
  try clear hcz19_1
  try clear hfz12_0
  try clear hfz12_1
  try clear hfz15_0
  try clear hfz15_1
  try clear hfz19_0
  try clear hfz19_1
  obtain ⟨kq, x14_2, rfl, HA, HJ2, BK656, BK657, BK658, HB⟩ := hcut
  cases kq with
  | zero => exact absurd HA.out (by simp [key_Meet.j0])
  | succ kj2 =>
   have H := HA.out
   clear HA
   simp only [key_Meet.j0] at H
   by_cases c21 : x14_2 = true
   ·subst c21
    have H1 : (some ((⟨#[]⟩ : BA), (⟨#[]⟩ : BA), false)) = some (r1, r2, r3) := by rw [if_pos rfl] at H; exact H
    clear H
    have H := H1
    clear H1
    simp only [Option.some.injEq, Prod.mk.injEq] at H
    obtain ⟨rfl, rfl, rfl⟩ := H
    have hnb22 := NB658_656.out
    have hnc22 := NB656_658.out
    have hnb23 := NB658_657.out
    have hnc23 := NB657_658.out
    have hcz24_0 : wc.cell? ⟨gb658, 0, none⟩ = some (.string (⟨#[]⟩ : BA)) := (bC BK658.out 0).trans rfl
    have hcz24_1 : wc.cell? ⟨gb658, 1, none⟩ = some (.string (⟨#[]⟩ : BA)) := (bC BK658.out 1).trans rfl
    have hfz24_0 := bF BK658.out 0
    have hfz24_1 := bF BK658.out 1
    go_wp2
    refine bodyPost_ret (results_ct rfl _ _ gb658 38 #[.string (⟨#[]⟩ : BA), .string (⟨#[]⟩ : BA)] (0, 0) _ rfl (by (with_reducible repeat (first | refine bN ?_ _ | refine bD ?_ | refine bA ?_ _)); refine bP (cs := #[.string (⟨#[]⟩ : BA), .string (⟨#[]⟩ : BA)]) ?_ 1 _ rfl; (with_reducible repeat (first | refine bN ?_ _ | refine bD ?_ | refine bA ?_ _)); refine bP (cs := #[.string (⟨#[]⟩ : BA), .string (⟨#[]⟩ : BA)]) ?_ 0 _ rfl; (with_reducible repeat (first | refine bN ?_ _ | refine bD ?_ | refine bA ?_ _)); exact BK658.out) Try.underlying38 rfl (by kernel_rfl)) rfl ?_
    exact ⟨by first | rfl | (simp [errW_none, errW_some] <;> rfl) | (simp [*, errW_none, errW_some] <;> rfl), by repeat (first | (with_reducible first | exact HB.out | apply wA | apply wN | apply w1 | refine wS ?_ GE656.out | refine wS ?_ GE657.out | refine wS ?_ GE658.out) | exact HB.out)⟩
   ·replace c21 := Bool.eq_false_iff.mpr c21
    subst c21
    have H1 : ((key_First.f a0_1 a1_1).bind fun t661 => ((key_RightRange.f (mxs a0_0 a1_0) t661).bind fun t663 => (if t663 = true then (some (mxs a0_0 a1_0, t661, true)) else (some ((⟨#[]⟩ : BA), (⟨#[]⟩ : BA), false))))) = some (r1, r2, r3) := by rw [if_neg (show ¬ (false = true) by decide)] at H; exact H
    clear H
    have H := H1
    clear H1
    replace H := Option.bind_eq_some_iff.mp H
    obtain ⟨t661, A250, H⟩ := H
    replace H : ((key_RightRange.f (mxs a0_0 a1_0) t661).bind fun t663 => (if t663 = true then (some (mxs a0_0 a1_0, t661, true)) else (some ((⟨#[]⟩ : BA), (⟨#[]⟩ : BA), false)))) = some (r1, r2, r3) := H
    have A25 := Aside0.mk A250
    clear A250
    replace H := Option.bind_eq_some_iff.mp H
    obtain ⟨t663, A260, H⟩ := H
    replace H : (if t663 = true then (some (mxs a0_0 a1_0, t661, true)) else (some ((⟨#[]⟩ : BA), (⟨#[]⟩ : BA), false))) = some (r1, r2, r3) := H
    have A26 := Aside0.mk A260
    clear A260
    by_cases c27 : t663 = true
    ·subst c27
     have H1 : (some (mxs a0_0 a1_0, t661, true)) = some (r1, r2, r3) := by rw [if_pos rfl] at H; exact H
     clear H
     have H := H1
     clear H1
     simp only [Option.some.injEq, Prod.mk.injEq] at H
     obtain ⟨rfl, rfl, rfl⟩ := H
     try go_wp2
     have n0_ := Aside0.mk (bD BK656.out)
     have n1_ := Aside0.mk (bD BK657.out)
     have n2_ := Aside0.mk (bD BK658.out)
     have n3_ := Aside0.mk (w1 HB.out)
     clear BK656
     clear BK657
     clear BK658
     clear HB
     have BK656 := n0_
     have BK657 := n1_
     have BK658 := n2_
     have HB := n3_
     clear n0_ n1_ n2_ n3_
     refine start_ (n := 13) (S := fun w' => w'.cell? ⟨gb656, 0, none⟩ = some (.string a0_0) ∧ w'.cell? ⟨gb656, 1, none⟩ = some (.string a0_1) ∧ w'.cell? ⟨gb657, 0, none⟩ = some (.string a1_0) ∧ w'.cell? ⟨gb657, 1, none⟩ = some (.string a1_1)) (ds := []) #[ZZ,ZZ,ZZ,ZZ,ZZ,ZZ,ZZ,ZZ,ZZ,ZZ,ZZ,ZZ,ZZ] (by kernel_rfl) rfl rfl ⟨(bC BK656.out 0).trans rfl, (bC BK656.out 1).trans rfl, (bC BK657.out 0).trans rfl, (bC BK657.out 1).trans rfl⟩ (fun hHeld => ?_); refine with_tabW key_Meet.tab3 key_Meet.bits3 (fun HT_ HW_ => ?_)
     generalize wc.drew = w28 at BK656 BK657 BK658 HB hHeld ⊢
     refine pure_ (i := 0) (N := some 16) (v := ?_) (a' := ?_) #[YY,ZZ,ZZ,ZZ,ZZ,ZZ,ZZ,ZZ,ZZ,ZZ,ZZ,ZZ,ZZ] rfl rfl (any_of HT_.out (by kernel_rfl)) (fun _ _ _ h => h) (Or.inl ⟨by rfl, ?_⟩) ?_ ?_
     rotate_left
     ·intro w'
      go_simp
      with_reducible rfl
     rotate_left
     ·simp only [Act.put, sA1, sA2, sA3, i64_w, i32_w]
      rfl
     refine pure_ (i := 2) (N := some 18) (v := ?_) (a' := ?_) #[YY,ZZ,YY,ZZ,ZZ,ZZ,ZZ,ZZ,ZZ,ZZ,ZZ,ZZ,ZZ] rfl rfl (any_of HT_.out (by kernel_rfl)) (fun _ _ _ h => h) (Or.inl ⟨by rfl, ?_⟩) ?_ ?_
     rotate_left
     ·intro w'
      go_simp
      with_reducible rfl
     rotate_left
     ·simp only [Act.put, sA1, sA2, sA3, i64_w, i32_w]
      rfl
     refine pure_ (i := 5) (N := some 21) (v := ?_) (a' := ?_) #[YY,ZZ,YY,ZZ,ZZ,YY,ZZ,ZZ,ZZ,ZZ,ZZ,ZZ,ZZ] rfl rfl (any_of HT_.out (by kernel_rfl)) (fun _ _ _ h => h) (Or.inl ⟨by rfl, ?_⟩) ?_ ?_
     rotate_left
     ·intro w'
      go_simp
      with_reducible rfl
     rotate_left
     ·simp only [Act.put, sA1, sA2, sA3, i64_w, i32_w]
      rfl
     refine pure_ (i := 7) (N := some 23) (v := ?_) (a' := ?_) #[YY,ZZ,YY,ZZ,ZZ,YY,ZZ,YY,ZZ,ZZ,ZZ,ZZ,ZZ] rfl rfl (any_of HT_.out (by kernel_rfl)) (fun _ _ _ h => h) (Or.inl ⟨by rfl, ?_⟩) ?_ ?_
     rotate_left
     ·intro w'
      go_simp
      with_reducible rfl
     rotate_left
     ·simp only [Act.put, sA1, sA2, sA3, i64_w, i32_w]
      rfl
     refine take_ (i := 1) (N := some 17) (v := ?_) (a' := ?_) #[YY,YY,YY,ZZ,ZZ,YY,ZZ,YY,ZZ,ZZ,ZZ,ZZ,ZZ] rfl rfl (take_ofW HT_.out HW_.out (by kernel_rfl)) (fun _ _ _ h => h) (Or.inl ⟨by rfl, ?_⟩) hHeld ?_ ?_
     rotate_left
     ·rintro w' ⟨s0, s1, s2, s3⟩
      go_simp
      with_reducible rfl
     rotate_left
     ·simp only [Act.put, sA1, sA2, sA3, i64_w, i32_w]
      rfl
     refine take_ (i := 3) (N := some 19) (v := ?_) (a' := ?_) #[YY,YY,YY,YY,ZZ,YY,ZZ,YY,ZZ,ZZ,ZZ,ZZ,ZZ] rfl rfl (take_ofW HT_.out HW_.out (by kernel_rfl)) (fun _ _ _ h => h) (Or.inl ⟨by rfl, ?_⟩) hHeld ?_ ?_
     rotate_left
     ·rintro w' ⟨s0, s1, s2, s3⟩
      go_simp
      with_reducible rfl
     rotate_left
     ·simp only [Act.put, sA1, sA2, sA3, i64_w, i32_w]
      rfl
     refine pure_ (i := 4) (N := some 20) (v := ?_) (a' := ?_) #[YY,YY,YY,YY,YY,YY,ZZ,YY,ZZ,ZZ,ZZ,ZZ,ZZ] rfl rfl (any_of HT_.out (by kernel_rfl)) (fun _ _ _ h => h) (Or.inl ⟨by rfl, ?_⟩) ?_ ?_
     rotate_left
     ·intro w'
      go_simp
      with_reducible rfl
     rotate_left
     ·simp only [Act.put, sA1, sA2, sA3, i64_w, i32_w]
      rfl
     refine take_ (i := 6) (N := some 22) (v := ?_) (a' := ?_) #[YY,YY,YY,YY,YY,YY,YY,YY,ZZ,ZZ,ZZ,ZZ,ZZ] rfl rfl (take_ofW HT_.out HW_.out (by kernel_rfl)) (fun _ _ _ h => h) (Or.inl ⟨by rfl, ?_⟩) hHeld ?_ ?_
     rotate_left
     ·rintro w' ⟨s0, s1, s2, s3⟩
      go_simp
      with_reducible rfl
     rotate_left
     ·simp only [Act.put, sA1, sA2, sA3, i64_w, i32_w]
      rfl
     refine take_ (i := 8) (N := some 24) (v := ?_) (a' := ?_) #[YY,YY,YY,YY,YY,YY,YY,YY,YY,ZZ,ZZ,ZZ,ZZ] rfl rfl (take_ofW HT_.out HW_.out (by kernel_rfl)) (fun _ _ _ h => h) (Or.inl ⟨by rfl, ?_⟩) hHeld ?_ ?_
     rotate_left
     ·rintro w' ⟨s0, s1, s2, s3⟩
      go_simp
      with_reducible rfl
     rotate_left
     ·simp only [Act.put, sA1, sA2, sA3, i64_w, i32_w]
      rfl
     refine join_ (σ := Nat) 1 #[YY,YY,YY,YY,YY,YY,YY,YY,YY,YY,YY,YY,ZZ] (fun s_ => [(25, .string t661), (6, .pointer (some ⟨s_, 0, none⟩)), (26, .agg #[.string (mxs a0_0 a1_0), .string t661])]) (fun s_ w' => (w'.cell? ⟨gb656, 0, none⟩ = some (.string a0_0) ∧ w'.cell? ⟨gb656, 1, none⟩ = some (.string a0_1) ∧ w'.cell? ⟨gb657, 0, none⟩ = some (.string a1_0) ∧ w'.cell? ⟨gb657, 1, none⟩ = some (.string a1_1)) ∧ (w'.heap[gb656]? = some (.cells #[.string a0_0, .string a0_1] 38 (0, 0))) ∧ (w'.heap[gb657]? = some (.cells #[.string a1_0, .string a1_1] 38 (0, 0))) ∧ (w'.heap[gb658]? = some (.cells #[.string (⟨#[]⟩ : BA), .string (⟨#[]⟩ : BA)] 38 (0, 0))) ∧ (w'.heap[s_]? = some (.cells #[.string (⟨#[]⟩ : BA), .string (⟨#[]⟩ : BA)] 38 (0, 0))) ∧ (w.heap.size ≤ s_) ∧ (w.heap.size ≤ s_) ∧ (gb656 ≠ s_) ∧ (s_ ≠ gb656) ∧ (gb657 ≠ s_) ∧ (s_ ≠ gb657) ∧ (gb658 ≠ s_) ∧ (s_ ≠ gb658) ∧ (Below w.heap.size w w')) ?_ ?_
     rotate_left
     ·intro hCont
      refine two_ (i := 9) (j := 11) (Ni := some 25) (Nj := some 6) #[YY,YY,YY,YY,YY,YY,YY,YY,YY,YY,ZZ,ZZ,ZZ] #[YY,YY,YY,YY,YY,YY,YY,YY,YY,ZZ,ZZ,YY,ZZ] rfl rfl rfl rfl (two_of HT_.out (by kernel_rfl)) (by decide) (by decide) (fun K hK => ?_) (fun K hK => ?_)
      ·skip
       refine goes_ Try.func103 (by kernel_rfl) rfl #[.string a0_1, .string a1_1] (by rfl) rfl rfl mS_ ?_
       with_reducible refine (key_First.calls a0_1 a1_1 t661 _ A25.out).mono ?_
       rintro e w' ⟨rfl, ⟨nd, rfl⟩⟩
       refine ⟨_, rfl, ?_⟩
       refine hK.out _ _ ⟨(bC BK656.out 0).trans rfl, (bC BK656.out 1).trans rfl, (bC BK657.out 0).trans rfl, (bC BK657.out 1).trans rfl⟩ (fun hHeld => ?_)
       clear hK K
       refine norm_ (a' := ?_) ?_ ?_
       rotate_left
       ·show Act.put _ (some 25) _ = _
        simp only [Act.put, sA1, sA2, sA3, i64_w, i32_w]
        rfl
       refine pure_ (i := 10) (N := some 26) (v := ?_) (a' := ?_) #[YY,YY,YY,YY,YY,YY,YY,YY,YY,YY,YY,ZZ,ZZ] rfl rfl (any_of HT_.out (by kernel_rfl)) (fun _ _ _ h => h) (Or.inl ⟨by rfl, ?_⟩) ?_ ?_
       rotate_left
       ·intro w'
        go_simp
        with_reducible rfl
       rotate_left
       ·simp only [Act.put, sA1, sA2, sA3, i64_w, i32_w]
        rfl
       refine one_ (i := 11) (N := some 6) #[YY,YY,YY,YY,YY,YY,YY,YY,YY,YY,YY,YY,ZZ] rfl rfl (one_of HT_.out (by kernel_rfl)) (by decide) (fun K hK => ?_)
       refine box_step ?hg (N := 6) ?hd (cs := #[.string (⟨#[]⟩ : BA), .string (⟨#[]⟩ : BA)]) (t := 38) ?hr ?_; (case hd => rfl); (case hg => rfl); (case hr => first | (go_simp; done) | (go_simp; rfl))
       intro gb662 hg w29 hbox hb
       have n0_ := Aside0.mk (bB (g := gb656) (o := .cells #[.string a0_0, .string a0_1] 38 (0, 0)) (bX_ BK656.out) hb)
       have n1_ := Aside0.mk (bB (g := gb657) (o := .cells #[.string a1_0, .string a1_1] 38 (0, 0)) (bX_ BK657.out) hb)
       have n2_ := Aside0.mk (bB (g := gb658) (o := .cells #[.string (⟨#[]⟩ : BA), .string (⟨#[]⟩ : BA)] 38 (0, 0)) (bX_ BK658.out) hb)
       have n3_ := Aside0.mk (wT (by repeat (first | (with_reducible first | exact HB.out | apply wA | apply wN | apply w1 | refine wS ?_ GE656.out | refine wS ?_ GE657.out | refine wS ?_ GE658.out) | exact HB.out)) hb)
       have n4_ := Aside0.mk (hbox)
       have n5_ := Aside0.mk ((by rw [hg]; exact (wZ (by repeat (first | (with_reducible first | exact HB.out | apply wA | apply wN | apply w1 | refine wS ?_ GE656.out | refine wS ?_ GE657.out | refine wS ?_ GE658.out) | exact HB.out))) : w.heap.size ≤ gb662))
       have n6_ := Aside0.mk ((by rw [hg]; exact (wZ (by repeat (first | (with_reducible first | exact HB.out | apply wA | apply wN | apply w1 | refine wS ?_ GE656.out | refine wS ?_ GE657.out | refine wS ?_ GE658.out) | exact HB.out))) : w.heap.size ≤ gb662))
       have n7_ := Aside0.mk ((by rw [hg]; exact Nat.ne_of_lt (blk_lt (g := gb656) (o := .cells #[.string a0_0, .string a0_1] 38 (0, 0)) (bX_ BK656.out)) : gb656 ≠ gb662))
       have n8_ := Aside0.mk ((by rw [hg]; exact Nat.ne_of_gt (blk_lt (g := gb656) (o := .cells #[.string a0_0, .string a0_1] 38 (0, 0)) (bX_ BK656.out)) : gb662 ≠ gb656))
       have n9_ := Aside0.mk ((by rw [hg]; exact Nat.ne_of_lt (blk_lt (g := gb657) (o := .cells #[.string a1_0, .string a1_1] 38 (0, 0)) (bX_ BK657.out)) : gb657 ≠ gb662))
       have n10_ := Aside0.mk ((by rw [hg]; exact Nat.ne_of_gt (blk_lt (g := gb657) (o := .cells #[.string a1_0, .string a1_1] 38 (0, 0)) (bX_ BK657.out)) : gb662 ≠ gb657))
       have n11_ := Aside0.mk ((by rw [hg]; exact Nat.ne_of_lt (blk_lt (g := gb658) (o := .cells #[.string (⟨#[]⟩ : BA), .string (⟨#[]⟩ : BA)] 38 (0, 0)) (bX_ BK658.out)) : gb658 ≠ gb662))
       have n12_ := Aside0.mk ((by rw [hg]; exact Nat.ne_of_gt (blk_lt (g := gb658) (o := .cells #[.string (⟨#[]⟩ : BA), .string (⟨#[]⟩ : BA)] 38 (0, 0)) (bX_ BK658.out)) : gb662 ≠ gb658))
       clear BK656
       clear BK657
       clear BK658
       clear HB
       have BK656 := n0_
       have BK657 := n1_
       have BK658 := n2_
       have HB := n3_
       have BK662 := n4_
       have GW662 := n5_
       have GE662 := n6_
       have NB656_662 := n7_
       have NB662_656 := n8_
       have NB657_662 := n9_
       have NB662_657 := n10_
       have NB658_662 := n11_
       have NB662_658 := n12_
       clear n0_ n1_ n2_ n3_ n4_ n5_ n6_ n7_ n8_ n9_ n10_ n11_ n12_
       clear hb hbox hg
       refine hK.out _ _ ⟨(bC BK656.out 0).trans rfl, (bC BK656.out 1).trans rfl, (bC BK657.out 0).trans rfl, (bC BK657.out 1).trans rfl⟩ (fun hHeld => ?_)
       clear hK K
       refine norm_ (a' := ?_) ?_ ?_
       rotate_left
       ·show Act.put _ (some 6) _ = _
        simp only [Act.put, sA1, sA2, sA3, i64_w, i32_w]
        rfl
       exact norm_ (by simp only [putAll, Act.put, sA1, sA2, sA3]) (hCont (gb662) _ ⟨hHeld, (bX_ BK656.out), (bX_ BK657.out), (bX_ BK658.out), (bX_ BK662.out), GW662.out, GE662.out, NB656_662.out, NB662_656.out, NB657_662.out, NB662_657.out, NB658_662.out, NB662_658.out, (by repeat (first | (with_reducible first | exact HB.out | apply wA | apply wN | apply w1 | refine wS ?_ GE656.out | refine wS ?_ GE657.out | refine wS ?_ GE658.out | refine wS ?_ GE662.out) | exact HB.out))⟩)
      ·skip
       refine box_step ?hg (N := 6) ?hd (cs := #[.string (⟨#[]⟩ : BA), .string (⟨#[]⟩ : BA)]) (t := 38) ?hr ?_; (case hd => rfl); (case hg => rfl); (case hr => first | (go_simp; done) | (go_simp; rfl))
       intro gb662 hg w29 hbox hb
       have n0_ := Aside0.mk (bB (g := gb656) (o := .cells #[.string a0_0, .string a0_1] 38 (0, 0)) (bX_ BK656.out) hb)
       have n1_ := Aside0.mk (bB (g := gb657) (o := .cells #[.string a1_0, .string a1_1] 38 (0, 0)) (bX_ BK657.out) hb)
       have n2_ := Aside0.mk (bB (g := gb658) (o := .cells #[.string (⟨#[]⟩ : BA), .string (⟨#[]⟩ : BA)] 38 (0, 0)) (bX_ BK658.out) hb)
       have n3_ := Aside0.mk (wT (by repeat (first | (with_reducible first | exact HB.out | apply wA | apply wN | apply w1 | refine wS ?_ GE656.out | refine wS ?_ GE657.out | refine wS ?_ GE658.out) | exact HB.out)) hb)
       have n4_ := Aside0.mk (hbox)
       have n5_ := Aside0.mk ((by rw [hg]; exact (wZ (by repeat (first | (with_reducible first | exact HB.out | apply wA | apply wN | apply w1 | refine wS ?_ GE656.out | refine wS ?_ GE657.out | refine wS ?_ GE658.out) | exact HB.out))) : w.heap.size ≤ gb662))
       have n6_ := Aside0.mk ((by rw [hg]; exact (wZ (by repeat (first | (with_reducible first | exact HB.out | apply wA | apply wN | apply w1 | refine wS ?_ GE656.out | refine wS ?_ GE657.out | refine wS ?_ GE658.out) | exact HB.out))) : w.heap.size ≤ gb662))
       have n7_ := Aside0.mk ((by rw [hg]; exact Nat.ne_of_lt (blk_lt (g := gb656) (o := .cells #[.string a0_0, .string a0_1] 38 (0, 0)) (bX_ BK656.out)) : gb656 ≠ gb662))
       have n8_ := Aside0.mk ((by rw [hg]; exact Nat.ne_of_gt (blk_lt (g := gb656) (o := .cells #[.string a0_0, .string a0_1] 38 (0, 0)) (bX_ BK656.out)) : gb662 ≠ gb656))
       have n9_ := Aside0.mk ((by rw [hg]; exact Nat.ne_of_lt (blk_lt (g := gb657) (o := .cells #[.string a1_0, .string a1_1] 38 (0, 0)) (bX_ BK657.out)) : gb657 ≠ gb662))
       have n10_ := Aside0.mk ((by rw [hg]; exact Nat.ne_of_gt (blk_lt (g := gb657) (o := .cells #[.string a1_0, .string a1_1] 38 (0, 0)) (bX_ BK657.out)) : gb662 ≠ gb657))
       have n11_ := Aside0.mk ((by rw [hg]; exact Nat.ne_of_lt (blk_lt (g := gb658) (o := .cells #[.string (⟨#[]⟩ : BA), .string (⟨#[]⟩ : BA)] 38 (0, 0)) (bX_ BK658.out)) : gb658 ≠ gb662))
       have n12_ := Aside0.mk ((by rw [hg]; exact Nat.ne_of_gt (blk_lt (g := gb658) (o := .cells #[.string (⟨#[]⟩ : BA), .string (⟨#[]⟩ : BA)] 38 (0, 0)) (bX_ BK658.out)) : gb662 ≠ gb658))
       clear BK656
       clear BK657
       clear BK658
       clear HB
       have BK656 := n0_
       have BK657 := n1_
       have BK658 := n2_
       have HB := n3_
       have BK662 := n4_
       have GW662 := n5_
       have GE662 := n6_
       have NB656_662 := n7_
       have NB662_656 := n8_
       have NB657_662 := n9_
       have NB662_657 := n10_
       have NB658_662 := n11_
       have NB662_658 := n12_
       clear n0_ n1_ n2_ n3_ n4_ n5_ n6_ n7_ n8_ n9_ n10_ n11_ n12_
       clear hb hbox hg
       refine hK.out _ _ ⟨(bC BK656.out 0).trans rfl, (bC BK656.out 1).trans rfl, (bC BK657.out 0).trans rfl, (bC BK657.out 1).trans rfl⟩ (fun hHeld => ?_)
       clear hK K
       refine norm_ (a' := ?_) ?_ ?_
       rotate_left
       ·show Act.put _ (some 6) _ = _
        simp only [Act.put, sA1, sA2, sA3, i64_w, i32_w]
        rfl
       refine one_ (i := 9) (N := some 25) #[YY,YY,YY,YY,YY,YY,YY,YY,YY,YY,ZZ,YY,ZZ] rfl rfl (one_of HT_.out (by kernel_rfl)) (by decide) (fun K hK => ?_)
       refine goes_ Try.func103 (by kernel_rfl) rfl #[.string a0_1, .string a1_1] (by rfl) rfl rfl mS_ ?_
       with_reducible refine (key_First.calls a0_1 a1_1 t661 _ A25.out).mono ?_
       rintro e w' ⟨rfl, ⟨nd, rfl⟩⟩
       refine ⟨_, rfl, ?_⟩
       refine hK.out _ _ ⟨(bC BK656.out 0).trans rfl, (bC BK656.out 1).trans rfl, (bC BK657.out 0).trans rfl, (bC BK657.out 1).trans rfl⟩ (fun hHeld => ?_)
       clear hK K
       refine norm_ (a' := ?_) ?_ ?_
       rotate_left
       ·show Act.put _ (some 25) _ = _
        simp only [Act.put, sA1, sA2, sA3, i64_w, i32_w]
        rfl
       refine pure_ (i := 10) (N := some 26) (v := ?_) (a' := ?_) #[YY,YY,YY,YY,YY,YY,YY,YY,YY,YY,YY,YY,ZZ] rfl rfl (any_of HT_.out (by kernel_rfl)) (fun _ _ _ h => h) (Or.inl ⟨by rfl, ?_⟩) ?_ ?_
       rotate_left
       ·intro w'
        go_simp
        with_reducible rfl
       rotate_left
       ·simp only [Act.put, sA1, sA2, sA3, i64_w, i32_w]
        rfl
       exact norm_ (by simp only [putAll, Act.put, sA1, sA2, sA3]) (hCont (gb662) _ ⟨hHeld, (bX_ BK656.out), (bX_ BK657.out), (bX_ BK658.out), (bX_ BK662.out), GW662.out, GE662.out, NB656_662.out, NB662_656.out, NB657_662.out, NB662_657.out, NB658_662.out, NB662_658.out, (by repeat (first | (with_reducible first | exact HB.out | apply wA | apply wN | apply w1 | refine wS ?_ GE656.out | refine wS ?_ GE657.out | refine wS ?_ GE658.out | refine wS ?_ GE662.out) | exact HB.out))⟩)
     rintro gb662 w30 ⟨hS_, h0_, h1_, h2_, h3_, h4_, h5_, h6_, h7_, h8_, h9_, h10_, h11_, h12_⟩
     have n0_ : Aside0 (w30.heap[gb656]? = some (.cells #[.string a0_0, .string a0_1] 38 (0, 0))) := ⟨h0_⟩
     have n1_ : Aside0 (w30.heap[gb657]? = some (.cells #[.string a1_0, .string a1_1] 38 (0, 0))) := ⟨h1_⟩
     have n2_ : Aside0 (w30.heap[gb658]? = some (.cells #[.string (⟨#[]⟩ : BA), .string (⟨#[]⟩ : BA)] 38 (0, 0))) := ⟨h2_⟩
     have n3_ : Aside0 (w30.heap[gb662]? = some (.cells #[.string (⟨#[]⟩ : BA), .string (⟨#[]⟩ : BA)] 38 (0, 0))) := ⟨h3_⟩
     have n4_ : Aside0 (w.heap.size ≤ gb662) := ⟨h4_⟩
     have n5_ : Aside0 (w.heap.size ≤ gb662) := ⟨h5_⟩
     have n6_ : Aside0 (gb656 ≠ gb662) := ⟨h6_⟩
     have n7_ : Aside0 (gb662 ≠ gb656) := ⟨h7_⟩
     have n8_ : Aside0 (gb657 ≠ gb662) := ⟨h8_⟩
     have n9_ : Aside0 (gb662 ≠ gb657) := ⟨h9_⟩
     have n10_ : Aside0 (gb658 ≠ gb662) := ⟨h10_⟩
     have n11_ : Aside0 (gb662 ≠ gb658) := ⟨h11_⟩
     have n12_ : Aside0 (Below w.heap.size w w30) := ⟨h12_⟩
     clear BK656
     clear BK657
     clear BK658
     clear HB
     clear h0_ h1_ h2_ h3_ h4_ h5_ h6_ h7_ h8_ h9_ h10_ h11_ h12_
     have BK656 := n0_
     have BK657 := n1_
     have BK658 := n2_
     have BK662 := n3_
     have GW662 := n4_
     have GE662 := n5_
     have NB656_662 := n6_
     have NB662_656 := n7_
     have NB657_662 := n8_
     have NB662_657 := n9_
     have NB658_662 := n10_
     have NB662_658 := n11_
     have HB := n12_
     clear n0_ n1_ n2_ n3_ n4_ n5_ n6_ n7_ n8_ n9_ n10_ n11_ n12_
     have hHeld : w30.cell? ⟨gb656, 0, none⟩ = some (.string a0_0) ∧ w30.cell? ⟨gb656, 1, none⟩ = some (.string a0_1) ∧ w30.cell? ⟨gb657, 0, none⟩ = some (.string a1_0) ∧ w30.cell? ⟨gb657, 1, none⟩ = some (.string a1_1) := hS_
     refine norm_ (a' := ?_) ?_ ?_
     rotate_left
     ·simp only [putAll, Act.put, sA1, sA2, sA3]
      rfl
     refine one_ (i := 12) (N := none) #[YY,YY,YY,YY,YY,YY,YY,YY,YY,YY,YY,YY,YY] rfl rfl (one_of HT_.out (by kernel_rfl)) (by decide) (fun K hK => ?_)
     have hs31 : w30.cell? ⟨gb662, 0, none⟩ = some (.string (⟨#[]⟩ : BA)) := (bC BK662.out 0).trans rfl
     have hfs31 := bF BK662.out 0
     have hns31_0 := NB656_662.out
     have hns31_1 := NB657_662.out
     have hns31_2 := NB658_662.out
     have hms31_0 := NB662_656.out
     have hms31_1 := NB662_657.out
     have hms31_2 := NB662_658.out
     have hs32 : w30.cell? ⟨gb662, 1, none⟩ = some (.string (⟨#[]⟩ : BA)) := (bC BK662.out 1).trans rfl
     have hfs32 := bF BK662.out 1
     have hns32_0 := NB656_662.out
     have hns32_1 := NB657_662.out
     have hns32_2 := NB658_662.out
     have hms32_0 := NB662_656.out
     have hms32_1 := NB662_657.out
     have hms32_2 := NB662_658.out
     refine skip_ (w1 := ?_) (by rfl) rfl ?_ ?_
     rotate_left
     ·go_simp
      rfl
     refine hK.out _ _ ⟨((cF (p := ⟨gb662, _, none⟩) NB656_662.out _).trans (((cF (p := ⟨gb662, _, none⟩) NB656_662.out _).trans (hHeld.1)))), ((cF (p := ⟨gb662, _, none⟩) NB656_662.out _).trans (((cF (p := ⟨gb662, _, none⟩) NB656_662.out _).trans (hHeld.2.1)))), ((cF (p := ⟨gb662, _, none⟩) NB657_662.out _).trans (((cF (p := ⟨gb662, _, none⟩) NB657_662.out _).trans (hHeld.2.2.1)))), ((cF (p := ⟨gb662, _, none⟩) NB657_662.out _).trans (((cF (p := ⟨gb662, _, none⟩) NB657_662.out _).trans (hHeld.2.2.2))))⟩ (fun hHeld => ?_)
     clear hK K
     refine done_ (done_of HT_.out (by kernel_rfl)) ?_
     have hnb33 := NB662_656.out
     have hnc33 := NB656_662.out
     have hnb34 := NB662_657.out
     have hnc34 := NB657_662.out
     have hnb35 := NB662_658.out
     have hnc35 := NB658_662.out
     have hcz36_0 : w30.cell? ⟨gb662, 0, none⟩ = some (.string (⟨#[]⟩ : BA)) := (bC BK662.out 0).trans rfl
     have hcz36_1 : w30.cell? ⟨gb662, 1, none⟩ = some (.string (⟨#[]⟩ : BA)) := (bC BK662.out 1).trans rfl
     have hfz36_0 := bF BK662.out 0
     have hfz36_1 := bF BK662.out 1
     try go_wp2_with (first | ((with_reducible refine gate_callee (f := 49) rfl ?_); refine goesL_ (some 28) rfl rfl Try.func49 (by kernel_rfl) rfl #[.agg #[.string (mxs a0_0 a1_0), .string t661]] rfl mS_ ?_; (with_reducible refine (key_RightRange.calls (mxs a0_0 a1_0) t661 true _ A26.out).mono ?_); rintro e w37 ⟨rfl, hb⟩; refine ⟨_, rfl, ?_⟩; have n0_ := Aside0.mk (bB (g := gb656) (o := .cells #[.string a0_0, .string a0_1] 38 (0, 0)) (by (with_reducible repeat (first | refine bN ?_ _ | refine bD ?_ | refine bA ?_ _)); refine bR ?_ NB656_662.out _; (with_reducible repeat (first | refine bN ?_ _ | refine bD ?_ | refine bA ?_ _)); refine bR ?_ NB656_662.out _; (with_reducible repeat (first | refine bN ?_ _ | refine bD ?_ | refine bA ?_ _)); exact BK656.out) hb); have n1_ := Aside0.mk (bB (g := gb657) (o := .cells #[.string a1_0, .string a1_1] 38 (0, 0)) (by (with_reducible repeat (first | refine bN ?_ _ | refine bD ?_ | refine bA ?_ _)); refine bR ?_ NB657_662.out _; (with_reducible repeat (first | refine bN ?_ _ | refine bD ?_ | refine bA ?_ _)); refine bR ?_ NB657_662.out _; (with_reducible repeat (first | refine bN ?_ _ | refine bD ?_ | refine bA ?_ _)); exact BK657.out) hb); have n2_ := Aside0.mk (bB (g := gb658) (o := .cells #[.string (⟨#[]⟩ : BA), .string (⟨#[]⟩ : BA)] 38 (0, 0)) (by (with_reducible repeat (first | refine bN ?_ _ | refine bD ?_ | refine bA ?_ _)); refine bR ?_ NB658_662.out _; (with_reducible repeat (first | refine bN ?_ _ | refine bD ?_ | refine bA ?_ _)); refine bR ?_ NB658_662.out _; (with_reducible repeat (first | refine bN ?_ _ | refine bD ?_ | refine bA ?_ _)); exact BK658.out) hb); have n3_ := Aside0.mk (bB (g := gb662) (o := .cells #[.string (mxs a0_0 a1_0), .string t661] 38 (0, 0)) (by (with_reducible repeat (first | refine bN ?_ _ | refine bD ?_ | refine bA ?_ _)); refine bP (cs := #[.string (mxs a0_0 a1_0), .string (⟨#[]⟩ : BA)]) ?_ 1 _ rfl; (with_reducible repeat (first | refine bN ?_ _ | refine bD ?_ | refine bA ?_ _)); refine bP (cs := #[.string (⟨#[]⟩ : BA), .string (⟨#[]⟩ : BA)]) ?_ 0 _ rfl; (with_reducible repeat (first | refine bN ?_ _ | refine bD ?_ | refine bA ?_ _)); exact BK662.out) hb); have n4_ := Aside0.mk (wT (by repeat (first | (with_reducible first | exact HB.out | apply wA | apply wN | apply w1 | refine wS ?_ GE656.out | refine wS ?_ GE657.out | refine wS ?_ GE658.out | refine wS ?_ GE662.out) | exact HB.out)) hb); clear BK656; clear BK657; clear BK658; clear BK662; clear HB; have BK656 := n0_; have BK657 := n1_; have BK658 := n2_; have BK662 := n3_; have HB := n4_; clear n0_ n1_ n2_ n3_ n4_; (try clear hb); (try clear hb2); (try clear hk); (try clear hi); have hcz38_0 : w37.cell? ⟨gb662, 0, none⟩ = some (.string (mxs a0_0 a1_0)) := (bC BK662.out 0).trans rfl; have hcz38_1 : w37.cell? ⟨gb662, 1, none⟩ = some (.string t661) := (bC BK662.out 1).trans rfl; have hfz38_0 := bF BK662.out 0; have hfz38_1 := bF BK662.out 1; have hnb39 := NB658_656.out; have hnc39 := NB656_658.out; have hnb40 := NB658_657.out; have hnc40 := NB657_658.out; have hcz41_0 : w37.cell? ⟨gb658, 0, none⟩ = some (.string (⟨#[]⟩ : BA)) := (bC BK658.out 0).trans rfl; have hcz41_1 : w37.cell? ⟨gb658, 1, none⟩ = some (.string (⟨#[]⟩ : BA)) := (bC BK658.out 1).trans rfl; have hfz41_0 := bF BK658.out 0; have hfz41_1 := bF BK658.out 1))
     refine bodyPost_ret (results_ct rfl _ _ gb658 38 #[.string (mxs a0_0 a1_0), .string t661] (0, 0) _ rfl (by (with_reducible repeat (first | refine bN ?_ _ | refine bD ?_ | refine bA ?_ _)); refine bP (cs := #[.string (mxs a0_0 a1_0), .string (⟨#[]⟩ : BA)]) ?_ 1 _ rfl; (with_reducible repeat (first | refine bN ?_ _ | refine bD ?_ | refine bA ?_ _)); refine bP (cs := #[.string (⟨#[]⟩ : BA), .string (⟨#[]⟩ : BA)]) ?_ 0 _ rfl; (with_reducible repeat (first | refine bN ?_ _ | refine bD ?_ | refine bA ?_ _)); exact BK658.out) Try.underlying38 rfl (by kernel_rfl)) rfl ?_
     exact ⟨by first | rfl | (simp [errW_none, errW_some] <;> rfl) | (simp [*, errW_none, errW_some] <;> rfl), by repeat (first | (with_reducible first | exact HB.out | apply wA | apply wN | apply w1 | refine wS ?_ GE656.out | refine wS ?_ GE657.out | refine wS ?_ GE658.out | refine wS ?_ GE662.out) | exact HB.out)⟩
    ·replace c27 := Bool.eq_false_iff.mpr c27
     subst c27
     have H1 : (some ((⟨#[]⟩ : BA), (⟨#[]⟩ : BA), false)) = some (r1, r2, r3) := by rw [if_neg (show ¬ (false = true) by decide)] at H; exact H
     clear H
     have H := H1
     clear H1
     simp only [Option.some.injEq, Prod.mk.injEq] at H
     obtain ⟨rfl, rfl, rfl⟩ := H
     try go_wp2
     have n0_ := Aside0.mk (bD BK656.out)
     have n1_ := Aside0.mk (bD BK657.out)
     have n2_ := Aside0.mk (bD BK658.out)
     have n3_ := Aside0.mk (w1 HB.out)
     clear BK656
     clear BK657
     clear BK658
     clear HB
     have BK656 := n0_
     have BK657 := n1_
     have BK658 := n2_
     have HB := n3_
     clear n0_ n1_ n2_ n3_
     refine start_ (n := 13) (S := fun w' => w'.cell? ⟨gb656, 0, none⟩ = some (.string a0_0) ∧ w'.cell? ⟨gb656, 1, none⟩ = some (.string a0_1) ∧ w'.cell? ⟨gb657, 0, none⟩ = some (.string a1_0) ∧ w'.cell? ⟨gb657, 1, none⟩ = some (.string a1_1)) (ds := []) #[ZZ,ZZ,ZZ,ZZ,ZZ,ZZ,ZZ,ZZ,ZZ,ZZ,ZZ,ZZ,ZZ] (by kernel_rfl) rfl rfl ⟨(bC BK656.out 0).trans rfl, (bC BK656.out 1).trans rfl, (bC BK657.out 0).trans rfl, (bC BK657.out 1).trans rfl⟩ (fun hHeld => ?_); refine with_tabW key_Meet.tab3 key_Meet.bits3 (fun HT_ HW_ => ?_)
     generalize wc.drew = w42 at BK656 BK657 BK658 HB hHeld ⊢
     refine pure_ (i := 0) (N := some 16) (v := ?_) (a' := ?_) #[YY,ZZ,ZZ,ZZ,ZZ,ZZ,ZZ,ZZ,ZZ,ZZ,ZZ,ZZ,ZZ] rfl rfl (any_of HT_.out (by kernel_rfl)) (fun _ _ _ h => h) (Or.inl ⟨by rfl, ?_⟩) ?_ ?_
     rotate_left
     ·intro w'
      go_simp
      with_reducible rfl
     rotate_left
     ·simp only [Act.put, sA1, sA2, sA3, i64_w, i32_w]
      rfl
     refine pure_ (i := 2) (N := some 18) (v := ?_) (a' := ?_) #[YY,ZZ,YY,ZZ,ZZ,ZZ,ZZ,ZZ,ZZ,ZZ,ZZ,ZZ,ZZ] rfl rfl (any_of HT_.out (by kernel_rfl)) (fun _ _ _ h => h) (Or.inl ⟨by rfl, ?_⟩) ?_ ?_
     rotate_left
     ·intro w'
      go_simp
      with_reducible rfl
     rotate_left
     ·simp only [Act.put, sA1, sA2, sA3, i64_w, i32_w]
      rfl
     refine pure_ (i := 5) (N := some 21) (v := ?_) (a' := ?_) #[YY,ZZ,YY,ZZ,ZZ,YY,ZZ,ZZ,ZZ,ZZ,ZZ,ZZ,ZZ] rfl rfl (any_of HT_.out (by kernel_rfl)) (fun _ _ _ h => h) (Or.inl ⟨by rfl, ?_⟩) ?_ ?_
     rotate_left
     ·intro w'
      go_simp
      with_reducible rfl
     rotate_left
     ·simp only [Act.put, sA1, sA2, sA3, i64_w, i32_w]
      rfl
     refine pure_ (i := 7) (N := some 23) (v := ?_) (a' := ?_) #[YY,ZZ,YY,ZZ,ZZ,YY,ZZ,YY,ZZ,ZZ,ZZ,ZZ,ZZ] rfl rfl (any_of HT_.out (by kernel_rfl)) (fun _ _ _ h => h) (Or.inl ⟨by rfl, ?_⟩) ?_ ?_
     rotate_left
     ·intro w'
      go_simp
      with_reducible rfl
     rotate_left
     ·simp only [Act.put, sA1, sA2, sA3, i64_w, i32_w]
      rfl
     refine take_ (i := 1) (N := some 17) (v := ?_) (a' := ?_) #[YY,YY,YY,ZZ,ZZ,YY,ZZ,YY,ZZ,ZZ,ZZ,ZZ,ZZ] rfl rfl (take_ofW HT_.out HW_.out (by kernel_rfl)) (fun _ _ _ h => h) (Or.inl ⟨by rfl, ?_⟩) hHeld ?_ ?_
     rotate_left
     ·rintro w' ⟨s0, s1, s2, s3⟩
      go_simp
      with_reducible rfl
     rotate_left
     ·simp only [Act.put, sA1, sA2, sA3, i64_w, i32_w]
      rfl
     refine take_ (i := 3) (N := some 19) (v := ?_) (a' := ?_) #[YY,YY,YY,YY,ZZ,YY,ZZ,YY,ZZ,ZZ,ZZ,ZZ,ZZ] rfl rfl (take_ofW HT_.out HW_.out (by kernel_rfl)) (fun _ _ _ h => h) (Or.inl ⟨by rfl, ?_⟩) hHeld ?_ ?_
     rotate_left
     ·rintro w' ⟨s0, s1, s2, s3⟩
      go_simp
      with_reducible rfl
     rotate_left
     ·simp only [Act.put, sA1, sA2, sA3, i64_w, i32_w]
      rfl
     refine pure_ (i := 4) (N := some 20) (v := ?_) (a' := ?_) #[YY,YY,YY,YY,YY,YY,ZZ,YY,ZZ,ZZ,ZZ,ZZ,ZZ] rfl rfl (any_of HT_.out (by kernel_rfl)) (fun _ _ _ h => h) (Or.inl ⟨by rfl, ?_⟩) ?_ ?_
     rotate_left
     ·intro w'
      go_simp
      with_reducible rfl
     rotate_left
     ·simp only [Act.put, sA1, sA2, sA3, i64_w, i32_w]
      rfl
     refine take_ (i := 6) (N := some 22) (v := ?_) (a' := ?_) #[YY,YY,YY,YY,YY,YY,YY,YY,ZZ,ZZ,ZZ,ZZ,ZZ] rfl rfl (take_ofW HT_.out HW_.out (by kernel_rfl)) (fun _ _ _ h => h) (Or.inl ⟨by rfl, ?_⟩) hHeld ?_ ?_
     rotate_left
     ·rintro w' ⟨s0, s1, s2, s3⟩
      go_simp
      with_reducible rfl
     rotate_left
     ·simp only [Act.put, sA1, sA2, sA3, i64_w, i32_w]
      rfl
     refine take_ (i := 8) (N := some 24) (v := ?_) (a' := ?_) #[YY,YY,YY,YY,YY,YY,YY,YY,YY,ZZ,ZZ,ZZ,ZZ] rfl rfl (take_ofW HT_.out HW_.out (by kernel_rfl)) (fun _ _ _ h => h) (Or.inl ⟨by rfl, ?_⟩) hHeld ?_ ?_
     rotate_left
     ·rintro w' ⟨s0, s1, s2, s3⟩
      go_simp
      with_reducible rfl
     rotate_left
     ·simp only [Act.put, sA1, sA2, sA3, i64_w, i32_w]
      rfl
     refine join_ (σ := Nat) 1 #[YY,YY,YY,YY,YY,YY,YY,YY,YY,YY,YY,YY,ZZ] (fun s_ => [(25, .string t661), (6, .pointer (some ⟨s_, 0, none⟩)), (26, .agg #[.string (mxs a0_0 a1_0), .string t661])]) (fun s_ w' => (w'.cell? ⟨gb656, 0, none⟩ = some (.string a0_0) ∧ w'.cell? ⟨gb656, 1, none⟩ = some (.string a0_1) ∧ w'.cell? ⟨gb657, 0, none⟩ = some (.string a1_0) ∧ w'.cell? ⟨gb657, 1, none⟩ = some (.string a1_1)) ∧ (w'.heap[gb656]? = some (.cells #[.string a0_0, .string a0_1] 38 (0, 0))) ∧ (w'.heap[gb657]? = some (.cells #[.string a1_0, .string a1_1] 38 (0, 0))) ∧ (w'.heap[gb658]? = some (.cells #[.string (⟨#[]⟩ : BA), .string (⟨#[]⟩ : BA)] 38 (0, 0))) ∧ (w'.heap[s_]? = some (.cells #[.string (⟨#[]⟩ : BA), .string (⟨#[]⟩ : BA)] 38 (0, 0))) ∧ (w.heap.size ≤ s_) ∧ (w.heap.size ≤ s_) ∧ (gb656 ≠ s_) ∧ (s_ ≠ gb656) ∧ (gb657 ≠ s_) ∧ (s_ ≠ gb657) ∧ (gb658 ≠ s_) ∧ (s_ ≠ gb658) ∧ (Below w.heap.size w w')) ?_ ?_
     rotate_left
     ·intro hCont
      refine two_ (i := 9) (j := 11) (Ni := some 25) (Nj := some 6) #[YY,YY,YY,YY,YY,YY,YY,YY,YY,YY,ZZ,ZZ,ZZ] #[YY,YY,YY,YY,YY,YY,YY,YY,YY,ZZ,ZZ,YY,ZZ] rfl rfl rfl rfl (two_of HT_.out (by kernel_rfl)) (by decide) (by decide) (fun K hK => ?_) (fun K hK => ?_)
      ·skip
       refine goes_ Try.func103 (by kernel_rfl) rfl #[.string a0_1, .string a1_1] (by rfl) rfl rfl mS_ ?_
       with_reducible refine (key_First.calls a0_1 a1_1 t661 _ A25.out).mono ?_
       rintro e w' ⟨rfl, ⟨nd, rfl⟩⟩
       refine ⟨_, rfl, ?_⟩
       refine hK.out _ _ ⟨(bC BK656.out 0).trans rfl, (bC BK656.out 1).trans rfl, (bC BK657.out 0).trans rfl, (bC BK657.out 1).trans rfl⟩ (fun hHeld => ?_)
       clear hK K
       refine norm_ (a' := ?_) ?_ ?_
       rotate_left
       ·show Act.put _ (some 25) _ = _
        simp only [Act.put, sA1, sA2, sA3, i64_w, i32_w]
        rfl
       refine pure_ (i := 10) (N := some 26) (v := ?_) (a' := ?_) #[YY,YY,YY,YY,YY,YY,YY,YY,YY,YY,YY,ZZ,ZZ] rfl rfl (any_of HT_.out (by kernel_rfl)) (fun _ _ _ h => h) (Or.inl ⟨by rfl, ?_⟩) ?_ ?_
       rotate_left
       ·intro w'
        go_simp
        with_reducible rfl
       rotate_left
       ·simp only [Act.put, sA1, sA2, sA3, i64_w, i32_w]
        rfl
       refine one_ (i := 11) (N := some 6) #[YY,YY,YY,YY,YY,YY,YY,YY,YY,YY,YY,YY,ZZ] rfl rfl (one_of HT_.out (by kernel_rfl)) (by decide) (fun K hK => ?_)
       refine box_step ?hg (N := 6) ?hd (cs := #[.string (⟨#[]⟩ : BA), .string (⟨#[]⟩ : BA)]) (t := 38) ?hr ?_; (case hd => rfl); (case hg => rfl); (case hr => first | (go_simp; done) | (go_simp; rfl))
       intro gb662 hg w43 hbox hb
       have n0_ := Aside0.mk (bB (g := gb656) (o := .cells #[.string a0_0, .string a0_1] 38 (0, 0)) (bX_ BK656.out) hb)
       have n1_ := Aside0.mk (bB (g := gb657) (o := .cells #[.string a1_0, .string a1_1] 38 (0, 0)) (bX_ BK657.out) hb)
       have n2_ := Aside0.mk (bB (g := gb658) (o := .cells #[.string (⟨#[]⟩ : BA), .string (⟨#[]⟩ : BA)] 38 (0, 0)) (bX_ BK658.out) hb)
       have n3_ := Aside0.mk (wT (by repeat (first | (with_reducible first | exact HB.out | apply wA | apply wN | apply w1 | refine wS ?_ GE656.out | refine wS ?_ GE657.out | refine wS ?_ GE658.out) | exact HB.out)) hb)
       have n4_ := Aside0.mk (hbox)
       have n5_ := Aside0.mk ((by rw [hg]; exact (wZ (by repeat (first | (with_reducible first | exact HB.out | apply wA | apply wN | apply w1 | refine wS ?_ GE656.out | refine wS ?_ GE657.out | refine wS ?_ GE658.out) | exact HB.out))) : w.heap.size ≤ gb662))
       have n6_ := Aside0.mk ((by rw [hg]; exact (wZ (by repeat (first | (with_reducible first | exact HB.out | apply wA | apply wN | apply w1 | refine wS ?_ GE656.out | refine wS ?_ GE657.out | refine wS ?_ GE658.out) | exact HB.out))) : w.heap.size ≤ gb662))
       have n7_ := Aside0.mk ((by rw [hg]; exact Nat.ne_of_lt (blk_lt (g := gb656) (o := .cells #[.string a0_0, .string a0_1] 38 (0, 0)) (bX_ BK656.out)) : gb656 ≠ gb662))
       have n8_ := Aside0.mk ((by rw [hg]; exact Nat.ne_of_gt (blk_lt (g := gb656) (o := .cells #[.string a0_0, .string a0_1] 38 (0, 0)) (bX_ BK656.out)) : gb662 ≠ gb656))
       have n9_ := Aside0.mk ((by rw [hg]; exact Nat.ne_of_lt (blk_lt (g := gb657) (o := .cells #[.string a1_0, .string a1_1] 38 (0, 0)) (bX_ BK657.out)) : gb657 ≠ gb662))
       have n10_ := Aside0.mk ((by rw [hg]; exact Nat.ne_of_gt (blk_lt (g := gb657) (o := .cells #[.string a1_0, .string a1_1] 38 (0, 0)) (bX_ BK657.out)) : gb662 ≠ gb657))
       have n11_ := Aside0.mk ((by rw [hg]; exact Nat.ne_of_lt (blk_lt (g := gb658) (o := .cells #[.string (⟨#[]⟩ : BA), .string (⟨#[]⟩ : BA)] 38 (0, 0)) (bX_ BK658.out)) : gb658 ≠ gb662))
       have n12_ := Aside0.mk ((by rw [hg]; exact Nat.ne_of_gt (blk_lt (g := gb658) (o := .cells #[.string (⟨#[]⟩ : BA), .string (⟨#[]⟩ : BA)] 38 (0, 0)) (bX_ BK658.out)) : gb662 ≠ gb658))
       clear BK656
       clear BK657
       clear BK658
       clear HB
       have BK656 := n0_
       have BK657 := n1_
       have BK658 := n2_
       have HB := n3_
       have BK662 := n4_
       have GW662 := n5_
       have GE662 := n6_
       have NB656_662 := n7_
       have NB662_656 := n8_
       have NB657_662 := n9_
       have NB662_657 := n10_
       have NB658_662 := n11_
       have NB662_658 := n12_
       clear n0_ n1_ n2_ n3_ n4_ n5_ n6_ n7_ n8_ n9_ n10_ n11_ n12_
       clear hb hbox hg
       refine hK.out _ _ ⟨(bC BK656.out 0).trans rfl, (bC BK656.out 1).trans rfl, (bC BK657.out 0).trans rfl, (bC BK657.out 1).trans rfl⟩ (fun hHeld => ?_)
       clear hK K
       refine norm_ (a' := ?_) ?_ ?_
       rotate_left
       ·show Act.put _ (some 6) _ = _
        simp only [Act.put, sA1, sA2, sA3, i64_w, i32_w]
        rfl
       exact norm_ (by simp only [putAll, Act.put, sA1, sA2, sA3]) (hCont (gb662) _ ⟨hHeld, (bX_ BK656.out), (bX_ BK657.out), (bX_ BK658.out), (bX_ BK662.out), GW662.out, GE662.out, NB656_662.out, NB662_656.out, NB657_662.out, NB662_657.out, NB658_662.out, NB662_658.out, (by repeat (first | (with_reducible first | exact HB.out | apply wA | apply wN | apply w1 | refine wS ?_ GE656.out | refine wS ?_ GE657.out | refine wS ?_ GE658.out | refine wS ?_ GE662.out) | exact HB.out))⟩)
      ·skip
       refine box_step ?hg (N := 6) ?hd (cs := #[.string (⟨#[]⟩ : BA), .string (⟨#[]⟩ : BA)]) (t := 38) ?hr ?_; (case hd => rfl); (case hg => rfl); (case hr => first | (go_simp; done) | (go_simp; rfl))
       intro gb662 hg w43 hbox hb
       have n0_ := Aside0.mk (bB (g := gb656) (o := .cells #[.string a0_0, .string a0_1] 38 (0, 0)) (bX_ BK656.out) hb)
       have n1_ := Aside0.mk (bB (g := gb657) (o := .cells #[.string a1_0, .string a1_1] 38 (0, 0)) (bX_ BK657.out) hb)
       have n2_ := Aside0.mk (bB (g := gb658) (o := .cells #[.string (⟨#[]⟩ : BA), .string (⟨#[]⟩ : BA)] 38 (0, 0)) (bX_ BK658.out) hb)
       have n3_ := Aside0.mk (wT (by repeat (first | (with_reducible first | exact HB.out | apply wA | apply wN | apply w1 | refine wS ?_ GE656.out | refine wS ?_ GE657.out | refine wS ?_ GE658.out) | exact HB.out)) hb)
       have n4_ := Aside0.mk (hbox)
       have n5_ := Aside0.mk ((by rw [hg]; exact (wZ (by repeat (first | (with_reducible first | exact HB.out | apply wA | apply wN | apply w1 | refine wS ?_ GE656.out | refine wS ?_ GE657.out | refine wS ?_ GE658.out) | exact HB.out))) : w.heap.size ≤ gb662))
       have n6_ := Aside0.mk ((by rw [hg]; exact (wZ (by repeat (first | (with_reducible first | exact HB.out | apply wA | apply wN | apply w1 | refine wS ?_ GE656.out | refine wS ?_ GE657.out | refine wS ?_ GE658.out) | exact HB.out))) : w.heap.size ≤ gb662))
       have n7_ := Aside0.mk ((by rw [hg]; exact Nat.ne_of_lt (blk_lt (g := gb656) (o := .cells #[.string a0_0, .string a0_1] 38 (0, 0)) (bX_ BK656.out)) : gb656 ≠ gb662))
       have n8_ := Aside0.mk ((by rw [hg]; exact Nat.ne_of_gt (blk_lt (g := gb656) (o := .cells #[.string a0_0, .string a0_1] 38 (0, 0)) (bX_ BK656.out)) : gb662 ≠ gb656))
       have n9_ := Aside0.mk ((by rw [hg]; exact Nat.ne_of_lt (blk_lt (g := gb657) (o := .cells #[.string a1_0, .string a1_1] 38 (0, 0)) (bX_ BK657.out)) : gb657 ≠ gb662))
       have n10_ := Aside0.mk ((by rw [hg]; exact Nat.ne_of_gt (blk_lt (g := gb657) (o := .cells #[.string a1_0, .string a1_1] 38 (0, 0)) (bX_ BK657.out)) : gb662 ≠ gb657))
       have n11_ := Aside0.mk ((by rw [hg]; exact Nat.ne_of_lt (blk_lt (g := gb658) (o := .cells #[.string (⟨#[]⟩ : BA), .string (⟨#[]⟩ : BA)] 38 (0, 0)) (bX_ BK658.out)) : gb658 ≠ gb662))
       have n12_ := Aside0.mk ((by rw [hg]; exact Nat.ne_of_gt (blk_lt (g := gb658) (o := .cells #[.string (⟨#[]⟩ : BA), .string (⟨#[]⟩ : BA)] 38 (0, 0)) (bX_ BK658.out)) : gb662 ≠ gb658))
       clear BK656
       clear BK657
       clear BK658
       clear HB
       have BK656 := n0_
       have BK657 := n1_
       have BK658 := n2_
       have HB := n3_
       have BK662 := n4_
       have GW662 := n5_
       have GE662 := n6_
       have NB656_662 := n7_
       have NB662_656 := n8_
       have NB657_662 := n9_
       have NB662_657 := n10_
       have NB658_662 := n11_
       have NB662_658 := n12_
       clear n0_ n1_ n2_ n3_ n4_ n5_ n6_ n7_ n8_ n9_ n10_ n11_ n12_
       clear hb hbox hg
       refine hK.out _ _ ⟨(bC BK656.out 0).trans rfl, (bC BK656.out 1).trans rfl, (bC BK657.out 0).trans rfl, (bC BK657.out 1).trans rfl⟩ (fun hHeld => ?_)
       clear hK K
       refine norm_ (a' := ?_) ?_ ?_
       rotate_left
       ·show Act.put _ (some 6) _ = _
        simp only [Act.put, sA1, sA2, sA3, i64_w, i32_w]
        rfl
       refine one_ (i := 9) (N := some 25) #[YY,YY,YY,YY,YY,YY,YY,YY,YY,YY,ZZ,YY,ZZ] rfl rfl (one_of HT_.out (by kernel_rfl)) (by decide) (fun K hK => ?_)
       refine goes_ Try.func103 (by kernel_rfl) rfl #[.string a0_1, .string a1_1] (by rfl) rfl rfl mS_ ?_
       with_reducible refine (key_First.calls a0_1 a1_1 t661 _ A25.out).mono ?_
       rintro e w' ⟨rfl, ⟨nd, rfl⟩⟩
       refine ⟨_, rfl, ?_⟩
       refine hK.out _ _ ⟨(bC BK656.out 0).trans rfl, (bC BK656.out 1).trans rfl, (bC BK657.out 0).trans rfl, (bC BK657.out 1).trans rfl⟩ (fun hHeld => ?_)
       clear hK K
       refine norm_ (a' := ?_) ?_ ?_
       rotate_left
       ·show Act.put _ (some 25) _ = _
        simp only [Act.put, sA1, sA2, sA3, i64_w, i32_w]
        rfl
       refine pure_ (i := 10) (N := some 26) (v := ?_) (a' := ?_) #[YY,YY,YY,YY,YY,YY,YY,YY,YY,YY,YY,YY,ZZ] rfl rfl (any_of HT_.out (by kernel_rfl)) (fun _ _ _ h => h) (Or.inl ⟨by rfl, ?_⟩) ?_ ?_
       rotate_left
       ·intro w'
        go_simp
        with_reducible rfl
       rotate_left
       ·simp only [Act.put, sA1, sA2, sA3, i64_w, i32_w]
        rfl
       exact norm_ (by simp only [putAll, Act.put, sA1, sA2, sA3]) (hCont (gb662) _ ⟨hHeld, (bX_ BK656.out), (bX_ BK657.out), (bX_ BK658.out), (bX_ BK662.out), GW662.out, GE662.out, NB656_662.out, NB662_656.out, NB657_662.out, NB662_657.out, NB658_662.out, NB662_658.out, (by repeat (first | (with_reducible first | exact HB.out | apply wA | apply wN | apply w1 | refine wS ?_ GE656.out | refine wS ?_ GE657.out | refine wS ?_ GE658.out | refine wS ?_ GE662.out) | exact HB.out))⟩)
     rintro gb662 w44 ⟨hS_, h0_, h1_, h2_, h3_, h4_, h5_, h6_, h7_, h8_, h9_, h10_, h11_, h12_⟩
     have n0_ : Aside0 (w44.heap[gb656]? = some (.cells #[.string a0_0, .string a0_1] 38 (0, 0))) := ⟨h0_⟩
     have n1_ : Aside0 (w44.heap[gb657]? = some (.cells #[.string a1_0, .string a1_1] 38 (0, 0))) := ⟨h1_⟩
     have n2_ : Aside0 (w44.heap[gb658]? = some (.cells #[.string (⟨#[]⟩ : BA), .string (⟨#[]⟩ : BA)] 38 (0, 0))) := ⟨h2_⟩
     have n3_ : Aside0 (w44.heap[gb662]? = some (.cells #[.string (⟨#[]⟩ : BA), .string (⟨#[]⟩ : BA)] 38 (0, 0))) := ⟨h3_⟩
     have n4_ : Aside0 (w.heap.size ≤ gb662) := ⟨h4_⟩
     have n5_ : Aside0 (w.heap.size ≤ gb662) := ⟨h5_⟩
     have n6_ : Aside0 (gb656 ≠ gb662) := ⟨h6_⟩
     have n7_ : Aside0 (gb662 ≠ gb656) := ⟨h7_⟩
     have n8_ : Aside0 (gb657 ≠ gb662) := ⟨h8_⟩
     have n9_ : Aside0 (gb662 ≠ gb657) := ⟨h9_⟩
     have n10_ : Aside0 (gb658 ≠ gb662) := ⟨h10_⟩
     have n11_ : Aside0 (gb662 ≠ gb658) := ⟨h11_⟩
     have n12_ : Aside0 (Below w.heap.size w w44) := ⟨h12_⟩
     clear BK656
     clear BK657
     clear BK658
     clear HB
     clear h0_ h1_ h2_ h3_ h4_ h5_ h6_ h7_ h8_ h9_ h10_ h11_ h12_
     have BK656 := n0_
     have BK657 := n1_
     have BK658 := n2_
     have BK662 := n3_
     have GW662 := n4_
     have GE662 := n5_
     have NB656_662 := n6_
     have NB662_656 := n7_
     have NB657_662 := n8_
     have NB662_657 := n9_
     have NB658_662 := n10_
     have NB662_658 := n11_
     have HB := n12_
     clear n0_ n1_ n2_ n3_ n4_ n5_ n6_ n7_ n8_ n9_ n10_ n11_ n12_
     have hHeld : w44.cell? ⟨gb656, 0, none⟩ = some (.string a0_0) ∧ w44.cell? ⟨gb656, 1, none⟩ = some (.string a0_1) ∧ w44.cell? ⟨gb657, 0, none⟩ = some (.string a1_0) ∧ w44.cell? ⟨gb657, 1, none⟩ = some (.string a1_1) := hS_
     refine norm_ (a' := ?_) ?_ ?_
     rotate_left
     ·simp only [putAll, Act.put, sA1, sA2, sA3]
      rfl
     refine one_ (i := 12) (N := none) #[YY,YY,YY,YY,YY,YY,YY,YY,YY,YY,YY,YY,YY] rfl rfl (one_of HT_.out (by kernel_rfl)) (by decide) (fun K hK => ?_)
     have hs45 : w44.cell? ⟨gb662, 0, none⟩ = some (.string (⟨#[]⟩ : BA)) := (bC BK662.out 0).trans rfl
     have hfs45 := bF BK662.out 0
     have hns45_0 := NB656_662.out
     have hns45_1 := NB657_662.out
     have hns45_2 := NB658_662.out
     have hms45_0 := NB662_656.out
     have hms45_1 := NB662_657.out
     have hms45_2 := NB662_658.out
     have hs46 : w44.cell? ⟨gb662, 1, none⟩ = some (.string (⟨#[]⟩ : BA)) := (bC BK662.out 1).trans rfl
     have hfs46 := bF BK662.out 1
     have hns46_0 := NB656_662.out
     have hns46_1 := NB657_662.out
     have hns46_2 := NB658_662.out
     have hms46_0 := NB662_656.out
     have hms46_1 := NB662_657.out
     have hms46_2 := NB662_658.out
     refine skip_ (w1 := ?_) (by rfl) rfl ?_ ?_
     rotate_left
     ·go_simp
      rfl
     refine hK.out _ _ ⟨((cF (p := ⟨gb662, _, none⟩) NB656_662.out _).trans (((cF (p := ⟨gb662, _, none⟩) NB656_662.out _).trans (hHeld.1)))), ((cF (p := ⟨gb662, _, none⟩) NB656_662.out _).trans (((cF (p := ⟨gb662, _, none⟩) NB656_662.out _).trans (hHeld.2.1)))), ((cF (p := ⟨gb662, _, none⟩) NB657_662.out _).trans (((cF (p := ⟨gb662, _, none⟩) NB657_662.out _).trans (hHeld.2.2.1)))), ((cF (p := ⟨gb662, _, none⟩) NB657_662.out _).trans (((cF (p := ⟨gb662, _, none⟩) NB657_662.out _).trans (hHeld.2.2.2))))⟩ (fun hHeld => ?_)
     clear hK K
     refine done_ (done_of HT_.out (by kernel_rfl)) ?_
     have hnb47 := NB662_656.out
     have hnc47 := NB656_662.out
     have hnb48 := NB662_657.out
     have hnc48 := NB657_662.out
     have hnb49 := NB662_658.out
     have hnc49 := NB658_662.out
     have hcz50_0 : w44.cell? ⟨gb662, 0, none⟩ = some (.string (⟨#[]⟩ : BA)) := (bC BK662.out 0).trans rfl
     have hcz50_1 : w44.cell? ⟨gb662, 1, none⟩ = some (.string (⟨#[]⟩ : BA)) := (bC BK662.out 1).trans rfl
     have hfz50_0 := bF BK662.out 0
     have hfz50_1 := bF BK662.out 1
     try go_wp2_with (first | ((with_reducible refine gate_callee (f := 49) rfl ?_); refine goesL_ (some 28) rfl rfl Try.func49 (by kernel_rfl) rfl #[.agg #[.string (mxs a0_0 a1_0), .string t661]] rfl mS_ ?_; (with_reducible refine (key_RightRange.calls (mxs a0_0 a1_0) t661 false _ A26.out).mono ?_); rintro e w51 ⟨rfl, hb⟩; refine ⟨_, rfl, ?_⟩; have n0_ := Aside0.mk (bB (g := gb656) (o := .cells #[.string a0_0, .string a0_1] 38 (0, 0)) (by (with_reducible repeat (first | refine bN ?_ _ | refine bD ?_ | refine bA ?_ _)); refine bR ?_ NB656_662.out _; (with_reducible repeat (first | refine bN ?_ _ | refine bD ?_ | refine bA ?_ _)); refine bR ?_ NB656_662.out _; (with_reducible repeat (first | refine bN ?_ _ | refine bD ?_ | refine bA ?_ _)); exact BK656.out) hb); have n1_ := Aside0.mk (bB (g := gb657) (o := .cells #[.string a1_0, .string a1_1] 38 (0, 0)) (by (with_reducible repeat (first | refine bN ?_ _ | refine bD ?_ | refine bA ?_ _)); refine bR ?_ NB657_662.out _; (with_reducible repeat (first | refine bN ?_ _ | refine bD ?_ | refine bA ?_ _)); refine bR ?_ NB657_662.out _; (with_reducible repeat (first | refine bN ?_ _ | refine bD ?_ | refine bA ?_ _)); exact BK657.out) hb); have n2_ := Aside0.mk (bB (g := gb658) (o := .cells #[.string (⟨#[]⟩ : BA), .string (⟨#[]⟩ : BA)] 38 (0, 0)) (by (with_reducible repeat (first | refine bN ?_ _ | refine bD ?_ | refine bA ?_ _)); refine bR ?_ NB658_662.out _; (with_reducible repeat (first | refine bN ?_ _ | refine bD ?_ | refine bA ?_ _)); refine bR ?_ NB658_662.out _; (with_reducible repeat (first | refine bN ?_ _ | refine bD ?_ | refine bA ?_ _)); exact BK658.out) hb); have n3_ := Aside0.mk (bB (g := gb662) (o := .cells #[.string (mxs a0_0 a1_0), .string t661] 38 (0, 0)) (by (with_reducible repeat (first | refine bN ?_ _ | refine bD ?_ | refine bA ?_ _)); refine bP (cs := #[.string (mxs a0_0 a1_0), .string (⟨#[]⟩ : BA)]) ?_ 1 _ rfl; (with_reducible repeat (first | refine bN ?_ _ | refine bD ?_ | refine bA ?_ _)); refine bP (cs := #[.string (⟨#[]⟩ : BA), .string (⟨#[]⟩ : BA)]) ?_ 0 _ rfl; (with_reducible repeat (first | refine bN ?_ _ | refine bD ?_ | refine bA ?_ _)); exact BK662.out) hb); have n4_ := Aside0.mk (wT (by repeat (first | (with_reducible first | exact HB.out | apply wA | apply wN | apply w1 | refine wS ?_ GE656.out | refine wS ?_ GE657.out | refine wS ?_ GE658.out | refine wS ?_ GE662.out) | exact HB.out)) hb); clear BK656; clear BK657; clear BK658; clear BK662; clear HB; have BK656 := n0_; have BK657 := n1_; have BK658 := n2_; have BK662 := n3_; have HB := n4_; clear n0_ n1_ n2_ n3_ n4_; (try clear hb); (try clear hb2); (try clear hk); (try clear hi); have hnb52 := NB658_656.out; have hnc52 := NB656_658.out; have hnb53 := NB658_657.out; have hnc53 := NB657_658.out; have hcz54_0 : w51.cell? ⟨gb658, 0, none⟩ = some (.string (⟨#[]⟩ : BA)) := (bC BK658.out 0).trans rfl; have hcz54_1 : w51.cell? ⟨gb658, 1, none⟩ = some (.string (⟨#[]⟩ : BA)) := (bC BK658.out 1).trans rfl; have hfz54_0 := bF BK658.out 0; have hfz54_1 := bF BK658.out 1))
     refine bodyPost_ret (results_ct rfl _ _ gb658 38 #[.string (⟨#[]⟩ : BA), .string (⟨#[]⟩ : BA)] (0, 0) _ rfl (by (with_reducible repeat (first | refine bN ?_ _ | refine bD ?_ | refine bA ?_ _)); refine bP (cs := #[.string (⟨#[]⟩ : BA), .string (⟨#[]⟩ : BA)]) ?_ 1 _ rfl; (with_reducible repeat (first | refine bN ?_ _ | refine bD ?_ | refine bA ?_ _)); refine bP (cs := #[.string (⟨#[]⟩ : BA), .string (⟨#[]⟩ : BA)]) ?_ 0 _ rfl; (with_reducible repeat (first | refine bN ?_ _ | refine bD ?_ | refine bA ?_ _)); exact BK658.out) Try.underlying38 rfl (by kernel_rfl)) rfl ?_
     exact ⟨by first | rfl | (simp [errW_none, errW_some] <;> rfl) | (simp [*, errW_none, errW_some] <;> rfl), by repeat (first | (with_reducible first | exact HB.out | apply wA | apply wN | apply w1 | refine wS ?_ GE656.out | refine wS ?_ GE657.out | refine wS ?_ GE658.out | refine wS ?_ GE662.out) | exact HB.out)⟩
def key_Within.f (k : Nat) (a0_0 : BA) (a0_1 : BA) (a1_0 : BA) (a1_1 : BA) : Option (Bool) := (key_Meet.f k a0_0 a0_1 a1_0 a1_1).bind fun bt666 => (if bt666.2.2 = true then (some (bt666.1.toList == a0_0.toList && (bt666.2.1.toList == a0_1.toList))) else (some false))
set_option maxHeartbeats 8000000 in
set_option maxRecDepth 100000 in
theorem key_Within.calls (k : Nat) (a0_0 : BA) (a0_1 : BA) (a1_0 : BA) (a1_1 : BA) (r : Bool) (w : World) (h : key_Within.f k a0_0 a0_1 a1_0 a1_1 = some r) :
  Calls Try.prog 53 #[.agg #[.string a0_0, .string a0_1], .agg #[.string a1_0, .string a1_1]] w fun e w' => e = .returned (.bool r) ∧ Below w.heap.size w w' := by
 have hu38 := Try.underlying38
 have HB := Aside0.mk (Below.refl w.heap.size w)
 have H : ((key_Meet.f k a0_0 a0_1 a1_0 a1_1).bind fun bt666 => (if bt666.2.2 = true then (some (bt666.1.toList == a0_0.toList && (bt666.2.1.toList == a0_1.toList))) else (some false))) = some r := h
 clear h
 replace H := Option.bind_eq_some_iff.mp H
 obtain ⟨⟨t666, t667, t668⟩, A30, H⟩ := H
 replace H : (if t668 = true then (some (t666.toList == a0_0.toList && (t667.toList == a0_1.toList))) else (some false)) = some r := H
 have A3 := Aside0.mk A30
 clear A30
 by_cases c4 : t668 = true
 ·subst c4
  have H1 : (some (t666.toList == a0_0.toList && (t667.toList == a0_1.toList))) = some r := by rw [if_pos rfl] at H; exact H
  clear H
  have H := H1
  clear H1
  obtain rfl := Option.some.inj H
  go_enter Try.func53, Try.ntmps53
  go_wp2_with (first | ((with_reducible refine gate_dst (N := 2) rfl ?_); refine box_event ?hg (N := 2) ?hd (cs := #[.string a0_0, .string a0_1]) (t := 38) ?hr ?_; (case hd => rfl); (case hg => rfl); (case hr => first | (go_simp; done) | (go_simp; rfl)); intro gb664 hg w5 hbox hb; have n0_ := Aside0.mk (wT bW_ hb); have n1_ := Aside0.mk (hbox); have n2_ := Aside0.mk ((by rw [hg]; exact (wZ bW_) : w.heap.size ≤ gb664)); have n3_ := n2_; clear HB; have HB := n0_; have BK664 := n1_; have GW664 := n2_; have GE664 := n3_; clear n0_ n1_ n2_ n3_; clear hb hbox hg) | ((with_reducible refine gate_dst (N := 3) rfl ?_); refine box_event ?hg (N := 3) ?hd (cs := #[.string a1_0, .string a1_1]) (t := 38) ?hr ?_; (case hd => rfl); (case hg => rfl); (case hr => first | (go_simp; done) | (go_simp; rfl)); intro gb665 hg w6 hbox hb; have n0_ := Aside0.mk (bB (g := gb664) (o := .cells #[.string a0_0, .string a0_1] 38 (0, 0)) (bX_ BK664.out) hb); have n1_ := Aside0.mk (wT (by repeat (first | (with_reducible first | exact HB.out | apply wA | apply wN | apply w1 | refine wS ?_ GE664.out) | exact HB.out)) hb); have n2_ := Aside0.mk (hbox); have n3_ := Aside0.mk ((by rw [hg]; exact (wZ (by repeat (first | (with_reducible first | exact HB.out | apply wA | apply wN | apply w1 | refine wS ?_ GE664.out) | exact HB.out))) : w.heap.size ≤ gb665)); have n4_ := n3_; have n5_ := Aside0.mk ((by rw [hg]; exact Nat.ne_of_lt (blk_lt (g := gb664) (o := .cells #[.string a0_0, .string a0_1] 38 (0, 0)) (bX_ BK664.out)) : gb664 ≠ gb665)); have n6_ := Aside0.mk ((by rw [hg]; exact Nat.ne_of_gt (blk_lt (g := gb664) (o := .cells #[.string a0_0, .string a0_1] 38 (0, 0)) (bX_ BK664.out)) : gb665 ≠ gb664)); clear BK664; clear HB; have BK664 := n0_; have HB := n1_; have BK665 := n2_; have GW665 := n3_; have GE665 := n4_; have NB664_665 := n5_; have NB665_664 := n6_; clear n0_ n1_ n2_ n3_ n4_ n5_ n6_; clear hb hbox hg; have hnb7 := NB664_665.out; have hnc7 := NB665_664.out; have hcz8_0 : w6.cell? ⟨gb664, 0, none⟩ = some (.string a0_0) := (bC BK664.out 0).trans rfl; have hcz8_1 : w6.cell? ⟨gb664, 1, none⟩ = some (.string a0_1) := (bC BK664.out 1).trans rfl; have hfz8_0 := bF BK664.out 0; have hfz8_1 := bF BK664.out 1; have hcz9_0 : w6.cell? ⟨gb665, 0, none⟩ = some (.string a1_0) := (bC BK665.out 0).trans rfl; have hcz9_1 : w6.cell? ⟨gb665, 1, none⟩ = some (.string a1_1) := (bC BK665.out 1).trans rfl; have hfz9_0 := bF BK665.out 0; have hfz9_1 := bF BK665.out 1) | ((with_reducible refine gate_callee (f := 82) rfl ?_); refine goesL_ (some 10) rfl rfl Try.func82 (by kernel_rfl) rfl #[.agg #[.string a0_0, .string a0_1], .agg #[.string a1_0, .string a1_1]] rfl mS_ ?_; (with_reducible refine (key_Meet.calls k a0_0 a0_1 a1_0 a1_1 t666 t667 true _ A3.out).mono ?_); rintro e w10 ⟨rfl, hb⟩; refine ⟨_, rfl, ?_⟩; have n0_ := Aside0.mk (bB (g := gb664) (o := .cells #[.string a0_0, .string a0_1] 38 (0, 0)) (bX_ BK664.out) hb); have n1_ := Aside0.mk (bB (g := gb665) (o := .cells #[.string a1_0, .string a1_1] 38 (0, 0)) (bX_ BK665.out) hb); have n2_ := Aside0.mk (wT (by repeat (first | (with_reducible first | exact HB.out | apply wA | apply wN | apply w1 | refine wS ?_ GE664.out | refine wS ?_ GE665.out) | exact HB.out)) hb); clear BK664; clear BK665; clear HB; have BK664 := n0_; have BK665 := n1_; have HB := n2_; clear n0_ n1_ n2_; (try clear hb); (try clear hb2); (try clear hk); (try clear hi)) | ((with_reducible refine gate_dst (N := 5) rfl ?_); refine box_event ?hg (N := 5) ?hd (cs := #[.string (⟨#[]⟩ : BA), .string (⟨#[]⟩ : BA)]) (t := 38) ?hr ?_; (case hd => rfl); (case hg => rfl); (case hr => first | (go_simp; done) | (go_simp; rfl)); intro gb669 hg w11 hbox hb; have n0_ := Aside0.mk (bB (g := gb664) (o := .cells #[.string a0_0, .string a0_1] 38 (0, 0)) (bX_ BK664.out) hb); have n1_ := Aside0.mk (bB (g := gb665) (o := .cells #[.string a1_0, .string a1_1] 38 (0, 0)) (bX_ BK665.out) hb); have n2_ := Aside0.mk (wT (by repeat (first | (with_reducible first | exact HB.out | apply wA | apply wN | apply w1 | refine wS ?_ GE664.out | refine wS ?_ GE665.out) | exact HB.out)) hb); have n3_ := Aside0.mk (hbox); have n4_ := Aside0.mk ((by rw [hg]; exact (wZ (by repeat (first | (with_reducible first | exact HB.out | apply wA | apply wN | apply w1 | refine wS ?_ GE664.out | refine wS ?_ GE665.out) | exact HB.out))) : w.heap.size ≤ gb669)); have n5_ := n4_; have n6_ := Aside0.mk ((by rw [hg]; exact Nat.ne_of_lt (blk_lt (g := gb664) (o := .cells #[.string a0_0, .string a0_1] 38 (0, 0)) (bX_ BK664.out)) : gb664 ≠ gb669)); have n7_ := Aside0.mk ((by rw [hg]; exact Nat.ne_of_gt (blk_lt (g := gb664) (o := .cells #[.string a0_0, .string a0_1] 38 (0, 0)) (bX_ BK664.out)) : gb669 ≠ gb664)); have n8_ := Aside0.mk ((by rw [hg]; exact Nat.ne_of_lt (blk_lt (g := gb665) (o := .cells #[.string a1_0, .string a1_1] 38 (0, 0)) (bX_ BK665.out)) : gb665 ≠ gb669)); have n9_ := Aside0.mk ((by rw [hg]; exact Nat.ne_of_gt (blk_lt (g := gb665) (o := .cells #[.string a1_0, .string a1_1] 38 (0, 0)) (bX_ BK665.out)) : gb669 ≠ gb665)); clear BK664; clear BK665; clear HB; have BK664 := n0_; have BK665 := n1_; have HB := n2_; have BK669 := n3_; have GW669 := n4_; have GE669 := n5_; have NB664_669 := n6_; have NB669_664 := n7_; have NB665_669 := n8_; have NB669_665 := n9_; clear n0_ n1_ n2_ n3_ n4_ n5_ n6_ n7_ n8_ n9_; clear hb hbox hg; have hnb12 := NB669_664.out; have hnc12 := NB664_669.out; have hnb13 := NB669_665.out; have hnc13 := NB665_669.out; have hcz14_0 : w11.cell? ⟨gb669, 0, none⟩ = some (.string (⟨#[]⟩ : BA)) := (bC BK669.out 0).trans rfl; have hcz14_1 : w11.cell? ⟨gb669, 1, none⟩ = some (.string (⟨#[]⟩ : BA)) := (bC BK669.out 1).trans rfl; have hfz14_0 := bF BK669.out 0; have hfz14_1 := bF BK669.out 1; have hcz15_0 : w11.cell? ⟨gb664, 0, none⟩ = some (.string a0_0) := (bC BK664.out 0).trans rfl; have hcz15_1 : w11.cell? ⟨gb664, 1, none⟩ = some (.string a0_1) := (bC BK664.out 1).trans rfl; have hfz15_0 := bF BK664.out 0; have hfz15_1 := bF BK664.out 1))
  go_ret
  exact ⟨by first | rfl | (simp [errW_none, errW_some] <;> rfl) | (simp [*, errW_none, errW_some] <;> rfl), by repeat (first | (with_reducible first | exact HB.out | apply wA | apply wN | apply w1 | refine wS ?_ GE664.out | refine wS ?_ GE665.out | refine wS ?_ GE669.out) | exact HB.out)⟩
 ·replace c4 := Bool.eq_false_iff.mpr c4
  subst c4
  have H1 : (some false) = some r := by rw [if_neg (show ¬ (false = true) by decide)] at H; exact H
  clear H
  have H := H1
  clear H1
  obtain rfl := Option.some.inj H
  go_enter Try.func53, Try.ntmps53
  go_wp2_with (first | ((with_reducible refine gate_dst (N := 2) rfl ?_); refine box_event ?hg (N := 2) ?hd (cs := #[.string a0_0, .string a0_1]) (t := 38) ?hr ?_; (case hd => rfl); (case hg => rfl); (case hr => first | (go_simp; done) | (go_simp; rfl)); intro gb664 hg w16 hbox hb; have n0_ := Aside0.mk (wT bW_ hb); have n1_ := Aside0.mk (hbox); have n2_ := Aside0.mk ((by rw [hg]; exact (wZ bW_) : w.heap.size ≤ gb664)); have n3_ := n2_; clear HB; have HB := n0_; have BK664 := n1_; have GW664 := n2_; have GE664 := n3_; clear n0_ n1_ n2_ n3_; clear hb hbox hg) | ((with_reducible refine gate_dst (N := 3) rfl ?_); refine box_event ?hg (N := 3) ?hd (cs := #[.string a1_0, .string a1_1]) (t := 38) ?hr ?_; (case hd => rfl); (case hg => rfl); (case hr => first | (go_simp; done) | (go_simp; rfl)); intro gb665 hg w17 hbox hb; have n0_ := Aside0.mk (bB (g := gb664) (o := .cells #[.string a0_0, .string a0_1] 38 (0, 0)) (bX_ BK664.out) hb); have n1_ := Aside0.mk (wT (by repeat (first | (with_reducible first | exact HB.out | apply wA | apply wN | apply w1 | refine wS ?_ GE664.out) | exact HB.out)) hb); have n2_ := Aside0.mk (hbox); have n3_ := Aside0.mk ((by rw [hg]; exact (wZ (by repeat (first | (with_reducible first | exact HB.out | apply wA | apply wN | apply w1 | refine wS ?_ GE664.out) | exact HB.out))) : w.heap.size ≤ gb665)); have n4_ := n3_; have n5_ := Aside0.mk ((by rw [hg]; exact Nat.ne_of_lt (blk_lt (g := gb664) (o := .cells #[.string a0_0, .string a0_1] 38 (0, 0)) (bX_ BK664.out)) : gb664 ≠ gb665)); have n6_ := Aside0.mk ((by rw [hg]; exact Nat.ne_of_gt (blk_lt (g := gb664) (o := .cells #[.string a0_0, .string a0_1] 38 (0, 0)) (bX_ BK664.out)) : gb665 ≠ gb664)); clear BK664; clear HB; have BK664 := n0_; have HB := n1_; have BK665 := n2_; have GW665 := n3_; have GE665 := n4_; have NB664_665 := n5_; have NB665_664 := n6_; clear n0_ n1_ n2_ n3_ n4_ n5_ n6_; clear hb hbox hg; have hnb18 := NB664_665.out; have hnc18 := NB665_664.out; have hcz19_0 : w17.cell? ⟨gb664, 0, none⟩ = some (.string a0_0) := (bC BK664.out 0).trans rfl; have hcz19_1 : w17.cell? ⟨gb664, 1, none⟩ = some (.string a0_1) := (bC BK664.out 1).trans rfl; have hfz19_0 := bF BK664.out 0; have hfz19_1 := bF BK664.out 1; have hcz20_0 : w17.cell? ⟨gb665, 0, none⟩ = some (.string a1_0) := (bC BK665.out 0).trans rfl; have hcz20_1 : w17.cell? ⟨gb665, 1, none⟩ = some (.string a1_1) := (bC BK665.out 1).trans rfl; have hfz20_0 := bF BK665.out 0; have hfz20_1 := bF BK665.out 1) | ((with_reducible refine gate_callee (f := 82) rfl ?_); refine goesL_ (some 10) rfl rfl Try.func82 (by kernel_rfl) rfl #[.agg #[.string a0_0, .string a0_1], .agg #[.string a1_0, .string a1_1]] rfl mS_ ?_; (with_reducible refine (key_Meet.calls k a0_0 a0_1 a1_0 a1_1 t666 t667 false _ A3.out).mono ?_); rintro e w21 ⟨rfl, hb⟩; refine ⟨_, rfl, ?_⟩; have n0_ := Aside0.mk (bB (g := gb664) (o := .cells #[.string a0_0, .string a0_1] 38 (0, 0)) (bX_ BK664.out) hb); have n1_ := Aside0.mk (bB (g := gb665) (o := .cells #[.string a1_0, .string a1_1] 38 (0, 0)) (bX_ BK665.out) hb); have n2_ := Aside0.mk (wT (by repeat (first | (with_reducible first | exact HB.out | apply wA | apply wN | apply w1 | refine wS ?_ GE664.out | refine wS ?_ GE665.out) | exact HB.out)) hb); clear BK664; clear BK665; clear HB; have BK664 := n0_; have BK665 := n1_; have HB := n2_; clear n0_ n1_ n2_; (try clear hb); (try clear hb2); (try clear hk); (try clear hi)) | ((with_reducible refine gate_dst (N := 5) rfl ?_); refine box_event ?hg (N := 5) ?hd (cs := #[.string (⟨#[]⟩ : BA), .string (⟨#[]⟩ : BA)]) (t := 38) ?hr ?_; (case hd => rfl); (case hg => rfl); (case hr => first | (go_simp; done) | (go_simp; rfl)); intro gb669 hg w22 hbox hb; have n0_ := Aside0.mk (bB (g := gb664) (o := .cells #[.string a0_0, .string a0_1] 38 (0, 0)) (bX_ BK664.out) hb); have n1_ := Aside0.mk (bB (g := gb665) (o := .cells #[.string a1_0, .string a1_1] 38 (0, 0)) (bX_ BK665.out) hb); have n2_ := Aside0.mk (wT (by repeat (first | (with_reducible first | exact HB.out | apply wA | apply wN | apply w1 | refine wS ?_ GE664.out | refine wS ?_ GE665.out) | exact HB.out)) hb); have n3_ := Aside0.mk (hbox); have n4_ := Aside0.mk ((by rw [hg]; exact (wZ (by repeat (first | (with_reducible first | exact HB.out | apply wA | apply wN | apply w1 | refine wS ?_ GE664.out | refine wS ?_ GE665.out) | exact HB.out))) : w.heap.size ≤ gb669)); have n5_ := n4_; have n6_ := Aside0.mk ((by rw [hg]; exact Nat.ne_of_lt (blk_lt (g := gb664) (o := .cells #[.string a0_0, .string a0_1] 38 (0, 0)) (bX_ BK664.out)) : gb664 ≠ gb669)); have n7_ := Aside0.mk ((by rw [hg]; exact Nat.ne_of_gt (blk_lt (g := gb664) (o := .cells #[.string a0_0, .string a0_1] 38 (0, 0)) (bX_ BK664.out)) : gb669 ≠ gb664)); have n8_ := Aside0.mk ((by rw [hg]; exact Nat.ne_of_lt (blk_lt (g := gb665) (o := .cells #[.string a1_0, .string a1_1] 38 (0, 0)) (bX_ BK665.out)) : gb665 ≠ gb669)); have n9_ := Aside0.mk ((by rw [hg]; exact Nat.ne_of_gt (blk_lt (g := gb665) (o := .cells #[.string a1_0, .string a1_1] 38 (0, 0)) (bX_ BK665.out)) : gb669 ≠ gb665)); clear BK664; clear BK665; clear HB; have BK664 := n0_; have BK665 := n1_; have HB := n2_; have BK669 := n3_; have GW669 := n4_; have GE669 := n5_; have NB664_669 := n6_; have NB669_664 := n7_; have NB665_669 := n8_; have NB669_665 := n9_; clear n0_ n1_ n2_ n3_ n4_ n5_ n6_ n7_ n8_ n9_; clear hb hbox hg; have hnb23 := NB669_664.out; have hnc23 := NB664_669.out; have hnb24 := NB669_665.out; have hnc24 := NB665_669.out; have hcz25_0 : w22.cell? ⟨gb669, 0, none⟩ = some (.string (⟨#[]⟩ : BA)) := (bC BK669.out 0).trans rfl; have hcz25_1 : w22.cell? ⟨gb669, 1, none⟩ = some (.string (⟨#[]⟩ : BA)) := (bC BK669.out 1).trans rfl; have hfz25_0 := bF BK669.out 0; have hfz25_1 := bF BK669.out 1))
  go_ret
  exact ⟨by first | rfl | (simp [errW_none, errW_some] <;> rfl) | (simp [*, errW_none, errW_some] <;> rfl), by repeat (first | (with_reducible first | exact HB.out | apply wA | apply wN | apply w1 | refine wS ?_ GE664.out | refine wS ?_ GE665.out | refine wS ?_ GE669.out) | exact HB.out)⟩
end Go.Proofs.Ytidaiafmhidooaa.P
end
