/- Texts of one claim (laid by shake.py). -/
import Derived.Test.YtidaiafmhidooaaZa3
import Derived.Test.YtidaiafmhidooaaZa12
import Derived.Test.YtidaiafmhidooaaZa8
set_option linter.unusedVariables false
set_option linter.unusedSimpArgs false
section
namespace Go.Proofs.Ytidaiafmhidooaa.P
open Go.RowKit Go.Proofs.YtidaiafmhidooaaW.PrintWords Go.Proofs.YtidaiafmhidooaaW.PrintLast Go.Proofs.YtidaiafmhidooaaW.PrintMore Go.Proofs.Ytidaiafmhidooaa.Own
open Bool renaming true → YY, false → ZZ
open Go.Proofs.YtidaiafmhidooaaW.PrintWords renaming blk_cell → bC, blk_frozen → bF, blk_drewN → bN, blk_alloc → bA, pw_below_drewN → wN, blk_drew → bD, below_drew1 → w1, below_set → wS, below_alloc → wA, blk_below → bB, below_step → wT, below_size → wZ, cell_far → cF, blk_far → bR, blk_put → bP
open List renaming setIfInBounds_toArray → sA1, set_cons_zero → sA2, set_cons_succ → sA3, map_toArray → mA1, map_cons → mA2, map_nil → mA3, length_take → mA4, length_drop → mA5
attribute [local go_sem] max2_str max2_int min2_int max_two min_two max_three min_three max_four min_four   -- for this text's walks alone
attribute [local go_sem high] eqA38
def key_Meet.j0 : Nat → Bool → ByteArray → ByteArray → ByteArray → ByteArray → Option (ByteArray × ByteArray × Bool)
 | 0, _, _, _, _, _ => none
 | k + 1, x14, x673000, x673001, x674000, x674001 => if x14 = true then (some ((⟨#[]⟩ : BA), (⟨#[]⟩ : BA), false)) else ((key_First.f x673001 x674001).bind fun t677 => ((key_RightRange.f (mxs x673000 x674000) t677).bind fun t679 => (if t679 = true then (some (mxs x673000 x674000, t677, true)) else (some ((⟨#[]⟩ : BA), (⟨#[]⟩ : BA), false)))))
def key_Meet.f (k : Nat) (a0_0 : BA) (a0_1 : BA) (a1_0 : BA) (a1_1 : BA) : Option (ByteArray × ByteArray × Bool) := (key_RightRange.f a0_0 a0_1).bind fun t675 => (if t675 = true then ((key_RightRange.f a1_0 a1_1).bind fun t676 => (key_Meet.j0 k (!t676) a0_0 a0_1 a1_0 a1_1)) else (key_Meet.j0 k true a0_0 a0_1 a1_0 a1_1))
def key_Meet.T3 : Bool × List (List Nat × List Nat) := (true, [([], []), ([0], [0]), ([], []), ([2], [2]), ([1, 3], [1, 3]), ([], []), ([5], [5]), ([], []), ([7], [7]), ([6, 8], [6, 8]), ([4, 9], [4, 9]), ([], []), ([11, 10, 9, 0, 1, 2, 3, 4, 5, 6, 7, 8, 9, 10, 11], [10, 11])])
def key_Meet.B3 : List Nat := [0, 1, 0, 4, 15, 0, 32, 0, 128, 480, 1023, 0, 4095]
theorem key_Meet.tab3 : rtab .any (opsOf Try.f82 3) = key_Meet.T3 := by kernel_rfl
theorem key_Meet.bits3 : waitsOk key_Meet.T3.2 key_Meet.B3 = true := by kernel_rfl
set_option maxHeartbeats 8000000 in
set_option maxRecDepth 100000 in
theorem key_Meet.calls (k : Nat) (a0_0 : BA) (a0_1 : BA) (a1_0 : BA) (a1_1 : BA) (r1 : BA) (r2 : BA) (r3 : Bool) (w : World) (h : key_Meet.f k a0_0 a0_1 a1_0 a1_1 = some (r1, r2, r3)) :
  Calls Try.prog 82 #[.agg #[.string a0_0, .string a0_1], .agg #[.string a1_0, .string a1_1]] w fun e w' => e = .returned (.tuple #[.agg #[.string r1, .string r2], .bool r3]) ∧ Below w.heap.size w w' := by
 have hu38 := Try.underlying38
 have HB := Aside0.mk (Below.refl w.heap.size w)
 have H : ((key_RightRange.f a0_0 a0_1).bind fun t675 => (if t675 = true then ((key_RightRange.f a1_0 a1_1).bind fun t676 => (key_Meet.j0 k (!t676) a0_0 a0_1 a1_0 a1_1)) else (key_Meet.j0 k true a0_0 a0_1 a1_0 a1_1))) = some (r1, r2, r3) := h
 clear h
 have HC3 := Aside0.mk H
 clear H
 go_enter Try.func82, Try.ntmps82
 go_upto_region 1 with (first | ((with_reducible refine gate_dst (N := 2) rfl ?_); refine box_event ?hg (N := 2) ?hd (cs := #[.string a0_0, .string a0_1]) (t := 38) ?hr ?_; (case hd => rfl); (case hg => rfl); (case hr => first | (go_simp; done) | (go_simp; rfl)); intro gb672 hg w4 hbox hb; have n0_ := Aside0.mk (wT bW_ hb); have n1_ := Aside0.mk (hbox); have n2_ := Aside0.mk ((by rw [hg]; exact (wZ bW_) : w.heap.size ≤ gb672)); have n3_ := n2_; clear HB; have HB := n0_; have BK672 := n1_; have GW672 := n2_; have GE672 := n3_; clear n0_ n1_ n2_ n3_; clear hb hbox hg) | ((with_reducible refine gate_dst (N := 3) rfl ?_); refine box_event ?hg (N := 3) ?hd (cs := #[.string a1_0, .string a1_1]) (t := 38) ?hr ?_; (case hd => rfl); (case hg => rfl); (case hr => first | (go_simp; done) | (go_simp; rfl)); intro gb673 hg w5 hbox hb; have n0_ := Aside0.mk (bB (g := gb672) (o := .cells #[.string a0_0, .string a0_1] 38 (0, 0)) (bX_ BK672.out) hb); have n1_ := Aside0.mk (wT (by repeat (first | (with_reducible first | exact HB.out | apply wA | apply wN | apply w1 | refine wS ?_ GE672.out) | exact HB.out)) hb); have n2_ := Aside0.mk (hbox); have n3_ := Aside0.mk ((by rw [hg]; exact (wZ (by repeat (first | (with_reducible first | exact HB.out | apply wA | apply wN | apply w1 | refine wS ?_ GE672.out) | exact HB.out))) : w.heap.size ≤ gb673)); have n4_ := n3_; have n5_ := Aside0.mk ((by rw [hg]; exact Nat.ne_of_lt (blk_lt (g := gb672) (o := .cells #[.string a0_0, .string a0_1] 38 (0, 0)) (bX_ BK672.out)) : gb672 ≠ gb673)); have n6_ := Aside0.mk ((by rw [hg]; exact Nat.ne_of_gt (blk_lt (g := gb672) (o := .cells #[.string a0_0, .string a0_1] 38 (0, 0)) (bX_ BK672.out)) : gb673 ≠ gb672)); clear BK672; clear HB; have BK672 := n0_; have HB := n1_; have BK673 := n2_; have GW673 := n3_; have GE673 := n4_; have NB672_673 := n5_; have NB673_672 := n6_; clear n0_ n1_ n2_ n3_ n4_ n5_ n6_; clear hb hbox hg) | ((with_reducible refine gate_dst (N := 4) rfl ?_); refine box_event ?hg (N := 4) ?hd (cs := #[.string (⟨#[]⟩ : BA), .string (⟨#[]⟩ : BA)]) (t := 38) ?hr ?_; (case hd => rfl); (case hg => rfl); (case hr => first | (go_simp; done) | (go_simp; rfl)); intro gb674 hg w6 hbox hb; have n0_ := Aside0.mk (bB (g := gb672) (o := .cells #[.string a0_0, .string a0_1] 38 (0, 0)) (bX_ BK672.out) hb); have n1_ := Aside0.mk (bB (g := gb673) (o := .cells #[.string a1_0, .string a1_1] 38 (0, 0)) (bX_ BK673.out) hb); have n2_ := Aside0.mk (wT (by repeat (first | (with_reducible first | exact HB.out | apply wA | apply wN | apply w1 | refine wS ?_ GE672.out | refine wS ?_ GE673.out) | exact HB.out)) hb); have n3_ := Aside0.mk (hbox); have n4_ := Aside0.mk ((by rw [hg]; exact (wZ (by repeat (first | (with_reducible first | exact HB.out | apply wA | apply wN | apply w1 | refine wS ?_ GE672.out | refine wS ?_ GE673.out) | exact HB.out))) : w.heap.size ≤ gb674)); have n5_ := n4_; have n6_ := Aside0.mk ((by rw [hg]; exact Nat.ne_of_lt (blk_lt (g := gb672) (o := .cells #[.string a0_0, .string a0_1] 38 (0, 0)) (bX_ BK672.out)) : gb672 ≠ gb674)); have n7_ := Aside0.mk ((by rw [hg]; exact Nat.ne_of_gt (blk_lt (g := gb672) (o := .cells #[.string a0_0, .string a0_1] 38 (0, 0)) (bX_ BK672.out)) : gb674 ≠ gb672)); have n8_ := Aside0.mk ((by rw [hg]; exact Nat.ne_of_lt (blk_lt (g := gb673) (o := .cells #[.string a1_0, .string a1_1] 38 (0, 0)) (bX_ BK673.out)) : gb673 ≠ gb674)); have n9_ := Aside0.mk ((by rw [hg]; exact Nat.ne_of_gt (blk_lt (g := gb673) (o := .cells #[.string a1_0, .string a1_1] 38 (0, 0)) (bX_ BK673.out)) : gb674 ≠ gb673)); clear BK672; clear BK673; clear HB; have BK672 := n0_; have BK673 := n1_; have HB := n2_; have BK674 := n3_; have GW674 := n4_; have GE674 := n5_; have NB672_674 := n6_; have NB674_672 := n7_; have NB673_674 := n8_; have NB674_673 := n9_; clear n0_ n1_ n2_ n3_ n4_ n5_ n6_ n7_ n8_ n9_; clear hb hbox hg))
 (try simp only [Act.put, sA1, sA2, sA3])
 go_cut [14] (fun v14 wc => ∃ (kq : Nat) (x14_2 : Bool), v14 = .bool x14_2 ∧ Aside0 (key_Meet.j0 kq x14_2 a0_0 a0_1 a1_0 a1_1 = some (r1, r2, r3)) ∧ Aside0 (kq ≤ k) ∧ Aside0 (wc.heap[gb672]? = some (.cells #[.string a0_0, .string a0_1] 38 (0, 0))) ∧ Aside0 (wc.heap[gb673]? = some (.cells #[.string a1_0, .string a1_1] 38 (0, 0))) ∧ Aside0 (wc.heap[gb674]? = some (.cells #[.string (⟨#[]⟩ : BA), .string (⟨#[]⟩ : BA)] 38 (0, 0))) ∧ Aside0 (Below w.heap.size w wc))
 case first =>
  have H := HC3.out
  clear HC3
  replace H := Option.bind_eq_some_iff.mp H
  obtain ⟨t675, A70, H⟩ := H
  replace H : (if t675 = true then ((key_RightRange.f a1_0 a1_1).bind fun t676 => (key_Meet.j0 k (!t676) a0_0 a0_1 a1_0 a1_1)) else (key_Meet.j0 k true a0_0 a0_1 a1_0 a1_1)) = some (r1, r2, r3) := H
  have A7 := Aside0.mk A70
  clear A70
  by_cases c8 : t675 = true
  ·subst c8
   have H1 : ((key_RightRange.f a1_0 a1_1).bind fun t676 => (key_Meet.j0 k (!t676) a0_0 a0_1 a1_0 a1_1)) = some (r1, r2, r3) := by rw [if_pos rfl] at H; exact H
   clear H
   have H := H1
   clear H1
   replace H := Option.bind_eq_some_iff.mp H
   obtain ⟨t676, A90, H⟩ := H
   replace H : (key_Meet.j0 k (!t676) a0_0 a0_1 a1_0 a1_1) = some (r1, r2, r3) := H
   have A9 := Aside0.mk A90
   clear A90
   have H' := Aside0.mk H
   clear H
   have hnb10 := NB672_673.out
   have hnc10 := NB673_672.out
   have hnb11 := NB672_674.out
   have hnc11 := NB674_672.out
   have hcz12_0 : w6.cell? ⟨gb672, 0, none⟩ = some (.string a0_0) := (bC BK672.out 0).trans rfl
   have hcz12_1 : w6.cell? ⟨gb672, 1, none⟩ = some (.string a0_1) := (bC BK672.out 1).trans rfl
   have hfz12_0 := bF BK672.out 0
   have hfz12_1 := bF BK672.out 1
   go_wp2_with (first | ((with_reducible refine gate_callee (f := 49) rfl ?_); refine goesL_ (some 8) rfl rfl Try.func49 (by kernel_rfl) rfl #[.agg #[.string a0_0, .string a0_1]] rfl mS_ ?_; (with_reducible refine (key_RightRange.calls a0_0 a0_1 true _ A7.out).mono ?_); rintro e w13 ⟨rfl, hb⟩; refine ⟨_, rfl, ?_⟩; have n0_ := Aside0.mk (bB (g := gb672) (o := .cells #[.string a0_0, .string a0_1] 38 (0, 0)) (bX_ BK672.out) hb); have n1_ := Aside0.mk (bB (g := gb673) (o := .cells #[.string a1_0, .string a1_1] 38 (0, 0)) (bX_ BK673.out) hb); have n2_ := Aside0.mk (bB (g := gb674) (o := .cells #[.string (⟨#[]⟩ : BA), .string (⟨#[]⟩ : BA)] 38 (0, 0)) (bX_ BK674.out) hb); have n3_ := Aside0.mk (wT (by repeat (first | (with_reducible first | exact HB.out | apply wA | apply wN | apply w1 | refine wS ?_ GE672.out | refine wS ?_ GE673.out | refine wS ?_ GE674.out) | exact HB.out)) hb); clear BK672; clear BK673; clear BK674; clear HB; have BK672 := n0_; have BK673 := n1_; have BK674 := n2_; have HB := n3_; clear n0_ n1_ n2_ n3_; (try clear hb); (try clear hb2); (try clear hk); (try clear hi); have hnb14 := NB673_674.out; have hnc14 := NB674_673.out; have hcz15_0 : w13.cell? ⟨gb673, 0, none⟩ = some (.string a1_0) := (bC BK673.out 0).trans rfl; have hcz15_1 : w13.cell? ⟨gb673, 1, none⟩ = some (.string a1_1) := (bC BK673.out 1).trans rfl; have hfz15_0 := bF BK673.out 0; have hfz15_1 := bF BK673.out 1) | (go_at_call 49; (with_reducible refine (key_RightRange.calls a1_0 a1_1 t676 _ A9.out).mono ?_); rintro e w16 ⟨rfl, hb⟩; have n0_ := Aside0.mk (bB (g := gb672) (o := .cells #[.string a0_0, .string a0_1] 38 (0, 0)) (bX_ BK672.out) hb); have n1_ := Aside0.mk (bB (g := gb673) (o := .cells #[.string a1_0, .string a1_1] 38 (0, 0)) (bX_ BK673.out) hb); have n2_ := Aside0.mk (bB (g := gb674) (o := .cells #[.string (⟨#[]⟩ : BA), .string (⟨#[]⟩ : BA)] 38 (0, 0)) (bX_ BK674.out) hb); have n3_ := Aside0.mk (wT (by repeat (first | (with_reducible first | exact HB.out | apply wA | apply wN | apply w1 | refine wS ?_ GE672.out | refine wS ?_ GE673.out | refine wS ?_ GE674.out) | exact HB.out)) hb); clear BK672; clear BK673; clear BK674; clear HB; have BK672 := n0_; have BK673 := n1_; have BK674 := n2_; have HB := n3_; clear n0_ n1_ n2_ n3_; (try clear hb); (try clear hb2); (try clear hk); (try clear hi)))
   go_meet
   case rel => exact ⟨_, (!t676), (by first | rfl | (simp; done) | (simp [*]; done)), H', ⟨by first | omega | exact Nat.le_refl _⟩, ⟨by (with_reducible repeat (first | refine bN ?_ _ | refine bD ?_ | refine bA ?_ _)); exact BK672.out⟩, ⟨by (with_reducible repeat (first | refine bN ?_ _ | refine bD ?_ | refine bA ?_ _)); exact BK673.out⟩, ⟨by (with_reducible repeat (first | refine bN ?_ _ | refine bD ?_ | refine bA ?_ _)); exact BK674.out⟩, ⟨by repeat (first | (with_reducible first | exact HB.out | apply wA | apply wN | apply w1 | refine wS ?_ GE672.out | refine wS ?_ GE673.out | refine wS ?_ GE674.out) | exact HB.out)⟩⟩
  ·replace c8 := Bool.eq_false_iff.mpr c8
   subst c8
   have H1 : (key_Meet.j0 k true a0_0 a0_1 a1_0 a1_1) = some (r1, r2, r3) := by rw [if_neg (show ¬ (false = true) by decide)] at H; exact H
   clear H
   have H := H1
   clear H1
   have H' := Aside0.mk H
   clear H
   have hnb17 := NB672_673.out
   have hnc17 := NB673_672.out
   have hnb18 := NB672_674.out
   have hnc18 := NB674_672.out
   have hcz19_0 : w6.cell? ⟨gb672, 0, none⟩ = some (.string a0_0) := (bC BK672.out 0).trans rfl
   have hcz19_1 : w6.cell? ⟨gb672, 1, none⟩ = some (.string a0_1) := (bC BK672.out 1).trans rfl
   have hfz19_0 := bF BK672.out 0
   have hfz19_1 := bF BK672.out 1
   go_wp2_with (first | ((with_reducible refine gate_callee (f := 49) rfl ?_); refine goesL_ (some 8) rfl rfl Try.func49 (by kernel_rfl) rfl #[.agg #[.string a0_0, .string a0_1]] rfl mS_ ?_; (with_reducible refine (key_RightRange.calls a0_0 a0_1 false _ A7.out).mono ?_); rintro e w20 ⟨rfl, hb⟩; refine ⟨_, rfl, ?_⟩; have n0_ := Aside0.mk (bB (g := gb672) (o := .cells #[.string a0_0, .string a0_1] 38 (0, 0)) (bX_ BK672.out) hb); have n1_ := Aside0.mk (bB (g := gb673) (o := .cells #[.string a1_0, .string a1_1] 38 (0, 0)) (bX_ BK673.out) hb); have n2_ := Aside0.mk (bB (g := gb674) (o := .cells #[.string (⟨#[]⟩ : BA), .string (⟨#[]⟩ : BA)] 38 (0, 0)) (bX_ BK674.out) hb); have n3_ := Aside0.mk (wT (by repeat (first | (with_reducible first | exact HB.out | apply wA | apply wN | apply w1 | refine wS ?_ GE672.out | refine wS ?_ GE673.out | refine wS ?_ GE674.out) | exact HB.out)) hb); clear BK672; clear BK673; clear BK674; clear HB; have BK672 := n0_; have BK673 := n1_; have BK674 := n2_; have HB := n3_; clear n0_ n1_ n2_ n3_; (try clear hb); (try clear hb2); (try clear hk); (try clear hi)))
   go_meet
   case rel => exact ⟨_, (true), (by first | rfl | (simp; done) | (simp [*]; done)), H', ⟨by first | omega | exact Nat.le_refl _⟩, ⟨by (with_reducible repeat (first | refine bN ?_ _ | refine bD ?_ | refine bA ?_ _)); exact BK672.out⟩, ⟨by (with_reducible repeat (first | refine bN ?_ _ | refine bD ?_ | refine bA ?_ _)); exact BK673.out⟩, ⟨by (with_reducible repeat (first | refine bN ?_ _ | refine bD ?_ | refine bA ?_ _)); exact BK674.out⟩, ⟨by repeat (first | (with_reducible first | exact HB.out | apply wA | apply wN | apply w1 | refine wS ?_ GE672.out | refine wS ?_ GE673.out | refine wS ?_ GE674.out) | exact HB.out)⟩⟩
 case rest =>
  clear HC3
  try clear c1
  try clear p2
  try clear c4
  try clear c8
  try clear c10
  try clear c11
  try clear c14
  try clear c17
  try clear c18
  try clear hcz12_0
  try clear hcz12_1
  try clear hcz15_0
  try clear hcz15_1
  try clear hcz19_0
  try clear hcz19_1
  try clear hfz12_0
  try clear hfz12_1
  try clear hfz15_0
  try clear hfz15_1
  try clear hfz19_0
  try clear hfz19_1
  obtain ⟨kq, x14_2, rfl, HA, HJ2, BK672, BK673, BK674, HB⟩ := hcut
  cases kq with
  | zero => exact absurd HA.out (by simp [key_Meet.j0])
  | succ kj2 =>
   have H := HA.out
   clear HA
   simp only [key_Meet.j0] at H
   by_cases c21 : x14_2 = true
   ·subst c21
    have H1 : (some ((⟨#[]⟩ : BA), (⟨#[]⟩ : BA), false)) = some (r1, r2, r3) := by rw [if_pos rfl] at H; exact H
    clear H
    have H := H1
    clear H1
    simp only [Option.some.injEq, Prod.mk.injEq] at H
    obtain ⟨rfl, rfl, rfl⟩ := H
    have hnb22 := NB674_672.out
    have hnc22 := NB672_674.out
    have hnb23 := NB674_673.out
    have hnc23 := NB673_674.out
    have hcz24_0 : wc.cell? ⟨gb674, 0, none⟩ = some (.string (⟨#[]⟩ : BA)) := (bC BK674.out 0).trans rfl
    have hcz24_1 : wc.cell? ⟨gb674, 1, none⟩ = some (.string (⟨#[]⟩ : BA)) := (bC BK674.out 1).trans rfl
    have hfz24_0 := bF BK674.out 0
    have hfz24_1 := bF BK674.out 1
    go_wp2
    refine bodyPost_ret (results_ct rfl _ _ gb674 38 #[.string (⟨#[]⟩ : BA), .string (⟨#[]⟩ : BA)] (0, 0) _ rfl (by (with_reducible repeat (first | refine bN ?_ _ | refine bD ?_ | refine bA ?_ _)); refine bP (cs := #[.string (⟨#[]⟩ : BA), .string (⟨#[]⟩ : BA)]) ?_ 1 _ rfl; (with_reducible repeat (first | refine bN ?_ _ | refine bD ?_ | refine bA ?_ _)); refine bP (cs := #[.string (⟨#[]⟩ : BA), .string (⟨#[]⟩ : BA)]) ?_ 0 _ rfl; (with_reducible repeat (first | refine bN ?_ _ | refine bD ?_ | refine bA ?_ _)); exact BK674.out) Try.underlying38 rfl (by kernel_rfl)) rfl ?_
    exact ⟨by first | rfl | (simp [errW_none, errW_some] <;> rfl) | (simp [*, errW_none, errW_some] <;> rfl), by repeat (first | (with_reducible first | exact HB.out | apply wA | apply wN | apply w1 | refine wS ?_ GE672.out | refine wS ?_ GE673.out | refine wS ?_ GE674.out) | exact HB.out)⟩
   ·replace c21 := Bool.eq_false_iff.mpr c21
    subst c21
    have H1 : ((key_First.f a0_1 a1_1).bind fun t677 => ((key_RightRange.f (mxs a0_0 a1_0) t677).bind fun t679 => (if t679 = true then (some (mxs a0_0 a1_0, t677, true)) else (some ((⟨#[]⟩ : BA), (⟨#[]⟩ : BA), false))))) = some (r1, r2, r3) := by rw [if_neg (show ¬ (false = true) by decide)] at H; exact H
    clear H
    have H := H1
    clear H1
    replace H := Option.bind_eq_some_iff.mp H
    obtain ⟨t677, A250, H⟩ := H
    replace H : ((key_RightRange.f (mxs a0_0 a1_0) t677).bind fun t679 => (if t679 = true then (some (mxs a0_0 a1_0, t677, true)) else (some ((⟨#[]⟩ : BA), (⟨#[]⟩ : BA), false)))) = some (r1, r2, r3) := H
    have A25 := Aside0.mk A250
    clear A250
    replace H := Option.bind_eq_some_iff.mp H
    obtain ⟨t679, A260, H⟩ := H
    replace H : (if t679 = true then (some (mxs a0_0 a1_0, t677, true)) else (some ((⟨#[]⟩ : BA), (⟨#[]⟩ : BA), false))) = some (r1, r2, r3) := H
    have A26 := Aside0.mk A260
    clear A260
    by_cases c27 : t679 = true
    ·subst c27
     have H1 : (some (mxs a0_0 a1_0, t677, true)) = some (r1, r2, r3) := by rw [if_pos rfl] at H; exact H
     clear H
     have H := H1
     clear H1
     simp only [Option.some.injEq, Prod.mk.injEq] at H
     obtain ⟨rfl, rfl, rfl⟩ := H
     try go_wp2
     have n0_ := Aside0.mk (bD BK672.out)
     have n1_ := Aside0.mk (bD BK673.out)
     have n2_ := Aside0.mk (bD BK674.out)
     have n3_ := Aside0.mk (w1 HB.out)
     clear BK672
     clear BK673
     clear BK674
     clear HB
     have BK672 := n0_
     have BK673 := n1_
     have BK674 := n2_
     have HB := n3_
     clear n0_ n1_ n2_ n3_
     refine start_ (n := 13) (S := fun w' => w'.cell? ⟨gb672, 0, none⟩ = some (.string a0_0) ∧ w'.cell? ⟨gb672, 1, none⟩ = some (.string a0_1) ∧ w'.cell? ⟨gb673, 0, none⟩ = some (.string a1_0) ∧ w'.cell? ⟨gb673, 1, none⟩ = some (.string a1_1)) (ds := []) #[ZZ,ZZ,ZZ,ZZ,ZZ,ZZ,ZZ,ZZ,ZZ,ZZ,ZZ,ZZ,ZZ] (by kernel_rfl) rfl rfl ⟨(bC BK672.out 0).trans rfl, (bC BK672.out 1).trans rfl, (bC BK673.out 0).trans rfl, (bC BK673.out 1).trans rfl⟩ (fun hHeld => ?_); refine with_tabW key_Meet.tab3 key_Meet.bits3 (fun HT_ HW_ => ?_)
     generalize wc.drew = w28 at BK672 BK673 BK674 HB hHeld ⊢
     refine pure_ (i := 0) (N := some 16) (v := ?_) (a' := ?_) #[YY,ZZ,ZZ,ZZ,ZZ,ZZ,ZZ,ZZ,ZZ,ZZ,ZZ,ZZ,ZZ] rfl rfl (any_of HT_.out (by kernel_rfl)) (fun _ _ _ h => h) (Or.inl ⟨by rfl, ?_⟩) ?_ ?_
     rotate_left
     ·intro w'
      go_simp
      with_reducible rfl
     rotate_left
     ·simp only [Act.put, sA1, sA2, sA3, i64_w, i32_w]
      rfl
     refine pure_ (i := 2) (N := some 18) (v := ?_) (a' := ?_) #[YY,ZZ,YY,ZZ,ZZ,ZZ,ZZ,ZZ,ZZ,ZZ,ZZ,ZZ,ZZ] rfl rfl (any_of HT_.out (by kernel_rfl)) (fun _ _ _ h => h) (Or.inl ⟨by rfl, ?_⟩) ?_ ?_
     rotate_left
     ·intro w'
      go_simp
      with_reducible rfl
     rotate_left
     ·simp only [Act.put, sA1, sA2, sA3, i64_w, i32_w]
      rfl
     refine pure_ (i := 5) (N := some 21) (v := ?_) (a' := ?_) #[YY,ZZ,YY,ZZ,ZZ,YY,ZZ,ZZ,ZZ,ZZ,ZZ,ZZ,ZZ] rfl rfl (any_of HT_.out (by kernel_rfl)) (fun _ _ _ h => h) (Or.inl ⟨by rfl, ?_⟩) ?_ ?_
     rotate_left
     ·intro w'
      go_simp
      with_reducible rfl
     rotate_left
     ·simp only [Act.put, sA1, sA2, sA3, i64_w, i32_w]
      rfl
     refine pure_ (i := 7) (N := some 23) (v := ?_) (a' := ?_) #[YY,ZZ,YY,ZZ,ZZ,YY,ZZ,YY,ZZ,ZZ,ZZ,ZZ,ZZ] rfl rfl (any_of HT_.out (by kernel_rfl)) (fun _ _ _ h => h) (Or.inl ⟨by rfl, ?_⟩) ?_ ?_
     rotate_left
     ·intro w'
      go_simp
      with_reducible rfl
     rotate_left
     ·simp only [Act.put, sA1, sA2, sA3, i64_w, i32_w]
      rfl
     refine take_ (i := 1) (N := some 17) (v := ?_) (a' := ?_) #[YY,YY,YY,ZZ,ZZ,YY,ZZ,YY,ZZ,ZZ,ZZ,ZZ,ZZ] rfl rfl (take_ofW HT_.out HW_.out (by kernel_rfl)) (fun _ _ _ h => h) (Or.inl ⟨by rfl, ?_⟩) hHeld ?_ ?_
     rotate_left
     ·rintro w' ⟨s0, s1, s2, s3⟩
      go_simp
      with_reducible rfl
     rotate_left
     ·simp only [Act.put, sA1, sA2, sA3, i64_w, i32_w]
      rfl
     refine take_ (i := 3) (N := some 19) (v := ?_) (a' := ?_) #[YY,YY,YY,YY,ZZ,YY,ZZ,YY,ZZ,ZZ,ZZ,ZZ,ZZ] rfl rfl (take_ofW HT_.out HW_.out (by kernel_rfl)) (fun _ _ _ h => h) (Or.inl ⟨by rfl, ?_⟩) hHeld ?_ ?_
     rotate_left
     ·rintro w' ⟨s0, s1, s2, s3⟩
      go_simp
      with_reducible rfl
     rotate_left
     ·simp only [Act.put, sA1, sA2, sA3, i64_w, i32_w]
      rfl
     refine pure_ (i := 4) (N := some 20) (v := ?_) (a' := ?_) #[YY,YY,YY,YY,YY,YY,ZZ,YY,ZZ,ZZ,ZZ,ZZ,ZZ] rfl rfl (any_of HT_.out (by kernel_rfl)) (fun _ _ _ h => h) (Or.inl ⟨by rfl, ?_⟩) ?_ ?_
     rotate_left
     ·intro w'
      go_simp
      with_reducible rfl
     rotate_left
     ·simp only [Act.put, sA1, sA2, sA3, i64_w, i32_w]
      rfl
     refine take_ (i := 6) (N := some 22) (v := ?_) (a' := ?_) #[YY,YY,YY,YY,YY,YY,YY,YY,ZZ,ZZ,ZZ,ZZ,ZZ] rfl rfl (take_ofW HT_.out HW_.out (by kernel_rfl)) (fun _ _ _ h => h) (Or.inl ⟨by rfl, ?_⟩) hHeld ?_ ?_
     rotate_left
     ·rintro w' ⟨s0, s1, s2, s3⟩
      go_simp
      with_reducible rfl
     rotate_left
     ·simp only [Act.put, sA1, sA2, sA3, i64_w, i32_w]
      rfl
     refine take_ (i := 8) (N := some 24) (v := ?_) (a' := ?_) #[YY,YY,YY,YY,YY,YY,YY,YY,YY,ZZ,ZZ,ZZ,ZZ] rfl rfl (take_ofW HT_.out HW_.out (by kernel_rfl)) (fun _ _ _ h => h) (Or.inl ⟨by rfl, ?_⟩) hHeld ?_ ?_
     rotate_left
     ·rintro w' ⟨s0, s1, s2, s3⟩
      go_simp
      with_reducible rfl
     rotate_left
     ·simp only [Act.put, sA1, sA2, sA3, i64_w, i32_w]
      rfl
     refine join_ (σ := Nat) 1 #[YY,YY,YY,YY,YY,YY,YY,YY,YY,YY,YY,YY,ZZ] (fun s_ => [(25, .string t677), (6, .pointer (some ⟨s_, 0, none⟩)), (26, .agg #[.string (mxs a0_0 a1_0), .string t677])]) (fun s_ w' => (w'.cell? ⟨gb672, 0, none⟩ = some (.string a0_0) ∧ w'.cell? ⟨gb672, 1, none⟩ = some (.string a0_1) ∧ w'.cell? ⟨gb673, 0, none⟩ = some (.string a1_0) ∧ w'.cell? ⟨gb673, 1, none⟩ = some (.string a1_1)) ∧ (w'.heap[gb672]? = some (.cells #[.string a0_0, .string a0_1] 38 (0, 0))) ∧ (w'.heap[gb673]? = some (.cells #[.string a1_0, .string a1_1] 38 (0, 0))) ∧ (w'.heap[gb674]? = some (.cells #[.string (⟨#[]⟩ : BA), .string (⟨#[]⟩ : BA)] 38 (0, 0))) ∧ (w'.heap[s_]? = some (.cells #[.string (⟨#[]⟩ : BA), .string (⟨#[]⟩ : BA)] 38 (0, 0))) ∧ (w.heap.size ≤ s_) ∧ (w.heap.size ≤ s_) ∧ (gb672 ≠ s_) ∧ (s_ ≠ gb672) ∧ (gb673 ≠ s_) ∧ (s_ ≠ gb673) ∧ (gb674 ≠ s_) ∧ (s_ ≠ gb674) ∧ (Below w.heap.size w w')) ?_ ?_
     rotate_left
     ·intro hCont
      refine two_ (i := 9) (j := 11) (Ni := some 25) (Nj := some 6) #[YY,YY,YY,YY,YY,YY,YY,YY,YY,YY,ZZ,ZZ,ZZ] #[YY,YY,YY,YY,YY,YY,YY,YY,YY,ZZ,ZZ,YY,ZZ] rfl rfl rfl rfl (two_of HT_.out (by kernel_rfl)) (by decide) (by decide) (fun K hK => ?_) (fun K hK => ?_)
      ·skip
       refine goes_ Try.func103 (by kernel_rfl) rfl #[.string a0_1, .string a1_1] (by rfl) rfl rfl mS_ ?_
       with_reducible refine (key_First.calls a0_1 a1_1 t677 _ A25.out).mono ?_
       rintro e w' ⟨rfl, ⟨nd, rfl⟩⟩
       refine ⟨_, rfl, ?_⟩
       refine hK.out _ _ ⟨(bC BK672.out 0).trans rfl, (bC BK672.out 1).trans rfl, (bC BK673.out 0).trans rfl, (bC BK673.out 1).trans rfl⟩ (fun hHeld => ?_)
       clear hK K
       refine norm_ (a' := ?_) ?_ ?_
       rotate_left
       ·show Act.put _ (some 25) _ = _
        simp only [Act.put, sA1, sA2, sA3, i64_w, i32_w]
        rfl
       refine pure_ (i := 10) (N := some 26) (v := ?_) (a' := ?_) #[YY,YY,YY,YY,YY,YY,YY,YY,YY,YY,YY,ZZ,ZZ] rfl rfl (any_of HT_.out (by kernel_rfl)) (fun _ _ _ h => h) (Or.inl ⟨by rfl, ?_⟩) ?_ ?_
       rotate_left
       ·intro w'
        go_simp
        with_reducible rfl
       rotate_left
       ·simp only [Act.put, sA1, sA2, sA3, i64_w, i32_w]
        rfl
       refine one_ (i := 11) (N := some 6) #[YY,YY,YY,YY,YY,YY,YY,YY,YY,YY,YY,YY,ZZ] rfl rfl (one_of HT_.out (by kernel_rfl)) (by decide) (fun K hK => ?_)
       refine box_step ?hg (N := 6) ?hd (cs := #[.string (⟨#[]⟩ : BA), .string (⟨#[]⟩ : BA)]) (t := 38) ?hr ?_; (case hd => rfl); (case hg => rfl); (case hr => first | (go_simp; done) | (go_simp; rfl))
       intro gb678 hg w29 hbox hb
       have n0_ := Aside0.mk (bB (g := gb672) (o := .cells #[.string a0_0, .string a0_1] 38 (0, 0)) (bX_ BK672.out) hb)
       have n1_ := Aside0.mk (bB (g := gb673) (o := .cells #[.string a1_0, .string a1_1] 38 (0, 0)) (bX_ BK673.out) hb)
       have n2_ := Aside0.mk (bB (g := gb674) (o := .cells #[.string (⟨#[]⟩ : BA), .string (⟨#[]⟩ : BA)] 38 (0, 0)) (bX_ BK674.out) hb)
       have n3_ := Aside0.mk (wT (by repeat (first | (with_reducible first | exact HB.out | apply wA | apply wN | apply w1 | refine wS ?_ GE672.out | refine wS ?_ GE673.out | refine wS ?_ GE674.out) | exact HB.out)) hb)
       have n4_ := Aside0.mk (hbox)
       have n5_ := Aside0.mk ((by rw [hg]; exact (wZ (by repeat (first | (with_reducible first | exact HB.out | apply wA | apply wN | apply w1 | refine wS ?_ GE672.out | refine wS ?_ GE673.out | refine wS ?_ GE674.out) | exact HB.out))) : w.heap.size ≤ gb678))
       have n6_ := Aside0.mk ((by rw [hg]; exact (wZ (by repeat (first | (with_reducible first | exact HB.out | apply wA | apply wN | apply w1 | refine wS ?_ GE672.out | refine wS ?_ GE673.out | refine wS ?_ GE674.out) | exact HB.out))) : w.heap.size ≤ gb678))
       have n7_ := Aside0.mk ((by rw [hg]; exact Nat.ne_of_lt (blk_lt (g := gb672) (o := .cells #[.string a0_0, .string a0_1] 38 (0, 0)) (bX_ BK672.out)) : gb672 ≠ gb678))
       have n8_ := Aside0.mk ((by rw [hg]; exact Nat.ne_of_gt (blk_lt (g := gb672) (o := .cells #[.string a0_0, .string a0_1] 38 (0, 0)) (bX_ BK672.out)) : gb678 ≠ gb672))
       have n9_ := Aside0.mk ((by rw [hg]; exact Nat.ne_of_lt (blk_lt (g := gb673) (o := .cells #[.string a1_0, .string a1_1] 38 (0, 0)) (bX_ BK673.out)) : gb673 ≠ gb678))
       have n10_ := Aside0.mk ((by rw [hg]; exact Nat.ne_of_gt (blk_lt (g := gb673) (o := .cells #[.string a1_0, .string a1_1] 38 (0, 0)) (bX_ BK673.out)) : gb678 ≠ gb673))
       have n11_ := Aside0.mk ((by rw [hg]; exact Nat.ne_of_lt (blk_lt (g := gb674) (o := .cells #[.string (⟨#[]⟩ : BA), .string (⟨#[]⟩ : BA)] 38 (0, 0)) (bX_ BK674.out)) : gb674 ≠ gb678))
       have n12_ := Aside0.mk ((by rw [hg]; exact Nat.ne_of_gt (blk_lt (g := gb674) (o := .cells #[.string (⟨#[]⟩ : BA), .string (⟨#[]⟩ : BA)] 38 (0, 0)) (bX_ BK674.out)) : gb678 ≠ gb674))
       clear BK672
       clear BK673
       clear BK674
       clear HB
       have BK672 := n0_
       have BK673 := n1_
       have BK674 := n2_
       have HB := n3_
       have BK678 := n4_
       have GW678 := n5_
       have GE678 := n6_
       have NB672_678 := n7_
       have NB678_672 := n8_
       have NB673_678 := n9_
       have NB678_673 := n10_
       have NB674_678 := n11_
       have NB678_674 := n12_
       clear n0_ n1_ n2_ n3_ n4_ n5_ n6_ n7_ n8_ n9_ n10_ n11_ n12_
       clear hb hbox hg
       refine hK.out _ _ ⟨(bC BK672.out 0).trans rfl, (bC BK672.out 1).trans rfl, (bC BK673.out 0).trans rfl, (bC BK673.out 1).trans rfl⟩ (fun hHeld => ?_)
       clear hK K
       refine norm_ (a' := ?_) ?_ ?_
       rotate_left
       ·show Act.put _ (some 6) _ = _
        simp only [Act.put, sA1, sA2, sA3, i64_w, i32_w]
        rfl
       exact norm_ (by simp only [putAll, Act.put, sA1, sA2, sA3]) (hCont (gb678) _ ⟨hHeld, (bX_ BK672.out), (bX_ BK673.out), (bX_ BK674.out), (bX_ BK678.out), GW678.out, GE678.out, NB672_678.out, NB678_672.out, NB673_678.out, NB678_673.out, NB674_678.out, NB678_674.out, (by repeat (first | (with_reducible first | exact HB.out | apply wA | apply wN | apply w1 | refine wS ?_ GE672.out | refine wS ?_ GE673.out | refine wS ?_ GE674.out | refine wS ?_ GE678.out) | exact HB.out))⟩)
      ·skip
       refine box_step ?hg (N := 6) ?hd (cs := #[.string (⟨#[]⟩ : BA), .string (⟨#[]⟩ : BA)]) (t := 38) ?hr ?_; (case hd => rfl); (case hg => rfl); (case hr => first | (go_simp; done) | (go_simp; rfl))
       intro gb678 hg w29 hbox hb
       have n0_ := Aside0.mk (bB (g := gb672) (o := .cells #[.string a0_0, .string a0_1] 38 (0, 0)) (bX_ BK672.out) hb)
       have n1_ := Aside0.mk (bB (g := gb673) (o := .cells #[.string a1_0, .string a1_1] 38 (0, 0)) (bX_ BK673.out) hb)
       have n2_ := Aside0.mk (bB (g := gb674) (o := .cells #[.string (⟨#[]⟩ : BA), .string (⟨#[]⟩ : BA)] 38 (0, 0)) (bX_ BK674.out) hb)
       have n3_ := Aside0.mk (wT (by repeat (first | (with_reducible first | exact HB.out | apply wA | apply wN | apply w1 | refine wS ?_ GE672.out | refine wS ?_ GE673.out | refine wS ?_ GE674.out) | exact HB.out)) hb)
       have n4_ := Aside0.mk (hbox)
       have n5_ := Aside0.mk ((by rw [hg]; exact (wZ (by repeat (first | (with_reducible first | exact HB.out | apply wA | apply wN | apply w1 | refine wS ?_ GE672.out | refine wS ?_ GE673.out | refine wS ?_ GE674.out) | exact HB.out))) : w.heap.size ≤ gb678))
       have n6_ := Aside0.mk ((by rw [hg]; exact (wZ (by repeat (first | (with_reducible first | exact HB.out | apply wA | apply wN | apply w1 | refine wS ?_ GE672.out | refine wS ?_ GE673.out | refine wS ?_ GE674.out) | exact HB.out))) : w.heap.size ≤ gb678))
       have n7_ := Aside0.mk ((by rw [hg]; exact Nat.ne_of_lt (blk_lt (g := gb672) (o := .cells #[.string a0_0, .string a0_1] 38 (0, 0)) (bX_ BK672.out)) : gb672 ≠ gb678))
       have n8_ := Aside0.mk ((by rw [hg]; exact Nat.ne_of_gt (blk_lt (g := gb672) (o := .cells #[.string a0_0, .string a0_1] 38 (0, 0)) (bX_ BK672.out)) : gb678 ≠ gb672))
       have n9_ := Aside0.mk ((by rw [hg]; exact Nat.ne_of_lt (blk_lt (g := gb673) (o := .cells #[.string a1_0, .string a1_1] 38 (0, 0)) (bX_ BK673.out)) : gb673 ≠ gb678))
       have n10_ := Aside0.mk ((by rw [hg]; exact Nat.ne_of_gt (blk_lt (g := gb673) (o := .cells #[.string a1_0, .string a1_1] 38 (0, 0)) (bX_ BK673.out)) : gb678 ≠ gb673))
       have n11_ := Aside0.mk ((by rw [hg]; exact Nat.ne_of_lt (blk_lt (g := gb674) (o := .cells #[.string (⟨#[]⟩ : BA), .string (⟨#[]⟩ : BA)] 38 (0, 0)) (bX_ BK674.out)) : gb674 ≠ gb678))
       have n12_ := Aside0.mk ((by rw [hg]; exact Nat.ne_of_gt (blk_lt (g := gb674) (o := .cells #[.string (⟨#[]⟩ : BA), .string (⟨#[]⟩ : BA)] 38 (0, 0)) (bX_ BK674.out)) : gb678 ≠ gb674))
       clear BK672
       clear BK673
       clear BK674
       clear HB
       have BK672 := n0_
       have BK673 := n1_
       have BK674 := n2_
       have HB := n3_
       have BK678 := n4_
       have GW678 := n5_
       have GE678 := n6_
       have NB672_678 := n7_
       have NB678_672 := n8_
       have NB673_678 := n9_
       have NB678_673 := n10_
       have NB674_678 := n11_
       have NB678_674 := n12_
       clear n0_ n1_ n2_ n3_ n4_ n5_ n6_ n7_ n8_ n9_ n10_ n11_ n12_
       clear hb hbox hg
       refine hK.out _ _ ⟨(bC BK672.out 0).trans rfl, (bC BK672.out 1).trans rfl, (bC BK673.out 0).trans rfl, (bC BK673.out 1).trans rfl⟩ (fun hHeld => ?_)
       clear hK K
       refine norm_ (a' := ?_) ?_ ?_
       rotate_left
       ·show Act.put _ (some 6) _ = _
        simp only [Act.put, sA1, sA2, sA3, i64_w, i32_w]
        rfl
       refine one_ (i := 9) (N := some 25) #[YY,YY,YY,YY,YY,YY,YY,YY,YY,YY,ZZ,YY,ZZ] rfl rfl (one_of HT_.out (by kernel_rfl)) (by decide) (fun K hK => ?_)
       refine goes_ Try.func103 (by kernel_rfl) rfl #[.string a0_1, .string a1_1] (by rfl) rfl rfl mS_ ?_
       with_reducible refine (key_First.calls a0_1 a1_1 t677 _ A25.out).mono ?_
       rintro e w' ⟨rfl, ⟨nd, rfl⟩⟩
       refine ⟨_, rfl, ?_⟩
       refine hK.out _ _ ⟨(bC BK672.out 0).trans rfl, (bC BK672.out 1).trans rfl, (bC BK673.out 0).trans rfl, (bC BK673.out 1).trans rfl⟩ (fun hHeld => ?_)
       clear hK K
       refine norm_ (a' := ?_) ?_ ?_
       rotate_left
       ·show Act.put _ (some 25) _ = _
        simp only [Act.put, sA1, sA2, sA3, i64_w, i32_w]
        rfl
       refine pure_ (i := 10) (N := some 26) (v := ?_) (a' := ?_) #[YY,YY,YY,YY,YY,YY,YY,YY,YY,YY,YY,YY,ZZ] rfl rfl (any_of HT_.out (by kernel_rfl)) (fun _ _ _ h => h) (Or.inl ⟨by rfl, ?_⟩) ?_ ?_
       rotate_left
       ·intro w'
        go_simp
        with_reducible rfl
       rotate_left
       ·simp only [Act.put, sA1, sA2, sA3, i64_w, i32_w]
        rfl
       exact norm_ (by simp only [putAll, Act.put, sA1, sA2, sA3]) (hCont (gb678) _ ⟨hHeld, (bX_ BK672.out), (bX_ BK673.out), (bX_ BK674.out), (bX_ BK678.out), GW678.out, GE678.out, NB672_678.out, NB678_672.out, NB673_678.out, NB678_673.out, NB674_678.out, NB678_674.out, (by repeat (first | (with_reducible first | exact HB.out | apply wA | apply wN | apply w1 | refine wS ?_ GE672.out | refine wS ?_ GE673.out | refine wS ?_ GE674.out | refine wS ?_ GE678.out) | exact HB.out))⟩)
     rintro gb678 w30 ⟨hS_, h0_, h1_, h2_, h3_, h4_, h5_, h6_, h7_, h8_, h9_, h10_, h11_, h12_⟩
     have n0_ : Aside0 (w30.heap[gb672]? = some (.cells #[.string a0_0, .string a0_1] 38 (0, 0))) := ⟨h0_⟩
     have n1_ : Aside0 (w30.heap[gb673]? = some (.cells #[.string a1_0, .string a1_1] 38 (0, 0))) := ⟨h1_⟩
     have n2_ : Aside0 (w30.heap[gb674]? = some (.cells #[.string (⟨#[]⟩ : BA), .string (⟨#[]⟩ : BA)] 38 (0, 0))) := ⟨h2_⟩
     have n3_ : Aside0 (w30.heap[gb678]? = some (.cells #[.string (⟨#[]⟩ : BA), .string (⟨#[]⟩ : BA)] 38 (0, 0))) := ⟨h3_⟩
     have n4_ : Aside0 (w.heap.size ≤ gb678) := ⟨h4_⟩
     have n5_ : Aside0 (w.heap.size ≤ gb678) := ⟨h5_⟩
     have n6_ : Aside0 (gb672 ≠ gb678) := ⟨h6_⟩
     have n7_ : Aside0 (gb678 ≠ gb672) := ⟨h7_⟩
     have n8_ : Aside0 (gb673 ≠ gb678) := ⟨h8_⟩
     have n9_ : Aside0 (gb678 ≠ gb673) := ⟨h9_⟩
     have n10_ : Aside0 (gb674 ≠ gb678) := ⟨h10_⟩
     have n11_ : Aside0 (gb678 ≠ gb674) := ⟨h11_⟩
     have n12_ : Aside0 (Below w.heap.size w w30) := ⟨h12_⟩
     clear BK672
     clear BK673
     clear BK674
     clear HB
     clear h0_ h1_ h2_ h3_ h4_ h5_ h6_ h7_ h8_ h9_ h10_ h11_ h12_
     have BK672 := n0_
     have BK673 := n1_
     have BK674 := n2_
     have BK678 := n3_
     have GW678 := n4_
     have GE678 := n5_
     have NB672_678 := n6_
     have NB678_672 := n7_
     have NB673_678 := n8_
     have NB678_673 := n9_
     have NB674_678 := n10_
     have NB678_674 := n11_
     have HB := n12_
     clear n0_ n1_ n2_ n3_ n4_ n5_ n6_ n7_ n8_ n9_ n10_ n11_ n12_
     have hHeld : w30.cell? ⟨gb672, 0, none⟩ = some (.string a0_0) ∧ w30.cell? ⟨gb672, 1, none⟩ = some (.string a0_1) ∧ w30.cell? ⟨gb673, 0, none⟩ = some (.string a1_0) ∧ w30.cell? ⟨gb673, 1, none⟩ = some (.string a1_1) := hS_
     refine norm_ (a' := ?_) ?_ ?_
     rotate_left
     ·simp only [putAll, Act.put, sA1, sA2, sA3]
      rfl
     refine one_ (i := 12) (N := none) #[YY,YY,YY,YY,YY,YY,YY,YY,YY,YY,YY,YY,YY] rfl rfl (one_of HT_.out (by kernel_rfl)) (by decide) (fun K hK => ?_)
     have hs31 : w30.cell? ⟨gb678, 0, none⟩ = some (.string (⟨#[]⟩ : BA)) := (bC BK678.out 0).trans rfl
     have hfs31 := bF BK678.out 0
     have hns31_0 := NB672_678.out
     have hns31_1 := NB673_678.out
     have hns31_2 := NB674_678.out
     have hms31_0 := NB678_672.out
     have hms31_1 := NB678_673.out
     have hms31_2 := NB678_674.out
     have hs32 : w30.cell? ⟨gb678, 1, none⟩ = some (.string (⟨#[]⟩ : BA)) := (bC BK678.out 1).trans rfl
     have hfs32 := bF BK678.out 1
     have hns32_0 := NB672_678.out
     have hns32_1 := NB673_678.out
     have hns32_2 := NB674_678.out
     have hms32_0 := NB678_672.out
     have hms32_1 := NB678_673.out
     have hms32_2 := NB678_674.out
     refine skip_ (w1 := ?_) (by rfl) rfl ?_ ?_
     rotate_left
     ·go_simp
      rfl
     refine hK.out _ _ ⟨((cF (p := ⟨gb678, _, none⟩) NB672_678.out _).trans (((cF (p := ⟨gb678, _, none⟩) NB672_678.out _).trans (hHeld.1)))), ((cF (p := ⟨gb678, _, none⟩) NB672_678.out _).trans (((cF (p := ⟨gb678, _, none⟩) NB672_678.out _).trans (hHeld.2.1)))), ((cF (p := ⟨gb678, _, none⟩) NB673_678.out _).trans (((cF (p := ⟨gb678, _, none⟩) NB673_678.out _).trans (hHeld.2.2.1)))), ((cF (p := ⟨gb678, _, none⟩) NB673_678.out _).trans (((cF (p := ⟨gb678, _, none⟩) NB673_678.out _).trans (hHeld.2.2.2))))⟩ (fun hHeld => ?_)
     clear hK K
     refine done_ (done_of HT_.out (by kernel_rfl)) ?_
     have hnb33 := NB678_672.out
     have hnc33 := NB672_678.out
     have hnb34 := NB678_673.out
     have hnc34 := NB673_678.out
     have hnb35 := NB678_674.out
     have hnc35 := NB674_678.out
     have hcz36_0 : w30.cell? ⟨gb678, 0, none⟩ = some (.string (⟨#[]⟩ : BA)) := (bC BK678.out 0).trans rfl
     have hcz36_1 : w30.cell? ⟨gb678, 1, none⟩ = some (.string (⟨#[]⟩ : BA)) := (bC BK678.out 1).trans rfl
     have hfz36_0 := bF BK678.out 0
     have hfz36_1 := bF BK678.out 1
     try go_wp2_with (first | ((with_reducible refine gate_callee (f := 49) rfl ?_); refine goesL_ (some 28) rfl rfl Try.func49 (by kernel_rfl) rfl #[.agg #[.string (mxs a0_0 a1_0), .string t677]] rfl mS_ ?_; (with_reducible refine (key_RightRange.calls (mxs a0_0 a1_0) t677 true _ A26.out).mono ?_); rintro e w37 ⟨rfl, hb⟩; refine ⟨_, rfl, ?_⟩; have n0_ := Aside0.mk (bB (g := gb672) (o := .cells #[.string a0_0, .string a0_1] 38 (0, 0)) (by (with_reducible repeat (first | refine bN ?_ _ | refine bD ?_ | refine bA ?_ _)); refine bR ?_ NB672_678.out _; (with_reducible repeat (first | refine bN ?_ _ | refine bD ?_ | refine bA ?_ _)); refine bR ?_ NB672_678.out _; (with_reducible repeat (first | refine bN ?_ _ | refine bD ?_ | refine bA ?_ _)); exact BK672.out) hb); have n1_ := Aside0.mk (bB (g := gb673) (o := .cells #[.string a1_0, .string a1_1] 38 (0, 0)) (by (with_reducible repeat (first | refine bN ?_ _ | refine bD ?_ | refine bA ?_ _)); refine bR ?_ NB673_678.out _; (with_reducible repeat (first | refine bN ?_ _ | refine bD ?_ | refine bA ?_ _)); refine bR ?_ NB673_678.out _; (with_reducible repeat (first | refine bN ?_ _ | refine bD ?_ | refine bA ?_ _)); exact BK673.out) hb); have n2_ := Aside0.mk (bB (g := gb674) (o := .cells #[.string (⟨#[]⟩ : BA), .string (⟨#[]⟩ : BA)] 38 (0, 0)) (by (with_reducible repeat (first | refine bN ?_ _ | refine bD ?_ | refine bA ?_ _)); refine bR ?_ NB674_678.out _; (with_reducible repeat (first | refine bN ?_ _ | refine bD ?_ | refine bA ?_ _)); refine bR ?_ NB674_678.out _; (with_reducible repeat (first | refine bN ?_ _ | refine bD ?_ | refine bA ?_ _)); exact BK674.out) hb); have n3_ := Aside0.mk (bB (g := gb678) (o := .cells #[.string (mxs a0_0 a1_0), .string t677] 38 (0, 0)) (by (with_reducible repeat (first | refine bN ?_ _ | refine bD ?_ | refine bA ?_ _)); refine bP (cs := #[.string (mxs a0_0 a1_0), .string (⟨#[]⟩ : BA)]) ?_ 1 _ rfl; (with_reducible repeat (first | refine bN ?_ _ | refine bD ?_ | refine bA ?_ _)); refine bP (cs := #[.string (⟨#[]⟩ : BA), .string (⟨#[]⟩ : BA)]) ?_ 0 _ rfl; (with_reducible repeat (first | refine bN ?_ _ | refine bD ?_ | refine bA ?_ _)); exact BK678.out) hb); have n4_ := Aside0.mk (wT (by repeat (first | (with_reducible first | exact HB.out | apply wA | apply wN | apply w1 | refine wS ?_ GE672.out | refine wS ?_ GE673.out | refine wS ?_ GE674.out | refine wS ?_ GE678.out) | exact HB.out)) hb); clear BK672; clear BK673; clear BK674; clear BK678; clear HB; have BK672 := n0_; have BK673 := n1_; have BK674 := n2_; have BK678 := n3_; have HB := n4_; clear n0_ n1_ n2_ n3_ n4_; (try clear hb); (try clear hb2); (try clear hk); (try clear hi); have hcz38_0 : w37.cell? ⟨gb678, 0, none⟩ = some (.string (mxs a0_0 a1_0)) := (bC BK678.out 0).trans rfl; have hcz38_1 : w37.cell? ⟨gb678, 1, none⟩ = some (.string t677) := (bC BK678.out 1).trans rfl; have hfz38_0 := bF BK678.out 0; have hfz38_1 := bF BK678.out 1; have hnb39 := NB674_672.out; have hnc39 := NB672_674.out; have hnb40 := NB674_673.out; have hnc40 := NB673_674.out; have hcz41_0 : w37.cell? ⟨gb674, 0, none⟩ = some (.string (⟨#[]⟩ : BA)) := (bC BK674.out 0).trans rfl; have hcz41_1 : w37.cell? ⟨gb674, 1, none⟩ = some (.string (⟨#[]⟩ : BA)) := (bC BK674.out 1).trans rfl; have hfz41_0 := bF BK674.out 0; have hfz41_1 := bF BK674.out 1))
     refine bodyPost_ret (results_ct rfl _ _ gb674 38 #[.string (mxs a0_0 a1_0), .string t677] (0, 0) _ rfl (by (with_reducible repeat (first | refine bN ?_ _ | refine bD ?_ | refine bA ?_ _)); refine bP (cs := #[.string (mxs a0_0 a1_0), .string (⟨#[]⟩ : BA)]) ?_ 1 _ rfl; (with_reducible repeat (first | refine bN ?_ _ | refine bD ?_ | refine bA ?_ _)); refine bP (cs := #[.string (⟨#[]⟩ : BA), .string (⟨#[]⟩ : BA)]) ?_ 0 _ rfl; (with_reducible repeat (first | refine bN ?_ _ | refine bD ?_ | refine bA ?_ _)); exact BK674.out) Try.underlying38 rfl (by kernel_rfl)) rfl ?_
     exact ⟨by first | rfl | (simp [errW_none, errW_some] <;> rfl) | (simp [*, errW_none, errW_some] <;> rfl), by repeat (first | (with_reducible first | exact HB.out | apply wA | apply wN | apply w1 | refine wS ?_ GE672.out | refine wS ?_ GE673.out | refine wS ?_ GE674.out | refine wS ?_ GE678.out) | exact HB.out)⟩
    ·replace c27 := Bool.eq_false_iff.mpr c27
     subst c27
     have H1 : (some ((⟨#[]⟩ : BA), (⟨#[]⟩ : BA), false)) = some (r1, r2, r3) := by rw [if_neg (show ¬ (false = true) by decide)] at H; exact H
     clear H
     have H := H1
     clear H1
     simp only [Option.some.injEq, Prod.mk.injEq] at H
     obtain ⟨rfl, rfl, rfl⟩ := H
     try go_wp2
     have n0_ := Aside0.mk (bD BK672.out)
     have n1_ := Aside0.mk (bD BK673.out)
     have n2_ := Aside0.mk (bD BK674.out)
     have n3_ := Aside0.mk (w1 HB.out)
     clear BK672
     clear BK673
     clear BK674
     clear HB
     have BK672 := n0_
     have BK673 := n1_
     have BK674 := n2_
     have HB := n3_
     clear n0_ n1_ n2_ n3_
     refine start_ (n := 13) (S := fun w' => w'.cell? ⟨gb672, 0, none⟩ = some (.string a0_0) ∧ w'.cell? ⟨gb672, 1, none⟩ = some (.string a0_1) ∧ w'.cell? ⟨gb673, 0, none⟩ = some (.string a1_0) ∧ w'.cell? ⟨gb673, 1, none⟩ = some (.string a1_1)) (ds := []) #[ZZ,ZZ,ZZ,ZZ,ZZ,ZZ,ZZ,ZZ,ZZ,ZZ,ZZ,ZZ,ZZ] (by kernel_rfl) rfl rfl ⟨(bC BK672.out 0).trans rfl, (bC BK672.out 1).trans rfl, (bC BK673.out 0).trans rfl, (bC BK673.out 1).trans rfl⟩ (fun hHeld => ?_); refine with_tabW key_Meet.tab3 key_Meet.bits3 (fun HT_ HW_ => ?_)
     generalize wc.drew = w42 at BK672 BK673 BK674 HB hHeld ⊢
     refine pure_ (i := 0) (N := some 16) (v := ?_) (a' := ?_) #[YY,ZZ,ZZ,ZZ,ZZ,ZZ,ZZ,ZZ,ZZ,ZZ,ZZ,ZZ,ZZ] rfl rfl (any_of HT_.out (by kernel_rfl)) (fun _ _ _ h => h) (Or.inl ⟨by rfl, ?_⟩) ?_ ?_
     rotate_left
     ·intro w'
      go_simp
      with_reducible rfl
     rotate_left
     ·simp only [Act.put, sA1, sA2, sA3, i64_w, i32_w]
      rfl
     refine pure_ (i := 2) (N := some 18) (v := ?_) (a' := ?_) #[YY,ZZ,YY,ZZ,ZZ,ZZ,ZZ,ZZ,ZZ,ZZ,ZZ,ZZ,ZZ] rfl rfl (any_of HT_.out (by kernel_rfl)) (fun _ _ _ h => h) (Or.inl ⟨by rfl, ?_⟩) ?_ ?_
     rotate_left
     ·intro w'
      go_simp
      with_reducible rfl
     rotate_left
     ·simp only [Act.put, sA1, sA2, sA3, i64_w, i32_w]
      rfl
     refine pure_ (i := 5) (N := some 21) (v := ?_) (a' := ?_) #[YY,ZZ,YY,ZZ,ZZ,YY,ZZ,ZZ,ZZ,ZZ,ZZ,ZZ,ZZ] rfl rfl (any_of HT_.out (by kernel_rfl)) (fun _ _ _ h => h) (Or.inl ⟨by rfl, ?_⟩) ?_ ?_
     rotate_left
     ·intro w'
      go_simp
      with_reducible rfl
     rotate_left
     ·simp only [Act.put, sA1, sA2, sA3, i64_w, i32_w]
      rfl
     refine pure_ (i := 7) (N := some 23) (v := ?_) (a' := ?_) #[YY,ZZ,YY,ZZ,ZZ,YY,ZZ,YY,ZZ,ZZ,ZZ,ZZ,ZZ] rfl rfl (any_of HT_.out (by kernel_rfl)) (fun _ _ _ h => h) (Or.inl ⟨by rfl, ?_⟩) ?_ ?_
     rotate_left
     ·intro w'
      go_simp
      with_reducible rfl
     rotate_left
     ·simp only [Act.put, sA1, sA2, sA3, i64_w, i32_w]
      rfl
     refine take_ (i := 1) (N := some 17) (v := ?_) (a' := ?_) #[YY,YY,YY,ZZ,ZZ,YY,ZZ,YY,ZZ,ZZ,ZZ,ZZ,ZZ] rfl rfl (take_ofW HT_.out HW_.out (by kernel_rfl)) (fun _ _ _ h => h) (Or.inl ⟨by rfl, ?_⟩) hHeld ?_ ?_
     rotate_left
     ·rintro w' ⟨s0, s1, s2, s3⟩
      go_simp
      with_reducible rfl
     rotate_left
     ·simp only [Act.put, sA1, sA2, sA3, i64_w, i32_w]
      rfl
     refine take_ (i := 3) (N := some 19) (v := ?_) (a' := ?_) #[YY,YY,YY,YY,ZZ,YY,ZZ,YY,ZZ,ZZ,ZZ,ZZ,ZZ] rfl rfl (take_ofW HT_.out HW_.out (by kernel_rfl)) (fun _ _ _ h => h) (Or.inl ⟨by rfl, ?_⟩) hHeld ?_ ?_
     rotate_left
     ·rintro w' ⟨s0, s1, s2, s3⟩
      go_simp
      with_reducible rfl
     rotate_left
     ·simp only [Act.put, sA1, sA2, sA3, i64_w, i32_w]
      rfl
     refine pure_ (i := 4) (N := some 20) (v := ?_) (a' := ?_) #[YY,YY,YY,YY,YY,YY,ZZ,YY,ZZ,ZZ,ZZ,ZZ,ZZ] rfl rfl (any_of HT_.out (by kernel_rfl)) (fun _ _ _ h => h) (Or.inl ⟨by rfl, ?_⟩) ?_ ?_
     rotate_left
     ·intro w'
      go_simp
      with_reducible rfl
     rotate_left
     ·simp only [Act.put, sA1, sA2, sA3, i64_w, i32_w]
      rfl
     refine take_ (i := 6) (N := some 22) (v := ?_) (a' := ?_) #[YY,YY,YY,YY,YY,YY,YY,YY,ZZ,ZZ,ZZ,ZZ,ZZ] rfl rfl (take_ofW HT_.out HW_.out (by kernel_rfl)) (fun _ _ _ h => h) (Or.inl ⟨by rfl, ?_⟩) hHeld ?_ ?_
     rotate_left
     ·rintro w' ⟨s0, s1, s2, s3⟩
      go_simp
      with_reducible rfl
     rotate_left
     ·simp only [Act.put, sA1, sA2, sA3, i64_w, i32_w]
      rfl
     refine take_ (i := 8) (N := some 24) (v := ?_) (a' := ?_) #[YY,YY,YY,YY,YY,YY,YY,YY,YY,ZZ,ZZ,ZZ,ZZ] rfl rfl (take_ofW HT_.out HW_.out (by kernel_rfl)) (fun _ _ _ h => h) (Or.inl ⟨by rfl, ?_⟩) hHeld ?_ ?_
     rotate_left
     ·rintro w' ⟨s0, s1, s2, s3⟩
      go_simp
      with_reducible rfl
     rotate_left
     ·simp only [Act.put, sA1, sA2, sA3, i64_w, i32_w]
      rfl
     refine join_ (σ := Nat) 1 #[YY,YY,YY,YY,YY,YY,YY,YY,YY,YY,YY,YY,ZZ] (fun s_ => [(25, .string t677), (6, .pointer (some ⟨s_, 0, none⟩)), (26, .agg #[.string (mxs a0_0 a1_0), .string t677])]) (fun s_ w' => (w'.cell? ⟨gb672, 0, none⟩ = some (.string a0_0) ∧ w'.cell? ⟨gb672, 1, none⟩ = some (.string a0_1) ∧ w'.cell? ⟨gb673, 0, none⟩ = some (.string a1_0) ∧ w'.cell? ⟨gb673, 1, none⟩ = some (.string a1_1)) ∧ (w'.heap[gb672]? = some (.cells #[.string a0_0, .string a0_1] 38 (0, 0))) ∧ (w'.heap[gb673]? = some (.cells #[.string a1_0, .string a1_1] 38 (0, 0))) ∧ (w'.heap[gb674]? = some (.cells #[.string (⟨#[]⟩ : BA), .string (⟨#[]⟩ : BA)] 38 (0, 0))) ∧ (w'.heap[s_]? = some (.cells #[.string (⟨#[]⟩ : BA), .string (⟨#[]⟩ : BA)] 38 (0, 0))) ∧ (w.heap.size ≤ s_) ∧ (w.heap.size ≤ s_) ∧ (gb672 ≠ s_) ∧ (s_ ≠ gb672) ∧ (gb673 ≠ s_) ∧ (s_ ≠ gb673) ∧ (gb674 ≠ s_) ∧ (s_ ≠ gb674) ∧ (Below w.heap.size w w')) ?_ ?_
     rotate_left
     ·intro hCont
      refine two_ (i := 9) (j := 11) (Ni := some 25) (Nj := some 6) #[YY,YY,YY,YY,YY,YY,YY,YY,YY,YY,ZZ,ZZ,ZZ] #[YY,YY,YY,YY,YY,YY,YY,YY,YY,ZZ,ZZ,YY,ZZ] rfl rfl rfl rfl (two_of HT_.out (by kernel_rfl)) (by decide) (by decide) (fun K hK => ?_) (fun K hK => ?_)
      ·skip
       refine goes_ Try.func103 (by kernel_rfl) rfl #[.string a0_1, .string a1_1] (by rfl) rfl rfl mS_ ?_
       with_reducible refine (key_First.calls a0_1 a1_1 t677 _ A25.out).mono ?_
       rintro e w' ⟨rfl, ⟨nd, rfl⟩⟩
       refine ⟨_, rfl, ?_⟩
       refine hK.out _ _ ⟨(bC BK672.out 0).trans rfl, (bC BK672.out 1).trans rfl, (bC BK673.out 0).trans rfl, (bC BK673.out 1).trans rfl⟩ (fun hHeld => ?_)
       clear hK K
       refine norm_ (a' := ?_) ?_ ?_
       rotate_left
       ·show Act.put _ (some 25) _ = _
        simp only [Act.put, sA1, sA2, sA3, i64_w, i32_w]
        rfl
       refine pure_ (i := 10) (N := some 26) (v := ?_) (a' := ?_) #[YY,YY,YY,YY,YY,YY,YY,YY,YY,YY,YY,ZZ,ZZ] rfl rfl (any_of HT_.out (by kernel_rfl)) (fun _ _ _ h => h) (Or.inl ⟨by rfl, ?_⟩) ?_ ?_
       rotate_left
       ·intro w'
        go_simp
        with_reducible rfl
       rotate_left
       ·simp only [Act.put, sA1, sA2, sA3, i64_w, i32_w]
        rfl
       refine one_ (i := 11) (N := some 6) #[YY,YY,YY,YY,YY,YY,YY,YY,YY,YY,YY,YY,ZZ] rfl rfl (one_of HT_.out (by kernel_rfl)) (by decide) (fun K hK => ?_)
       refine box_step ?hg (N := 6) ?hd (cs := #[.string (⟨#[]⟩ : BA), .string (⟨#[]⟩ : BA)]) (t := 38) ?hr ?_; (case hd => rfl); (case hg => rfl); (case hr => first | (go_simp; done) | (go_simp; rfl))
       intro gb678 hg w43 hbox hb
       have n0_ := Aside0.mk (bB (g := gb672) (o := .cells #[.string a0_0, .string a0_1] 38 (0, 0)) (bX_ BK672.out) hb)
       have n1_ := Aside0.mk (bB (g := gb673) (o := .cells #[.string a1_0, .string a1_1] 38 (0, 0)) (bX_ BK673.out) hb)
       have n2_ := Aside0.mk (bB (g := gb674) (o := .cells #[.string (⟨#[]⟩ : BA), .string (⟨#[]⟩ : BA)] 38 (0, 0)) (bX_ BK674.out) hb)
       have n3_ := Aside0.mk (wT (by repeat (first | (with_reducible first | exact HB.out | apply wA | apply wN | apply w1 | refine wS ?_ GE672.out | refine wS ?_ GE673.out | refine wS ?_ GE674.out) | exact HB.out)) hb)
       have n4_ := Aside0.mk (hbox)
       have n5_ := Aside0.mk ((by rw [hg]; exact (wZ (by repeat (first | (with_reducible first | exact HB.out | apply wA | apply wN | apply w1 | refine wS ?_ GE672.out | refine wS ?_ GE673.out | refine wS ?_ GE674.out) | exact HB.out))) : w.heap.size ≤ gb678))
       have n6_ := Aside0.mk ((by rw [hg]; exact (wZ (by repeat (first | (with_reducible first | exact HB.out | apply wA | apply wN | apply w1 | refine wS ?_ GE672.out | refine wS ?_ GE673.out | refine wS ?_ GE674.out) | exact HB.out))) : w.heap.size ≤ gb678))
       have n7_ := Aside0.mk ((by rw [hg]; exact Nat.ne_of_lt (blk_lt (g := gb672) (o := .cells #[.string a0_0, .string a0_1] 38 (0, 0)) (bX_ BK672.out)) : gb672 ≠ gb678))
       have n8_ := Aside0.mk ((by rw [hg]; exact Nat.ne_of_gt (blk_lt (g := gb672) (o := .cells #[.string a0_0, .string a0_1] 38 (0, 0)) (bX_ BK672.out)) : gb678 ≠ gb672))
       have n9_ := Aside0.mk ((by rw [hg]; exact Nat.ne_of_lt (blk_lt (g := gb673) (o := .cells #[.string a1_0, .string a1_1] 38 (0, 0)) (bX_ BK673.out)) : gb673 ≠ gb678))
       have n10_ := Aside0.mk ((by rw [hg]; exact Nat.ne_of_gt (blk_lt (g := gb673) (o := .cells #[.string a1_0, .string a1_1] 38 (0, 0)) (bX_ BK673.out)) : gb678 ≠ gb673))
       have n11_ := Aside0.mk ((by rw [hg]; exact Nat.ne_of_lt (blk_lt (g := gb674) (o := .cells #[.string (⟨#[]⟩ : BA), .string (⟨#[]⟩ : BA)] 38 (0, 0)) (bX_ BK674.out)) : gb674 ≠ gb678))
       have n12_ := Aside0.mk ((by rw [hg]; exact Nat.ne_of_gt (blk_lt (g := gb674) (o := .cells #[.string (⟨#[]⟩ : BA), .string (⟨#[]⟩ : BA)] 38 (0, 0)) (bX_ BK674.out)) : gb678 ≠ gb674))
       clear BK672
       clear BK673
       clear BK674
       clear HB
       have BK672 := n0_
       have BK673 := n1_
       have BK674 := n2_
       have HB := n3_
       have BK678 := n4_
       have GW678 := n5_
       have GE678 := n6_
       have NB672_678 := n7_
       have NB678_672 := n8_
       have NB673_678 := n9_
       have NB678_673 := n10_
       have NB674_678 := n11_
       have NB678_674 := n12_
       clear n0_ n1_ n2_ n3_ n4_ n5_ n6_ n7_ n8_ n9_ n10_ n11_ n12_
       clear hb hbox hg
       refine hK.out _ _ ⟨(bC BK672.out 0).trans rfl, (bC BK672.out 1).trans rfl, (bC BK673.out 0).trans rfl, (bC BK673.out 1).trans rfl⟩ (fun hHeld => ?_)
       clear hK K
       refine norm_ (a' := ?_) ?_ ?_
       rotate_left
       ·show Act.put _ (some 6) _ = _
        simp only [Act.put, sA1, sA2, sA3, i64_w, i32_w]
        rfl
       exact norm_ (by simp only [putAll, Act.put, sA1, sA2, sA3]) (hCont (gb678) _ ⟨hHeld, (bX_ BK672.out), (bX_ BK673.out), (bX_ BK674.out), (bX_ BK678.out), GW678.out, GE678.out, NB672_678.out, NB678_672.out, NB673_678.out, NB678_673.out, NB674_678.out, NB678_674.out, (by repeat (first | (with_reducible first | exact HB.out | apply wA | apply wN | apply w1 | refine wS ?_ GE672.out | refine wS ?_ GE673.out | refine wS ?_ GE674.out | refine wS ?_ GE678.out) | exact HB.out))⟩)
      ·skip
       refine box_step ?hg (N := 6) ?hd (cs := #[.string (⟨#[]⟩ : BA), .string (⟨#[]⟩ : BA)]) (t := 38) ?hr ?_; (case hd => rfl); (case hg => rfl); (case hr => first | (go_simp; done) | (go_simp; rfl))
       intro gb678 hg w43 hbox hb
       have n0_ := Aside0.mk (bB (g := gb672) (o := .cells #[.string a0_0, .string a0_1] 38 (0, 0)) (bX_ BK672.out) hb)
       have n1_ := Aside0.mk (bB (g := gb673) (o := .cells #[.string a1_0, .string a1_1] 38 (0, 0)) (bX_ BK673.out) hb)
       have n2_ := Aside0.mk (bB (g := gb674) (o := .cells #[.string (⟨#[]⟩ : BA), .string (⟨#[]⟩ : BA)] 38 (0, 0)) (bX_ BK674.out) hb)
       have n3_ := Aside0.mk (wT (by repeat (first | (with_reducible first | exact HB.out | apply wA | apply wN | apply w1 | refine wS ?_ GE672.out | refine wS ?_ GE673.out | refine wS ?_ GE674.out) | exact HB.out)) hb)
       have n4_ := Aside0.mk (hbox)
       have n5_ := Aside0.mk ((by rw [hg]; exact (wZ (by repeat (first | (with_reducible first | exact HB.out | apply wA | apply wN | apply w1 | refine wS ?_ GE672.out | refine wS ?_ GE673.out | refine wS ?_ GE674.out) | exact HB.out))) : w.heap.size ≤ gb678))
       have n6_ := Aside0.mk ((by rw [hg]; exact (wZ (by repeat (first | (with_reducible first | exact HB.out | apply wA | apply wN | apply w1 | refine wS ?_ GE672.out | refine wS ?_ GE673.out | refine wS ?_ GE674.out) | exact HB.out))) : w.heap.size ≤ gb678))
       have n7_ := Aside0.mk ((by rw [hg]; exact Nat.ne_of_lt (blk_lt (g := gb672) (o := .cells #[.string a0_0, .string a0_1] 38 (0, 0)) (bX_ BK672.out)) : gb672 ≠ gb678))
       have n8_ := Aside0.mk ((by rw [hg]; exact Nat.ne_of_gt (blk_lt (g := gb672) (o := .cells #[.string a0_0, .string a0_1] 38 (0, 0)) (bX_ BK672.out)) : gb678 ≠ gb672))
       have n9_ := Aside0.mk ((by rw [hg]; exact Nat.ne_of_lt (blk_lt (g := gb673) (o := .cells #[.string a1_0, .string a1_1] 38 (0, 0)) (bX_ BK673.out)) : gb673 ≠ gb678))
       have n10_ := Aside0.mk ((by rw [hg]; exact Nat.ne_of_gt (blk_lt (g := gb673) (o := .cells #[.string a1_0, .string a1_1] 38 (0, 0)) (bX_ BK673.out)) : gb678 ≠ gb673))
       have n11_ := Aside0.mk ((by rw [hg]; exact Nat.ne_of_lt (blk_lt (g := gb674) (o := .cells #[.string (⟨#[]⟩ : BA), .string (⟨#[]⟩ : BA)] 38 (0, 0)) (bX_ BK674.out)) : gb674 ≠ gb678))
       have n12_ := Aside0.mk ((by rw [hg]; exact Nat.ne_of_gt (blk_lt (g := gb674) (o := .cells #[.string (⟨#[]⟩ : BA), .string (⟨#[]⟩ : BA)] 38 (0, 0)) (bX_ BK674.out)) : gb678 ≠ gb674))
       clear BK672
       clear BK673
       clear BK674
       clear HB
       have BK672 := n0_
       have BK673 := n1_
       have BK674 := n2_
       have HB := n3_
       have BK678 := n4_
       have GW678 := n5_
       have GE678 := n6_
       have NB672_678 := n7_
       have NB678_672 := n8_
       have NB673_678 := n9_
       have NB678_673 := n10_
       have NB674_678 := n11_
       have NB678_674 := n12_
       clear n0_ n1_ n2_ n3_ n4_ n5_ n6_ n7_ n8_ n9_ n10_ n11_ n12_
       clear hb hbox hg
       refine hK.out _ _ ⟨(bC BK672.out 0).trans rfl, (bC BK672.out 1).trans rfl, (bC BK673.out 0).trans rfl, (bC BK673.out 1).trans rfl⟩ (fun hHeld => ?_)
       clear hK K
       refine norm_ (a' := ?_) ?_ ?_
       rotate_left
       ·show Act.put _ (some 6) _ = _
        simp only [Act.put, sA1, sA2, sA3, i64_w, i32_w]
        rfl
       refine one_ (i := 9) (N := some 25) #[YY,YY,YY,YY,YY,YY,YY,YY,YY,YY,ZZ,YY,ZZ] rfl rfl (one_of HT_.out (by kernel_rfl)) (by decide) (fun K hK => ?_)
       refine goes_ Try.func103 (by kernel_rfl) rfl #[.string a0_1, .string a1_1] (by rfl) rfl rfl mS_ ?_
       with_reducible refine (key_First.calls a0_1 a1_1 t677 _ A25.out).mono ?_
       rintro e w' ⟨rfl, ⟨nd, rfl⟩⟩
       refine ⟨_, rfl, ?_⟩
       refine hK.out _ _ ⟨(bC BK672.out 0).trans rfl, (bC BK672.out 1).trans rfl, (bC BK673.out 0).trans rfl, (bC BK673.out 1).trans rfl⟩ (fun hHeld => ?_)
       clear hK K
       refine norm_ (a' := ?_) ?_ ?_
       rotate_left
       ·show Act.put _ (some 25) _ = _
        simp only [Act.put, sA1, sA2, sA3, i64_w, i32_w]
        rfl
       refine pure_ (i := 10) (N := some 26) (v := ?_) (a' := ?_) #[YY,YY,YY,YY,YY,YY,YY,YY,YY,YY,YY,YY,ZZ] rfl rfl (any_of HT_.out (by kernel_rfl)) (fun _ _ _ h => h) (Or.inl ⟨by rfl, ?_⟩) ?_ ?_
       rotate_left
       ·intro w'
        go_simp
        with_reducible rfl
       rotate_left
       ·simp only [Act.put, sA1, sA2, sA3, i64_w, i32_w]
        rfl
       exact norm_ (by simp only [putAll, Act.put, sA1, sA2, sA3]) (hCont (gb678) _ ⟨hHeld, (bX_ BK672.out), (bX_ BK673.out), (bX_ BK674.out), (bX_ BK678.out), GW678.out, GE678.out, NB672_678.out, NB678_672.out, NB673_678.out, NB678_673.out, NB674_678.out, NB678_674.out, (by repeat (first | (with_reducible first | exact HB.out | apply wA | apply wN | apply w1 | refine wS ?_ GE672.out | refine wS ?_ GE673.out | refine wS ?_ GE674.out | refine wS ?_ GE678.out) | exact HB.out))⟩)
     rintro gb678 w44 ⟨hS_, h0_, h1_, h2_, h3_, h4_, h5_, h6_, h7_, h8_, h9_, h10_, h11_, h12_⟩
     have n0_ : Aside0 (w44.heap[gb672]? = some (.cells #[.string a0_0, .string a0_1] 38 (0, 0))) := ⟨h0_⟩
     have n1_ : Aside0 (w44.heap[gb673]? = some (.cells #[.string a1_0, .string a1_1] 38 (0, 0))) := ⟨h1_⟩
     have n2_ : Aside0 (w44.heap[gb674]? = some (.cells #[.string (⟨#[]⟩ : BA), .string (⟨#[]⟩ : BA)] 38 (0, 0))) := ⟨h2_⟩
     have n3_ : Aside0 (w44.heap[gb678]? = some (.cells #[.string (⟨#[]⟩ : BA), .string (⟨#[]⟩ : BA)] 38 (0, 0))) := ⟨h3_⟩
     have n4_ : Aside0 (w.heap.size ≤ gb678) := ⟨h4_⟩
     have n5_ : Aside0 (w.heap.size ≤ gb678) := ⟨h5_⟩
     have n6_ : Aside0 (gb672 ≠ gb678) := ⟨h6_⟩
     have n7_ : Aside0 (gb678 ≠ gb672) := ⟨h7_⟩
     have n8_ : Aside0 (gb673 ≠ gb678) := ⟨h8_⟩
     have n9_ : Aside0 (gb678 ≠ gb673) := ⟨h9_⟩
     have n10_ : Aside0 (gb674 ≠ gb678) := ⟨h10_⟩
     have n11_ : Aside0 (gb678 ≠ gb674) := ⟨h11_⟩
     have n12_ : Aside0 (Below w.heap.size w w44) := ⟨h12_⟩
     clear BK672
     clear BK673
     clear BK674
     clear HB
     clear h0_ h1_ h2_ h3_ h4_ h5_ h6_ h7_ h8_ h9_ h10_ h11_ h12_
     have BK672 := n0_
     have BK673 := n1_
     have BK674 := n2_
     have BK678 := n3_
     have GW678 := n4_
     have GE678 := n5_
     have NB672_678 := n6_
     have NB678_672 := n7_
     have NB673_678 := n8_
     have NB678_673 := n9_
     have NB674_678 := n10_
     have NB678_674 := n11_
     have HB := n12_
     clear n0_ n1_ n2_ n3_ n4_ n5_ n6_ n7_ n8_ n9_ n10_ n11_ n12_
     have hHeld : w44.cell? ⟨gb672, 0, none⟩ = some (.string a0_0) ∧ w44.cell? ⟨gb672, 1, none⟩ = some (.string a0_1) ∧ w44.cell? ⟨gb673, 0, none⟩ = some (.string a1_0) ∧ w44.cell? ⟨gb673, 1, none⟩ = some (.string a1_1) := hS_
     refine norm_ (a' := ?_) ?_ ?_
     rotate_left
     ·simp only [putAll, Act.put, sA1, sA2, sA3]
      rfl
     refine one_ (i := 12) (N := none) #[YY,YY,YY,YY,YY,YY,YY,YY,YY,YY,YY,YY,YY] rfl rfl (one_of HT_.out (by kernel_rfl)) (by decide) (fun K hK => ?_)
     have hs45 : w44.cell? ⟨gb678, 0, none⟩ = some (.string (⟨#[]⟩ : BA)) := (bC BK678.out 0).trans rfl
     have hfs45 := bF BK678.out 0
     have hns45_0 := NB672_678.out
     have hns45_1 := NB673_678.out
     have hns45_2 := NB674_678.out
     have hms45_0 := NB678_672.out
     have hms45_1 := NB678_673.out
     have hms45_2 := NB678_674.out
     have hs46 : w44.cell? ⟨gb678, 1, none⟩ = some (.string (⟨#[]⟩ : BA)) := (bC BK678.out 1).trans rfl
     have hfs46 := bF BK678.out 1
     have hns46_0 := NB672_678.out
     have hns46_1 := NB673_678.out
     have hns46_2 := NB674_678.out
     have hms46_0 := NB678_672.out
     have hms46_1 := NB678_673.out
     have hms46_2 := NB678_674.out
     refine skip_ (w1 := ?_) (by rfl) rfl ?_ ?_
     rotate_left
     ·go_simp
      rfl
     refine hK.out _ _ ⟨((cF (p := ⟨gb678, _, none⟩) NB672_678.out _).trans (((cF (p := ⟨gb678, _, none⟩) NB672_678.out _).trans (hHeld.1)))), ((cF (p := ⟨gb678, _, none⟩) NB672_678.out _).trans (((cF (p := ⟨gb678, _, none⟩) NB672_678.out _).trans (hHeld.2.1)))), ((cF (p := ⟨gb678, _, none⟩) NB673_678.out _).trans (((cF (p := ⟨gb678, _, none⟩) NB673_678.out _).trans (hHeld.2.2.1)))), ((cF (p := ⟨gb678, _, none⟩) NB673_678.out _).trans (((cF (p := ⟨gb678, _, none⟩) NB673_678.out _).trans (hHeld.2.2.2))))⟩ (fun hHeld => ?_)
     clear hK K
     refine done_ (done_of HT_.out (by kernel_rfl)) ?_
     have hnb47 := NB678_672.out
     have hnc47 := NB672_678.out
     have hnb48 := NB678_673.out
     have hnc48 := NB673_678.out
     have hnb49 := NB678_674.out
     have hnc49 := NB674_678.out
     have hcz50_0 : w44.cell? ⟨gb678, 0, none⟩ = some (.string (⟨#[]⟩ : BA)) := (bC BK678.out 0).trans rfl
     have hcz50_1 : w44.cell? ⟨gb678, 1, none⟩ = some (.string (⟨#[]⟩ : BA)) := (bC BK678.out 1).trans rfl
     have hfz50_0 := bF BK678.out 0
     have hfz50_1 := bF BK678.out 1
     try go_wp2_with (first | ((with_reducible refine gate_callee (f := 49) rfl ?_); refine goesL_ (some 28) rfl rfl Try.func49 (by kernel_rfl) rfl #[.agg #[.string (mxs a0_0 a1_0), .string t677]] rfl mS_ ?_; (with_reducible refine (key_RightRange.calls (mxs a0_0 a1_0) t677 false _ A26.out).mono ?_); rintro e w51 ⟨rfl, hb⟩; refine ⟨_, rfl, ?_⟩; have n0_ := Aside0.mk (bB (g := gb672) (o := .cells #[.string a0_0, .string a0_1] 38 (0, 0)) (by (with_reducible repeat (first | refine bN ?_ _ | refine bD ?_ | refine bA ?_ _)); refine bR ?_ NB672_678.out _; (with_reducible repeat (first | refine bN ?_ _ | refine bD ?_ | refine bA ?_ _)); refine bR ?_ NB672_678.out _; (with_reducible repeat (first | refine bN ?_ _ | refine bD ?_ | refine bA ?_ _)); exact BK672.out) hb); have n1_ := Aside0.mk (bB (g := gb673) (o := .cells #[.string a1_0, .string a1_1] 38 (0, 0)) (by (with_reducible repeat (first | refine bN ?_ _ | refine bD ?_ | refine bA ?_ _)); refine bR ?_ NB673_678.out _; (with_reducible repeat (first | refine bN ?_ _ | refine bD ?_ | refine bA ?_ _)); refine bR ?_ NB673_678.out _; (with_reducible repeat (first | refine bN ?_ _ | refine bD ?_ | refine bA ?_ _)); exact BK673.out) hb); have n2_ := Aside0.mk (bB (g := gb674) (o := .cells #[.string (⟨#[]⟩ : BA), .string (⟨#[]⟩ : BA)] 38 (0, 0)) (by (with_reducible repeat (first | refine bN ?_ _ | refine bD ?_ | refine bA ?_ _)); refine bR ?_ NB674_678.out _; (with_reducible repeat (first | refine bN ?_ _ | refine bD ?_ | refine bA ?_ _)); refine bR ?_ NB674_678.out _; (with_reducible repeat (first | refine bN ?_ _ | refine bD ?_ | refine bA ?_ _)); exact BK674.out) hb); have n3_ := Aside0.mk (bB (g := gb678) (o := .cells #[.string (mxs a0_0 a1_0), .string t677] 38 (0, 0)) (by (with_reducible repeat (first | refine bN ?_ _ | refine bD ?_ | refine bA ?_ _)); refine bP (cs := #[.string (mxs a0_0 a1_0), .string (⟨#[]⟩ : BA)]) ?_ 1 _ rfl; (with_reducible repeat (first | refine bN ?_ _ | refine bD ?_ | refine bA ?_ _)); refine bP (cs := #[.string (⟨#[]⟩ : BA), .string (⟨#[]⟩ : BA)]) ?_ 0 _ rfl; (with_reducible repeat (first | refine bN ?_ _ | refine bD ?_ | refine bA ?_ _)); exact BK678.out) hb); have n4_ := Aside0.mk (wT (by repeat (first | (with_reducible first | exact HB.out | apply wA | apply wN | apply w1 | refine wS ?_ GE672.out | refine wS ?_ GE673.out | refine wS ?_ GE674.out | refine wS ?_ GE678.out) | exact HB.out)) hb); clear BK672; clear BK673; clear BK674; clear BK678; clear HB; have BK672 := n0_; have BK673 := n1_; have BK674 := n2_; have BK678 := n3_; have HB := n4_; clear n0_ n1_ n2_ n3_ n4_; (try clear hb); (try clear hb2); (try clear hk); (try clear hi); have hnb52 := NB674_672.out; have hnc52 := NB672_674.out; have hnb53 := NB674_673.out; have hnc53 := NB673_674.out; have hcz54_0 : w51.cell? ⟨gb674, 0, none⟩ = some (.string (⟨#[]⟩ : BA)) := (bC BK674.out 0).trans rfl; have hcz54_1 : w51.cell? ⟨gb674, 1, none⟩ = some (.string (⟨#[]⟩ : BA)) := (bC BK674.out 1).trans rfl; have hfz54_0 := bF BK674.out 0; have hfz54_1 := bF BK674.out 1))
     refine bodyPost_ret (results_ct rfl _ _ gb674 38 #[.string (⟨#[]⟩ : BA), .string (⟨#[]⟩ : BA)] (0, 0) _ rfl (by (with_reducible repeat (first | refine bN ?_ _ | refine bD ?_ | refine bA ?_ _)); refine bP (cs := #[.string (⟨#[]⟩ : BA), .string (⟨#[]⟩ : BA)]) ?_ 1 _ rfl; (with_reducible repeat (first | refine bN ?_ _ | refine bD ?_ | refine bA ?_ _)); refine bP (cs := #[.string (⟨#[]⟩ : BA), .string (⟨#[]⟩ : BA)]) ?_ 0 _ rfl; (with_reducible repeat (first | refine bN ?_ _ | refine bD ?_ | refine bA ?_ _)); exact BK674.out) Try.underlying38 rfl (by kernel_rfl)) rfl ?_
     exact ⟨by first | rfl | (simp [errW_none, errW_some] <;> rfl) | (simp [*, errW_none, errW_some] <;> rfl), by repeat (first | (with_reducible first | exact HB.out | apply wA | apply wN | apply w1 | refine wS ?_ GE672.out | refine wS ?_ GE673.out | refine wS ?_ GE674.out | refine wS ?_ GE678.out) | exact HB.out)⟩
def key_Within.f (k : Nat) (a0_0 : BA) (a0_1 : BA) (a1_0 : BA) (a1_1 : BA) : Option (Bool) := (key_Meet.f k a0_0 a0_1 a1_0 a1_1).bind fun bt682 => (if bt682.2.2 = true then (some (bt682.1.toList == a0_0.toList && (bt682.2.1.toList == a0_1.toList))) else (some false))
set_option maxHeartbeats 8000000 in
set_option maxRecDepth 100000 in
theorem key_Within.calls (k : Nat) (a0_0 : BA) (a0_1 : BA) (a1_0 : BA) (a1_1 : BA) (r : Bool) (w : World) (h : key_Within.f k a0_0 a0_1 a1_0 a1_1 = some r) :
  Calls Try.prog 53 #[.agg #[.string a0_0, .string a0_1], .agg #[.string a1_0, .string a1_1]] w fun e w' => e = .returned (.bool r) ∧ Below w.heap.size w w' := by
 have hu38 := Try.underlying38
 have HB := Aside0.mk (Below.refl w.heap.size w)
 have H : ((key_Meet.f k a0_0 a0_1 a1_0 a1_1).bind fun bt682 => (if bt682.2.2 = true then (some (bt682.1.toList == a0_0.toList && (bt682.2.1.toList == a0_1.toList))) else (some false))) = some r := h
 clear h
 replace H := Option.bind_eq_some_iff.mp H
 obtain ⟨⟨t682, t683, t684⟩, A30, H⟩ := H
 replace H : (if t684 = true then (some (t682.toList == a0_0.toList && (t683.toList == a0_1.toList))) else (some false)) = some r := H
 have A3 := Aside0.mk A30
 clear A30
 by_cases c4 : t684 = true
 ·subst c4
  have H1 : (some (t682.toList == a0_0.toList && (t683.toList == a0_1.toList))) = some r := by rw [if_pos rfl] at H; exact H
  clear H
  have H := H1
  clear H1
  obtain rfl := Option.some.inj H
  go_enter Try.func53, Try.ntmps53
  go_wp2_with (first | ((with_reducible refine gate_dst (N := 2) rfl ?_); refine box_event ?hg (N := 2) ?hd (cs := #[.string a0_0, .string a0_1]) (t := 38) ?hr ?_; (case hd => rfl); (case hg => rfl); (case hr => first | (go_simp; done) | (go_simp; rfl)); intro gb680 hg w5 hbox hb; have n0_ := Aside0.mk (wT bW_ hb); have n1_ := Aside0.mk (hbox); have n2_ := Aside0.mk ((by rw [hg]; exact (wZ bW_) : w.heap.size ≤ gb680)); have n3_ := n2_; clear HB; have HB := n0_; have BK680 := n1_; have GW680 := n2_; have GE680 := n3_; clear n0_ n1_ n2_ n3_; clear hb hbox hg) | ((with_reducible refine gate_dst (N := 3) rfl ?_); refine box_event ?hg (N := 3) ?hd (cs := #[.string a1_0, .string a1_1]) (t := 38) ?hr ?_; (case hd => rfl); (case hg => rfl); (case hr => first | (go_simp; done) | (go_simp; rfl)); intro gb681 hg w6 hbox hb; have n0_ := Aside0.mk (bB (g := gb680) (o := .cells #[.string a0_0, .string a0_1] 38 (0, 0)) (bX_ BK680.out) hb); have n1_ := Aside0.mk (wT (by repeat (first | (with_reducible first | exact HB.out | apply wA | apply wN | apply w1 | refine wS ?_ GE680.out) | exact HB.out)) hb); have n2_ := Aside0.mk (hbox); have n3_ := Aside0.mk ((by rw [hg]; exact (wZ (by repeat (first | (with_reducible first | exact HB.out | apply wA | apply wN | apply w1 | refine wS ?_ GE680.out) | exact HB.out))) : w.heap.size ≤ gb681)); have n4_ := n3_; have n5_ := Aside0.mk ((by rw [hg]; exact Nat.ne_of_lt (blk_lt (g := gb680) (o := .cells #[.string a0_0, .string a0_1] 38 (0, 0)) (bX_ BK680.out)) : gb680 ≠ gb681)); have n6_ := Aside0.mk ((by rw [hg]; exact Nat.ne_of_gt (blk_lt (g := gb680) (o := .cells #[.string a0_0, .string a0_1] 38 (0, 0)) (bX_ BK680.out)) : gb681 ≠ gb680)); clear BK680; clear HB; have BK680 := n0_; have HB := n1_; have BK681 := n2_; have GW681 := n3_; have GE681 := n4_; have NB680_681 := n5_; have NB681_680 := n6_; clear n0_ n1_ n2_ n3_ n4_ n5_ n6_; clear hb hbox hg; have hnb7 := NB680_681.out; have hnc7 := NB681_680.out; have hcz8_0 : w6.cell? ⟨gb680, 0, none⟩ = some (.string a0_0) := (bC BK680.out 0).trans rfl; have hcz8_1 : w6.cell? ⟨gb680, 1, none⟩ = some (.string a0_1) := (bC BK680.out 1).trans rfl; have hfz8_0 := bF BK680.out 0; have hfz8_1 := bF BK680.out 1; have hcz9_0 : w6.cell? ⟨gb681, 0, none⟩ = some (.string a1_0) := (bC BK681.out 0).trans rfl; have hcz9_1 : w6.cell? ⟨gb681, 1, none⟩ = some (.string a1_1) := (bC BK681.out 1).trans rfl; have hfz9_0 := bF BK681.out 0; have hfz9_1 := bF BK681.out 1) | ((with_reducible refine gate_callee (f := 82) rfl ?_); refine goesL_ (some 10) rfl rfl Try.func82 (by kernel_rfl) rfl #[.agg #[.string a0_0, .string a0_1], .agg #[.string a1_0, .string a1_1]] rfl mS_ ?_; (with_reducible refine (key_Meet.calls k a0_0 a0_1 a1_0 a1_1 t682 t683 true _ A3.out).mono ?_); rintro e w10 ⟨rfl, hb⟩; refine ⟨_, rfl, ?_⟩; have n0_ := Aside0.mk (bB (g := gb680) (o := .cells #[.string a0_0, .string a0_1] 38 (0, 0)) (bX_ BK680.out) hb); have n1_ := Aside0.mk (bB (g := gb681) (o := .cells #[.string a1_0, .string a1_1] 38 (0, 0)) (bX_ BK681.out) hb); have n2_ := Aside0.mk (wT (by repeat (first | (with_reducible first | exact HB.out | apply wA | apply wN | apply w1 | refine wS ?_ GE680.out | refine wS ?_ GE681.out) | exact HB.out)) hb); clear BK680; clear BK681; clear HB; have BK680 := n0_; have BK681 := n1_; have HB := n2_; clear n0_ n1_ n2_; (try clear hb); (try clear hb2); (try clear hk); (try clear hi)) | ((with_reducible refine gate_dst (N := 5) rfl ?_); refine box_event ?hg (N := 5) ?hd (cs := #[.string (⟨#[]⟩ : BA), .string (⟨#[]⟩ : BA)]) (t := 38) ?hr ?_; (case hd => rfl); (case hg => rfl); (case hr => first | (go_simp; done) | (go_simp; rfl)); intro gb685 hg w11 hbox hb; have n0_ := Aside0.mk (bB (g := gb680) (o := .cells #[.string a0_0, .string a0_1] 38 (0, 0)) (bX_ BK680.out) hb); have n1_ := Aside0.mk (bB (g := gb681) (o := .cells #[.string a1_0, .string a1_1] 38 (0, 0)) (bX_ BK681.out) hb); have n2_ := Aside0.mk (wT (by repeat (first | (with_reducible first | exact HB.out | apply wA | apply wN | apply w1 | refine wS ?_ GE680.out | refine wS ?_ GE681.out) | exact HB.out)) hb); have n3_ := Aside0.mk (hbox); have n4_ := Aside0.mk ((by rw [hg]; exact (wZ (by repeat (first | (with_reducible first | exact HB.out | apply wA | apply wN | apply w1 | refine wS ?_ GE680.out | refine wS ?_ GE681.out) | exact HB.out))) : w.heap.size ≤ gb685)); have n5_ := n4_; have n6_ := Aside0.mk ((by rw [hg]; exact Nat.ne_of_lt (blk_lt (g := gb680) (o := .cells #[.string a0_0, .string a0_1] 38 (0, 0)) (bX_ BK680.out)) : gb680 ≠ gb685)); have n7_ := Aside0.mk ((by rw [hg]; exact Nat.ne_of_gt (blk_lt (g := gb680) (o := .cells #[.string a0_0, .string a0_1] 38 (0, 0)) (bX_ BK680.out)) : gb685 ≠ gb680)); have n8_ := Aside0.mk ((by rw [hg]; exact Nat.ne_of_lt (blk_lt (g := gb681) (o := .cells #[.string a1_0, .string a1_1] 38 (0, 0)) (bX_ BK681.out)) : gb681 ≠ gb685)); have n9_ := Aside0.mk ((by rw [hg]; exact Nat.ne_of_gt (blk_lt (g := gb681) (o := .cells #[.string a1_0, .string a1_1] 38 (0, 0)) (bX_ BK681.out)) : gb685 ≠ gb681)); clear BK680; clear BK681; clear HB; have BK680 := n0_; have BK681 := n1_; have HB := n2_; have BK685 := n3_; have GW685 := n4_; have GE685 := n5_; have NB680_685 := n6_; have NB685_680 := n7_; have NB681_685 := n8_; have NB685_681 := n9_; clear n0_ n1_ n2_ n3_ n4_ n5_ n6_ n7_ n8_ n9_; clear hb hbox hg; have hnb12 := NB685_680.out; have hnc12 := NB680_685.out; have hnb13 := NB685_681.out; have hnc13 := NB681_685.out; have hcz14_0 : w11.cell? ⟨gb685, 0, none⟩ = some (.string (⟨#[]⟩ : BA)) := (bC BK685.out 0).trans rfl; have hcz14_1 : w11.cell? ⟨gb685, 1, none⟩ = some (.string (⟨#[]⟩ : BA)) := (bC BK685.out 1).trans rfl; have hfz14_0 := bF BK685.out 0; have hfz14_1 := bF BK685.out 1; have hcz15_0 : w11.cell? ⟨gb680, 0, none⟩ = some (.string a0_0) := (bC BK680.out 0).trans rfl; have hcz15_1 : w11.cell? ⟨gb680, 1, none⟩ = some (.string a0_1) := (bC BK680.out 1).trans rfl; have hfz15_0 := bF BK680.out 0; have hfz15_1 := bF BK680.out 1))
  go_ret
  exact ⟨by first | rfl | (simp [errW_none, errW_some] <;> rfl) | (simp [*, errW_none, errW_some] <;> rfl), by repeat (first | (with_reducible first | exact HB.out | apply wA | apply wN | apply w1 | refine wS ?_ GE680.out | refine wS ?_ GE681.out | refine wS ?_ GE685.out) | exact HB.out)⟩
 ·replace c4 := Bool.eq_false_iff.mpr c4
  subst c4
  have H1 : (some false) = some r := by rw [if_neg (show ¬ (false = true) by decide)] at H; exact H
  clear H
  have H := H1
  clear H1
  obtain rfl := Option.some.inj H
  go_enter Try.func53, Try.ntmps53
  go_wp2_with (first | ((with_reducible refine gate_dst (N := 2) rfl ?_); refine box_event ?hg (N := 2) ?hd (cs := #[.string a0_0, .string a0_1]) (t := 38) ?hr ?_; (case hd => rfl); (case hg => rfl); (case hr => first | (go_simp; done) | (go_simp; rfl)); intro gb680 hg w16 hbox hb; have n0_ := Aside0.mk (wT bW_ hb); have n1_ := Aside0.mk (hbox); have n2_ := Aside0.mk ((by rw [hg]; exact (wZ bW_) : w.heap.size ≤ gb680)); have n3_ := n2_; clear HB; have HB := n0_; have BK680 := n1_; have GW680 := n2_; have GE680 := n3_; clear n0_ n1_ n2_ n3_; clear hb hbox hg) | ((with_reducible refine gate_dst (N := 3) rfl ?_); refine box_event ?hg (N := 3) ?hd (cs := #[.string a1_0, .string a1_1]) (t := 38) ?hr ?_; (case hd => rfl); (case hg => rfl); (case hr => first | (go_simp; done) | (go_simp; rfl)); intro gb681 hg w17 hbox hb; have n0_ := Aside0.mk (bB (g := gb680) (o := .cells #[.string a0_0, .string a0_1] 38 (0, 0)) (bX_ BK680.out) hb); have n1_ := Aside0.mk (wT (by repeat (first | (with_reducible first | exact HB.out | apply wA | apply wN | apply w1 | refine wS ?_ GE680.out) | exact HB.out)) hb); have n2_ := Aside0.mk (hbox); have n3_ := Aside0.mk ((by rw [hg]; exact (wZ (by repeat (first | (with_reducible first | exact HB.out | apply wA | apply wN | apply w1 | refine wS ?_ GE680.out) | exact HB.out))) : w.heap.size ≤ gb681)); have n4_ := n3_; have n5_ := Aside0.mk ((by rw [hg]; exact Nat.ne_of_lt (blk_lt (g := gb680) (o := .cells #[.string a0_0, .string a0_1] 38 (0, 0)) (bX_ BK680.out)) : gb680 ≠ gb681)); have n6_ := Aside0.mk ((by rw [hg]; exact Nat.ne_of_gt (blk_lt (g := gb680) (o := .cells #[.string a0_0, .string a0_1] 38 (0, 0)) (bX_ BK680.out)) : gb681 ≠ gb680)); clear BK680; clear HB; have BK680 := n0_; have HB := n1_; have BK681 := n2_; have GW681 := n3_; have GE681 := n4_; have NB680_681 := n5_; have NB681_680 := n6_; clear n0_ n1_ n2_ n3_ n4_ n5_ n6_; clear hb hbox hg; have hnb18 := NB680_681.out; have hnc18 := NB681_680.out; have hcz19_0 : w17.cell? ⟨gb680, 0, none⟩ = some (.string a0_0) := (bC BK680.out 0).trans rfl; have hcz19_1 : w17.cell? ⟨gb680, 1, none⟩ = some (.string a0_1) := (bC BK680.out 1).trans rfl; have hfz19_0 := bF BK680.out 0; have hfz19_1 := bF BK680.out 1; have hcz20_0 : w17.cell? ⟨gb681, 0, none⟩ = some (.string a1_0) := (bC BK681.out 0).trans rfl; have hcz20_1 : w17.cell? ⟨gb681, 1, none⟩ = some (.string a1_1) := (bC BK681.out 1).trans rfl; have hfz20_0 := bF BK681.out 0; have hfz20_1 := bF BK681.out 1) | ((with_reducible refine gate_callee (f := 82) rfl ?_); refine goesL_ (some 10) rfl rfl Try.func82 (by kernel_rfl) rfl #[.agg #[.string a0_0, .string a0_1], .agg #[.string a1_0, .string a1_1]] rfl mS_ ?_; (with_reducible refine (key_Meet.calls k a0_0 a0_1 a1_0 a1_1 t682 t683 false _ A3.out).mono ?_); rintro e w21 ⟨rfl, hb⟩; refine ⟨_, rfl, ?_⟩; have n0_ := Aside0.mk (bB (g := gb680) (o := .cells #[.string a0_0, .string a0_1] 38 (0, 0)) (bX_ BK680.out) hb); have n1_ := Aside0.mk (bB (g := gb681) (o := .cells #[.string a1_0, .string a1_1] 38 (0, 0)) (bX_ BK681.out) hb); have n2_ := Aside0.mk (wT (by repeat (first | (with_reducible first | exact HB.out | apply wA | apply wN | apply w1 | refine wS ?_ GE680.out | refine wS ?_ GE681.out) | exact HB.out)) hb); clear BK680; clear BK681; clear HB; have BK680 := n0_; have BK681 := n1_; have HB := n2_; clear n0_ n1_ n2_; (try clear hb); (try clear hb2); (try clear hk); (try clear hi)) | ((with_reducible refine gate_dst (N := 5) rfl ?_); refine box_event ?hg (N := 5) ?hd (cs := #[.string (⟨#[]⟩ : BA), .string (⟨#[]⟩ : BA)]) (t := 38) ?hr ?_; (case hd => rfl); (case hg => rfl); (case hr => first | (go_simp; done) | (go_simp; rfl)); intro gb685 hg w22 hbox hb; have n0_ := Aside0.mk (bB (g := gb680) (o := .cells #[.string a0_0, .string a0_1] 38 (0, 0)) (bX_ BK680.out) hb); have n1_ := Aside0.mk (bB (g := gb681) (o := .cells #[.string a1_0, .string a1_1] 38 (0, 0)) (bX_ BK681.out) hb); have n2_ := Aside0.mk (wT (by repeat (first | (with_reducible first | exact HB.out | apply wA | apply wN | apply w1 | refine wS ?_ GE680.out | refine wS ?_ GE681.out) | exact HB.out)) hb); have n3_ := Aside0.mk (hbox); have n4_ := Aside0.mk ((by rw [hg]; exact (wZ (by repeat (first | (with_reducible first | exact HB.out | apply wA | apply wN | apply w1 | refine wS ?_ GE680.out | refine wS ?_ GE681.out) | exact HB.out))) : w.heap.size ≤ gb685)); have n5_ := n4_; have n6_ := Aside0.mk ((by rw [hg]; exact Nat.ne_of_lt (blk_lt (g := gb680) (o := .cells #[.string a0_0, .string a0_1] 38 (0, 0)) (bX_ BK680.out)) : gb680 ≠ gb685)); have n7_ := Aside0.mk ((by rw [hg]; exact Nat.ne_of_gt (blk_lt (g := gb680) (o := .cells #[.string a0_0, .string a0_1] 38 (0, 0)) (bX_ BK680.out)) : gb685 ≠ gb680)); have n8_ := Aside0.mk ((by rw [hg]; exact Nat.ne_of_lt (blk_lt (g := gb681) (o := .cells #[.string a1_0, .string a1_1] 38 (0, 0)) (bX_ BK681.out)) : gb681 ≠ gb685)); have n9_ := Aside0.mk ((by rw [hg]; exact Nat.ne_of_gt (blk_lt (g := gb681) (o := .cells #[.string a1_0, .string a1_1] 38 (0, 0)) (bX_ BK681.out)) : gb685 ≠ gb681)); clear BK680; clear BK681; clear HB; have BK680 := n0_; have BK681 := n1_; have HB := n2_; have BK685 := n3_; have GW685 := n4_; have GE685 := n5_; have NB680_685 := n6_; have NB685_680 := n7_; have NB681_685 := n8_; have NB685_681 := n9_; clear n0_ n1_ n2_ n3_ n4_ n5_ n6_ n7_ n8_ n9_; clear hb hbox hg; have hnb23 := NB685_680.out; have hnc23 := NB680_685.out; have hnb24 := NB685_681.out; have hnc24 := NB681_685.out; have hcz25_0 : w22.cell? ⟨gb685, 0, none⟩ = some (.string (⟨#[]⟩ : BA)) := (bC BK685.out 0).trans rfl; have hcz25_1 : w22.cell? ⟨gb685, 1, none⟩ = some (.string (⟨#[]⟩ : BA)) := (bC BK685.out 1).trans rfl; have hfz25_0 := bF BK685.out 0; have hfz25_1 := bF BK685.out 1))
  go_ret
  exact ⟨by first | rfl | (simp [errW_none, errW_some] <;> rfl) | (simp [*, errW_none, errW_some] <;> rfl), by repeat (first | (with_reducible first | exact HB.out | apply wA | apply wN | apply w1 | refine wS ?_ GE680.out | refine wS ?_ GE681.out | refine wS ?_ GE685.out) | exact HB.out)⟩
end Go.Proofs.Ytidaiafmhidooaa.P
end
