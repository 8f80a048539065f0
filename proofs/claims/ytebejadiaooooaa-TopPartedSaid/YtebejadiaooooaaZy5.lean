/- Texts of one claim (laid by shake.py). -/
import Derived.Test.YtebejadiaooooaaZy3
import Derived.Test.YtebejadiaooooaaZy4
set_option linter.unusedVariables false
set_option linter.unusedSimpArgs false
section
namespace Go.Proofs.Ytebejadiaooooaa.P
open Go.RowKit Go.Proofs.YtebejadiaooooaaW.PrintWords Go.Proofs.YtebejadiaooooaaW.PrintLast Go.Proofs.YtebejadiaooooaaW.PrintMore Go.Proofs.Ytebejadiaooooaa.Own
open Bool renaming true → YY, false → ZZ
open Go.Proofs.YtebejadiaooooaaW.PrintWords renaming blk_cell → bC, blk_frozen → bF, blk_drewN → bN, blk_alloc → bA, pw_below_drewN → wN, blk_drew → bD, below_drew1 → w1, below_set → wS, below_alloc → wA, blk_below → bB, below_step → wT, below_size → wZ, cell_far → cF, blk_far → bR, blk_put → bP
open List renaming setIfInBounds_toArray → sA1, set_cons_zero → sA2, set_cons_succ → sA3, map_toArray → mA1, map_cons → mA2, map_nil → mA3, length_take → mA4, length_drop → mA5
attribute [local go_sem] max2_str max2_int min2_int max_two min_two max_three min_three max_four min_four   -- for this text's walks alone
def key_Meet.j0 : Nat → Bool → ByteArray → ByteArray → ByteArray → ByteArray → Option (ByteArray × ByteArray × Bool)
 | 0, _, _, _, _, _ => none
 | k + 1, x14, x129000, x129001, x130000, x130001 => if x14 = true then (some ((⟨#[]⟩ : BA), (⟨#[]⟩ : BA), false)) else ((key_First.f x129001 x130001).bind fun t133 => ((key_RightRange.f (mxs x129000 x130000) t133).bind fun t135 => (if t135 = true then (some (mxs x129000 x130000, t133, true)) else (some ((⟨#[]⟩ : BA), (⟨#[]⟩ : BA), false)))))
def key_Meet.f (k : Nat) (a0_0 : BA) (a0_1 : BA) (a1_0 : BA) (a1_1 : BA) : Option (ByteArray × ByteArray × Bool) := (key_RightRange.f a0_0 a0_1).bind fun t131 => (if t131 = true then ((key_RightRange.f a1_0 a1_1).bind fun t132 => (key_Meet.j0 k (!t132) a0_0 a0_1 a1_0 a1_1)) else (key_Meet.j0 k true a0_0 a0_1 a1_0 a1_1))
def key_Meet.T3 : Bool × List (List Nat × List Nat) := (true, [([], []), ([0], [0]), ([], []), ([2], [2]), ([1, 3], [1, 3]), ([], []), ([5], [5]), ([], []), ([7], [7]), ([6, 8], [6, 8]), ([4, 9], [4, 9]), ([], []), ([11, 10, 9, 0, 1, 2, 3, 4, 5, 6, 7, 8, 9, 10, 11], [10, 11])])
def key_Meet.B3 : List Nat := [0, 1, 0, 4, 15, 0, 32, 0, 128, 480, 1023, 0, 4095]
theorem key_Meet.tab3 : rtab .any (opsOf Try.f57 3) = key_Meet.T3 := by kernel_rfl
theorem key_Meet.bits3 : waitsOk key_Meet.T3.2 key_Meet.B3 = true := by kernel_rfl
set_option maxHeartbeats 8000000 in
set_option maxRecDepth 100000 in
theorem key_Meet.calls (k : Nat) (a0_0 : BA) (a0_1 : BA) (a1_0 : BA) (a1_1 : BA) (r1 : BA) (r2 : BA) (r3 : Bool) (w : World) (h : key_Meet.f k a0_0 a0_1 a1_0 a1_1 = some (r1, r2, r3)) :
  Calls Try.prog 57 #[.agg #[.string a0_0, .string a0_1], .agg #[.string a1_0, .string a1_1]] w fun e w' => e = .returned (.tuple #[.agg #[.string r1, .string r2], .bool r3]) ∧ Below w.heap.size w w' := by
 have hu28 := Try.underlying28
 have HB := Aside0.mk (Below.refl w.heap.size w)
 have H : ((key_RightRange.f a0_0 a0_1).bind fun t131 => (if t131 = true then ((key_RightRange.f a1_0 a1_1).bind fun t132 => (key_Meet.j0 k (!t132) a0_0 a0_1 a1_0 a1_1)) else (key_Meet.j0 k true a0_0 a0_1 a1_0 a1_1))) = some (r1, r2, r3) := h
 clear h
 have HC3 := Aside0.mk H
 clear H
 go_enter Try.func57, Try.ntmps57
 go_upto_region 1 with (first | ((with_reducible refine gate_dst (N := 2) rfl ?_); refine box_event ?hg (N := 2) ?hd (cs := #[.string a0_0, .string a0_1]) (t := 28) ?hr ?_; (case hd => rfl); (case hg => rfl); (case hr => first | (go_simp; done) | (go_simp; rfl)); intro gb128 hg w4 hbox hb; have n0_ := Aside0.mk (wT bW_ hb); have n1_ := Aside0.mk (hbox); have n2_ := Aside0.mk ((by rw [hg]; exact (wZ bW_) : w.heap.size ≤ gb128)); have n3_ := n2_; clear HB; have HB := n0_; have BK128 := n1_; have GW128 := n2_; have GE128 := n3_; clear n0_ n1_ n2_ n3_; clear hb hbox hg) | ((with_reducible refine gate_dst (N := 3) rfl ?_); refine box_event ?hg (N := 3) ?hd (cs := #[.string a1_0, .string a1_1]) (t := 28) ?hr ?_; (case hd => rfl); (case hg => rfl); (case hr => first | (go_simp; done) | (go_simp; rfl)); intro gb129 hg w5 hbox hb; have n0_ := Aside0.mk (bB (bX_ BK128.out) hb); have n1_ := Aside0.mk (wT (bS1_ GE128.out) hb); have n2_ := Aside0.mk (hbox); have n3_ := Aside0.mk ((by rw [hg]; exact (wZ (bS1_ GE128.out)) : w.heap.size ≤ gb129)); have n4_ := n3_; have n5_ := Aside0.mk ((by rw [hg]; exact Nat.ne_of_lt (blk_lt (g := gb128) (o := .cells #[.string a0_0, .string a0_1] 28 (0, 0)) (bX_ BK128.out)) : gb128 ≠ gb129)); have n6_ := Aside0.mk ((by rw [hg]; exact Nat.ne_of_gt (blk_lt (g := gb128) (o := .cells #[.string a0_0, .string a0_1] 28 (0, 0)) (bX_ BK128.out)) : gb129 ≠ gb128)); clear BK128; clear HB; have BK128 := n0_; have HB := n1_; have BK129 := n2_; have GW129 := n3_; have GE129 := n4_; have NB128_129 := n5_; have NB129_128 := n6_; clear n0_ n1_ n2_ n3_ n4_ n5_ n6_; clear hb hbox hg) | ((with_reducible refine gate_dst (N := 4) rfl ?_); refine box_event ?hg (N := 4) ?hd (cs := #[.string (⟨#[]⟩ : BA), .string (⟨#[]⟩ : BA)]) (t := 28) ?hr ?_; (case hd => rfl); (case hg => rfl); (case hr => first | (go_simp; done) | (go_simp; rfl)); intro gb130 hg w6 hbox hb; have n0_ := Aside0.mk (bB (bX_ BK128.out) hb); have n1_ := Aside0.mk (bB (bX_ BK129.out) hb); have n2_ := Aside0.mk (wT (bS2_ GE128.out GE129.out) hb); have n3_ := Aside0.mk (hbox); have n4_ := Aside0.mk ((by rw [hg]; exact (wZ (bS2_ GE128.out GE129.out)) : w.heap.size ≤ gb130)); have n5_ := n4_; have n6_ := Aside0.mk ((by rw [hg]; exact Nat.ne_of_lt (blk_lt (g := gb128) (o := .cells #[.string a0_0, .string a0_1] 28 (0, 0)) (bX_ BK128.out)) : gb128 ≠ gb130)); have n7_ := Aside0.mk ((by rw [hg]; exact Nat.ne_of_gt (blk_lt (g := gb128) (o := .cells #[.string a0_0, .string a0_1] 28 (0, 0)) (bX_ BK128.out)) : gb130 ≠ gb128)); have n8_ := Aside0.mk ((by rw [hg]; exact Nat.ne_of_lt (blk_lt (g := gb129) (o := .cells #[.string a1_0, .string a1_1] 28 (0, 0)) (bX_ BK129.out)) : gb129 ≠ gb130)); have n9_ := Aside0.mk ((by rw [hg]; exact Nat.ne_of_gt (blk_lt (g := gb129) (o := .cells #[.string a1_0, .string a1_1] 28 (0, 0)) (bX_ BK129.out)) : gb130 ≠ gb129)); clear BK128; clear BK129; clear HB; have BK128 := n0_; have BK129 := n1_; have HB := n2_; have BK130 := n3_; have GW130 := n4_; have GE130 := n5_; have NB128_130 := n6_; have NB130_128 := n7_; have NB129_130 := n8_; have NB130_129 := n9_; clear n0_ n1_ n2_ n3_ n4_ n5_ n6_ n7_ n8_ n9_; clear hb hbox hg))
 (try simp only [Act.put, sA1, sA2, sA3])
 go_cut [14] (fun v14 wc => ∃ (kq : Nat) (x14_2 : Bool), v14 = .bool x14_2 ∧ Aside0 (key_Meet.j0 kq x14_2 a0_0 a0_1 a1_0 a1_1 = some (r1, r2, r3)) ∧ Aside0 (kq ≤ k) ∧ Aside0 (wc.heap[gb128]? = some (.cells #[.string a0_0, .string a0_1] 28 (0, 0))) ∧ Aside0 (wc.heap[gb129]? = some (.cells #[.string a1_0, .string a1_1] 28 (0, 0))) ∧ Aside0 (wc.heap[gb130]? = some (.cells #[.string (⟨#[]⟩ : BA), .string (⟨#[]⟩ : BA)] 28 (0, 0))) ∧ Aside0 (Below w.heap.size w wc))
 case first =>
  have H := HC3.out
  clear HC3
  replace H := Option.bind_eq_some_iff.mp H
  obtain ⟨t131, A70, H⟩ := H
  replace H : (if t131 = true then ((key_RightRange.f a1_0 a1_1).bind fun t132 => (key_Meet.j0 k (!t132) a0_0 a0_1 a1_0 a1_1)) else (key_Meet.j0 k true a0_0 a0_1 a1_0 a1_1)) = some (r1, r2, r3) := H
  have A7 := Aside0.mk A70
  clear A70
  by_cases c8 : t131 = true
  ·subst c8
   have H1 : ((key_RightRange.f a1_0 a1_1).bind fun t132 => (key_Meet.j0 k (!t132) a0_0 a0_1 a1_0 a1_1)) = some (r1, r2, r3) := by rw [if_pos rfl] at H; exact H
   clear H
   have H := H1
   clear H1
   replace H := Option.bind_eq_some_iff.mp H
   obtain ⟨t132, A90, H⟩ := H
   replace H : (key_Meet.j0 k (!t132) a0_0 a0_1 a1_0 a1_1) = some (r1, r2, r3) := H
   have A9 := Aside0.mk A90
   clear A90
   have H' := Aside0.mk H
   clear H
   have hnb10 := NB128_129.out
   have hnc10 := NB129_128.out
   have hnb11 := NB128_130.out
   have hnc11 := NB130_128.out
   have hcz12_0 := cz_ BK128.out 0
   have hcz12_1 := cz_ BK128.out 1
   have hfz12_0 := bF BK128.out 0
   have hfz12_1 := bF BK128.out 1
   go_wp2_with (first | ((with_reducible refine gate_callee (f := 53) rfl ?_); refine goesL_ (some 8) rfl rfl Try.func53 (by kernel_rfl) rfl #[.agg #[.string a0_0, .string a0_1]] rfl mS_ ?_; (with_reducible refine (key_RightRange.calls a0_0 a0_1 true _ A7.out).mono ?_); rintro e w13 ⟨rfl, hb⟩; refine ⟨_, rfl, ?_⟩; have n0_ := Aside0.mk (bB (bX_ BK128.out) hb); have n1_ := Aside0.mk (bB (bX_ BK129.out) hb); have n2_ := Aside0.mk (bB (bX_ BK130.out) hb); have n3_ := Aside0.mk (wT (bS3_ GE128.out GE129.out GE130.out) hb); clear BK128; clear BK129; clear BK130; clear HB; have BK128 := n0_; have BK129 := n1_; have BK130 := n2_; have HB := n3_; clear n0_ n1_ n2_ n3_; (try clear hb); (try clear hb2); (try clear hk); (try clear hi); have hnb14 := NB129_130.out; have hnc14 := NB130_129.out; have hcz15_0 := cz_ BK129.out 0; have hcz15_1 := cz_ BK129.out 1; have hfz15_0 := bF BK129.out 0; have hfz15_1 := bF BK129.out 1) | (go_at_call 53; (with_reducible refine (key_RightRange.calls a1_0 a1_1 t132 _ A9.out).mono ?_); rintro e w16 ⟨rfl, hb⟩; have n0_ := Aside0.mk (bB (bX_ BK128.out) hb); have n1_ := Aside0.mk (bB (bX_ BK129.out) hb); have n2_ := Aside0.mk (bB (bX_ BK130.out) hb); have n3_ := Aside0.mk (wT (bS3_ GE128.out GE129.out GE130.out) hb); clear BK128; clear BK129; clear BK130; clear HB; have BK128 := n0_; have BK129 := n1_; have BK130 := n2_; have HB := n3_; clear n0_ n1_ n2_ n3_; (try clear hb); (try clear hb2); (try clear hk); (try clear hi)))
   go_meet
   case rel => exact ⟨_, (!t132), (by first | rfl | (simp; done) | (simp [*]; done)), H', ⟨by first | omega | exact Nat.le_refl _⟩, ⟨by (with_reducible repeat (first | refine bN ?_ _ | refine bD ?_ | refine bA ?_ _)); exact BK128.out⟩, ⟨by (with_reducible repeat (first | refine bN ?_ _ | refine bD ?_ | refine bA ?_ _)); exact BK129.out⟩, ⟨by (with_reducible repeat (first | refine bN ?_ _ | refine bD ?_ | refine bA ?_ _)); exact BK130.out⟩, ⟨by repeat (first | (with_reducible first | exact HB.out | apply wA | apply wN | apply w1 | refine wS ?_ GE128.out | refine wS ?_ GE129.out | refine wS ?_ GE130.out) | exact HB.out)⟩⟩
  ·replace c8 := Bool.eq_false_iff.mpr c8
   subst c8
   have H1 : (key_Meet.j0 k true a0_0 a0_1 a1_0 a1_1) = some (r1, r2, r3) := by rw [if_neg (show ¬ (false = true) by decide)] at H; exact H
   clear H
   have H := H1
   clear H1
   have H' := Aside0.mk H
   clear H
   have hnb17 := NB128_129.out
   have hnc17 := NB129_128.out
   have hnb18 := NB128_130.out
   have hnc18 := NB130_128.out
   have hcz19_0 := cz_ BK128.out 0
   have hcz19_1 := cz_ BK128.out 1
   have hfz19_0 := bF BK128.out 0
   have hfz19_1 := bF BK128.out 1
   go_wp2_with (first | ((with_reducible refine gate_callee (f := 53) rfl ?_); refine goesL_ (some 8) rfl rfl Try.func53 (by kernel_rfl) rfl #[.agg #[.string a0_0, .string a0_1]] rfl mS_ ?_; (with_reducible refine (key_RightRange.calls a0_0 a0_1 false _ A7.out).mono ?_); rintro e w20 ⟨rfl, hb⟩; refine ⟨_, rfl, ?_⟩; have n0_ := Aside0.mk (bB (bX_ BK128.out) hb); have n1_ := Aside0.mk (bB (bX_ BK129.out) hb); have n2_ := Aside0.mk (bB (bX_ BK130.out) hb); have n3_ := Aside0.mk (wT (bS3_ GE128.out GE129.out GE130.out) hb); clear BK128; clear BK129; clear BK130; clear HB; have BK128 := n0_; have BK129 := n1_; have BK130 := n2_; have HB := n3_; clear n0_ n1_ n2_ n3_; (try clear hb); (try clear hb2); (try clear hk); (try clear hi)))
   go_meet
   case rel => exact ⟨_, (true), (by first | rfl | (simp; done) | (simp [*]; done)), H', ⟨by first | omega | exact Nat.le_refl _⟩, ⟨by (with_reducible repeat (first | refine bN ?_ _ | refine bD ?_ | refine bA ?_ _)); exact BK128.out⟩, ⟨by (with_reducible repeat (first | refine bN ?_ _ | refine bD ?_ | refine bA ?_ _)); exact BK129.out⟩, ⟨by (with_reducible repeat (first | refine bN ?_ _ | refine bD ?_ | refine bA ?_ _)); exact BK130.out⟩, ⟨by repeat (first | (with_reducible first | exact HB.out | apply wA | apply wN | apply w1 | refine wS ?_ GE128.out | refine wS ?_ GE129.out | refine wS ?_ GE130.out) | exact HB.out)⟩⟩
 case rest =>
  clear HC3
  try clear c1
  try clear p2
  try clear c5
  try clear c8
  try clear c10
  try clear c11
  try clear c14
  try clear c17
  try clear c18
  try clear hcz12_0
  try clear hcz12_1
  try clear hcz15_0
  try clear hcz15_1
  try clear hcz19_0
  try clear hcz19_1
  try clear hfz12_0
  try clear hfz12_1
  try clear hfz15_0
  try clear hfz15_1
  try clear hfz19_0
  try clear hfz19_1
  obtain ⟨kq, x14_2, rfl, HA, HJ2, BK128, BK129, BK130, HB⟩ := hcut
  cases kq with
  | zero => exact absurd HA.out (by simp [key_Meet.j0])
  | succ kj2 =>
   have H := HA.out
   clear HA
   simp only [key_Meet.j0] at H
   by_cases c21 : x14_2 = true
   ·subst c21
    have H1 : (some ((⟨#[]⟩ : BA), (⟨#[]⟩ : BA), false)) = some (r1, r2, r3) := by rw [if_pos rfl] at H; exact H
    clear H
    have H := H1
    clear H1
    simp only [Option.some.injEq, Prod.mk.injEq] at H
    obtain ⟨rfl, rfl, rfl⟩ := H
    have hnb22 := NB130_128.out
    have hnc22 := NB128_130.out
    have hnb23 := NB130_129.out
    have hnc23 := NB129_130.out
    have hcz24_0 := cz_ BK130.out 0
    have hcz24_1 := cz_ BK130.out 1
    have hfz24_0 := bF BK130.out 0
    have hfz24_1 := bF BK130.out 1
    go_wp2
    refine bodyPost_ret (results_ct rfl _ _ gb130 28 #[.string (⟨#[]⟩ : BA), .string (⟨#[]⟩ : BA)] (0, 0) _ rfl (by (with_reducible repeat (first | refine bN ?_ _ | refine bD ?_ | refine bA ?_ _)); refine bP (cs := #[.string (⟨#[]⟩ : BA), .string (⟨#[]⟩ : BA)]) ?_ 1 _ rfl; (with_reducible repeat (first | refine bN ?_ _ | refine bD ?_ | refine bA ?_ _)); refine bP (cs := #[.string (⟨#[]⟩ : BA), .string (⟨#[]⟩ : BA)]) ?_ 0 _ rfl; (with_reducible repeat (first | refine bN ?_ _ | refine bD ?_ | refine bA ?_ _)); exact BK130.out) Try.underlying28 rfl (by kernel_rfl)) rfl ?_
    exact ⟨by first | rfl | (simp [errW_none, errW_some] <;> rfl) | (simp [*, errW_none, errW_some] <;> rfl), by repeat (first | (with_reducible first | exact HB.out | apply wA | apply wN | apply w1 | refine wS ?_ GE128.out | refine wS ?_ GE129.out | refine wS ?_ GE130.out) | exact HB.out)⟩
   ·replace c21 := Bool.eq_false_iff.mpr c21
    subst c21
    have H1 : ((key_First.f a0_1 a1_1).bind fun t133 => ((key_RightRange.f (mxs a0_0 a1_0) t133).bind fun t135 => (if t135 = true then (some (mxs a0_0 a1_0, t133, true)) else (some ((⟨#[]⟩ : BA), (⟨#[]⟩ : BA), false))))) = some (r1, r2, r3) := by rw [if_neg (show ¬ (false = true) by decide)] at H; exact H
    clear H
    have H := H1
    clear H1
    replace H := Option.bind_eq_some_iff.mp H
    obtain ⟨t133, A250, H⟩ := H
    replace H : ((key_RightRange.f (mxs a0_0 a1_0) t133).bind fun t135 => (if t135 = true then (some (mxs a0_0 a1_0, t133, true)) else (some ((⟨#[]⟩ : BA), (⟨#[]⟩ : BA), false)))) = some (r1, r2, r3) := H
    have A25 := Aside0.mk A250
    clear A250
    replace H := Option.bind_eq_some_iff.mp H
    obtain ⟨t135, A260, H⟩ := H
    replace H : (if t135 = true then (some (mxs a0_0 a1_0, t133, true)) else (some ((⟨#[]⟩ : BA), (⟨#[]⟩ : BA), false))) = some (r1, r2, r3) := H
    have A26 := Aside0.mk A260
    clear A260
    by_cases c27 : t135 = true
    ·subst c27
     have H1 : (some (mxs a0_0 a1_0, t133, true)) = some (r1, r2, r3) := by rw [if_pos rfl] at H; exact H
     clear H
     have H := H1
     clear H1
     simp only [Option.some.injEq, Prod.mk.injEq] at H
     obtain ⟨rfl, rfl, rfl⟩ := H
     try go_wp2
     have n0_ := Aside0.mk (bD BK128.out)
     have n1_ := Aside0.mk (bD BK129.out)
     have n2_ := Aside0.mk (bD BK130.out)
     have n3_ := Aside0.mk (w1 HB.out)
     clear BK128
     clear BK129
     clear BK130
     clear HB
     have BK128 := n0_
     have BK129 := n1_
     have BK130 := n2_
     have HB := n3_
     clear n0_ n1_ n2_ n3_
     refine start_ (n := 13) (S := fun w' => w'.cell? ⟨gb128, 0, none⟩ = some (.string a0_0) ∧ w'.cell? ⟨gb128, 1, none⟩ = some (.string a0_1) ∧ w'.cell? ⟨gb129, 0, none⟩ = some (.string a1_0) ∧ w'.cell? ⟨gb129, 1, none⟩ = some (.string a1_1)) (ds := []) #[ZZ,ZZ,ZZ,ZZ,ZZ,ZZ,ZZ,ZZ,ZZ,ZZ,ZZ,ZZ,ZZ] (by kernel_rfl) rfl rfl ⟨(bC BK128.out 0).trans rfl, (bC BK128.out 1).trans rfl, (bC BK129.out 0).trans rfl, (bC BK129.out 1).trans rfl⟩ (fun hHeld => ?_); refine with_tabW key_Meet.tab3 key_Meet.bits3 (fun HT_ HW_ => ?_)
     generalize wc.drew = w28 at BK128 BK129 BK130 HB hHeld ⊢
     refine pU_ 0 16 #[YY,ZZ,ZZ,ZZ,ZZ,ZZ,ZZ,ZZ,ZZ,ZZ,ZZ,ZZ,ZZ] ?_
     refine pU_ 2 18 #[YY,ZZ,YY,ZZ,ZZ,ZZ,ZZ,ZZ,ZZ,ZZ,ZZ,ZZ,ZZ] ?_
     refine pU_ 5 21 #[YY,ZZ,YY,ZZ,ZZ,YY,ZZ,ZZ,ZZ,ZZ,ZZ,ZZ,ZZ] ?_
     refine pU_ 7 23 #[YY,ZZ,YY,ZZ,ZZ,YY,ZZ,YY,ZZ,ZZ,ZZ,ZZ,ZZ] ?_
     refine take_ (i := 1) (N := some 17) (v := ?_) (a' := ?_) #[YY,YY,YY,ZZ,ZZ,YY,ZZ,YY,ZZ,ZZ,ZZ,ZZ,ZZ] rfl rfl (take_ofW HT_.out HW_.out (by kernel_rfl)) (fun _ _ _ h => h) (Or.inl ⟨by rfl, ?_⟩) hHeld ?_ ?_
     rotate_left
     ·rintro w' ⟨s0, s1, s2, s3⟩
      go_simp
      with_reducible rfl
     rotate_left
     ·simp only [Act.put, sA1, sA2, sA3, i64_w, i32_w]
      rfl
     refine take_ (i := 3) (N := some 19) (v := ?_) (a' := ?_) #[YY,YY,YY,YY,ZZ,YY,ZZ,YY,ZZ,ZZ,ZZ,ZZ,ZZ] rfl rfl (take_ofW HT_.out HW_.out (by kernel_rfl)) (fun _ _ _ h => h) (Or.inl ⟨by rfl, ?_⟩) hHeld ?_ ?_
     rotate_left
     ·rintro w' ⟨s0, s1, s2, s3⟩
      go_simp
      with_reducible rfl
     rotate_left
     ·simp only [Act.put, sA1, sA2, sA3, i64_w, i32_w]
      rfl
     refine pU_ 4 20 #[YY,YY,YY,YY,YY,YY,ZZ,YY,ZZ,ZZ,ZZ,ZZ,ZZ] ?_
     refine take_ (i := 6) (N := some 22) (v := ?_) (a' := ?_) #[YY,YY,YY,YY,YY,YY,YY,YY,ZZ,ZZ,ZZ,ZZ,ZZ] rfl rfl (take_ofW HT_.out HW_.out (by kernel_rfl)) (fun _ _ _ h => h) (Or.inl ⟨by rfl, ?_⟩) hHeld ?_ ?_
     rotate_left
     ·rintro w' ⟨s0, s1, s2, s3⟩
      go_simp
      with_reducible rfl
     rotate_left
     ·simp only [Act.put, sA1, sA2, sA3, i64_w, i32_w]
      rfl
     refine take_ (i := 8) (N := some 24) (v := ?_) (a' := ?_) #[YY,YY,YY,YY,YY,YY,YY,YY,YY,ZZ,ZZ,ZZ,ZZ] rfl rfl (take_ofW HT_.out HW_.out (by kernel_rfl)) (fun _ _ _ h => h) (Or.inl ⟨by rfl, ?_⟩) hHeld ?_ ?_
     rotate_left
     ·rintro w' ⟨s0, s1, s2, s3⟩
      go_simp
      with_reducible rfl
     rotate_left
     ·simp only [Act.put, sA1, sA2, sA3, i64_w, i32_w]
      rfl
     refine join_ (σ := Nat) 1 #[YY,YY,YY,YY,YY,YY,YY,YY,YY,YY,YY,YY,ZZ] (fun s_ => [(25, .string t133), (6, .pointer (some ⟨s_, 0, none⟩)), (26, .agg #[.string (mxs a0_0 a1_0), .string t133])]) (fun s_ w' => (w'.cell? ⟨gb128, 0, none⟩ = some (.string a0_0) ∧ w'.cell? ⟨gb128, 1, none⟩ = some (.string a0_1) ∧ w'.cell? ⟨gb129, 0, none⟩ = some (.string a1_0) ∧ w'.cell? ⟨gb129, 1, none⟩ = some (.string a1_1)) ∧ (w'.heap[gb128]? = some (.cells #[.string a0_0, .string a0_1] 28 (0, 0))) ∧ (w'.heap[gb129]? = some (.cells #[.string a1_0, .string a1_1] 28 (0, 0))) ∧ (w'.heap[gb130]? = some (.cells #[.string (⟨#[]⟩ : BA), .string (⟨#[]⟩ : BA)] 28 (0, 0))) ∧ (w'.heap[s_]? = some (.cells #[.string (⟨#[]⟩ : BA), .string (⟨#[]⟩ : BA)] 28 (0, 0))) ∧ (w.heap.size ≤ s_) ∧ (w.heap.size ≤ s_) ∧ (gb128 ≠ s_) ∧ (s_ ≠ gb128) ∧ (gb129 ≠ s_) ∧ (s_ ≠ gb129) ∧ (gb130 ≠ s_) ∧ (s_ ≠ gb130) ∧ (Below w.heap.size w w')) ?_ ?_
     rotate_left
     ·intro hCont
      refine two_ (i := 9) (j := 11) (Ni := some 25) (Nj := some 6) #[YY,YY,YY,YY,YY,YY,YY,YY,YY,YY,ZZ,ZZ,ZZ] #[YY,YY,YY,YY,YY,YY,YY,YY,YY,ZZ,ZZ,YY,ZZ] rfl rfl rfl rfl (two_of HT_.out (by kernel_rfl)) (by decide) (by decide) (fun K hK => ?_) (fun K hK => ?_)
      ·skip
       refine goes_ Try.func88 (by kernel_rfl) rfl #[.string a0_1, .string a1_1] (by rfl) rfl rfl mS_ ?_
       with_reducible refine (key_First.calls a0_1 a1_1 t133 _ A25.out).mono ?_
       rintro e w' ⟨rfl, ⟨nd, rfl⟩⟩
       refine ⟨_, rfl, ?_⟩
       refine hK.out _ _ ⟨(bC BK128.out 0).trans rfl, (bC BK128.out 1).trans rfl, (bC BK129.out 0).trans rfl, (bC BK129.out 1).trans rfl⟩ (fun hHeld => ?_)
       clear hK K
       refine norm_ (a' := ?_) ?_ ?_
       rotate_left
       ·show Act.put _ (some 25) _ = _
        simp only [Act.put, sA1, sA2, sA3, i64_w, i32_w]
        rfl
       refine pU_ 10 26 #[YY,YY,YY,YY,YY,YY,YY,YY,YY,YY,YY,ZZ,ZZ] ?_
       refine one_ (i := 11) (N := some 6) #[YY,YY,YY,YY,YY,YY,YY,YY,YY,YY,YY,YY,ZZ] rfl rfl (one_of HT_.out (by kernel_rfl)) (by decide) (fun K hK => ?_)
       refine box_step ?hg (N := 6) ?hd (cs := #[.string (⟨#[]⟩ : BA), .string (⟨#[]⟩ : BA)]) (t := 28) ?hr ?_; (case hd => rfl); (case hg => rfl); (case hr => first | (go_simp; done) | (go_simp; rfl))
       intro gb134 hg w29 hbox hb
       have n0_ := Aside0.mk (bB (bX_ BK128.out) hb)
       have n1_ := Aside0.mk (bB (bX_ BK129.out) hb)
       have n2_ := Aside0.mk (bB (bX_ BK130.out) hb)
       have n3_ := Aside0.mk (wT (bS3_ GE128.out GE129.out GE130.out) hb)
       have n4_ := Aside0.mk (hbox)
       have n5_ := Aside0.mk ((by rw [hg]; exact (wZ (bS3_ GE128.out GE129.out GE130.out)) : w.heap.size ≤ gb134))
       have n6_ := Aside0.mk ((by rw [hg]; exact (wZ (bS3_ GE128.out GE129.out GE130.out)) : w.heap.size ≤ gb134))
       have n7_ := Aside0.mk ((by rw [hg]; exact Nat.ne_of_lt (blk_lt (g := gb128) (o := .cells #[.string a0_0, .string a0_1] 28 (0, 0)) (bX_ BK128.out)) : gb128 ≠ gb134))
       have n8_ := Aside0.mk ((by rw [hg]; exact Nat.ne_of_gt (blk_lt (g := gb128) (o := .cells #[.string a0_0, .string a0_1] 28 (0, 0)) (bX_ BK128.out)) : gb134 ≠ gb128))
       have n9_ := Aside0.mk ((by rw [hg]; exact Nat.ne_of_lt (blk_lt (g := gb129) (o := .cells #[.string a1_0, .string a1_1] 28 (0, 0)) (bX_ BK129.out)) : gb129 ≠ gb134))
       have n10_ := Aside0.mk ((by rw [hg]; exact Nat.ne_of_gt (blk_lt (g := gb129) (o := .cells #[.string a1_0, .string a1_1] 28 (0, 0)) (bX_ BK129.out)) : gb134 ≠ gb129))
       have n11_ := Aside0.mk ((by rw [hg]; exact Nat.ne_of_lt (blk_lt (g := gb130) (o := .cells #[.string (⟨#[]⟩ : BA), .string (⟨#[]⟩ : BA)] 28 (0, 0)) (bX_ BK130.out)) : gb130 ≠ gb134))
       have n12_ := Aside0.mk ((by rw [hg]; exact Nat.ne_of_gt (blk_lt (g := gb130) (o := .cells #[.string (⟨#[]⟩ : BA), .string (⟨#[]⟩ : BA)] 28 (0, 0)) (bX_ BK130.out)) : gb134 ≠ gb130))
       clear BK128
       clear BK129
       clear BK130
       clear HB
       have BK128 := n0_
       have BK129 := n1_
       have BK130 := n2_
       have HB := n3_
       have BK134 := n4_
       have GW134 := n5_
       have GE134 := n6_
       have NB128_134 := n7_
       have NB134_128 := n8_
       have NB129_134 := n9_
       have NB134_129 := n10_
       have NB130_134 := n11_
       have NB134_130 := n12_
       clear n0_ n1_ n2_ n3_ n4_ n5_ n6_ n7_ n8_ n9_ n10_ n11_ n12_
       clear hb hbox hg
       refine hK.out _ _ ⟨(bC BK128.out 0).trans rfl, (bC BK128.out 1).trans rfl, (bC BK129.out 0).trans rfl, (bC BK129.out 1).trans rfl⟩ (fun hHeld => ?_)
       clear hK K
       refine norm_ (a' := ?_) ?_ ?_
       rotate_left
       ·show Act.put _ (some 6) _ = _
        simp only [Act.put, sA1, sA2, sA3, i64_w, i32_w]
        rfl
       exact norm_ (by simp only [putAll, Act.put, sA1, sA2, sA3]) (hCont (gb134) _ ⟨hHeld, (bX_ BK128.out), (bX_ BK129.out), (bX_ BK130.out), (bX_ BK134.out), GW134.out, GE134.out, NB128_134.out, NB134_128.out, NB129_134.out, NB134_129.out, NB130_134.out, NB134_130.out, (bS4_ GE128.out GE129.out GE130.out GE134.out)⟩)
      ·skip
       refine box_step ?hg (N := 6) ?hd (cs := #[.string (⟨#[]⟩ : BA), .string (⟨#[]⟩ : BA)]) (t := 28) ?hr ?_; (case hd => rfl); (case hg => rfl); (case hr => first | (go_simp; done) | (go_simp; rfl))
       intro gb134 hg w29 hbox hb
       have n0_ := Aside0.mk (bB (bX_ BK128.out) hb)
       have n1_ := Aside0.mk (bB (bX_ BK129.out) hb)
       have n2_ := Aside0.mk (bB (bX_ BK130.out) hb)
       have n3_ := Aside0.mk (wT (bS3_ GE128.out GE129.out GE130.out) hb)
       have n4_ := Aside0.mk (hbox)
       have n5_ := Aside0.mk ((by rw [hg]; exact (wZ (bS3_ GE128.out GE129.out GE130.out)) : w.heap.size ≤ gb134))
       have n6_ := Aside0.mk ((by rw [hg]; exact (wZ (bS3_ GE128.out GE129.out GE130.out)) : w.heap.size ≤ gb134))
       have n7_ := Aside0.mk ((by rw [hg]; exact Nat.ne_of_lt (blk_lt (g := gb128) (o := .cells #[.string a0_0, .string a0_1] 28 (0, 0)) (bX_ BK128.out)) : gb128 ≠ gb134))
       have n8_ := Aside0.mk ((by rw [hg]; exact Nat.ne_of_gt (blk_lt (g := gb128) (o := .cells #[.string a0_0, .string a0_1] 28 (0, 0)) (bX_ BK128.out)) : gb134 ≠ gb128))
       have n9_ := Aside0.mk ((by rw [hg]; exact Nat.ne_of_lt (blk_lt (g := gb129) (o := .cells #[.string a1_0, .string a1_1] 28 (0, 0)) (bX_ BK129.out)) : gb129 ≠ gb134))
       have n10_ := Aside0.mk ((by rw [hg]; exact Nat.ne_of_gt (blk_lt (g := gb129) (o := .cells #[.string a1_0, .string a1_1] 28 (0, 0)) (bX_ BK129.out)) : gb134 ≠ gb129))
       have n11_ := Aside0.mk ((by rw [hg]; exact Nat.ne_of_lt (blk_lt (g := gb130) (o := .cells #[.string (⟨#[]⟩ : BA), .string (⟨#[]⟩ : BA)] 28 (0, 0)) (bX_ BK130.out)) : gb130 ≠ gb134))
       have n12_ := Aside0.mk ((by rw [hg]; exact Nat.ne_of_gt (blk_lt (g := gb130) (o := .cells #[.string (⟨#[]⟩ : BA), .string (⟨#[]⟩ : BA)] 28 (0, 0)) (bX_ BK130.out)) : gb134 ≠ gb130))
       clear BK128
       clear BK129
       clear BK130
       clear HB
       have BK128 := n0_
       have BK129 := n1_
       have BK130 := n2_
       have HB := n3_
       have BK134 := n4_
       have GW134 := n5_
       have GE134 := n6_
       have NB128_134 := n7_
       have NB134_128 := n8_
       have NB129_134 := n9_
       have NB134_129 := n10_
       have NB130_134 := n11_
       have NB134_130 := n12_
       clear n0_ n1_ n2_ n3_ n4_ n5_ n6_ n7_ n8_ n9_ n10_ n11_ n12_
       clear hb hbox hg
       refine hK.out _ _ ⟨(bC BK128.out 0).trans rfl, (bC BK128.out 1).trans rfl, (bC BK129.out 0).trans rfl, (bC BK129.out 1).trans rfl⟩ (fun hHeld => ?_)
       clear hK K
       refine norm_ (a' := ?_) ?_ ?_
       rotate_left
       ·show Act.put _ (some 6) _ = _
        simp only [Act.put, sA1, sA2, sA3, i64_w, i32_w]
        rfl
       refine one_ (i := 9) (N := some 25) #[YY,YY,YY,YY,YY,YY,YY,YY,YY,YY,ZZ,YY,ZZ] rfl rfl (one_of HT_.out (by kernel_rfl)) (by decide) (fun K hK => ?_)
       refine goes_ Try.func88 (by kernel_rfl) rfl #[.string a0_1, .string a1_1] (by rfl) rfl rfl mS_ ?_
       with_reducible refine (key_First.calls a0_1 a1_1 t133 _ A25.out).mono ?_
       rintro e w' ⟨rfl, ⟨nd, rfl⟩⟩
       refine ⟨_, rfl, ?_⟩
       refine hK.out _ _ ⟨(bC BK128.out 0).trans rfl, (bC BK128.out 1).trans rfl, (bC BK129.out 0).trans rfl, (bC BK129.out 1).trans rfl⟩ (fun hHeld => ?_)
       clear hK K
       refine norm_ (a' := ?_) ?_ ?_
       rotate_left
       ·show Act.put _ (some 25) _ = _
        simp only [Act.put, sA1, sA2, sA3, i64_w, i32_w]
        rfl
       refine pU_ 10 26 #[YY,YY,YY,YY,YY,YY,YY,YY,YY,YY,YY,YY,ZZ] ?_
       exact norm_ (by simp only [putAll, Act.put, sA1, sA2, sA3]) (hCont (gb134) _ ⟨hHeld, (bX_ BK128.out), (bX_ BK129.out), (bX_ BK130.out), (bX_ BK134.out), GW134.out, GE134.out, NB128_134.out, NB134_128.out, NB129_134.out, NB134_129.out, NB130_134.out, NB134_130.out, (bS4_ GE128.out GE129.out GE130.out GE134.out)⟩)
     rintro gb134 w30 ⟨hS_, h0_, h1_, h2_, h3_, h4_, h5_, h6_, h7_, h8_, h9_, h10_, h11_, h12_⟩
     have n0_ : Aside0 (w30.heap[gb128]? = some (.cells #[.string a0_0, .string a0_1] 28 (0, 0))) := ⟨h0_⟩
     have n1_ : Aside0 (w30.heap[gb129]? = some (.cells #[.string a1_0, .string a1_1] 28 (0, 0))) := ⟨h1_⟩
     have n2_ : Aside0 (w30.heap[gb130]? = some (.cells #[.string (⟨#[]⟩ : BA), .string (⟨#[]⟩ : BA)] 28 (0, 0))) := ⟨h2_⟩
     have n3_ : Aside0 (w30.heap[gb134]? = some (.cells #[.string (⟨#[]⟩ : BA), .string (⟨#[]⟩ : BA)] 28 (0, 0))) := ⟨h3_⟩
     have n4_ : Aside0 (w.heap.size ≤ gb134) := ⟨h4_⟩
     have n5_ : Aside0 (w.heap.size ≤ gb134) := ⟨h5_⟩
     have n6_ : Aside0 (gb128 ≠ gb134) := ⟨h6_⟩
     have n7_ : Aside0 (gb134 ≠ gb128) := ⟨h7_⟩
     have n8_ : Aside0 (gb129 ≠ gb134) := ⟨h8_⟩
     have n9_ : Aside0 (gb134 ≠ gb129) := ⟨h9_⟩
     have n10_ : Aside0 (gb130 ≠ gb134) := ⟨h10_⟩
     have n11_ : Aside0 (gb134 ≠ gb130) := ⟨h11_⟩
     have n12_ : Aside0 (Below w.heap.size w w30) := ⟨h12_⟩
     clear BK128
     clear BK129
     clear BK130
     clear HB
     clear h0_ h1_ h2_ h3_ h4_ h5_ h6_ h7_ h8_ h9_ h10_ h11_ h12_
     have BK128 := n0_
     have BK129 := n1_
     have BK130 := n2_
     have BK134 := n3_
     have GW134 := n4_
     have GE134 := n5_
     have NB128_134 := n6_
     have NB134_128 := n7_
     have NB129_134 := n8_
     have NB134_129 := n9_
     have NB130_134 := n10_
     have NB134_130 := n11_
     have HB := n12_
     clear n0_ n1_ n2_ n3_ n4_ n5_ n6_ n7_ n8_ n9_ n10_ n11_ n12_
     have hHeld : w30.cell? ⟨gb128, 0, none⟩ = some (.string a0_0) ∧ w30.cell? ⟨gb128, 1, none⟩ = some (.string a0_1) ∧ w30.cell? ⟨gb129, 0, none⟩ = some (.string a1_0) ∧ w30.cell? ⟨gb129, 1, none⟩ = some (.string a1_1) := hS_
     refine norm_ (a' := ?_) ?_ ?_
     rotate_left
     ·simp only [putAll, Act.put, sA1, sA2, sA3]
      rfl
     refine one_ (i := 12) (N := none) #[YY,YY,YY,YY,YY,YY,YY,YY,YY,YY,YY,YY,YY] rfl rfl (one_of HT_.out (by kernel_rfl)) (by decide) (fun K hK => ?_)
     have hs31 : w30.cell? ⟨gb134, 0, none⟩ = some (.string (⟨#[]⟩ : BA)) := (bC BK134.out 0).trans rfl
     have hfs31 := bF BK134.out 0
     have hns31_0 := NB128_134.out
     have hns31_1 := NB129_134.out
     have hns31_2 := NB130_134.out
     have hms31_0 := NB134_128.out
     have hms31_1 := NB134_129.out
     have hms31_2 := NB134_130.out
     have hs32 : w30.cell? ⟨gb134, 1, none⟩ = some (.string (⟨#[]⟩ : BA)) := (bC BK134.out 1).trans rfl
     have hfs32 := bF BK134.out 1
     have hns32_0 := NB128_134.out
     have hns32_1 := NB129_134.out
     have hns32_2 := NB130_134.out
     have hms32_0 := NB134_128.out
     have hms32_1 := NB134_129.out
     have hms32_2 := NB134_130.out
     refine skip_ (w1 := ?_) (by rfl) rfl ?_ ?_
     rotate_left
     ·go_simp
      rfl
     refine hK.out _ _ ⟨((cF (p := ⟨gb134, _, none⟩) NB128_134.out _).trans (((cF (p := ⟨gb134, _, none⟩) NB128_134.out _).trans (hHeld.1)))), ((cF (p := ⟨gb134, _, none⟩) NB128_134.out _).trans (((cF (p := ⟨gb134, _, none⟩) NB128_134.out _).trans (hHeld.2.1)))), ((cF (p := ⟨gb134, _, none⟩) NB129_134.out _).trans (((cF (p := ⟨gb134, _, none⟩) NB129_134.out _).trans (hHeld.2.2.1)))), ((cF (p := ⟨gb134, _, none⟩) NB129_134.out _).trans (((cF (p := ⟨gb134, _, none⟩) NB129_134.out _).trans (hHeld.2.2.2))))⟩ (fun hHeld => ?_)
     clear hK K
     refine done_ (done_of HT_.out (by kernel_rfl)) ?_
     have hnb33 := NB134_128.out
     have hnc33 := NB128_134.out
     have hnb34 := NB134_129.out
     have hnc34 := NB129_134.out
     have hnb35 := NB134_130.out
     have hnc35 := NB130_134.out
     have hcz36_0 := cz_ BK134.out 0
     have hcz36_1 := cz_ BK134.out 1
     have hfz36_0 := bF BK134.out 0
     have hfz36_1 := bF BK134.out 1
     try go_wp2_with (first | ((with_reducible refine gate_callee (f := 53) rfl ?_); refine goesL_ (some 28) rfl rfl Try.func53 (by kernel_rfl) rfl #[.agg #[.string (mxs a0_0 a1_0), .string t133]] rfl mS_ ?_; (with_reducible refine (key_RightRange.calls (mxs a0_0 a1_0) t133 true _ A26.out).mono ?_); rintro e w37 ⟨rfl, hb⟩; refine ⟨_, rfl, ?_⟩; have n0_ := Aside0.mk (bB (g := gb128) (o := .cells #[.string a0_0, .string a0_1] 28 (0, 0)) (by (with_reducible repeat (first | refine bN ?_ _ | refine bD ?_ | refine bA ?_ _)); refine bR ?_ NB128_134.out _; (with_reducible repeat (first | refine bN ?_ _ | refine bD ?_ | refine bA ?_ _)); refine bR ?_ NB128_134.out _; (with_reducible repeat (first | refine bN ?_ _ | refine bD ?_ | refine bA ?_ _)); exact BK128.out) hb); have n1_ := Aside0.mk (bB (g := gb129) (o := .cells #[.string a1_0, .string a1_1] 28 (0, 0)) (by (with_reducible repeat (first | refine bN ?_ _ | refine bD ?_ | refine bA ?_ _)); refine bR ?_ NB129_134.out _; (with_reducible repeat (first | refine bN ?_ _ | refine bD ?_ | refine bA ?_ _)); refine bR ?_ NB129_134.out _; (with_reducible repeat (first | refine bN ?_ _ | refine bD ?_ | refine bA ?_ _)); exact BK129.out) hb); have n2_ := Aside0.mk (bB (g := gb130) (o := .cells #[.string (⟨#[]⟩ : BA), .string (⟨#[]⟩ : BA)] 28 (0, 0)) (by (with_reducible repeat (first | refine bN ?_ _ | refine bD ?_ | refine bA ?_ _)); refine bR ?_ NB130_134.out _; (with_reducible repeat (first | refine bN ?_ _ | refine bD ?_ | refine bA ?_ _)); refine bR ?_ NB130_134.out _; (with_reducible repeat (first | refine bN ?_ _ | refine bD ?_ | refine bA ?_ _)); exact BK130.out) hb); have n3_ := Aside0.mk (bB (g := gb134) (o := .cells #[.string (mxs a0_0 a1_0), .string t133] 28 (0, 0)) (by (with_reducible repeat (first | refine bN ?_ _ | refine bD ?_ | refine bA ?_ _)); refine bP (cs := #[.string (mxs a0_0 a1_0), .string (⟨#[]⟩ : BA)]) ?_ 1 _ rfl; (with_reducible repeat (first | refine bN ?_ _ | refine bD ?_ | refine bA ?_ _)); refine bP (cs := #[.string (⟨#[]⟩ : BA), .string (⟨#[]⟩ : BA)]) ?_ 0 _ rfl; (with_reducible repeat (first | refine bN ?_ _ | refine bD ?_ | refine bA ?_ _)); exact BK134.out) hb); have n4_ := Aside0.mk (wT (bS4_ GE128.out GE129.out GE130.out GE134.out) hb); clear BK128; clear BK129; clear BK130; clear BK134; clear HB; have BK128 := n0_; have BK129 := n1_; have BK130 := n2_; have BK134 := n3_; have HB := n4_; clear n0_ n1_ n2_ n3_ n4_; (try clear hb); (try clear hb2); (try clear hk); (try clear hi); have hcz38_0 := cz_ BK134.out 0; have hcz38_1 := cz_ BK134.out 1; have hfz38_0 := bF BK134.out 0; have hfz38_1 := bF BK134.out 1; have hnb39 := NB130_128.out; have hnc39 := NB128_130.out; have hnb40 := NB130_129.out; have hnc40 := NB129_130.out; have hcz41_0 := cz_ BK130.out 0; have hcz41_1 := cz_ BK130.out 1; have hfz41_0 := bF BK130.out 0; have hfz41_1 := bF BK130.out 1))
     refine bodyPost_ret (results_ct rfl _ _ gb130 28 #[.string (mxs a0_0 a1_0), .string t133] (0, 0) _ rfl (by (with_reducible repeat (first | refine bN ?_ _ | refine bD ?_ | refine bA ?_ _)); refine bP (cs := #[.string (mxs a0_0 a1_0), .string (⟨#[]⟩ : BA)]) ?_ 1 _ rfl; (with_reducible repeat (first | refine bN ?_ _ | refine bD ?_ | refine bA ?_ _)); refine bP (cs := #[.string (⟨#[]⟩ : BA), .string (⟨#[]⟩ : BA)]) ?_ 0 _ rfl; (with_reducible repeat (first | refine bN ?_ _ | refine bD ?_ | refine bA ?_ _)); exact BK130.out) Try.underlying28 rfl (by kernel_rfl)) rfl ?_
     exact ⟨by first | rfl | (simp [errW_none, errW_some] <;> rfl) | (simp [*, errW_none, errW_some] <;> rfl), by repeat (first | (with_reducible first | exact HB.out | apply wA | apply wN | apply w1 | refine wS ?_ GE128.out | refine wS ?_ GE129.out | refine wS ?_ GE130.out | refine wS ?_ GE134.out) | exact HB.out)⟩
    ·replace c27 := Bool.eq_false_iff.mpr c27
     subst c27
     have H1 : (some ((⟨#[]⟩ : BA), (⟨#[]⟩ : BA), false)) = some (r1, r2, r3) := by rw [if_neg (show ¬ (false = true) by decide)] at H; exact H
     clear H
     have H := H1
     clear H1
     simp only [Option.some.injEq, Prod.mk.injEq] at H
     obtain ⟨rfl, rfl, rfl⟩ := H
     try go_wp2
     have n0_ := Aside0.mk (bD BK128.out)
     have n1_ := Aside0.mk (bD BK129.out)
     have n2_ := Aside0.mk (bD BK130.out)
     have n3_ := Aside0.mk (w1 HB.out)
     clear BK128
     clear BK129
     clear BK130
     clear HB
     have BK128 := n0_
     have BK129 := n1_
     have BK130 := n2_
     have HB := n3_
     clear n0_ n1_ n2_ n3_
     refine start_ (n := 13) (S := fun w' => w'.cell? ⟨gb128, 0, none⟩ = some (.string a0_0) ∧ w'.cell? ⟨gb128, 1, none⟩ = some (.string a0_1) ∧ w'.cell? ⟨gb129, 0, none⟩ = some (.string a1_0) ∧ w'.cell? ⟨gb129, 1, none⟩ = some (.string a1_1)) (ds := []) #[ZZ,ZZ,ZZ,ZZ,ZZ,ZZ,ZZ,ZZ,ZZ,ZZ,ZZ,ZZ,ZZ] (by kernel_rfl) rfl rfl ⟨(bC BK128.out 0).trans rfl, (bC BK128.out 1).trans rfl, (bC BK129.out 0).trans rfl, (bC BK129.out 1).trans rfl⟩ (fun hHeld => ?_); refine with_tabW key_Meet.tab3 key_Meet.bits3 (fun HT_ HW_ => ?_)
     generalize wc.drew = w42 at BK128 BK129 BK130 HB hHeld ⊢
     refine pU_ 0 16 #[YY,ZZ,ZZ,ZZ,ZZ,ZZ,ZZ,ZZ,ZZ,ZZ,ZZ,ZZ,ZZ] ?_
     refine pU_ 2 18 #[YY,ZZ,YY,ZZ,ZZ,ZZ,ZZ,ZZ,ZZ,ZZ,ZZ,ZZ,ZZ] ?_
     refine pU_ 5 21 #[YY,ZZ,YY,ZZ,ZZ,YY,ZZ,ZZ,ZZ,ZZ,ZZ,ZZ,ZZ] ?_
     refine pU_ 7 23 #[YY,ZZ,YY,ZZ,ZZ,YY,ZZ,YY,ZZ,ZZ,ZZ,ZZ,ZZ] ?_
     refine take_ (i := 1) (N := some 17) (v := ?_) (a' := ?_) #[YY,YY,YY,ZZ,ZZ,YY,ZZ,YY,ZZ,ZZ,ZZ,ZZ,ZZ] rfl rfl (take_ofW HT_.out HW_.out (by kernel_rfl)) (fun _ _ _ h => h) (Or.inl ⟨by rfl, ?_⟩) hHeld ?_ ?_
     rotate_left
     ·rintro w' ⟨s0, s1, s2, s3⟩
      go_simp
      with_reducible rfl
     rotate_left
     ·simp only [Act.put, sA1, sA2, sA3, i64_w, i32_w]
      rfl
     refine take_ (i := 3) (N := some 19) (v := ?_) (a' := ?_) #[YY,YY,YY,YY,ZZ,YY,ZZ,YY,ZZ,ZZ,ZZ,ZZ,ZZ] rfl rfl (take_ofW HT_.out HW_.out (by kernel_rfl)) (fun _ _ _ h => h) (Or.inl ⟨by rfl, ?_⟩) hHeld ?_ ?_
     rotate_left
     ·rintro w' ⟨s0, s1, s2, s3⟩
      go_simp
      with_reducible rfl
     rotate_left
     ·simp only [Act.put, sA1, sA2, sA3, i64_w, i32_w]
      rfl
     refine pU_ 4 20 #[YY,YY,YY,YY,YY,YY,ZZ,YY,ZZ,ZZ,ZZ,ZZ,ZZ] ?_
     refine take_ (i := 6) (N := some 22) (v := ?_) (a' := ?_) #[YY,YY,YY,YY,YY,YY,YY,YY,ZZ,ZZ,ZZ,ZZ,ZZ] rfl rfl (take_ofW HT_.out HW_.out (by kernel_rfl)) (fun _ _ _ h => h) (Or.inl ⟨by rfl, ?_⟩) hHeld ?_ ?_
     rotate_left
     ·rintro w' ⟨s0, s1, s2, s3⟩
      go_simp
      with_reducible rfl
     rotate_left
     ·simp only [Act.put, sA1, sA2, sA3, i64_w, i32_w]
      rfl
     refine take_ (i := 8) (N := some 24) (v := ?_) (a' := ?_) #[YY,YY,YY,YY,YY,YY,YY,YY,YY,ZZ,ZZ,ZZ,ZZ] rfl rfl (take_ofW HT_.out HW_.out (by kernel_rfl)) (fun _ _ _ h => h) (Or.inl ⟨by rfl, ?_⟩) hHeld ?_ ?_
     rotate_left
     ·rintro w' ⟨s0, s1, s2, s3⟩
      go_simp
      with_reducible rfl
     rotate_left
     ·simp only [Act.put, sA1, sA2, sA3, i64_w, i32_w]
      rfl
     refine join_ (σ := Nat) 1 #[YY,YY,YY,YY,YY,YY,YY,YY,YY,YY,YY,YY,ZZ] (fun s_ => [(25, .string t133), (6, .pointer (some ⟨s_, 0, none⟩)), (26, .agg #[.string (mxs a0_0 a1_0), .string t133])]) (fun s_ w' => (w'.cell? ⟨gb128, 0, none⟩ = some (.string a0_0) ∧ w'.cell? ⟨gb128, 1, none⟩ = some (.string a0_1) ∧ w'.cell? ⟨gb129, 0, none⟩ = some (.string a1_0) ∧ w'.cell? ⟨gb129, 1, none⟩ = some (.string a1_1)) ∧ (w'.heap[gb128]? = some (.cells #[.string a0_0, .string a0_1] 28 (0, 0))) ∧ (w'.heap[gb129]? = some (.cells #[.string a1_0, .string a1_1] 28 (0, 0))) ∧ (w'.heap[gb130]? = some (.cells #[.string (⟨#[]⟩ : BA), .string (⟨#[]⟩ : BA)] 28 (0, 0))) ∧ (w'.heap[s_]? = some (.cells #[.string (⟨#[]⟩ : BA), .string (⟨#[]⟩ : BA)] 28 (0, 0))) ∧ (w.heap.size ≤ s_) ∧ (w.heap.size ≤ s_) ∧ (gb128 ≠ s_) ∧ (s_ ≠ gb128) ∧ (gb129 ≠ s_) ∧ (s_ ≠ gb129) ∧ (gb130 ≠ s_) ∧ (s_ ≠ gb130) ∧ (Below w.heap.size w w')) ?_ ?_
     rotate_left
     ·intro hCont
      refine two_ (i := 9) (j := 11) (Ni := some 25) (Nj := some 6) #[YY,YY,YY,YY,YY,YY,YY,YY,YY,YY,ZZ,ZZ,ZZ] #[YY,YY,YY,YY,YY,YY,YY,YY,YY,ZZ,ZZ,YY,ZZ] rfl rfl rfl rfl (two_of HT_.out (by kernel_rfl)) (by decide) (by decide) (fun K hK => ?_) (fun K hK => ?_)
      ·skip
       refine goes_ Try.func88 (by kernel_rfl) rfl #[.string a0_1, .string a1_1] (by rfl) rfl rfl mS_ ?_
       with_reducible refine (key_First.calls a0_1 a1_1 t133 _ A25.out).mono ?_
       rintro e w' ⟨rfl, ⟨nd, rfl⟩⟩
       refine ⟨_, rfl, ?_⟩
       refine hK.out _ _ ⟨(bC BK128.out 0).trans rfl, (bC BK128.out 1).trans rfl, (bC BK129.out 0).trans rfl, (bC BK129.out 1).trans rfl⟩ (fun hHeld => ?_)
       clear hK K
       refine norm_ (a' := ?_) ?_ ?_
       rotate_left
       ·show Act.put _ (some 25) _ = _
        simp only [Act.put, sA1, sA2, sA3, i64_w, i32_w]
        rfl
       refine pU_ 10 26 #[YY,YY,YY,YY,YY,YY,YY,YY,YY,YY,YY,ZZ,ZZ] ?_
       refine one_ (i := 11) (N := some 6) #[YY,YY,YY,YY,YY,YY,YY,YY,YY,YY,YY,YY,ZZ] rfl rfl (one_of HT_.out (by kernel_rfl)) (by decide) (fun K hK => ?_)
       refine box_step ?hg (N := 6) ?hd (cs := #[.string (⟨#[]⟩ : BA), .string (⟨#[]⟩ : BA)]) (t := 28) ?hr ?_; (case hd => rfl); (case hg => rfl); (case hr => first | (go_simp; done) | (go_simp; rfl))
       intro gb134 hg w43 hbox hb
       have n0_ := Aside0.mk (bB (bX_ BK128.out) hb)
       have n1_ := Aside0.mk (bB (bX_ BK129.out) hb)
       have n2_ := Aside0.mk (bB (bX_ BK130.out) hb)
       have n3_ := Aside0.mk (wT (bS3_ GE128.out GE129.out GE130.out) hb)
       have n4_ := Aside0.mk (hbox)
       have n5_ := Aside0.mk ((by rw [hg]; exact (wZ (bS3_ GE128.out GE129.out GE130.out)) : w.heap.size ≤ gb134))
       have n6_ := Aside0.mk ((by rw [hg]; exact (wZ (bS3_ GE128.out GE129.out GE130.out)) : w.heap.size ≤ gb134))
       have n7_ := Aside0.mk ((by rw [hg]; exact Nat.ne_of_lt (blk_lt (g := gb128) (o := .cells #[.string a0_0, .string a0_1] 28 (0, 0)) (bX_ BK128.out)) : gb128 ≠ gb134))
       have n8_ := Aside0.mk ((by rw [hg]; exact Nat.ne_of_gt (blk_lt (g := gb128) (o := .cells #[.string a0_0, .string a0_1] 28 (0, 0)) (bX_ BK128.out)) : gb134 ≠ gb128))
       have n9_ := Aside0.mk ((by rw [hg]; exact Nat.ne_of_lt (blk_lt (g := gb129) (o := .cells #[.string a1_0, .string a1_1] 28 (0, 0)) (bX_ BK129.out)) : gb129 ≠ gb134))
       have n10_ := Aside0.mk ((by rw [hg]; exact Nat.ne_of_gt (blk_lt (g := gb129) (o := .cells #[.string a1_0, .string a1_1] 28 (0, 0)) (bX_ BK129.out)) : gb134 ≠ gb129))
       have n11_ := Aside0.mk ((by rw [hg]; exact Nat.ne_of_lt (blk_lt (g := gb130) (o := .cells #[.string (⟨#[]⟩ : BA), .string (⟨#[]⟩ : BA)] 28 (0, 0)) (bX_ BK130.out)) : gb130 ≠ gb134))
       have n12_ := Aside0.mk ((by rw [hg]; exact Nat.ne_of_gt (blk_lt (g := gb130) (o := .cells #[.string (⟨#[]⟩ : BA), .string (⟨#[]⟩ : BA)] 28 (0, 0)) (bX_ BK130.out)) : gb134 ≠ gb130))
       clear BK128
       clear BK129
       clear BK130
       clear HB
       have BK128 := n0_
       have BK129 := n1_
       have BK130 := n2_
       have HB := n3_
       have BK134 := n4_
       have GW134 := n5_
       have GE134 := n6_
       have NB128_134 := n7_
       have NB134_128 := n8_
       have NB129_134 := n9_
       have NB134_129 := n10_
       have NB130_134 := n11_
       have NB134_130 := n12_
       clear n0_ n1_ n2_ n3_ n4_ n5_ n6_ n7_ n8_ n9_ n10_ n11_ n12_
       clear hb hbox hg
       refine hK.out _ _ ⟨(bC BK128.out 0).trans rfl, (bC BK128.out 1).trans rfl, (bC BK129.out 0).trans rfl, (bC BK129.out 1).trans rfl⟩ (fun hHeld => ?_)
       clear hK K
       refine norm_ (a' := ?_) ?_ ?_
       rotate_left
       ·show Act.put _ (some 6) _ = _
        simp only [Act.put, sA1, sA2, sA3, i64_w, i32_w]
        rfl
       exact norm_ (by simp only [putAll, Act.put, sA1, sA2, sA3]) (hCont (gb134) _ ⟨hHeld, (bX_ BK128.out), (bX_ BK129.out), (bX_ BK130.out), (bX_ BK134.out), GW134.out, GE134.out, NB128_134.out, NB134_128.out, NB129_134.out, NB134_129.out, NB130_134.out, NB134_130.out, (bS4_ GE128.out GE129.out GE130.out GE134.out)⟩)
      ·skip
       refine box_step ?hg (N := 6) ?hd (cs := #[.string (⟨#[]⟩ : BA), .string (⟨#[]⟩ : BA)]) (t := 28) ?hr ?_; (case hd => rfl); (case hg => rfl); (case hr => first | (go_simp; done) | (go_simp; rfl))
       intro gb134 hg w43 hbox hb
       have n0_ := Aside0.mk (bB (bX_ BK128.out) hb)
       have n1_ := Aside0.mk (bB (bX_ BK129.out) hb)
       have n2_ := Aside0.mk (bB (bX_ BK130.out) hb)
       have n3_ := Aside0.mk (wT (bS3_ GE128.out GE129.out GE130.out) hb)
       have n4_ := Aside0.mk (hbox)
       have n5_ := Aside0.mk ((by rw [hg]; exact (wZ (bS3_ GE128.out GE129.out GE130.out)) : w.heap.size ≤ gb134))
       have n6_ := Aside0.mk ((by rw [hg]; exact (wZ (bS3_ GE128.out GE129.out GE130.out)) : w.heap.size ≤ gb134))
       have n7_ := Aside0.mk ((by rw [hg]; exact Nat.ne_of_lt (blk_lt (g := gb128) (o := .cells #[.string a0_0, .string a0_1] 28 (0, 0)) (bX_ BK128.out)) : gb128 ≠ gb134))
       have n8_ := Aside0.mk ((by rw [hg]; exact Nat.ne_of_gt (blk_lt (g := gb128) (o := .cells #[.string a0_0, .string a0_1] 28 (0, 0)) (bX_ BK128.out)) : gb134 ≠ gb128))
       have n9_ := Aside0.mk ((by rw [hg]; exact Nat.ne_of_lt (blk_lt (g := gb129) (o := .cells #[.string a1_0, .string a1_1] 28 (0, 0)) (bX_ BK129.out)) : gb129 ≠ gb134))
       have n10_ := Aside0.mk ((by rw [hg]; exact Nat.ne_of_gt (blk_lt (g := gb129) (o := .cells #[.string a1_0, .string a1_1] 28 (0, 0)) (bX_ BK129.out)) : gb134 ≠ gb129))
       have n11_ := Aside0.mk ((by rw [hg]; exact Nat.ne_of_lt (blk_lt (g := gb130) (o := .cells #[.string (⟨#[]⟩ : BA), .string (⟨#[]⟩ : BA)] 28 (0, 0)) (bX_ BK130.out)) : gb130 ≠ gb134))
       have n12_ := Aside0.mk ((by rw [hg]; exact Nat.ne_of_gt (blk_lt (g := gb130) (o := .cells #[.string (⟨#[]⟩ : BA), .string (⟨#[]⟩ : BA)] 28 (0, 0)) (bX_ BK130.out)) : gb134 ≠ gb130))
       clear BK128
       clear BK129
       clear BK130
       clear HB
       have BK128 := n0_
       have BK129 := n1_
       have BK130 := n2_
       have HB := n3_
       have BK134 := n4_
       have GW134 := n5_
       have GE134 := n6_
       have NB128_134 := n7_
       have NB134_128 := n8_
       have NB129_134 := n9_
       have NB134_129 := n10_
       have NB130_134 := n11_
       have NB134_130 := n12_
       clear n0_ n1_ n2_ n3_ n4_ n5_ n6_ n7_ n8_ n9_ n10_ n11_ n12_
       clear hb hbox hg
       refine hK.out _ _ ⟨(bC BK128.out 0).trans rfl, (bC BK128.out 1).trans rfl, (bC BK129.out 0).trans rfl, (bC BK129.out 1).trans rfl⟩ (fun hHeld => ?_)
       clear hK K
       refine norm_ (a' := ?_) ?_ ?_
       rotate_left
       ·show Act.put _ (some 6) _ = _
        simp only [Act.put, sA1, sA2, sA3, i64_w, i32_w]
        rfl
       refine one_ (i := 9) (N := some 25) #[YY,YY,YY,YY,YY,YY,YY,YY,YY,YY,ZZ,YY,ZZ] rfl rfl (one_of HT_.out (by kernel_rfl)) (by decide) (fun K hK => ?_)
       refine goes_ Try.func88 (by kernel_rfl) rfl #[.string a0_1, .string a1_1] (by rfl) rfl rfl mS_ ?_
       with_reducible refine (key_First.calls a0_1 a1_1 t133 _ A25.out).mono ?_
       rintro e w' ⟨rfl, ⟨nd, rfl⟩⟩
       refine ⟨_, rfl, ?_⟩
       refine hK.out _ _ ⟨(bC BK128.out 0).trans rfl, (bC BK128.out 1).trans rfl, (bC BK129.out 0).trans rfl, (bC BK129.out 1).trans rfl⟩ (fun hHeld => ?_)
       clear hK K
       refine norm_ (a' := ?_) ?_ ?_
       rotate_left
       ·show Act.put _ (some 25) _ = _
        simp only [Act.put, sA1, sA2, sA3, i64_w, i32_w]
        rfl
       refine pU_ 10 26 #[YY,YY,YY,YY,YY,YY,YY,YY,YY,YY,YY,YY,ZZ] ?_
       exact norm_ (by simp only [putAll, Act.put, sA1, sA2, sA3]) (hCont (gb134) _ ⟨hHeld, (bX_ BK128.out), (bX_ BK129.out), (bX_ BK130.out), (bX_ BK134.out), GW134.out, GE134.out, NB128_134.out, NB134_128.out, NB129_134.out, NB134_129.out, NB130_134.out, NB134_130.out, (bS4_ GE128.out GE129.out GE130.out GE134.out)⟩)
     rintro gb134 w44 ⟨hS_, h0_, h1_, h2_, h3_, h4_, h5_, h6_, h7_, h8_, h9_, h10_, h11_, h12_⟩
     have n0_ : Aside0 (w44.heap[gb128]? = some (.cells #[.string a0_0, .string a0_1] 28 (0, 0))) := ⟨h0_⟩
     have n1_ : Aside0 (w44.heap[gb129]? = some (.cells #[.string a1_0, .string a1_1] 28 (0, 0))) := ⟨h1_⟩
     have n2_ : Aside0 (w44.heap[gb130]? = some (.cells #[.string (⟨#[]⟩ : BA), .string (⟨#[]⟩ : BA)] 28 (0, 0))) := ⟨h2_⟩
     have n3_ : Aside0 (w44.heap[gb134]? = some (.cells #[.string (⟨#[]⟩ : BA), .string (⟨#[]⟩ : BA)] 28 (0, 0))) := ⟨h3_⟩
     have n4_ : Aside0 (w.heap.size ≤ gb134) := ⟨h4_⟩
     have n5_ : Aside0 (w.heap.size ≤ gb134) := ⟨h5_⟩
     have n6_ : Aside0 (gb128 ≠ gb134) := ⟨h6_⟩
     have n7_ : Aside0 (gb134 ≠ gb128) := ⟨h7_⟩
     have n8_ : Aside0 (gb129 ≠ gb134) := ⟨h8_⟩
     have n9_ : Aside0 (gb134 ≠ gb129) := ⟨h9_⟩
     have n10_ : Aside0 (gb130 ≠ gb134) := ⟨h10_⟩
     have n11_ : Aside0 (gb134 ≠ gb130) := ⟨h11_⟩
     have n12_ : Aside0 (Below w.heap.size w w44) := ⟨h12_⟩
     clear BK128
     clear BK129
     clear BK130
     clear HB
     clear h0_ h1_ h2_ h3_ h4_ h5_ h6_ h7_ h8_ h9_ h10_ h11_ h12_
     have BK128 := n0_
     have BK129 := n1_
     have BK130 := n2_
     have BK134 := n3_
     have GW134 := n4_
     have GE134 := n5_
     have NB128_134 := n6_
     have NB134_128 := n7_
     have NB129_134 := n8_
     have NB134_129 := n9_
     have NB130_134 := n10_
     have NB134_130 := n11_
     have HB := n12_
     clear n0_ n1_ n2_ n3_ n4_ n5_ n6_ n7_ n8_ n9_ n10_ n11_ n12_
     have hHeld : w44.cell? ⟨gb128, 0, none⟩ = some (.string a0_0) ∧ w44.cell? ⟨gb128, 1, none⟩ = some (.string a0_1) ∧ w44.cell? ⟨gb129, 0, none⟩ = some (.string a1_0) ∧ w44.cell? ⟨gb129, 1, none⟩ = some (.string a1_1) := hS_
     refine norm_ (a' := ?_) ?_ ?_
     rotate_left
     ·simp only [putAll, Act.put, sA1, sA2, sA3]
      rfl
     refine one_ (i := 12) (N := none) #[YY,YY,YY,YY,YY,YY,YY,YY,YY,YY,YY,YY,YY] rfl rfl (one_of HT_.out (by kernel_rfl)) (by decide) (fun K hK => ?_)
     have hs45 : w44.cell? ⟨gb134, 0, none⟩ = some (.string (⟨#[]⟩ : BA)) := (bC BK134.out 0).trans rfl
     have hfs45 := bF BK134.out 0
     have hns45_0 := NB128_134.out
     have hns45_1 := NB129_134.out
     have hns45_2 := NB130_134.out
     have hms45_0 := NB134_128.out
     have hms45_1 := NB134_129.out
     have hms45_2 := NB134_130.out
     have hs46 : w44.cell? ⟨gb134, 1, none⟩ = some (.string (⟨#[]⟩ : BA)) := (bC BK134.out 1).trans rfl
     have hfs46 := bF BK134.out 1
     have hns46_0 := NB128_134.out
     have hns46_1 := NB129_134.out
     have hns46_2 := NB130_134.out
     have hms46_0 := NB134_128.out
     have hms46_1 := NB134_129.out
     have hms46_2 := NB134_130.out
     refine skip_ (w1 := ?_) (by rfl) rfl ?_ ?_
     rotate_left
     ·go_simp
      rfl
     refine hK.out _ _ ⟨((cF (p := ⟨gb134, _, none⟩) NB128_134.out _).trans (((cF (p := ⟨gb134, _, none⟩) NB128_134.out _).trans (hHeld.1)))), ((cF (p := ⟨gb134, _, none⟩) NB128_134.out _).trans (((cF (p := ⟨gb134, _, none⟩) NB128_134.out _).trans (hHeld.2.1)))), ((cF (p := ⟨gb134, _, none⟩) NB129_134.out _).trans (((cF (p := ⟨gb134, _, none⟩) NB129_134.out _).trans (hHeld.2.2.1)))), ((cF (p := ⟨gb134, _, none⟩) NB129_134.out _).trans (((cF (p := ⟨gb134, _, none⟩) NB129_134.out _).trans (hHeld.2.2.2))))⟩ (fun hHeld => ?_)
     clear hK K
     refine done_ (done_of HT_.out (by kernel_rfl)) ?_
     have hnb47 := NB134_128.out
     have hnc47 := NB128_134.out
     have hnb48 := NB134_129.out
     have hnc48 := NB129_134.out
     have hnb49 := NB134_130.out
     have hnc49 := NB130_134.out
     have hcz50_0 := cz_ BK134.out 0
     have hcz50_1 := cz_ BK134.out 1
     have hfz50_0 := bF BK134.out 0
     have hfz50_1 := bF BK134.out 1
     try go_wp2_with (first | ((with_reducible refine gate_callee (f := 53) rfl ?_); refine goesL_ (some 28) rfl rfl Try.func53 (by kernel_rfl) rfl #[.agg #[.string (mxs a0_0 a1_0), .string t133]] rfl mS_ ?_; (with_reducible refine (key_RightRange.calls (mxs a0_0 a1_0) t133 false _ A26.out).mono ?_); rintro e w51 ⟨rfl, hb⟩; refine ⟨_, rfl, ?_⟩; have n0_ := Aside0.mk (bB (g := gb128) (o := .cells #[.string a0_0, .string a0_1] 28 (0, 0)) (by (with_reducible repeat (first | refine bN ?_ _ | refine bD ?_ | refine bA ?_ _)); refine bR ?_ NB128_134.out _; (with_reducible repeat (first | refine bN ?_ _ | refine bD ?_ | refine bA ?_ _)); refine bR ?_ NB128_134.out _; (with_reducible repeat (first | refine bN ?_ _ | refine bD ?_ | refine bA ?_ _)); exact BK128.out) hb); have n1_ := Aside0.mk (bB (g := gb129) (o := .cells #[.string a1_0, .string a1_1] 28 (0, 0)) (by (with_reducible repeat (first | refine bN ?_ _ | refine bD ?_ | refine bA ?_ _)); refine bR ?_ NB129_134.out _; (with_reducible repeat (first | refine bN ?_ _ | refine bD ?_ | refine bA ?_ _)); refine bR ?_ NB129_134.out _; (with_reducible repeat (first | refine bN ?_ _ | refine bD ?_ | refine bA ?_ _)); exact BK129.out) hb); have n2_ := Aside0.mk (bB (g := gb130) (o := .cells #[.string (⟨#[]⟩ : BA), .string (⟨#[]⟩ : BA)] 28 (0, 0)) (by (with_reducible repeat (first | refine bN ?_ _ | refine bD ?_ | refine bA ?_ _)); refine bR ?_ NB130_134.out _; (with_reducible repeat (first | refine bN ?_ _ | refine bD ?_ | refine bA ?_ _)); refine bR ?_ NB130_134.out _; (with_reducible repeat (first | refine bN ?_ _ | refine bD ?_ | refine bA ?_ _)); exact BK130.out) hb); have n3_ := Aside0.mk (bB (g := gb134) (o := .cells #[.string (mxs a0_0 a1_0), .string t133] 28 (0, 0)) (by (with_reducible repeat (first | refine bN ?_ _ | refine bD ?_ | refine bA ?_ _)); refine bP (cs := #[.string (mxs a0_0 a1_0), .string (⟨#[]⟩ : BA)]) ?_ 1 _ rfl; (with_reducible repeat (first | refine bN ?_ _ | refine bD ?_ | refine bA ?_ _)); refine bP (cs := #[.string (⟨#[]⟩ : BA), .string (⟨#[]⟩ : BA)]) ?_ 0 _ rfl; (with_reducible repeat (first | refine bN ?_ _ | refine bD ?_ | refine bA ?_ _)); exact BK134.out) hb); have n4_ := Aside0.mk (wT (bS4_ GE128.out GE129.out GE130.out GE134.out) hb); clear BK128; clear BK129; clear BK130; clear BK134; clear HB; have BK128 := n0_; have BK129 := n1_; have BK130 := n2_; have BK134 := n3_; have HB := n4_; clear n0_ n1_ n2_ n3_ n4_; (try clear hb); (try clear hb2); (try clear hk); (try clear hi); have hnb52 := NB130_128.out; have hnc52 := NB128_130.out; have hnb53 := NB130_129.out; have hnc53 := NB129_130.out; have hcz54_0 := cz_ BK130.out 0; have hcz54_1 := cz_ BK130.out 1; have hfz54_0 := bF BK130.out 0; have hfz54_1 := bF BK130.out 1))
     refine bodyPost_ret (results_ct rfl _ _ gb130 28 #[.string (⟨#[]⟩ : BA), .string (⟨#[]⟩ : BA)] (0, 0) _ rfl (by (with_reducible repeat (first | refine bN ?_ _ | refine bD ?_ | refine bA ?_ _)); refine bP (cs := #[.string (⟨#[]⟩ : BA), .string (⟨#[]⟩ : BA)]) ?_ 1 _ rfl; (with_reducible repeat (first | refine bN ?_ _ | refine bD ?_ | refine bA ?_ _)); refine bP (cs := #[.string (⟨#[]⟩ : BA), .string (⟨#[]⟩ : BA)]) ?_ 0 _ rfl; (with_reducible repeat (first | refine bN ?_ _ | refine bD ?_ | refine bA ?_ _)); exact BK130.out) Try.underlying28 rfl (by kernel_rfl)) rfl ?_
     exact ⟨by first | rfl | (simp [errW_none, errW_some] <;> rfl) | (simp [*, errW_none, errW_some] <;> rfl), by repeat (first | (with_reducible first | exact HB.out | apply wA | apply wN | apply w1 | refine wS ?_ GE128.out | refine wS ?_ GE129.out | refine wS ?_ GE130.out | refine wS ?_ GE134.out) | exact HB.out)⟩
def key_After.f (a0 : BA) : Option (ByteArray) := if a0.size + 1 ≤ 9223372036854775807 then (some (a0 ++ (⟨#[0]⟩ : BA))) else (none)
set_option maxHeartbeats 8000000 in
set_option maxRecDepth 100000 in
theorem key_After.calls (a0 : BA) (r : BA) (w : World) (h : key_After.f a0 = some r) :
  Calls Try.prog 82 #[.string a0] w fun e w' => e = .returned (.string r) ∧ Drawn0 w w' := by
 have H : (if a0.size + 1 ≤ 9223372036854775807 then (some (a0 ++ (⟨#[0]⟩ : BA))) else (none)) = some r := h
 clear h
 by_cases c2 : a0.size + 1 ≤ 9223372036854775807
 ·rw [if_pos c2] at H
  have c2b0 := eq_true c2
  have c2b1 : decide (a0.size + 1 ≤ 9223372036854775807) = true := decide_eq_true c2
  try have c2b2 : (9223372036854775807 < a0.size + 1) = False := eq_false (Nat.not_lt.2 c2)
  obtain rfl := Option.some.inj H
  go_enter Try.func82, Try.ntmps82
  go_wp2
  go_ret
  exact ⟨by first | rfl | (simp; done) | (simp [*]; done), by repeat (first | exact Drawn0.refl _ | apply Drawn0.step)⟩
 ·rw [if_neg c2] at H
  exact absurd H (by simp)
def key_Point.f (a0 : BA) : Option (ByteArray × ByteArray) := (key_After.f a0).bind fun t137 => (some (a0, t137))
set_option maxHeartbeats 8000000 in
set_option maxRecDepth 100000 in
theorem key_Point.calls (a0 : BA) (r1 : BA) (r2 : BA) (w : World) (h : key_Point.f a0 = some (r1, r2)) :
  Calls Try.prog 89 #[.string a0] w fun e w' => e = .returned (.agg #[.string r1, .string r2]) ∧ Below w.heap.size w w' := by
 have hu28 := Try.underlying28
 have HB := Aside0.mk (Below.refl w.heap.size w)
 have H : ((key_After.f a0).bind fun t137 => (some (a0, t137))) = some (r1, r2) := h
 clear h
 replace H := Option.bind_eq_some_iff.mp H
 obtain ⟨t137, A20, H⟩ := H
 replace H : (some (a0, t137)) = some (r1, r2) := H
 have A2 := Aside0.mk A20
 clear A20
 simp only [Option.some.injEq, Prod.mk.injEq] at H
 obtain ⟨rfl, rfl⟩ := H
 go_enter Try.func89, Try.ntmps89
 go_wp2_with (first | ((with_reducible refine gate_dst (N := 2) rfl ?_); refine box_event ?hg (N := 2) ?hd (cs := #[.string (⟨#[]⟩ : BA), .string (⟨#[]⟩ : BA)]) (t := 28) ?hr ?_; (case hd => rfl); (case hg => rfl); (case hr => first | (go_simp; done) | (go_simp; rfl)); intro gb136 hg w3 hbox hb; have n0_ := Aside0.mk (wT bW_ hb); have n1_ := Aside0.mk (hbox); have n2_ := Aside0.mk ((by rw [hg]; exact (wZ bW_) : w.heap.size ≤ gb136)); have n3_ := n2_; clear HB; have HB := n0_; have BK136 := n1_; have GW136 := n2_; have GE136 := n3_; clear n0_ n1_ n2_ n3_; clear hb hbox hg) | ((with_reducible refine gate_callee (f := 82) rfl ?_); refine goesL_ (some 5) rfl rfl Try.func82 (by kernel_rfl) rfl #[.string a0] rfl mS_ ?_; (with_reducible refine (key_After.calls a0 t137 _ A2.out).mono ?_); rintro e w' ⟨rfl, ⟨nd, rfl⟩⟩; refine ⟨_, rfl, ?_⟩; (try (rw [drewN_self w3]; generalize hq_ : World.drewN w3 _ = w3; have n0_ : Aside0 (w3.heap[gb136]? = some (.cells #[.string (⟨#[]⟩ : BA), .string (⟨#[]⟩ : BA)] 28 (0, 0))) := ⟨by rw [← hq_]; exact (bX_ BK136.out)⟩; have n1_ : Aside0 (Below w.heap.size w w3) := ⟨by rw [← hq_]; exact (bS1_ GE136.out)⟩; clear BK136 HB hq_; have BK136 := n0_; have HB := n1_; clear n0_ n1_)); have hcz4_0 := cz_ BK136.out 0; have hcz4_1 := cz_ BK136.out 1; have hfz4_0 := bF BK136.out 0; have hfz4_1 := bF BK136.out 1))
 refine bodyPost_ret (results_cell_row rfl _ _ gb136 28 #[.string a0, .string t137] (0, 0) _ rfl (by (with_reducible repeat (first | refine bN ?_ _ | refine bD ?_ | refine bA ?_ _)); refine bP (cs := #[.string a0, .string (⟨#[]⟩ : BA)]) ?_ 1 _ rfl; (with_reducible repeat (first | refine bN ?_ _ | refine bD ?_ | refine bA ?_ _)); refine bP (cs := #[.string (⟨#[]⟩ : BA), .string (⟨#[]⟩ : BA)]) ?_ 0 _ rfl; (with_reducible repeat (first | refine bN ?_ _ | refine bD ?_ | refine bA ?_ _)); exact BK136.out) Try.underlying28 rfl (by kernel_rfl)) rfl ?_
 exact ⟨by first | rfl | (simp [errW_none, errW_some] <;> rfl) | (simp [*, errW_none, errW_some] <;> rfl), by repeat (first | (with_reducible first | exact HB.out | apply wA | apply wN | apply w1 | refine wS ?_ GE136.out) | exact HB.out)⟩
def msg_Span.f (a0_0 : Int) (a0_1 : Int) (a0_2 : BA) (a0_3 : BA) (a0_4 : BA) (a0_5 : Int) : Option (ByteArray × ByteArray) := (msg_IsPoint.f a0_0 a0_1 a0_2 a0_3 a0_4 a0_5).bind fun t140 => (if t140 = true then ((key_Point.f a0_2).bind fun bt141 => (some (bt141.1, bt141.2))) else (if a0_0 = 4 then (some (a0_2, a0_3)) else (some ((⟨#[]⟩ : BA), (⟨#[]⟩ : BA)))))
set_option maxHeartbeats 8000000 in
set_option maxRecDepth 100000 in
theorem msg_Span.calls (a0_0 : Int) (a0_1 : Int) (a0_2 : BA) (a0_3 : BA) (a0_4 : BA) (a0_5 : Int) (r1 : BA) (r2 : BA) (w : World) (h : msg_Span.f a0_0 a0_1 a0_2 a0_3 a0_4 a0_5 = some (r1, r2)) :
  Calls Try.prog 58 #[.agg #[.int .u8 a0_0, .int .i64 a0_1, .string a0_2, .string a0_3, .string a0_4, .int .u64 a0_5]] w fun e w' => e = .returned (.agg #[.string r1, .string r2]) ∧ Below w.heap.size w w' := by
 have hu32 := Try.underlying32
 have hu28 := Try.underlying28
 have HB := Aside0.mk (Below.refl w.heap.size w)
 have H : ((msg_IsPoint.f a0_0 a0_1 a0_2 a0_3 a0_4 a0_5).bind fun t140 => (if t140 = true then ((key_Point.f a0_2).bind fun bt141 => (some (bt141.1, bt141.2))) else (if a0_0 = 4 then (some (a0_2, a0_3)) else (some ((⟨#[]⟩ : BA), (⟨#[]⟩ : BA)))))) = some (r1, r2) := h
 clear h
 replace H := Option.bind_eq_some_iff.mp H
 obtain ⟨t140, A20, H⟩ := H
 replace H : (if t140 = true then ((key_Point.f a0_2).bind fun bt141 => (some (bt141.1, bt141.2))) else (if a0_0 = 4 then (some (a0_2, a0_3)) else (some ((⟨#[]⟩ : BA), (⟨#[]⟩ : BA))))) = some (r1, r2) := H
 have A2 := Aside0.mk A20
 clear A20
 by_cases c3 : t140 = true
 ·subst c3
  have H1 : ((key_Point.f a0_2).bind fun bt141 => (some (bt141.1, bt141.2))) = some (r1, r2) := by rw [if_pos rfl] at H; exact H
  clear H
  have H := H1
  clear H1
  replace H := Option.bind_eq_some_iff.mp H
  obtain ⟨⟨t141, t142⟩, A40, H⟩ := H
  replace H : (some (t141, t142)) = some (r1, r2) := H
  have A4 := Aside0.mk A40
  clear A40
  simp only [Option.some.injEq, Prod.mk.injEq] at H
  obtain ⟨rfl, rfl⟩ := H
  go_enter Try.func58, Try.ntmps58
  go_wp2_with (first | ((with_reducible refine gate_dst (N := 1) rfl ?_); refine box_event ?hg (N := 1) ?hd (cs := #[.int .u8 a0_0, .int .i64 a0_1, .string a0_2, .string a0_3, .string a0_4, .int .u64 a0_5]) (t := 32) ?hr ?_; (case hd => rfl); (case hg => rfl); (case hr => first | (go_simp; done) | (go_simp; rfl)); intro gb138 hg w5 hbox hb; have n0_ := Aside0.mk (wT bW_ hb); have n1_ := Aside0.mk (hbox); have n2_ := Aside0.mk ((by rw [hg]; exact (wZ bW_) : w.heap.size ≤ gb138)); have n3_ := n2_; clear HB; have HB := n0_; have BK138 := n1_; have GW138 := n2_; have GE138 := n3_; clear n0_ n1_ n2_ n3_; clear hb hbox hg) | ((with_reducible refine gate_dst (N := 2) rfl ?_); refine box_event ?hg (N := 2) ?hd (cs := #[.string (⟨#[]⟩ : BA), .string (⟨#[]⟩ : BA)]) (t := 28) ?hr ?_; (case hd => rfl); (case hg => rfl); (case hr => first | (go_simp; done) | (go_simp; rfl)); intro gb139 hg w6 hbox hb; have n0_ := Aside0.mk (bB (bX_ BK138.out) hb); have n1_ := Aside0.mk (wT (bS1_ GE138.out) hb); have n2_ := Aside0.mk (hbox); have n3_ := Aside0.mk ((by rw [hg]; exact (wZ (bS1_ GE138.out)) : w.heap.size ≤ gb139)); have n4_ := n3_; have n5_ := Aside0.mk ((by rw [hg]; exact Nat.ne_of_lt (blk_lt (g := gb138) (o := .cells #[.int .u8 a0_0, .int .i64 a0_1, .string a0_2, .string a0_3, .string a0_4, .int .u64 a0_5] 32 (0, 0)) (bX_ BK138.out)) : gb138 ≠ gb139)); have n6_ := Aside0.mk ((by rw [hg]; exact Nat.ne_of_gt (blk_lt (g := gb138) (o := .cells #[.int .u8 a0_0, .int .i64 a0_1, .string a0_2, .string a0_3, .string a0_4, .int .u64 a0_5] 32 (0, 0)) (bX_ BK138.out)) : gb139 ≠ gb138)); clear BK138; clear HB; have BK138 := n0_; have HB := n1_; have BK139 := n2_; have GW139 := n3_; have GE139 := n4_; have NB138_139 := n5_; have NB139_138 := n6_; clear n0_ n1_ n2_ n3_ n4_ n5_ n6_; clear hb hbox hg; have hnb7 := NB138_139.out; have hnc7 := NB139_138.out; have hcz8_0 := cz_ BK138.out 0; have hcz8_1 := cz_ BK138.out 1; have hcz8_2 := cz_ BK138.out 2; have hcz8_3 := cz_ BK138.out 3; have hcz8_4 := cz_ BK138.out 4; have hcz8_5 := cz_ BK138.out 5; have hfz8_0 := bF BK138.out 0; have hfz8_1 := bF BK138.out 1; have hfz8_2 := bF BK138.out 2; have hfz8_3 := bF BK138.out 3; have hfz8_4 := bF BK138.out 4; have hfz8_5 := bF BK138.out 5) | ((with_reducible refine gate_callee (f := 55) rfl ?_); refine goesL_ (some 5) rfl rfl Try.func55 (by kernel_rfl) rfl #[.agg #[.int .u8 a0_0, .int .i64 a0_1, .string a0_2, .string a0_3, .string a0_4, .int .u64 a0_5]] rfl mS_ ?_; (with_reducible refine (msg_IsPoint.calls a0_0 a0_1 a0_2 a0_3 a0_4 a0_5 true _ A2.out).mono ?_); rintro e w9 ⟨rfl, hb⟩; refine ⟨_, rfl, ?_⟩; have n0_ := Aside0.mk (bB (bX_ BK138.out) hb); have n1_ := Aside0.mk (bB (bX_ BK139.out) hb); have n2_ := Aside0.mk (wT (bS2_ GE138.out GE139.out) hb); clear BK138; clear BK139; clear HB; have BK138 := n0_; have BK139 := n1_; have HB := n2_; clear n0_ n1_ n2_; (try clear hb); (try clear hb2); (try clear hk); (try clear hi); have hcz10_0 := cz_ BK138.out 0; have hcz10_1 := cz_ BK138.out 1; have hcz10_2 := cz_ BK138.out 2; have hcz10_3 := cz_ BK138.out 3; have hcz10_4 := cz_ BK138.out 4; have hcz10_5 := cz_ BK138.out 5; have hfz10_0 := bF BK138.out 0; have hfz10_1 := bF BK138.out 1; have hfz10_2 := bF BK138.out 2; have hfz10_3 := bF BK138.out 3; have hfz10_4 := bF BK138.out 4; have hfz10_5 := bF BK138.out 5) | ((with_reducible refine gate_callee (f := 89) rfl ?_); refine goesL_ (some 8) rfl rfl Try.func89 (by kernel_rfl) rfl #[.string a0_2] rfl mS_ ?_; (with_reducible refine (key_Point.calls a0_2 t141 t142 _ A4.out).mono ?_); rintro e w11 ⟨rfl, hb⟩; refine ⟨_, rfl, ?_⟩; have n0_ := Aside0.mk (bB (bX_ BK138.out) hb); have n1_ := Aside0.mk (bB (bX_ BK139.out) hb); have n2_ := Aside0.mk (wT (bS2_ GE138.out GE139.out) hb); clear BK138; clear BK139; clear HB; have BK138 := n0_; have BK139 := n1_; have HB := n2_; clear n0_ n1_ n2_; (try clear hb); (try clear hb2); (try clear hk); (try clear hi); have hcz12_0 := cz_ BK139.out 0; have hcz12_1 := cz_ BK139.out 1; have hfz12_0 := bF BK139.out 0; have hfz12_1 := bF BK139.out 1))
  refine bodyPost_ret (results_cell_row rfl _ _ gb139 28 #[.string t141, .string t142] (0, 0) _ rfl (by (with_reducible repeat (first | refine bN ?_ _ | refine bD ?_ | refine bA ?_ _)); refine bP (cs := #[.string t141, .string (⟨#[]⟩ : BA)]) ?_ 1 _ rfl; (with_reducible repeat (first | refine bN ?_ _ | refine bD ?_ | refine bA ?_ _)); refine bP (cs := #[.string (⟨#[]⟩ : BA), .string (⟨#[]⟩ : BA)]) ?_ 0 _ rfl; (with_reducible repeat (first | refine bN ?_ _ | refine bD ?_ | refine bA ?_ _)); exact BK139.out) Try.underlying28 rfl (by kernel_rfl)) rfl ?_
  exact ⟨by first | rfl | (simp [errW_none, errW_some] <;> rfl) | (simp [*, errW_none, errW_some] <;> rfl), by repeat (first | (with_reducible first | exact HB.out | apply wA | apply wN | apply w1 | refine wS ?_ GE138.out | refine wS ?_ GE139.out) | exact HB.out)⟩
 ·replace c3 := Bool.eq_false_iff.mpr c3
  subst c3
  have H1 : (if a0_0 = 4 then (some (a0_2, a0_3)) else (some ((⟨#[]⟩ : BA), (⟨#[]⟩ : BA)))) = some (r1, r2) := by rw [if_neg (show ¬ (false = true) by decide)] at H; exact H
  clear H
  have H := H1
  clear H1
  by_cases c13 : a0_0 = 4
  ·rw [if_pos c13] at H
   have c13b0 : (a0_0 == 4) = true := beq_iff_eq.mpr c13
   have c13b1 : (a0_0 != 4) = false := bne_eq_false_iff_eq.mpr c13
   clear c13
   simp only [Option.some.injEq, Prod.mk.injEq] at H
   obtain ⟨rfl, rfl⟩ := H
   go_enter Try.func58, Try.ntmps58
   go_wp2_with (first | ((with_reducible refine gate_dst (N := 1) rfl ?_); refine box_event ?hg (N := 1) ?hd (cs := #[.int .u8 a0_0, .int .i64 a0_1, .string a0_2, .string a0_3, .string a0_4, .int .u64 a0_5]) (t := 32) ?hr ?_; (case hd => rfl); (case hg => rfl); (case hr => first | (go_simp; done) | (go_simp; rfl)); intro gb138 hg w14 hbox hb; have n0_ := Aside0.mk (wT bW_ hb); have n1_ := Aside0.mk (hbox); have n2_ := Aside0.mk ((by rw [hg]; exact (wZ bW_) : w.heap.size ≤ gb138)); have n3_ := n2_; clear HB; have HB := n0_; have BK138 := n1_; have GW138 := n2_; have GE138 := n3_; clear n0_ n1_ n2_ n3_; clear hb hbox hg) | ((with_reducible refine gate_dst (N := 2) rfl ?_); refine box_event ?hg (N := 2) ?hd (cs := #[.string (⟨#[]⟩ : BA), .string (⟨#[]⟩ : BA)]) (t := 28) ?hr ?_; (case hd => rfl); (case hg => rfl); (case hr => first | (go_simp; done) | (go_simp; rfl)); intro gb139 hg w15 hbox hb; have n0_ := Aside0.mk (bB (bX_ BK138.out) hb); have n1_ := Aside0.mk (wT (bS1_ GE138.out) hb); have n2_ := Aside0.mk (hbox); have n3_ := Aside0.mk ((by rw [hg]; exact (wZ (bS1_ GE138.out)) : w.heap.size ≤ gb139)); have n4_ := n3_; have n5_ := Aside0.mk ((by rw [hg]; exact Nat.ne_of_lt (blk_lt (g := gb138) (o := .cells #[.int .u8 a0_0, .int .i64 a0_1, .string a0_2, .string a0_3, .string a0_4, .int .u64 a0_5] 32 (0, 0)) (bX_ BK138.out)) : gb138 ≠ gb139)); have n6_ := Aside0.mk ((by rw [hg]; exact Nat.ne_of_gt (blk_lt (g := gb138) (o := .cells #[.int .u8 a0_0, .int .i64 a0_1, .string a0_2, .string a0_3, .string a0_4, .int .u64 a0_5] 32 (0, 0)) (bX_ BK138.out)) : gb139 ≠ gb138)); clear BK138; clear HB; have BK138 := n0_; have HB := n1_; have BK139 := n2_; have GW139 := n3_; have GE139 := n4_; have NB138_139 := n5_; have NB139_138 := n6_; clear n0_ n1_ n2_ n3_ n4_ n5_ n6_; clear hb hbox hg; have hnb16 := NB138_139.out; have hnc16 := NB139_138.out; have hcz17_0 := cz_ BK138.out 0; have hcz17_1 := cz_ BK138.out 1; have hcz17_2 := cz_ BK138.out 2; have hcz17_3 := cz_ BK138.out 3; have hcz17_4 := cz_ BK138.out 4; have hcz17_5 := cz_ BK138.out 5; have hfz17_0 := bF BK138.out 0; have hfz17_1 := bF BK138.out 1; have hfz17_2 := bF BK138.out 2; have hfz17_3 := bF BK138.out 3; have hfz17_4 := bF BK138.out 4; have hfz17_5 := bF BK138.out 5) | ((with_reducible refine gate_callee (f := 55) rfl ?_); refine goesL_ (some 5) rfl rfl Try.func55 (by kernel_rfl) rfl #[.agg #[.int .u8 a0_0, .int .i64 a0_1, .string a0_2, .string a0_3, .string a0_4, .int .u64 a0_5]] rfl mS_ ?_; (with_reducible refine (msg_IsPoint.calls a0_0 a0_1 a0_2 a0_3 a0_4 a0_5 false _ A2.out).mono ?_); rintro e w18 ⟨rfl, hb⟩; refine ⟨_, rfl, ?_⟩; have n0_ := Aside0.mk (bB (bX_ BK138.out) hb); have n1_ := Aside0.mk (bB (bX_ BK139.out) hb); have n2_ := Aside0.mk (wT (bS2_ GE138.out GE139.out) hb); clear BK138; clear BK139; clear HB; have BK138 := n0_; have BK139 := n1_; have HB := n2_; clear n0_ n1_ n2_; (try clear hb); (try clear hb2); (try clear hk); (try clear hi); have hcz19_0 := cz_ BK138.out 0; have hcz19_1 := cz_ BK138.out 1; have hcz19_2 := cz_ BK138.out 2; have hcz19_3 := cz_ BK138.out 3; have hcz19_4 := cz_ BK138.out 4; have hcz19_5 := cz_ BK138.out 5; have hfz19_0 := bF BK138.out 0; have hfz19_1 := bF BK138.out 1; have hfz19_2 := bF BK138.out 2; have hfz19_3 := bF BK138.out 3; have hfz19_4 := bF BK138.out 4; have hfz19_5 := bF BK138.out 5; have hcz20_0 := cz_ BK139.out 0; have hcz20_1 := cz_ BK139.out 1; have hfz20_0 := bF BK139.out 0; have hfz20_1 := bF BK139.out 1))
   refine bodyPost_ret (results_cell_row rfl _ _ gb139 28 #[.string a0_2, .string a0_3] (0, 0) _ rfl (by (with_reducible repeat (first | refine bN ?_ _ | refine bD ?_ | refine bA ?_ _)); refine bP (cs := #[.string a0_2, .string (⟨#[]⟩ : BA)]) ?_ 1 _ rfl; (with_reducible repeat (first | refine bN ?_ _ | refine bD ?_ | refine bA ?_ _)); refine bP (cs := #[.string (⟨#[]⟩ : BA), .string (⟨#[]⟩ : BA)]) ?_ 0 _ rfl; (with_reducible repeat (first | refine bN ?_ _ | refine bD ?_ | refine bA ?_ _)); exact BK139.out) Try.underlying28 rfl (by kernel_rfl)) rfl ?_
   exact ⟨by first | rfl | (simp [errW_none, errW_some] <;> rfl) | (simp [*, errW_none, errW_some] <;> rfl), by repeat (first | (with_reducible first | exact HB.out | apply wA | apply wN | apply w1 | refine wS ?_ GE138.out | refine wS ?_ GE139.out) | exact HB.out)⟩
  ·rw [if_neg c13] at H
   have c13b0 : (a0_0 == 4) = false := beq_eq_false_iff_ne.mpr c13
   have c13b1 : (a0_0 != 4) = true := bne_iff_ne.mpr c13
   simp only [Option.some.injEq, Prod.mk.injEq] at H
   obtain ⟨rfl, rfl⟩ := H
   go_enter Try.func58, Try.ntmps58
   go_wp2_with (first | ((with_reducible refine gate_dst (N := 1) rfl ?_); refine box_event ?hg (N := 1) ?hd (cs := #[.int .u8 a0_0, .int .i64 a0_1, .string a0_2, .string a0_3, .string a0_4, .int .u64 a0_5]) (t := 32) ?hr ?_; (case hd => rfl); (case hg => rfl); (case hr => first | (go_simp; done) | (go_simp; rfl)); intro gb138 hg w21 hbox hb; have n0_ := Aside0.mk (wT bW_ hb); have n1_ := Aside0.mk (hbox); have n2_ := Aside0.mk ((by rw [hg]; exact (wZ bW_) : w.heap.size ≤ gb138)); have n3_ := n2_; clear HB; have HB := n0_; have BK138 := n1_; have GW138 := n2_; have GE138 := n3_; clear n0_ n1_ n2_ n3_; clear hb hbox hg) | ((with_reducible refine gate_dst (N := 2) rfl ?_); refine box_event ?hg (N := 2) ?hd (cs := #[.string (⟨#[]⟩ : BA), .string (⟨#[]⟩ : BA)]) (t := 28) ?hr ?_; (case hd => rfl); (case hg => rfl); (case hr => first | (go_simp; done) | (go_simp; rfl)); intro gb139 hg w22 hbox hb; have n0_ := Aside0.mk (bB (bX_ BK138.out) hb); have n1_ := Aside0.mk (wT (bS1_ GE138.out) hb); have n2_ := Aside0.mk (hbox); have n3_ := Aside0.mk ((by rw [hg]; exact (wZ (bS1_ GE138.out)) : w.heap.size ≤ gb139)); have n4_ := n3_; have n5_ := Aside0.mk ((by rw [hg]; exact Nat.ne_of_lt (blk_lt (g := gb138) (o := .cells #[.int .u8 a0_0, .int .i64 a0_1, .string a0_2, .string a0_3, .string a0_4, .int .u64 a0_5] 32 (0, 0)) (bX_ BK138.out)) : gb138 ≠ gb139)); have n6_ := Aside0.mk ((by rw [hg]; exact Nat.ne_of_gt (blk_lt (g := gb138) (o := .cells #[.int .u8 a0_0, .int .i64 a0_1, .string a0_2, .string a0_3, .string a0_4, .int .u64 a0_5] 32 (0, 0)) (bX_ BK138.out)) : gb139 ≠ gb138)); clear BK138; clear HB; have BK138 := n0_; have HB := n1_; have BK139 := n2_; have GW139 := n3_; have GE139 := n4_; have NB138_139 := n5_; have NB139_138 := n6_; clear n0_ n1_ n2_ n3_ n4_ n5_ n6_; clear hb hbox hg; have hnb23 := NB138_139.out; have hnc23 := NB139_138.out; have hcz24_0 := cz_ BK138.out 0; have hcz24_1 := cz_ BK138.out 1; have hcz24_2 := cz_ BK138.out 2; have hcz24_3 := cz_ BK138.out 3; have hcz24_4 := cz_ BK138.out 4; have hcz24_5 := cz_ BK138.out 5; have hfz24_0 := bF BK138.out 0; have hfz24_1 := bF BK138.out 1; have hfz24_2 := bF BK138.out 2; have hfz24_3 := bF BK138.out 3; have hfz24_4 := bF BK138.out 4; have hfz24_5 := bF BK138.out 5) | ((with_reducible refine gate_callee (f := 55) rfl ?_); refine goesL_ (some 5) rfl rfl Try.func55 (by kernel_rfl) rfl #[.agg #[.int .u8 a0_0, .int .i64 a0_1, .string a0_2, .string a0_3, .string a0_4, .int .u64 a0_5]] rfl mS_ ?_; (with_reducible refine (msg_IsPoint.calls a0_0 a0_1 a0_2 a0_3 a0_4 a0_5 false _ A2.out).mono ?_); rintro e w25 ⟨rfl, hb⟩; refine ⟨_, rfl, ?_⟩; have n0_ := Aside0.mk (bB (bX_ BK138.out) hb); have n1_ := Aside0.mk (bB (bX_ BK139.out) hb); have n2_ := Aside0.mk (wT (bS2_ GE138.out GE139.out) hb); clear BK138; clear BK139; clear HB; have BK138 := n0_; have BK139 := n1_; have HB := n2_; clear n0_ n1_ n2_; (try clear hb); (try clear hb2); (try clear hk); (try clear hi); have hcz26_0 := cz_ BK138.out 0; have hcz26_1 := cz_ BK138.out 1; have hcz26_2 := cz_ BK138.out 2; have hcz26_3 := cz_ BK138.out 3; have hcz26_4 := cz_ BK138.out 4; have hcz26_5 := cz_ BK138.out 5; have hfz26_0 := bF BK138.out 0; have hfz26_1 := bF BK138.out 1; have hfz26_2 := bF BK138.out 2; have hfz26_3 := bF BK138.out 3; have hfz26_4 := bF BK138.out 4; have hfz26_5 := bF BK138.out 5; have hcz27_0 := cz_ BK139.out 0; have hcz27_1 := cz_ BK139.out 1; have hfz27_0 := bF BK139.out 0; have hfz27_1 := bF BK139.out 1))
   refine bodyPost_ret (results_cell_row rfl _ _ gb139 28 #[.string (⟨#[]⟩ : BA), .string (⟨#[]⟩ : BA)] (0, 0) _ rfl (by (with_reducible repeat (first | refine bN ?_ _ | refine bD ?_ | refine bA ?_ _)); refine bP (cs := #[.string (⟨#[]⟩ : BA), .string (⟨#[]⟩ : BA)]) ?_ 1 _ rfl; (with_reducible repeat (first | refine bN ?_ _ | refine bD ?_ | refine bA ?_ _)); refine bP (cs := #[.string (⟨#[]⟩ : BA), .string (⟨#[]⟩ : BA)]) ?_ 0 _ rfl; (with_reducible repeat (first | refine bN ?_ _ | refine bD ?_ | refine bA ?_ _)); exact BK139.out) Try.underlying28 rfl (by kernel_rfl)) rfl ?_
   exact ⟨by first | rfl | (simp [errW_none, errW_some] <;> rfl) | (simp [*, errW_none, errW_some] <;> rfl), by repeat (first | (with_reducible first | exact HB.out | apply wA | apply wN | apply w1 | refine wS ?_ GE138.out | refine wS ?_ GE139.out) | exact HB.out)⟩
end Go.Proofs.Ytebejadiaooooaa.P
end
