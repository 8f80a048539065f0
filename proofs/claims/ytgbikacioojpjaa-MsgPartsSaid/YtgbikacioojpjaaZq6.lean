/- Texts of this seat's own and of the kit's print program, of one claim: only what the claim uses (laid by wip/tools/shake.py; Lean checks them). -/
import Derived.Test.YtgbikacioojpjaaZq2
import Derived.Test.YtgbikacioojpjaaZq3
import Derived.Test.YtgbikacioojpjaaZq5
section
namespace Go.Proofs.Ytgbikacioojpjaa.P
open Go.RowKit Go.Proofs.YtgbikacioojpjaaW.PrintWords Go.Proofs.YtgbikacioojpjaaW.PrintLast Go.Proofs.YtgbikacioojpjaaW.PrintMore Go.Proofs.Ytgbikacioojpjaa.Own
open Bool renaming true → YY, false → ZZ
open Go.Proofs.YtgbikacioojpjaaW.PrintWords renaming blk_cell → bC, blk_frozen → bF, blk_drewN → bN, blk_alloc → bA, pw_below_drewN → wN, blk_drew → bD, below_drew1 → w1, below_set → wS, below_alloc → wA, blk_below → bB, below_step → wT, below_size → wZ, cell_far → cF, blk_far → bR, blk_put → bP
open List renaming setIfInBounds_toArray → sA1, set_cons_zero → sA2, set_cons_succ → sA3, map_toArray → mA1, map_cons → mA2, map_nil → mA3, length_take → mA4, length_drop → mA5
attribute [local go_sem] max2_str max2_int min2_int max_two min_two max_three min_three max_four min_four   -- for this text's walks alone
set_option linter.unusedVariables false
set_option linter.unusedSimpArgs false
mutual
def msg_Rest.j0 : Nat → Bool → Int → Int → ByteArray → ByteArray → ByteArray → Int → ByteArray → ByteArray → Option ((List (S25)))
 | 0, _, _, _, _, _, _, _, _, _ => none
 | k + 1, x17, x156000, x156001, x156002, x156003, x156004, x156005, x157000, x157001 => if x17 = true then (some ([] : List (S25))) else ((msg_Clip.f k x156000 x156001 x156002 x156003 x156004 x156005 x157000 x157001).bind fun bt157 => (if bt157.2.2.2.2.2.2 = true then (if x156000 = 4 then (if (Op.bytesLess x156002.toList bt157.2.2.1.toList) = true then (if ([] : List (S25)).length < 1954687338268 then (msg_Rest.j1 k (([] : List (S25)) ++ [(⟨x156000, x156001, x156002, bt157.2.2.1, x156004, x156005⟩ : S25)]) x156000 x156001 x156002 x156003 x156004 x156005 bt157.1 bt157.2.1 bt157.2.2.1 bt157.2.2.2.1 bt157.2.2.2.2.1 bt157.2.2.2.2.2.1 x156000 x156001 bt157.2.2.2.1 x156003 x156004 x156005) else (none)) else (msg_Rest.j1 k ([] : List (S25)) x156000 x156001 x156002 x156003 x156004 x156005 bt157.1 bt157.2.1 bt157.2.2.1 bt157.2.2.2.1 bt157.2.2.2.2.1 bt157.2.2.2.2.2.1 x156000 x156001 bt157.2.2.2.1 x156003 x156004 x156005)) else (some ([] : List (S25)))) else (some (([(⟨x156000, x156001, x156002, x156003, x156004, x156005⟩ : S25)] : List (S25))))))
def msg_Rest.j1 : Nat → List (S25) → Int → Int → ByteArray → ByteArray → ByteArray → Int → Int → Int → ByteArray → ByteArray → ByteArray → Int → Int → Int → ByteArray → ByteArray → ByteArray → Int → Option ((List (S25)))
 | 0, _, _, _, _, _, _, _, _, _, _, _, _, _, _, _, _, _, _, _ => none
 | k + 1, x7, x156000, x156001, x156002, x156003, x156004, x156005, x165000, x165001, x165002, x165003, x165004, x165005, x170000, x170001, x170002, x170003, x170004, x170005 => (key_Before.f x165003 x156003).bind fun t173 => (if t173 = true then (if x7.length < 1954687338268 then (some (x7 ++ [(⟨x170000, x170001, x170002, x170003, x170004, x170005⟩ : S25)])) else (none)) else (some x7))
end
def msg_Rest.f (k : Nat) (a0_0 : Int) (a0_1 : Int) (a0_2 : BA) (a0_3 : BA) (a0_4 : BA) (a0_5 : Int) (a1_0 : BA) (a1_1 : BA) : Option ((List (S25))) := if a0_0 < 1 then (msg_Rest.j0 k true a0_0 a0_1 a0_2 a0_3 a0_4 a0_5 a1_0 a1_1) else (msg_Rest.j0 k (decide (a0_0 > 4)) a0_0 a0_1 a0_2 a0_3 a0_4 a0_5 a1_0 a1_1)
def msg_Rest.T9 : Bool × List (List Nat × List Nat) := (true, [([], []), ([0], [0]), ([], []), ([2], [2]), ([0, 1], []), ([4, 1, 0, 1], [1, 4]), ([0, 1, 2, 3, 4, 5], []), ([6, 3, 5, 0, 1, 2, 3, 4, 5], [3, 6])])
def msg_Rest.B9 : List Nat := [0, 1, 0, 4, 3, 19, 63, 127]
theorem msg_Rest.tab9 : rtab .any (opsOf Try.f22 9) = msg_Rest.T9 := by kernel_rfl
theorem msg_Rest.bits9 : waitsOk msg_Rest.T9.2 msg_Rest.B9 = true := by kernel_rfl
set_option maxHeartbeats 8000000 in
set_option maxRecDepth 100000 in
theorem msg_Rest.calls (k : Nat) (a0_0 : Int) (a0_1 : Int) (a0_2 : BA) (a0_3 : BA) (a0_4 : BA) (a0_5 : Int) (a1_0 : BA) (a1_1 : BA) (r : List (S25)) (w : World) (h : msg_Rest.f k a0_0 a0_1 a0_2 a0_3 a0_4 a0_5 a1_0 a1_1 = some r) :
  Calls Try.prog 22 #[.agg #[.int .u8 a0_0, .int .i64 a0_1, .string a0_2, .string a0_3, .string a0_4, .int .u64 a0_5], .agg #[.string a1_0, .string a1_1]] w fun e w' => ∃ v0_ : Value, e = .returned (v0_) ∧ Kd.R k25 25 w' w.heap.size (fun _ => True) v0_ r ∧ Below w.heap.size w w' := by
 have hu25 := Try.underlying25
 have hu31 := Try.underlying31
 have HB := Aside0.mk (Below.refl w.heap.size w)
 have H : (if a0_0 < 1 then (msg_Rest.j0 k true a0_0 a0_1 a0_2 a0_3 a0_4 a0_5 a1_0 a1_1) else (msg_Rest.j0 k (decide (a0_0 > 4)) a0_0 a0_1 a0_2 a0_3 a0_4 a0_5 a1_0 a1_1)) = some r := h
 clear h
 have HC3 := Aside0.mk H
 clear H
 go_enter Try.func22, Try.ntmps22
 go_upto_region 1 with (first | ((with_reducible refine gate_dst (N := 2) rfl ?_); refine box_event ?hg (N := 2) ?hd (cs := #[.int .u8 a0_0, .int .i64 a0_1, .string a0_2, .string a0_3, .string a0_4, .int .u64 a0_5]) (t := 25) ?hr ?_; (case hd => rfl); (case hg => rfl); (case hr => first | (go_simp; done) | (go_simp; rfl)); intro gb155 hg w4 hbox hb; have n0_ := Aside0.mk (wT (by repeat (first | (with_reducible first | exact HB.out | apply wA | apply wN | apply w1) | exact HB.out)) hb); have n1_ := Aside0.mk (hbox); have n2_ := Aside0.mk ((by rw [hg]; exact (wZ (by repeat (first | (with_reducible first | exact HB.out | apply wA | apply wN | apply w1) | exact HB.out))) : w.heap.size ≤ gb155)); have n3_ := n2_; clear HB; have HB := n0_; have BK155 := n1_; have GW155 := n2_; have GE155 := n3_; clear n0_ n1_ n2_ n3_; clear hb hbox hg) | ((with_reducible refine gate_dst (N := 3) rfl ?_); refine box_event ?hg (N := 3) ?hd (cs := #[.string a1_0, .string a1_1]) (t := 31) ?hr ?_; (case hd => rfl); (case hg => rfl); (case hr => first | (go_simp; done) | (go_simp; rfl)); intro gb156 hg w5 hbox hb; have n0_ := Aside0.mk (bB (g := gb155) (o := .cells #[.int .u8 a0_0, .int .i64 a0_1, .string a0_2, .string a0_3, .string a0_4, .int .u64 a0_5] 25 (0, 0)) (by (with_reducible repeat (first | refine bN ?_ _ | refine bD ?_ | refine bA ?_ _)); exact BK155.out) hb); have n1_ := Aside0.mk (wT (by repeat (first | (with_reducible first | exact HB.out | apply wA | apply wN | apply w1 | refine wS ?_ GE155.out) | exact HB.out)) hb); have n2_ := Aside0.mk (hbox); have n3_ := Aside0.mk ((by rw [hg]; exact (wZ (by repeat (first | (with_reducible first | exact HB.out | apply wA | apply wN | apply w1 | refine wS ?_ GE155.out) | exact HB.out))) : w.heap.size ≤ gb156)); have n4_ := n3_; have n5_ := Aside0.mk ((by rw [hg]; exact Nat.ne_of_lt (blk_lt (g := gb155) (o := .cells #[.int .u8 a0_0, .int .i64 a0_1, .string a0_2, .string a0_3, .string a0_4, .int .u64 a0_5] 25 (0, 0)) (by (with_reducible repeat (first | refine bN ?_ _ | refine bD ?_ | refine bA ?_ _)); exact BK155.out)) : gb155 ≠ gb156)); have n6_ := Aside0.mk ((by rw [hg]; exact Nat.ne_of_gt (blk_lt (g := gb155) (o := .cells #[.int .u8 a0_0, .int .i64 a0_1, .string a0_2, .string a0_3, .string a0_4, .int .u64 a0_5] 25 (0, 0)) (by (with_reducible repeat (first | refine bN ?_ _ | refine bD ?_ | refine bA ?_ _)); exact BK155.out)) : gb156 ≠ gb155)); clear BK155; clear HB; have BK155 := n0_; have HB := n1_; have BK156 := n2_; have GW156 := n3_; have GE156 := n4_; have NB155_156 := n5_; have NB156_155 := n6_; clear n0_ n1_ n2_ n3_ n4_ n5_ n6_; clear hb hbox hg))
 (try simp only [Act.put, sA1, sA2, sA3])
 go_cut [17] (fun v17 wc => ∃ (kq : Nat) (x17_2 : Bool), v17 = .bool x17_2 ∧ Aside0 (msg_Rest.j0 kq x17_2 a0_0 a0_1 a0_2 a0_3 a0_4 a0_5 a1_0 a1_1 = some r) ∧ Aside0 (kq ≤ k) ∧ Aside0 (wc.heap[gb155]? = some (.cells #[.int .u8 a0_0, .int .i64 a0_1, .string a0_2, .string a0_3, .string a0_4, .int .u64 a0_5] 25 (0, 0))) ∧ Aside0 (wc.heap[gb156]? = some (.cells #[.string a1_0, .string a1_1] 31 (0, 0))) ∧ Aside0 (Below w.heap.size w wc))
 case first =>
  have H := HC3.out
  clear HC3
  by_cases c6 : a0_0 < 1
  ·rw [if_pos c6] at H
   have c6b0 : decide (a0_0 < 1) = true := decide_eq_true c6
   clear c6
   (first | rw [c6b0] | (simp only [i64_w, i32_w]; rw [c6b0]) | skip)
   have H' := Aside0.mk H
   clear H
   have hnb7 := NB155_156.out
   have hnc7 := NB156_155.out
   have hcz8_0 : w5.cell? ⟨gb155, 0, none⟩ = some (.int .u8 a0_0) := (bC BK155.out 0).trans rfl
   have hcz8_1 : w5.cell? ⟨gb155, 1, none⟩ = some (.int .i64 a0_1) := (bC BK155.out 1).trans rfl
   have hcz8_2 : w5.cell? ⟨gb155, 2, none⟩ = some (.string a0_2) := (bC BK155.out 2).trans rfl
   have hcz8_3 : w5.cell? ⟨gb155, 3, none⟩ = some (.string a0_3) := (bC BK155.out 3).trans rfl
   have hcz8_4 : w5.cell? ⟨gb155, 4, none⟩ = some (.string a0_4) := (bC BK155.out 4).trans rfl
   have hcz8_5 : w5.cell? ⟨gb155, 5, none⟩ = some (.int .u64 a0_5) := (bC BK155.out 5).trans rfl
   have hfz8_0 := bF BK155.out 0
   have hfz8_1 := bF BK155.out 1
   have hfz8_2 := bF BK155.out 2
   have hfz8_3 := bF BK155.out 3
   have hfz8_4 := bF BK155.out 4
   have hfz8_5 := bF BK155.out 5
   go_wp2
   go_meet
   case rel => exact ⟨_, (true), (by first | rfl | (simp; done) | (simp [*]; done)), H', ⟨by first | omega | exact Nat.le_refl _⟩, ⟨by (with_reducible repeat (first | refine bN ?_ _ | refine bD ?_ | refine bA ?_ _)); exact BK155.out⟩, ⟨by (with_reducible repeat (first | refine bN ?_ _ | refine bD ?_ | refine bA ?_ _)); exact BK156.out⟩, ⟨by repeat (first | (with_reducible first | exact HB.out | apply wA | apply wN | apply w1 | refine wS ?_ GE155.out | refine wS ?_ GE156.out) | exact HB.out)⟩⟩
  ·rw [if_neg c6] at H
   have c6b0 : decide (a0_0 < 1) = false := decide_eq_false c6
   clear c6
   (first | rw [c6b0] | (simp only [i64_w, i32_w]; rw [c6b0]) | skip)
   have H' := Aside0.mk H
   clear H
   have hnb9 := NB155_156.out
   have hnc9 := NB156_155.out
   have hcz10_0 : w5.cell? ⟨gb155, 0, none⟩ = some (.int .u8 a0_0) := (bC BK155.out 0).trans rfl
   have hcz10_1 : w5.cell? ⟨gb155, 1, none⟩ = some (.int .i64 a0_1) := (bC BK155.out 1).trans rfl
   have hcz10_2 : w5.cell? ⟨gb155, 2, none⟩ = some (.string a0_2) := (bC BK155.out 2).trans rfl
   have hcz10_3 : w5.cell? ⟨gb155, 3, none⟩ = some (.string a0_3) := (bC BK155.out 3).trans rfl
   have hcz10_4 : w5.cell? ⟨gb155, 4, none⟩ = some (.string a0_4) := (bC BK155.out 4).trans rfl
   have hcz10_5 : w5.cell? ⟨gb155, 5, none⟩ = some (.int .u64 a0_5) := (bC BK155.out 5).trans rfl
   have hfz10_0 := bF BK155.out 0
   have hfz10_1 := bF BK155.out 1
   have hfz10_2 := bF BK155.out 2
   have hfz10_3 := bF BK155.out 3
   have hfz10_4 := bF BK155.out 4
   have hfz10_5 := bF BK155.out 5
   go_wp2
   go_meet
   case rel => exact ⟨_, (decide (a0_0 > 4)), (by first | rfl | (simp; done) | (simp [*]; done)), H', ⟨by first | omega | exact Nat.le_refl _⟩, ⟨by (with_reducible repeat (first | refine bN ?_ _ | refine bD ?_ | refine bA ?_ _)); exact BK155.out⟩, ⟨by (with_reducible repeat (first | refine bN ?_ _ | refine bD ?_ | refine bA ?_ _)); exact BK156.out⟩, ⟨by repeat (first | (with_reducible first | exact HB.out | apply wA | apply wN | apply w1 | refine wS ?_ GE155.out | refine wS ?_ GE156.out) | exact HB.out)⟩⟩
 case rest =>
  clear HC3
  try clear c2
  try clear p2
  try clear c6
  try clear c6b0
  try clear c7
  try clear c9
  try clear hcz10_0
  try clear hcz10_1
  try clear hcz10_2
  try clear hcz10_3
  try clear hcz10_4
  try clear hcz10_5
  try clear hcz8_0
  try clear hcz8_1
  try clear hcz8_2
  try clear hcz8_3
  try clear hcz8_4
  try clear hcz8_5
  try clear hfz10_0
  try clear hfz10_1
  try clear hfz10_2
  try clear hfz10_3
  try clear hfz10_4
  try clear hfz10_5
  try clear hfz8_0
  try clear hfz8_1
  try clear hfz8_2
  try clear hfz8_3
  try clear hfz8_4
  try clear hfz8_5
  obtain ⟨kq, x17_2, rfl, HA, HJ2, BK155, BK156, HB⟩ := hcut
  cases kq with
  | zero => exact absurd HA.out (by simp [msg_Rest.j0])
  | succ kj2 =>
   have H := HA.out
   clear HA
   simp only [msg_Rest.j0] at H
   by_cases c11 : x17_2 = true
   ·subst c11
    have H1 : (some ([] : List (S25))) = some r := by rw [if_pos rfl] at H; exact H
    clear H
    have H := H1
    clear H1
    obtain rfl := Option.some.inj H
    go_wp2
    go_ret
    exact ⟨_, by first | rfl | (simp [errW_none, errW_some] <;> rfl) | (simp [*, errW_none, errW_some] <;> rfl), by first | exact Kd.R_nil _ _ _ _ _ | exact Kd.N_nil _ _ _ _ _ | exact Kd.V_nil _ _ _ _ _ | exact Kd.Q_nil _ _ _ _ _ | exact Kd.S_nil _ _ _ _ _, by repeat (first | (with_reducible first | exact HB.out | apply wA | apply wN | apply w1 | refine wS ?_ GE155.out | refine wS ?_ GE156.out) | exact HB.out)⟩
   ·replace c11 := Bool.eq_false_iff.mpr c11
    subst c11
    have H1 : ((msg_Clip.f kj2 a0_0 a0_1 a0_2 a0_3 a0_4 a0_5 a1_0 a1_1).bind fun bt157 => (if bt157.2.2.2.2.2.2 = true then (if a0_0 = 4 then (if (Op.bytesLess a0_2.toList bt157.2.2.1.toList) = true then (if ([] : List (S25)).length < 1954687338268 then (msg_Rest.j1 kj2 (([] : List (S25)) ++ [(⟨a0_0, a0_1, a0_2, bt157.2.2.1, a0_4, a0_5⟩ : S25)]) a0_0 a0_1 a0_2 a0_3 a0_4 a0_5 bt157.1 bt157.2.1 bt157.2.2.1 bt157.2.2.2.1 bt157.2.2.2.2.1 bt157.2.2.2.2.2.1 a0_0 a0_1 bt157.2.2.2.1 a0_3 a0_4 a0_5) else (none)) else (msg_Rest.j1 kj2 ([] : List (S25)) a0_0 a0_1 a0_2 a0_3 a0_4 a0_5 bt157.1 bt157.2.1 bt157.2.2.1 bt157.2.2.2.1 bt157.2.2.2.2.1 bt157.2.2.2.2.2.1 a0_0 a0_1 bt157.2.2.2.1 a0_3 a0_4 a0_5)) else (some ([] : List (S25)))) else (some (([(⟨a0_0, a0_1, a0_2, a0_3, a0_4, a0_5⟩ : S25)] : List (S25)))))) = some r := by rw [if_neg (show ¬ (false = true) by decide)] at H; exact H
    clear H
    have H := H1
    clear H1
    replace H := Option.bind_eq_some_iff.mp H
    obtain ⟨⟨t157, t158, t159, t160, t161, t162, t163⟩, A120, H⟩ := H
    replace H : (if t163 = true then (if a0_0 = 4 then (if (Op.bytesLess a0_2.toList t159.toList) = true then (if ([] : List (S25)).length < 1954687338268 then (msg_Rest.j1 kj2 (([] : List (S25)) ++ [(⟨a0_0, a0_1, a0_2, t159, a0_4, a0_5⟩ : S25)]) a0_0 a0_1 a0_2 a0_3 a0_4 a0_5 t157 t158 t159 t160 t161 t162 a0_0 a0_1 t160 a0_3 a0_4 a0_5) else (none)) else (msg_Rest.j1 kj2 ([] : List (S25)) a0_0 a0_1 a0_2 a0_3 a0_4 a0_5 t157 t158 t159 t160 t161 t162 a0_0 a0_1 t160 a0_3 a0_4 a0_5)) else (some ([] : List (S25)))) else (some (([(⟨a0_0, a0_1, a0_2, a0_3, a0_4, a0_5⟩ : S25)] : List (S25))))) = some r := H
    have A12 := Aside0.mk A120
    clear A120
    by_cases c13 : t163 = true
    ·subst c13
     have H1 : (if a0_0 = 4 then (if (Op.bytesLess a0_2.toList t159.toList) = true then (if ([] : List (S25)).length < 1954687338268 then (msg_Rest.j1 kj2 (([] : List (S25)) ++ [(⟨a0_0, a0_1, a0_2, t159, a0_4, a0_5⟩ : S25)]) a0_0 a0_1 a0_2 a0_3 a0_4 a0_5 t157 t158 t159 t160 t161 t162 a0_0 a0_1 t160 a0_3 a0_4 a0_5) else (none)) else (msg_Rest.j1 kj2 ([] : List (S25)) a0_0 a0_1 a0_2 a0_3 a0_4 a0_5 t157 t158 t159 t160 t161 t162 a0_0 a0_1 t160 a0_3 a0_4 a0_5)) else (some ([] : List (S25)))) = some r := by rw [if_pos rfl] at H; exact H
     clear H
     have H := H1
     clear H1
     by_cases c14 : a0_0 = 4
     ·rw [if_pos c14] at H
      have c14b0 : (a0_0 == 4) = true := beq_iff_eq.mpr c14
      have c14b1 : (a0_0 != 4) = false := bne_eq_false_iff_eq.mpr c14
      clear c14
      have HC15 := Aside0.mk H
      clear H
      have hnb16 := NB155_156.out
      have hnc16 := NB156_155.out
      have hcz17_0 : wc.cell? ⟨gb155, 0, none⟩ = some (.int .u8 a0_0) := (bC BK155.out 0).trans rfl
      have hcz17_1 : wc.cell? ⟨gb155, 1, none⟩ = some (.int .i64 a0_1) := (bC BK155.out 1).trans rfl
      have hcz17_2 : wc.cell? ⟨gb155, 2, none⟩ = some (.string a0_2) := (bC BK155.out 2).trans rfl
      have hcz17_3 : wc.cell? ⟨gb155, 3, none⟩ = some (.string a0_3) := (bC BK155.out 3).trans rfl
      have hcz17_4 : wc.cell? ⟨gb155, 4, none⟩ = some (.string a0_4) := (bC BK155.out 4).trans rfl
      have hcz17_5 : wc.cell? ⟨gb155, 5, none⟩ = some (.int .u64 a0_5) := (bC BK155.out 5).trans rfl
      have hfz17_0 := bF BK155.out 0
      have hfz17_1 := bF BK155.out 1
      have hfz17_2 := bF BK155.out 2
      have hfz17_3 := bF BK155.out 3
      have hfz17_4 := bF BK155.out 4
      have hfz17_5 := bF BK155.out 5
      have hcz18_0 : wc.cell? ⟨gb156, 0, none⟩ = some (.string a1_0) := (bC BK156.out 0).trans rfl
      have hcz18_1 : wc.cell? ⟨gb156, 1, none⟩ = some (.string a1_1) := (bC BK156.out 1).trans rfl
      have hfz18_0 := bF BK156.out 0
      have hfz18_1 := bF BK156.out 1
      try go_wp2_with (first | ((with_reducible refine gate_callee (f := 19) rfl ?_); refine goesL_ (some 21) rfl rfl Try.func19 (by kernel_rfl) rfl #[.agg #[.int .u8 a0_0, .int .i64 a0_1, .string a0_2, .string a0_3, .string a0_4, .int .u64 a0_5], .agg #[.string a1_0, .string a1_1]] rfl (by (try simp only [mA1, mA2, mA3]); first | done | rfl | (simp only [mA5, mA4]; rfl)) ?_; (with_reducible refine (msg_Clip.calls kj2 a0_0 a0_1 a0_2 a0_3 a0_4 a0_5 a1_0 a1_1 t157 t158 t159 t160 t161 t162 true _ A12.out).mono ?_); rintro e w19 ⟨rfl, hb⟩; refine ⟨_, rfl, ?_⟩; have n0_ := Aside0.mk (bB (g := gb155) (o := .cells #[.int .u8 a0_0, .int .i64 a0_1, .string a0_2, .string a0_3, .string a0_4, .int .u64 a0_5] 25 (0, 0)) (by (with_reducible repeat (first | refine bN ?_ _ | refine bD ?_ | refine bA ?_ _)); exact BK155.out) hb); have n1_ := Aside0.mk (bB (g := gb156) (o := .cells #[.string a1_0, .string a1_1] 31 (0, 0)) (by (with_reducible repeat (first | refine bN ?_ _ | refine bD ?_ | refine bA ?_ _)); exact BK156.out) hb); have n2_ := Aside0.mk (wT (by repeat (first | (with_reducible first | exact HB.out | apply wA | apply wN | apply w1 | refine wS ?_ GE155.out | refine wS ?_ GE156.out) | exact HB.out)) hb); clear BK155; clear BK156; clear HB; have BK155 := n0_; have BK156 := n1_; have HB := n2_; clear n0_ n1_ n2_; (try clear hb); (try clear hb2); (try clear hk); (try clear hi)) | ((with_reducible refine gate_dst (N := 5) rfl ?_); refine box_event ?hg (N := 5) ?hd (cs := #[.int .u8 0, .int .i64 0, .string (⟨#[]⟩ : BA), .string (⟨#[]⟩ : BA), .string (⟨#[]⟩ : BA), .int .u64 0]) (t := 25) ?hr ?_; (case hd => rfl); (case hg => rfl); (case hr => first | (go_simp; done) | (go_simp; rfl)); intro gb164 hg w20 hbox hb; have n0_ := Aside0.mk (bB (g := gb155) (o := .cells #[.int .u8 a0_0, .int .i64 a0_1, .string a0_2, .string a0_3, .string a0_4, .int .u64 a0_5] 25 (0, 0)) (by (with_reducible repeat (first | refine bN ?_ _ | refine bD ?_ | refine bA ?_ _)); exact BK155.out) hb); have n1_ := Aside0.mk (bB (g := gb156) (o := .cells #[.string a1_0, .string a1_1] 31 (0, 0)) (by (with_reducible repeat (first | refine bN ?_ _ | refine bD ?_ | refine bA ?_ _)); exact BK156.out) hb); have n2_ := Aside0.mk (wT (by repeat (first | (with_reducible first | exact HB.out | apply wA | apply wN | apply w1 | refine wS ?_ GE155.out | refine wS ?_ GE156.out) | exact HB.out)) hb); have n3_ := Aside0.mk (hbox); have n4_ := Aside0.mk ((by rw [hg]; exact (wZ (by repeat (first | (with_reducible first | exact HB.out | apply wA | apply wN | apply w1 | refine wS ?_ GE155.out | refine wS ?_ GE156.out) | exact HB.out))) : w.heap.size ≤ gb164)); have n5_ := n4_; have n6_ := Aside0.mk ((by rw [hg]; exact Nat.ne_of_lt (blk_lt (g := gb155) (o := .cells #[.int .u8 a0_0, .int .i64 a0_1, .string a0_2, .string a0_3, .string a0_4, .int .u64 a0_5] 25 (0, 0)) (by (with_reducible repeat (first | refine bN ?_ _ | refine bD ?_ | refine bA ?_ _)); exact BK155.out)) : gb155 ≠ gb164)); have n7_ := Aside0.mk ((by rw [hg]; exact Nat.ne_of_gt (blk_lt (g := gb155) (o := .cells #[.int .u8 a0_0, .int .i64 a0_1, .string a0_2, .string a0_3, .string a0_4, .int .u64 a0_5] 25 (0, 0)) (by (with_reducible repeat (first | refine bN ?_ _ | refine bD ?_ | refine bA ?_ _)); exact BK155.out)) : gb164 ≠ gb155)); have n8_ := Aside0.mk ((by rw [hg]; exact Nat.ne_of_lt (blk_lt (g := gb156) (o := .cells #[.string a1_0, .string a1_1] 31 (0, 0)) (by (with_reducible repeat (first | refine bN ?_ _ | refine bD ?_ | refine bA ?_ _)); exact BK156.out)) : gb156 ≠ gb164)); have n9_ := Aside0.mk ((by rw [hg]; exact Nat.ne_of_gt (blk_lt (g := gb156) (o := .cells #[.string a1_0, .string a1_1] 31 (0, 0)) (by (with_reducible repeat (first | refine bN ?_ _ | refine bD ?_ | refine bA ?_ _)); exact BK156.out)) : gb164 ≠ gb156)); clear BK155; clear BK156; clear HB; have BK155 := n0_; have BK156 := n1_; have HB := n2_; have BK164 := n3_; have GW164 := n4_; have GE164 := n5_; have NB155_164 := n6_; have NB164_155 := n7_; have NB156_164 := n8_; have NB164_156 := n9_; clear n0_ n1_ n2_ n3_ n4_ n5_ n6_ n7_ n8_ n9_; clear hb hbox hg; have hnb21 := NB164_155.out; have hnc21 := NB155_164.out; have hnb22 := NB164_156.out; have hnc22 := NB156_164.out; have hcz23_0 : w20.cell? ⟨gb164, 0, none⟩ = some (.int .u8 0) := (bC BK164.out 0).trans rfl; have hcz23_1 : w20.cell? ⟨gb164, 1, none⟩ = some (.int .i64 0) := (bC BK164.out 1).trans rfl; have hcz23_2 : w20.cell? ⟨gb164, 2, none⟩ = some (.string (⟨#[]⟩ : BA)) := (bC BK164.out 2).trans rfl; have hcz23_3 : w20.cell? ⟨gb164, 3, none⟩ = some (.string (⟨#[]⟩ : BA)) := (bC BK164.out 3).trans rfl; have hcz23_4 : w20.cell? ⟨gb164, 4, none⟩ = some (.string (⟨#[]⟩ : BA)) := (bC BK164.out 4).trans rfl; have hcz23_5 : w20.cell? ⟨gb164, 5, none⟩ = some (.int .u64 0) := (bC BK164.out 5).trans rfl; have hfz23_0 := bF BK164.out 0; have hfz23_1 := bF BK164.out 1; have hfz23_2 := bF BK164.out 2; have hfz23_3 := bF BK164.out 3; have hfz23_4 := bF BK164.out 4; have hfz23_5 := bF BK164.out 5; have hcz24_0 : w20.cell? ⟨gb155, 0, none⟩ = some (.int .u8 a0_0) := (bC BK155.out 0).trans rfl; have hcz24_1 : w20.cell? ⟨gb155, 1, none⟩ = some (.int .i64 a0_1) := (bC BK155.out 1).trans rfl; have hcz24_2 : w20.cell? ⟨gb155, 2, none⟩ = some (.string a0_2) := (bC BK155.out 2).trans rfl; have hcz24_3 : w20.cell? ⟨gb155, 3, none⟩ = some (.string a0_3) := (bC BK155.out 3).trans rfl; have hcz24_4 : w20.cell? ⟨gb155, 4, none⟩ = some (.string a0_4) := (bC BK155.out 4).trans rfl; have hcz24_5 : w20.cell? ⟨gb155, 5, none⟩ = some (.int .u64 a0_5) := (bC BK155.out 5).trans rfl; have hfz24_0 := bF BK155.out 0; have hfz24_1 := bF BK155.out 1; have hfz24_2 := bF BK155.out 2; have hfz24_3 := bF BK155.out 3; have hfz24_4 := bF BK155.out 4; have hfz24_5 := bF BK155.out 5))
      have n0_ : Aside0 (((((((w20.setCell ⟨gb164, 0, none⟩ (.int .u8 t157)).setCell ⟨gb164, 1, none⟩ (.int .i64 t158)).setCell ⟨gb164, 2, none⟩ (.string t159)).setCell ⟨gb164, 3, none⟩ (.string t160)).setCell ⟨gb164, 4, none⟩ (.string t161)).setCell ⟨gb164, 5, none⟩ (.int .u64 t162)).heap[gb155]? = some (.cells #[.int .u8 a0_0, .int .i64 a0_1, .string a0_2, .string a0_3, .string a0_4, .int .u64 a0_5] 25 (0, 0))) := ⟨by (with_reducible repeat (first | refine bN ?_ _ | refine bD ?_ | refine bA ?_ _)); refine bR ?_ NB155_164.out _; (with_reducible repeat (first | refine bN ?_ _ | refine bD ?_ | refine bA ?_ _)); refine bR ?_ NB155_164.out _; (with_reducible repeat (first | refine bN ?_ _ | refine bD ?_ | refine bA ?_ _)); refine bR ?_ NB155_164.out _; (with_reducible repeat (first | refine bN ?_ _ | refine bD ?_ | refine bA ?_ _)); refine bR ?_ NB155_164.out _; (with_reducible repeat (first | refine bN ?_ _ | refine bD ?_ | refine bA ?_ _)); refine bR ?_ NB155_164.out _; (with_reducible repeat (first | refine bN ?_ _ | refine bD ?_ | refine bA ?_ _)); refine bR ?_ NB155_164.out _; (with_reducible repeat (first | refine bN ?_ _ | refine bD ?_ | refine bA ?_ _)); exact BK155.out⟩
      have n1_ : Aside0 (((((((w20.setCell ⟨gb164, 0, none⟩ (.int .u8 t157)).setCell ⟨gb164, 1, none⟩ (.int .i64 t158)).setCell ⟨gb164, 2, none⟩ (.string t159)).setCell ⟨gb164, 3, none⟩ (.string t160)).setCell ⟨gb164, 4, none⟩ (.string t161)).setCell ⟨gb164, 5, none⟩ (.int .u64 t162)).heap[gb156]? = some (.cells #[.string a1_0, .string a1_1] 31 (0, 0))) := ⟨by (with_reducible repeat (first | refine bN ?_ _ | refine bD ?_ | refine bA ?_ _)); refine bR ?_ NB156_164.out _; (with_reducible repeat (first | refine bN ?_ _ | refine bD ?_ | refine bA ?_ _)); refine bR ?_ NB156_164.out _; (with_reducible repeat (first | refine bN ?_ _ | refine bD ?_ | refine bA ?_ _)); refine bR ?_ NB156_164.out _; (with_reducible repeat (first | refine bN ?_ _ | refine bD ?_ | refine bA ?_ _)); refine bR ?_ NB156_164.out _; (with_reducible repeat (first | refine bN ?_ _ | refine bD ?_ | refine bA ?_ _)); refine bR ?_ NB156_164.out _; (with_reducible repeat (first | refine bN ?_ _ | refine bD ?_ | refine bA ?_ _)); refine bR ?_ NB156_164.out _; (with_reducible repeat (first | refine bN ?_ _ | refine bD ?_ | refine bA ?_ _)); exact BK156.out⟩
      have n2_ : Aside0 (((((((w20.setCell ⟨gb164, 0, none⟩ (.int .u8 t157)).setCell ⟨gb164, 1, none⟩ (.int .i64 t158)).setCell ⟨gb164, 2, none⟩ (.string t159)).setCell ⟨gb164, 3, none⟩ (.string t160)).setCell ⟨gb164, 4, none⟩ (.string t161)).setCell ⟨gb164, 5, none⟩ (.int .u64 t162)).heap[gb164]? = some (.cells #[.int .u8 t157, .int .i64 t158, .string t159, .string t160, .string t161, .int .u64 t162] 25 (0, 0))) := ⟨by (with_reducible repeat (first | refine bN ?_ _ | refine bD ?_ | refine bA ?_ _)); refine bP (cs := #[.int .u8 t157, .int .i64 t158, .string t159, .string t160, .string t161, .int .u64 0]) ?_ 5 _ rfl; (with_reducible repeat (first | refine bN ?_ _ | refine bD ?_ | refine bA ?_ _)); refine bP (cs := #[.int .u8 t157, .int .i64 t158, .string t159, .string t160, .string (⟨#[]⟩ : BA), .int .u64 0]) ?_ 4 _ rfl; (with_reducible repeat (first | refine bN ?_ _ | refine bD ?_ | refine bA ?_ _)); refine bP (cs := #[.int .u8 t157, .int .i64 t158, .string t159, .string (⟨#[]⟩ : BA), .string (⟨#[]⟩ : BA), .int .u64 0]) ?_ 3 _ rfl; (with_reducible repeat (first | refine bN ?_ _ | refine bD ?_ | refine bA ?_ _)); refine bP (cs := #[.int .u8 t157, .int .i64 t158, .string (⟨#[]⟩ : BA), .string (⟨#[]⟩ : BA), .string (⟨#[]⟩ : BA), .int .u64 0]) ?_ 2 _ rfl; (with_reducible repeat (first | refine bN ?_ _ | refine bD ?_ | refine bA ?_ _)); refine bP (cs := #[.int .u8 t157, .int .i64 0, .string (⟨#[]⟩ : BA), .string (⟨#[]⟩ : BA), .string (⟨#[]⟩ : BA), .int .u64 0]) ?_ 1 _ rfl; (with_reducible repeat (first | refine bN ?_ _ | refine bD ?_ | refine bA ?_ _)); refine bP (cs := #[.int .u8 0, .int .i64 0, .string (⟨#[]⟩ : BA), .string (⟨#[]⟩ : BA), .string (⟨#[]⟩ : BA), .int .u64 0]) ?_ 0 _ rfl; (with_reducible repeat (first | refine bN ?_ _ | refine bD ?_ | refine bA ?_ _)); exact BK164.out⟩
      have n3_ : Aside0 (Below w.heap.size w ((((((w20.setCell ⟨gb164, 0, none⟩ (.int .u8 t157)).setCell ⟨gb164, 1, none⟩ (.int .i64 t158)).setCell ⟨gb164, 2, none⟩ (.string t159)).setCell ⟨gb164, 3, none⟩ (.string t160)).setCell ⟨gb164, 4, none⟩ (.string t161)).setCell ⟨gb164, 5, none⟩ (.int .u64 t162))) := ⟨by repeat (first | (with_reducible first | exact HB.out | apply wA | apply wN | apply w1 | refine wS ?_ GE155.out | refine wS ?_ GE156.out | refine wS ?_ GE164.out) | exact HB.out)⟩
      (try clear BK155)
      (try clear BK156)
      (try clear BK164)
      (try clear HB)
      generalize ((((((w20.setCell ⟨gb164, 0, none⟩ (.int .u8 t157)).setCell ⟨gb164, 1, none⟩ (.int .i64 t158)).setCell ⟨gb164, 2, none⟩ (.string t159)).setCell ⟨gb164, 3, none⟩ (.string t160)).setCell ⟨gb164, 4, none⟩ (.string t161)).setCell ⟨gb164, 5, none⟩ (.int .u64 t162)) = w25 at n0_ n1_ n2_ n3_ ⊢
      have BK155 := n0_
      have BK156 := n1_
      have BK164 := n2_
      have HB := n3_
      clear n0_ n1_ n2_ n3_
      have n0_ := Aside0.mk (bD BK155.out)
      have n1_ := Aside0.mk (bD BK156.out)
      have n2_ := Aside0.mk (bD BK164.out)
      have n3_ := Aside0.mk (w1 HB.out)
      clear BK155
      clear BK156
      clear BK164
      clear HB
      have BK155 := n0_
      have BK156 := n1_
      have BK164 := n2_
      have HB := n3_
      clear n0_ n1_ n2_ n3_
      refine start_ (n := 6) (S := fun w' => w'.cell? ⟨gb155, 0, none⟩ = some (.int .u8 a0_0) ∧ w'.cell? ⟨gb155, 1, none⟩ = some (.int .i64 a0_1) ∧ w'.cell? ⟨gb155, 2, none⟩ = some (.string a0_2) ∧ w'.cell? ⟨gb155, 3, none⟩ = some (.string a0_3) ∧ w'.cell? ⟨gb155, 4, none⟩ = some (.string a0_4) ∧ w'.cell? ⟨gb155, 5, none⟩ = some (.int .u64 a0_5)) (ds := []) #[ZZ,ZZ,ZZ,ZZ,ZZ,ZZ] (by kernel_rfl) rfl rfl ⟨(bC BK155.out 0).trans rfl, (bC BK155.out 1).trans rfl, (bC BK155.out 2).trans rfl, (bC BK155.out 3).trans rfl, (bC BK155.out 4).trans rfl, (bC BK155.out 5).trans rfl⟩ (fun hHeld => ?_)
      generalize w25.drew = w26 at BK155 BK156 BK164 HB hHeld ⊢
      refine take_ (i := 0) (N := some 31) (v := ?_) (a' := ?_) #[YY,ZZ,ZZ,ZZ,ZZ,ZZ] rfl rfl (by kernel_rfl) (fun _ _ _ h => h) (Or.inl ⟨by rfl, ?_⟩) hHeld ?_ ?_
      rotate_left
      ·rintro w' ⟨s0, s1, s2, s3, s4, s5⟩
       go_simp
       with_reducible rfl
      rotate_left
      ·simp only [Act.put, sA1, sA2, sA3, i64_w, i32_w]
       rfl
      refine take_ (i := 1) (N := some 32) (v := ?_) (a' := ?_) #[YY,YY,ZZ,ZZ,ZZ,ZZ] rfl rfl (by kernel_rfl) (fun _ _ _ h => h) (Or.inl ⟨by rfl, ?_⟩) hHeld ?_ ?_
      rotate_left
      ·rintro w' ⟨s0, s1, s2, s3, s4, s5⟩
       go_simp
       with_reducible rfl
      rotate_left
      ·simp only [Act.put, sA1, sA2, sA3, i64_w, i32_w]
       rfl
      refine join_ (σ := Nat × Nat) 2 #[YY,YY,YY,YY,ZZ,ZZ] (fun s_ => [(8, .pointer (some ⟨s_.1, 0, none⟩)), (9, .pointer (some ⟨s_.2, 0, none⟩))]) (fun s_ w' => (w'.cell? ⟨gb155, 0, none⟩ = some (.int .u8 a0_0) ∧ w'.cell? ⟨gb155, 1, none⟩ = some (.int .i64 a0_1) ∧ w'.cell? ⟨gb155, 2, none⟩ = some (.string a0_2) ∧ w'.cell? ⟨gb155, 3, none⟩ = some (.string a0_3) ∧ w'.cell? ⟨gb155, 4, none⟩ = some (.string a0_4) ∧ w'.cell? ⟨gb155, 5, none⟩ = some (.int .u64 a0_5)) ∧ (w'.heap[gb155]? = some (.cells #[.int .u8 a0_0, .int .i64 a0_1, .string a0_2, .string a0_3, .string a0_4, .int .u64 a0_5] 25 (0, 0))) ∧ (w'.heap[gb156]? = some (.cells #[.string a1_0, .string a1_1] 31 (0, 0))) ∧ (w'.heap[gb164]? = some (.cells #[.int .u8 t157, .int .i64 t158, .string t159, .string t160, .string t161, .int .u64 t162] 25 (0, 0))) ∧ (w'.heap[s_.1]? = some (.cells #[.int .u8 0, .int .i64 0, .string (⟨#[]⟩ : BA), .string (⟨#[]⟩ : BA), .string (⟨#[]⟩ : BA), .int .u64 0] 25 (0, 0))) ∧ (w'.heap[s_.2]? = some (.cells #[.int .u8 0, .int .i64 0, .string (⟨#[]⟩ : BA), .string (⟨#[]⟩ : BA), .string (⟨#[]⟩ : BA), .int .u64 0] 25 (0, 0))) ∧ (w.heap.size ≤ s_.1) ∧ (w.heap.size ≤ s_.1) ∧ (gb155 ≠ s_.1) ∧ (s_.1 ≠ gb155) ∧ (gb156 ≠ s_.1) ∧ (s_.1 ≠ gb156) ∧ (gb164 ≠ s_.1) ∧ (s_.1 ≠ gb164) ∧ (s_.2 ≠ s_.1) ∧ (s_.1 ≠ s_.2) ∧ (w.heap.size ≤ s_.2) ∧ (w.heap.size ≤ s_.2) ∧ (gb155 ≠ s_.2) ∧ (s_.2 ≠ gb155) ∧ (gb156 ≠ s_.2) ∧ (s_.2 ≠ gb156) ∧ (gb164 ≠ s_.2) ∧ (s_.2 ≠ gb164) ∧ (Below w.heap.size w w')) ?_ ?_
      rotate_left
      ·intro hCont
       refine two_ (i := 2) (j := 3) (Ni := some 8) (Nj := some 9) #[YY,YY,YY,ZZ,ZZ,ZZ] #[YY,YY,ZZ,YY,ZZ,ZZ] rfl rfl rfl rfl (by kernel_rfl) (by decide) (by decide) (fun K hK => ?_) (fun K hK => ?_)
       ·skip
        refine box_step ?hg (N := 8) ?hd (cs := #[.int .u8 0, .int .i64 0, .string (⟨#[]⟩ : BA), .string (⟨#[]⟩ : BA), .string (⟨#[]⟩ : BA), .int .u64 0]) (t := 25) ?hr ?_; (case hd => rfl); (case hg => rfl); (case hr => first | (go_simp; done) | (go_simp; rfl))
        intro gb168 hg w27 hbox hb
        have n0_ := Aside0.mk (bB (g := gb155) (o := .cells #[.int .u8 a0_0, .int .i64 a0_1, .string a0_2, .string a0_3, .string a0_4, .int .u64 a0_5] 25 (0, 0)) (by (with_reducible repeat (first | refine bN ?_ _ | refine bD ?_ | refine bA ?_ _)); exact BK155.out) hb)
        have n1_ := Aside0.mk (bB (g := gb156) (o := .cells #[.string a1_0, .string a1_1] 31 (0, 0)) (by (with_reducible repeat (first | refine bN ?_ _ | refine bD ?_ | refine bA ?_ _)); exact BK156.out) hb)
        have n2_ := Aside0.mk (bB (g := gb164) (o := .cells #[.int .u8 t157, .int .i64 t158, .string t159, .string t160, .string t161, .int .u64 t162] 25 (0, 0)) (by (with_reducible repeat (first | refine bN ?_ _ | refine bD ?_ | refine bA ?_ _)); exact BK164.out) hb)
        have n3_ := Aside0.mk (wT (by repeat (first | (with_reducible first | exact HB.out | apply wA | apply wN | apply w1 | refine wS ?_ GE155.out | refine wS ?_ GE156.out | refine wS ?_ GE164.out) | exact HB.out)) hb)
        have n4_ := Aside0.mk (hbox)
        have n5_ := Aside0.mk ((by rw [hg]; exact (wZ (by repeat (first | (with_reducible first | exact HB.out | apply wA | apply wN | apply w1 | refine wS ?_ GE155.out | refine wS ?_ GE156.out | refine wS ?_ GE164.out) | exact HB.out))) : w.heap.size ≤ gb168))
        have n6_ := Aside0.mk ((by rw [hg]; exact (wZ (by repeat (first | (with_reducible first | exact HB.out | apply wA | apply wN | apply w1 | refine wS ?_ GE155.out | refine wS ?_ GE156.out | refine wS ?_ GE164.out) | exact HB.out))) : w.heap.size ≤ gb168))
        have n7_ := Aside0.mk ((by rw [hg]; exact Nat.ne_of_lt (blk_lt (g := gb155) (o := .cells #[.int .u8 a0_0, .int .i64 a0_1, .string a0_2, .string a0_3, .string a0_4, .int .u64 a0_5] 25 (0, 0)) (by (with_reducible repeat (first | refine bN ?_ _ | refine bD ?_ | refine bA ?_ _)); exact BK155.out)) : gb155 ≠ gb168))
        have n8_ := Aside0.mk ((by rw [hg]; exact Nat.ne_of_gt (blk_lt (g := gb155) (o := .cells #[.int .u8 a0_0, .int .i64 a0_1, .string a0_2, .string a0_3, .string a0_4, .int .u64 a0_5] 25 (0, 0)) (by (with_reducible repeat (first | refine bN ?_ _ | refine bD ?_ | refine bA ?_ _)); exact BK155.out)) : gb168 ≠ gb155))
        have n9_ := Aside0.mk ((by rw [hg]; exact Nat.ne_of_lt (blk_lt (g := gb156) (o := .cells #[.string a1_0, .string a1_1] 31 (0, 0)) (by (with_reducible repeat (first | refine bN ?_ _ | refine bD ?_ | refine bA ?_ _)); exact BK156.out)) : gb156 ≠ gb168))
        have n10_ := Aside0.mk ((by rw [hg]; exact Nat.ne_of_gt (blk_lt (g := gb156) (o := .cells #[.string a1_0, .string a1_1] 31 (0, 0)) (by (with_reducible repeat (first | refine bN ?_ _ | refine bD ?_ | refine bA ?_ _)); exact BK156.out)) : gb168 ≠ gb156))
        have n11_ := Aside0.mk ((by rw [hg]; exact Nat.ne_of_lt (blk_lt (g := gb164) (o := .cells #[.int .u8 t157, .int .i64 t158, .string t159, .string t160, .string t161, .int .u64 t162] 25 (0, 0)) (by (with_reducible repeat (first | refine bN ?_ _ | refine bD ?_ | refine bA ?_ _)); exact BK164.out)) : gb164 ≠ gb168))
        have n12_ := Aside0.mk ((by rw [hg]; exact Nat.ne_of_gt (blk_lt (g := gb164) (o := .cells #[.int .u8 t157, .int .i64 t158, .string t159, .string t160, .string t161, .int .u64 t162] 25 (0, 0)) (by (with_reducible repeat (first | refine bN ?_ _ | refine bD ?_ | refine bA ?_ _)); exact BK164.out)) : gb168 ≠ gb164))
        clear BK155
        clear BK156
        clear BK164
        clear HB
        have BK155 := n0_
        have BK156 := n1_
        have BK164 := n2_
        have HB := n3_
        have BK168 := n4_
        have GW168 := n5_
        have GE168 := n6_
        have NB155_168 := n7_
        have NB168_155 := n8_
        have NB156_168 := n9_
        have NB168_156 := n10_
        have NB164_168 := n11_
        have NB168_164 := n12_
        clear n0_ n1_ n2_ n3_ n4_ n5_ n6_ n7_ n8_ n9_ n10_ n11_ n12_
        clear hb hbox hg
        refine hK.out _ _ ⟨(bC BK155.out 0).trans rfl, (bC BK155.out 1).trans rfl, (bC BK155.out 2).trans rfl, (bC BK155.out 3).trans rfl, (bC BK155.out 4).trans rfl, (bC BK155.out 5).trans rfl⟩ (fun hHeld => ?_)
        clear hK K
        refine norm_ (a' := ?_) ?_ ?_
        rotate_left
        ·show Act.put _ (some 8) _ = _
         simp only [Act.put, sA1, sA2, sA3, i64_w, i32_w]
         rfl
        refine one_ (i := 3) (N := some 9) #[YY,YY,YY,YY,ZZ,ZZ] rfl rfl (by kernel_rfl) (by decide) (fun K hK => ?_)
        refine box_step ?hg (N := 9) ?hd (cs := #[.int .u8 0, .int .i64 0, .string (⟨#[]⟩ : BA), .string (⟨#[]⟩ : BA), .string (⟨#[]⟩ : BA), .int .u64 0]) (t := 25) ?hr ?_; (case hd => rfl); (case hg => rfl); (case hr => first | (go_simp; done) | (go_simp; rfl))
        intro gb169 hg w28 hbox hb
        have n0_ := Aside0.mk (bB (g := gb155) (o := .cells #[.int .u8 a0_0, .int .i64 a0_1, .string a0_2, .string a0_3, .string a0_4, .int .u64 a0_5] 25 (0, 0)) (by (with_reducible repeat (first | refine bN ?_ _ | refine bD ?_ | refine bA ?_ _)); exact BK155.out) hb)
        have n1_ := Aside0.mk (bB (g := gb156) (o := .cells #[.string a1_0, .string a1_1] 31 (0, 0)) (by (with_reducible repeat (first | refine bN ?_ _ | refine bD ?_ | refine bA ?_ _)); exact BK156.out) hb)
        have n2_ := Aside0.mk (bB (g := gb164) (o := .cells #[.int .u8 t157, .int .i64 t158, .string t159, .string t160, .string t161, .int .u64 t162] 25 (0, 0)) (by (with_reducible repeat (first | refine bN ?_ _ | refine bD ?_ | refine bA ?_ _)); exact BK164.out) hb)
        have n3_ := Aside0.mk (bB (g := gb168) (o := .cells #[.int .u8 0, .int .i64 0, .string (⟨#[]⟩ : BA), .string (⟨#[]⟩ : BA), .string (⟨#[]⟩ : BA), .int .u64 0] 25 (0, 0)) (by (with_reducible repeat (first | refine bN ?_ _ | refine bD ?_ | refine bA ?_ _)); exact BK168.out) hb)
        have n4_ := Aside0.mk (wT (by repeat (first | (with_reducible first | exact HB.out | apply wA | apply wN | apply w1 | refine wS ?_ GE155.out | refine wS ?_ GE156.out | refine wS ?_ GE164.out | refine wS ?_ GE168.out) | exact HB.out)) hb)
        have n5_ := Aside0.mk (hbox)
        have n6_ := Aside0.mk ((by rw [hg]; exact (wZ (by repeat (first | (with_reducible first | exact HB.out | apply wA | apply wN | apply w1 | refine wS ?_ GE155.out | refine wS ?_ GE156.out | refine wS ?_ GE164.out | refine wS ?_ GE168.out) | exact HB.out))) : w.heap.size ≤ gb169))
        have n7_ := Aside0.mk ((by rw [hg]; exact (wZ (by repeat (first | (with_reducible first | exact HB.out | apply wA | apply wN | apply w1 | refine wS ?_ GE155.out | refine wS ?_ GE156.out | refine wS ?_ GE164.out | refine wS ?_ GE168.out) | exact HB.out))) : w.heap.size ≤ gb169))
        have n8_ := Aside0.mk ((by rw [hg]; exact Nat.ne_of_lt (blk_lt (g := gb155) (o := .cells #[.int .u8 a0_0, .int .i64 a0_1, .string a0_2, .string a0_3, .string a0_4, .int .u64 a0_5] 25 (0, 0)) (by (with_reducible repeat (first | refine bN ?_ _ | refine bD ?_ | refine bA ?_ _)); exact BK155.out)) : gb155 ≠ gb169))
        have n9_ := Aside0.mk ((by rw [hg]; exact Nat.ne_of_gt (blk_lt (g := gb155) (o := .cells #[.int .u8 a0_0, .int .i64 a0_1, .string a0_2, .string a0_3, .string a0_4, .int .u64 a0_5] 25 (0, 0)) (by (with_reducible repeat (first | refine bN ?_ _ | refine bD ?_ | refine bA ?_ _)); exact BK155.out)) : gb169 ≠ gb155))
        have n10_ := Aside0.mk ((by rw [hg]; exact Nat.ne_of_lt (blk_lt (g := gb156) (o := .cells #[.string a1_0, .string a1_1] 31 (0, 0)) (by (with_reducible repeat (first | refine bN ?_ _ | refine bD ?_ | refine bA ?_ _)); exact BK156.out)) : gb156 ≠ gb169))
        have n11_ := Aside0.mk ((by rw [hg]; exact Nat.ne_of_gt (blk_lt (g := gb156) (o := .cells #[.string a1_0, .string a1_1] 31 (0, 0)) (by (with_reducible repeat (first | refine bN ?_ _ | refine bD ?_ | refine bA ?_ _)); exact BK156.out)) : gb169 ≠ gb156))
        have n12_ := Aside0.mk ((by rw [hg]; exact Nat.ne_of_lt (blk_lt (g := gb164) (o := .cells #[.int .u8 t157, .int .i64 t158, .string t159, .string t160, .string t161, .int .u64 t162] 25 (0, 0)) (by (with_reducible repeat (first | refine bN ?_ _ | refine bD ?_ | refine bA ?_ _)); exact BK164.out)) : gb164 ≠ gb169))
        have n13_ := Aside0.mk ((by rw [hg]; exact Nat.ne_of_gt (blk_lt (g := gb164) (o := .cells #[.int .u8 t157, .int .i64 t158, .string t159, .string t160, .string t161, .int .u64 t162] 25 (0, 0)) (by (with_reducible repeat (first | refine bN ?_ _ | refine bD ?_ | refine bA ?_ _)); exact BK164.out)) : gb169 ≠ gb164))
        have n14_ := Aside0.mk ((by rw [hg]; exact Nat.ne_of_lt (blk_lt (g := gb168) (o := .cells #[.int .u8 0, .int .i64 0, .string (⟨#[]⟩ : BA), .string (⟨#[]⟩ : BA), .string (⟨#[]⟩ : BA), .int .u64 0] 25 (0, 0)) (by (with_reducible repeat (first | refine bN ?_ _ | refine bD ?_ | refine bA ?_ _)); exact BK168.out)) : gb168 ≠ gb169))
        have n15_ := Aside0.mk ((by rw [hg]; exact Nat.ne_of_gt (blk_lt (g := gb168) (o := .cells #[.int .u8 0, .int .i64 0, .string (⟨#[]⟩ : BA), .string (⟨#[]⟩ : BA), .string (⟨#[]⟩ : BA), .int .u64 0] 25 (0, 0)) (by (with_reducible repeat (first | refine bN ?_ _ | refine bD ?_ | refine bA ?_ _)); exact BK168.out)) : gb169 ≠ gb168))
        clear BK155
        clear BK156
        clear BK164
        clear BK168
        clear HB
        have BK155 := n0_
        have BK156 := n1_
        have BK164 := n2_
        have BK168 := n3_
        have HB := n4_
        have BK169 := n5_
        have GW169 := n6_
        have GE169 := n7_
        have NB155_169 := n8_
        have NB169_155 := n9_
        have NB156_169 := n10_
        have NB169_156 := n11_
        have NB164_169 := n12_
        have NB169_164 := n13_
        have NB168_169 := n14_
        have NB169_168 := n15_
        clear n0_ n1_ n2_ n3_ n4_ n5_ n6_ n7_ n8_ n9_ n10_ n11_ n12_ n13_ n14_ n15_
        clear hb hbox hg
        refine hK.out _ _ ⟨(bC BK155.out 0).trans rfl, (bC BK155.out 1).trans rfl, (bC BK155.out 2).trans rfl, (bC BK155.out 3).trans rfl, (bC BK155.out 4).trans rfl, (bC BK155.out 5).trans rfl⟩ (fun hHeld => ?_)
        clear hK K
        refine norm_ (a' := ?_) ?_ ?_
        rotate_left
        ·show Act.put _ (some 9) _ = _
         simp only [Act.put, sA1, sA2, sA3, i64_w, i32_w]
         rfl
        exact norm_ (by simp only [putAll, Act.put, sA1, sA2, sA3]) (hCont (gb168, gb169) _ ⟨hHeld, (by (with_reducible repeat (first | refine bN ?_ _ | refine bD ?_ | refine bA ?_ _)); exact BK155.out), (by (with_reducible repeat (first | refine bN ?_ _ | refine bD ?_ | refine bA ?_ _)); exact BK156.out), (by (with_reducible repeat (first | refine bN ?_ _ | refine bD ?_ | refine bA ?_ _)); exact BK164.out), (by (with_reducible repeat (first | refine bN ?_ _ | refine bD ?_ | refine bA ?_ _)); exact BK168.out), (by (with_reducible repeat (first | refine bN ?_ _ | refine bD ?_ | refine bA ?_ _)); exact BK169.out), GW168.out, GE168.out, NB155_168.out, NB168_155.out, NB156_168.out, NB168_156.out, NB164_168.out, NB168_164.out, NB169_168.out, NB168_169.out, GW169.out, GE169.out, NB155_169.out, NB169_155.out, NB156_169.out, NB169_156.out, NB164_169.out, NB169_164.out, (by repeat (first | (with_reducible first | exact HB.out | apply wA | apply wN | apply w1 | refine wS ?_ GE155.out | refine wS ?_ GE156.out | refine wS ?_ GE164.out | refine wS ?_ GE168.out | refine wS ?_ GE169.out) | exact HB.out))⟩)
       ·skip
        refine box_step ?hg (N := 9) ?hd (cs := #[.int .u8 0, .int .i64 0, .string (⟨#[]⟩ : BA), .string (⟨#[]⟩ : BA), .string (⟨#[]⟩ : BA), .int .u64 0]) (t := 25) ?hr ?_; (case hd => rfl); (case hg => rfl); (case hr => first | (go_simp; done) | (go_simp; rfl))
        intro gb169 hg w27 hbox hb
        have n0_ := Aside0.mk (bB (g := gb155) (o := .cells #[.int .u8 a0_0, .int .i64 a0_1, .string a0_2, .string a0_3, .string a0_4, .int .u64 a0_5] 25 (0, 0)) (by (with_reducible repeat (first | refine bN ?_ _ | refine bD ?_ | refine bA ?_ _)); exact BK155.out) hb)
        have n1_ := Aside0.mk (bB (g := gb156) (o := .cells #[.string a1_0, .string a1_1] 31 (0, 0)) (by (with_reducible repeat (first | refine bN ?_ _ | refine bD ?_ | refine bA ?_ _)); exact BK156.out) hb)
        have n2_ := Aside0.mk (bB (g := gb164) (o := .cells #[.int .u8 t157, .int .i64 t158, .string t159, .string t160, .string t161, .int .u64 t162] 25 (0, 0)) (by (with_reducible repeat (first | refine bN ?_ _ | refine bD ?_ | refine bA ?_ _)); exact BK164.out) hb)
        have n3_ := Aside0.mk (wT (by repeat (first | (with_reducible first | exact HB.out | apply wA | apply wN | apply w1 | refine wS ?_ GE155.out | refine wS ?_ GE156.out | refine wS ?_ GE164.out) | exact HB.out)) hb)
        have n4_ := Aside0.mk (hbox)
        have n5_ := Aside0.mk ((by rw [hg]; exact (wZ (by repeat (first | (with_reducible first | exact HB.out | apply wA | apply wN | apply w1 | refine wS ?_ GE155.out | refine wS ?_ GE156.out | refine wS ?_ GE164.out) | exact HB.out))) : w.heap.size ≤ gb169))
        have n6_ := Aside0.mk ((by rw [hg]; exact (wZ (by repeat (first | (with_reducible first | exact HB.out | apply wA | apply wN | apply w1 | refine wS ?_ GE155.out | refine wS ?_ GE156.out | refine wS ?_ GE164.out) | exact HB.out))) : w.heap.size ≤ gb169))
        have n7_ := Aside0.mk ((by rw [hg]; exact Nat.ne_of_lt (blk_lt (g := gb155) (o := .cells #[.int .u8 a0_0, .int .i64 a0_1, .string a0_2, .string a0_3, .string a0_4, .int .u64 a0_5] 25 (0, 0)) (by (with_reducible repeat (first | refine bN ?_ _ | refine bD ?_ | refine bA ?_ _)); exact BK155.out)) : gb155 ≠ gb169))
        have n8_ := Aside0.mk ((by rw [hg]; exact Nat.ne_of_gt (blk_lt (g := gb155) (o := .cells #[.int .u8 a0_0, .int .i64 a0_1, .string a0_2, .string a0_3, .string a0_4, .int .u64 a0_5] 25 (0, 0)) (by (with_reducible repeat (first | refine bN ?_ _ | refine bD ?_ | refine bA ?_ _)); exact BK155.out)) : gb169 ≠ gb155))
        have n9_ := Aside0.mk ((by rw [hg]; exact Nat.ne_of_lt (blk_lt (g := gb156) (o := .cells #[.string a1_0, .string a1_1] 31 (0, 0)) (by (with_reducible repeat (first | refine bN ?_ _ | refine bD ?_ | refine bA ?_ _)); exact BK156.out)) : gb156 ≠ gb169))
        have n10_ := Aside0.mk ((by rw [hg]; exact Nat.ne_of_gt (blk_lt (g := gb156) (o := .cells #[.string a1_0, .string a1_1] 31 (0, 0)) (by (with_reducible repeat (first | refine bN ?_ _ | refine bD ?_ | refine bA ?_ _)); exact BK156.out)) : gb169 ≠ gb156))
        have n11_ := Aside0.mk ((by rw [hg]; exact Nat.ne_of_lt (blk_lt (g := gb164) (o := .cells #[.int .u8 t157, .int .i64 t158, .string t159, .string t160, .string t161, .int .u64 t162] 25 (0, 0)) (by (with_reducible repeat (first | refine bN ?_ _ | refine bD ?_ | refine bA ?_ _)); exact BK164.out)) : gb164 ≠ gb169))
        have n12_ := Aside0.mk ((by rw [hg]; exact Nat.ne_of_gt (blk_lt (g := gb164) (o := .cells #[.int .u8 t157, .int .i64 t158, .string t159, .string t160, .string t161, .int .u64 t162] 25 (0, 0)) (by (with_reducible repeat (first | refine bN ?_ _ | refine bD ?_ | refine bA ?_ _)); exact BK164.out)) : gb169 ≠ gb164))
        clear BK155
        clear BK156
        clear BK164
        clear HB
        have BK155 := n0_
        have BK156 := n1_
        have BK164 := n2_
        have HB := n3_
        have BK169 := n4_
        have GW169 := n5_
        have GE169 := n6_
        have NB155_169 := n7_
        have NB169_155 := n8_
        have NB156_169 := n9_
        have NB169_156 := n10_
        have NB164_169 := n11_
        have NB169_164 := n12_
        clear n0_ n1_ n2_ n3_ n4_ n5_ n6_ n7_ n8_ n9_ n10_ n11_ n12_
        clear hb hbox hg
        refine hK.out _ _ ⟨(bC BK155.out 0).trans rfl, (bC BK155.out 1).trans rfl, (bC BK155.out 2).trans rfl, (bC BK155.out 3).trans rfl, (bC BK155.out 4).trans rfl, (bC BK155.out 5).trans rfl⟩ (fun hHeld => ?_)
        clear hK K
        refine norm_ (a' := ?_) ?_ ?_
        rotate_left
        ·show Act.put _ (some 9) _ = _
         simp only [Act.put, sA1, sA2, sA3, i64_w, i32_w]
         rfl
        refine one_ (i := 2) (N := some 8) #[YY,YY,YY,YY,ZZ,ZZ] rfl rfl (by kernel_rfl) (by decide) (fun K hK => ?_)
        refine box_step ?hg (N := 8) ?hd (cs := #[.int .u8 0, .int .i64 0, .string (⟨#[]⟩ : BA), .string (⟨#[]⟩ : BA), .string (⟨#[]⟩ : BA), .int .u64 0]) (t := 25) ?hr ?_; (case hd => rfl); (case hg => rfl); (case hr => first | (go_simp; done) | (go_simp; rfl))
        intro gb168 hg w28 hbox hb
        have n0_ := Aside0.mk (bB (g := gb155) (o := .cells #[.int .u8 a0_0, .int .i64 a0_1, .string a0_2, .string a0_3, .string a0_4, .int .u64 a0_5] 25 (0, 0)) (by (with_reducible repeat (first | refine bN ?_ _ | refine bD ?_ | refine bA ?_ _)); exact BK155.out) hb)
        have n1_ := Aside0.mk (bB (g := gb156) (o := .cells #[.string a1_0, .string a1_1] 31 (0, 0)) (by (with_reducible repeat (first | refine bN ?_ _ | refine bD ?_ | refine bA ?_ _)); exact BK156.out) hb)
        have n2_ := Aside0.mk (bB (g := gb164) (o := .cells #[.int .u8 t157, .int .i64 t158, .string t159, .string t160, .string t161, .int .u64 t162] 25 (0, 0)) (by (with_reducible repeat (first | refine bN ?_ _ | refine bD ?_ | refine bA ?_ _)); exact BK164.out) hb)
        have n3_ := Aside0.mk (bB (g := gb169) (o := .cells #[.int .u8 0, .int .i64 0, .string (⟨#[]⟩ : BA), .string (⟨#[]⟩ : BA), .string (⟨#[]⟩ : BA), .int .u64 0] 25 (0, 0)) (by (with_reducible repeat (first | refine bN ?_ _ | refine bD ?_ | refine bA ?_ _)); exact BK169.out) hb)
        have n4_ := Aside0.mk (wT (by repeat (first | (with_reducible first | exact HB.out | apply wA | apply wN | apply w1 | refine wS ?_ GE155.out | refine wS ?_ GE156.out | refine wS ?_ GE164.out | refine wS ?_ GE169.out) | exact HB.out)) hb)
        have n5_ := Aside0.mk (hbox)
        have n6_ := Aside0.mk ((by rw [hg]; exact (wZ (by repeat (first | (with_reducible first | exact HB.out | apply wA | apply wN | apply w1 | refine wS ?_ GE155.out | refine wS ?_ GE156.out | refine wS ?_ GE164.out | refine wS ?_ GE169.out) | exact HB.out))) : w.heap.size ≤ gb168))
        have n7_ := Aside0.mk ((by rw [hg]; exact (wZ (by repeat (first | (with_reducible first | exact HB.out | apply wA | apply wN | apply w1 | refine wS ?_ GE155.out | refine wS ?_ GE156.out | refine wS ?_ GE164.out | refine wS ?_ GE169.out) | exact HB.out))) : w.heap.size ≤ gb168))
        have n8_ := Aside0.mk ((by rw [hg]; exact Nat.ne_of_lt (blk_lt (g := gb155) (o := .cells #[.int .u8 a0_0, .int .i64 a0_1, .string a0_2, .string a0_3, .string a0_4, .int .u64 a0_5] 25 (0, 0)) (by (with_reducible repeat (first | refine bN ?_ _ | refine bD ?_ | refine bA ?_ _)); exact BK155.out)) : gb155 ≠ gb168))
        have n9_ := Aside0.mk ((by rw [hg]; exact Nat.ne_of_gt (blk_lt (g := gb155) (o := .cells #[.int .u8 a0_0, .int .i64 a0_1, .string a0_2, .string a0_3, .string a0_4, .int .u64 a0_5] 25 (0, 0)) (by (with_reducible repeat (first | refine bN ?_ _ | refine bD ?_ | refine bA ?_ _)); exact BK155.out)) : gb168 ≠ gb155))
        have n10_ := Aside0.mk ((by rw [hg]; exact Nat.ne_of_lt (blk_lt (g := gb156) (o := .cells #[.string a1_0, .string a1_1] 31 (0, 0)) (by (with_reducible repeat (first | refine bN ?_ _ | refine bD ?_ | refine bA ?_ _)); exact BK156.out)) : gb156 ≠ gb168))
        have n11_ := Aside0.mk ((by rw [hg]; exact Nat.ne_of_gt (blk_lt (g := gb156) (o := .cells #[.string a1_0, .string a1_1] 31 (0, 0)) (by (with_reducible repeat (first | refine bN ?_ _ | refine bD ?_ | refine bA ?_ _)); exact BK156.out)) : gb168 ≠ gb156))
        have n12_ := Aside0.mk ((by rw [hg]; exact Nat.ne_of_lt (blk_lt (g := gb164) (o := .cells #[.int .u8 t157, .int .i64 t158, .string t159, .string t160, .string t161, .int .u64 t162] 25 (0, 0)) (by (with_reducible repeat (first | refine bN ?_ _ | refine bD ?_ | refine bA ?_ _)); exact BK164.out)) : gb164 ≠ gb168))
        have n13_ := Aside0.mk ((by rw [hg]; exact Nat.ne_of_gt (blk_lt (g := gb164) (o := .cells #[.int .u8 t157, .int .i64 t158, .string t159, .string t160, .string t161, .int .u64 t162] 25 (0, 0)) (by (with_reducible repeat (first | refine bN ?_ _ | refine bD ?_ | refine bA ?_ _)); exact BK164.out)) : gb168 ≠ gb164))
        have n14_ := Aside0.mk ((by rw [hg]; exact Nat.ne_of_lt (blk_lt (g := gb169) (o := .cells #[.int .u8 0, .int .i64 0, .string (⟨#[]⟩ : BA), .string (⟨#[]⟩ : BA), .string (⟨#[]⟩ : BA), .int .u64 0] 25 (0, 0)) (by (with_reducible repeat (first | refine bN ?_ _ | refine bD ?_ | refine bA ?_ _)); exact BK169.out)) : gb169 ≠ gb168))
        have n15_ := Aside0.mk ((by rw [hg]; exact Nat.ne_of_gt (blk_lt (g := gb169) (o := .cells #[.int .u8 0, .int .i64 0, .string (⟨#[]⟩ : BA), .string (⟨#[]⟩ : BA), .string (⟨#[]⟩ : BA), .int .u64 0] 25 (0, 0)) (by (with_reducible repeat (first | refine bN ?_ _ | refine bD ?_ | refine bA ?_ _)); exact BK169.out)) : gb168 ≠ gb169))
        clear BK155
        clear BK156
        clear BK164
        clear BK169
        clear HB
        have BK155 := n0_
        have BK156 := n1_
        have BK164 := n2_
        have BK169 := n3_
        have HB := n4_
        have BK168 := n5_
        have GW168 := n6_
        have GE168 := n7_
        have NB155_168 := n8_
        have NB168_155 := n9_
        have NB156_168 := n10_
        have NB168_156 := n11_
        have NB164_168 := n12_
        have NB168_164 := n13_
        have NB169_168 := n14_
        have NB168_169 := n15_
        clear n0_ n1_ n2_ n3_ n4_ n5_ n6_ n7_ n8_ n9_ n10_ n11_ n12_ n13_ n14_ n15_
        clear hb hbox hg
        refine hK.out _ _ ⟨(bC BK155.out 0).trans rfl, (bC BK155.out 1).trans rfl, (bC BK155.out 2).trans rfl, (bC BK155.out 3).trans rfl, (bC BK155.out 4).trans rfl, (bC BK155.out 5).trans rfl⟩ (fun hHeld => ?_)
        clear hK K
        refine norm_ (a' := ?_) ?_ ?_
        rotate_left
        ·show Act.put _ (some 8) _ = _
         simp only [Act.put, sA1, sA2, sA3, i64_w, i32_w]
         rfl
        exact norm_ (by simp only [putAll, Act.put, sA1, sA2, sA3]) (hCont (gb168, gb169) _ ⟨hHeld, (by (with_reducible repeat (first | refine bN ?_ _ | refine bD ?_ | refine bA ?_ _)); exact BK155.out), (by (with_reducible repeat (first | refine bN ?_ _ | refine bD ?_ | refine bA ?_ _)); exact BK156.out), (by (with_reducible repeat (first | refine bN ?_ _ | refine bD ?_ | refine bA ?_ _)); exact BK164.out), (by (with_reducible repeat (first | refine bN ?_ _ | refine bD ?_ | refine bA ?_ _)); exact BK168.out), (by (with_reducible repeat (first | refine bN ?_ _ | refine bD ?_ | refine bA ?_ _)); exact BK169.out), GW168.out, GE168.out, NB155_168.out, NB168_155.out, NB156_168.out, NB168_156.out, NB164_168.out, NB168_164.out, NB169_168.out, NB168_169.out, GW169.out, GE169.out, NB155_169.out, NB169_155.out, NB156_169.out, NB169_156.out, NB164_169.out, NB169_164.out, (by repeat (first | (with_reducible first | exact HB.out | apply wA | apply wN | apply w1 | refine wS ?_ GE155.out | refine wS ?_ GE156.out | refine wS ?_ GE164.out | refine wS ?_ GE169.out | refine wS ?_ GE168.out) | exact HB.out))⟩)
      rintro ⟨gb168, gb169⟩ w29 ⟨hS_, h0_, h1_, h2_, h3_, h4_, h5_, h6_, h7_, h8_, h9_, h10_, h11_, h12_, h13_, h14_, h15_, h16_, h17_, h18_, h19_, h20_, h21_, h22_, h23_⟩
      have n0_ : Aside0 (w29.heap[gb155]? = some (.cells #[.int .u8 a0_0, .int .i64 a0_1, .string a0_2, .string a0_3, .string a0_4, .int .u64 a0_5] 25 (0, 0))) := ⟨h0_⟩
      have n1_ : Aside0 (w29.heap[gb156]? = some (.cells #[.string a1_0, .string a1_1] 31 (0, 0))) := ⟨h1_⟩
      have n2_ : Aside0 (w29.heap[gb164]? = some (.cells #[.int .u8 t157, .int .i64 t158, .string t159, .string t160, .string t161, .int .u64 t162] 25 (0, 0))) := ⟨h2_⟩
      have n3_ : Aside0 (w29.heap[gb168]? = some (.cells #[.int .u8 0, .int .i64 0, .string (⟨#[]⟩ : BA), .string (⟨#[]⟩ : BA), .string (⟨#[]⟩ : BA), .int .u64 0] 25 (0, 0))) := ⟨h3_⟩
      have n4_ : Aside0 (w29.heap[gb169]? = some (.cells #[.int .u8 0, .int .i64 0, .string (⟨#[]⟩ : BA), .string (⟨#[]⟩ : BA), .string (⟨#[]⟩ : BA), .int .u64 0] 25 (0, 0))) := ⟨h4_⟩
      have n5_ : Aside0 (w.heap.size ≤ gb168) := ⟨h5_⟩
      have n6_ : Aside0 (w.heap.size ≤ gb168) := ⟨h6_⟩
      have n7_ : Aside0 (gb155 ≠ gb168) := ⟨h7_⟩
      have n8_ : Aside0 (gb168 ≠ gb155) := ⟨h8_⟩
      have n9_ : Aside0 (gb156 ≠ gb168) := ⟨h9_⟩
      have n10_ : Aside0 (gb168 ≠ gb156) := ⟨h10_⟩
      have n11_ : Aside0 (gb164 ≠ gb168) := ⟨h11_⟩
      have n12_ : Aside0 (gb168 ≠ gb164) := ⟨h12_⟩
      have n13_ : Aside0 (gb169 ≠ gb168) := ⟨h13_⟩
      have n14_ : Aside0 (gb168 ≠ gb169) := ⟨h14_⟩
      have n15_ : Aside0 (w.heap.size ≤ gb169) := ⟨h15_⟩
      have n16_ : Aside0 (w.heap.size ≤ gb169) := ⟨h16_⟩
      have n17_ : Aside0 (gb155 ≠ gb169) := ⟨h17_⟩
      have n18_ : Aside0 (gb169 ≠ gb155) := ⟨h18_⟩
      have n19_ : Aside0 (gb156 ≠ gb169) := ⟨h19_⟩
      have n20_ : Aside0 (gb169 ≠ gb156) := ⟨h20_⟩
      have n21_ : Aside0 (gb164 ≠ gb169) := ⟨h21_⟩
      have n22_ : Aside0 (gb169 ≠ gb164) := ⟨h22_⟩
      have n23_ : Aside0 (Below w.heap.size w w29) := ⟨h23_⟩
      clear BK155
      clear BK156
      clear BK164
      clear HB
      clear h0_ h1_ h2_ h3_ h4_ h5_ h6_ h7_ h8_ h9_ h10_ h11_ h12_ h13_ h14_ h15_ h16_ h17_ h18_ h19_ h20_ h21_ h22_ h23_
      have BK155 := n0_
      have BK156 := n1_
      have BK164 := n2_
      have BK168 := n3_
      have BK169 := n4_
      have GW168 := n5_
      have GE168 := n6_
      have NB155_168 := n7_
      have NB168_155 := n8_
      have NB156_168 := n9_
      have NB168_156 := n10_
      have NB164_168 := n11_
      have NB168_164 := n12_
      have NB169_168 := n13_
      have NB168_169 := n14_
      have GW169 := n15_
      have GE169 := n16_
      have NB155_169 := n17_
      have NB169_155 := n18_
      have NB156_169 := n19_
      have NB169_156 := n20_
      have NB164_169 := n21_
      have NB169_164 := n22_
      have HB := n23_
      clear n0_ n1_ n2_ n3_ n4_ n5_ n6_ n7_ n8_ n9_ n10_ n11_ n12_ n13_ n14_ n15_ n16_ n17_ n18_ n19_ n20_ n21_ n22_ n23_
      have hHeld : w29.cell? ⟨gb155, 0, none⟩ = some (.int .u8 a0_0) ∧ w29.cell? ⟨gb155, 1, none⟩ = some (.int .i64 a0_1) ∧ w29.cell? ⟨gb155, 2, none⟩ = some (.string a0_2) ∧ w29.cell? ⟨gb155, 3, none⟩ = some (.string a0_3) ∧ w29.cell? ⟨gb155, 4, none⟩ = some (.string a0_4) ∧ w29.cell? ⟨gb155, 5, none⟩ = some (.int .u64 a0_5) := hS_
      refine norm_ (a' := ?_) ?_ ?_
      rotate_left
      ·simp only [putAll, Act.put, sA1, sA2, sA3]
       rfl
      refine one_ (i := 4) (N := none) #[YY,YY,YY,YY,YY,ZZ] rfl rfl (by kernel_rfl) (by decide) (fun K hK => ?_)
      have hs30 : w29.cell? ⟨gb168, 0, none⟩ = some (.int .u8 0) := (bC BK168.out 0).trans rfl
      have hfs30 := bF BK168.out 0
      have hns30_0 := NB155_168.out
      have hns30_1 := NB156_168.out
      have hns30_2 := NB164_168.out
      have hns30_4 := NB169_168.out
      have hms30_0 := NB168_155.out
      have hms30_1 := NB168_156.out
      have hms30_2 := NB168_164.out
      have hms30_4 := NB168_169.out
      have hs31 : w29.cell? ⟨gb168, 1, none⟩ = some (.int .i64 0) := (bC BK168.out 1).trans rfl
      have hfs31 := bF BK168.out 1
      have hns31_0 := NB155_168.out
      have hns31_1 := NB156_168.out
      have hns31_2 := NB164_168.out
      have hns31_4 := NB169_168.out
      have hms31_0 := NB168_155.out
      have hms31_1 := NB168_156.out
      have hms31_2 := NB168_164.out
      have hms31_4 := NB168_169.out
      have hs32 : w29.cell? ⟨gb168, 2, none⟩ = some (.string (⟨#[]⟩ : BA)) := (bC BK168.out 2).trans rfl
      have hfs32 := bF BK168.out 2
      have hns32_0 := NB155_168.out
      have hns32_1 := NB156_168.out
      have hns32_2 := NB164_168.out
      have hns32_4 := NB169_168.out
      have hms32_0 := NB168_155.out
      have hms32_1 := NB168_156.out
      have hms32_2 := NB168_164.out
      have hms32_4 := NB168_169.out
      have hs33 : w29.cell? ⟨gb168, 3, none⟩ = some (.string (⟨#[]⟩ : BA)) := (bC BK168.out 3).trans rfl
      have hfs33 := bF BK168.out 3
      have hns33_0 := NB155_168.out
      have hns33_1 := NB156_168.out
      have hns33_2 := NB164_168.out
      have hns33_4 := NB169_168.out
      have hms33_0 := NB168_155.out
      have hms33_1 := NB168_156.out
      have hms33_2 := NB168_164.out
      have hms33_4 := NB168_169.out
      have hs34 : w29.cell? ⟨gb168, 4, none⟩ = some (.string (⟨#[]⟩ : BA)) := (bC BK168.out 4).trans rfl
      have hfs34 := bF BK168.out 4
      have hns34_0 := NB155_168.out
      have hns34_1 := NB156_168.out
      have hns34_2 := NB164_168.out
      have hns34_4 := NB169_168.out
      have hms34_0 := NB168_155.out
      have hms34_1 := NB168_156.out
      have hms34_2 := NB168_164.out
      have hms34_4 := NB168_169.out
      have hs35 : w29.cell? ⟨gb168, 5, none⟩ = some (.int .u64 0) := (bC BK168.out 5).trans rfl
      have hfs35 := bF BK168.out 5
      have hns35_0 := NB155_168.out
      have hns35_1 := NB156_168.out
      have hns35_2 := NB164_168.out
      have hns35_4 := NB169_168.out
      have hms35_0 := NB168_155.out
      have hms35_1 := NB168_156.out
      have hms35_2 := NB168_164.out
      have hms35_4 := NB168_169.out
      refine skip_ (w1 := ?_) (by rfl) rfl ?_ ?_
      rotate_left
      ·go_simp
       rfl
      refine hK.out _ _ ⟨((cF (p := ⟨gb168, _, none⟩) NB155_168.out _).trans (((cF (p := ⟨gb168, _, none⟩) NB155_168.out _).trans (((cF (p := ⟨gb168, _, none⟩) NB155_168.out _).trans (((cF (p := ⟨gb168, _, none⟩) NB155_168.out _).trans (((cF (p := ⟨gb168, _, none⟩) NB155_168.out _).trans (((cF (p := ⟨gb168, _, none⟩) NB155_168.out _).trans (hHeld.1)))))))))))), ((cF (p := ⟨gb168, _, none⟩) NB155_168.out _).trans (((cF (p := ⟨gb168, _, none⟩) NB155_168.out _).trans (((cF (p := ⟨gb168, _, none⟩) NB155_168.out _).trans (((cF (p := ⟨gb168, _, none⟩) NB155_168.out _).trans (((cF (p := ⟨gb168, _, none⟩) NB155_168.out _).trans (((cF (p := ⟨gb168, _, none⟩) NB155_168.out _).trans (hHeld.2.1)))))))))))), ((cF (p := ⟨gb168, _, none⟩) NB155_168.out _).trans (((cF (p := ⟨gb168, _, none⟩) NB155_168.out _).trans (((cF (p := ⟨gb168, _, none⟩) NB155_168.out _).trans (((cF (p := ⟨gb168, _, none⟩) NB155_168.out _).trans (((cF (p := ⟨gb168, _, none⟩) NB155_168.out _).trans (((cF (p := ⟨gb168, _, none⟩) NB155_168.out _).trans (hHeld.2.2.1)))))))))))), ((cF (p := ⟨gb168, _, none⟩) NB155_168.out _).trans (((cF (p := ⟨gb168, _, none⟩) NB155_168.out _).trans (((cF (p := ⟨gb168, _, none⟩) NB155_168.out _).trans (((cF (p := ⟨gb168, _, none⟩) NB155_168.out _).trans (((cF (p := ⟨gb168, _, none⟩) NB155_168.out _).trans (((cF (p := ⟨gb168, _, none⟩) NB155_168.out _).trans (hHeld.2.2.2.1)))))))))))), ((cF (p := ⟨gb168, _, none⟩) NB155_168.out _).trans (((cF (p := ⟨gb168, _, none⟩) NB155_168.out _).trans (((cF (p := ⟨gb168, _, none⟩) NB155_168.out _).trans (((cF (p := ⟨gb168, _, none⟩) NB155_168.out _).trans (((cF (p := ⟨gb168, _, none⟩) NB155_168.out _).trans (((cF (p := ⟨gb168, _, none⟩) NB155_168.out _).trans (hHeld.2.2.2.2.1)))))))))))), ((cF (p := ⟨gb168, _, none⟩) NB155_168.out _).trans (((cF (p := ⟨gb168, _, none⟩) NB155_168.out _).trans (((cF (p := ⟨gb168, _, none⟩) NB155_168.out _).trans (((cF (p := ⟨gb168, _, none⟩) NB155_168.out _).trans (((cF (p := ⟨gb168, _, none⟩) NB155_168.out _).trans (((cF (p := ⟨gb168, _, none⟩) NB155_168.out _).trans (hHeld.2.2.2.2.2))))))))))))⟩ (fun hHeld => ?_)
      clear hK K
      refine one_ (i := 5) (N := none) #[YY,YY,YY,YY,YY,YY] rfl rfl (by kernel_rfl) (by decide) (fun K hK => ?_)
      have hs36 : w29.cell? ⟨gb169, 0, none⟩ = some (.int .u8 0) := (bC BK169.out 0).trans rfl
      have hfs36 := bF BK169.out 0
      have hns36_0 := NB155_169.out
      have hns36_1 := NB156_169.out
      have hns36_2 := NB164_169.out
      have hns36_3 := NB168_169.out
      have hms36_0 := NB169_155.out
      have hms36_1 := NB169_156.out
      have hms36_2 := NB169_164.out
      have hms36_3 := NB169_168.out
      have hs37 : w29.cell? ⟨gb169, 1, none⟩ = some (.int .i64 0) := (bC BK169.out 1).trans rfl
      have hfs37 := bF BK169.out 1
      have hns37_0 := NB155_169.out
      have hns37_1 := NB156_169.out
      have hns37_2 := NB164_169.out
      have hns37_3 := NB168_169.out
      have hms37_0 := NB169_155.out
      have hms37_1 := NB169_156.out
      have hms37_2 := NB169_164.out
      have hms37_3 := NB169_168.out
      have hs38 : w29.cell? ⟨gb169, 2, none⟩ = some (.string (⟨#[]⟩ : BA)) := (bC BK169.out 2).trans rfl
      have hfs38 := bF BK169.out 2
      have hns38_0 := NB155_169.out
      have hns38_1 := NB156_169.out
      have hns38_2 := NB164_169.out
      have hns38_3 := NB168_169.out
      have hms38_0 := NB169_155.out
      have hms38_1 := NB169_156.out
      have hms38_2 := NB169_164.out
      have hms38_3 := NB169_168.out
      have hs39 : w29.cell? ⟨gb169, 3, none⟩ = some (.string (⟨#[]⟩ : BA)) := (bC BK169.out 3).trans rfl
      have hfs39 := bF BK169.out 3
      have hns39_0 := NB155_169.out
      have hns39_1 := NB156_169.out
      have hns39_2 := NB164_169.out
      have hns39_3 := NB168_169.out
      have hms39_0 := NB169_155.out
      have hms39_1 := NB169_156.out
      have hms39_2 := NB169_164.out
      have hms39_3 := NB169_168.out
      have hs40 : w29.cell? ⟨gb169, 4, none⟩ = some (.string (⟨#[]⟩ : BA)) := (bC BK169.out 4).trans rfl
      have hfs40 := bF BK169.out 4
      have hns40_0 := NB155_169.out
      have hns40_1 := NB156_169.out
      have hns40_2 := NB164_169.out
      have hns40_3 := NB168_169.out
      have hms40_0 := NB169_155.out
      have hms40_1 := NB169_156.out
      have hms40_2 := NB169_164.out
      have hms40_3 := NB169_168.out
      have hs41 : w29.cell? ⟨gb169, 5, none⟩ = some (.int .u64 0) := (bC BK169.out 5).trans rfl
      have hfs41 := bF BK169.out 5
      have hns41_0 := NB155_169.out
      have hns41_1 := NB156_169.out
      have hns41_2 := NB164_169.out
      have hns41_3 := NB168_169.out
      have hms41_0 := NB169_155.out
      have hms41_1 := NB169_156.out
      have hms41_2 := NB169_164.out
      have hms41_3 := NB169_168.out
      refine skip_ (w1 := ?_) (by rfl) rfl ?_ ?_
      rotate_left
      ·go_simp
       rfl
      refine hK.out _ _ ⟨((cF (p := ⟨gb169, _, none⟩) NB155_169.out _).trans (((cF (p := ⟨gb169, _, none⟩) NB155_169.out _).trans (((cF (p := ⟨gb169, _, none⟩) NB155_169.out _).trans (((cF (p := ⟨gb169, _, none⟩) NB155_169.out _).trans (((cF (p := ⟨gb169, _, none⟩) NB155_169.out _).trans (((cF (p := ⟨gb169, _, none⟩) NB155_169.out _).trans (hHeld.1)))))))))))), ((cF (p := ⟨gb169, _, none⟩) NB155_169.out _).trans (((cF (p := ⟨gb169, _, none⟩) NB155_169.out _).trans (((cF (p := ⟨gb169, _, none⟩) NB155_169.out _).trans (((cF (p := ⟨gb169, _, none⟩) NB155_169.out _).trans (((cF (p := ⟨gb169, _, none⟩) NB155_169.out _).trans (((cF (p := ⟨gb169, _, none⟩) NB155_169.out _).trans (hHeld.2.1)))))))))))), ((cF (p := ⟨gb169, _, none⟩) NB155_169.out _).trans (((cF (p := ⟨gb169, _, none⟩) NB155_169.out _).trans (((cF (p := ⟨gb169, _, none⟩) NB155_169.out _).trans (((cF (p := ⟨gb169, _, none⟩) NB155_169.out _).trans (((cF (p := ⟨gb169, _, none⟩) NB155_169.out _).trans (((cF (p := ⟨gb169, _, none⟩) NB155_169.out _).trans (hHeld.2.2.1)))))))))))), ((cF (p := ⟨gb169, _, none⟩) NB155_169.out _).trans (((cF (p := ⟨gb169, _, none⟩) NB155_169.out _).trans (((cF (p := ⟨gb169, _, none⟩) NB155_169.out _).trans (((cF (p := ⟨gb169, _, none⟩) NB155_169.out _).trans (((cF (p := ⟨gb169, _, none⟩) NB155_169.out _).trans (((cF (p := ⟨gb169, _, none⟩) NB155_169.out _).trans (hHeld.2.2.2.1)))))))))))), ((cF (p := ⟨gb169, _, none⟩) NB155_169.out _).trans (((cF (p := ⟨gb169, _, none⟩) NB155_169.out _).trans (((cF (p := ⟨gb169, _, none⟩) NB155_169.out _).trans (((cF (p := ⟨gb169, _, none⟩) NB155_169.out _).trans (((cF (p := ⟨gb169, _, none⟩) NB155_169.out _).trans (((cF (p := ⟨gb169, _, none⟩) NB155_169.out _).trans (hHeld.2.2.2.2.1)))))))))))), ((cF (p := ⟨gb169, _, none⟩) NB155_169.out _).trans (((cF (p := ⟨gb169, _, none⟩) NB155_169.out _).trans (((cF (p := ⟨gb169, _, none⟩) NB155_169.out _).trans (((cF (p := ⟨gb169, _, none⟩) NB155_169.out _).trans (((cF (p := ⟨gb169, _, none⟩) NB155_169.out _).trans (((cF (p := ⟨gb169, _, none⟩) NB155_169.out _).trans (hHeld.2.2.2.2.2))))))))))))⟩ (fun hHeld => ?_)
      clear hK K
      refine done_ (by kernel_rfl) ?_
      try go_wp2
      have n0_ : Aside0 (((((((((((((w29.setCell ⟨gb168, 0, none⟩ (.int .u8 a0_0)).setCell ⟨gb168, 1, none⟩ (.int .i64 a0_1)).setCell ⟨gb168, 2, none⟩ (.string a0_2)).setCell ⟨gb168, 3, none⟩ (.string a0_3)).setCell ⟨gb168, 4, none⟩ (.string a0_4)).setCell ⟨gb168, 5, none⟩ (.int .u64 a0_5)).setCell ⟨gb169, 0, none⟩ (.int .u8 a0_0)).setCell ⟨gb169, 1, none⟩ (.int .i64 a0_1)).setCell ⟨gb169, 2, none⟩ (.string a0_2)).setCell ⟨gb169, 3, none⟩ (.string a0_3)).setCell ⟨gb169, 4, none⟩ (.string a0_4)).setCell ⟨gb169, 5, none⟩ (.int .u64 a0_5)).heap[gb155]? = some (.cells #[.int .u8 a0_0, .int .i64 a0_1, .string a0_2, .string a0_3, .string a0_4, .int .u64 a0_5] 25 (0, 0))) := ⟨by (with_reducible repeat (first | refine bN ?_ _ | refine bD ?_ | refine bA ?_ _)); refine bR ?_ NB155_169.out _; (with_reducible repeat (first | refine bN ?_ _ | refine bD ?_ | refine bA ?_ _)); refine bR ?_ NB155_169.out _; (with_reducible repeat (first | refine bN ?_ _ | refine bD ?_ | refine bA ?_ _)); refine bR ?_ NB155_169.out _; (with_reducible repeat (first | refine bN ?_ _ | refine bD ?_ | refine bA ?_ _)); refine bR ?_ NB155_169.out _; (with_reducible repeat (first | refine bN ?_ _ | refine bD ?_ | refine bA ?_ _)); refine bR ?_ NB155_169.out _; (with_reducible repeat (first | refine bN ?_ _ | refine bD ?_ | refine bA ?_ _)); refine bR ?_ NB155_169.out _; (with_reducible repeat (first | refine bN ?_ _ | refine bD ?_ | refine bA ?_ _)); refine bR ?_ NB155_168.out _; (with_reducible repeat (first | refine bN ?_ _ | refine bD ?_ | refine bA ?_ _)); refine bR ?_ NB155_168.out _; (with_reducible repeat (first | refine bN ?_ _ | refine bD ?_ | refine bA ?_ _)); refine bR ?_ NB155_168.out _; (with_reducible repeat (first | refine bN ?_ _ | refine bD ?_ | refine bA ?_ _)); refine bR ?_ NB155_168.out _; (with_reducible repeat (first | refine bN ?_ _ | refine bD ?_ | refine bA ?_ _)); refine bR ?_ NB155_168.out _; (with_reducible repeat (first | refine bN ?_ _ | refine bD ?_ | refine bA ?_ _)); refine bR ?_ NB155_168.out _; (with_reducible repeat (first | refine bN ?_ _ | refine bD ?_ | refine bA ?_ _)); exact BK155.out⟩
      have n1_ : Aside0 (((((((((((((w29.setCell ⟨gb168, 0, none⟩ (.int .u8 a0_0)).setCell ⟨gb168, 1, none⟩ (.int .i64 a0_1)).setCell ⟨gb168, 2, none⟩ (.string a0_2)).setCell ⟨gb168, 3, none⟩ (.string a0_3)).setCell ⟨gb168, 4, none⟩ (.string a0_4)).setCell ⟨gb168, 5, none⟩ (.int .u64 a0_5)).setCell ⟨gb169, 0, none⟩ (.int .u8 a0_0)).setCell ⟨gb169, 1, none⟩ (.int .i64 a0_1)).setCell ⟨gb169, 2, none⟩ (.string a0_2)).setCell ⟨gb169, 3, none⟩ (.string a0_3)).setCell ⟨gb169, 4, none⟩ (.string a0_4)).setCell ⟨gb169, 5, none⟩ (.int .u64 a0_5)).heap[gb156]? = some (.cells #[.string a1_0, .string a1_1] 31 (0, 0))) := ⟨by (with_reducible repeat (first | refine bN ?_ _ | refine bD ?_ | refine bA ?_ _)); refine bR ?_ NB156_169.out _; (with_reducible repeat (first | refine bN ?_ _ | refine bD ?_ | refine bA ?_ _)); refine bR ?_ NB156_169.out _; (with_reducible repeat (first | refine bN ?_ _ | refine bD ?_ | refine bA ?_ _)); refine bR ?_ NB156_169.out _; (with_reducible repeat (first | refine bN ?_ _ | refine bD ?_ | refine bA ?_ _)); refine bR ?_ NB156_169.out _; (with_reducible repeat (first | refine bN ?_ _ | refine bD ?_ | refine bA ?_ _)); refine bR ?_ NB156_169.out _; (with_reducible repeat (first | refine bN ?_ _ | refine bD ?_ | refine bA ?_ _)); refine bR ?_ NB156_169.out _; (with_reducible repeat (first | refine bN ?_ _ | refine bD ?_ | refine bA ?_ _)); refine bR ?_ NB156_168.out _; (with_reducible repeat (first | refine bN ?_ _ | refine bD ?_ | refine bA ?_ _)); refine bR ?_ NB156_168.out _; (with_reducible repeat (first | refine bN ?_ _ | refine bD ?_ | refine bA ?_ _)); refine bR ?_ NB156_168.out _; (with_reducible repeat (first | refine bN ?_ _ | refine bD ?_ | refine bA ?_ _)); refine bR ?_ NB156_168.out _; (with_reducible repeat (first | refine bN ?_ _ | refine bD ?_ | refine bA ?_ _)); refine bR ?_ NB156_168.out _; (with_reducible repeat (first | refine bN ?_ _ | refine bD ?_ | refine bA ?_ _)); refine bR ?_ NB156_168.out _; (with_reducible repeat (first | refine bN ?_ _ | refine bD ?_ | refine bA ?_ _)); exact BK156.out⟩
      have n2_ : Aside0 (((((((((((((w29.setCell ⟨gb168, 0, none⟩ (.int .u8 a0_0)).setCell ⟨gb168, 1, none⟩ (.int .i64 a0_1)).setCell ⟨gb168, 2, none⟩ (.string a0_2)).setCell ⟨gb168, 3, none⟩ (.string a0_3)).setCell ⟨gb168, 4, none⟩ (.string a0_4)).setCell ⟨gb168, 5, none⟩ (.int .u64 a0_5)).setCell ⟨gb169, 0, none⟩ (.int .u8 a0_0)).setCell ⟨gb169, 1, none⟩ (.int .i64 a0_1)).setCell ⟨gb169, 2, none⟩ (.string a0_2)).setCell ⟨gb169, 3, none⟩ (.string a0_3)).setCell ⟨gb169, 4, none⟩ (.string a0_4)).setCell ⟨gb169, 5, none⟩ (.int .u64 a0_5)).heap[gb164]? = some (.cells #[.int .u8 t157, .int .i64 t158, .string t159, .string t160, .string t161, .int .u64 t162] 25 (0, 0))) := ⟨by (with_reducible repeat (first | refine bN ?_ _ | refine bD ?_ | refine bA ?_ _)); refine bR ?_ NB164_169.out _; (with_reducible repeat (first | refine bN ?_ _ | refine bD ?_ | refine bA ?_ _)); refine bR ?_ NB164_169.out _; (with_reducible repeat (first | refine bN ?_ _ | refine bD ?_ | refine bA ?_ _)); refine bR ?_ NB164_169.out _; (with_reducible repeat (first | refine bN ?_ _ | refine bD ?_ | refine bA ?_ _)); refine bR ?_ NB164_169.out _; (with_reducible repeat (first | refine bN ?_ _ | refine bD ?_ | refine bA ?_ _)); refine bR ?_ NB164_169.out _; (with_reducible repeat (first | refine bN ?_ _ | refine bD ?_ | refine bA ?_ _)); refine bR ?_ NB164_169.out _; (with_reducible repeat (first | refine bN ?_ _ | refine bD ?_ | refine bA ?_ _)); refine bR ?_ NB164_168.out _; (with_reducible repeat (first | refine bN ?_ _ | refine bD ?_ | refine bA ?_ _)); refine bR ?_ NB164_168.out _; (with_reducible repeat (first | refine bN ?_ _ | refine bD ?_ | refine bA ?_ _)); refine bR ?_ NB164_168.out _; (with_reducible repeat (first | refine bN ?_ _ | refine bD ?_ | refine bA ?_ _)); refine bR ?_ NB164_168.out _; (with_reducible repeat (first | refine bN ?_ _ | refine bD ?_ | refine bA ?_ _)); refine bR ?_ NB164_168.out _; (with_reducible repeat (first | refine bN ?_ _ | refine bD ?_ | refine bA ?_ _)); refine bR ?_ NB164_168.out _; (with_reducible repeat (first | refine bN ?_ _ | refine bD ?_ | refine bA ?_ _)); exact BK164.out⟩
      have n3_ : Aside0 (((((((((((((w29.setCell ⟨gb168, 0, none⟩ (.int .u8 a0_0)).setCell ⟨gb168, 1, none⟩ (.int .i64 a0_1)).setCell ⟨gb168, 2, none⟩ (.string a0_2)).setCell ⟨gb168, 3, none⟩ (.string a0_3)).setCell ⟨gb168, 4, none⟩ (.string a0_4)).setCell ⟨gb168, 5, none⟩ (.int .u64 a0_5)).setCell ⟨gb169, 0, none⟩ (.int .u8 a0_0)).setCell ⟨gb169, 1, none⟩ (.int .i64 a0_1)).setCell ⟨gb169, 2, none⟩ (.string a0_2)).setCell ⟨gb169, 3, none⟩ (.string a0_3)).setCell ⟨gb169, 4, none⟩ (.string a0_4)).setCell ⟨gb169, 5, none⟩ (.int .u64 a0_5)).heap[gb168]? = some (.cells #[.int .u8 a0_0, .int .i64 a0_1, .string a0_2, .string a0_3, .string a0_4, .int .u64 a0_5] 25 (0, 0))) := ⟨by (with_reducible repeat (first | refine bN ?_ _ | refine bD ?_ | refine bA ?_ _)); refine bR ?_ NB168_169.out _; (with_reducible repeat (first | refine bN ?_ _ | refine bD ?_ | refine bA ?_ _)); refine bR ?_ NB168_169.out _; (with_reducible repeat (first | refine bN ?_ _ | refine bD ?_ | refine bA ?_ _)); refine bR ?_ NB168_169.out _; (with_reducible repeat (first | refine bN ?_ _ | refine bD ?_ | refine bA ?_ _)); refine bR ?_ NB168_169.out _; (with_reducible repeat (first | refine bN ?_ _ | refine bD ?_ | refine bA ?_ _)); refine bR ?_ NB168_169.out _; (with_reducible repeat (first | refine bN ?_ _ | refine bD ?_ | refine bA ?_ _)); refine bR ?_ NB168_169.out _; (with_reducible repeat (first | refine bN ?_ _ | refine bD ?_ | refine bA ?_ _)); refine bP (cs := #[.int .u8 a0_0, .int .i64 a0_1, .string a0_2, .string a0_3, .string a0_4, .int .u64 0]) ?_ 5 _ rfl; (with_reducible repeat (first | refine bN ?_ _ | refine bD ?_ | refine bA ?_ _)); refine bP (cs := #[.int .u8 a0_0, .int .i64 a0_1, .string a0_2, .string a0_3, .string (⟨#[]⟩ : BA), .int .u64 0]) ?_ 4 _ rfl; (with_reducible repeat (first | refine bN ?_ _ | refine bD ?_ | refine bA ?_ _)); refine bP (cs := #[.int .u8 a0_0, .int .i64 a0_1, .string a0_2, .string (⟨#[]⟩ : BA), .string (⟨#[]⟩ : BA), .int .u64 0]) ?_ 3 _ rfl; (with_reducible repeat (first | refine bN ?_ _ | refine bD ?_ | refine bA ?_ _)); refine bP (cs := #[.int .u8 a0_0, .int .i64 a0_1, .string (⟨#[]⟩ : BA), .string (⟨#[]⟩ : BA), .string (⟨#[]⟩ : BA), .int .u64 0]) ?_ 2 _ rfl; (with_reducible repeat (first | refine bN ?_ _ | refine bD ?_ | refine bA ?_ _)); refine bP (cs := #[.int .u8 a0_0, .int .i64 0, .string (⟨#[]⟩ : BA), .string (⟨#[]⟩ : BA), .string (⟨#[]⟩ : BA), .int .u64 0]) ?_ 1 _ rfl; (with_reducible repeat (first | refine bN ?_ _ | refine bD ?_ | refine bA ?_ _)); refine bP (cs := #[.int .u8 0, .int .i64 0, .string (⟨#[]⟩ : BA), .string (⟨#[]⟩ : BA), .string (⟨#[]⟩ : BA), .int .u64 0]) ?_ 0 _ rfl; (with_reducible repeat (first | refine bN ?_ _ | refine bD ?_ | refine bA ?_ _)); exact BK168.out⟩
      have n4_ : Aside0 (((((((((((((w29.setCell ⟨gb168, 0, none⟩ (.int .u8 a0_0)).setCell ⟨gb168, 1, none⟩ (.int .i64 a0_1)).setCell ⟨gb168, 2, none⟩ (.string a0_2)).setCell ⟨gb168, 3, none⟩ (.string a0_3)).setCell ⟨gb168, 4, none⟩ (.string a0_4)).setCell ⟨gb168, 5, none⟩ (.int .u64 a0_5)).setCell ⟨gb169, 0, none⟩ (.int .u8 a0_0)).setCell ⟨gb169, 1, none⟩ (.int .i64 a0_1)).setCell ⟨gb169, 2, none⟩ (.string a0_2)).setCell ⟨gb169, 3, none⟩ (.string a0_3)).setCell ⟨gb169, 4, none⟩ (.string a0_4)).setCell ⟨gb169, 5, none⟩ (.int .u64 a0_5)).heap[gb169]? = some (.cells #[.int .u8 a0_0, .int .i64 a0_1, .string a0_2, .string a0_3, .string a0_4, .int .u64 a0_5] 25 (0, 0))) := ⟨by (with_reducible repeat (first | refine bN ?_ _ | refine bD ?_ | refine bA ?_ _)); refine bP (cs := #[.int .u8 a0_0, .int .i64 a0_1, .string a0_2, .string a0_3, .string a0_4, .int .u64 0]) ?_ 5 _ rfl; (with_reducible repeat (first | refine bN ?_ _ | refine bD ?_ | refine bA ?_ _)); refine bP (cs := #[.int .u8 a0_0, .int .i64 a0_1, .string a0_2, .string a0_3, .string (⟨#[]⟩ : BA), .int .u64 0]) ?_ 4 _ rfl; (with_reducible repeat (first | refine bN ?_ _ | refine bD ?_ | refine bA ?_ _)); refine bP (cs := #[.int .u8 a0_0, .int .i64 a0_1, .string a0_2, .string (⟨#[]⟩ : BA), .string (⟨#[]⟩ : BA), .int .u64 0]) ?_ 3 _ rfl; (with_reducible repeat (first | refine bN ?_ _ | refine bD ?_ | refine bA ?_ _)); refine bP (cs := #[.int .u8 a0_0, .int .i64 a0_1, .string (⟨#[]⟩ : BA), .string (⟨#[]⟩ : BA), .string (⟨#[]⟩ : BA), .int .u64 0]) ?_ 2 _ rfl; (with_reducible repeat (first | refine bN ?_ _ | refine bD ?_ | refine bA ?_ _)); refine bP (cs := #[.int .u8 a0_0, .int .i64 0, .string (⟨#[]⟩ : BA), .string (⟨#[]⟩ : BA), .string (⟨#[]⟩ : BA), .int .u64 0]) ?_ 1 _ rfl; (with_reducible repeat (first | refine bN ?_ _ | refine bD ?_ | refine bA ?_ _)); refine bP (cs := #[.int .u8 0, .int .i64 0, .string (⟨#[]⟩ : BA), .string (⟨#[]⟩ : BA), .string (⟨#[]⟩ : BA), .int .u64 0]) ?_ 0 _ rfl; (with_reducible repeat (first | refine bN ?_ _ | refine bD ?_ | refine bA ?_ _)); refine bR ?_ NB169_168.out _; (with_reducible repeat (first | refine bN ?_ _ | refine bD ?_ | refine bA ?_ _)); refine bR ?_ NB169_168.out _; (with_reducible repeat (first | refine bN ?_ _ | refine bD ?_ | refine bA ?_ _)); refine bR ?_ NB169_168.out _; (with_reducible repeat (first | refine bN ?_ _ | refine bD ?_ | refine bA ?_ _)); refine bR ?_ NB169_168.out _; (with_reducible repeat (first | refine bN ?_ _ | refine bD ?_ | refine bA ?_ _)); refine bR ?_ NB169_168.out _; (with_reducible repeat (first | refine bN ?_ _ | refine bD ?_ | refine bA ?_ _)); refine bR ?_ NB169_168.out _; (with_reducible repeat (first | refine bN ?_ _ | refine bD ?_ | refine bA ?_ _)); exact BK169.out⟩
      have n5_ : Aside0 (Below w.heap.size w ((((((((((((w29.setCell ⟨gb168, 0, none⟩ (.int .u8 a0_0)).setCell ⟨gb168, 1, none⟩ (.int .i64 a0_1)).setCell ⟨gb168, 2, none⟩ (.string a0_2)).setCell ⟨gb168, 3, none⟩ (.string a0_3)).setCell ⟨gb168, 4, none⟩ (.string a0_4)).setCell ⟨gb168, 5, none⟩ (.int .u64 a0_5)).setCell ⟨gb169, 0, none⟩ (.int .u8 a0_0)).setCell ⟨gb169, 1, none⟩ (.int .i64 a0_1)).setCell ⟨gb169, 2, none⟩ (.string a0_2)).setCell ⟨gb169, 3, none⟩ (.string a0_3)).setCell ⟨gb169, 4, none⟩ (.string a0_4)).setCell ⟨gb169, 5, none⟩ (.int .u64 a0_5))) := ⟨by repeat (first | (with_reducible first | exact HB.out | apply wA | apply wN | apply w1 | refine wS ?_ GE155.out | refine wS ?_ GE156.out | refine wS ?_ GE164.out | refine wS ?_ GE168.out | refine wS ?_ GE169.out) | exact HB.out)⟩
      (try clear BK155)
      (try clear BK156)
      (try clear BK164)
      (try clear BK168)
      (try clear BK169)
      (try clear HB)
      generalize ((((((((((((w29.setCell ⟨gb168, 0, none⟩ (.int .u8 a0_0)).setCell ⟨gb168, 1, none⟩ (.int .i64 a0_1)).setCell ⟨gb168, 2, none⟩ (.string a0_2)).setCell ⟨gb168, 3, none⟩ (.string a0_3)).setCell ⟨gb168, 4, none⟩ (.string a0_4)).setCell ⟨gb168, 5, none⟩ (.int .u64 a0_5)).setCell ⟨gb169, 0, none⟩ (.int .u8 a0_0)).setCell ⟨gb169, 1, none⟩ (.int .i64 a0_1)).setCell ⟨gb169, 2, none⟩ (.string a0_2)).setCell ⟨gb169, 3, none⟩ (.string a0_3)).setCell ⟨gb169, 4, none⟩ (.string a0_4)).setCell ⟨gb169, 5, none⟩ (.int .u64 a0_5)) = w42 at n0_ n1_ n2_ n3_ n4_ n5_ ⊢
      have BK155 := n0_
      have BK156 := n1_
      have BK164 := n2_
      have BK168 := n3_
      have BK169 := n4_
      have HB := n5_
      clear n0_ n1_ n2_ n3_ n4_ n5_
      have n0_ := Aside0.mk (bD BK155.out)
      have n1_ := Aside0.mk (bD BK156.out)
      have n2_ := Aside0.mk (bD BK164.out)
      have n3_ := Aside0.mk (bD BK168.out)
      have n4_ := Aside0.mk (bD BK169.out)
      have n5_ := Aside0.mk (w1 HB.out)
      clear BK155
      clear BK156
      clear BK164
      clear BK168
      clear BK169
      clear HB
      have BK155 := n0_
      have BK156 := n1_
      have BK164 := n2_
      have BK168 := n3_
      have BK169 := n4_
      have HB := n5_
      clear n0_ n1_ n2_ n3_ n4_ n5_
      refine start_ (n := 8) (S := fun w' => w'.cell? ⟨gb164, 0, none⟩ = some (.int .u8 t157) ∧ w'.cell? ⟨gb164, 1, none⟩ = some (.int .i64 t158) ∧ w'.cell? ⟨gb164, 2, none⟩ = some (.string t159) ∧ w'.cell? ⟨gb164, 3, none⟩ = some (.string t160) ∧ w'.cell? ⟨gb164, 4, none⟩ = some (.string t161) ∧ w'.cell? ⟨gb164, 5, none⟩ = some (.int .u64 t162)) (ds := []) #[ZZ,ZZ,ZZ,ZZ,ZZ,ZZ,ZZ,ZZ] (by kernel_rfl) rfl rfl ⟨(bC BK164.out 0).trans rfl, (bC BK164.out 1).trans rfl, (bC BK164.out 2).trans rfl, (bC BK164.out 3).trans rfl, (bC BK164.out 4).trans rfl, (bC BK164.out 5).trans rfl⟩ (fun hHeld => ?_); refine with_tabW msg_Rest.tab9 msg_Rest.bits9 (fun HT_ HW_ => ?_)
      generalize w42.drew = w43 at BK155 BK156 BK164 BK168 BK169 HB hHeld ⊢
      refine pure_ (i := 0) (N := some 33) (v := ?_) (a' := ?_) #[YY,ZZ,ZZ,ZZ,ZZ,ZZ,ZZ,ZZ] rfl rfl (any_of HT_.out (by kernel_rfl)) (fun _ _ _ h => h) (Or.inl ⟨by rfl, ?_⟩) ?_ ?_
      rotate_left
      ·intro w'
       go_simp
       with_reducible rfl
      rotate_left
      ·simp only [Act.put, sA1, sA2, sA3, i64_w, i32_w]
       rfl
      refine pure_ (i := 2) (N := some 35) (v := ?_) (a' := ?_) #[YY,ZZ,YY,ZZ,ZZ,ZZ,ZZ,ZZ] rfl rfl (any_of HT_.out (by kernel_rfl)) (fun _ _ _ h => h) (Or.inl ⟨by rfl, ?_⟩) ?_ ?_
      rotate_left
      ·intro w'
       go_simp
       with_reducible rfl
      rotate_left
      ·simp only [Act.put, sA1, sA2, sA3, i64_w, i32_w]
       rfl
      refine take_ (i := 1) (N := some 34) (v := ?_) (a' := ?_) #[YY,YY,YY,ZZ,ZZ,ZZ,ZZ,ZZ] rfl rfl (take_ofW HT_.out HW_.out (by kernel_rfl)) (fun _ _ _ h => h) (Or.inl ⟨by rfl, ?_⟩) hHeld ?_ ?_
      rotate_left
      ·rintro w' ⟨s0, s1, s2, s3, s4, s5⟩
       go_simp
       with_reducible rfl
      rotate_left
      ·simp only [Act.put, sA1, sA2, sA3, i64_w, i32_w]
       rfl
      refine pure_ (i := 4) (N := some 37) (v := ?_) (a' := ?_) #[YY,YY,YY,ZZ,YY,ZZ,ZZ,ZZ] rfl rfl (any_of HT_.out (by kernel_rfl)) (fun _ _ _ h => h) (Or.inl ⟨by rfl, ?_⟩) ?_ ?_
      rotate_left
      ·intro w'
       go_simp
       with_reducible rfl
      rotate_left
      ·simp only [Act.put, sA1, sA2, sA3, i64_w, i32_w]
       rfl
      refine take_ (i := 3) (N := some 36) (v := ?_) (a' := ?_) #[YY,YY,YY,YY,YY,ZZ,ZZ,ZZ] rfl rfl (take_ofW HT_.out HW_.out (by kernel_rfl)) (fun _ _ _ h => h) (Or.inl ⟨by rfl, ?_⟩) hHeld ?_ ?_
      rotate_left
      ·rintro w' ⟨s0, s1, s2, s3, s4, s5⟩
       go_simp
       with_reducible rfl
      rotate_left
      ·simp only [Act.put, sA1, sA2, sA3, i64_w, i32_w]
       rfl
      refine one_ (i := 5) (N := none) #[YY,YY,YY,YY,YY,YY,ZZ,ZZ] rfl rfl (one_of HT_.out (by kernel_rfl)) (by decide) (fun K hK => ?_)
      have hs44 : w43.cell? ⟨gb168, 3, none⟩ = some (.string a0_3) := (bC BK168.out 3).trans rfl
      have hfs44 := bF BK168.out 3
      have hns44_0 := NB155_168.out
      have hns44_1 := NB156_168.out
      have hns44_2 := NB164_168.out
      have hns44_4 := NB169_168.out
      have hms44_0 := NB168_155.out
      have hms44_1 := NB168_156.out
      have hms44_2 := NB168_164.out
      have hms44_4 := NB168_169.out
      refine skip_ (w1 := ?_) (by rfl) rfl ?_ ?_
      rotate_left
      ·go_simp
       rfl
      refine hK.out _ _ ⟨((cF (p := ⟨gb168, _, none⟩) NB164_168.out _).trans (hHeld.1)), ((cF (p := ⟨gb168, _, none⟩) NB164_168.out _).trans (hHeld.2.1)), ((cF (p := ⟨gb168, _, none⟩) NB164_168.out _).trans (hHeld.2.2.1)), ((cF (p := ⟨gb168, _, none⟩) NB164_168.out _).trans (hHeld.2.2.2.1)), ((cF (p := ⟨gb168, _, none⟩) NB164_168.out _).trans (hHeld.2.2.2.2.1)), ((cF (p := ⟨gb168, _, none⟩) NB164_168.out _).trans (hHeld.2.2.2.2.2))⟩ (fun hHeld => ?_)
      clear hK K
      refine pure_ (i := 6) (N := some 38) (v := ?_) (a' := ?_) #[YY,YY,YY,YY,YY,YY,YY,ZZ] rfl rfl (any_of HT_.out (by kernel_rfl)) (fun _ _ _ h => h) (Or.inl ⟨by rfl, ?_⟩) ?_ ?_
      rotate_left
      ·intro w'
       go_simp
       with_reducible rfl
      rotate_left
      ·simp only [Act.put, sA1, sA2, sA3, i64_w, i32_w]
       rfl
      refine one_ (i := 7) (N := none) #[YY,YY,YY,YY,YY,YY,YY,YY] rfl rfl (one_of HT_.out (by kernel_rfl)) (by decide) (fun K hK => ?_)
      have hs45 : w43.cell? ⟨gb169, 2, none⟩ = some (.string a0_2) := (bC BK169.out 2).trans rfl
      have hfs45 := bF BK169.out 2
      have hns45_0 := NB155_169.out
      have hns45_1 := NB156_169.out
      have hns45_2 := NB164_169.out
      have hns45_3 := NB168_169.out
      have hms45_0 := NB169_155.out
      have hms45_1 := NB169_156.out
      have hms45_2 := NB169_164.out
      have hms45_3 := NB169_168.out
      refine skip_ (w1 := ?_) (by rfl) rfl ?_ ?_
      rotate_left
      ·go_simp
       rfl
      refine hK.out _ _ ⟨((cF (p := ⟨gb169, _, none⟩) NB164_169.out _).trans (hHeld.1)), ((cF (p := ⟨gb169, _, none⟩) NB164_169.out _).trans (hHeld.2.1)), ((cF (p := ⟨gb169, _, none⟩) NB164_169.out _).trans (hHeld.2.2.1)), ((cF (p := ⟨gb169, _, none⟩) NB164_169.out _).trans (hHeld.2.2.2.1)), ((cF (p := ⟨gb169, _, none⟩) NB164_169.out _).trans (hHeld.2.2.2.2.1)), ((cF (p := ⟨gb169, _, none⟩) NB164_169.out _).trans (hHeld.2.2.2.2.2))⟩ (fun hHeld => ?_)
      clear hK K
      refine done_ (done_of HT_.out (by kernel_rfl)) ?_
      have hnb46 := NB164_168.out
      have hnc46 := NB168_164.out
      have hnb47 := NB164_169.out
      have hnc47 := NB169_164.out
      have hcz48_0 : w43.cell? ⟨gb164, 0, none⟩ = some (.int .u8 t157) := (bC BK164.out 0).trans rfl
      have hcz48_1 : w43.cell? ⟨gb164, 1, none⟩ = some (.int .i64 t158) := (bC BK164.out 1).trans rfl
      have hcz48_2 : w43.cell? ⟨gb164, 2, none⟩ = some (.string t159) := (bC BK164.out 2).trans rfl
      have hcz48_3 : w43.cell? ⟨gb164, 3, none⟩ = some (.string t160) := (bC BK164.out 3).trans rfl
      have hcz48_4 : w43.cell? ⟨gb164, 4, none⟩ = some (.string t161) := (bC BK164.out 4).trans rfl
      have hcz48_5 : w43.cell? ⟨gb164, 5, none⟩ = some (.int .u64 t162) := (bC BK164.out 5).trans rfl
      have hfz48_0 := bF BK164.out 0
      have hfz48_1 := bF BK164.out 1
      have hfz48_2 := bF BK164.out 2
      have hfz48_3 := bF BK164.out 3
      have hfz48_4 := bF BK164.out 4
      have hfz48_5 := bF BK164.out 5
      have hnb49 := NB155_168.out
      have hnc49 := NB168_155.out
      have hnb50 := NB155_169.out
      have hnc50 := NB169_155.out
      have hcz51_0 : w43.cell? ⟨gb155, 0, none⟩ = some (.int .u8 a0_0) := (bC BK155.out 0).trans rfl
      have hcz51_1 : w43.cell? ⟨gb155, 1, none⟩ = some (.int .i64 a0_1) := (bC BK155.out 1).trans rfl
      have hcz51_2 : w43.cell? ⟨gb155, 2, none⟩ = some (.string a0_2) := (bC BK155.out 2).trans rfl
      have hcz51_3 : w43.cell? ⟨gb155, 3, none⟩ = some (.string a0_3) := (bC BK155.out 3).trans rfl
      have hcz51_4 : w43.cell? ⟨gb155, 4, none⟩ = some (.string a0_4) := (bC BK155.out 4).trans rfl
      have hcz51_5 : w43.cell? ⟨gb155, 5, none⟩ = some (.int .u64 a0_5) := (bC BK155.out 5).trans rfl
      have hfz51_0 := bF BK155.out 0
      have hfz51_1 := bF BK155.out 1
      have hfz51_2 := bF BK155.out 2
      have hfz51_3 := bF BK155.out 3
      have hfz51_4 := bF BK155.out 4
      have hfz51_5 := bF BK155.out 5
      go_upto_if 43 with (fail)
      go_cut [7] (fun v7 wc => ∃ (kq : Nat) (x7_14 : List (S25)), Aside0 (msg_Rest.j1 kq x7_14 a0_0 a0_1 a0_2 a0_3 a0_4 a0_5 t157 t158 t159 t160 t161 t162 a0_0 a0_1 t160 a0_3 a0_4 a0_5 = some r) ∧ Aside0 (kq ≤ kj2) ∧ Aside0 (Kd.R k25 25 wc w.heap.size (fun k_ => k_ ≠ gb155 ∧ k_ ≠ gb164 ∧ k_ ≠ gb168 ∧ k_ ≠ gb169) v7 x7_14) ∧ Aside0 (wc.heap[gb155]? = some (.cells #[.int .u8 a0_0, .int .i64 a0_1, .string a0_2, .string a0_3, .string a0_4, .int .u64 a0_5] 25 (0, 0))) ∧ Aside0 (wc.heap[gb156]? = some (.cells #[.string a1_0, .string a1_1] 31 (0, 0))) ∧ Aside0 (wc.heap[gb164]? = some (.cells #[.int .u8 t157, .int .i64 t158, .string t159, .string t160, .string t161, .int .u64 t162] 25 (0, 0))) ∧ Aside0 (wc.heap[gb168]? = some (.cells #[.int .u8 a0_0, .int .i64 a0_1, .string a0_2, .string t159, .string a0_4, .int .u64 a0_5] 25 (0, 0))) ∧ Aside0 (wc.heap[gb169]? = some (.cells #[.int .u8 a0_0, .int .i64 a0_1, .string t160, .string a0_3, .string a0_4, .int .u64 a0_5] 25 (0, 0))) ∧ Aside0 (Below w.heap.size w wc))
      case first =>
       have H := HC15.out
       clear HC15
       by_cases c52 : (Op.bytesLess a0_2.toList t159.toList) = true
       ·rw [if_pos c52] at H
        have c52b0 : (Op.bytesLess a0_2.toList t159.toList) = true := c52
        clear c52
        (first | rw [c52b0] | (simp only [i64_w, i32_w]; rw [c52b0]) | skip)
        by_cases c53 : ([] : List (S25)).length < 1954687338268
        ·rw [if_pos c53] at H
         have LMc53 := Aside0.mk c53
         clear c53
         obtain ⟨y170, hy170⟩ : ∃ y_ : List (S25), y_ = (([] : List (S25)) ++ [(⟨a0_0, a0_1, a0_2, t159, a0_4, a0_5⟩ : S25)]) := ⟨_, rfl⟩
         replace H : (msg_Rest.j1 kj2 y170 a0_0 a0_1 a0_2 a0_3 a0_4 a0_5 t157 t158 t159 t160 t161 t162 a0_0 a0_1 t160 a0_3 a0_4 a0_5) = some r := by first | (rw [hy170]; with_reducible exact H) | (have H2_ := (Option.bind_some _ _).symm.trans H; rw [hy170]; with_reducible exact H2_) | (have H2_ := (Option.bind_some _ _).symm.trans H; with_reducible exact H2_) | with_reducible exact H | (rw [hy170]; exact H) | exact H
         have Ny170 := Aside0.mk hy170
         clear hy170
         have H' := Aside0.mk H
         clear H
         have hnb54 := NB168_155.out
         have hnc54 := NB155_168.out
         have hnb55 := NB168_156.out
         have hnc55 := NB156_168.out
         have hnb56 := NB168_164.out
         have hnc56 := NB164_168.out
         have hnb57 := NB168_169.out
         have hnc57 := NB169_168.out
         have hcz58_0 : w43.cell? ⟨gb168, 0, none⟩ = some (.int .u8 a0_0) := (bC BK168.out 0).trans rfl
         have hcz58_1 : w43.cell? ⟨gb168, 1, none⟩ = some (.int .i64 a0_1) := (bC BK168.out 1).trans rfl
         have hcz58_2 : w43.cell? ⟨gb168, 2, none⟩ = some (.string a0_2) := (bC BK168.out 2).trans rfl
         have hcz58_3 : w43.cell? ⟨gb168, 3, none⟩ = some (.string a0_3) := (bC BK168.out 3).trans rfl
         have hcz58_4 : w43.cell? ⟨gb168, 4, none⟩ = some (.string a0_4) := (bC BK168.out 4).trans rfl
         have hcz58_5 : w43.cell? ⟨gb168, 5, none⟩ = some (.int .u64 a0_5) := (bC BK168.out 5).trans rfl
         have hfz58_0 := bF BK168.out 0
         have hfz58_1 := bF BK168.out 1
         have hfz58_2 := bF BK168.out 2
         have hfz58_3 := bF BK168.out 3
         have hfz58_4 := bF BK168.out 4
         have hfz58_5 := bF BK168.out 5
         go_wp2_with (first | ((with_reducible refine gate_builtin (b := .append) (xs := #[.tmp 44, .tmp 46]) rfl ?_); at_builtin; refine Kd.R_append k25 (w0 := w) w.heap.size rfl (.tmp 44) (.tmp 46) 40 25 (.agg #[(.int .u8 0), (.int .i64 0), (.string ⟨#[]⟩), (.string ⟨#[]⟩), (.string ⟨#[]⟩), (.int .u64 0)]) 72 rfl Try.underlying40 info25 rfl (by decide) (by omega) (.slice none 0 0) ([] : List (S25)) (⟨a0_0, a0_1, a0_2, t159, a0_4, a0_5⟩ : S25) [.int .u8 a0_0, .int .i64 a0_1, .string a0_2, .string t159, .string a0_4, .int .u64 a0_5] (fun k_ => k_ ≠ gb155 ∧ k_ ≠ gb164 ∧ k_ ≠ gb168 ∧ k_ ≠ gb169) (fun _ => False) rfl (by first | (go_simp; done) | (go_simp; rfl)) ?aP (fun _ hk => hk.elim) ?aF ?aO ?aB ?aS ?aL ?_; (case aP => exact k25_mkM _ _ _ (⟨a0_0, a0_1, a0_2, t159, a0_4, a0_5⟩ : S25)); (case aB => exact (by repeat (first | (with_reducible first | exact HB.out | apply wA | apply wN | apply w1 | refine wS ?_ GE155.out | refine wS ?_ GE156.out | refine wS ?_ GE164.out | refine wS ?_ GE168.out | refine wS ?_ GE169.out) | exact HB.out))); (case aF => exact (fun k_ hk => ⟨Kd.freshB (g := gb155) (o := .cells #[.int .u8 a0_0, .int .i64 a0_1, .string a0_2, .string a0_3, .string a0_4, .int .u64 a0_5] 25 (0, 0)) (by (with_reducible repeat (first | refine bN ?_ _ | refine bD ?_ | refine bA ?_ _)); refine bR ?_ NB155_169.out _; (with_reducible repeat (first | refine bN ?_ _ | refine bD ?_ | refine bA ?_ _)); refine bR ?_ NB155_168.out _; (with_reducible repeat (first | refine bN ?_ _ | refine bD ?_ | refine bA ?_ _)); exact BK155.out) k_ hk, Kd.freshB (g := gb164) (o := .cells #[.int .u8 t157, .int .i64 t158, .string t159, .string t160, .string t161, .int .u64 t162] 25 (0, 0)) (by (with_reducible repeat (first | refine bN ?_ _ | refine bD ?_ | refine bA ?_ _)); refine bR ?_ NB164_169.out _; (with_reducible repeat (first | refine bN ?_ _ | refine bD ?_ | refine bA ?_ _)); refine bR ?_ NB164_168.out _; (with_reducible repeat (first | refine bN ?_ _ | refine bD ?_ | refine bA ?_ _)); exact BK164.out) k_ hk, Kd.freshB (g := gb168) (o := .cells #[.int .u8 a0_0, .int .i64 a0_1, .string a0_2, .string t159, .string a0_4, .int .u64 a0_5] 25 (0, 0)) (by (with_reducible repeat (first | refine bN ?_ _ | refine bD ?_ | refine bA ?_ _)); refine bR ?_ NB168_169.out _; (with_reducible repeat (first | refine bN ?_ _ | refine bD ?_ | refine bA ?_ _)); refine bP (cs := #[.int .u8 a0_0, .int .i64 a0_1, .string a0_2, .string a0_3, .string a0_4, .int .u64 a0_5]) ?_ 3 _ rfl; (with_reducible repeat (first | refine bN ?_ _ | refine bD ?_ | refine bA ?_ _)); exact BK168.out) k_ hk, Kd.freshB (g := gb169) (o := .cells #[.int .u8 a0_0, .int .i64 a0_1, .string t160, .string a0_3, .string a0_4, .int .u64 a0_5] 25 (0, 0)) (by (with_reducible repeat (first | refine bN ?_ _ | refine bD ?_ | refine bA ?_ _)); refine bP (cs := #[.int .u8 a0_0, .int .i64 a0_1, .string a0_2, .string a0_3, .string a0_4, .int .u64 a0_5]) ?_ 2 _ rfl; (with_reducible repeat (first | refine bN ?_ _ | refine bD ?_ | refine bA ?_ _)); refine bR ?_ NB169_168.out _; (with_reducible repeat (first | refine bN ?_ _ | refine bD ?_ | refine bA ?_ _)); exact BK169.out) k_ hk⟩)); (case aO => exact ((Kd.R_nil _ _ _ _ (fun k_ => k_ ≠ gb155 ∧ k_ ≠ gb164 ∧ k_ ≠ gb168 ∧ k_ ≠ gb169)))); (case aS => exact (wZ (by repeat (first | (with_reducible first | exact HB.out | apply wA | apply wN | apply w1 | refine wS ?_ GE155.out | refine wS ?_ GE156.out | refine wS ?_ GE164.out | refine wS ?_ GE168.out | refine wS ?_ GE169.out) | exact HB.out)))); (case aL => have := LMc53.out; omega); intro v171 w59 ho hb hg hat; rw [← Ny170.out] at ho; have n0_ := Aside0.mk (blk_grown (g := gb155) (o := .cells #[.int .u8 a0_0, .int .i64 a0_1, .string a0_2, .string a0_3, .string a0_4, .int .u64 a0_5] 25 (0, 0)) (by (with_reducible repeat (first | refine bN ?_ _ | refine bD ?_ | refine bA ?_ _)); refine bR ?_ NB155_169.out _; (with_reducible repeat (first | refine bN ?_ _ | refine bD ?_ | refine bA ?_ _)); refine bR ?_ NB155_168.out _; (with_reducible repeat (first | refine bN ?_ _ | refine bD ?_ | refine bA ?_ _)); exact BK155.out) hg (by simp [Value.ownBlock])); have n1_ := Aside0.mk (blk_grown (g := gb156) (o := .cells #[.string a1_0, .string a1_1] 31 (0, 0)) (by (with_reducible repeat (first | refine bN ?_ _ | refine bD ?_ | refine bA ?_ _)); refine bR ?_ NB156_169.out _; (with_reducible repeat (first | refine bN ?_ _ | refine bD ?_ | refine bA ?_ _)); refine bR ?_ NB156_168.out _; (with_reducible repeat (first | refine bN ?_ _ | refine bD ?_ | refine bA ?_ _)); exact BK156.out) hg (by simp [Value.ownBlock])); have n2_ := Aside0.mk (blk_grown (g := gb164) (o := .cells #[.int .u8 t157, .int .i64 t158, .string t159, .string t160, .string t161, .int .u64 t162] 25 (0, 0)) (by (with_reducible repeat (first | refine bN ?_ _ | refine bD ?_ | refine bA ?_ _)); refine bR ?_ NB164_169.out _; (with_reducible repeat (first | refine bN ?_ _ | refine bD ?_ | refine bA ?_ _)); refine bR ?_ NB164_168.out _; (with_reducible repeat (first | refine bN ?_ _ | refine bD ?_ | refine bA ?_ _)); exact BK164.out) hg (by simp [Value.ownBlock])); have n3_ := Aside0.mk (blk_grown (g := gb168) (o := .cells #[.int .u8 a0_0, .int .i64 a0_1, .string a0_2, .string t159, .string a0_4, .int .u64 a0_5] 25 (0, 0)) (by (with_reducible repeat (first | refine bN ?_ _ | refine bD ?_ | refine bA ?_ _)); refine bR ?_ NB168_169.out _; (with_reducible repeat (first | refine bN ?_ _ | refine bD ?_ | refine bA ?_ _)); refine bP (cs := #[.int .u8 a0_0, .int .i64 a0_1, .string a0_2, .string a0_3, .string a0_4, .int .u64 a0_5]) ?_ 3 _ rfl; (with_reducible repeat (first | refine bN ?_ _ | refine bD ?_ | refine bA ?_ _)); exact BK168.out) hg (by simp [Value.ownBlock])); have n4_ := Aside0.mk (blk_grown (g := gb169) (o := .cells #[.int .u8 a0_0, .int .i64 a0_1, .string t160, .string a0_3, .string a0_4, .int .u64 a0_5] 25 (0, 0)) (by (with_reducible repeat (first | refine bN ?_ _ | refine bD ?_ | refine bA ?_ _)); refine bP (cs := #[.int .u8 a0_0, .int .i64 a0_1, .string a0_2, .string a0_3, .string a0_4, .int .u64 a0_5]) ?_ 2 _ rfl; (with_reducible repeat (first | refine bN ?_ _ | refine bD ?_ | refine bA ?_ _)); refine bR ?_ NB169_168.out _; (with_reducible repeat (first | refine bN ?_ _ | refine bD ?_ | refine bA ?_ _)); exact BK169.out) hg (by simp [Value.ownBlock])); have n5_ := Aside0.mk (hb); have n6_ := Aside0.mk (ho); clear BK155; clear BK156; clear BK164; clear BK168; clear BK169; clear HB; have BK155 := n0_; have BK156 := n1_; have BK164 := n2_; have BK168 := n3_; have BK169 := n4_; have HB := n5_; have HO172 := n6_; clear n0_ n1_ n2_ n3_ n4_ n5_ n6_; clear ho hb hg hat))
         go_meet
         case rel => exact ⟨_, (y170), H', ⟨by have := HJ2.out; first | omega | exact Nat.le_refl _⟩, ⟨by (with_reducible repeat (first | apply Kd.R_alloc | apply Kd.R_drewN | apply Kd.R_drew)); exact HO172.out⟩, ⟨by (with_reducible repeat (first | refine bN ?_ _ | refine bD ?_ | refine bA ?_ _)); exact BK155.out⟩, ⟨by (with_reducible repeat (first | refine bN ?_ _ | refine bD ?_ | refine bA ?_ _)); exact BK156.out⟩, ⟨by (with_reducible repeat (first | refine bN ?_ _ | refine bD ?_ | refine bA ?_ _)); exact BK164.out⟩, ⟨by (with_reducible repeat (first | refine bN ?_ _ | refine bD ?_ | refine bA ?_ _)); exact BK168.out⟩, ⟨by (with_reducible repeat (first | refine bN ?_ _ | refine bD ?_ | refine bA ?_ _)); exact BK169.out⟩, ⟨by repeat (first | (with_reducible first | exact HB.out | apply wA | apply wN | apply w1 | refine wS ?_ GE155.out | refine wS ?_ GE156.out | refine wS ?_ GE164.out | refine wS ?_ GE168.out | refine wS ?_ GE169.out) | exact HB.out)⟩⟩
        ·rw [if_neg c53] at H
         exact absurd H (by simp)
       ·rw [if_neg c52] at H
        have c52b0 : (Op.bytesLess a0_2.toList t159.toList) = false := by simpa using c52
        clear c52
        (first | rw [c52b0] | (simp only [i64_w, i32_w]; rw [c52b0]) | skip)
        have H' := Aside0.mk H
        clear H
        go_wp2
        go_meet
        case rel => exact ⟨_, (([] : List (S25))), H', ⟨by have := HJ2.out; first | omega | exact Nat.le_refl _⟩, ⟨by first | exact Kd.R_nil _ _ _ _ _ | exact Kd.N_nil _ _ _ _ _ | exact Kd.V_nil _ _ _ _ _ | exact Kd.Q_nil _ _ _ _ _ | exact Kd.S_nil _ _ _ _ _⟩, ⟨by (with_reducible repeat (first | refine bN ?_ _ | refine bD ?_ | refine bA ?_ _)); refine bR ?_ NB155_169.out _; (with_reducible repeat (first | refine bN ?_ _ | refine bD ?_ | refine bA ?_ _)); refine bR ?_ NB155_168.out _; (with_reducible repeat (first | refine bN ?_ _ | refine bD ?_ | refine bA ?_ _)); exact BK155.out⟩, ⟨by (with_reducible repeat (first | refine bN ?_ _ | refine bD ?_ | refine bA ?_ _)); refine bR ?_ NB156_169.out _; (with_reducible repeat (first | refine bN ?_ _ | refine bD ?_ | refine bA ?_ _)); refine bR ?_ NB156_168.out _; (with_reducible repeat (first | refine bN ?_ _ | refine bD ?_ | refine bA ?_ _)); exact BK156.out⟩, ⟨by (with_reducible repeat (first | refine bN ?_ _ | refine bD ?_ | refine bA ?_ _)); refine bR ?_ NB164_169.out _; (with_reducible repeat (first | refine bN ?_ _ | refine bD ?_ | refine bA ?_ _)); refine bR ?_ NB164_168.out _; (with_reducible repeat (first | refine bN ?_ _ | refine bD ?_ | refine bA ?_ _)); exact BK164.out⟩, ⟨by (with_reducible repeat (first | refine bN ?_ _ | refine bD ?_ | refine bA ?_ _)); refine bR ?_ NB168_169.out _; (with_reducible repeat (first | refine bN ?_ _ | refine bD ?_ | refine bA ?_ _)); refine bP (cs := #[.int .u8 a0_0, .int .i64 a0_1, .string a0_2, .string a0_3, .string a0_4, .int .u64 a0_5]) ?_ 3 _ rfl; (with_reducible repeat (first | refine bN ?_ _ | refine bD ?_ | refine bA ?_ _)); exact BK168.out⟩, ⟨by (with_reducible repeat (first | refine bN ?_ _ | refine bD ?_ | refine bA ?_ _)); refine bP (cs := #[.int .u8 a0_0, .int .i64 a0_1, .string a0_2, .string a0_3, .string a0_4, .int .u64 a0_5]) ?_ 2 _ rfl; (with_reducible repeat (first | refine bN ?_ _ | refine bD ?_ | refine bA ?_ _)); refine bR ?_ NB169_168.out _; (with_reducible repeat (first | refine bN ?_ _ | refine bD ?_ | refine bA ?_ _)); exact BK169.out⟩, ⟨by repeat (first | (with_reducible first | exact HB.out | apply wA | apply wN | apply w1 | refine wS ?_ GE155.out | refine wS ?_ GE156.out | refine wS ?_ GE164.out | refine wS ?_ GE168.out | refine wS ?_ GE169.out) | exact HB.out)⟩⟩
      case rest =>
       clear HC15
       try clear p2
       try clear c4
       try clear c5
       try clear c46
       try clear c47
       try clear c49
       try clear c50
       try clear c52
       try clear c52b0
       try clear c53
       try clear c54
       try clear c55
       try clear c56
       try clear c57
       try clear hcz48_0
       try clear hcz48_1
       try clear hcz48_2
       try clear hcz48_3
       try clear hcz48_4
       try clear hcz48_5
       try clear hcz51_0
       try clear hcz51_1
       try clear hcz51_2
       try clear hcz51_3
       try clear hcz51_4
       try clear hcz51_5
       try clear hcz58_0
       try clear hcz58_1
       try clear hcz58_2
       try clear hcz58_3
       try clear hcz58_4
       try clear hcz58_5
       try clear hfz48_0
       try clear hfz48_1
       try clear hfz48_2
       try clear hfz48_3
       try clear hfz48_4
       try clear hfz48_5
       try clear hfz51_0
       try clear hfz51_1
       try clear hfz51_2
       try clear hfz51_3
       try clear hfz51_4
       try clear hfz51_5
       try clear hfz58_0
       try clear hfz58_1
       try clear hfz58_2
       try clear hfz58_3
       try clear hfz58_4
       try clear hfz58_5
       obtain ⟨kq, x7_14, HA, HJ14, HO_7, BK155, BK156, BK164, BK168, BK169, HB⟩ := hcut
       cases kq with
       | zero => exact absurd HA.out (by simp [msg_Rest.j1])
       | succ kj14 =>
        have H := HA.out
        clear HA
        simp only [msg_Rest.j1] at H
        replace H := Option.bind_eq_some_iff.mp H
        obtain ⟨t173, A600, H⟩ := H
        replace H : (if t173 = true then (if x7_14.length < 1954687338268 then (some (x7_14 ++ [(⟨a0_0, a0_1, t160, a0_3, a0_4, a0_5⟩ : S25)])) else (none)) else (some x7_14)) = some r := H
        have A60 := Aside0.mk A600
        clear A600
        by_cases c61 : t173 = true
        ·subst c61
         have H1 : (if x7_14.length < 1954687338268 then (some (x7_14 ++ [(⟨a0_0, a0_1, t160, a0_3, a0_4, a0_5⟩ : S25)])) else (none)) = some r := by rw [if_pos rfl] at H; exact H
         clear H
         have H := H1
         clear H1
         by_cases c62 : x7_14.length < 1954687338268
         ·rw [if_pos c62] at H
          have LMc62 := Aside0.mk c62
          clear c62
          obtain ⟨y174, hy174⟩ : ∃ y_ : List (S25), y_ = (x7_14 ++ [(⟨a0_0, a0_1, t160, a0_3, a0_4, a0_5⟩ : S25)]) := ⟨_, rfl⟩
          replace H : (some y174) = some r := by first | (rw [hy174]; with_reducible exact H) | (have H2_ := (Option.bind_some _ _).symm.trans H; rw [hy174]; with_reducible exact H2_) | (have H2_ := (Option.bind_some _ _).symm.trans H; with_reducible exact H2_) | with_reducible exact H | (rw [hy174]; exact H) | exact H
          have Ny174 := Aside0.mk hy174
          clear hy174
          obtain rfl := Option.some.inj H
          have hnb63 := NB164_155.out
          have hnc63 := NB155_164.out
          have hnb64 := NB164_156.out
          have hnc64 := NB156_164.out
          have hnb65 := NB164_168.out
          have hnc65 := NB168_164.out
          have hnb66 := NB164_169.out
          have hnc66 := NB169_164.out
          have hcz67_0 : wc.cell? ⟨gb164, 0, none⟩ = some (.int .u8 t157) := (bC BK164.out 0).trans rfl
          have hcz67_1 : wc.cell? ⟨gb164, 1, none⟩ = some (.int .i64 t158) := (bC BK164.out 1).trans rfl
          have hcz67_2 : wc.cell? ⟨gb164, 2, none⟩ = some (.string t159) := (bC BK164.out 2).trans rfl
          have hcz67_3 : wc.cell? ⟨gb164, 3, none⟩ = some (.string t160) := (bC BK164.out 3).trans rfl
          have hcz67_4 : wc.cell? ⟨gb164, 4, none⟩ = some (.string t161) := (bC BK164.out 4).trans rfl
          have hcz67_5 : wc.cell? ⟨gb164, 5, none⟩ = some (.int .u64 t162) := (bC BK164.out 5).trans rfl
          have hfz67_0 := bF BK164.out 0
          have hfz67_1 := bF BK164.out 1
          have hfz67_2 := bF BK164.out 2
          have hfz67_3 := bF BK164.out 3
          have hfz67_4 := bF BK164.out 4
          have hfz67_5 := bF BK164.out 5
          have hnb68 := NB155_156.out
          have hnc68 := NB156_155.out
          have hnb69 := NB155_168.out
          have hnc69 := NB168_155.out
          have hnb70 := NB155_169.out
          have hnc70 := NB169_155.out
          have hcz71_0 : wc.cell? ⟨gb155, 0, none⟩ = some (.int .u8 a0_0) := (bC BK155.out 0).trans rfl
          have hcz71_1 : wc.cell? ⟨gb155, 1, none⟩ = some (.int .i64 a0_1) := (bC BK155.out 1).trans rfl
          have hcz71_2 : wc.cell? ⟨gb155, 2, none⟩ = some (.string a0_2) := (bC BK155.out 2).trans rfl
          have hcz71_3 : wc.cell? ⟨gb155, 3, none⟩ = some (.string a0_3) := (bC BK155.out 3).trans rfl
          have hcz71_4 : wc.cell? ⟨gb155, 4, none⟩ = some (.string a0_4) := (bC BK155.out 4).trans rfl
          have hcz71_5 : wc.cell? ⟨gb155, 5, none⟩ = some (.int .u64 a0_5) := (bC BK155.out 5).trans rfl
          have hfz71_0 := bF BK155.out 0
          have hfz71_1 := bF BK155.out 1
          have hfz71_2 := bF BK155.out 2
          have hfz71_3 := bF BK155.out 3
          have hfz71_4 := bF BK155.out 4
          have hfz71_5 := bF BK155.out 5
          go_wp2_with (first | ((with_reducible refine gate_callee (f := 35) rfl ?_); refine goesL_ (some 52) rfl rfl Try.func35 (by kernel_rfl) rfl #[.string t160, .string a0_3] rfl (by (try simp only [mA1, mA2, mA3]); first | done | rfl | (simp only [mA5, mA4]; rfl)) ?_; (with_reducible refine (key_Before.calls t160 a0_3 true _ A60.out).mono ?_); rintro e w' ⟨rfl, ⟨nd, rfl⟩⟩; refine ⟨_, rfl, ?_⟩; have hnb72 := NB169_156.out; have hnc72 := NB156_169.out; have hnb73 := NB169_168.out; have hnc73 := NB168_169.out; have hcz74_0 : wc.cell? ⟨gb169, 0, none⟩ = some (.int .u8 a0_0) := (bC BK169.out 0).trans rfl; have hcz74_1 : wc.cell? ⟨gb169, 1, none⟩ = some (.int .i64 a0_1) := (bC BK169.out 1).trans rfl; have hcz74_2 : wc.cell? ⟨gb169, 2, none⟩ = some (.string t160) := (bC BK169.out 2).trans rfl; have hcz74_3 : wc.cell? ⟨gb169, 3, none⟩ = some (.string a0_3) := (bC BK169.out 3).trans rfl; have hcz74_4 : wc.cell? ⟨gb169, 4, none⟩ = some (.string a0_4) := (bC BK169.out 4).trans rfl; have hcz74_5 : wc.cell? ⟨gb169, 5, none⟩ = some (.int .u64 a0_5) := (bC BK169.out 5).trans rfl; have hfz74_0 := bF BK169.out 0; have hfz74_1 := bF BK169.out 1; have hfz74_2 := bF BK169.out 2; have hfz74_3 := bF BK169.out 3; have hfz74_4 := bF BK169.out 4; have hfz74_5 := bF BK169.out 5) | ((with_reducible refine gate_builtin (b := .append) (xs := #[.tmp 53, .tmp 55]) rfl ?_); at_builtin; refine Kd.R_append k25 (w0 := w) w.heap.size rfl (.tmp 53) (.tmp 55) 40 25 (.agg #[(.int .u8 0), (.int .i64 0), (.string ⟨#[]⟩), (.string ⟨#[]⟩), (.string ⟨#[]⟩), (.int .u64 0)]) 72 rfl Try.underlying40 info25 rfl (by decide) (by omega) u7 x7_14 (⟨a0_0, a0_1, t160, a0_3, a0_4, a0_5⟩ : S25) [.int .u8 a0_0, .int .i64 a0_1, .string t160, .string a0_3, .string a0_4, .int .u64 a0_5] (fun k_ => k_ ≠ gb155 ∧ k_ ≠ gb164 ∧ k_ ≠ gb168 ∧ k_ ≠ gb169) (fun _ => False) rfl rfl ?aP (fun _ hk => hk.elim) ?aF ?aO ?aB ?aS ?aL ?_; (case aP => exact k25_mkM _ _ _ (⟨a0_0, a0_1, t160, a0_3, a0_4, a0_5⟩ : S25)); (case aB => exact (by repeat (first | (with_reducible first | exact HB.out | apply wA | apply wN | apply w1 | refine wS ?_ GE155.out | refine wS ?_ GE156.out | refine wS ?_ GE164.out | refine wS ?_ GE168.out | refine wS ?_ GE169.out) | exact HB.out))); (case aF => exact (fun k_ hk => ⟨Kd.freshB (g := gb155) (o := .cells #[.int .u8 a0_0, .int .i64 a0_1, .string a0_2, .string a0_3, .string a0_4, .int .u64 a0_5] 25 (0, 0)) (by (with_reducible repeat (first | refine bN ?_ _ | refine bD ?_ | refine bA ?_ _)); exact BK155.out) k_ hk, Kd.freshB (g := gb164) (o := .cells #[.int .u8 t157, .int .i64 t158, .string t159, .string t160, .string t161, .int .u64 t162] 25 (0, 0)) (by (with_reducible repeat (first | refine bN ?_ _ | refine bD ?_ | refine bA ?_ _)); exact BK164.out) k_ hk, Kd.freshB (g := gb168) (o := .cells #[.int .u8 a0_0, .int .i64 a0_1, .string a0_2, .string t159, .string a0_4, .int .u64 a0_5] 25 (0, 0)) (by (with_reducible repeat (first | refine bN ?_ _ | refine bD ?_ | refine bA ?_ _)); exact BK168.out) k_ hk, Kd.freshB (g := gb169) (o := .cells #[.int .u8 a0_0, .int .i64 a0_1, .string t160, .string a0_3, .string a0_4, .int .u64 a0_5] 25 (0, 0)) (by (with_reducible repeat (first | refine bN ?_ _ | refine bD ?_ | refine bA ?_ _)); exact BK169.out) k_ hk⟩)); (case aO => exact (by (with_reducible repeat (first | apply Kd.R_alloc | apply Kd.R_drewN | apply Kd.R_drew)); exact HO_7.out)); (case aS => exact (wZ (by repeat (first | (with_reducible first | exact HB.out | apply wA | apply wN | apply w1 | refine wS ?_ GE155.out | refine wS ?_ GE156.out | refine wS ?_ GE164.out | refine wS ?_ GE168.out | refine wS ?_ GE169.out) | exact HB.out)))); (case aL => have := LMc62.out; omega); intro v175 w75 ho hb hg hat; rw [← Ny174.out] at ho; have n0_ := Aside0.mk (blk_grown (g := gb155) (o := .cells #[.int .u8 a0_0, .int .i64 a0_1, .string a0_2, .string a0_3, .string a0_4, .int .u64 a0_5] 25 (0, 0)) (by (with_reducible repeat (first | refine bN ?_ _ | refine bD ?_ | refine bA ?_ _)); exact BK155.out) hg (Kd.R_away HO_7.out (fun _ hk => hk.1))); have n1_ := Aside0.mk (blk_grown (g := gb156) (o := .cells #[.string a1_0, .string a1_1] 31 (0, 0)) (by (with_reducible repeat (first | refine bN ?_ _ | refine bD ?_ | refine bA ?_ _)); exact BK156.out) hg (Kd.R_ne HO_7.out BK156.out (by decide))); have n2_ := Aside0.mk (blk_grown (g := gb164) (o := .cells #[.int .u8 t157, .int .i64 t158, .string t159, .string t160, .string t161, .int .u64 t162] 25 (0, 0)) (by (with_reducible repeat (first | refine bN ?_ _ | refine bD ?_ | refine bA ?_ _)); exact BK164.out) hg (Kd.R_away HO_7.out (fun _ hk => hk.2.1))); have n3_ := Aside0.mk (blk_grown (g := gb168) (o := .cells #[.int .u8 a0_0, .int .i64 a0_1, .string a0_2, .string t159, .string a0_4, .int .u64 a0_5] 25 (0, 0)) (by (with_reducible repeat (first | refine bN ?_ _ | refine bD ?_ | refine bA ?_ _)); exact BK168.out) hg (Kd.R_away HO_7.out (fun _ hk => hk.2.2.1))); have n4_ := Aside0.mk (blk_grown (g := gb169) (o := .cells #[.int .u8 a0_0, .int .i64 a0_1, .string t160, .string a0_3, .string a0_4, .int .u64 a0_5] 25 (0, 0)) (by (with_reducible repeat (first | refine bN ?_ _ | refine bD ?_ | refine bA ?_ _)); exact BK169.out) hg (Kd.R_away HO_7.out (fun _ hk => hk.2.2.2))); have n5_ := Aside0.mk (hb); have n6_ := Aside0.mk (ho); clear BK155; clear BK156; clear BK164; clear BK168; clear BK169; clear HB; clear HO_7; have BK155 := n0_; have BK156 := n1_; have BK164 := n2_; have BK168 := n3_; have BK169 := n4_; have HB := n5_; have HO176 := n6_; clear n0_ n1_ n2_ n3_ n4_ n5_ n6_; clear ho hb hg hat))
          go_ret
          exact ⟨_, by first | rfl | (simp [errW_none, errW_some] <;> rfl) | (simp [*, errW_none, errW_some] <;> rfl), by (with_reducible repeat (first | apply Kd.R_alloc | apply Kd.R_drewN | apply Kd.R_drew)); exact Kd.R_mono HO176.out (fun _ hk => trivial), by repeat (first | (with_reducible first | exact HB.out | apply wA | apply wN | apply w1 | refine wS ?_ GE155.out | refine wS ?_ GE156.out | refine wS ?_ GE164.out | refine wS ?_ GE168.out | refine wS ?_ GE169.out) | exact HB.out)⟩
         ·rw [if_neg c62] at H
          exact absurd H (by simp)
        ·replace c61 := Bool.eq_false_iff.mpr c61
         subst c61
         have H1 : (some x7_14) = some r := by rw [if_neg (show ¬ (false = true) by decide)] at H; exact H
         clear H
         have H := H1
         clear H1
         obtain rfl := Option.some.inj H
         have hnb76 := NB164_155.out
         have hnc76 := NB155_164.out
         have hnb77 := NB164_156.out
         have hnc77 := NB156_164.out
         have hnb78 := NB164_168.out
         have hnc78 := NB168_164.out
         have hnb79 := NB164_169.out
         have hnc79 := NB169_164.out
         have hcz80_0 : wc.cell? ⟨gb164, 0, none⟩ = some (.int .u8 t157) := (bC BK164.out 0).trans rfl
         have hcz80_1 : wc.cell? ⟨gb164, 1, none⟩ = some (.int .i64 t158) := (bC BK164.out 1).trans rfl
         have hcz80_2 : wc.cell? ⟨gb164, 2, none⟩ = some (.string t159) := (bC BK164.out 2).trans rfl
         have hcz80_3 : wc.cell? ⟨gb164, 3, none⟩ = some (.string t160) := (bC BK164.out 3).trans rfl
         have hcz80_4 : wc.cell? ⟨gb164, 4, none⟩ = some (.string t161) := (bC BK164.out 4).trans rfl
         have hcz80_5 : wc.cell? ⟨gb164, 5, none⟩ = some (.int .u64 t162) := (bC BK164.out 5).trans rfl
         have hfz80_0 := bF BK164.out 0
         have hfz80_1 := bF BK164.out 1
         have hfz80_2 := bF BK164.out 2
         have hfz80_3 := bF BK164.out 3
         have hfz80_4 := bF BK164.out 4
         have hfz80_5 := bF BK164.out 5
         have hnb81 := NB155_156.out
         have hnc81 := NB156_155.out
         have hnb82 := NB155_168.out
         have hnc82 := NB168_155.out
         have hnb83 := NB155_169.out
         have hnc83 := NB169_155.out
         have hcz84_0 : wc.cell? ⟨gb155, 0, none⟩ = some (.int .u8 a0_0) := (bC BK155.out 0).trans rfl
         have hcz84_1 : wc.cell? ⟨gb155, 1, none⟩ = some (.int .i64 a0_1) := (bC BK155.out 1).trans rfl
         have hcz84_2 : wc.cell? ⟨gb155, 2, none⟩ = some (.string a0_2) := (bC BK155.out 2).trans rfl
         have hcz84_3 : wc.cell? ⟨gb155, 3, none⟩ = some (.string a0_3) := (bC BK155.out 3).trans rfl
         have hcz84_4 : wc.cell? ⟨gb155, 4, none⟩ = some (.string a0_4) := (bC BK155.out 4).trans rfl
         have hcz84_5 : wc.cell? ⟨gb155, 5, none⟩ = some (.int .u64 a0_5) := (bC BK155.out 5).trans rfl
         have hfz84_0 := bF BK155.out 0
         have hfz84_1 := bF BK155.out 1
         have hfz84_2 := bF BK155.out 2
         have hfz84_3 := bF BK155.out 3
         have hfz84_4 := bF BK155.out 4
         have hfz84_5 := bF BK155.out 5
         go_wp2_with (first | ((with_reducible refine gate_callee (f := 35) rfl ?_); refine goesL_ (some 52) rfl rfl Try.func35 (by kernel_rfl) rfl #[.string t160, .string a0_3] rfl (by (try simp only [mA1, mA2, mA3]); first | done | rfl | (simp only [mA5, mA4]; rfl)) ?_; (with_reducible refine (key_Before.calls t160 a0_3 false _ A60.out).mono ?_); rintro e w' ⟨rfl, ⟨nd, rfl⟩⟩; refine ⟨_, rfl, ?_⟩))
         go_ret
         exact ⟨_, by first | rfl | (simp [errW_none, errW_some] <;> rfl) | (simp [*, errW_none, errW_some] <;> rfl), by (with_reducible repeat (first | apply Kd.R_alloc | apply Kd.R_drewN | apply Kd.R_drew)); exact Kd.R_mono HO_7.out (fun _ hk => trivial), by repeat (first | (with_reducible first | exact HB.out | apply wA | apply wN | apply w1 | refine wS ?_ GE155.out | refine wS ?_ GE156.out | refine wS ?_ GE164.out | refine wS ?_ GE168.out | refine wS ?_ GE169.out) | exact HB.out)⟩
     ·rw [if_neg c14] at H
      have c14b0 : (a0_0 == 4) = false := beq_eq_false_iff_ne.mpr c14
      have c14b1 : (a0_0 != 4) = true := bne_iff_ne.mpr c14
      obtain rfl := Option.some.inj H
      have hnb85 := NB155_156.out
      have hnc85 := NB156_155.out
      have hcz86_0 : wc.cell? ⟨gb155, 0, none⟩ = some (.int .u8 a0_0) := (bC BK155.out 0).trans rfl
      have hcz86_1 : wc.cell? ⟨gb155, 1, none⟩ = some (.int .i64 a0_1) := (bC BK155.out 1).trans rfl
      have hcz86_2 : wc.cell? ⟨gb155, 2, none⟩ = some (.string a0_2) := (bC BK155.out 2).trans rfl
      have hcz86_3 : wc.cell? ⟨gb155, 3, none⟩ = some (.string a0_3) := (bC BK155.out 3).trans rfl
      have hcz86_4 : wc.cell? ⟨gb155, 4, none⟩ = some (.string a0_4) := (bC BK155.out 4).trans rfl
      have hcz86_5 : wc.cell? ⟨gb155, 5, none⟩ = some (.int .u64 a0_5) := (bC BK155.out 5).trans rfl
      have hfz86_0 := bF BK155.out 0
      have hfz86_1 := bF BK155.out 1
      have hfz86_2 := bF BK155.out 2
      have hfz86_3 := bF BK155.out 3
      have hfz86_4 := bF BK155.out 4
      have hfz86_5 := bF BK155.out 5
      have hcz87_0 : wc.cell? ⟨gb156, 0, none⟩ = some (.string a1_0) := (bC BK156.out 0).trans rfl
      have hcz87_1 : wc.cell? ⟨gb156, 1, none⟩ = some (.string a1_1) := (bC BK156.out 1).trans rfl
      have hfz87_0 := bF BK156.out 0
      have hfz87_1 := bF BK156.out 1
      go_wp2_with (first | ((with_reducible refine gate_callee (f := 19) rfl ?_); refine goesL_ (some 21) rfl rfl Try.func19 (by kernel_rfl) rfl #[.agg #[.int .u8 a0_0, .int .i64 a0_1, .string a0_2, .string a0_3, .string a0_4, .int .u64 a0_5], .agg #[.string a1_0, .string a1_1]] rfl (by (try simp only [mA1, mA2, mA3]); first | done | rfl | (simp only [mA5, mA4]; rfl)) ?_; (with_reducible refine (msg_Clip.calls kj2 a0_0 a0_1 a0_2 a0_3 a0_4 a0_5 a1_0 a1_1 t157 t158 t159 t160 t161 t162 true _ A12.out).mono ?_); rintro e w88 ⟨rfl, hb⟩; refine ⟨_, rfl, ?_⟩; have n0_ := Aside0.mk (bB (g := gb155) (o := .cells #[.int .u8 a0_0, .int .i64 a0_1, .string a0_2, .string a0_3, .string a0_4, .int .u64 a0_5] 25 (0, 0)) (by (with_reducible repeat (first | refine bN ?_ _ | refine bD ?_ | refine bA ?_ _)); exact BK155.out) hb); have n1_ := Aside0.mk (bB (g := gb156) (o := .cells #[.string a1_0, .string a1_1] 31 (0, 0)) (by (with_reducible repeat (first | refine bN ?_ _ | refine bD ?_ | refine bA ?_ _)); exact BK156.out) hb); have n2_ := Aside0.mk (wT (by repeat (first | (with_reducible first | exact HB.out | apply wA | apply wN | apply w1 | refine wS ?_ GE155.out | refine wS ?_ GE156.out) | exact HB.out)) hb); clear BK155; clear BK156; clear HB; have BK155 := n0_; have BK156 := n1_; have HB := n2_; clear n0_ n1_ n2_; (try clear hb); (try clear hb2); (try clear hk); (try clear hi)) | ((with_reducible refine gate_dst (N := 5) rfl ?_); refine box_event ?hg (N := 5) ?hd (cs := #[.int .u8 0, .int .i64 0, .string (⟨#[]⟩ : BA), .string (⟨#[]⟩ : BA), .string (⟨#[]⟩ : BA), .int .u64 0]) (t := 25) ?hr ?_; (case hd => rfl); (case hg => rfl); (case hr => first | (go_simp; done) | (go_simp; rfl)); intro gb164 hg w89 hbox hb; have n0_ := Aside0.mk (bB (g := gb155) (o := .cells #[.int .u8 a0_0, .int .i64 a0_1, .string a0_2, .string a0_3, .string a0_4, .int .u64 a0_5] 25 (0, 0)) (by (with_reducible repeat (first | refine bN ?_ _ | refine bD ?_ | refine bA ?_ _)); exact BK155.out) hb); have n1_ := Aside0.mk (bB (g := gb156) (o := .cells #[.string a1_0, .string a1_1] 31 (0, 0)) (by (with_reducible repeat (first | refine bN ?_ _ | refine bD ?_ | refine bA ?_ _)); exact BK156.out) hb); have n2_ := Aside0.mk (wT (by repeat (first | (with_reducible first | exact HB.out | apply wA | apply wN | apply w1 | refine wS ?_ GE155.out | refine wS ?_ GE156.out) | exact HB.out)) hb); have n3_ := Aside0.mk (hbox); have n4_ := Aside0.mk ((by rw [hg]; exact (wZ (by repeat (first | (with_reducible first | exact HB.out | apply wA | apply wN | apply w1 | refine wS ?_ GE155.out | refine wS ?_ GE156.out) | exact HB.out))) : w.heap.size ≤ gb164)); have n5_ := n4_; have n6_ := Aside0.mk ((by rw [hg]; exact Nat.ne_of_lt (blk_lt (g := gb155) (o := .cells #[.int .u8 a0_0, .int .i64 a0_1, .string a0_2, .string a0_3, .string a0_4, .int .u64 a0_5] 25 (0, 0)) (by (with_reducible repeat (first | refine bN ?_ _ | refine bD ?_ | refine bA ?_ _)); exact BK155.out)) : gb155 ≠ gb164)); have n7_ := Aside0.mk ((by rw [hg]; exact Nat.ne_of_gt (blk_lt (g := gb155) (o := .cells #[.int .u8 a0_0, .int .i64 a0_1, .string a0_2, .string a0_3, .string a0_4, .int .u64 a0_5] 25 (0, 0)) (by (with_reducible repeat (first | refine bN ?_ _ | refine bD ?_ | refine bA ?_ _)); exact BK155.out)) : gb164 ≠ gb155)); have n8_ := Aside0.mk ((by rw [hg]; exact Nat.ne_of_lt (blk_lt (g := gb156) (o := .cells #[.string a1_0, .string a1_1] 31 (0, 0)) (by (with_reducible repeat (first | refine bN ?_ _ | refine bD ?_ | refine bA ?_ _)); exact BK156.out)) : gb156 ≠ gb164)); have n9_ := Aside0.mk ((by rw [hg]; exact Nat.ne_of_gt (blk_lt (g := gb156) (o := .cells #[.string a1_0, .string a1_1] 31 (0, 0)) (by (with_reducible repeat (first | refine bN ?_ _ | refine bD ?_ | refine bA ?_ _)); exact BK156.out)) : gb164 ≠ gb156)); clear BK155; clear BK156; clear HB; have BK155 := n0_; have BK156 := n1_; have HB := n2_; have BK164 := n3_; have GW164 := n4_; have GE164 := n5_; have NB155_164 := n6_; have NB164_155 := n7_; have NB156_164 := n8_; have NB164_156 := n9_; clear n0_ n1_ n2_ n3_ n4_ n5_ n6_ n7_ n8_ n9_; clear hb hbox hg; have hnb90 := NB164_155.out; have hnc90 := NB155_164.out; have hnb91 := NB164_156.out; have hnc91 := NB156_164.out; have hcz92_0 : w89.cell? ⟨gb164, 0, none⟩ = some (.int .u8 0) := (bC BK164.out 0).trans rfl; have hcz92_1 : w89.cell? ⟨gb164, 1, none⟩ = some (.int .i64 0) := (bC BK164.out 1).trans rfl; have hcz92_2 : w89.cell? ⟨gb164, 2, none⟩ = some (.string (⟨#[]⟩ : BA)) := (bC BK164.out 2).trans rfl; have hcz92_3 : w89.cell? ⟨gb164, 3, none⟩ = some (.string (⟨#[]⟩ : BA)) := (bC BK164.out 3).trans rfl; have hcz92_4 : w89.cell? ⟨gb164, 4, none⟩ = some (.string (⟨#[]⟩ : BA)) := (bC BK164.out 4).trans rfl; have hcz92_5 : w89.cell? ⟨gb164, 5, none⟩ = some (.int .u64 0) := (bC BK164.out 5).trans rfl; have hfz92_0 := bF BK164.out 0; have hfz92_1 := bF BK164.out 1; have hfz92_2 := bF BK164.out 2; have hfz92_3 := bF BK164.out 3; have hfz92_4 := bF BK164.out 4; have hfz92_5 := bF BK164.out 5; have hcz93_0 : w89.cell? ⟨gb155, 0, none⟩ = some (.int .u8 a0_0) := (bC BK155.out 0).trans rfl; have hcz93_1 : w89.cell? ⟨gb155, 1, none⟩ = some (.int .i64 a0_1) := (bC BK155.out 1).trans rfl; have hcz93_2 : w89.cell? ⟨gb155, 2, none⟩ = some (.string a0_2) := (bC BK155.out 2).trans rfl; have hcz93_3 : w89.cell? ⟨gb155, 3, none⟩ = some (.string a0_3) := (bC BK155.out 3).trans rfl; have hcz93_4 : w89.cell? ⟨gb155, 4, none⟩ = some (.string a0_4) := (bC BK155.out 4).trans rfl; have hcz93_5 : w89.cell? ⟨gb155, 5, none⟩ = some (.int .u64 a0_5) := (bC BK155.out 5).trans rfl; have hfz93_0 := bF BK155.out 0; have hfz93_1 := bF BK155.out 1; have hfz93_2 := bF BK155.out 2; have hfz93_3 := bF BK155.out 3; have hfz93_4 := bF BK155.out 4; have hfz93_5 := bF BK155.out 5))
      go_ret
      exact ⟨_, by first | rfl | (simp [errW_none, errW_some] <;> rfl) | (simp [*, errW_none, errW_some] <;> rfl), by first | exact Kd.R_nil _ _ _ _ _ | exact Kd.N_nil _ _ _ _ _ | exact Kd.V_nil _ _ _ _ _ | exact Kd.Q_nil _ _ _ _ _ | exact Kd.S_nil _ _ _ _ _, by repeat (first | (with_reducible first | exact HB.out | apply wA | apply wN | apply w1 | refine wS ?_ GE155.out | refine wS ?_ GE156.out | refine wS ?_ GE164.out) | exact HB.out)⟩
    ·replace c13 := Bool.eq_false_iff.mpr c13
     subst c13
     have H1 : (some (([(⟨a0_0, a0_1, a0_2, a0_3, a0_4, a0_5⟩ : S25)] : List (S25)))) = some r := by rw [if_neg (show ¬ (false = true) by decide)] at H; exact H
     clear H
     have H := H1
     clear H1
     obtain ⟨y165, hy165⟩ : ∃ y_ : List (S25), y_ = (([(⟨a0_0, a0_1, a0_2, a0_3, a0_4, a0_5⟩ : S25)] : List (S25))) := ⟨_, rfl⟩
     replace H : (some y165) = some r := by first | (rw [hy165]; with_reducible exact H) | (have H2_ := (Option.bind_some _ _).symm.trans H; rw [hy165]; with_reducible exact H2_) | (have H2_ := (Option.bind_some _ _).symm.trans H; with_reducible exact H2_) | with_reducible exact H | (rw [hy165]; exact H) | exact H
     have Ny165 := Aside0.mk hy165
     clear hy165
     obtain rfl := Option.some.inj H
     have hnb94 := NB155_156.out
     have hnc94 := NB156_155.out
     have hcz95_0 : wc.cell? ⟨gb155, 0, none⟩ = some (.int .u8 a0_0) := (bC BK155.out 0).trans rfl
     have hcz95_1 : wc.cell? ⟨gb155, 1, none⟩ = some (.int .i64 a0_1) := (bC BK155.out 1).trans rfl
     have hcz95_2 : wc.cell? ⟨gb155, 2, none⟩ = some (.string a0_2) := (bC BK155.out 2).trans rfl
     have hcz95_3 : wc.cell? ⟨gb155, 3, none⟩ = some (.string a0_3) := (bC BK155.out 3).trans rfl
     have hcz95_4 : wc.cell? ⟨gb155, 4, none⟩ = some (.string a0_4) := (bC BK155.out 4).trans rfl
     have hcz95_5 : wc.cell? ⟨gb155, 5, none⟩ = some (.int .u64 a0_5) := (bC BK155.out 5).trans rfl
     have hfz95_0 := bF BK155.out 0
     have hfz95_1 := bF BK155.out 1
     have hfz95_2 := bF BK155.out 2
     have hfz95_3 := bF BK155.out 3
     have hfz95_4 := bF BK155.out 4
     have hfz95_5 := bF BK155.out 5
     have hcz96_0 : wc.cell? ⟨gb156, 0, none⟩ = some (.string a1_0) := (bC BK156.out 0).trans rfl
     have hcz96_1 : wc.cell? ⟨gb156, 1, none⟩ = some (.string a1_1) := (bC BK156.out 1).trans rfl
     have hfz96_0 := bF BK156.out 0
     have hfz96_1 := bF BK156.out 1
     go_wp2_with (first | ((with_reducible refine gate_callee (f := 19) rfl ?_); refine goesL_ (some 21) rfl rfl Try.func19 (by kernel_rfl) rfl #[.agg #[.int .u8 a0_0, .int .i64 a0_1, .string a0_2, .string a0_3, .string a0_4, .int .u64 a0_5], .agg #[.string a1_0, .string a1_1]] rfl (by (try simp only [mA1, mA2, mA3]); first | done | rfl | (simp only [mA5, mA4]; rfl)) ?_; (with_reducible refine (msg_Clip.calls kj2 a0_0 a0_1 a0_2 a0_3 a0_4 a0_5 a1_0 a1_1 t157 t158 t159 t160 t161 t162 false _ A12.out).mono ?_); rintro e w97 ⟨rfl, hb⟩; refine ⟨_, rfl, ?_⟩; have n0_ := Aside0.mk (bB (g := gb155) (o := .cells #[.int .u8 a0_0, .int .i64 a0_1, .string a0_2, .string a0_3, .string a0_4, .int .u64 a0_5] 25 (0, 0)) (by (with_reducible repeat (first | refine bN ?_ _ | refine bD ?_ | refine bA ?_ _)); exact BK155.out) hb); have n1_ := Aside0.mk (bB (g := gb156) (o := .cells #[.string a1_0, .string a1_1] 31 (0, 0)) (by (with_reducible repeat (first | refine bN ?_ _ | refine bD ?_ | refine bA ?_ _)); exact BK156.out) hb); have n2_ := Aside0.mk (wT (by repeat (first | (with_reducible first | exact HB.out | apply wA | apply wN | apply w1 | refine wS ?_ GE155.out | refine wS ?_ GE156.out) | exact HB.out)) hb); clear BK155; clear BK156; clear HB; have BK155 := n0_; have BK156 := n1_; have HB := n2_; clear n0_ n1_ n2_; (try clear hb); (try clear hb2); (try clear hk); (try clear hi)) | ((with_reducible refine gate_dst (N := 5) rfl ?_); refine box_event ?hg (N := 5) ?hd (cs := #[.int .u8 0, .int .i64 0, .string (⟨#[]⟩ : BA), .string (⟨#[]⟩ : BA), .string (⟨#[]⟩ : BA), .int .u64 0]) (t := 25) ?hr ?_; (case hd => rfl); (case hg => rfl); (case hr => first | (go_simp; done) | (go_simp; rfl)); intro gb164 hg w98 hbox hb; have n0_ := Aside0.mk (bB (g := gb155) (o := .cells #[.int .u8 a0_0, .int .i64 a0_1, .string a0_2, .string a0_3, .string a0_4, .int .u64 a0_5] 25 (0, 0)) (by (with_reducible repeat (first | refine bN ?_ _ | refine bD ?_ | refine bA ?_ _)); exact BK155.out) hb); have n1_ := Aside0.mk (bB (g := gb156) (o := .cells #[.string a1_0, .string a1_1] 31 (0, 0)) (by (with_reducible repeat (first | refine bN ?_ _ | refine bD ?_ | refine bA ?_ _)); exact BK156.out) hb); have n2_ := Aside0.mk (wT (by repeat (first | (with_reducible first | exact HB.out | apply wA | apply wN | apply w1 | refine wS ?_ GE155.out | refine wS ?_ GE156.out) | exact HB.out)) hb); have n3_ := Aside0.mk (hbox); have n4_ := Aside0.mk ((by rw [hg]; exact (wZ (by repeat (first | (with_reducible first | exact HB.out | apply wA | apply wN | apply w1 | refine wS ?_ GE155.out | refine wS ?_ GE156.out) | exact HB.out))) : w.heap.size ≤ gb164)); have n5_ := n4_; have n6_ := Aside0.mk ((by rw [hg]; exact Nat.ne_of_lt (blk_lt (g := gb155) (o := .cells #[.int .u8 a0_0, .int .i64 a0_1, .string a0_2, .string a0_3, .string a0_4, .int .u64 a0_5] 25 (0, 0)) (by (with_reducible repeat (first | refine bN ?_ _ | refine bD ?_ | refine bA ?_ _)); exact BK155.out)) : gb155 ≠ gb164)); have n7_ := Aside0.mk ((by rw [hg]; exact Nat.ne_of_gt (blk_lt (g := gb155) (o := .cells #[.int .u8 a0_0, .int .i64 a0_1, .string a0_2, .string a0_3, .string a0_4, .int .u64 a0_5] 25 (0, 0)) (by (with_reducible repeat (first | refine bN ?_ _ | refine bD ?_ | refine bA ?_ _)); exact BK155.out)) : gb164 ≠ gb155)); have n8_ := Aside0.mk ((by rw [hg]; exact Nat.ne_of_lt (blk_lt (g := gb156) (o := .cells #[.string a1_0, .string a1_1] 31 (0, 0)) (by (with_reducible repeat (first | refine bN ?_ _ | refine bD ?_ | refine bA ?_ _)); exact BK156.out)) : gb156 ≠ gb164)); have n9_ := Aside0.mk ((by rw [hg]; exact Nat.ne_of_gt (blk_lt (g := gb156) (o := .cells #[.string a1_0, .string a1_1] 31 (0, 0)) (by (with_reducible repeat (first | refine bN ?_ _ | refine bD ?_ | refine bA ?_ _)); exact BK156.out)) : gb164 ≠ gb156)); clear BK155; clear BK156; clear HB; have BK155 := n0_; have BK156 := n1_; have HB := n2_; have BK164 := n3_; have GW164 := n4_; have GE164 := n5_; have NB155_164 := n6_; have NB164_155 := n7_; have NB156_164 := n8_; have NB164_156 := n9_; clear n0_ n1_ n2_ n3_ n4_ n5_ n6_ n7_ n8_ n9_; clear hb hbox hg; have hnb99 := NB164_155.out; have hnc99 := NB155_164.out; have hnb100 := NB164_156.out; have hnc100 := NB156_164.out; have hcz101_0 : w98.cell? ⟨gb164, 0, none⟩ = some (.int .u8 0) := (bC BK164.out 0).trans rfl; have hcz101_1 : w98.cell? ⟨gb164, 1, none⟩ = some (.int .i64 0) := (bC BK164.out 1).trans rfl; have hcz101_2 : w98.cell? ⟨gb164, 2, none⟩ = some (.string (⟨#[]⟩ : BA)) := (bC BK164.out 2).trans rfl; have hcz101_3 : w98.cell? ⟨gb164, 3, none⟩ = some (.string (⟨#[]⟩ : BA)) := (bC BK164.out 3).trans rfl; have hcz101_4 : w98.cell? ⟨gb164, 4, none⟩ = some (.string (⟨#[]⟩ : BA)) := (bC BK164.out 4).trans rfl; have hcz101_5 : w98.cell? ⟨gb164, 5, none⟩ = some (.int .u64 0) := (bC BK164.out 5).trans rfl; have hfz101_0 := bF BK164.out 0; have hfz101_1 := bF BK164.out 1; have hfz101_2 := bF BK164.out 2; have hfz101_3 := bF BK164.out 3; have hfz101_4 := bF BK164.out 4; have hfz101_5 := bF BK164.out 5; have hcz102_0 : w98.cell? ⟨gb155, 0, none⟩ = some (.int .u8 a0_0) := (bC BK155.out 0).trans rfl; have hcz102_1 : w98.cell? ⟨gb155, 1, none⟩ = some (.int .i64 a0_1) := (bC BK155.out 1).trans rfl; have hcz102_2 : w98.cell? ⟨gb155, 2, none⟩ = some (.string a0_2) := (bC BK155.out 2).trans rfl; have hcz102_3 : w98.cell? ⟨gb155, 3, none⟩ = some (.string a0_3) := (bC BK155.out 3).trans rfl; have hcz102_4 : w98.cell? ⟨gb155, 4, none⟩ = some (.string a0_4) := (bC BK155.out 4).trans rfl; have hcz102_5 : w98.cell? ⟨gb155, 5, none⟩ = some (.int .u64 a0_5) := (bC BK155.out 5).trans rfl; have hfz102_0 := bF BK155.out 0; have hfz102_1 := bF BK155.out 1; have hfz102_2 := bF BK155.out 2; have hfz102_3 := bF BK155.out 3; have hfz102_4 := bF BK155.out 4; have hfz102_5 := bF BK155.out 5) | ((with_reducible refine gate_dst (N := 27) rfl ?_); refine Kd.R_lit k25 _ 25 ?hg (N := 27) ?hd (xs := ([(⟨a0_0, a0_1, a0_2, a0_3, a0_4, a0_5⟩ : S25)] : List (S25))) (inner := [.int .u8 a0_0, .int .i64 a0_1, .string a0_2, .string a0_3, .string a0_4, .int .u64 a0_5]) (ok := fun _ => True) (okp := fun _ => True) ?hr ?hp (fun _ hk => hk) trivial (Below.refl _ _) (Nat.le_refl _) (by simp) ?_; (case hd => rfl); (case hg => rfl); (case hr => first | (go_simp; done) | (go_simp; rfl)); (case hp => exact (Reps.c6 (show Kd.M k25 _ _ _ (⟨a0_0, a0_1, a0_2, a0_3, a0_4, a0_5⟩ : S25) [.int .u8 a0_0, .int .i64 a0_1, .string a0_2, .string a0_3, .string a0_4, .int .u64 a0_5] from (k25_mkM _ _ _ (⟨a0_0, a0_1, a0_2, a0_3, a0_4, a0_5⟩ : S25) )) (Reps.none _ _))); intro v166 w103 ho104 hb hg_ hnew_; clear hg_ hnew_; (first | rw [← Ny165.out] at ho104 | (simp only [Int.reduceToNat] at ho104; rw [← Ny165.out] at ho104)); have n0_ := Aside0.mk (Kd.R_lower (Kd.R_newB (Kd.R_newB ho104 (g := gb155) (o := .cells #[.int .u8 a0_0, .int .i64 a0_1, .string a0_2, .string a0_3, .string a0_4, .int .u64 a0_5] 25 (0, 0)) (by (with_reducible repeat (first | refine bN ?_ _ | refine bD ?_ | refine bA ?_ _)); refine bR ?_ NB155_164.out _; (with_reducible repeat (first | refine bN ?_ _ | refine bD ?_ | refine bA ?_ _)); refine bR ?_ NB155_164.out _; (with_reducible repeat (first | refine bN ?_ _ | refine bD ?_ | refine bA ?_ _)); refine bR ?_ NB155_164.out _; (with_reducible repeat (first | refine bN ?_ _ | refine bD ?_ | refine bA ?_ _)); refine bR ?_ NB155_164.out _; (with_reducible repeat (first | refine bN ?_ _ | refine bD ?_ | refine bA ?_ _)); refine bR ?_ NB155_164.out _; (with_reducible repeat (first | refine bN ?_ _ | refine bD ?_ | refine bA ?_ _)); refine bR ?_ NB155_164.out _; (with_reducible repeat (first | refine bN ?_ _ | refine bD ?_ | refine bA ?_ _)); exact BK155.out)) (g := gb164) (o := .cells #[.int .u8 t157, .int .i64 t158, .string t159, .string t160, .string t161, .int .u64 t162] 25 (0, 0)) (by (with_reducible repeat (first | refine bN ?_ _ | refine bD ?_ | refine bA ?_ _)); refine bP (cs := #[.int .u8 t157, .int .i64 t158, .string t159, .string t160, .string t161, .int .u64 0]) ?_ 5 _ rfl; (with_reducible repeat (first | refine bN ?_ _ | refine bD ?_ | refine bA ?_ _)); refine bP (cs := #[.int .u8 t157, .int .i64 t158, .string t159, .string t160, .string (⟨#[]⟩ : BA), .int .u64 0]) ?_ 4 _ rfl; (with_reducible repeat (first | refine bN ?_ _ | refine bD ?_ | refine bA ?_ _)); refine bP (cs := #[.int .u8 t157, .int .i64 t158, .string t159, .string (⟨#[]⟩ : BA), .string (⟨#[]⟩ : BA), .int .u64 0]) ?_ 3 _ rfl; (with_reducible repeat (first | refine bN ?_ _ | refine bD ?_ | refine bA ?_ _)); refine bP (cs := #[.int .u8 t157, .int .i64 t158, .string (⟨#[]⟩ : BA), .string (⟨#[]⟩ : BA), .string (⟨#[]⟩ : BA), .int .u64 0]) ?_ 2 _ rfl; (with_reducible repeat (first | refine bN ?_ _ | refine bD ?_ | refine bA ?_ _)); refine bP (cs := #[.int .u8 t157, .int .i64 0, .string (⟨#[]⟩ : BA), .string (⟨#[]⟩ : BA), .string (⟨#[]⟩ : BA), .int .u64 0]) ?_ 1 _ rfl; (with_reducible repeat (first | refine bN ?_ _ | refine bD ?_ | refine bA ?_ _)); refine bP (cs := #[.int .u8 0, .int .i64 0, .string (⟨#[]⟩ : BA), .string (⟨#[]⟩ : BA), .string (⟨#[]⟩ : BA), .int .u64 0]) ?_ 0 _ rfl; (with_reducible repeat (first | refine bN ?_ _ | refine bD ?_ | refine bA ?_ _)); exact BK164.out)) (wZ (by repeat (first | (with_reducible first | exact HB.out | apply wA | apply wN | apply w1 | refine wS ?_ GE155.out | refine wS ?_ GE156.out | refine wS ?_ GE164.out) | exact HB.out)))); have n1_ := Aside0.mk (bB (g := gb155) (o := .cells #[.int .u8 a0_0, .int .i64 a0_1, .string a0_2, .string a0_3, .string a0_4, .int .u64 a0_5] 25 (0, 0)) (by (with_reducible repeat (first | refine bN ?_ _ | refine bD ?_ | refine bA ?_ _)); refine bR ?_ NB155_164.out _; (with_reducible repeat (first | refine bN ?_ _ | refine bD ?_ | refine bA ?_ _)); refine bR ?_ NB155_164.out _; (with_reducible repeat (first | refine bN ?_ _ | refine bD ?_ | refine bA ?_ _)); refine bR ?_ NB155_164.out _; (with_reducible repeat (first | refine bN ?_ _ | refine bD ?_ | refine bA ?_ _)); refine bR ?_ NB155_164.out _; (with_reducible repeat (first | refine bN ?_ _ | refine bD ?_ | refine bA ?_ _)); refine bR ?_ NB155_164.out _; (with_reducible repeat (first | refine bN ?_ _ | refine bD ?_ | refine bA ?_ _)); refine bR ?_ NB155_164.out _; (with_reducible repeat (first | refine bN ?_ _ | refine bD ?_ | refine bA ?_ _)); exact BK155.out) hb); have n2_ := Aside0.mk (bB (g := gb156) (o := .cells #[.string a1_0, .string a1_1] 31 (0, 0)) (by (with_reducible repeat (first | refine bN ?_ _ | refine bD ?_ | refine bA ?_ _)); refine bR ?_ NB156_164.out _; (with_reducible repeat (first | refine bN ?_ _ | refine bD ?_ | refine bA ?_ _)); refine bR ?_ NB156_164.out _; (with_reducible repeat (first | refine bN ?_ _ | refine bD ?_ | refine bA ?_ _)); refine bR ?_ NB156_164.out _; (with_reducible repeat (first | refine bN ?_ _ | refine bD ?_ | refine bA ?_ _)); refine bR ?_ NB156_164.out _; (with_reducible repeat (first | refine bN ?_ _ | refine bD ?_ | refine bA ?_ _)); refine bR ?_ NB156_164.out _; (with_reducible repeat (first | refine bN ?_ _ | refine bD ?_ | refine bA ?_ _)); refine bR ?_ NB156_164.out _; (with_reducible repeat (first | refine bN ?_ _ | refine bD ?_ | refine bA ?_ _)); exact BK156.out) hb); have n3_ := Aside0.mk (bB (g := gb164) (o := .cells #[.int .u8 t157, .int .i64 t158, .string t159, .string t160, .string t161, .int .u64 t162] 25 (0, 0)) (by (with_reducible repeat (first | refine bN ?_ _ | refine bD ?_ | refine bA ?_ _)); refine bP (cs := #[.int .u8 t157, .int .i64 t158, .string t159, .string t160, .string t161, .int .u64 0]) ?_ 5 _ rfl; (with_reducible repeat (first | refine bN ?_ _ | refine bD ?_ | refine bA ?_ _)); refine bP (cs := #[.int .u8 t157, .int .i64 t158, .string t159, .string t160, .string (⟨#[]⟩ : BA), .int .u64 0]) ?_ 4 _ rfl; (with_reducible repeat (first | refine bN ?_ _ | refine bD ?_ | refine bA ?_ _)); refine bP (cs := #[.int .u8 t157, .int .i64 t158, .string t159, .string (⟨#[]⟩ : BA), .string (⟨#[]⟩ : BA), .int .u64 0]) ?_ 3 _ rfl; (with_reducible repeat (first | refine bN ?_ _ | refine bD ?_ | refine bA ?_ _)); refine bP (cs := #[.int .u8 t157, .int .i64 t158, .string (⟨#[]⟩ : BA), .string (⟨#[]⟩ : BA), .string (⟨#[]⟩ : BA), .int .u64 0]) ?_ 2 _ rfl; (with_reducible repeat (first | refine bN ?_ _ | refine bD ?_ | refine bA ?_ _)); refine bP (cs := #[.int .u8 t157, .int .i64 0, .string (⟨#[]⟩ : BA), .string (⟨#[]⟩ : BA), .string (⟨#[]⟩ : BA), .int .u64 0]) ?_ 1 _ rfl; (with_reducible repeat (first | refine bN ?_ _ | refine bD ?_ | refine bA ?_ _)); refine bP (cs := #[.int .u8 0, .int .i64 0, .string (⟨#[]⟩ : BA), .string (⟨#[]⟩ : BA), .string (⟨#[]⟩ : BA), .int .u64 0]) ?_ 0 _ rfl; (with_reducible repeat (first | refine bN ?_ _ | refine bD ?_ | refine bA ?_ _)); exact BK164.out) hb); have n4_ := Aside0.mk (wT (by repeat (first | (with_reducible first | exact HB.out | apply wA | apply wN | apply w1 | refine wS ?_ GE155.out | refine wS ?_ GE156.out | refine wS ?_ GE164.out) | exact HB.out)) hb); clear BK155; clear BK156; clear BK164; clear HB; have HO167 := n0_; have BK155 := n1_; have BK156 := n2_; have BK164 := n3_; have HB := n4_; clear n0_ n1_ n2_ n3_ n4_; clear hb ho104))
     go_ret
     exact ⟨_, by first | rfl | (simp [errW_none, errW_some] <;> rfl) | (simp [*, errW_none, errW_some] <;> rfl), by (with_reducible repeat (first | apply Kd.R_alloc | apply Kd.R_drewN | apply Kd.R_drew)); exact Kd.R_mono HO167.out (fun _ hk => trivial), by repeat (first | (with_reducible first | exact HB.out | apply wA | apply wN | apply w1 | refine wS ?_ GE155.out | refine wS ?_ GE156.out | refine wS ?_ GE164.out) | exact HB.out)⟩
end Go.Proofs.Ytgbikacioojpjaa.P
end
