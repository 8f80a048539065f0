-- Laid for this claim by a program of this seat's own (wip/tools/pp.py) out of the translation's print. Lean checks it.
import Derived.Test.YtgbikacioojpjaaP0
import Derived.Test.YtgbikacioojpjaaP4
import Derived.Test.YtgbikacioojpjaaP6
namespace Go.Proofs.Ytgbikacioojpjaa.P
open Go.RowKit Go.Proofs.YtgbikacioojpjaaW.PrintWords Go.Proofs.YtgbikacioojpjaaW.PrintLast Go.Proofs.YtgbikacioojpjaaW.PrintMore Go.Proofs.Ytgbikacioojpjaa.Own
open Go.Proofs.YtgbikacioojpjaaW.PrintWords renaming blk_cell → bC, blk_frozen → bF, blk_drewN → bN, blk_alloc → bA, pw_below_drewN → wN, blk_drew → bD, below_drew1 → w1, below_set → wS, below_alloc → wA, blk_below → bB, below_step → wT, below_size → wZ, cell_far → cF, blk_far → bR, blk_put → bP
open List renaming setIfInBounds_toArray → sA1, set_cons_zero → sA2, set_cons_succ → sA3, map_toArray → mA1, map_cons → mA2, map_nil → mA3, length_take → mA4, length_drop → mA5
attribute [local go_sem] max2_str max2_int min2_int max_two min_two max_three min_three max_four min_four   -- for this text's walks alone
set_option linter.unusedVariables false
set_option linter.unusedSimpArgs false

/-! ### msg_Rest: function 22 -/
mutual
def msg_Rest.j0 : Nat → Bool → Int → Int → ByteArray → ByteArray → ByteArray → Int → ByteArray → ByteArray → Option ((List (S25)))
 | 0, _, _, _, _, _, _, _, _, _ => none
 | k + 1, x17, x173000, x173001, x173002, x173003, x173004, x173005, x174000, x174001 => if x17 = true then (some ([] : List (S25))) else ((msg_Clip.f k x173000 x173001 x173002 x173003 x173004 x173005 x174000 x174001).bind fun bt174 => (if bt174.2.2.2.2.2.2 = true then (if x173000 = 4 then (if (Op.bytesLess x173002.toList bt174.2.2.1.toList) = true then (if ([] : List (S25)).length < 1954687338268 then (msg_Rest.j1 k (([] : List (S25)) ++ [(⟨x173000, x173001, x173002, bt174.2.2.1, x173004, x173005⟩ : S25)]) x173000 x173001 x173002 x173003 x173004 x173005 bt174.1 bt174.2.1 bt174.2.2.1 bt174.2.2.2.1 bt174.2.2.2.2.1 bt174.2.2.2.2.2.1 x173000 x173001 bt174.2.2.2.1 x173003 x173004 x173005) else (none)) else (msg_Rest.j1 k ([] : List (S25)) x173000 x173001 x173002 x173003 x173004 x173005 bt174.1 bt174.2.1 bt174.2.2.1 bt174.2.2.2.1 bt174.2.2.2.2.1 bt174.2.2.2.2.2.1 x173000 x173001 bt174.2.2.2.1 x173003 x173004 x173005)) else (some ([] : List (S25)))) else (some (([(⟨x173000, x173001, x173002, x173003, x173004, x173005⟩ : S25)] : List (S25))))))
def msg_Rest.j1 : Nat → List (S25) → Int → Int → ByteArray → ByteArray → ByteArray → Int → Int → Int → ByteArray → ByteArray → ByteArray → Int → Int → Int → ByteArray → ByteArray → ByteArray → Int → Option ((List (S25)))
 | 0, _, _, _, _, _, _, _, _, _, _, _, _, _, _, _, _, _, _, _ => none
 | k + 1, x7, x173000, x173001, x173002, x173003, x173004, x173005, x182000, x182001, x182002, x182003, x182004, x182005, x187000, x187001, x187002, x187003, x187004, x187005 => (key_Before.f x182003 x173003).bind fun t190 => (if t190 = true then (if x7.length < 1954687338268 then (some (x7 ++ [(⟨x187000, x187001, x187002, x187003, x187004, x187005⟩ : S25)])) else (none)) else (some x7))
end
def msg_Rest.f (k : Nat) (a0_0 : Int) (a0_1 : Int) (a0_2 : BA) (a0_3 : BA) (a0_4 : BA) (a0_5 : Int) (a1_0 : BA) (a1_1 : BA) : Option ((List (S25))) := if a0_0 < 1 then (msg_Rest.j0 k true a0_0 a0_1 a0_2 a0_3 a0_4 a0_5 a1_0 a1_1) else (msg_Rest.j0 k (decide (a0_0 > 4)) a0_0 a0_1 a0_2 a0_3 a0_4 a0_5 a1_0 a1_1)
def msg_Rest.T9 : Bool × List (List Nat × List Nat) := (true, [([], []), ([0], [0]), ([], []), ([2], [2]), ([0, 1], []), ([4, 1, 0, 1], [1, 4]), ([0, 1, 2, 3, 4, 5], []), ([6, 3, 5, 0, 1, 2, 3, 4, 5], [3, 6])])
def msg_Rest.B9 : List Nat := [0, 1, 0, 4, 3, 19, 63, 127]
theorem msg_Rest.tab9 : rtab .any (opsOf Try.f22 9) = msg_Rest.T9 := by kernel_rfl
theorem msg_Rest.bits9 : waitsOk msg_Rest.T9.2 msg_Rest.B9 = true := by kernel_rfl
set_option maxHeartbeats 8000000 in
set_option maxRecDepth 100000 in
theorem msg_Rest.calls (k : Nat) (a0_0 : Int) (a0_1 : Int) (a0_2 : BA) (a0_3 : BA) (a0_4 : BA) (a0_5 : Int) (a1_0 : BA) (a1_1 : BA) (r : List (S25)) (w : World) (h : msg_Rest.f k a0_0 a0_1 a0_2 a0_3 a0_4 a0_5 a1_0 a1_1 = some r) :
  Calls Try.prog 22 #[.agg #[.int .u8 a0_0, .int .i64 a0_1, .string a0_2, .string a0_3, .string a0_4, .int .u64 a0_5], .agg #[.string a1_0, .string a1_1]] w fun e w' => ∃ v0_ : Value, e = .returned (v0_) ∧ Kd.R k25 25 w' w.heap.size (fun _ => True) v0_ r ∧ Below w.heap.size w w' := by
 have hu25 := Try.underlying25
 have hu31 := Try.underlying31
 have HB := Aside0.mk (Below.refl w.heap.size w)
 have H : (if a0_0 < 1 then (msg_Rest.j0 k true a0_0 a0_1 a0_2 a0_3 a0_4 a0_5 a1_0 a1_1) else (msg_Rest.j0 k (decide (a0_0 > 4)) a0_0 a0_1 a0_2 a0_3 a0_4 a0_5 a1_0 a1_1)) = some r := h
 clear h
 have HC3 := Aside0.mk H
 clear H
 go_enter Try.func22, Try.ntmps22
 go_upto_region 1 with (first | ((with_reducible refine gate_dst (N := 2) rfl ?_); refine box_event ?hg (N := 2) ?hd (cs := #[.int .u8 a0_0, .int .i64 a0_1, .string a0_2, .string a0_3, .string a0_4, .int .u64 a0_5]) (t := 25) ?hr ?_; (case hd => rfl); (case hg => rfl); (case hr => first | (go_simp; done) | (go_simp; rfl)); intro gb172 hg w4 hbox hb; have n0_ := Aside0.mk (wT (by repeat (first | (with_reducible first | exact HB.out | apply wA | apply wN | apply w1) | exact HB.out)) hb); have n1_ := Aside0.mk (hbox); have n2_ := Aside0.mk ((by rw [hg]; exact (wZ (by repeat (first | (with_reducible first | exact HB.out | apply wA | apply wN | apply w1) | exact HB.out))) : w.heap.size ≤ gb172)); have n3_ := Aside0.mk ((by rw [hg]; exact (wZ (by repeat (first | (with_reducible first | exact HB.out | apply wA | apply wN | apply w1) | exact HB.out))) : w.heap.size ≤ gb172)); clear HB; have HB := n0_; have BK172 := n1_; have GW172 := n2_; have GE172 := n3_; clear n0_ n1_ n2_ n3_; clear hb hbox hg) | ((with_reducible refine gate_dst (N := 3) rfl ?_); refine box_event ?hg (N := 3) ?hd (cs := #[.string a1_0, .string a1_1]) (t := 31) ?hr ?_; (case hd => rfl); (case hg => rfl); (case hr => first | (go_simp; done) | (go_simp; rfl)); intro gb173 hg w5 hbox hb; have n0_ := Aside0.mk (bB (g := gb172) (o := .cells #[.int .u8 a0_0, .int .i64 a0_1, .string a0_2, .string a0_3, .string a0_4, .int .u64 a0_5] 25 (0, 0)) (by (with_reducible repeat (first | refine bN ?_ _ | refine bD ?_ | refine bA ?_ _)); exact BK172.out) hb); have n1_ := Aside0.mk (wT (by repeat (first | (with_reducible first | exact HB.out | apply wA | apply wN | apply w1 | refine wS ?_ GE172.out) | exact HB.out)) hb); have n2_ := Aside0.mk (hbox); have n3_ := Aside0.mk ((by rw [hg]; exact (wZ (by repeat (first | (with_reducible first | exact HB.out | apply wA | apply wN | apply w1 | refine wS ?_ GE172.out) | exact HB.out))) : w.heap.size ≤ gb173)); have n4_ := Aside0.mk ((by rw [hg]; exact (wZ (by repeat (first | (with_reducible first | exact HB.out | apply wA | apply wN | apply w1 | refine wS ?_ GE172.out) | exact HB.out))) : w.heap.size ≤ gb173)); have n5_ := Aside0.mk ((by rw [hg]; exact Nat.ne_of_lt (blk_lt (g := gb172) (o := .cells #[.int .u8 a0_0, .int .i64 a0_1, .string a0_2, .string a0_3, .string a0_4, .int .u64 a0_5] 25 (0, 0)) (by (with_reducible repeat (first | refine bN ?_ _ | refine bD ?_ | refine bA ?_ _)); exact BK172.out)) : gb172 ≠ gb173)); have n6_ := Aside0.mk ((by rw [hg]; exact Nat.ne_of_gt (blk_lt (g := gb172) (o := .cells #[.int .u8 a0_0, .int .i64 a0_1, .string a0_2, .string a0_3, .string a0_4, .int .u64 a0_5] 25 (0, 0)) (by (with_reducible repeat (first | refine bN ?_ _ | refine bD ?_ | refine bA ?_ _)); exact BK172.out)) : gb173 ≠ gb172)); clear BK172; clear HB; have BK172 := n0_; have HB := n1_; have BK173 := n2_; have GW173 := n3_; have GE173 := n4_; have NB172_173 := n5_; have NB173_172 := n6_; clear n0_ n1_ n2_ n3_ n4_ n5_ n6_; clear hb hbox hg))
 (try simp only [Act.put, sA1, sA2, sA3])
 go_cut [17] (fun v17 wc => ∃ (kq : Nat) (x17_2 : Bool), v17 = .bool x17_2 ∧ Aside0 (msg_Rest.j0 kq x17_2 a0_0 a0_1 a0_2 a0_3 a0_4 a0_5 a1_0 a1_1 = some r) ∧ Aside0 (kq ≤ k) ∧ Aside0 (wc.heap[gb172]? = some (.cells #[.int .u8 a0_0, .int .i64 a0_1, .string a0_2, .string a0_3, .string a0_4, .int .u64 a0_5] 25 (0, 0))) ∧ Aside0 (wc.heap[gb173]? = some (.cells #[.string a1_0, .string a1_1] 31 (0, 0))) ∧ Aside0 (Below w.heap.size w wc))
 case first =>
  have H := HC3.out
  clear HC3
  by_cases c6 : a0_0 < 1
  ·rw [if_pos c6] at H
   have c6b0 : decide (a0_0 < 1) = true := decide_eq_true c6
   clear c6
   (first | rw [c6b0] | (simp only [i64_w, i32_w]; rw [c6b0]) | skip)
   have H' := Aside0.mk H
   clear H
   have hnb7 := NB172_173.out
   have hnc7 := NB173_172.out
   have hcz8_0 : w5.cell? ⟨gb172, 0, none⟩ = some (.int .u8 a0_0) := (bC BK172.out 0).trans rfl
   have hcz8_1 : w5.cell? ⟨gb172, 1, none⟩ = some (.int .i64 a0_1) := (bC BK172.out 1).trans rfl
   have hcz8_2 : w5.cell? ⟨gb172, 2, none⟩ = some (.string a0_2) := (bC BK172.out 2).trans rfl
   have hcz8_3 : w5.cell? ⟨gb172, 3, none⟩ = some (.string a0_3) := (bC BK172.out 3).trans rfl
   have hcz8_4 : w5.cell? ⟨gb172, 4, none⟩ = some (.string a0_4) := (bC BK172.out 4).trans rfl
   have hcz8_5 : w5.cell? ⟨gb172, 5, none⟩ = some (.int .u64 a0_5) := (bC BK172.out 5).trans rfl
   have hfz8_0 := bF BK172.out 0
   have hfz8_1 := bF BK172.out 1
   have hfz8_2 := bF BK172.out 2
   have hfz8_3 := bF BK172.out 3
   have hfz8_4 := bF BK172.out 4
   have hfz8_5 := bF BK172.out 5
   go_wp2
   go_meet
   case rel => exact ⟨_, (true), (by first | rfl | (simp; done) | (simp [*]; done)), H', ⟨by first | omega | exact Nat.le_refl _⟩, ⟨by (with_reducible repeat (first | refine bN ?_ _ | refine bD ?_ | refine bA ?_ _)); exact BK172.out⟩, ⟨by (with_reducible repeat (first | refine bN ?_ _ | refine bD ?_ | refine bA ?_ _)); exact BK173.out⟩, ⟨by repeat (first | (with_reducible first | exact HB.out | apply wA | apply wN | apply w1 | refine wS ?_ GE172.out | refine wS ?_ GE173.out) | exact HB.out)⟩⟩
  ·rw [if_neg c6] at H
   have c6b0 : decide (a0_0 < 1) = false := decide_eq_false c6
   clear c6
   (first | rw [c6b0] | (simp only [i64_w, i32_w]; rw [c6b0]) | skip)
   have H' := Aside0.mk H
   clear H
   have hnb9 := NB172_173.out
   have hnc9 := NB173_172.out
   have hcz10_0 : w5.cell? ⟨gb172, 0, none⟩ = some (.int .u8 a0_0) := (bC BK172.out 0).trans rfl
   have hcz10_1 : w5.cell? ⟨gb172, 1, none⟩ = some (.int .i64 a0_1) := (bC BK172.out 1).trans rfl
   have hcz10_2 : w5.cell? ⟨gb172, 2, none⟩ = some (.string a0_2) := (bC BK172.out 2).trans rfl
   have hcz10_3 : w5.cell? ⟨gb172, 3, none⟩ = some (.string a0_3) := (bC BK172.out 3).trans rfl
   have hcz10_4 : w5.cell? ⟨gb172, 4, none⟩ = some (.string a0_4) := (bC BK172.out 4).trans rfl
   have hcz10_5 : w5.cell? ⟨gb172, 5, none⟩ = some (.int .u64 a0_5) := (bC BK172.out 5).trans rfl
   have hfz10_0 := bF BK172.out 0
   have hfz10_1 := bF BK172.out 1
   have hfz10_2 := bF BK172.out 2
   have hfz10_3 := bF BK172.out 3
   have hfz10_4 := bF BK172.out 4
   have hfz10_5 := bF BK172.out 5
   go_wp2
   go_meet
   case rel => exact ⟨_, (decide (a0_0 > 4)), (by first | rfl | (simp; done) | (simp [*]; done)), H', ⟨by first | omega | exact Nat.le_refl _⟩, ⟨by (with_reducible repeat (first | refine bN ?_ _ | refine bD ?_ | refine bA ?_ _)); exact BK172.out⟩, ⟨by (with_reducible repeat (first | refine bN ?_ _ | refine bD ?_ | refine bA ?_ _)); exact BK173.out⟩, ⟨by repeat (first | (with_reducible first | exact HB.out | apply wA | apply wN | apply w1 | refine wS ?_ GE172.out | refine wS ?_ GE173.out) | exact HB.out)⟩⟩
 case rest =>
  clear HC3
  try clear c2
  try clear p2
  try clear c6
  try clear c6b0
  try clear c7
  try clear c9
  try clear hcz10_0
  try clear hcz10_1
  try clear hcz10_2
  try clear hcz10_3
  try clear hcz10_4
  try clear hcz10_5
  try clear hcz8_0
  try clear hcz8_1
  try clear hcz8_2
  try clear hcz8_3
  try clear hcz8_4
  try clear hcz8_5
  try clear hfz10_0
  try clear hfz10_1
  try clear hfz10_2
  try clear hfz10_3
  try clear hfz10_4
  try clear hfz10_5
  try clear hfz8_0
  try clear hfz8_1
  try clear hfz8_2
  try clear hfz8_3
  try clear hfz8_4
  try clear hfz8_5
  obtain ⟨kq, x17_2, rfl, HA, HJ2, BK172, BK173, HB⟩ := hcut
  cases kq with
  | zero => exact absurd HA.out (by simp [msg_Rest.j0])
  | succ kj2 =>
   have H := HA.out
   clear HA
   simp only [msg_Rest.j0] at H
   by_cases c11 : x17_2 = true
   ·subst c11
    have H1 : (some ([] : List (S25))) = some r := by rw [if_pos rfl] at H; exact H
    clear H
    have H := H1
    clear H1
    obtain rfl := Option.some.inj H
    go_wp2
    go_ret
    exact ⟨_, by first | rfl | (simp [errW_none, errW_some] <;> rfl) | (simp [*, errW_none, errW_some] <;> rfl), by first | exact Kd.R_nil _ _ _ _ _ | exact Kd.N_nil _ _ _ _ _ | exact Kd.V_nil _ _ _ _ _ | exact Kd.Q_nil _ _ _ _ _ | exact Kd.S_nil _ _ _ _ _, by repeat (first | (with_reducible first | exact HB.out | apply wA | apply wN | apply w1 | refine wS ?_ GE172.out | refine wS ?_ GE173.out) | exact HB.out)⟩
   ·replace c11 := Bool.eq_false_iff.mpr c11
    subst c11
    have H1 : ((msg_Clip.f kj2 a0_0 a0_1 a0_2 a0_3 a0_4 a0_5 a1_0 a1_1).bind fun bt174 => (if bt174.2.2.2.2.2.2 = true then (if a0_0 = 4 then (if (Op.bytesLess a0_2.toList bt174.2.2.1.toList) = true then (if ([] : List (S25)).length < 1954687338268 then (msg_Rest.j1 kj2 (([] : List (S25)) ++ [(⟨a0_0, a0_1, a0_2, bt174.2.2.1, a0_4, a0_5⟩ : S25)]) a0_0 a0_1 a0_2 a0_3 a0_4 a0_5 bt174.1 bt174.2.1 bt174.2.2.1 bt174.2.2.2.1 bt174.2.2.2.2.1 bt174.2.2.2.2.2.1 a0_0 a0_1 bt174.2.2.2.1 a0_3 a0_4 a0_5) else (none)) else (msg_Rest.j1 kj2 ([] : List (S25)) a0_0 a0_1 a0_2 a0_3 a0_4 a0_5 bt174.1 bt174.2.1 bt174.2.2.1 bt174.2.2.2.1 bt174.2.2.2.2.1 bt174.2.2.2.2.2.1 a0_0 a0_1 bt174.2.2.2.1 a0_3 a0_4 a0_5)) else (some ([] : List (S25)))) else (some (([(⟨a0_0, a0_1, a0_2, a0_3, a0_4, a0_5⟩ : S25)] : List (S25)))))) = some r := by rw [if_neg (show ¬ (false = true) by decide)] at H; exact H
    clear H
    have H := H1
    clear H1
    replace H := Option.bind_eq_some_iff.mp H
    obtain ⟨⟨t174, t175, t176, t177, t178, t179, t180⟩, A120, H⟩ := H
    replace H : (if t180 = true then (if a0_0 = 4 then (if (Op.bytesLess a0_2.toList t176.toList) = true then (if ([] : List (S25)).length < 1954687338268 then (msg_Rest.j1 kj2 (([] : List (S25)) ++ [(⟨a0_0, a0_1, a0_2, t176, a0_4, a0_5⟩ : S25)]) a0_0 a0_1 a0_2 a0_3 a0_4 a0_5 t174 t175 t176 t177 t178 t179 a0_0 a0_1 t177 a0_3 a0_4 a0_5) else (none)) else (msg_Rest.j1 kj2 ([] : List (S25)) a0_0 a0_1 a0_2 a0_3 a0_4 a0_5 t174 t175 t176 t177 t178 t179 a0_0 a0_1 t177 a0_3 a0_4 a0_5)) else (some ([] : List (S25)))) else (some (([(⟨a0_0, a0_1, a0_2, a0_3, a0_4, a0_5⟩ : S25)] : List (S25))))) = some r := H
    have A12 := Aside0.mk A120
    clear A120
    by_cases c13 : t180 = true
    ·subst c13
     have H1 : (if a0_0 = 4 then (if (Op.bytesLess a0_2.toList t176.toList) = true then (if ([] : List (S25)).length < 1954687338268 then (msg_Rest.j1 kj2 (([] : List (S25)) ++ [(⟨a0_0, a0_1, a0_2, t176, a0_4, a0_5⟩ : S25)]) a0_0 a0_1 a0_2 a0_3 a0_4 a0_5 t174 t175 t176 t177 t178 t179 a0_0 a0_1 t177 a0_3 a0_4 a0_5) else (none)) else (msg_Rest.j1 kj2 ([] : List (S25)) a0_0 a0_1 a0_2 a0_3 a0_4 a0_5 t174 t175 t176 t177 t178 t179 a0_0 a0_1 t177 a0_3 a0_4 a0_5)) else (some ([] : List (S25)))) = some r := by rw [if_pos rfl] at H; exact H
     clear H
     have H := H1
     clear H1
     by_cases c14 : a0_0 = 4
     ·rw [if_pos c14] at H
      have c14b0 : (a0_0 == 4) = true := beq_iff_eq.mpr c14
      have c14b1 : (a0_0 != 4) = false := bne_eq_false_iff_eq.mpr c14
      clear c14
      have HC15 := Aside0.mk H
      clear H
      have hnb16 := NB172_173.out
      have hnc16 := NB173_172.out
      have hcz17_0 : wc.cell? ⟨gb172, 0, none⟩ = some (.int .u8 a0_0) := (bC BK172.out 0).trans rfl
      have hcz17_1 : wc.cell? ⟨gb172, 1, none⟩ = some (.int .i64 a0_1) := (bC BK172.out 1).trans rfl
      have hcz17_2 : wc.cell? ⟨gb172, 2, none⟩ = some (.string a0_2) := (bC BK172.out 2).trans rfl
      have hcz17_3 : wc.cell? ⟨gb172, 3, none⟩ = some (.string a0_3) := (bC BK172.out 3).trans rfl
      have hcz17_4 : wc.cell? ⟨gb172, 4, none⟩ = some (.string a0_4) := (bC BK172.out 4).trans rfl
      have hcz17_5 : wc.cell? ⟨gb172, 5, none⟩ = some (.int .u64 a0_5) := (bC BK172.out 5).trans rfl
      have hfz17_0 := bF BK172.out 0
      have hfz17_1 := bF BK172.out 1
      have hfz17_2 := bF BK172.out 2
      have hfz17_3 := bF BK172.out 3
      have hfz17_4 := bF BK172.out 4
      have hfz17_5 := bF BK172.out 5
      have hcz18_0 : wc.cell? ⟨gb173, 0, none⟩ = some (.string a1_0) := (bC BK173.out 0).trans rfl
      have hcz18_1 : wc.cell? ⟨gb173, 1, none⟩ = some (.string a1_1) := (bC BK173.out 1).trans rfl
      have hfz18_0 := bF BK173.out 0
      have hfz18_1 := bF BK173.out 1
      try go_wp2_with (first | ((with_reducible refine gate_callee (f := 19) rfl ?_); refine goesL_ (some 21) rfl rfl Try.func19 (by kernel_rfl) rfl #[.agg #[.int .u8 a0_0, .int .i64 a0_1, .string a0_2, .string a0_3, .string a0_4, .int .u64 a0_5], .agg #[.string a1_0, .string a1_1]] rfl (by (try simp only [mA1, mA2, mA3]); first | done | rfl | (simp only [mA5, mA4]; rfl)) ?_; (with_reducible refine (msg_Clip.calls kj2 a0_0 a0_1 a0_2 a0_3 a0_4 a0_5 a1_0 a1_1 t174 t175 t176 t177 t178 t179 true _ A12.out).mono ?_); rintro e w19 ⟨rfl, hb⟩; refine ⟨_, rfl, ?_⟩; have n0_ := Aside0.mk (bB (g := gb172) (o := .cells #[.int .u8 a0_0, .int .i64 a0_1, .string a0_2, .string a0_3, .string a0_4, .int .u64 a0_5] 25 (0, 0)) (by (with_reducible repeat (first | refine bN ?_ _ | refine bD ?_ | refine bA ?_ _)); exact BK172.out) hb); have n1_ := Aside0.mk (bB (g := gb173) (o := .cells #[.string a1_0, .string a1_1] 31 (0, 0)) (by (with_reducible repeat (first | refine bN ?_ _ | refine bD ?_ | refine bA ?_ _)); exact BK173.out) hb); have n2_ := Aside0.mk (wT (by repeat (first | (with_reducible first | exact HB.out | apply wA | apply wN | apply w1 | refine wS ?_ GE172.out | refine wS ?_ GE173.out) | exact HB.out)) hb); clear BK172; clear BK173; clear HB; have BK172 := n0_; have BK173 := n1_; have HB := n2_; clear n0_ n1_ n2_; (try clear hb); (try clear hb2); (try clear hk); (try clear hi)) | ((with_reducible refine gate_dst (N := 5) rfl ?_); refine box_event ?hg (N := 5) ?hd (cs := #[.int .u8 0, .int .i64 0, .string (⟨#[]⟩ : BA), .string (⟨#[]⟩ : BA), .string (⟨#[]⟩ : BA), .int .u64 0]) (t := 25) ?hr ?_; (case hd => rfl); (case hg => rfl); (case hr => first | (go_simp; done) | (go_simp; rfl)); intro gb181 hg w20 hbox hb; have n0_ := Aside0.mk (bB (g := gb172) (o := .cells #[.int .u8 a0_0, .int .i64 a0_1, .string a0_2, .string a0_3, .string a0_4, .int .u64 a0_5] 25 (0, 0)) (by (with_reducible repeat (first | refine bN ?_ _ | refine bD ?_ | refine bA ?_ _)); exact BK172.out) hb); have n1_ := Aside0.mk (bB (g := gb173) (o := .cells #[.string a1_0, .string a1_1] 31 (0, 0)) (by (with_reducible repeat (first | refine bN ?_ _ | refine bD ?_ | refine bA ?_ _)); exact BK173.out) hb); have n2_ := Aside0.mk (wT (by repeat (first | (with_reducible first | exact HB.out | apply wA | apply wN | apply w1 | refine wS ?_ GE172.out | refine wS ?_ GE173.out) | exact HB.out)) hb); have n3_ := Aside0.mk (hbox); have n4_ := Aside0.mk ((by rw [hg]; exact (wZ (by repeat (first | (with_reducible first | exact HB.out | apply wA | apply wN | apply w1 | refine wS ?_ GE172.out | refine wS ?_ GE173.out) | exact HB.out))) : w.heap.size ≤ gb181)); have n5_ := Aside0.mk ((by rw [hg]; exact (wZ (by repeat (first | (with_reducible first | exact HB.out | apply wA | apply wN | apply w1 | refine wS ?_ GE172.out | refine wS ?_ GE173.out) | exact HB.out))) : w.heap.size ≤ gb181)); have n6_ := Aside0.mk ((by rw [hg]; exact Nat.ne_of_lt (blk_lt (g := gb172) (o := .cells #[.int .u8 a0_0, .int .i64 a0_1, .string a0_2, .string a0_3, .string a0_4, .int .u64 a0_5] 25 (0, 0)) (by (with_reducible repeat (first | refine bN ?_ _ | refine bD ?_ | refine bA ?_ _)); exact BK172.out)) : gb172 ≠ gb181)); have n7_ := Aside0.mk ((by rw [hg]; exact Nat.ne_of_gt (blk_lt (g := gb172) (o := .cells #[.int .u8 a0_0, .int .i64 a0_1, .string a0_2, .string a0_3, .string a0_4, .int .u64 a0_5] 25 (0, 0)) (by (with_reducible repeat (first | refine bN ?_ _ | refine bD ?_ | refine bA ?_ _)); exact BK172.out)) : gb181 ≠ gb172)); have n8_ := Aside0.mk ((by rw [hg]; exact Nat.ne_of_lt (blk_lt (g := gb173) (o := .cells #[.string a1_0, .string a1_1] 31 (0, 0)) (by (with_reducible repeat (first | refine bN ?_ _ | refine bD ?_ | refine bA ?_ _)); exact BK173.out)) : gb173 ≠ gb181)); have n9_ := Aside0.mk ((by rw [hg]; exact Nat.ne_of_gt (blk_lt (g := gb173) (o := .cells #[.string a1_0, .string a1_1] 31 (0, 0)) (by (with_reducible repeat (first | refine bN ?_ _ | refine bD ?_ | refine bA ?_ _)); exact BK173.out)) : gb181 ≠ gb173)); clear BK172; clear BK173; clear HB; have BK172 := n0_; have BK173 := n1_; have HB := n2_; have BK181 := n3_; have GW181 := n4_; have GE181 := n5_; have NB172_181 := n6_; have NB181_172 := n7_; have NB173_181 := n8_; have NB181_173 := n9_; clear n0_ n1_ n2_ n3_ n4_ n5_ n6_ n7_ n8_ n9_; clear hb hbox hg; have hnb21 := NB181_172.out; have hnc21 := NB172_181.out; have hnb22 := NB181_173.out; have hnc22 := NB173_181.out; have hcz23_0 : w20.cell? ⟨gb181, 0, none⟩ = some (.int .u8 0) := (bC BK181.out 0).trans rfl; have hcz23_1 : w20.cell? ⟨gb181, 1, none⟩ = some (.int .i64 0) := (bC BK181.out 1).trans rfl; have hcz23_2 : w20.cell? ⟨gb181, 2, none⟩ = some (.string (⟨#[]⟩ : BA)) := (bC BK181.out 2).trans rfl; have hcz23_3 : w20.cell? ⟨gb181, 3, none⟩ = some (.string (⟨#[]⟩ : BA)) := (bC BK181.out 3).trans rfl; have hcz23_4 : w20.cell? ⟨gb181, 4, none⟩ = some (.string (⟨#[]⟩ : BA)) := (bC BK181.out 4).trans rfl; have hcz23_5 : w20.cell? ⟨gb181, 5, none⟩ = some (.int .u64 0) := (bC BK181.out 5).trans rfl; have hfz23_0 := bF BK181.out 0; have hfz23_1 := bF BK181.out 1; have hfz23_2 := bF BK181.out 2; have hfz23_3 := bF BK181.out 3; have hfz23_4 := bF BK181.out 4; have hfz23_5 := bF BK181.out 5; have hcz24_0 : w20.cell? ⟨gb172, 0, none⟩ = some (.int .u8 a0_0) := (bC BK172.out 0).trans rfl; have hcz24_1 : w20.cell? ⟨gb172, 1, none⟩ = some (.int .i64 a0_1) := (bC BK172.out 1).trans rfl; have hcz24_2 : w20.cell? ⟨gb172, 2, none⟩ = some (.string a0_2) := (bC BK172.out 2).trans rfl; have hcz24_3 : w20.cell? ⟨gb172, 3, none⟩ = some (.string a0_3) := (bC BK172.out 3).trans rfl; have hcz24_4 : w20.cell? ⟨gb172, 4, none⟩ = some (.string a0_4) := (bC BK172.out 4).trans rfl; have hcz24_5 : w20.cell? ⟨gb172, 5, none⟩ = some (.int .u64 a0_5) := (bC BK172.out 5).trans rfl; have hfz24_0 := bF BK172.out 0; have hfz24_1 := bF BK172.out 1; have hfz24_2 := bF BK172.out 2; have hfz24_3 := bF BK172.out 3; have hfz24_4 := bF BK172.out 4; have hfz24_5 := bF BK172.out 5))
      have n0_ : Aside0 (((((((w20.setCell ⟨gb181, 0, none⟩ (.int .u8 t174)).setCell ⟨gb181, 1, none⟩ (.int .i64 t175)).setCell ⟨gb181, 2, none⟩ (.string t176)).setCell ⟨gb181, 3, none⟩ (.string t177)).setCell ⟨gb181, 4, none⟩ (.string t178)).setCell ⟨gb181, 5, none⟩ (.int .u64 t179)).heap[gb172]? = some (.cells #[.int .u8 a0_0, .int .i64 a0_1, .string a0_2, .string a0_3, .string a0_4, .int .u64 a0_5] 25 (0, 0))) := ⟨by (with_reducible repeat (first | refine bN ?_ _ | refine bD ?_ | refine bA ?_ _)); refine bR ?_ NB172_181.out _; (with_reducible repeat (first | refine bN ?_ _ | refine bD ?_ | refine bA ?_ _)); refine bR ?_ NB172_181.out _; (with_reducible repeat (first | refine bN ?_ _ | refine bD ?_ | refine bA ?_ _)); refine bR ?_ NB172_181.out _; (with_reducible repeat (first | refine bN ?_ _ | refine bD ?_ | refine bA ?_ _)); refine bR ?_ NB172_181.out _; (with_reducible repeat (first | refine bN ?_ _ | refine bD ?_ | refine bA ?_ _)); refine bR ?_ NB172_181.out _; (with_reducible repeat (first | refine bN ?_ _ | refine bD ?_ | refine bA ?_ _)); refine bR ?_ NB172_181.out _; (with_reducible repeat (first | refine bN ?_ _ | refine bD ?_ | refine bA ?_ _)); exact BK172.out⟩
      have n1_ : Aside0 (((((((w20.setCell ⟨gb181, 0, none⟩ (.int .u8 t174)).setCell ⟨gb181, 1, none⟩ (.int .i64 t175)).setCell ⟨gb181, 2, none⟩ (.string t176)).setCell ⟨gb181, 3, none⟩ (.string t177)).setCell ⟨gb181, 4, none⟩ (.string t178)).setCell ⟨gb181, 5, none⟩ (.int .u64 t179)).heap[gb173]? = some (.cells #[.string a1_0, .string a1_1] 31 (0, 0))) := ⟨by (with_reducible repeat (first | refine bN ?_ _ | refine bD ?_ | refine bA ?_ _)); refine bR ?_ NB173_181.out _; (with_reducible repeat (first | refine bN ?_ _ | refine bD ?_ | refine bA ?_ _)); refine bR ?_ NB173_181.out _; (with_reducible repeat (first | refine bN ?_ _ | refine bD ?_ | refine bA ?_ _)); refine bR ?_ NB173_181.out _; (with_reducible repeat (first | refine bN ?_ _ | refine bD ?_ | refine bA ?_ _)); refine bR ?_ NB173_181.out _; (with_reducible repeat (first | refine bN ?_ _ | refine bD ?_ | refine bA ?_ _)); refine bR ?_ NB173_181.out _; (with_reducible repeat (first | refine bN ?_ _ | refine bD ?_ | refine bA ?_ _)); refine bR ?_ NB173_181.out _; (with_reducible repeat (first | refine bN ?_ _ | refine bD ?_ | refine bA ?_ _)); exact BK173.out⟩
      have n2_ : Aside0 (((((((w20.setCell ⟨gb181, 0, none⟩ (.int .u8 t174)).setCell ⟨gb181, 1, none⟩ (.int .i64 t175)).setCell ⟨gb181, 2, none⟩ (.string t176)).setCell ⟨gb181, 3, none⟩ (.string t177)).setCell ⟨gb181, 4, none⟩ (.string t178)).setCell ⟨gb181, 5, none⟩ (.int .u64 t179)).heap[gb181]? = some (.cells #[.int .u8 t174, .int .i64 t175, .string t176, .string t177, .string t178, .int .u64 t179] 25 (0, 0))) := ⟨by (with_reducible repeat (first | refine bN ?_ _ | refine bD ?_ | refine bA ?_ _)); refine bP (cs := #[.int .u8 t174, .int .i64 t175, .string t176, .string t177, .string t178, .int .u64 0]) ?_ 5 _ rfl; (with_reducible repeat (first | refine bN ?_ _ | refine bD ?_ | refine bA ?_ _)); refine bP (cs := #[.int .u8 t174, .int .i64 t175, .string t176, .string t177, .string (⟨#[]⟩ : BA), .int .u64 0]) ?_ 4 _ rfl; (with_reducible repeat (first | refine bN ?_ _ | refine bD ?_ | refine bA ?_ _)); refine bP (cs := #[.int .u8 t174, .int .i64 t175, .string t176, .string (⟨#[]⟩ : BA), .string (⟨#[]⟩ : BA), .int .u64 0]) ?_ 3 _ rfl; (with_reducible repeat (first | refine bN ?_ _ | refine bD ?_ | refine bA ?_ _)); refine bP (cs := #[.int .u8 t174, .int .i64 t175, .string (⟨#[]⟩ : BA), .string (⟨#[]⟩ : BA), .string (⟨#[]⟩ : BA), .int .u64 0]) ?_ 2 _ rfl; (with_reducible repeat (first | refine bN ?_ _ | refine bD ?_ | refine bA ?_ _)); refine bP (cs := #[.int .u8 t174, .int .i64 0, .string (⟨#[]⟩ : BA), .string (⟨#[]⟩ : BA), .string (⟨#[]⟩ : BA), .int .u64 0]) ?_ 1 _ rfl; (with_reducible repeat (first | refine bN ?_ _ | refine bD ?_ | refine bA ?_ _)); refine bP (cs := #[.int .u8 0, .int .i64 0, .string (⟨#[]⟩ : BA), .string (⟨#[]⟩ : BA), .string (⟨#[]⟩ : BA), .int .u64 0]) ?_ 0 _ rfl; (with_reducible repeat (first | refine bN ?_ _ | refine bD ?_ | refine bA ?_ _)); exact BK181.out⟩
      have n3_ : Aside0 (Below w.heap.size w ((((((w20.setCell ⟨gb181, 0, none⟩ (.int .u8 t174)).setCell ⟨gb181, 1, none⟩ (.int .i64 t175)).setCell ⟨gb181, 2, none⟩ (.string t176)).setCell ⟨gb181, 3, none⟩ (.string t177)).setCell ⟨gb181, 4, none⟩ (.string t178)).setCell ⟨gb181, 5, none⟩ (.int .u64 t179))) := ⟨by repeat (first | (with_reducible first | exact HB.out | apply wA | apply wN | apply w1 | refine wS ?_ GE172.out | refine wS ?_ GE173.out | refine wS ?_ GE181.out) | exact HB.out)⟩
      (try clear BK172)
      (try clear BK173)
      (try clear BK181)
      (try clear HB)
      generalize ((((((w20.setCell ⟨gb181, 0, none⟩ (.int .u8 t174)).setCell ⟨gb181, 1, none⟩ (.int .i64 t175)).setCell ⟨gb181, 2, none⟩ (.string t176)).setCell ⟨gb181, 3, none⟩ (.string t177)).setCell ⟨gb181, 4, none⟩ (.string t178)).setCell ⟨gb181, 5, none⟩ (.int .u64 t179)) = w25 at n0_ n1_ n2_ n3_ ⊢
      have BK172 := n0_
      have BK173 := n1_
      have BK181 := n2_
      have HB := n3_
      clear n0_ n1_ n2_ n3_
      have n0_ := Aside0.mk (bD BK172.out)
      have n1_ := Aside0.mk (bD BK173.out)
      have n2_ := Aside0.mk (bD BK181.out)
      have n3_ := Aside0.mk (w1 HB.out)
      clear BK172
      clear BK173
      clear BK181
      clear HB
      have BK172 := n0_
      have BK173 := n1_
      have BK181 := n2_
      have HB := n3_
      clear n0_ n1_ n2_ n3_
      refine start_ (n := 6) (S := fun w' => w'.cell? ⟨gb172, 0, none⟩ = some (.int .u8 a0_0) ∧ w'.cell? ⟨gb172, 1, none⟩ = some (.int .i64 a0_1) ∧ w'.cell? ⟨gb172, 2, none⟩ = some (.string a0_2) ∧ w'.cell? ⟨gb172, 3, none⟩ = some (.string a0_3) ∧ w'.cell? ⟨gb172, 4, none⟩ = some (.string a0_4) ∧ w'.cell? ⟨gb172, 5, none⟩ = some (.int .u64 a0_5)) (ds := []) #[false, false, false, false, false, false] (by kernel_rfl) rfl rfl ⟨(bC BK172.out 0).trans rfl, (bC BK172.out 1).trans rfl, (bC BK172.out 2).trans rfl, (bC BK172.out 3).trans rfl, (bC BK172.out 4).trans rfl, (bC BK172.out 5).trans rfl⟩ (fun hHeld => ?_)
      generalize w25.drew = w26 at BK172 BK173 BK181 HB hHeld ⊢
      refine take_ (i := 0) (N := some 31) (v := ?_) (a' := ?_) #[true, false, false, false, false, false] rfl rfl (by kernel_rfl) (fun _ _ _ h => h) (Or.inl ⟨by rfl, ?_⟩) hHeld ?_ ?_
      rotate_left
      ·rintro w' ⟨s0, s1, s2, s3, s4, s5⟩
       go_simp
       with_reducible rfl
      rotate_left
      ·simp only [Act.put, sA1, sA2, sA3, i64_w, i32_w]
       rfl
      refine take_ (i := 1) (N := some 32) (v := ?_) (a' := ?_) #[true, true, false, false, false, false] rfl rfl (by kernel_rfl) (fun _ _ _ h => h) (Or.inl ⟨by rfl, ?_⟩) hHeld ?_ ?_
      rotate_left
      ·rintro w' ⟨s0, s1, s2, s3, s4, s5⟩
       go_simp
       with_reducible rfl
      rotate_left
      ·simp only [Act.put, sA1, sA2, sA3, i64_w, i32_w]
       rfl
      refine join_ (σ := Nat × Nat) 2 #[true, true, true, true, false, false] (fun s_ => [(8, .pointer (some ⟨s_.1, 0, none⟩)), (9, .pointer (some ⟨s_.2, 0, none⟩))]) (fun s_ w' => (w'.cell? ⟨gb172, 0, none⟩ = some (.int .u8 a0_0) ∧ w'.cell? ⟨gb172, 1, none⟩ = some (.int .i64 a0_1) ∧ w'.cell? ⟨gb172, 2, none⟩ = some (.string a0_2) ∧ w'.cell? ⟨gb172, 3, none⟩ = some (.string a0_3) ∧ w'.cell? ⟨gb172, 4, none⟩ = some (.string a0_4) ∧ w'.cell? ⟨gb172, 5, none⟩ = some (.int .u64 a0_5)) ∧ (w'.heap[gb172]? = some (.cells #[.int .u8 a0_0, .int .i64 a0_1, .string a0_2, .string a0_3, .string a0_4, .int .u64 a0_5] 25 (0, 0))) ∧ (w'.heap[gb173]? = some (.cells #[.string a1_0, .string a1_1] 31 (0, 0))) ∧ (w'.heap[gb181]? = some (.cells #[.int .u8 t174, .int .i64 t175, .string t176, .string t177, .string t178, .int .u64 t179] 25 (0, 0))) ∧ (w'.heap[s_.1]? = some (.cells #[.int .u8 0, .int .i64 0, .string (⟨#[]⟩ : BA), .string (⟨#[]⟩ : BA), .string (⟨#[]⟩ : BA), .int .u64 0] 25 (0, 0))) ∧ (w'.heap[s_.2]? = some (.cells #[.int .u8 0, .int .i64 0, .string (⟨#[]⟩ : BA), .string (⟨#[]⟩ : BA), .string (⟨#[]⟩ : BA), .int .u64 0] 25 (0, 0))) ∧ (w.heap.size ≤ s_.1) ∧ (w.heap.size ≤ s_.1) ∧ (gb172 ≠ s_.1) ∧ (s_.1 ≠ gb172) ∧ (gb173 ≠ s_.1) ∧ (s_.1 ≠ gb173) ∧ (gb181 ≠ s_.1) ∧ (s_.1 ≠ gb181) ∧ (s_.2 ≠ s_.1) ∧ (s_.1 ≠ s_.2) ∧ (w.heap.size ≤ s_.2) ∧ (w.heap.size ≤ s_.2) ∧ (gb172 ≠ s_.2) ∧ (s_.2 ≠ gb172) ∧ (gb173 ≠ s_.2) ∧ (s_.2 ≠ gb173) ∧ (gb181 ≠ s_.2) ∧ (s_.2 ≠ gb181) ∧ (Below w.heap.size w w')) ?_ ?_
      rotate_left
      ·intro hCont
       refine two_ (i := 2) (j := 3) (Ni := some 8) (Nj := some 9) #[true, true, true, false, false, false] #[true, true, false, true, false, false] rfl rfl rfl rfl (by kernel_rfl) (by decide) (by decide) (fun K hK => ?_) (fun K hK => ?_)
       ·skip
        refine box_step ?hg (N := 8) ?hd (cs := #[.int .u8 0, .int .i64 0, .string (⟨#[]⟩ : BA), .string (⟨#[]⟩ : BA), .string (⟨#[]⟩ : BA), .int .u64 0]) (t := 25) ?hr ?_; (case hd => rfl); (case hg => rfl); (case hr => first | (go_simp; done) | (go_simp; rfl))
        intro gb185 hg w27 hbox hb
        have n0_ := Aside0.mk (bB (g := gb172) (o := .cells #[.int .u8 a0_0, .int .i64 a0_1, .string a0_2, .string a0_3, .string a0_4, .int .u64 a0_5] 25 (0, 0)) (by (with_reducible repeat (first | refine bN ?_ _ | refine bD ?_ | refine bA ?_ _)); exact BK172.out) hb)
        have n1_ := Aside0.mk (bB (g := gb173) (o := .cells #[.string a1_0, .string a1_1] 31 (0, 0)) (by (with_reducible repeat (first | refine bN ?_ _ | refine bD ?_ | refine bA ?_ _)); exact BK173.out) hb)
        have n2_ := Aside0.mk (bB (g := gb181) (o := .cells #[.int .u8 t174, .int .i64 t175, .string t176, .string t177, .string t178, .int .u64 t179] 25 (0, 0)) (by (with_reducible repeat (first | refine bN ?_ _ | refine bD ?_ | refine bA ?_ _)); exact BK181.out) hb)
        have n3_ := Aside0.mk (wT (by repeat (first | (with_reducible first | exact HB.out | apply wA | apply wN | apply w1 | refine wS ?_ GE172.out | refine wS ?_ GE173.out | refine wS ?_ GE181.out) | exact HB.out)) hb)
        have n4_ := Aside0.mk (hbox)
        have n5_ := Aside0.mk ((by rw [hg]; exact (wZ (by repeat (first | (with_reducible first | exact HB.out | apply wA | apply wN | apply w1 | refine wS ?_ GE172.out | refine wS ?_ GE173.out | refine wS ?_ GE181.out) | exact HB.out))) : w.heap.size ≤ gb185))
        have n6_ := Aside0.mk ((by rw [hg]; exact (wZ (by repeat (first | (with_reducible first | exact HB.out | apply wA | apply wN | apply w1 | refine wS ?_ GE172.out | refine wS ?_ GE173.out | refine wS ?_ GE181.out) | exact HB.out))) : w.heap.size ≤ gb185))
        have n7_ := Aside0.mk ((by rw [hg]; exact Nat.ne_of_lt (blk_lt (g := gb172) (o := .cells #[.int .u8 a0_0, .int .i64 a0_1, .string a0_2, .string a0_3, .string a0_4, .int .u64 a0_5] 25 (0, 0)) (by (with_reducible repeat (first | refine bN ?_ _ | refine bD ?_ | refine bA ?_ _)); exact BK172.out)) : gb172 ≠ gb185))
        have n8_ := Aside0.mk ((by rw [hg]; exact Nat.ne_of_gt (blk_lt (g := gb172) (o := .cells #[.int .u8 a0_0, .int .i64 a0_1, .string a0_2, .string a0_3, .string a0_4, .int .u64 a0_5] 25 (0, 0)) (by (with_reducible repeat (first | refine bN ?_ _ | refine bD ?_ | refine bA ?_ _)); exact BK172.out)) : gb185 ≠ gb172))
        have n9_ := Aside0.mk ((by rw [hg]; exact Nat.ne_of_lt (blk_lt (g := gb173) (o := .cells #[.string a1_0, .string a1_1] 31 (0, 0)) (by (with_reducible repeat (first | refine bN ?_ _ | refine bD ?_ | refine bA ?_ _)); exact BK173.out)) : gb173 ≠ gb185))
        have n10_ := Aside0.mk ((by rw [hg]; exact Nat.ne_of_gt (blk_lt (g := gb173) (o := .cells #[.string a1_0, .string a1_1] 31 (0, 0)) (by (with_reducible repeat (first | refine bN ?_ _ | refine bD ?_ | refine bA ?_ _)); exact BK173.out)) : gb185 ≠ gb173))
        have n11_ := Aside0.mk ((by rw [hg]; exact Nat.ne_of_lt (blk_lt (g := gb181) (o := .cells #[.int .u8 t174, .int .i64 t175, .string t176, .string t177, .string t178, .int .u64 t179] 25 (0, 0)) (by (with_reducible repeat (first | refine bN ?_ _ | refine bD ?_ | refine bA ?_ _)); exact BK181.out)) : gb181 ≠ gb185))
        have n12_ := Aside0.mk ((by rw [hg]; exact Nat.ne_of_gt (blk_lt (g := gb181) (o := .cells #[.int .u8 t174, .int .i64 t175, .string t176, .string t177, .string t178, .int .u64 t179] 25 (0, 0)) (by (with_reducible repeat (first | refine bN ?_ _ | refine bD ?_ | refine bA ?_ _)); exact BK181.out)) : gb185 ≠ gb181))
        clear BK172
        clear BK173
        clear BK181
        clear HB
        have BK172 := n0_
        have BK173 := n1_
        have BK181 := n2_
        have HB := n3_
        have BK185 := n4_
        have GW185 := n5_
        have GE185 := n6_
        have NB172_185 := n7_
        have NB185_172 := n8_
        have NB173_185 := n9_
        have NB185_173 := n10_
        have NB181_185 := n11_
        have NB185_181 := n12_
        clear n0_ n1_ n2_ n3_ n4_ n5_ n6_ n7_ n8_ n9_ n10_ n11_ n12_
        clear hb hbox hg
        refine hK.out _ _ ⟨(bC BK172.out 0).trans rfl, (bC BK172.out 1).trans rfl, (bC BK172.out 2).trans rfl, (bC BK172.out 3).trans rfl, (bC BK172.out 4).trans rfl, (bC BK172.out 5).trans rfl⟩ (fun hHeld => ?_)
        clear hK K
        refine norm_ (a' := ?_) ?_ ?_
        rotate_left
        ·show Act.put _ (some 8) _ = _
         simp only [Act.put, sA1, sA2, sA3, i64_w, i32_w]
         rfl
        refine one_ (i := 3) (N := some 9) #[true, true, true, true, false, false] rfl rfl (by kernel_rfl) (by decide) (fun K hK => ?_)
        refine box_step ?hg (N := 9) ?hd (cs := #[.int .u8 0, .int .i64 0, .string (⟨#[]⟩ : BA), .string (⟨#[]⟩ : BA), .string (⟨#[]⟩ : BA), .int .u64 0]) (t := 25) ?hr ?_; (case hd => rfl); (case hg => rfl); (case hr => first | (go_simp; done) | (go_simp; rfl))
        intro gb186 hg w28 hbox hb
        have n0_ := Aside0.mk (bB (g := gb172) (o := .cells #[.int .u8 a0_0, .int .i64 a0_1, .string a0_2, .string a0_3, .string a0_4, .int .u64 a0_5] 25 (0, 0)) (by (with_reducible repeat (first | refine bN ?_ _ | refine bD ?_ | refine bA ?_ _)); exact BK172.out) hb)
        have n1_ := Aside0.mk (bB (g := gb173) (o := .cells #[.string a1_0, .string a1_1] 31 (0, 0)) (by (with_reducible repeat (first | refine bN ?_ _ | refine bD ?_ | refine bA ?_ _)); exact BK173.out) hb)
        have n2_ := Aside0.mk (bB (g := gb181) (o := .cells #[.int .u8 t174, .int .i64 t175, .string t176, .string t177, .string t178, .int .u64 t179] 25 (0, 0)) (by (with_reducible repeat (first | refine bN ?_ _ | refine bD ?_ | refine bA ?_ _)); exact BK181.out) hb)
        have n3_ := Aside0.mk (bB (g := gb185) (o := .cells #[.int .u8 0, .int .i64 0, .string (⟨#[]⟩ : BA), .string (⟨#[]⟩ : BA), .string (⟨#[]⟩ : BA), .int .u64 0] 25 (0, 0)) (by (with_reducible repeat (first | refine bN ?_ _ | refine bD ?_ | refine bA ?_ _)); exact BK185.out) hb)
        have n4_ := Aside0.mk (wT (by repeat (first | (with_reducible first | exact HB.out | apply wA | apply wN | apply w1 | refine wS ?_ GE172.out | refine wS ?_ GE173.out | refine wS ?_ GE181.out | refine wS ?_ GE185.out) | exact HB.out)) hb)
        have n5_ := Aside0.mk (hbox)
        have n6_ := Aside0.mk ((by rw [hg]; exact (wZ (by repeat (first | (with_reducible first | exact HB.out | apply wA | apply wN | apply w1 | refine wS ?_ GE172.out | refine wS ?_ GE173.out | refine wS ?_ GE181.out | refine wS ?_ GE185.out) | exact HB.out))) : w.heap.size ≤ gb186))
        have n7_ := Aside0.mk ((by rw [hg]; exact (wZ (by repeat (first | (with_reducible first | exact HB.out | apply wA | apply wN | apply w1 | refine wS ?_ GE172.out | refine wS ?_ GE173.out | refine wS ?_ GE181.out | refine wS ?_ GE185.out) | exact HB.out))) : w.heap.size ≤ gb186))
        have n8_ := Aside0.mk ((by rw [hg]; exact Nat.ne_of_lt (blk_lt (g := gb172) (o := .cells #[.int .u8 a0_0, .int .i64 a0_1, .string a0_2, .string a0_3, .string a0_4, .int .u64 a0_5] 25 (0, 0)) (by (with_reducible repeat (first | refine bN ?_ _ | refine bD ?_ | refine bA ?_ _)); exact BK172.out)) : gb172 ≠ gb186))
        have n9_ := Aside0.mk ((by rw [hg]; exact Nat.ne_of_gt (blk_lt (g := gb172) (o := .cells #[.int .u8 a0_0, .int .i64 a0_1, .string a0_2, .string a0_3, .string a0_4, .int .u64 a0_5] 25 (0, 0)) (by (with_reducible repeat (first | refine bN ?_ _ | refine bD ?_ | refine bA ?_ _)); exact BK172.out)) : gb186 ≠ gb172))
        have n10_ := Aside0.mk ((by rw [hg]; exact Nat.ne_of_lt (blk_lt (g := gb173) (o := .cells #[.string a1_0, .string a1_1] 31 (0, 0)) (by (with_reducible repeat (first | refine bN ?_ _ | refine bD ?_ | refine bA ?_ _)); exact BK173.out)) : gb173 ≠ gb186))
        have n11_ := Aside0.mk ((by rw [hg]; exact Nat.ne_of_gt (blk_lt (g := gb173) (o := .cells #[.string a1_0, .string a1_1] 31 (0, 0)) (by (with_reducible repeat (first | refine bN ?_ _ | refine bD ?_ | refine bA ?_ _)); exact BK173.out)) : gb186 ≠ gb173))
        have n12_ := Aside0.mk ((by rw [hg]; exact Nat.ne_of_lt (blk_lt (g := gb181) (o := .cells #[.int .u8 t174, .int .i64 t175, .string t176, .string t177, .string t178, .int .u64 t179] 25 (0, 0)) (by (with_reducible repeat (first | refine bN ?_ _ | refine bD ?_ | refine bA ?_ _)); exact BK181.out)) : gb181 ≠ gb186))
        have n13_ := Aside0.mk ((by rw [hg]; exact Nat.ne_of_gt (blk_lt (g := gb181) (o := .cells #[.int .u8 t174, .int .i64 t175, .string t176, .string t177, .string t178, .int .u64 t179] 25 (0, 0)) (by (with_reducible repeat (first | refine bN ?_ _ | refine bD ?_ | refine bA ?_ _)); exact BK181.out)) : gb186 ≠ gb181))
        have n14_ := Aside0.mk ((by rw [hg]; exact Nat.ne_of_lt (blk_lt (g := gb185) (o := .cells #[.int .u8 0, .int .i64 0, .string (⟨#[]⟩ : BA), .string (⟨#[]⟩ : BA), .string (⟨#[]⟩ : BA), .int .u64 0] 25 (0, 0)) (by (with_reducible repeat (first | refine bN ?_ _ | refine bD ?_ | refine bA ?_ _)); exact BK185.out)) : gb185 ≠ gb186))
        have n15_ := Aside0.mk ((by rw [hg]; exact Nat.ne_of_gt (blk_lt (g := gb185) (o := .cells #[.int .u8 0, .int .i64 0, .string (⟨#[]⟩ : BA), .string (⟨#[]⟩ : BA), .string (⟨#[]⟩ : BA), .int .u64 0] 25 (0, 0)) (by (with_reducible repeat (first | refine bN ?_ _ | refine bD ?_ | refine bA ?_ _)); exact BK185.out)) : gb186 ≠ gb185))
        clear BK172
        clear BK173
        clear BK181
        clear BK185
        clear HB
        have BK172 := n0_
        have BK173 := n1_
        have BK181 := n2_
        have BK185 := n3_
        have HB := n4_
        have BK186 := n5_
        have GW186 := n6_
        have GE186 := n7_
        have NB172_186 := n8_
        have NB186_172 := n9_
        have NB173_186 := n10_
        have NB186_173 := n11_
        have NB181_186 := n12_
        have NB186_181 := n13_
        have NB185_186 := n14_
        have NB186_185 := n15_
        clear n0_ n1_ n2_ n3_ n4_ n5_ n6_ n7_ n8_ n9_ n10_ n11_ n12_ n13_ n14_ n15_
        clear hb hbox hg
        refine hK.out _ _ ⟨(bC BK172.out 0).trans rfl, (bC BK172.out 1).trans rfl, (bC BK172.out 2).trans rfl, (bC BK172.out 3).trans rfl, (bC BK172.out 4).trans rfl, (bC BK172.out 5).trans rfl⟩ (fun hHeld => ?_)
        clear hK K
        refine norm_ (a' := ?_) ?_ ?_
        rotate_left
        ·show Act.put _ (some 9) _ = _
         simp only [Act.put, sA1, sA2, sA3, i64_w, i32_w]
         rfl
        exact norm_ (by simp only [putAll, Act.put, sA1, sA2, sA3]) (hCont (gb185, gb186) _ ⟨hHeld, (by (with_reducible repeat (first | refine bN ?_ _ | refine bD ?_ | refine bA ?_ _)); exact BK172.out), (by (with_reducible repeat (first | refine bN ?_ _ | refine bD ?_ | refine bA ?_ _)); exact BK173.out), (by (with_reducible repeat (first | refine bN ?_ _ | refine bD ?_ | refine bA ?_ _)); exact BK181.out), (by (with_reducible repeat (first | refine bN ?_ _ | refine bD ?_ | refine bA ?_ _)); exact BK185.out), (by (with_reducible repeat (first | refine bN ?_ _ | refine bD ?_ | refine bA ?_ _)); exact BK186.out), GW185.out, GE185.out, NB172_185.out, NB185_172.out, NB173_185.out, NB185_173.out, NB181_185.out, NB185_181.out, NB186_185.out, NB185_186.out, GW186.out, GE186.out, NB172_186.out, NB186_172.out, NB173_186.out, NB186_173.out, NB181_186.out, NB186_181.out, (by repeat (first | (with_reducible first | exact HB.out | apply wA | apply wN | apply w1 | refine wS ?_ GE172.out | refine wS ?_ GE173.out | refine wS ?_ GE181.out | refine wS ?_ GE185.out | refine wS ?_ GE186.out) | exact HB.out))⟩)
       ·skip
        refine box_step ?hg (N := 9) ?hd (cs := #[.int .u8 0, .int .i64 0, .string (⟨#[]⟩ : BA), .string (⟨#[]⟩ : BA), .string (⟨#[]⟩ : BA), .int .u64 0]) (t := 25) ?hr ?_; (case hd => rfl); (case hg => rfl); (case hr => first | (go_simp; done) | (go_simp; rfl))
        intro gb186 hg w27 hbox hb
        have n0_ := Aside0.mk (bB (g := gb172) (o := .cells #[.int .u8 a0_0, .int .i64 a0_1, .string a0_2, .string a0_3, .string a0_4, .int .u64 a0_5] 25 (0, 0)) (by (with_reducible repeat (first | refine bN ?_ _ | refine bD ?_ | refine bA ?_ _)); exact BK172.out) hb)
        have n1_ := Aside0.mk (bB (g := gb173) (o := .cells #[.string a1_0, .string a1_1] 31 (0, 0)) (by (with_reducible repeat (first | refine bN ?_ _ | refine bD ?_ | refine bA ?_ _)); exact BK173.out) hb)
        have n2_ := Aside0.mk (bB (g := gb181) (o := .cells #[.int .u8 t174, .int .i64 t175, .string t176, .string t177, .string t178, .int .u64 t179] 25 (0, 0)) (by (with_reducible repeat (first | refine bN ?_ _ | refine bD ?_ | refine bA ?_ _)); exact BK181.out) hb)
        have n3_ := Aside0.mk (wT (by repeat (first | (with_reducible first | exact HB.out | apply wA | apply wN | apply w1 | refine wS ?_ GE172.out | refine wS ?_ GE173.out | refine wS ?_ GE181.out) | exact HB.out)) hb)
        have n4_ := Aside0.mk (hbox)
        have n5_ := Aside0.mk ((by rw [hg]; exact (wZ (by repeat (first | (with_reducible first | exact HB.out | apply wA | apply wN | apply w1 | refine wS ?_ GE172.out | refine wS ?_ GE173.out | refine wS ?_ GE181.out) | exact HB.out))) : w.heap.size ≤ gb186))
        have n6_ := Aside0.mk ((by rw [hg]; exact (wZ (by repeat (first | (with_reducible first | exact HB.out | apply wA | apply wN | apply w1 | refine wS ?_ GE172.out | refine wS ?_ GE173.out | refine wS ?_ GE181.out) | exact HB.out))) : w.heap.size ≤ gb186))
        have n7_ := Aside0.mk ((by rw [hg]; exact Nat.ne_of_lt (blk_lt (g := gb172) (o := .cells #[.int .u8 a0_0, .int .i64 a0_1, .string a0_2, .string a0_3, .string a0_4, .int .u64 a0_5] 25 (0, 0)) (by (with_reducible repeat (first | refine bN ?_ _ | refine bD ?_ | refine bA ?_ _)); exact BK172.out)) : gb172 ≠ gb186))
        have n8_ := Aside0.mk ((by rw [hg]; exact Nat.ne_of_gt (blk_lt (g := gb172) (o := .cells #[.int .u8 a0_0, .int .i64 a0_1, .string a0_2, .string a0_3, .string a0_4, .int .u64 a0_5] 25 (0, 0)) (by (with_reducible repeat (first | refine bN ?_ _ | refine bD ?_ | refine bA ?_ _)); exact BK172.out)) : gb186 ≠ gb172))
        have n9_ := Aside0.mk ((by rw [hg]; exact Nat.ne_of_lt (blk_lt (g := gb173) (o := .cells #[.string a1_0, .string a1_1] 31 (0, 0)) (by (with_reducible repeat (first | refine bN ?_ _ | refine bD ?_ | refine bA ?_ _)); exact BK173.out)) : gb173 ≠ gb186))
        have n10_ := Aside0.mk ((by rw [hg]; exact Nat.ne_of_gt (blk_lt (g := gb173) (o := .cells #[.string a1_0, .string a1_1] 31 (0, 0)) (by (with_reducible repeat (first | refine bN ?_ _ | refine bD ?_ | refine bA ?_ _)); exact BK173.out)) : gb186 ≠ gb173))
        have n11_ := Aside0.mk ((by rw [hg]; exact Nat.ne_of_lt (blk_lt (g := gb181) (o := .cells #[.int .u8 t174, .int .i64 t175, .string t176, .string t177, .string t178, .int .u64 t179] 25 (0, 0)) (by (with_reducible repeat (first | refine bN ?_ _ | refine bD ?_ | refine bA ?_ _)); exact BK181.out)) : gb181 ≠ gb186))
        have n12_ := Aside0.mk ((by rw [hg]; exact Nat.ne_of_gt (blk_lt (g := gb181) (o := .cells #[.int .u8 t174, .int .i64 t175, .string t176, .string t177, .string t178, .int .u64 t179] 25 (0, 0)) (by (with_reducible repeat (first | refine bN ?_ _ | refine bD ?_ | refine bA ?_ _)); exact BK181.out)) : gb186 ≠ gb181))
        clear BK172
        clear BK173
        clear BK181
        clear HB
        have BK172 := n0_
        have BK173 := n1_
        have BK181 := n2_
        have HB := n3_
        have BK186 := n4_
        have GW186 := n5_
        have GE186 := n6_
        have NB172_186 := n7_
        have NB186_172 := n8_
        have NB173_186 := n9_
        have NB186_173 := n10_
        have NB181_186 := n11_
        have NB186_181 := n12_
        clear n0_ n1_ n2_ n3_ n4_ n5_ n6_ n7_ n8_ n9_ n10_ n11_ n12_
        clear hb hbox hg
        refine hK.out _ _ ⟨(bC BK172.out 0).trans rfl, (bC BK172.out 1).trans rfl, (bC BK172.out 2).trans rfl, (bC BK172.out 3).trans rfl, (bC BK172.out 4).trans rfl, (bC BK172.out 5).trans rfl⟩ (fun hHeld => ?_)
        clear hK K
        refine norm_ (a' := ?_) ?_ ?_
        rotate_left
        ·show Act.put _ (some 9) _ = _
         simp only [Act.put, sA1, sA2, sA3, i64_w, i32_w]
         rfl
        refine one_ (i := 2) (N := some 8) #[true, true, true, true, false, false] rfl rfl (by kernel_rfl) (by decide) (fun K hK => ?_)
        refine box_step ?hg (N := 8) ?hd (cs := #[.int .u8 0, .int .i64 0, .string (⟨#[]⟩ : BA), .string (⟨#[]⟩ : BA), .string (⟨#[]⟩ : BA), .int .u64 0]) (t := 25) ?hr ?_; (case hd => rfl); (case hg => rfl); (case hr => first | (go_simp; done) | (go_simp; rfl))
        intro gb185 hg w28 hbox hb
        have n0_ := Aside0.mk (bB (g := gb172) (o := .cells #[.int .u8 a0_0, .int .i64 a0_1, .string a0_2, .string a0_3, .string a0_4, .int .u64 a0_5] 25 (0, 0)) (by (with_reducible repeat (first | refine bN ?_ _ | refine bD ?_ | refine bA ?_ _)); exact BK172.out) hb)
        have n1_ := Aside0.mk (bB (g := gb173) (o := .cells #[.string a1_0, .string a1_1] 31 (0, 0)) (by (with_reducible repeat (first | refine bN ?_ _ | refine bD ?_ | refine bA ?_ _)); exact BK173.out) hb)
        have n2_ := Aside0.mk (bB (g := gb181) (o := .cells #[.int .u8 t174, .int .i64 t175, .string t176, .string t177, .string t178, .int .u64 t179] 25 (0, 0)) (by (with_reducible repeat (first | refine bN ?_ _ | refine bD ?_ | refine bA ?_ _)); exact BK181.out) hb)
        have n3_ := Aside0.mk (bB (g := gb186) (o := .cells #[.int .u8 0, .int .i64 0, .string (⟨#[]⟩ : BA), .string (⟨#[]⟩ : BA), .string (⟨#[]⟩ : BA), .int .u64 0] 25 (0, 0)) (by (with_reducible repeat (first | refine bN ?_ _ | refine bD ?_ | refine bA ?_ _)); exact BK186.out) hb)
        have n4_ := Aside0.mk (wT (by repeat (first | (with_reducible first | exact HB.out | apply wA | apply wN | apply w1 | refine wS ?_ GE172.out | refine wS ?_ GE173.out | refine wS ?_ GE181.out | refine wS ?_ GE186.out) | exact HB.out)) hb)
        have n5_ := Aside0.mk (hbox)
        have n6_ := Aside0.mk ((by rw [hg]; exact (wZ (by repeat (first | (with_reducible first | exact HB.out | apply wA | apply wN | apply w1 | refine wS ?_ GE172.out | refine wS ?_ GE173.out | refine wS ?_ GE181.out | refine wS ?_ GE186.out) | exact HB.out))) : w.heap.size ≤ gb185))
        have n7_ := Aside0.mk ((by rw [hg]; exact (wZ (by repeat (first | (with_reducible first | exact HB.out | apply wA | apply wN | apply w1 | refine wS ?_ GE172.out | refine wS ?_ GE173.out | refine wS ?_ GE181.out | refine wS ?_ GE186.out) | exact HB.out))) : w.heap.size ≤ gb185))
        have n8_ := Aside0.mk ((by rw [hg]; exact Nat.ne_of_lt (blk_lt (g := gb172) (o := .cells #[.int .u8 a0_0, .int .i64 a0_1, .string a0_2, .string a0_3, .string a0_4, .int .u64 a0_5] 25 (0, 0)) (by (with_reducible repeat (first | refine bN ?_ _ | refine bD ?_ | refine bA ?_ _)); exact BK172.out)) : gb172 ≠ gb185))
        have n9_ := Aside0.mk ((by rw [hg]; exact Nat.ne_of_gt (blk_lt (g := gb172) (o := .cells #[.int .u8 a0_0, .int .i64 a0_1, .string a0_2, .string a0_3, .string a0_4, .int .u64 a0_5] 25 (0, 0)) (by (with_reducible repeat (first | refine bN ?_ _ | refine bD ?_ | refine bA ?_ _)); exact BK172.out)) : gb185 ≠ gb172))
        have n10_ := Aside0.mk ((by rw [hg]; exact Nat.ne_of_lt (blk_lt (g := gb173) (o := .cells #[.string a1_0, .string a1_1] 31 (0, 0)) (by (with_reducible repeat (first | refine bN ?_ _ | refine bD ?_ | refine bA ?_ _)); exact BK173.out)) : gb173 ≠ gb185))
        have n11_ := Aside0.mk ((by rw [hg]; exact Nat.ne_of_gt (blk_lt (g := gb173) (o := .cells #[.string a1_0, .string a1_1] 31 (0, 0)) (by (with_reducible repeat (first | refine bN ?_ _ | refine bD ?_ | refine bA ?_ _)); exact BK173.out)) : gb185 ≠ gb173))
        have n12_ := Aside0.mk ((by rw [hg]; exact Nat.ne_of_lt (blk_lt (g := gb181) (o := .cells #[.int .u8 t174, .int .i64 t175, .string t176, .string t177, .string t178, .int .u64 t179] 25 (0, 0)) (by (with_reducible repeat (first | refine bN ?_ _ | refine bD ?_ | refine bA ?_ _)); exact BK181.out)) : gb181 ≠ gb185))
        have n13_ := Aside0.mk ((by rw [hg]; exact Nat.ne_of_gt (blk_lt (g := gb181) (o := .cells #[.int .u8 t174, .int .i64 t175, .string t176, .string t177, .string t178, .int .u64 t179] 25 (0, 0)) (by (with_reducible repeat (first | refine bN ?_ _ | refine bD ?_ | refine bA ?_ _)); exact BK181.out)) : gb185 ≠ gb181))
        have n14_ := Aside0.mk ((by rw [hg]; exact Nat.ne_of_lt (blk_lt (g := gb186) (o := .cells #[.int .u8 0, .int .i64 0, .string (⟨#[]⟩ : BA), .string (⟨#[]⟩ : BA), .string (⟨#[]⟩ : BA), .int .u64 0] 25 (0, 0)) (by (with_reducible repeat (first | refine bN ?_ _ | refine bD ?_ | refine bA ?_ _)); exact BK186.out)) : gb186 ≠ gb185))
        have n15_ := Aside0.mk ((by rw [hg]; exact Nat.ne_of_gt (blk_lt (g := gb186) (o := .cells #[.int .u8 0, .int .i64 0, .string (⟨#[]⟩ : BA), .string (⟨#[]⟩ : BA), .string (⟨#[]⟩ : BA), .int .u64 0] 25 (0, 0)) (by (with_reducible repeat (first | refine bN ?_ _ | refine bD ?_ | refine bA ?_ _)); exact BK186.out)) : gb185 ≠ gb186))
        clear BK172
        clear BK173
        clear BK181
        clear BK186
        clear HB
        have BK172 := n0_
        have BK173 := n1_
        have BK181 := n2_
        have BK186 := n3_
        have HB := n4_
        have BK185 := n5_
        have GW185 := n6_
        have GE185 := n7_
        have NB172_185 := n8_
        have NB185_172 := n9_
        have NB173_185 := n10_
        have NB185_173 := n11_
        have NB181_185 := n12_
        have NB185_181 := n13_
        have NB186_185 := n14_
        have NB185_186 := n15_
        clear n0_ n1_ n2_ n3_ n4_ n5_ n6_ n7_ n8_ n9_ n10_ n11_ n12_ n13_ n14_ n15_
        clear hb hbox hg
        refine hK.out _ _ ⟨(bC BK172.out 0).trans rfl, (bC BK172.out 1).trans rfl, (bC BK172.out 2).trans rfl, (bC BK172.out 3).trans rfl, (bC BK172.out 4).trans rfl, (bC BK172.out 5).trans rfl⟩ (fun hHeld => ?_)
        clear hK K
        refine norm_ (a' := ?_) ?_ ?_
        rotate_left
        ·show Act.put _ (some 8) _ = _
         simp only [Act.put, sA1, sA2, sA3, i64_w, i32_w]
         rfl
        exact norm_ (by simp only [putAll, Act.put, sA1, sA2, sA3]) (hCont (gb185, gb186) _ ⟨hHeld, (by (with_reducible repeat (first | refine bN ?_ _ | refine bD ?_ | refine bA ?_ _)); exact BK172.out), (by (with_reducible repeat (first | refine bN ?_ _ | refine bD ?_ | refine bA ?_ _)); exact BK173.out), (by (with_reducible repeat (first | refine bN ?_ _ | refine bD ?_ | refine bA ?_ _)); exact BK181.out), (by (with_reducible repeat (first | refine bN ?_ _ | refine bD ?_ | refine bA ?_ _)); exact BK185.out), (by (with_reducible repeat (first | refine bN ?_ _ | refine bD ?_ | refine bA ?_ _)); exact BK186.out), GW185.out, GE185.out, NB172_185.out, NB185_172.out, NB173_185.out, NB185_173.out, NB181_185.out, NB185_181.out, NB186_185.out, NB185_186.out, GW186.out, GE186.out, NB172_186.out, NB186_172.out, NB173_186.out, NB186_173.out, NB181_186.out, NB186_181.out, (by repeat (first | (with_reducible first | exact HB.out | apply wA | apply wN | apply w1 | refine wS ?_ GE172.out | refine wS ?_ GE173.out | refine wS ?_ GE181.out | refine wS ?_ GE186.out | refine wS ?_ GE185.out) | exact HB.out))⟩)
      rintro ⟨gb185, gb186⟩ w29 ⟨hS_, h0_, h1_, h2_, h3_, h4_, h5_, h6_, h7_, h8_, h9_, h10_, h11_, h12_, h13_, h14_, h15_, h16_, h17_, h18_, h19_, h20_, h21_, h22_, h23_⟩
      have n0_ : Aside0 (w29.heap[gb172]? = some (.cells #[.int .u8 a0_0, .int .i64 a0_1, .string a0_2, .string a0_3, .string a0_4, .int .u64 a0_5] 25 (0, 0))) := ⟨h0_⟩
      have n1_ : Aside0 (w29.heap[gb173]? = some (.cells #[.string a1_0, .string a1_1] 31 (0, 0))) := ⟨h1_⟩
      have n2_ : Aside0 (w29.heap[gb181]? = some (.cells #[.int .u8 t174, .int .i64 t175, .string t176, .string t177, .string t178, .int .u64 t179] 25 (0, 0))) := ⟨h2_⟩
      have n3_ : Aside0 (w29.heap[gb185]? = some (.cells #[.int .u8 0, .int .i64 0, .string (⟨#[]⟩ : BA), .string (⟨#[]⟩ : BA), .string (⟨#[]⟩ : BA), .int .u64 0] 25 (0, 0))) := ⟨h3_⟩
      have n4_ : Aside0 (w29.heap[gb186]? = some (.cells #[.int .u8 0, .int .i64 0, .string (⟨#[]⟩ : BA), .string (⟨#[]⟩ : BA), .string (⟨#[]⟩ : BA), .int .u64 0] 25 (0, 0))) := ⟨h4_⟩
      have n5_ : Aside0 (w.heap.size ≤ gb185) := ⟨h5_⟩
      have n6_ : Aside0 (w.heap.size ≤ gb185) := ⟨h6_⟩
      have n7_ : Aside0 (gb172 ≠ gb185) := ⟨h7_⟩
      have n8_ : Aside0 (gb185 ≠ gb172) := ⟨h8_⟩
      have n9_ : Aside0 (gb173 ≠ gb185) := ⟨h9_⟩
      have n10_ : Aside0 (gb185 ≠ gb173) := ⟨h10_⟩
      have n11_ : Aside0 (gb181 ≠ gb185) := ⟨h11_⟩
      have n12_ : Aside0 (gb185 ≠ gb181) := ⟨h12_⟩
      have n13_ : Aside0 (gb186 ≠ gb185) := ⟨h13_⟩
      have n14_ : Aside0 (gb185 ≠ gb186) := ⟨h14_⟩
      have n15_ : Aside0 (w.heap.size ≤ gb186) := ⟨h15_⟩
      have n16_ : Aside0 (w.heap.size ≤ gb186) := ⟨h16_⟩
      have n17_ : Aside0 (gb172 ≠ gb186) := ⟨h17_⟩
      have n18_ : Aside0 (gb186 ≠ gb172) := ⟨h18_⟩
      have n19_ : Aside0 (gb173 ≠ gb186) := ⟨h19_⟩
      have n20_ : Aside0 (gb186 ≠ gb173) := ⟨h20_⟩
      have n21_ : Aside0 (gb181 ≠ gb186) := ⟨h21_⟩
      have n22_ : Aside0 (gb186 ≠ gb181) := ⟨h22_⟩
      have n23_ : Aside0 (Below w.heap.size w w29) := ⟨h23_⟩
      clear BK172
      clear BK173
      clear BK181
      clear HB
      clear h0_ h1_ h2_ h3_ h4_ h5_ h6_ h7_ h8_ h9_ h10_ h11_ h12_ h13_ h14_ h15_ h16_ h17_ h18_ h19_ h20_ h21_ h22_ h23_
      have BK172 := n0_
      have BK173 := n1_
      have BK181 := n2_
      have BK185 := n3_
      have BK186 := n4_
      have GW185 := n5_
      have GE185 := n6_
      have NB172_185 := n7_
      have NB185_172 := n8_
      have NB173_185 := n9_
      have NB185_173 := n10_
      have NB181_185 := n11_
      have NB185_181 := n12_
      have NB186_185 := n13_
      have NB185_186 := n14_
      have GW186 := n15_
      have GE186 := n16_
      have NB172_186 := n17_
      have NB186_172 := n18_
      have NB173_186 := n19_
      have NB186_173 := n20_
      have NB181_186 := n21_
      have NB186_181 := n22_
      have HB := n23_
      clear n0_ n1_ n2_ n3_ n4_ n5_ n6_ n7_ n8_ n9_ n10_ n11_ n12_ n13_ n14_ n15_ n16_ n17_ n18_ n19_ n20_ n21_ n22_ n23_
      have hHeld : w29.cell? ⟨gb172, 0, none⟩ = some (.int .u8 a0_0) ∧ w29.cell? ⟨gb172, 1, none⟩ = some (.int .i64 a0_1) ∧ w29.cell? ⟨gb172, 2, none⟩ = some (.string a0_2) ∧ w29.cell? ⟨gb172, 3, none⟩ = some (.string a0_3) ∧ w29.cell? ⟨gb172, 4, none⟩ = some (.string a0_4) ∧ w29.cell? ⟨gb172, 5, none⟩ = some (.int .u64 a0_5) := hS_
      refine norm_ (a' := ?_) ?_ ?_
      rotate_left
      ·simp only [putAll, Act.put, sA1, sA2, sA3]
       rfl
      refine one_ (i := 4) (N := none) #[true, true, true, true, true, false] rfl rfl (by kernel_rfl) (by decide) (fun K hK => ?_)
      have hs30 : w29.cell? ⟨gb185, 0, none⟩ = some (.int .u8 0) := (bC BK185.out 0).trans rfl
      have hfs30 := bF BK185.out 0
      have hns30_0 := NB172_185.out
      have hns30_1 := NB173_185.out
      have hns30_2 := NB181_185.out
      have hns30_4 := NB186_185.out
      have hms30_0 := NB185_172.out
      have hms30_1 := NB185_173.out
      have hms30_2 := NB185_181.out
      have hms30_4 := NB185_186.out
      have hs31 : w29.cell? ⟨gb185, 1, none⟩ = some (.int .i64 0) := (bC BK185.out 1).trans rfl
      have hfs31 := bF BK185.out 1
      have hns31_0 := NB172_185.out
      have hns31_1 := NB173_185.out
      have hns31_2 := NB181_185.out
      have hns31_4 := NB186_185.out
      have hms31_0 := NB185_172.out
      have hms31_1 := NB185_173.out
      have hms31_2 := NB185_181.out
      have hms31_4 := NB185_186.out
      have hs32 : w29.cell? ⟨gb185, 2, none⟩ = some (.string (⟨#[]⟩ : BA)) := (bC BK185.out 2).trans rfl
      have hfs32 := bF BK185.out 2
      have hns32_0 := NB172_185.out
      have hns32_1 := NB173_185.out
      have hns32_2 := NB181_185.out
      have hns32_4 := NB186_185.out
      have hms32_0 := NB185_172.out
      have hms32_1 := NB185_173.out
      have hms32_2 := NB185_181.out
      have hms32_4 := NB185_186.out
      have hs33 : w29.cell? ⟨gb185, 3, none⟩ = some (.string (⟨#[]⟩ : BA)) := (bC BK185.out 3).trans rfl
      have hfs33 := bF BK185.out 3
      have hns33_0 := NB172_185.out
      have hns33_1 := NB173_185.out
      have hns33_2 := NB181_185.out
      have hns33_4 := NB186_185.out
      have hms33_0 := NB185_172.out
      have hms33_1 := NB185_173.out
      have hms33_2 := NB185_181.out
      have hms33_4 := NB185_186.out
      have hs34 : w29.cell? ⟨gb185, 4, none⟩ = some (.string (⟨#[]⟩ : BA)) := (bC BK185.out 4).trans rfl
      have hfs34 := bF BK185.out 4
      have hns34_0 := NB172_185.out
      have hns34_1 := NB173_185.out
      have hns34_2 := NB181_185.out
      have hns34_4 := NB186_185.out
      have hms34_0 := NB185_172.out
      have hms34_1 := NB185_173.out
      have hms34_2 := NB185_181.out
      have hms34_4 := NB185_186.out
      have hs35 : w29.cell? ⟨gb185, 5, none⟩ = some (.int .u64 0) := (bC BK185.out 5).trans rfl
      have hfs35 := bF BK185.out 5
      have hns35_0 := NB172_185.out
      have hns35_1 := NB173_185.out
      have hns35_2 := NB181_185.out
      have hns35_4 := NB186_185.out
      have hms35_0 := NB185_172.out
      have hms35_1 := NB185_173.out
      have hms35_2 := NB185_181.out
      have hms35_4 := NB185_186.out
      refine skip_ (w1 := ?_) (by rfl) rfl ?_ ?_
      rotate_left
      ·go_simp
       rfl
      refine hK.out _ _ ⟨((cF (p := ⟨gb185, _, none⟩) NB172_185.out _).trans (((cF (p := ⟨gb185, _, none⟩) NB172_185.out _).trans (((cF (p := ⟨gb185, _, none⟩) NB172_185.out _).trans (((cF (p := ⟨gb185, _, none⟩) NB172_185.out _).trans (((cF (p := ⟨gb185, _, none⟩) NB172_185.out _).trans (((cF (p := ⟨gb185, _, none⟩) NB172_185.out _).trans (hHeld.1)))))))))))), ((cF (p := ⟨gb185, _, none⟩) NB172_185.out _).trans (((cF (p := ⟨gb185, _, none⟩) NB172_185.out _).trans (((cF (p := ⟨gb185, _, none⟩) NB172_185.out _).trans (((cF (p := ⟨gb185, _, none⟩) NB172_185.out _).trans (((cF (p := ⟨gb185, _, none⟩) NB172_185.out _).trans (((cF (p := ⟨gb185, _, none⟩) NB172_185.out _).trans (hHeld.2.1)))))))))))), ((cF (p := ⟨gb185, _, none⟩) NB172_185.out _).trans (((cF (p := ⟨gb185, _, none⟩) NB172_185.out _).trans (((cF (p := ⟨gb185, _, none⟩) NB172_185.out _).trans (((cF (p := ⟨gb185, _, none⟩) NB172_185.out _).trans (((cF (p := ⟨gb185, _, none⟩) NB172_185.out _).trans (((cF (p := ⟨gb185, _, none⟩) NB172_185.out _).trans (hHeld.2.2.1)))))))))))), ((cF (p := ⟨gb185, _, none⟩) NB172_185.out _).trans (((cF (p := ⟨gb185, _, none⟩) NB172_185.out _).trans (((cF (p := ⟨gb185, _, none⟩) NB172_185.out _).trans (((cF (p := ⟨gb185, _, none⟩) NB172_185.out _).trans (((cF (p := ⟨gb185, _, none⟩) NB172_185.out _).trans (((cF (p := ⟨gb185, _, none⟩) NB172_185.out _).trans (hHeld.2.2.2.1)))))))))))), ((cF (p := ⟨gb185, _, none⟩) NB172_185.out _).trans (((cF (p := ⟨gb185, _, none⟩) NB172_185.out _).trans (((cF (p := ⟨gb185, _, none⟩) NB172_185.out _).trans (((cF (p := ⟨gb185, _, none⟩) NB172_185.out _).trans (((cF (p := ⟨gb185, _, none⟩) NB172_185.out _).trans (((cF (p := ⟨gb185, _, none⟩) NB172_185.out _).trans (hHeld.2.2.2.2.1)))))))))))), ((cF (p := ⟨gb185, _, none⟩) NB172_185.out _).trans (((cF (p := ⟨gb185, _, none⟩) NB172_185.out _).trans (((cF (p := ⟨gb185, _, none⟩) NB172_185.out _).trans (((cF (p := ⟨gb185, _, none⟩) NB172_185.out _).trans (((cF (p := ⟨gb185, _, none⟩) NB172_185.out _).trans (((cF (p := ⟨gb185, _, none⟩) NB172_185.out _).trans (hHeld.2.2.2.2.2))))))))))))⟩ (fun hHeld => ?_)
      clear hK K
      refine one_ (i := 5) (N := none) #[true, true, true, true, true, true] rfl rfl (by kernel_rfl) (by decide) (fun K hK => ?_)
      have hs36 : w29.cell? ⟨gb186, 0, none⟩ = some (.int .u8 0) := (bC BK186.out 0).trans rfl
      have hfs36 := bF BK186.out 0
      have hns36_0 := NB172_186.out
      have hns36_1 := NB173_186.out
      have hns36_2 := NB181_186.out
      have hns36_3 := NB185_186.out
      have hms36_0 := NB186_172.out
      have hms36_1 := NB186_173.out
      have hms36_2 := NB186_181.out
      have hms36_3 := NB186_185.out
      have hs37 : w29.cell? ⟨gb186, 1, none⟩ = some (.int .i64 0) := (bC BK186.out 1).trans rfl
      have hfs37 := bF BK186.out 1
      have hns37_0 := NB172_186.out
      have hns37_1 := NB173_186.out
      have hns37_2 := NB181_186.out
      have hns37_3 := NB185_186.out
      have hms37_0 := NB186_172.out
      have hms37_1 := NB186_173.out
      have hms37_2 := NB186_181.out
      have hms37_3 := NB186_185.out
      have hs38 : w29.cell? ⟨gb186, 2, none⟩ = some (.string (⟨#[]⟩ : BA)) := (bC BK186.out 2).trans rfl
      have hfs38 := bF BK186.out 2
      have hns38_0 := NB172_186.out
      have hns38_1 := NB173_186.out
      have hns38_2 := NB181_186.out
      have hns38_3 := NB185_186.out
      have hms38_0 := NB186_172.out
      have hms38_1 := NB186_173.out
      have hms38_2 := NB186_181.out
      have hms38_3 := NB186_185.out
      have hs39 : w29.cell? ⟨gb186, 3, none⟩ = some (.string (⟨#[]⟩ : BA)) := (bC BK186.out 3).trans rfl
      have hfs39 := bF BK186.out 3
      have hns39_0 := NB172_186.out
      have hns39_1 := NB173_186.out
      have hns39_2 := NB181_186.out
      have hns39_3 := NB185_186.out
      have hms39_0 := NB186_172.out
      have hms39_1 := NB186_173.out
      have hms39_2 := NB186_181.out
      have hms39_3 := NB186_185.out
      have hs40 : w29.cell? ⟨gb186, 4, none⟩ = some (.string (⟨#[]⟩ : BA)) := (bC BK186.out 4).trans rfl
      have hfs40 := bF BK186.out 4
      have hns40_0 := NB172_186.out
      have hns40_1 := NB173_186.out
      have hns40_2 := NB181_186.out
      have hns40_3 := NB185_186.out
      have hms40_0 := NB186_172.out
      have hms40_1 := NB186_173.out
      have hms40_2 := NB186_181.out
      have hms40_3 := NB186_185.out
      have hs41 : w29.cell? ⟨gb186, 5, none⟩ = some (.int .u64 0) := (bC BK186.out 5).trans rfl
      have hfs41 := bF BK186.out 5
      have hns41_0 := NB172_186.out
      have hns41_1 := NB173_186.out
      have hns41_2 := NB181_186.out
      have hns41_3 := NB185_186.out
      have hms41_0 := NB186_172.out
      have hms41_1 := NB186_173.out
      have hms41_2 := NB186_181.out
      have hms41_3 := NB186_185.out
      refine skip_ (w1 := ?_) (by rfl) rfl ?_ ?_
      rotate_left
      ·go_simp
       rfl
      refine hK.out _ _ ⟨((cF (p := ⟨gb186, _, none⟩) NB172_186.out _).trans (((cF (p := ⟨gb186, _, none⟩) NB172_186.out _).trans (((cF (p := ⟨gb186, _, none⟩) NB172_186.out _).trans (((cF (p := ⟨gb186, _, none⟩) NB172_186.out _).trans (((cF (p := ⟨gb186, _, none⟩) NB172_186.out _).trans (((cF (p := ⟨gb186, _, none⟩) NB172_186.out _).trans (hHeld.1)))))))))))), ((cF (p := ⟨gb186, _, none⟩) NB172_186.out _).trans (((cF (p := ⟨gb186, _, none⟩) NB172_186.out _).trans (((cF (p := ⟨gb186, _, none⟩) NB172_186.out _).trans (((cF (p := ⟨gb186, _, none⟩) NB172_186.out _).trans (((cF (p := ⟨gb186, _, none⟩) NB172_186.out _).trans (((cF (p := ⟨gb186, _, none⟩) NB172_186.out _).trans (hHeld.2.1)))))))))))), ((cF (p := ⟨gb186, _, none⟩) NB172_186.out _).trans (((cF (p := ⟨gb186, _, none⟩) NB172_186.out _).trans (((cF (p := ⟨gb186, _, none⟩) NB172_186.out _).trans (((cF (p := ⟨gb186, _, none⟩) NB172_186.out _).trans (((cF (p := ⟨gb186, _, none⟩) NB172_186.out _).trans (((cF (p := ⟨gb186, _, none⟩) NB172_186.out _).trans (hHeld.2.2.1)))))))))))), ((cF (p := ⟨gb186, _, none⟩) NB172_186.out _).trans (((cF (p := ⟨gb186, _, none⟩) NB172_186.out _).trans (((cF (p := ⟨gb186, _, none⟩) NB172_186.out _).trans (((cF (p := ⟨gb186, _, none⟩) NB172_186.out _).trans (((cF (p := ⟨gb186, _, none⟩) NB172_186.out _).trans (((cF (p := ⟨gb186, _, none⟩) NB172_186.out _).trans (hHeld.2.2.2.1)))))))))))), ((cF (p := ⟨gb186, _, none⟩) NB172_186.out _).trans (((cF (p := ⟨gb186, _, none⟩) NB172_186.out _).trans (((cF (p := ⟨gb186, _, none⟩) NB172_186.out _).trans (((cF (p := ⟨gb186, _, none⟩) NB172_186.out _).trans (((cF (p := ⟨gb186, _, none⟩) NB172_186.out _).trans (((cF (p := ⟨gb186, _, none⟩) NB172_186.out _).trans (hHeld.2.2.2.2.1)))))))))))), ((cF (p := ⟨gb186, _, none⟩) NB172_186.out _).trans (((cF (p := ⟨gb186, _, none⟩) NB172_186.out _).trans (((cF (p := ⟨gb186, _, none⟩) NB172_186.out _).trans (((cF (p := ⟨gb186, _, none⟩) NB172_186.out _).trans (((cF (p := ⟨gb186, _, none⟩) NB172_186.out _).trans (((cF (p := ⟨gb186, _, none⟩) NB172_186.out _).trans (hHeld.2.2.2.2.2))))))))))))⟩ (fun hHeld => ?_)
      clear hK K
      refine done_ (by kernel_rfl) ?_
      try go_wp2
      have n0_ : Aside0 (((((((((((((w29.setCell ⟨gb185, 0, none⟩ (.int .u8 a0_0)).setCell ⟨gb185, 1, none⟩ (.int .i64 a0_1)).setCell ⟨gb185, 2, none⟩ (.string a0_2)).setCell ⟨gb185, 3, none⟩ (.string a0_3)).setCell ⟨gb185, 4, none⟩ (.string a0_4)).setCell ⟨gb185, 5, none⟩ (.int .u64 a0_5)).setCell ⟨gb186, 0, none⟩ (.int .u8 a0_0)).setCell ⟨gb186, 1, none⟩ (.int .i64 a0_1)).setCell ⟨gb186, 2, none⟩ (.string a0_2)).setCell ⟨gb186, 3, none⟩ (.string a0_3)).setCell ⟨gb186, 4, none⟩ (.string a0_4)).setCell ⟨gb186, 5, none⟩ (.int .u64 a0_5)).heap[gb172]? = some (.cells #[.int .u8 a0_0, .int .i64 a0_1, .string a0_2, .string a0_3, .string a0_4, .int .u64 a0_5] 25 (0, 0))) := ⟨by (with_reducible repeat (first | refine bN ?_ _ | refine bD ?_ | refine bA ?_ _)); refine bR ?_ NB172_186.out _; (with_reducible repeat (first | refine bN ?_ _ | refine bD ?_ | refine bA ?_ _)); refine bR ?_ NB172_186.out _; (with_reducible repeat (first | refine bN ?_ _ | refine bD ?_ | refine bA ?_ _)); refine bR ?_ NB172_186.out _; (with_reducible repeat (first | refine bN ?_ _ | refine bD ?_ | refine bA ?_ _)); refine bR ?_ NB172_186.out _; (with_reducible repeat (first | refine bN ?_ _ | refine bD ?_ | refine bA ?_ _)); refine bR ?_ NB172_186.out _; (with_reducible repeat (first | refine bN ?_ _ | refine bD ?_ | refine bA ?_ _)); refine bR ?_ NB172_186.out _; (with_reducible repeat (first | refine bN ?_ _ | refine bD ?_ | refine bA ?_ _)); refine bR ?_ NB172_185.out _; (with_reducible repeat (first | refine bN ?_ _ | refine bD ?_ | refine bA ?_ _)); refine bR ?_ NB172_185.out _; (with_reducible repeat (first | refine bN ?_ _ | refine bD ?_ | refine bA ?_ _)); refine bR ?_ NB172_185.out _; (with_reducible repeat (first | refine bN ?_ _ | refine bD ?_ | refine bA ?_ _)); refine bR ?_ NB172_185.out _; (with_reducible repeat (first | refine bN ?_ _ | refine bD ?_ | refine bA ?_ _)); refine bR ?_ NB172_185.out _; (with_reducible repeat (first | refine bN ?_ _ | refine bD ?_ | refine bA ?_ _)); refine bR ?_ NB172_185.out _; (with_reducible repeat (first | refine bN ?_ _ | refine bD ?_ | refine bA ?_ _)); exact BK172.out⟩
      have n1_ : Aside0 (((((((((((((w29.setCell ⟨gb185, 0, none⟩ (.int .u8 a0_0)).setCell ⟨gb185, 1, none⟩ (.int .i64 a0_1)).setCell ⟨gb185, 2, none⟩ (.string a0_2)).setCell ⟨gb185, 3, none⟩ (.string a0_3)).setCell ⟨gb185, 4, none⟩ (.string a0_4)).setCell ⟨gb185, 5, none⟩ (.int .u64 a0_5)).setCell ⟨gb186, 0, none⟩ (.int .u8 a0_0)).setCell ⟨gb186, 1, none⟩ (.int .i64 a0_1)).setCell ⟨gb186, 2, none⟩ (.string a0_2)).setCell ⟨gb186, 3, none⟩ (.string a0_3)).setCell ⟨gb186, 4, none⟩ (.string a0_4)).setCell ⟨gb186, 5, none⟩ (.int .u64 a0_5)).heap[gb173]? = some (.cells #[.string a1_0, .string a1_1] 31 (0, 0))) := ⟨by (with_reducible repeat (first | refine bN ?_ _ | refine bD ?_ | refine bA ?_ _)); refine bR ?_ NB173_186.out _; (with_reducible repeat (first | refine bN ?_ _ | refine bD ?_ | refine bA ?_ _)); refine bR ?_ NB173_186.out _; (with_reducible repeat (first | refine bN ?_ _ | refine bD ?_ | refine bA ?_ _)); refine bR ?_ NB173_186.out _; (with_reducible repeat (first | refine bN ?_ _ | refine bD ?_ | refine bA ?_ _)); refine bR ?_ NB173_186.out _; (with_reducible repeat (first | refine bN ?_ _ | refine bD ?_ | refine bA ?_ _)); refine bR ?_ NB173_186.out _; (with_reducible repeat (first | refine bN ?_ _ | refine bD ?_ | refine bA ?_ _)); refine bR ?_ NB173_186.out _; (with_reducible repeat (first | refine bN ?_ _ | refine bD ?_ | refine bA ?_ _)); refine bR ?_ NB173_185.out _; (with_reducible repeat (first | refine bN ?_ _ | refine bD ?_ | refine bA ?_ _)); refine bR ?_ NB173_185.out _; (with_reducible repeat (first | refine bN ?_ _ | refine bD ?_ | refine bA ?_ _)); refine bR ?_ NB173_185.out _; (with_reducible repeat (first | refine bN ?_ _ | refine bD ?_ | refine bA ?_ _)); refine bR ?_ NB173_185.out _; (with_reducible repeat (first | refine bN ?_ _ | refine bD ?_ | refine bA ?_ _)); refine bR ?_ NB173_185.out _; (with_reducible repeat (first | refine bN ?_ _ | refine bD ?_ | refine bA ?_ _)); refine bR ?_ NB173_185.out _; (with_reducible repeat (first | refine bN ?_ _ | refine bD ?_ | refine bA ?_ _)); exact BK173.out⟩
      have n2_ : Aside0 (((((((((((((w29.setCell ⟨gb185, 0, none⟩ (.int .u8 a0_0)).setCell ⟨gb185, 1, none⟩ (.int .i64 a0_1)).setCell ⟨gb185, 2, none⟩ (.string a0_2)).setCell ⟨gb185, 3, none⟩ (.string a0_3)).setCell ⟨gb185, 4, none⟩ (.string a0_4)).setCell ⟨gb185, 5, none⟩ (.int .u64 a0_5)).setCell ⟨gb186, 0, none⟩ (.int .u8 a0_0)).setCell ⟨gb186, 1, none⟩ (.int .i64 a0_1)).setCell ⟨gb186, 2, none⟩ (.string a0_2)).setCell ⟨gb186, 3, none⟩ (.string a0_3)).setCell ⟨gb186, 4, none⟩ (.string a0_4)).setCell ⟨gb186, 5, none⟩ (.int .u64 a0_5)).heap[gb181]? = some (.cells #[.int .u8 t174, .int .i64 t175, .string t176, .string t177, .string t178, .int .u64 t179] 25 (0, 0))) := ⟨by (with_reducible repeat (first | refine bN ?_ _ | refine bD ?_ | refine bA ?_ _)); refine bR ?_ NB181_186.out _; (with_reducible repeat (first | refine bN ?_ _ | refine bD ?_ | refine bA ?_ _)); refine bR ?_ NB181_186.out _; (with_reducible repeat (first | refine bN ?_ _ | refine bD ?_ | refine bA ?_ _)); refine bR ?_ NB181_186.out _; (with_reducible repeat (first | refine bN ?_ _ | refine bD ?_ | refine bA ?_ _)); refine bR ?_ NB181_186.out _; (with_reducible repeat (first | refine bN ?_ _ | refine bD ?_ | refine bA ?_ _)); refine bR ?_ NB181_186.out _; (with_reducible repeat (first | refine bN ?_ _ | refine bD ?_ | refine bA ?_ _)); refine bR ?_ NB181_186.out _; (with_reducible repeat (first | refine bN ?_ _ | refine bD ?_ | refine bA ?_ _)); refine bR ?_ NB181_185.out _; (with_reducible repeat (first | refine bN ?_ _ | refine bD ?_ | refine bA ?_ _)); refine bR ?_ NB181_185.out _; (with_reducible repeat (first | refine bN ?_ _ | refine bD ?_ | refine bA ?_ _)); refine bR ?_ NB181_185.out _; (with_reducible repeat (first | refine bN ?_ _ | refine bD ?_ | refine bA ?_ _)); refine bR ?_ NB181_185.out _; (with_reducible repeat (first | refine bN ?_ _ | refine bD ?_ | refine bA ?_ _)); refine bR ?_ NB181_185.out _; (with_reducible repeat (first | refine bN ?_ _ | refine bD ?_ | refine bA ?_ _)); refine bR ?_ NB181_185.out _; (with_reducible repeat (first | refine bN ?_ _ | refine bD ?_ | refine bA ?_ _)); exact BK181.out⟩
      have n3_ : Aside0 (((((((((((((w29.setCell ⟨gb185, 0, none⟩ (.int .u8 a0_0)).setCell ⟨gb185, 1, none⟩ (.int .i64 a0_1)).setCell ⟨gb185, 2, none⟩ (.string a0_2)).setCell ⟨gb185, 3, none⟩ (.string a0_3)).setCell ⟨gb185, 4, none⟩ (.string a0_4)).setCell ⟨gb185, 5, none⟩ (.int .u64 a0_5)).setCell ⟨gb186, 0, none⟩ (.int .u8 a0_0)).setCell ⟨gb186, 1, none⟩ (.int .i64 a0_1)).setCell ⟨gb186, 2, none⟩ (.string a0_2)).setCell ⟨gb186, 3, none⟩ (.string a0_3)).setCell ⟨gb186, 4, none⟩ (.string a0_4)).setCell ⟨gb186, 5, none⟩ (.int .u64 a0_5)).heap[gb185]? = some (.cells #[.int .u8 a0_0, .int .i64 a0_1, .string a0_2, .string a0_3, .string a0_4, .int .u64 a0_5] 25 (0, 0))) := ⟨by (with_reducible repeat (first | refine bN ?_ _ | refine bD ?_ | refine bA ?_ _)); refine bR ?_ NB185_186.out _; (with_reducible repeat (first | refine bN ?_ _ | refine bD ?_ | refine bA ?_ _)); refine bR ?_ NB185_186.out _; (with_reducible repeat (first | refine bN ?_ _ | refine bD ?_ | refine bA ?_ _)); refine bR ?_ NB185_186.out _; (with_reducible repeat (first | refine bN ?_ _ | refine bD ?_ | refine bA ?_ _)); refine bR ?_ NB185_186.out _; (with_reducible repeat (first | refine bN ?_ _ | refine bD ?_ | refine bA ?_ _)); refine bR ?_ NB185_186.out _; (with_reducible repeat (first | refine bN ?_ _ | refine bD ?_ | refine bA ?_ _)); refine bR ?_ NB185_186.out _; (with_reducible repeat (first | refine bN ?_ _ | refine bD ?_ | refine bA ?_ _)); refine bP (cs := #[.int .u8 a0_0, .int .i64 a0_1, .string a0_2, .string a0_3, .string a0_4, .int .u64 0]) ?_ 5 _ rfl; (with_reducible repeat (first | refine bN ?_ _ | refine bD ?_ | refine bA ?_ _)); refine bP (cs := #[.int .u8 a0_0, .int .i64 a0_1, .string a0_2, .string a0_3, .string (⟨#[]⟩ : BA), .int .u64 0]) ?_ 4 _ rfl; (with_reducible repeat (first | refine bN ?_ _ | refine bD ?_ | refine bA ?_ _)); refine bP (cs := #[.int .u8 a0_0, .int .i64 a0_1, .string a0_2, .string (⟨#[]⟩ : BA), .string (⟨#[]⟩ : BA), .int .u64 0]) ?_ 3 _ rfl; (with_reducible repeat (first | refine bN ?_ _ | refine bD ?_ | refine bA ?_ _)); refine bP (cs := #[.int .u8 a0_0, .int .i64 a0_1, .string (⟨#[]⟩ : BA), .string (⟨#[]⟩ : BA), .string (⟨#[]⟩ : BA), .int .u64 0]) ?_ 2 _ rfl; (with_reducible repeat (first | refine bN ?_ _ | refine bD ?_ | refine bA ?_ _)); refine bP (cs := #[.int .u8 a0_0, .int .i64 0, .string (⟨#[]⟩ : BA), .string (⟨#[]⟩ : BA), .string (⟨#[]⟩ : BA), .int .u64 0]) ?_ 1 _ rfl; (with_reducible repeat (first | refine bN ?_ _ | refine bD ?_ | refine bA ?_ _)); refine bP (cs := #[.int .u8 0, .int .i64 0, .string (⟨#[]⟩ : BA), .string (⟨#[]⟩ : BA), .string (⟨#[]⟩ : BA), .int .u64 0]) ?_ 0 _ rfl; (with_reducible repeat (first | refine bN ?_ _ | refine bD ?_ | refine bA ?_ _)); exact BK185.out⟩
      have n4_ : Aside0 (((((((((((((w29.setCell ⟨gb185, 0, none⟩ (.int .u8 a0_0)).setCell ⟨gb185, 1, none⟩ (.int .i64 a0_1)).setCell ⟨gb185, 2, none⟩ (.string a0_2)).setCell ⟨gb185, 3, none⟩ (.string a0_3)).setCell ⟨gb185, 4, none⟩ (.string a0_4)).setCell ⟨gb185, 5, none⟩ (.int .u64 a0_5)).setCell ⟨gb186, 0, none⟩ (.int .u8 a0_0)).setCell ⟨gb186, 1, none⟩ (.int .i64 a0_1)).setCell ⟨gb186, 2, none⟩ (.string a0_2)).setCell ⟨gb186, 3, none⟩ (.string a0_3)).setCell ⟨gb186, 4, none⟩ (.string a0_4)).setCell ⟨gb186, 5, none⟩ (.int .u64 a0_5)).heap[gb186]? = some (.cells #[.int .u8 a0_0, .int .i64 a0_1, .string a0_2, .string a0_3, .string a0_4, .int .u64 a0_5] 25 (0, 0))) := ⟨by (with_reducible repeat (first | refine bN ?_ _ | refine bD ?_ | refine bA ?_ _)); refine bP (cs := #[.int .u8 a0_0, .int .i64 a0_1, .string a0_2, .string a0_3, .string a0_4, .int .u64 0]) ?_ 5 _ rfl; (with_reducible repeat (first | refine bN ?_ _ | refine bD ?_ | refine bA ?_ _)); refine bP (cs := #[.int .u8 a0_0, .int .i64 a0_1, .string a0_2, .string a0_3, .string (⟨#[]⟩ : BA), .int .u64 0]) ?_ 4 _ rfl; (with_reducible repeat (first | refine bN ?_ _ | refine bD ?_ | refine bA ?_ _)); refine bP (cs := #[.int .u8 a0_0, .int .i64 a0_1, .string a0_2, .string (⟨#[]⟩ : BA), .string (⟨#[]⟩ : BA), .int .u64 0]) ?_ 3 _ rfl; (with_reducible repeat (first | refine bN ?_ _ | refine bD ?_ | refine bA ?_ _)); refine bP (cs := #[.int .u8 a0_0, .int .i64 a0_1, .string (⟨#[]⟩ : BA), .string (⟨#[]⟩ : BA), .string (⟨#[]⟩ : BA), .int .u64 0]) ?_ 2 _ rfl; (with_reducible repeat (first | refine bN ?_ _ | refine bD ?_ | refine bA ?_ _)); refine bP (cs := #[.int .u8 a0_0, .int .i64 0, .string (⟨#[]⟩ : BA), .string (⟨#[]⟩ : BA), .string (⟨#[]⟩ : BA), .int .u64 0]) ?_ 1 _ rfl; (with_reducible repeat (first | refine bN ?_ _ | refine bD ?_ | refine bA ?_ _)); refine bP (cs := #[.int .u8 0, .int .i64 0, .string (⟨#[]⟩ : BA), .string (⟨#[]⟩ : BA), .string (⟨#[]⟩ : BA), .int .u64 0]) ?_ 0 _ rfl; (with_reducible repeat (first | refine bN ?_ _ | refine bD ?_ | refine bA ?_ _)); refine bR ?_ NB186_185.out _; (with_reducible repeat (first | refine bN ?_ _ | refine bD ?_ | refine bA ?_ _)); refine bR ?_ NB186_185.out _; (with_reducible repeat (first | refine bN ?_ _ | refine bD ?_ | refine bA ?_ _)); refine bR ?_ NB186_185.out _; (with_reducible repeat (first | refine bN ?_ _ | refine bD ?_ | refine bA ?_ _)); refine bR ?_ NB186_185.out _; (with_reducible repeat (first | refine bN ?_ _ | refine bD ?_ | refine bA ?_ _)); refine bR ?_ NB186_185.out _; (with_reducible repeat (first | refine bN ?_ _ | refine bD ?_ | refine bA ?_ _)); refine bR ?_ NB186_185.out _; (with_reducible repeat (first | refine bN ?_ _ | refine bD ?_ | refine bA ?_ _)); exact BK186.out⟩
      have n5_ : Aside0 (Below w.heap.size w ((((((((((((w29.setCell ⟨gb185, 0, none⟩ (.int .u8 a0_0)).setCell ⟨gb185, 1, none⟩ (.int .i64 a0_1)).setCell ⟨gb185, 2, none⟩ (.string a0_2)).setCell ⟨gb185, 3, none⟩ (.string a0_3)).setCell ⟨gb185, 4, none⟩ (.string a0_4)).setCell ⟨gb185, 5, none⟩ (.int .u64 a0_5)).setCell ⟨gb186, 0, none⟩ (.int .u8 a0_0)).setCell ⟨gb186, 1, none⟩ (.int .i64 a0_1)).setCell ⟨gb186, 2, none⟩ (.string a0_2)).setCell ⟨gb186, 3, none⟩ (.string a0_3)).setCell ⟨gb186, 4, none⟩ (.string a0_4)).setCell ⟨gb186, 5, none⟩ (.int .u64 a0_5))) := ⟨by repeat (first | (with_reducible first | exact HB.out | apply wA | apply wN | apply w1 | refine wS ?_ GE172.out | refine wS ?_ GE173.out | refine wS ?_ GE181.out | refine wS ?_ GE185.out | refine wS ?_ GE186.out) | exact HB.out)⟩
      (try clear BK172)
      (try clear BK173)
      (try clear BK181)
      (try clear BK185)
      (try clear BK186)
      (try clear HB)
      generalize ((((((((((((w29.setCell ⟨gb185, 0, none⟩ (.int .u8 a0_0)).setCell ⟨gb185, 1, none⟩ (.int .i64 a0_1)).setCell ⟨gb185, 2, none⟩ (.string a0_2)).setCell ⟨gb185, 3, none⟩ (.string a0_3)).setCell ⟨gb185, 4, none⟩ (.string a0_4)).setCell ⟨gb185, 5, none⟩ (.int .u64 a0_5)).setCell ⟨gb186, 0, none⟩ (.int .u8 a0_0)).setCell ⟨gb186, 1, none⟩ (.int .i64 a0_1)).setCell ⟨gb186, 2, none⟩ (.string a0_2)).setCell ⟨gb186, 3, none⟩ (.string a0_3)).setCell ⟨gb186, 4, none⟩ (.string a0_4)).setCell ⟨gb186, 5, none⟩ (.int .u64 a0_5)) = w42 at n0_ n1_ n2_ n3_ n4_ n5_ ⊢
      have BK172 := n0_
      have BK173 := n1_
      have BK181 := n2_
      have BK185 := n3_
      have BK186 := n4_
      have HB := n5_
      clear n0_ n1_ n2_ n3_ n4_ n5_
      have n0_ := Aside0.mk (bD BK172.out)
      have n1_ := Aside0.mk (bD BK173.out)
      have n2_ := Aside0.mk (bD BK181.out)
      have n3_ := Aside0.mk (bD BK185.out)
      have n4_ := Aside0.mk (bD BK186.out)
      have n5_ := Aside0.mk (w1 HB.out)
      clear BK172
      clear BK173
      clear BK181
      clear BK185
      clear BK186
      clear HB
      have BK172 := n0_
      have BK173 := n1_
      have BK181 := n2_
      have BK185 := n3_
      have BK186 := n4_
      have HB := n5_
      clear n0_ n1_ n2_ n3_ n4_ n5_
      refine start_ (n := 8) (S := fun w' => w'.cell? ⟨gb181, 0, none⟩ = some (.int .u8 t174) ∧ w'.cell? ⟨gb181, 1, none⟩ = some (.int .i64 t175) ∧ w'.cell? ⟨gb181, 2, none⟩ = some (.string t176) ∧ w'.cell? ⟨gb181, 3, none⟩ = some (.string t177) ∧ w'.cell? ⟨gb181, 4, none⟩ = some (.string t178) ∧ w'.cell? ⟨gb181, 5, none⟩ = some (.int .u64 t179)) (ds := []) #[false, false, false, false, false, false, false, false] (by kernel_rfl) rfl rfl ⟨(bC BK181.out 0).trans rfl, (bC BK181.out 1).trans rfl, (bC BK181.out 2).trans rfl, (bC BK181.out 3).trans rfl, (bC BK181.out 4).trans rfl, (bC BK181.out 5).trans rfl⟩ (fun hHeld => ?_); refine with_tabW msg_Rest.tab9 msg_Rest.bits9 (fun HT_ HW_ => ?_)
      generalize w42.drew = w43 at BK172 BK173 BK181 BK185 BK186 HB hHeld ⊢
      refine pure_ (i := 0) (N := some 33) (v := ?_) (a' := ?_) #[true, false, false, false, false, false, false, false] rfl rfl (any_of HT_.out (by kernel_rfl)) (fun _ _ _ h => h) (Or.inl ⟨by rfl, ?_⟩) ?_ ?_
      rotate_left
      ·intro w'
       go_simp
       with_reducible rfl
      rotate_left
      ·simp only [Act.put, sA1, sA2, sA3, i64_w, i32_w]
       rfl
      refine pure_ (i := 2) (N := some 35) (v := ?_) (a' := ?_) #[true, false, true, false, false, false, false, false] rfl rfl (any_of HT_.out (by kernel_rfl)) (fun _ _ _ h => h) (Or.inl ⟨by rfl, ?_⟩) ?_ ?_
      rotate_left
      ·intro w'
       go_simp
       with_reducible rfl
      rotate_left
      ·simp only [Act.put, sA1, sA2, sA3, i64_w, i32_w]
       rfl
      refine take_ (i := 1) (N := some 34) (v := ?_) (a' := ?_) #[true, true, true, false, false, false, false, false] rfl rfl (take_ofW HT_.out HW_.out (by kernel_rfl)) (fun _ _ _ h => h) (Or.inl ⟨by rfl, ?_⟩) hHeld ?_ ?_
      rotate_left
      ·rintro w' ⟨s0, s1, s2, s3, s4, s5⟩
       go_simp
       with_reducible rfl
      rotate_left
      ·simp only [Act.put, sA1, sA2, sA3, i64_w, i32_w]
       rfl
      refine pure_ (i := 4) (N := some 37) (v := ?_) (a' := ?_) #[true, true, true, false, true, false, false, false] rfl rfl (any_of HT_.out (by kernel_rfl)) (fun _ _ _ h => h) (Or.inl ⟨by rfl, ?_⟩) ?_ ?_
      rotate_left
      ·intro w'
       go_simp
       with_reducible rfl
      rotate_left
      ·simp only [Act.put, sA1, sA2, sA3, i64_w, i32_w]
       rfl
      refine take_ (i := 3) (N := some 36) (v := ?_) (a' := ?_) #[true, true, true, true, true, false, false, false] rfl rfl (take_ofW HT_.out HW_.out (by kernel_rfl)) (fun _ _ _ h => h) (Or.inl ⟨by rfl, ?_⟩) hHeld ?_ ?_
      rotate_left
      ·rintro w' ⟨s0, s1, s2, s3, s4, s5⟩
       go_simp
       with_reducible rfl
      rotate_left
      ·simp only [Act.put, sA1, sA2, sA3, i64_w, i32_w]
       rfl
      refine one_ (i := 5) (N := none) #[true, true, true, true, true, true, false, false] rfl rfl (one_of HT_.out (by kernel_rfl)) (by decide) (fun K hK => ?_)
      have hs44 : w43.cell? ⟨gb185, 3, none⟩ = some (.string a0_3) := (bC BK185.out 3).trans rfl
      have hfs44 := bF BK185.out 3
      have hns44_0 := NB172_185.out
      have hns44_1 := NB173_185.out
      have hns44_2 := NB181_185.out
      have hns44_4 := NB186_185.out
      have hms44_0 := NB185_172.out
      have hms44_1 := NB185_173.out
      have hms44_2 := NB185_181.out
      have hms44_4 := NB185_186.out
      refine skip_ (w1 := ?_) (by rfl) rfl ?_ ?_
      rotate_left
      ·go_simp
       rfl
      refine hK.out _ _ ⟨((cF (p := ⟨gb185, _, none⟩) NB181_185.out _).trans (hHeld.1)), ((cF (p := ⟨gb185, _, none⟩) NB181_185.out _).trans (hHeld.2.1)), ((cF (p := ⟨gb185, _, none⟩) NB181_185.out _).trans (hHeld.2.2.1)), ((cF (p := ⟨gb185, _, none⟩) NB181_185.out _).trans (hHeld.2.2.2.1)), ((cF (p := ⟨gb185, _, none⟩) NB181_185.out _).trans (hHeld.2.2.2.2.1)), ((cF (p := ⟨gb185, _, none⟩) NB181_185.out _).trans (hHeld.2.2.2.2.2))⟩ (fun hHeld => ?_)
      clear hK K
      refine pure_ (i := 6) (N := some 38) (v := ?_) (a' := ?_) #[true, true, true, true, true, true, true, false] rfl rfl (any_of HT_.out (by kernel_rfl)) (fun _ _ _ h => h) (Or.inl ⟨by rfl, ?_⟩) ?_ ?_
      rotate_left
      ·intro w'
       go_simp
       with_reducible rfl
      rotate_left
      ·simp only [Act.put, sA1, sA2, sA3, i64_w, i32_w]
       rfl
      refine one_ (i := 7) (N := none) #[true, true, true, true, true, true, true, true] rfl rfl (one_of HT_.out (by kernel_rfl)) (by decide) (fun K hK => ?_)
      have hs45 : w43.cell? ⟨gb186, 2, none⟩ = some (.string a0_2) := (bC BK186.out 2).trans rfl
      have hfs45 := bF BK186.out 2
      have hns45_0 := NB172_186.out
      have hns45_1 := NB173_186.out
      have hns45_2 := NB181_186.out
      have hns45_3 := NB185_186.out
      have hms45_0 := NB186_172.out
      have hms45_1 := NB186_173.out
      have hms45_2 := NB186_181.out
      have hms45_3 := NB186_185.out
      refine skip_ (w1 := ?_) (by rfl) rfl ?_ ?_
      rotate_left
      ·go_simp
       rfl
      refine hK.out _ _ ⟨((cF (p := ⟨gb186, _, none⟩) NB181_186.out _).trans (hHeld.1)), ((cF (p := ⟨gb186, _, none⟩) NB181_186.out _).trans (hHeld.2.1)), ((cF (p := ⟨gb186, _, none⟩) NB181_186.out _).trans (hHeld.2.2.1)), ((cF (p := ⟨gb186, _, none⟩) NB181_186.out _).trans (hHeld.2.2.2.1)), ((cF (p := ⟨gb186, _, none⟩) NB181_186.out _).trans (hHeld.2.2.2.2.1)), ((cF (p := ⟨gb186, _, none⟩) NB181_186.out _).trans (hHeld.2.2.2.2.2))⟩ (fun hHeld => ?_)
      clear hK K
      refine done_ (done_of HT_.out (by kernel_rfl)) ?_
      have hnb46 := NB181_185.out
      have hnc46 := NB185_181.out
      have hnb47 := NB181_186.out
      have hnc47 := NB186_181.out
      have hcz48_0 : w43.cell? ⟨gb181, 0, none⟩ = some (.int .u8 t174) := (bC BK181.out 0).trans rfl
      have hcz48_1 : w43.cell? ⟨gb181, 1, none⟩ = some (.int .i64 t175) := (bC BK181.out 1).trans rfl
      have hcz48_2 : w43.cell? ⟨gb181, 2, none⟩ = some (.string t176) := (bC BK181.out 2).trans rfl
      have hcz48_3 : w43.cell? ⟨gb181, 3, none⟩ = some (.string t177) := (bC BK181.out 3).trans rfl
      have hcz48_4 : w43.cell? ⟨gb181, 4, none⟩ = some (.string t178) := (bC BK181.out 4).trans rfl
      have hcz48_5 : w43.cell? ⟨gb181, 5, none⟩ = some (.int .u64 t179) := (bC BK181.out 5).trans rfl
      have hfz48_0 := bF BK181.out 0
      have hfz48_1 := bF BK181.out 1
      have hfz48_2 := bF BK181.out 2
      have hfz48_3 := bF BK181.out 3
      have hfz48_4 := bF BK181.out 4
      have hfz48_5 := bF BK181.out 5
      have hnb49 := NB172_185.out
      have hnc49 := NB185_172.out
      have hnb50 := NB172_186.out
      have hnc50 := NB186_172.out
      have hcz51_0 : w43.cell? ⟨gb172, 0, none⟩ = some (.int .u8 a0_0) := (bC BK172.out 0).trans rfl
      have hcz51_1 : w43.cell? ⟨gb172, 1, none⟩ = some (.int .i64 a0_1) := (bC BK172.out 1).trans rfl
      have hcz51_2 : w43.cell? ⟨gb172, 2, none⟩ = some (.string a0_2) := (bC BK172.out 2).trans rfl
      have hcz51_3 : w43.cell? ⟨gb172, 3, none⟩ = some (.string a0_3) := (bC BK172.out 3).trans rfl
      have hcz51_4 : w43.cell? ⟨gb172, 4, none⟩ = some (.string a0_4) := (bC BK172.out 4).trans rfl
      have hcz51_5 : w43.cell? ⟨gb172, 5, none⟩ = some (.int .u64 a0_5) := (bC BK172.out 5).trans rfl
      have hfz51_0 := bF BK172.out 0
      have hfz51_1 := bF BK172.out 1
      have hfz51_2 := bF BK172.out 2
      have hfz51_3 := bF BK172.out 3
      have hfz51_4 := bF BK172.out 4
      have hfz51_5 := bF BK172.out 5
      go_upto_if 43 with (fail)
      go_cut [7] (fun v7 wc => ∃ (kq : Nat) (x7_14 : List (S25)), Aside0 (msg_Rest.j1 kq x7_14 a0_0 a0_1 a0_2 a0_3 a0_4 a0_5 t174 t175 t176 t177 t178 t179 a0_0 a0_1 t177 a0_3 a0_4 a0_5 = some r) ∧ Aside0 (kq ≤ kj2) ∧ Aside0 (Kd.R k25 25 wc w.heap.size (fun k_ => k_ ≠ gb172 ∧ k_ ≠ gb181 ∧ k_ ≠ gb185 ∧ k_ ≠ gb186) v7 x7_14) ∧ Aside0 (wc.heap[gb172]? = some (.cells #[.int .u8 a0_0, .int .i64 a0_1, .string a0_2, .string a0_3, .string a0_4, .int .u64 a0_5] 25 (0, 0))) ∧ Aside0 (wc.heap[gb173]? = some (.cells #[.string a1_0, .string a1_1] 31 (0, 0))) ∧ Aside0 (wc.heap[gb181]? = some (.cells #[.int .u8 t174, .int .i64 t175, .string t176, .string t177, .string t178, .int .u64 t179] 25 (0, 0))) ∧ Aside0 (wc.heap[gb185]? = some (.cells #[.int .u8 a0_0, .int .i64 a0_1, .string a0_2, .string t176, .string a0_4, .int .u64 a0_5] 25 (0, 0))) ∧ Aside0 (wc.heap[gb186]? = some (.cells #[.int .u8 a0_0, .int .i64 a0_1, .string t177, .string a0_3, .string a0_4, .int .u64 a0_5] 25 (0, 0))) ∧ Aside0 (Below w.heap.size w wc))
      case first =>
       have H := HC15.out
       clear HC15
       by_cases c52 : (Op.bytesLess a0_2.toList t176.toList) = true
       ·rw [if_pos c52] at H
        have c52b0 : (Op.bytesLess a0_2.toList t176.toList) = true := c52
        clear c52
        (first | rw [c52b0] | (simp only [i64_w, i32_w]; rw [c52b0]) | skip)
        by_cases c53 : ([] : List (S25)).length < 1954687338268
        ·rw [if_pos c53] at H
         have LMc53 := Aside0.mk c53
         clear c53
         obtain ⟨y187, hy187⟩ : ∃ y_ : List (S25), y_ = (([] : List (S25)) ++ [(⟨a0_0, a0_1, a0_2, t176, a0_4, a0_5⟩ : S25)]) := ⟨_, rfl⟩
         replace H : (msg_Rest.j1 kj2 y187 a0_0 a0_1 a0_2 a0_3 a0_4 a0_5 t174 t175 t176 t177 t178 t179 a0_0 a0_1 t177 a0_3 a0_4 a0_5) = some r := by first | (rw [hy187]; with_reducible exact H) | (have H2_ := (Option.bind_some _ _).symm.trans H; rw [hy187]; with_reducible exact H2_) | (have H2_ := (Option.bind_some _ _).symm.trans H; with_reducible exact H2_) | with_reducible exact H | (rw [hy187]; exact H) | exact H
         have Ny187 := Aside0.mk hy187
         clear hy187
         have H' := Aside0.mk H
         clear H
         have hnb54 := NB185_172.out
         have hnc54 := NB172_185.out
         have hnb55 := NB185_173.out
         have hnc55 := NB173_185.out
         have hnb56 := NB185_181.out
         have hnc56 := NB181_185.out
         have hnb57 := NB185_186.out
         have hnc57 := NB186_185.out
         have hcz58_0 : w43.cell? ⟨gb185, 0, none⟩ = some (.int .u8 a0_0) := (bC BK185.out 0).trans rfl
         have hcz58_1 : w43.cell? ⟨gb185, 1, none⟩ = some (.int .i64 a0_1) := (bC BK185.out 1).trans rfl
         have hcz58_2 : w43.cell? ⟨gb185, 2, none⟩ = some (.string a0_2) := (bC BK185.out 2).trans rfl
         have hcz58_3 : w43.cell? ⟨gb185, 3, none⟩ = some (.string a0_3) := (bC BK185.out 3).trans rfl
         have hcz58_4 : w43.cell? ⟨gb185, 4, none⟩ = some (.string a0_4) := (bC BK185.out 4).trans rfl
         have hcz58_5 : w43.cell? ⟨gb185, 5, none⟩ = some (.int .u64 a0_5) := (bC BK185.out 5).trans rfl
         have hfz58_0 := bF BK185.out 0
         have hfz58_1 := bF BK185.out 1
         have hfz58_2 := bF BK185.out 2
         have hfz58_3 := bF BK185.out 3
         have hfz58_4 := bF BK185.out 4
         have hfz58_5 := bF BK185.out 5
         go_wp2_with (first | ((with_reducible refine gate_builtin (b := .append) (xs := #[.tmp 44, .tmp 46]) rfl ?_); at_builtin; refine Kd.R_append k25 (w0 := w) w.heap.size rfl (.tmp 44) (.tmp 46) 40 25 (.agg #[(.int .u8 0), (.int .i64 0), (.string ⟨#[]⟩), (.string ⟨#[]⟩), (.string ⟨#[]⟩), (.int .u64 0)]) 72 rfl Try.underlying40 info25 rfl (by decide) (by omega) (.slice none 0 0) ([] : List (S25)) (⟨a0_0, a0_1, a0_2, t176, a0_4, a0_5⟩ : S25) [.int .u8 a0_0, .int .i64 a0_1, .string a0_2, .string t176, .string a0_4, .int .u64 a0_5] (fun k_ => k_ ≠ gb172 ∧ k_ ≠ gb181 ∧ k_ ≠ gb185 ∧ k_ ≠ gb186) (fun _ => False) rfl (by first | (go_simp; done) | (go_simp; rfl)) ?aP (fun _ hk => hk.elim) ?aF ?aO ?aB ?aS ?aL ?_; (case aP => exact k25_mkM _ _ _ (⟨a0_0, a0_1, a0_2, t176, a0_4, a0_5⟩ : S25)); (case aB => exact (by repeat (first | (with_reducible first | exact HB.out | apply wA | apply wN | apply w1 | refine wS ?_ GE172.out | refine wS ?_ GE173.out | refine wS ?_ GE181.out | refine wS ?_ GE185.out | refine wS ?_ GE186.out) | exact HB.out))); (case aF => exact (fun k_ hk => ⟨Kd.freshB (g := gb172) (o := .cells #[.int .u8 a0_0, .int .i64 a0_1, .string a0_2, .string a0_3, .string a0_4, .int .u64 a0_5] 25 (0, 0)) (by (with_reducible repeat (first | refine bN ?_ _ | refine bD ?_ | refine bA ?_ _)); refine bR ?_ NB172_186.out _; (with_reducible repeat (first | refine bN ?_ _ | refine bD ?_ | refine bA ?_ _)); refine bR ?_ NB172_185.out _; (with_reducible repeat (first | refine bN ?_ _ | refine bD ?_ | refine bA ?_ _)); exact BK172.out) k_ hk, Kd.freshB (g := gb181) (o := .cells #[.int .u8 t174, .int .i64 t175, .string t176, .string t177, .string t178, .int .u64 t179] 25 (0, 0)) (by (with_reducible repeat (first | refine bN ?_ _ | refine bD ?_ | refine bA ?_ _)); refine bR ?_ NB181_186.out _; (with_reducible repeat (first | refine bN ?_ _ | refine bD ?_ | refine bA ?_ _)); refine bR ?_ NB181_185.out _; (with_reducible repeat (first | refine bN ?_ _ | refine bD ?_ | refine bA ?_ _)); exact BK181.out) k_ hk, Kd.freshB (g := gb185) (o := .cells #[.int .u8 a0_0, .int .i64 a0_1, .string a0_2, .string t176, .string a0_4, .int .u64 a0_5] 25 (0, 0)) (by (with_reducible repeat (first | refine bN ?_ _ | refine bD ?_ | refine bA ?_ _)); refine bR ?_ NB185_186.out _; (with_reducible repeat (first | refine bN ?_ _ | refine bD ?_ | refine bA ?_ _)); refine bP (cs := #[.int .u8 a0_0, .int .i64 a0_1, .string a0_2, .string a0_3, .string a0_4, .int .u64 a0_5]) ?_ 3 _ rfl; (with_reducible repeat (first | refine bN ?_ _ | refine bD ?_ | refine bA ?_ _)); exact BK185.out) k_ hk, Kd.freshB (g := gb186) (o := .cells #[.int .u8 a0_0, .int .i64 a0_1, .string t177, .string a0_3, .string a0_4, .int .u64 a0_5] 25 (0, 0)) (by (with_reducible repeat (first | refine bN ?_ _ | refine bD ?_ | refine bA ?_ _)); refine bP (cs := #[.int .u8 a0_0, .int .i64 a0_1, .string a0_2, .string a0_3, .string a0_4, .int .u64 a0_5]) ?_ 2 _ rfl; (with_reducible repeat (first | refine bN ?_ _ | refine bD ?_ | refine bA ?_ _)); refine bR ?_ NB186_185.out _; (with_reducible repeat (first | refine bN ?_ _ | refine bD ?_ | refine bA ?_ _)); exact BK186.out) k_ hk⟩)); (case aO => exact ((Kd.R_nil _ _ _ _ (fun k_ => k_ ≠ gb172 ∧ k_ ≠ gb181 ∧ k_ ≠ gb185 ∧ k_ ≠ gb186)))); (case aS => exact (wZ (by repeat (first | (with_reducible first | exact HB.out | apply wA | apply wN | apply w1 | refine wS ?_ GE172.out | refine wS ?_ GE173.out | refine wS ?_ GE181.out | refine wS ?_ GE185.out | refine wS ?_ GE186.out) | exact HB.out)))); (case aL => have := LMc53.out; omega); intro v188 w59 ho hb hg hat; rw [← Ny187.out] at ho; have n0_ := Aside0.mk (blk_grown (g := gb172) (o := .cells #[.int .u8 a0_0, .int .i64 a0_1, .string a0_2, .string a0_3, .string a0_4, .int .u64 a0_5] 25 (0, 0)) (by (with_reducible repeat (first | refine bN ?_ _ | refine bD ?_ | refine bA ?_ _)); refine bR ?_ NB172_186.out _; (with_reducible repeat (first | refine bN ?_ _ | refine bD ?_ | refine bA ?_ _)); refine bR ?_ NB172_185.out _; (with_reducible repeat (first | refine bN ?_ _ | refine bD ?_ | refine bA ?_ _)); exact BK172.out) hg (by simp [Value.ownBlock])); have n1_ := Aside0.mk (blk_grown (g := gb173) (o := .cells #[.string a1_0, .string a1_1] 31 (0, 0)) (by (with_reducible repeat (first | refine bN ?_ _ | refine bD ?_ | refine bA ?_ _)); refine bR ?_ NB173_186.out _; (with_reducible repeat (first | refine bN ?_ _ | refine bD ?_ | refine bA ?_ _)); refine bR ?_ NB173_185.out _; (with_reducible repeat (first | refine bN ?_ _ | refine bD ?_ | refine bA ?_ _)); exact BK173.out) hg (by simp [Value.ownBlock])); have n2_ := Aside0.mk (blk_grown (g := gb181) (o := .cells #[.int .u8 t174, .int .i64 t175, .string t176, .string t177, .string t178, .int .u64 t179] 25 (0, 0)) (by (with_reducible repeat (first | refine bN ?_ _ | refine bD ?_ | refine bA ?_ _)); refine bR ?_ NB181_186.out _; (with_reducible repeat (first | refine bN ?_ _ | refine bD ?_ | refine bA ?_ _)); refine bR ?_ NB181_185.out _; (with_reducible repeat (first | refine bN ?_ _ | refine bD ?_ | refine bA ?_ _)); exact BK181.out) hg (by simp [Value.ownBlock])); have n3_ := Aside0.mk (blk_grown (g := gb185) (o := .cells #[.int .u8 a0_0, .int .i64 a0_1, .string a0_2, .string t176, .string a0_4, .int .u64 a0_5] 25 (0, 0)) (by (with_reducible repeat (first | refine bN ?_ _ | refine bD ?_ | refine bA ?_ _)); refine bR ?_ NB185_186.out _; (with_reducible repeat (first | refine bN ?_ _ | refine bD ?_ | refine bA ?_ _)); refine bP (cs := #[.int .u8 a0_0, .int .i64 a0_1, .string a0_2, .string a0_3, .string a0_4, .int .u64 a0_5]) ?_ 3 _ rfl; (with_reducible repeat (first | refine bN ?_ _ | refine bD ?_ | refine bA ?_ _)); exact BK185.out) hg (by simp [Value.ownBlock])); have n4_ := Aside0.mk (blk_grown (g := gb186) (o := .cells #[.int .u8 a0_0, .int .i64 a0_1, .string t177, .string a0_3, .string a0_4, .int .u64 a0_5] 25 (0, 0)) (by (with_reducible repeat (first | refine bN ?_ _ | refine bD ?_ | refine bA ?_ _)); refine bP (cs := #[.int .u8 a0_0, .int .i64 a0_1, .string a0_2, .string a0_3, .string a0_4, .int .u64 a0_5]) ?_ 2 _ rfl; (with_reducible repeat (first | refine bN ?_ _ | refine bD ?_ | refine bA ?_ _)); refine bR ?_ NB186_185.out _; (with_reducible repeat (first | refine bN ?_ _ | refine bD ?_ | refine bA ?_ _)); exact BK186.out) hg (by simp [Value.ownBlock])); have n5_ := Aside0.mk (hb); have n6_ := Aside0.mk (ho); clear BK172; clear BK173; clear BK181; clear BK185; clear BK186; clear HB; have BK172 := n0_; have BK173 := n1_; have BK181 := n2_; have BK185 := n3_; have BK186 := n4_; have HB := n5_; have HO189 := n6_; clear n0_ n1_ n2_ n3_ n4_ n5_ n6_; clear ho hb hg hat))
         go_meet
         case rel => exact ⟨_, (y187), H', ⟨by have := HJ2.out; first | omega | exact Nat.le_refl _⟩, ⟨by (with_reducible repeat (first | apply Kd.R_alloc | apply Kd.R_drewN | apply Kd.R_drew)); exact HO189.out⟩, ⟨by (with_reducible repeat (first | refine bN ?_ _ | refine bD ?_ | refine bA ?_ _)); exact BK172.out⟩, ⟨by (with_reducible repeat (first | refine bN ?_ _ | refine bD ?_ | refine bA ?_ _)); exact BK173.out⟩, ⟨by (with_reducible repeat (first | refine bN ?_ _ | refine bD ?_ | refine bA ?_ _)); exact BK181.out⟩, ⟨by (with_reducible repeat (first | refine bN ?_ _ | refine bD ?_ | refine bA ?_ _)); exact BK185.out⟩, ⟨by (with_reducible repeat (first | refine bN ?_ _ | refine bD ?_ | refine bA ?_ _)); exact BK186.out⟩, ⟨by repeat (first | (with_reducible first | exact HB.out | apply wA | apply wN | apply w1 | refine wS ?_ GE172.out | refine wS ?_ GE173.out | refine wS ?_ GE181.out | refine wS ?_ GE185.out | refine wS ?_ GE186.out) | exact HB.out)⟩⟩
        ·rw [if_neg c53] at H
         exact absurd H (by simp)
       ·rw [if_neg c52] at H
        have c52b0 : (Op.bytesLess a0_2.toList t176.toList) = false := by simpa using c52
        clear c52
        (first | rw [c52b0] | (simp only [i64_w, i32_w]; rw [c52b0]) | skip)
        have H' := Aside0.mk H
        clear H
        go_wp2
        go_meet
        case rel => exact ⟨_, (([] : List (S25))), H', ⟨by have := HJ2.out; first | omega | exact Nat.le_refl _⟩, ⟨by first | exact Kd.R_nil _ _ _ _ _ | exact Kd.N_nil _ _ _ _ _ | exact Kd.V_nil _ _ _ _ _ | exact Kd.Q_nil _ _ _ _ _ | exact Kd.S_nil _ _ _ _ _⟩, ⟨by (with_reducible repeat (first | refine bN ?_ _ | refine bD ?_ | refine bA ?_ _)); refine bR ?_ NB172_186.out _; (with_reducible repeat (first | refine bN ?_ _ | refine bD ?_ | refine bA ?_ _)); refine bR ?_ NB172_185.out _; (with_reducible repeat (first | refine bN ?_ _ | refine bD ?_ | refine bA ?_ _)); exact BK172.out⟩, ⟨by (with_reducible repeat (first | refine bN ?_ _ | refine bD ?_ | refine bA ?_ _)); refine bR ?_ NB173_186.out _; (with_reducible repeat (first | refine bN ?_ _ | refine bD ?_ | refine bA ?_ _)); refine bR ?_ NB173_185.out _; (with_reducible repeat (first | refine bN ?_ _ | refine bD ?_ | refine bA ?_ _)); exact BK173.out⟩, ⟨by (with_reducible repeat (first | refine bN ?_ _ | refine bD ?_ | refine bA ?_ _)); refine bR ?_ NB181_186.out _; (with_reducible repeat (first | refine bN ?_ _ | refine bD ?_ | refine bA ?_ _)); refine bR ?_ NB181_185.out _; (with_reducible repeat (first | refine bN ?_ _ | refine bD ?_ | refine bA ?_ _)); exact BK181.out⟩, ⟨by (with_reducible repeat (first | refine bN ?_ _ | refine bD ?_ | refine bA ?_ _)); refine bR ?_ NB185_186.out _; (with_reducible repeat (first | refine bN ?_ _ | refine bD ?_ | refine bA ?_ _)); refine bP (cs := #[.int .u8 a0_0, .int .i64 a0_1, .string a0_2, .string a0_3, .string a0_4, .int .u64 a0_5]) ?_ 3 _ rfl; (with_reducible repeat (first | refine bN ?_ _ | refine bD ?_ | refine bA ?_ _)); exact BK185.out⟩, ⟨by (with_reducible repeat (first | refine bN ?_ _ | refine bD ?_ | refine bA ?_ _)); refine bP (cs := #[.int .u8 a0_0, .int .i64 a0_1, .string a0_2, .string a0_3, .string a0_4, .int .u64 a0_5]) ?_ 2 _ rfl; (with_reducible repeat (first | refine bN ?_ _ | refine bD ?_ | refine bA ?_ _)); refine bR ?_ NB186_185.out _; (with_reducible repeat (first | refine bN ?_ _ | refine bD ?_ | refine bA ?_ _)); exact BK186.out⟩, ⟨by repeat (first | (with_reducible first | exact HB.out | apply wA | apply wN | apply w1 | refine wS ?_ GE172.out | refine wS ?_ GE173.out | refine wS ?_ GE181.out | refine wS ?_ GE185.out | refine wS ?_ GE186.out) | exact HB.out)⟩⟩
      case rest =>
       clear HC15
       try clear p2
       try clear c4
       try clear c5
       try clear c46
       try clear c47
       try clear c49
       try clear c50
       try clear c52
       try clear c52b0
       try clear c53
       try clear c54
       try clear c55
       try clear c56
       try clear c57
       try clear hcz48_0
       try clear hcz48_1
       try clear hcz48_2
       try clear hcz48_3
       try clear hcz48_4
       try clear hcz48_5
       try clear hcz51_0
       try clear hcz51_1
       try clear hcz51_2
       try clear hcz51_3
       try clear hcz51_4
       try clear hcz51_5
       try clear hcz58_0
       try clear hcz58_1
       try clear hcz58_2
       try clear hcz58_3
       try clear hcz58_4
       try clear hcz58_5
       try clear hfz48_0
       try clear hfz48_1
       try clear hfz48_2
       try clear hfz48_3
       try clear hfz48_4
       try clear hfz48_5
       try clear hfz51_0
       try clear hfz51_1
       try clear hfz51_2
       try clear hfz51_3
       try clear hfz51_4
       try clear hfz51_5
       try clear hfz58_0
       try clear hfz58_1
       try clear hfz58_2
       try clear hfz58_3
       try clear hfz58_4
       try clear hfz58_5
       obtain ⟨kq, x7_14, HA, HJ14, HO_7, BK172, BK173, BK181, BK185, BK186, HB⟩ := hcut
       cases kq with
       | zero => exact absurd HA.out (by simp [msg_Rest.j1])
       | succ kj14 =>
        have H := HA.out
        clear HA
        simp only [msg_Rest.j1] at H
        replace H := Option.bind_eq_some_iff.mp H
        obtain ⟨t190, A600, H⟩ := H
        replace H : (if t190 = true then (if x7_14.length < 1954687338268 then (some (x7_14 ++ [(⟨a0_0, a0_1, t177, a0_3, a0_4, a0_5⟩ : S25)])) else (none)) else (some x7_14)) = some r := H
        have A60 := Aside0.mk A600
        clear A600
        by_cases c61 : t190 = true
        ·subst c61
         have H1 : (if x7_14.length < 1954687338268 then (some (x7_14 ++ [(⟨a0_0, a0_1, t177, a0_3, a0_4, a0_5⟩ : S25)])) else (none)) = some r := by rw [if_pos rfl] at H; exact H
         clear H
         have H := H1
         clear H1
         by_cases c62 : x7_14.length < 1954687338268
         ·rw [if_pos c62] at H
          have LMc62 := Aside0.mk c62
          clear c62
          obtain ⟨y191, hy191⟩ : ∃ y_ : List (S25), y_ = (x7_14 ++ [(⟨a0_0, a0_1, t177, a0_3, a0_4, a0_5⟩ : S25)]) := ⟨_, rfl⟩
          replace H : (some y191) = some r := by first | (rw [hy191]; with_reducible exact H) | (have H2_ := (Option.bind_some _ _).symm.trans H; rw [hy191]; with_reducible exact H2_) | (have H2_ := (Option.bind_some _ _).symm.trans H; with_reducible exact H2_) | with_reducible exact H | (rw [hy191]; exact H) | exact H
          have Ny191 := Aside0.mk hy191
          clear hy191
          obtain rfl := Option.some.inj H
          have hnb63 := NB181_172.out
          have hnc63 := NB172_181.out
          have hnb64 := NB181_173.out
          have hnc64 := NB173_181.out
          have hnb65 := NB181_185.out
          have hnc65 := NB185_181.out
          have hnb66 := NB181_186.out
          have hnc66 := NB186_181.out
          have hcz67_0 : wc.cell? ⟨gb181, 0, none⟩ = some (.int .u8 t174) := (bC BK181.out 0).trans rfl
          have hcz67_1 : wc.cell? ⟨gb181, 1, none⟩ = some (.int .i64 t175) := (bC BK181.out 1).trans rfl
          have hcz67_2 : wc.cell? ⟨gb181, 2, none⟩ = some (.string t176) := (bC BK181.out 2).trans rfl
          have hcz67_3 : wc.cell? ⟨gb181, 3, none⟩ = some (.string t177) := (bC BK181.out 3).trans rfl
          have hcz67_4 : wc.cell? ⟨gb181, 4, none⟩ = some (.string t178) := (bC BK181.out 4).trans rfl
          have hcz67_5 : wc.cell? ⟨gb181, 5, none⟩ = some (.int .u64 t179) := (bC BK181.out 5).trans rfl
          have hfz67_0 := bF BK181.out 0
          have hfz67_1 := bF BK181.out 1
          have hfz67_2 := bF BK181.out 2
          have hfz67_3 := bF BK181.out 3
          have hfz67_4 := bF BK181.out 4
          have hfz67_5 := bF BK181.out 5
          have hnb68 := NB172_173.out
          have hnc68 := NB173_172.out
          have hnb69 := NB172_185.out
          have hnc69 := NB185_172.out
          have hnb70 := NB172_186.out
          have hnc70 := NB186_172.out
          have hcz71_0 : wc.cell? ⟨gb172, 0, none⟩ = some (.int .u8 a0_0) := (bC BK172.out 0).trans rfl
          have hcz71_1 : wc.cell? ⟨gb172, 1, none⟩ = some (.int .i64 a0_1) := (bC BK172.out 1).trans rfl
          have hcz71_2 : wc.cell? ⟨gb172, 2, none⟩ = some (.string a0_2) := (bC BK172.out 2).trans rfl
          have hcz71_3 : wc.cell? ⟨gb172, 3, none⟩ = some (.string a0_3) := (bC BK172.out 3).trans rfl
          have hcz71_4 : wc.cell? ⟨gb172, 4, none⟩ = some (.string a0_4) := (bC BK172.out 4).trans rfl
          have hcz71_5 : wc.cell? ⟨gb172, 5, none⟩ = some (.int .u64 a0_5) := (bC BK172.out 5).trans rfl
          have hfz71_0 := bF BK172.out 0
          have hfz71_1 := bF BK172.out 1
          have hfz71_2 := bF BK172.out 2
          have hfz71_3 := bF BK172.out 3
          have hfz71_4 := bF BK172.out 4
          have hfz71_5 := bF BK172.out 5
          go_wp2_with (first | ((with_reducible refine gate_callee (f := 35) rfl ?_); refine goesL_ (some 52) rfl rfl Try.func35 (by kernel_rfl) rfl #[.string t177, .string a0_3] rfl (by (try simp only [mA1, mA2, mA3]); first | done | rfl | (simp only [mA5, mA4]; rfl)) ?_; (with_reducible refine (key_Before.calls t177 a0_3 true _ A60.out).mono ?_); rintro e w' ⟨rfl, ⟨nd, rfl⟩⟩; refine ⟨_, rfl, ?_⟩; have hnb72 := NB186_173.out; have hnc72 := NB173_186.out; have hnb73 := NB186_185.out; have hnc73 := NB185_186.out; have hcz74_0 : wc.cell? ⟨gb186, 0, none⟩ = some (.int .u8 a0_0) := (bC BK186.out 0).trans rfl; have hcz74_1 : wc.cell? ⟨gb186, 1, none⟩ = some (.int .i64 a0_1) := (bC BK186.out 1).trans rfl; have hcz74_2 : wc.cell? ⟨gb186, 2, none⟩ = some (.string t177) := (bC BK186.out 2).trans rfl; have hcz74_3 : wc.cell? ⟨gb186, 3, none⟩ = some (.string a0_3) := (bC BK186.out 3).trans rfl; have hcz74_4 : wc.cell? ⟨gb186, 4, none⟩ = some (.string a0_4) := (bC BK186.out 4).trans rfl; have hcz74_5 : wc.cell? ⟨gb186, 5, none⟩ = some (.int .u64 a0_5) := (bC BK186.out 5).trans rfl; have hfz74_0 := bF BK186.out 0; have hfz74_1 := bF BK186.out 1; have hfz74_2 := bF BK186.out 2; have hfz74_3 := bF BK186.out 3; have hfz74_4 := bF BK186.out 4; have hfz74_5 := bF BK186.out 5) | ((with_reducible refine gate_builtin (b := .append) (xs := #[.tmp 53, .tmp 55]) rfl ?_); at_builtin; refine Kd.R_append k25 (w0 := w) w.heap.size rfl (.tmp 53) (.tmp 55) 40 25 (.agg #[(.int .u8 0), (.int .i64 0), (.string ⟨#[]⟩), (.string ⟨#[]⟩), (.string ⟨#[]⟩), (.int .u64 0)]) 72 rfl Try.underlying40 info25 rfl (by decide) (by omega) u7 x7_14 (⟨a0_0, a0_1, t177, a0_3, a0_4, a0_5⟩ : S25) [.int .u8 a0_0, .int .i64 a0_1, .string t177, .string a0_3, .string a0_4, .int .u64 a0_5] (fun k_ => k_ ≠ gb172 ∧ k_ ≠ gb181 ∧ k_ ≠ gb185 ∧ k_ ≠ gb186) (fun _ => False) rfl rfl ?aP (fun _ hk => hk.elim) ?aF ?aO ?aB ?aS ?aL ?_; (case aP => exact k25_mkM _ _ _ (⟨a0_0, a0_1, t177, a0_3, a0_4, a0_5⟩ : S25)); (case aB => exact (by repeat (first | (with_reducible first | exact HB.out | apply wA | apply wN | apply w1 | refine wS ?_ GE172.out | refine wS ?_ GE173.out | refine wS ?_ GE181.out | refine wS ?_ GE185.out | refine wS ?_ GE186.out) | exact HB.out))); (case aF => exact (fun k_ hk => ⟨Kd.freshB (g := gb172) (o := .cells #[.int .u8 a0_0, .int .i64 a0_1, .string a0_2, .string a0_3, .string a0_4, .int .u64 a0_5] 25 (0, 0)) (by (with_reducible repeat (first | refine bN ?_ _ | refine bD ?_ | refine bA ?_ _)); exact BK172.out) k_ hk, Kd.freshB (g := gb181) (o := .cells #[.int .u8 t174, .int .i64 t175, .string t176, .string t177, .string t178, .int .u64 t179] 25 (0, 0)) (by (with_reducible repeat (first | refine bN ?_ _ | refine bD ?_ | refine bA ?_ _)); exact BK181.out) k_ hk, Kd.freshB (g := gb185) (o := .cells #[.int .u8 a0_0, .int .i64 a0_1, .string a0_2, .string t176, .string a0_4, .int .u64 a0_5] 25 (0, 0)) (by (with_reducible repeat (first | refine bN ?_ _ | refine bD ?_ | refine bA ?_ _)); exact BK185.out) k_ hk, Kd.freshB (g := gb186) (o := .cells #[.int .u8 a0_0, .int .i64 a0_1, .string t177, .string a0_3, .string a0_4, .int .u64 a0_5] 25 (0, 0)) (by (with_reducible repeat (first | refine bN ?_ _ | refine bD ?_ | refine bA ?_ _)); exact BK186.out) k_ hk⟩)); (case aO => exact (by (with_reducible repeat (first | apply Kd.R_alloc | apply Kd.R_drewN | apply Kd.R_drew)); exact HO_7.out)); (case aS => exact (wZ (by repeat (first | (with_reducible first | exact HB.out | apply wA | apply wN | apply w1 | refine wS ?_ GE172.out | refine wS ?_ GE173.out | refine wS ?_ GE181.out | refine wS ?_ GE185.out | refine wS ?_ GE186.out) | exact HB.out)))); (case aL => have := LMc62.out; omega); intro v192 w75 ho hb hg hat; rw [← Ny191.out] at ho; have n0_ := Aside0.mk (blk_grown (g := gb172) (o := .cells #[.int .u8 a0_0, .int .i64 a0_1, .string a0_2, .string a0_3, .string a0_4, .int .u64 a0_5] 25 (0, 0)) (by (with_reducible repeat (first | refine bN ?_ _ | refine bD ?_ | refine bA ?_ _)); exact BK172.out) hg (Kd.R_away HO_7.out (fun _ hk => hk.1))); have n1_ := Aside0.mk (blk_grown (g := gb173) (o := .cells #[.string a1_0, .string a1_1] 31 (0, 0)) (by (with_reducible repeat (first | refine bN ?_ _ | refine bD ?_ | refine bA ?_ _)); exact BK173.out) hg (Kd.R_ne HO_7.out BK173.out (by decide))); have n2_ := Aside0.mk (blk_grown (g := gb181) (o := .cells #[.int .u8 t174, .int .i64 t175, .string t176, .string t177, .string t178, .int .u64 t179] 25 (0, 0)) (by (with_reducible repeat (first | refine bN ?_ _ | refine bD ?_ | refine bA ?_ _)); exact BK181.out) hg (Kd.R_away HO_7.out (fun _ hk => hk.2.1))); have n3_ := Aside0.mk (blk_grown (g := gb185) (o := .cells #[.int .u8 a0_0, .int .i64 a0_1, .string a0_2, .string t176, .string a0_4, .int .u64 a0_5] 25 (0, 0)) (by (with_reducible repeat (first | refine bN ?_ _ | refine bD ?_ | refine bA ?_ _)); exact BK185.out) hg (Kd.R_away HO_7.out (fun _ hk => hk.2.2.1))); have n4_ := Aside0.mk (blk_grown (g := gb186) (o := .cells #[.int .u8 a0_0, .int .i64 a0_1, .string t177, .string a0_3, .string a0_4, .int .u64 a0_5] 25 (0, 0)) (by (with_reducible repeat (first | refine bN ?_ _ | refine bD ?_ | refine bA ?_ _)); exact BK186.out) hg (Kd.R_away HO_7.out (fun _ hk => hk.2.2.2))); have n5_ := Aside0.mk (hb); have n6_ := Aside0.mk (ho); clear BK172; clear BK173; clear BK181; clear BK185; clear BK186; clear HB; clear HO_7; have BK172 := n0_; have BK173 := n1_; have BK181 := n2_; have BK185 := n3_; have BK186 := n4_; have HB := n5_; have HO193 := n6_; clear n0_ n1_ n2_ n3_ n4_ n5_ n6_; clear ho hb hg hat))
          go_ret
          exact ⟨_, by first | rfl | (simp [errW_none, errW_some] <;> rfl) | (simp [*, errW_none, errW_some] <;> rfl), by (with_reducible repeat (first | apply Kd.R_alloc | apply Kd.R_drewN | apply Kd.R_drew)); exact Kd.R_mono HO193.out (fun _ hk => trivial), by repeat (first | (with_reducible first | exact HB.out | apply wA | apply wN | apply w1 | refine wS ?_ GE172.out | refine wS ?_ GE173.out | refine wS ?_ GE181.out | refine wS ?_ GE185.out | refine wS ?_ GE186.out) | exact HB.out)⟩
         ·rw [if_neg c62] at H
          exact absurd H (by simp)
        ·replace c61 := Bool.eq_false_iff.mpr c61
         subst c61
         have H1 : (some x7_14) = some r := by rw [if_neg (show ¬ (false = true) by decide)] at H; exact H
         clear H
         have H := H1
         clear H1
         obtain rfl := Option.some.inj H
         have hnb76 := NB181_172.out
         have hnc76 := NB172_181.out
         have hnb77 := NB181_173.out
         have hnc77 := NB173_181.out
         have hnb78 := NB181_185.out
         have hnc78 := NB185_181.out
         have hnb79 := NB181_186.out
         have hnc79 := NB186_181.out
         have hcz80_0 : wc.cell? ⟨gb181, 0, none⟩ = some (.int .u8 t174) := (bC BK181.out 0).trans rfl
         have hcz80_1 : wc.cell? ⟨gb181, 1, none⟩ = some (.int .i64 t175) := (bC BK181.out 1).trans rfl
         have hcz80_2 : wc.cell? ⟨gb181, 2, none⟩ = some (.string t176) := (bC BK181.out 2).trans rfl
         have hcz80_3 : wc.cell? ⟨gb181, 3, none⟩ = some (.string t177) := (bC BK181.out 3).trans rfl
         have hcz80_4 : wc.cell? ⟨gb181, 4, none⟩ = some (.string t178) := (bC BK181.out 4).trans rfl
         have hcz80_5 : wc.cell? ⟨gb181, 5, none⟩ = some (.int .u64 t179) := (bC BK181.out 5).trans rfl
         have hfz80_0 := bF BK181.out 0
         have hfz80_1 := bF BK181.out 1
         have hfz80_2 := bF BK181.out 2
         have hfz80_3 := bF BK181.out 3
         have hfz80_4 := bF BK181.out 4
         have hfz80_5 := bF BK181.out 5
         have hnb81 := NB172_173.out
         have hnc81 := NB173_172.out
         have hnb82 := NB172_185.out
         have hnc82 := NB185_172.out
         have hnb83 := NB172_186.out
         have hnc83 := NB186_172.out
         have hcz84_0 : wc.cell? ⟨gb172, 0, none⟩ = some (.int .u8 a0_0) := (bC BK172.out 0).trans rfl
         have hcz84_1 : wc.cell? ⟨gb172, 1, none⟩ = some (.int .i64 a0_1) := (bC BK172.out 1).trans rfl
         have hcz84_2 : wc.cell? ⟨gb172, 2, none⟩ = some (.string a0_2) := (bC BK172.out 2).trans rfl
         have hcz84_3 : wc.cell? ⟨gb172, 3, none⟩ = some (.string a0_3) := (bC BK172.out 3).trans rfl
         have hcz84_4 : wc.cell? ⟨gb172, 4, none⟩ = some (.string a0_4) := (bC BK172.out 4).trans rfl
         have hcz84_5 : wc.cell? ⟨gb172, 5, none⟩ = some (.int .u64 a0_5) := (bC BK172.out 5).trans rfl
         have hfz84_0 := bF BK172.out 0
         have hfz84_1 := bF BK172.out 1
         have hfz84_2 := bF BK172.out 2
         have hfz84_3 := bF BK172.out 3
         have hfz84_4 := bF BK172.out 4
         have hfz84_5 := bF BK172.out 5
         go_wp2_with (first | ((with_reducible refine gate_callee (f := 35) rfl ?_); refine goesL_ (some 52) rfl rfl Try.func35 (by kernel_rfl) rfl #[.string t177, .string a0_3] rfl (by (try simp only [mA1, mA2, mA3]); first | done | rfl | (simp only [mA5, mA4]; rfl)) ?_; (with_reducible refine (key_Before.calls t177 a0_3 false _ A60.out).mono ?_); rintro e w' ⟨rfl, ⟨nd, rfl⟩⟩; refine ⟨_, rfl, ?_⟩))
         go_ret
         exact ⟨_, by first | rfl | (simp [errW_none, errW_some] <;> rfl) | (simp [*, errW_none, errW_some] <;> rfl), by (with_reducible repeat (first | apply Kd.R_alloc | apply Kd.R_drewN | apply Kd.R_drew)); exact Kd.R_mono HO_7.out (fun _ hk => trivial), by repeat (first | (with_reducible first | exact HB.out | apply wA | apply wN | apply w1 | refine wS ?_ GE172.out | refine wS ?_ GE173.out | refine wS ?_ GE181.out | refine wS ?_ GE185.out | refine wS ?_ GE186.out) | exact HB.out)⟩
     ·rw [if_neg c14] at H
      have c14b0 : (a0_0 == 4) = false := beq_eq_false_iff_ne.mpr c14
      have c14b1 : (a0_0 != 4) = true := bne_iff_ne.mpr c14
      obtain rfl := Option.some.inj H
      have hnb85 := NB172_173.out
      have hnc85 := NB173_172.out
      have hcz86_0 : wc.cell? ⟨gb172, 0, none⟩ = some (.int .u8 a0_0) := (bC BK172.out 0).trans rfl
      have hcz86_1 : wc.cell? ⟨gb172, 1, none⟩ = some (.int .i64 a0_1) := (bC BK172.out 1).trans rfl
      have hcz86_2 : wc.cell? ⟨gb172, 2, none⟩ = some (.string a0_2) := (bC BK172.out 2).trans rfl
      have hcz86_3 : wc.cell? ⟨gb172, 3, none⟩ = some (.string a0_3) := (bC BK172.out 3).trans rfl
      have hcz86_4 : wc.cell? ⟨gb172, 4, none⟩ = some (.string a0_4) := (bC BK172.out 4).trans rfl
      have hcz86_5 : wc.cell? ⟨gb172, 5, none⟩ = some (.int .u64 a0_5) := (bC BK172.out 5).trans rfl
      have hfz86_0 := bF BK172.out 0
      have hfz86_1 := bF BK172.out 1
      have hfz86_2 := bF BK172.out 2
      have hfz86_3 := bF BK172.out 3
      have hfz86_4 := bF BK172.out 4
      have hfz86_5 := bF BK172.out 5
      have hcz87_0 : wc.cell? ⟨gb173, 0, none⟩ = some (.string a1_0) := (bC BK173.out 0).trans rfl
      have hcz87_1 : wc.cell? ⟨gb173, 1, none⟩ = some (.string a1_1) := (bC BK173.out 1).trans rfl
      have hfz87_0 := bF BK173.out 0
      have hfz87_1 := bF BK173.out 1
      go_wp2_with (first | ((with_reducible refine gate_callee (f := 19) rfl ?_); refine goesL_ (some 21) rfl rfl Try.func19 (by kernel_rfl) rfl #[.agg #[.int .u8 a0_0, .int .i64 a0_1, .string a0_2, .string a0_3, .string a0_4, .int .u64 a0_5], .agg #[.string a1_0, .string a1_1]] rfl (by (try simp only [mA1, mA2, mA3]); first | done | rfl | (simp only [mA5, mA4]; rfl)) ?_; (with_reducible refine (msg_Clip.calls kj2 a0_0 a0_1 a0_2 a0_3 a0_4 a0_5 a1_0 a1_1 t174 t175 t176 t177 t178 t179 true _ A12.out).mono ?_); rintro e w88 ⟨rfl, hb⟩; refine ⟨_, rfl, ?_⟩; have n0_ := Aside0.mk (bB (g := gb172) (o := .cells #[.int .u8 a0_0, .int .i64 a0_1, .string a0_2, .string a0_3, .string a0_4, .int .u64 a0_5] 25 (0, 0)) (by (with_reducible repeat (first | refine bN ?_ _ | refine bD ?_ | refine bA ?_ _)); exact BK172.out) hb); have n1_ := Aside0.mk (bB (g := gb173) (o := .cells #[.string a1_0, .string a1_1] 31 (0, 0)) (by (with_reducible repeat (first | refine bN ?_ _ | refine bD ?_ | refine bA ?_ _)); exact BK173.out) hb); have n2_ := Aside0.mk (wT (by repeat (first | (with_reducible first | exact HB.out | apply wA | apply wN | apply w1 | refine wS ?_ GE172.out | refine wS ?_ GE173.out) | exact HB.out)) hb); clear BK172; clear BK173; clear HB; have BK172 := n0_; have BK173 := n1_; have HB := n2_; clear n0_ n1_ n2_; (try clear hb); (try clear hb2); (try clear hk); (try clear hi)) | ((with_reducible refine gate_dst (N := 5) rfl ?_); refine box_event ?hg (N := 5) ?hd (cs := #[.int .u8 0, .int .i64 0, .string (⟨#[]⟩ : BA), .string (⟨#[]⟩ : BA), .string (⟨#[]⟩ : BA), .int .u64 0]) (t := 25) ?hr ?_; (case hd => rfl); (case hg => rfl); (case hr => first | (go_simp; done) | (go_simp; rfl)); intro gb181 hg w89 hbox hb; have n0_ := Aside0.mk (bB (g := gb172) (o := .cells #[.int .u8 a0_0, .int .i64 a0_1, .string a0_2, .string a0_3, .string a0_4, .int .u64 a0_5] 25 (0, 0)) (by (with_reducible repeat (first | refine bN ?_ _ | refine bD ?_ | refine bA ?_ _)); exact BK172.out) hb); have n1_ := Aside0.mk (bB (g := gb173) (o := .cells #[.string a1_0, .string a1_1] 31 (0, 0)) (by (with_reducible repeat (first | refine bN ?_ _ | refine bD ?_ | refine bA ?_ _)); exact BK173.out) hb); have n2_ := Aside0.mk (wT (by repeat (first | (with_reducible first | exact HB.out | apply wA | apply wN | apply w1 | refine wS ?_ GE172.out | refine wS ?_ GE173.out) | exact HB.out)) hb); have n3_ := Aside0.mk (hbox); have n4_ := Aside0.mk ((by rw [hg]; exact (wZ (by repeat (first | (with_reducible first | exact HB.out | apply wA | apply wN | apply w1 | refine wS ?_ GE172.out | refine wS ?_ GE173.out) | exact HB.out))) : w.heap.size ≤ gb181)); have n5_ := Aside0.mk ((by rw [hg]; exact (wZ (by repeat (first | (with_reducible first | exact HB.out | apply wA | apply wN | apply w1 | refine wS ?_ GE172.out | refine wS ?_ GE173.out) | exact HB.out))) : w.heap.size ≤ gb181)); have n6_ := Aside0.mk ((by rw [hg]; exact Nat.ne_of_lt (blk_lt (g := gb172) (o := .cells #[.int .u8 a0_0, .int .i64 a0_1, .string a0_2, .string a0_3, .string a0_4, .int .u64 a0_5] 25 (0, 0)) (by (with_reducible repeat (first | refine bN ?_ _ | refine bD ?_ | refine bA ?_ _)); exact BK172.out)) : gb172 ≠ gb181)); have n7_ := Aside0.mk ((by rw [hg]; exact Nat.ne_of_gt (blk_lt (g := gb172) (o := .cells #[.int .u8 a0_0, .int .i64 a0_1, .string a0_2, .string a0_3, .string a0_4, .int .u64 a0_5] 25 (0, 0)) (by (with_reducible repeat (first | refine bN ?_ _ | refine bD ?_ | refine bA ?_ _)); exact BK172.out)) : gb181 ≠ gb172)); have n8_ := Aside0.mk ((by rw [hg]; exact Nat.ne_of_lt (blk_lt (g := gb173) (o := .cells #[.string a1_0, .string a1_1] 31 (0, 0)) (by (with_reducible repeat (first | refine bN ?_ _ | refine bD ?_ | refine bA ?_ _)); exact BK173.out)) : gb173 ≠ gb181)); have n9_ := Aside0.mk ((by rw [hg]; exact Nat.ne_of_gt (blk_lt (g := gb173) (o := .cells #[.string a1_0, .string a1_1] 31 (0, 0)) (by (with_reducible repeat (first | refine bN ?_ _ | refine bD ?_ | refine bA ?_ _)); exact BK173.out)) : gb181 ≠ gb173)); clear BK172; clear BK173; clear HB; have BK172 := n0_; have BK173 := n1_; have HB := n2_; have BK181 := n3_; have GW181 := n4_; have GE181 := n5_; have NB172_181 := n6_; have NB181_172 := n7_; have NB173_181 := n8_; have NB181_173 := n9_; clear n0_ n1_ n2_ n3_ n4_ n5_ n6_ n7_ n8_ n9_; clear hb hbox hg; have hnb90 := NB181_172.out; have hnc90 := NB172_181.out; have hnb91 := NB181_173.out; have hnc91 := NB173_181.out; have hcz92_0 : w89.cell? ⟨gb181, 0, none⟩ = some (.int .u8 0) := (bC BK181.out 0).trans rfl; have hcz92_1 : w89.cell? ⟨gb181, 1, none⟩ = some (.int .i64 0) := (bC BK181.out 1).trans rfl; have hcz92_2 : w89.cell? ⟨gb181, 2, none⟩ = some (.string (⟨#[]⟩ : BA)) := (bC BK181.out 2).trans rfl; have hcz92_3 : w89.cell? ⟨gb181, 3, none⟩ = some (.string (⟨#[]⟩ : BA)) := (bC BK181.out 3).trans rfl; have hcz92_4 : w89.cell? ⟨gb181, 4, none⟩ = some (.string (⟨#[]⟩ : BA)) := (bC BK181.out 4).trans rfl; have hcz92_5 : w89.cell? ⟨gb181, 5, none⟩ = some (.int .u64 0) := (bC BK181.out 5).trans rfl; have hfz92_0 := bF BK181.out 0; have hfz92_1 := bF BK181.out 1; have hfz92_2 := bF BK181.out 2; have hfz92_3 := bF BK181.out 3; have hfz92_4 := bF BK181.out 4; have hfz92_5 := bF BK181.out 5; have hcz93_0 : w89.cell? ⟨gb172, 0, none⟩ = some (.int .u8 a0_0) := (bC BK172.out 0).trans rfl; have hcz93_1 : w89.cell? ⟨gb172, 1, none⟩ = some (.int .i64 a0_1) := (bC BK172.out 1).trans rfl; have hcz93_2 : w89.cell? ⟨gb172, 2, none⟩ = some (.string a0_2) := (bC BK172.out 2).trans rfl; have hcz93_3 : w89.cell? ⟨gb172, 3, none⟩ = some (.string a0_3) := (bC BK172.out 3).trans rfl; have hcz93_4 : w89.cell? ⟨gb172, 4, none⟩ = some (.string a0_4) := (bC BK172.out 4).trans rfl; have hcz93_5 : w89.cell? ⟨gb172, 5, none⟩ = some (.int .u64 a0_5) := (bC BK172.out 5).trans rfl; have hfz93_0 := bF BK172.out 0; have hfz93_1 := bF BK172.out 1; have hfz93_2 := bF BK172.out 2; have hfz93_3 := bF BK172.out 3; have hfz93_4 := bF BK172.out 4; have hfz93_5 := bF BK172.out 5))
      go_ret
      exact ⟨_, by first | rfl | (simp [errW_none, errW_some] <;> rfl) | (simp [*, errW_none, errW_some] <;> rfl), by first | exact Kd.R_nil _ _ _ _ _ | exact Kd.N_nil _ _ _ _ _ | exact Kd.V_nil _ _ _ _ _ | exact Kd.Q_nil _ _ _ _ _ | exact Kd.S_nil _ _ _ _ _, by repeat (first | (with_reducible first | exact HB.out | apply wA | apply wN | apply w1 | refine wS ?_ GE172.out | refine wS ?_ GE173.out | refine wS ?_ GE181.out) | exact HB.out)⟩
    ·replace c13 := Bool.eq_false_iff.mpr c13
     subst c13
     have H1 : (some (([(⟨a0_0, a0_1, a0_2, a0_3, a0_4, a0_5⟩ : S25)] : List (S25)))) = some r := by rw [if_neg (show ¬ (false = true) by decide)] at H; exact H
     clear H
     have H := H1
     clear H1
     obtain ⟨y182, hy182⟩ : ∃ y_ : List (S25), y_ = (([(⟨a0_0, a0_1, a0_2, a0_3, a0_4, a0_5⟩ : S25)] : List (S25))) := ⟨_, rfl⟩
     replace H : (some y182) = some r := by first | (rw [hy182]; with_reducible exact H) | (have H2_ := (Option.bind_some _ _).symm.trans H; rw [hy182]; with_reducible exact H2_) | (have H2_ := (Option.bind_some _ _).symm.trans H; with_reducible exact H2_) | with_reducible exact H | (rw [hy182]; exact H) | exact H
     have Ny182 := Aside0.mk hy182
     clear hy182
     obtain rfl := Option.some.inj H
     have hnb94 := NB172_173.out
     have hnc94 := NB173_172.out
     have hcz95_0 : wc.cell? ⟨gb172, 0, none⟩ = some (.int .u8 a0_0) := (bC BK172.out 0).trans rfl
     have hcz95_1 : wc.cell? ⟨gb172, 1, none⟩ = some (.int .i64 a0_1) := (bC BK172.out 1).trans rfl
     have hcz95_2 : wc.cell? ⟨gb172, 2, none⟩ = some (.string a0_2) := (bC BK172.out 2).trans rfl
     have hcz95_3 : wc.cell? ⟨gb172, 3, none⟩ = some (.string a0_3) := (bC BK172.out 3).trans rfl
     have hcz95_4 : wc.cell? ⟨gb172, 4, none⟩ = some (.string a0_4) := (bC BK172.out 4).trans rfl
     have hcz95_5 : wc.cell? ⟨gb172, 5, none⟩ = some (.int .u64 a0_5) := (bC BK172.out 5).trans rfl
     have hfz95_0 := bF BK172.out 0
     have hfz95_1 := bF BK172.out 1
     have hfz95_2 := bF BK172.out 2
     have hfz95_3 := bF BK172.out 3
     have hfz95_4 := bF BK172.out 4
     have hfz95_5 := bF BK172.out 5
     have hcz96_0 : wc.cell? ⟨gb173, 0, none⟩ = some (.string a1_0) := (bC BK173.out 0).trans rfl
     have hcz96_1 : wc.cell? ⟨gb173, 1, none⟩ = some (.string a1_1) := (bC BK173.out 1).trans rfl
     have hfz96_0 := bF BK173.out 0
     have hfz96_1 := bF BK173.out 1
     go_wp2_with (first | ((with_reducible refine gate_callee (f := 19) rfl ?_); refine goesL_ (some 21) rfl rfl Try.func19 (by kernel_rfl) rfl #[.agg #[.int .u8 a0_0, .int .i64 a0_1, .string a0_2, .string a0_3, .string a0_4, .int .u64 a0_5], .agg #[.string a1_0, .string a1_1]] rfl (by (try simp only [mA1, mA2, mA3]); first | done | rfl | (simp only [mA5, mA4]; rfl)) ?_; (with_reducible refine (msg_Clip.calls kj2 a0_0 a0_1 a0_2 a0_3 a0_4 a0_5 a1_0 a1_1 t174 t175 t176 t177 t178 t179 false _ A12.out).mono ?_); rintro e w97 ⟨rfl, hb⟩; refine ⟨_, rfl, ?_⟩; have n0_ := Aside0.mk (bB (g := gb172) (o := .cells #[.int .u8 a0_0, .int .i64 a0_1, .string a0_2, .string a0_3, .string a0_4, .int .u64 a0_5] 25 (0, 0)) (by (with_reducible repeat (first | refine bN ?_ _ | refine bD ?_ | refine bA ?_ _)); exact BK172.out) hb); have n1_ := Aside0.mk (bB (g := gb173) (o := .cells #[.string a1_0, .string a1_1] 31 (0, 0)) (by (with_reducible repeat (first | refine bN ?_ _ | refine bD ?_ | refine bA ?_ _)); exact BK173.out) hb); have n2_ := Aside0.mk (wT (by repeat (first | (with_reducible first | exact HB.out | apply wA | apply wN | apply w1 | refine wS ?_ GE172.out | refine wS ?_ GE173.out) | exact HB.out)) hb); clear BK172; clear BK173; clear HB; have BK172 := n0_; have BK173 := n1_; have HB := n2_; clear n0_ n1_ n2_; (try clear hb); (try clear hb2); (try clear hk); (try clear hi)) | ((with_reducible refine gate_dst (N := 5) rfl ?_); refine box_event ?hg (N := 5) ?hd (cs := #[.int .u8 0, .int .i64 0, .string (⟨#[]⟩ : BA), .string (⟨#[]⟩ : BA), .string (⟨#[]⟩ : BA), .int .u64 0]) (t := 25) ?hr ?_; (case hd => rfl); (case hg => rfl); (case hr => first | (go_simp; done) | (go_simp; rfl)); intro gb181 hg w98 hbox hb; have n0_ := Aside0.mk (bB (g := gb172) (o := .cells #[.int .u8 a0_0, .int .i64 a0_1, .string a0_2, .string a0_3, .string a0_4, .int .u64 a0_5] 25 (0, 0)) (by (with_reducible repeat (first | refine bN ?_ _ | refine bD ?_ | refine bA ?_ _)); exact BK172.out) hb); have n1_ := Aside0.mk (bB (g := gb173) (o := .cells #[.string a1_0, .string a1_1] 31 (0, 0)) (by (with_reducible repeat (first | refine bN ?_ _ | refine bD ?_ | refine bA ?_ _)); exact BK173.out) hb); have n2_ := Aside0.mk (wT (by repeat (first | (with_reducible first | exact HB.out | apply wA | apply wN | apply w1 | refine wS ?_ GE172.out | refine wS ?_ GE173.out) | exact HB.out)) hb); have n3_ := Aside0.mk (hbox); have n4_ := Aside0.mk ((by rw [hg]; exact (wZ (by repeat (first | (with_reducible first | exact HB.out | apply wA | apply wN | apply w1 | refine wS ?_ GE172.out | refine wS ?_ GE173.out) | exact HB.out))) : w.heap.size ≤ gb181)); have n5_ := Aside0.mk ((by rw [hg]; exact (wZ (by repeat (first | (with_reducible first | exact HB.out | apply wA | apply wN | apply w1 | refine wS ?_ GE172.out | refine wS ?_ GE173.out) | exact HB.out))) : w.heap.size ≤ gb181)); have n6_ := Aside0.mk ((by rw [hg]; exact Nat.ne_of_lt (blk_lt (g := gb172) (o := .cells #[.int .u8 a0_0, .int .i64 a0_1, .string a0_2, .string a0_3, .string a0_4, .int .u64 a0_5] 25 (0, 0)) (by (with_reducible repeat (first | refine bN ?_ _ | refine bD ?_ | refine bA ?_ _)); exact BK172.out)) : gb172 ≠ gb181)); have n7_ := Aside0.mk ((by rw [hg]; exact Nat.ne_of_gt (blk_lt (g := gb172) (o := .cells #[.int .u8 a0_0, .int .i64 a0_1, .string a0_2, .string a0_3, .string a0_4, .int .u64 a0_5] 25 (0, 0)) (by (with_reducible repeat (first | refine bN ?_ _ | refine bD ?_ | refine bA ?_ _)); exact BK172.out)) : gb181 ≠ gb172)); have n8_ := Aside0.mk ((by rw [hg]; exact Nat.ne_of_lt (blk_lt (g := gb173) (o := .cells #[.string a1_0, .string a1_1] 31 (0, 0)) (by (with_reducible repeat (first | refine bN ?_ _ | refine bD ?_ | refine bA ?_ _)); exact BK173.out)) : gb173 ≠ gb181)); have n9_ := Aside0.mk ((by rw [hg]; exact Nat.ne_of_gt (blk_lt (g := gb173) (o := .cells #[.string a1_0, .string a1_1] 31 (0, 0)) (by (with_reducible repeat (first | refine bN ?_ _ | refine bD ?_ | refine bA ?_ _)); exact BK173.out)) : gb181 ≠ gb173)); clear BK172; clear BK173; clear HB; have BK172 := n0_; have BK173 := n1_; have HB := n2_; have BK181 := n3_; have GW181 := n4_; have GE181 := n5_; have NB172_181 := n6_; have NB181_172 := n7_; have NB173_181 := n8_; have NB181_173 := n9_; clear n0_ n1_ n2_ n3_ n4_ n5_ n6_ n7_ n8_ n9_; clear hb hbox hg; have hnb99 := NB181_172.out; have hnc99 := NB172_181.out; have hnb100 := NB181_173.out; have hnc100 := NB173_181.out; have hcz101_0 : w98.cell? ⟨gb181, 0, none⟩ = some (.int .u8 0) := (bC BK181.out 0).trans rfl; have hcz101_1 : w98.cell? ⟨gb181, 1, none⟩ = some (.int .i64 0) := (bC BK181.out 1).trans rfl; have hcz101_2 : w98.cell? ⟨gb181, 2, none⟩ = some (.string (⟨#[]⟩ : BA)) := (bC BK181.out 2).trans rfl; have hcz101_3 : w98.cell? ⟨gb181, 3, none⟩ = some (.string (⟨#[]⟩ : BA)) := (bC BK181.out 3).trans rfl; have hcz101_4 : w98.cell? ⟨gb181, 4, none⟩ = some (.string (⟨#[]⟩ : BA)) := (bC BK181.out 4).trans rfl; have hcz101_5 : w98.cell? ⟨gb181, 5, none⟩ = some (.int .u64 0) := (bC BK181.out 5).trans rfl; have hfz101_0 := bF BK181.out 0; have hfz101_1 := bF BK181.out 1; have hfz101_2 := bF BK181.out 2; have hfz101_3 := bF BK181.out 3; have hfz101_4 := bF BK181.out 4; have hfz101_5 := bF BK181.out 5; have hcz102_0 : w98.cell? ⟨gb172, 0, none⟩ = some (.int .u8 a0_0) := (bC BK172.out 0).trans rfl; have hcz102_1 : w98.cell? ⟨gb172, 1, none⟩ = some (.int .i64 a0_1) := (bC BK172.out 1).trans rfl; have hcz102_2 : w98.cell? ⟨gb172, 2, none⟩ = some (.string a0_2) := (bC BK172.out 2).trans rfl; have hcz102_3 : w98.cell? ⟨gb172, 3, none⟩ = some (.string a0_3) := (bC BK172.out 3).trans rfl; have hcz102_4 : w98.cell? ⟨gb172, 4, none⟩ = some (.string a0_4) := (bC BK172.out 4).trans rfl; have hcz102_5 : w98.cell? ⟨gb172, 5, none⟩ = some (.int .u64 a0_5) := (bC BK172.out 5).trans rfl; have hfz102_0 := bF BK172.out 0; have hfz102_1 := bF BK172.out 1; have hfz102_2 := bF BK172.out 2; have hfz102_3 := bF BK172.out 3; have hfz102_4 := bF BK172.out 4; have hfz102_5 := bF BK172.out 5) | ((with_reducible refine gate_dst (N := 27) rfl ?_); refine Kd.R_lit k25 _ 25 ?hg (N := 27) ?hd (xs := ([(⟨a0_0, a0_1, a0_2, a0_3, a0_4, a0_5⟩ : S25)] : List (S25))) (inner := [.int .u8 a0_0, .int .i64 a0_1, .string a0_2, .string a0_3, .string a0_4, .int .u64 a0_5]) (ok := fun _ => True) (okp := fun _ => True) ?hr ?hp (fun _ hk => hk) trivial (Below.refl _ _) (Nat.le_refl _) (by simp) ?_; (case hd => rfl); (case hg => rfl); (case hr => first | (go_simp; done) | (go_simp; rfl)); (case hp => exact (Reps.c6 (show Kd.M k25 _ _ _ (⟨a0_0, a0_1, a0_2, a0_3, a0_4, a0_5⟩ : S25) [.int .u8 a0_0, .int .i64 a0_1, .string a0_2, .string a0_3, .string a0_4, .int .u64 a0_5] from (k25_mkM _ _ _ (⟨a0_0, a0_1, a0_2, a0_3, a0_4, a0_5⟩ : S25) )) (Reps.none _ _))); intro v183 w103 ho104 hb hg_ hnew_; clear hg_ hnew_; (first | rw [← Ny182.out] at ho104 | (simp only [Int.reduceToNat] at ho104; rw [← Ny182.out] at ho104)); have n0_ := Aside0.mk (Kd.R_lower (Kd.R_newB (Kd.R_newB ho104 (g := gb172) (o := .cells #[.int .u8 a0_0, .int .i64 a0_1, .string a0_2, .string a0_3, .string a0_4, .int .u64 a0_5] 25 (0, 0)) (by (with_reducible repeat (first | refine bN ?_ _ | refine bD ?_ | refine bA ?_ _)); refine bR ?_ NB172_181.out _; (with_reducible repeat (first | refine bN ?_ _ | refine bD ?_ | refine bA ?_ _)); refine bR ?_ NB172_181.out _; (with_reducible repeat (first | refine bN ?_ _ | refine bD ?_ | refine bA ?_ _)); refine bR ?_ NB172_181.out _; (with_reducible repeat (first | refine bN ?_ _ | refine bD ?_ | refine bA ?_ _)); refine bR ?_ NB172_181.out _; (with_reducible repeat (first | refine bN ?_ _ | refine bD ?_ | refine bA ?_ _)); refine bR ?_ NB172_181.out _; (with_reducible repeat (first | refine bN ?_ _ | refine bD ?_ | refine bA ?_ _)); refine bR ?_ NB172_181.out _; (with_reducible repeat (first | refine bN ?_ _ | refine bD ?_ | refine bA ?_ _)); exact BK172.out)) (g := gb181) (o := .cells #[.int .u8 t174, .int .i64 t175, .string t176, .string t177, .string t178, .int .u64 t179] 25 (0, 0)) (by (with_reducible repeat (first | refine bN ?_ _ | refine bD ?_ | refine bA ?_ _)); refine bP (cs := #[.int .u8 t174, .int .i64 t175, .string t176, .string t177, .string t178, .int .u64 0]) ?_ 5 _ rfl; (with_reducible repeat (first | refine bN ?_ _ | refine bD ?_ | refine bA ?_ _)); refine bP (cs := #[.int .u8 t174, .int .i64 t175, .string t176, .string t177, .string (⟨#[]⟩ : BA), .int .u64 0]) ?_ 4 _ rfl; (with_reducible repeat (first | refine bN ?_ _ | refine bD ?_ | refine bA ?_ _)); refine bP (cs := #[.int .u8 t174, .int .i64 t175, .string t176, .string (⟨#[]⟩ : BA), .string (⟨#[]⟩ : BA), .int .u64 0]) ?_ 3 _ rfl; (with_reducible repeat (first | refine bN ?_ _ | refine bD ?_ | refine bA ?_ _)); refine bP (cs := #[.int .u8 t174, .int .i64 t175, .string (⟨#[]⟩ : BA), .string (⟨#[]⟩ : BA), .string (⟨#[]⟩ : BA), .int .u64 0]) ?_ 2 _ rfl; (with_reducible repeat (first | refine bN ?_ _ | refine bD ?_ | refine bA ?_ _)); refine bP (cs := #[.int .u8 t174, .int .i64 0, .string (⟨#[]⟩ : BA), .string (⟨#[]⟩ : BA), .string (⟨#[]⟩ : BA), .int .u64 0]) ?_ 1 _ rfl; (with_reducible repeat (first | refine bN ?_ _ | refine bD ?_ | refine bA ?_ _)); refine bP (cs := #[.int .u8 0, .int .i64 0, .string (⟨#[]⟩ : BA), .string (⟨#[]⟩ : BA), .string (⟨#[]⟩ : BA), .int .u64 0]) ?_ 0 _ rfl; (with_reducible repeat (first | refine bN ?_ _ | refine bD ?_ | refine bA ?_ _)); exact BK181.out)) (wZ (by repeat (first | (with_reducible first | exact HB.out | apply wA | apply wN | apply w1 | refine wS ?_ GE172.out | refine wS ?_ GE173.out | refine wS ?_ GE181.out) | exact HB.out)))); have n1_ := Aside0.mk (bB (g := gb172) (o := .cells #[.int .u8 a0_0, .int .i64 a0_1, .string a0_2, .string a0_3, .string a0_4, .int .u64 a0_5] 25 (0, 0)) (by (with_reducible repeat (first | refine bN ?_ _ | refine bD ?_ | refine bA ?_ _)); refine bR ?_ NB172_181.out _; (with_reducible repeat (first | refine bN ?_ _ | refine bD ?_ | refine bA ?_ _)); refine bR ?_ NB172_181.out _; (with_reducible repeat (first | refine bN ?_ _ | refine bD ?_ | refine bA ?_ _)); refine bR ?_ NB172_181.out _; (with_reducible repeat (first | refine bN ?_ _ | refine bD ?_ | refine bA ?_ _)); refine bR ?_ NB172_181.out _; (with_reducible repeat (first | refine bN ?_ _ | refine bD ?_ | refine bA ?_ _)); refine bR ?_ NB172_181.out _; (with_reducible repeat (first | refine bN ?_ _ | refine bD ?_ | refine bA ?_ _)); refine bR ?_ NB172_181.out _; (with_reducible repeat (first | refine bN ?_ _ | refine bD ?_ | refine bA ?_ _)); exact BK172.out) hb); have n2_ := Aside0.mk (bB (g := gb173) (o := .cells #[.string a1_0, .string a1_1] 31 (0, 0)) (by (with_reducible repeat (first | refine bN ?_ _ | refine bD ?_ | refine bA ?_ _)); refine bR ?_ NB173_181.out _; (with_reducible repeat (first | refine bN ?_ _ | refine bD ?_ | refine bA ?_ _)); refine bR ?_ NB173_181.out _; (with_reducible repeat (first | refine bN ?_ _ | refine bD ?_ | refine bA ?_ _)); refine bR ?_ NB173_181.out _; (with_reducible repeat (first | refine bN ?_ _ | refine bD ?_ | refine bA ?_ _)); refine bR ?_ NB173_181.out _; (with_reducible repeat (first | refine bN ?_ _ | refine bD ?_ | refine bA ?_ _)); refine bR ?_ NB173_181.out _; (with_reducible repeat (first | refine bN ?_ _ | refine bD ?_ | refine bA ?_ _)); refine bR ?_ NB173_181.out _; (with_reducible repeat (first | refine bN ?_ _ | refine bD ?_ | refine bA ?_ _)); exact BK173.out) hb); have n3_ := Aside0.mk (bB (g := gb181) (o := .cells #[.int .u8 t174, .int .i64 t175, .string t176, .string t177, .string t178, .int .u64 t179] 25 (0, 0)) (by (with_reducible repeat (first | refine bN ?_ _ | refine bD ?_ | refine bA ?_ _)); refine bP (cs := #[.int .u8 t174, .int .i64 t175, .string t176, .string t177, .string t178, .int .u64 0]) ?_ 5 _ rfl; (with_reducible repeat (first | refine bN ?_ _ | refine bD ?_ | refine bA ?_ _)); refine bP (cs := #[.int .u8 t174, .int .i64 t175, .string t176, .string t177, .string (⟨#[]⟩ : BA), .int .u64 0]) ?_ 4 _ rfl; (with_reducible repeat (first | refine bN ?_ _ | refine bD ?_ | refine bA ?_ _)); refine bP (cs := #[.int .u8 t174, .int .i64 t175, .string t176, .string (⟨#[]⟩ : BA), .string (⟨#[]⟩ : BA), .int .u64 0]) ?_ 3 _ rfl; (with_reducible repeat (first | refine bN ?_ _ | refine bD ?_ | refine bA ?_ _)); refine bP (cs := #[.int .u8 t174, .int .i64 t175, .string (⟨#[]⟩ : BA), .string (⟨#[]⟩ : BA), .string (⟨#[]⟩ : BA), .int .u64 0]) ?_ 2 _ rfl; (with_reducible repeat (first | refine bN ?_ _ | refine bD ?_ | refine bA ?_ _)); refine bP (cs := #[.int .u8 t174, .int .i64 0, .string (⟨#[]⟩ : BA), .string (⟨#[]⟩ : BA), .string (⟨#[]⟩ : BA), .int .u64 0]) ?_ 1 _ rfl; (with_reducible repeat (first | refine bN ?_ _ | refine bD ?_ | refine bA ?_ _)); refine bP (cs := #[.int .u8 0, .int .i64 0, .string (⟨#[]⟩ : BA), .string (⟨#[]⟩ : BA), .string (⟨#[]⟩ : BA), .int .u64 0]) ?_ 0 _ rfl; (with_reducible repeat (first | refine bN ?_ _ | refine bD ?_ | refine bA ?_ _)); exact BK181.out) hb); have n4_ := Aside0.mk (wT (by repeat (first | (with_reducible first | exact HB.out | apply wA | apply wN | apply w1 | refine wS ?_ GE172.out | refine wS ?_ GE173.out | refine wS ?_ GE181.out) | exact HB.out)) hb); clear BK172; clear BK173; clear BK181; clear HB; have HO184 := n0_; have BK172 := n1_; have BK173 := n2_; have BK181 := n3_; have HB := n4_; clear n0_ n1_ n2_ n3_ n4_; clear hb ho104))
     go_ret
     exact ⟨_, by first | rfl | (simp [errW_none, errW_some] <;> rfl) | (simp [*, errW_none, errW_some] <;> rfl), by (with_reducible repeat (first | apply Kd.R_alloc | apply Kd.R_drewN | apply Kd.R_drew)); exact Kd.R_mono HO184.out (fun _ hk => trivial), by repeat (first | (with_reducible first | exact HB.out | apply wA | apply wN | apply w1 | refine wS ?_ GE172.out | refine wS ?_ GE173.out | refine wS ?_ GE181.out) | exact HB.out)⟩

end Go.Proofs.Ytgbikacioojpjaa.P
