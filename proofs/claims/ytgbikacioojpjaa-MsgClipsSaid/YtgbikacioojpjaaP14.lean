-- Laid for this claim by a program of this seat's own (wip/tools/pp.py) out of the translation's print. Lean checks it.
import Derived.Test.YtgbikacioojpjaaP0
import Derived.Test.YtgbikacioojpjaaP3
import Derived.Test.YtgbikacioojpjaaP6
import Derived.Test.YtgbikacioojpjaaP7
import Derived.Test.YtgbikacioojpjaaP8
namespace Go.Proofs.Ytgbikacioojpjaa.P
open Go.RowKit Go.Proofs.YtgbikacioojpjaaW.PrintWords Go.Proofs.YtgbikacioojpjaaW.PrintLast Go.Proofs.YtgbikacioojpjaaW.PrintMore Go.Proofs.Ytgbikacioojpjaa.Own
open Go.Proofs.YtgbikacioojpjaaW.PrintWords renaming blk_cell → bC, blk_frozen → bF, blk_drewN → bN, blk_alloc → bA, pw_below_drewN → wN, blk_drew → bD, below_drew1 → w1, below_set → wS, below_alloc → wA, blk_below → bB, below_step → wT, below_size → wZ, blk_far → bR, blk_put → bP
open List renaming setIfInBounds_toArray → sA1, set_cons_zero → sA2, set_cons_succ → sA3, map_toArray → mA1, map_cons → mA2, map_nil → mA3, length_take → mA4, length_drop → mA5
attribute [local go_sem] max2_str max2_int min2_int max_two min_two max_three min_three max_four min_four   -- for this text's walks alone
set_option linter.unusedVariables false
set_option linter.unusedSimpArgs false

/-! ### catchmentlaw04_MsgClips: function 5 -/
mutual
def catchmentlaw04_MsgClips.j0 : Nat → ByteArray → ByteArray → Bool → Bool → Int → Int → ByteArray → ByteArray → ByteArray → Int → ByteArray → ByteArray → Option (Bool)
 | 0, _, _, _, _, _, _, _, _, _, _, _, _ => none
 | k + 1, x2, x3, x4, x34, x305000, x305001, x305002, x305003, x305004, x305005, x306000, x306001 => if x34 = true then ((catchmentlaw04_live.f k).bind fun t306 => (some t306)) else ((msg_Rest.f k x305000 x305001 x305002 x305003 x305004 x305005 x306000 x306001).bind fun t307 => ((msg_Clip.f k x305000 x305001 x305002 x305003 x305004 x305005 x306000 x306001).bind fun bt310 => (if bt310.2.2.2.2.2.2 = true then ((some (([(⟨bt310.1, bt310.2.1, bt310.2.2.1, bt310.2.2.2.1, bt310.2.2.2.2.1, bt310.2.2.2.2.2.1⟩ : S25)] : List (S25)) : List (S25))).bind fun y318 => (if y318.length + t307.length < 1954687338268 then (catchmentlaw04_MsgClips.j1 k x2 x3 x4 (y318 ++ t307) x305000 x305001 x305002 x305003 x305004 x305005) else (none))) else (catchmentlaw04_MsgClips.j1 k x2 x3 x4 t307 x305000 x305001 x305002 x305003 x305004 x305005))))
def catchmentlaw04_MsgClips.j1 : Nat → ByteArray → ByteArray → Bool → List (S25) → Int → Int → ByteArray → ByteArray → ByteArray → Int → Option (Bool)
 | 0, _, _, _, _, _, _, _, _, _, _ => none
 | k + 1, x2, x3, x4, x11, x305000, x305001, x305002, x305003, x305004, x305005 => if x4 = true then (catchmentlaw04_MsgClips.j2 k x2 x3 x4 x11 0 x3 x4 x305000 x305001 x305002 x305003 x305004 x305005) else (catchmentlaw04_MsgClips.j2 k x2 x3 x4 x11 0 (⟨#[]⟩ : BA) x4 x305000 x305001 x305002 x305003 x305004 x305005)
def catchmentlaw04_MsgClips.j2 : Nat → ByteArray → ByteArray → Bool → List (S25) → Int → ByteArray → Bool → Int → Int → ByteArray → ByteArray → ByteArray → Int → Option (Bool)
 | 0, _, _, _, _, _, _, _, _, _, _, _, _, _ => none
 | k + 1, x2, x3, x4, x11, x14, x15, x16, x305000, x305001, x305002, x305003, x305004, x305005 => catchmentlaw04_MsgClips.l0 k x2 x3 x4 x11 x14 x15 x16 0 x305000 x305001 x305002 x305003 x305004 x305005
def catchmentlaw04_MsgClips.l0 : Nat → ByteArray → ByteArray → Bool → List (S25) → Int → ByteArray → Bool → Int → Int → Int → ByteArray → ByteArray → ByteArray → Int → Option (Bool)
 | 0, _, _, _, _, _, _, _, _, _, _, _, _, _, _ => none
 | k + 1, x2, x3, x4, x11, x14, x15, x16, x17, x305000, x305001, x305002, x305003, x305004, x305005 => if x17 < (x11.length : Int) then (if 0 ≤ x17 then ((msg_Touches.f ((rd_T25 x11 x17).f0) ((rd_T25 x11 x17).f1) ((rd_T25 x11 x17).f2) ((rd_T25 x11 x17).f3) ((rd_T25 x11 x17).f4) ((rd_T25 x11 x17).f5) x2).bind fun t329 => (if t329 = true then ((msg_On.f k ((rd_T25 x11 x17).f0) ((rd_T25 x11 x17).f1) ((rd_T25 x11 x17).f2) ((rd_T25 x11 x17).f3) ((rd_T25 x11 x17).f4) ((rd_T25 x11 x17).f5) x2 x15 x16).bind fun bt331 => (catchmentlaw04_MsgClips.l0 k x2 x3 x4 x11 (wrap64 (x14 + 1)) bt331.1 bt331.2 (wrap64 (x17 + 1)) x305000 x305001 x305002 x305003 x305004 x305005)) else ((msg_On.f k ((rd_T25 x11 x17).f0) ((rd_T25 x11 x17).f1) ((rd_T25 x11 x17).f2) ((rd_T25 x11 x17).f3) ((rd_T25 x11 x17).f4) ((rd_T25 x11 x17).f5) x2 x15 x16).bind fun bt334 => (catchmentlaw04_MsgClips.l0 k x2 x3 x4 x11 x14 bt334.1 bt334.2 (wrap64 (x17 + 1)) x305000 x305001 x305002 x305003 x305004 x305005)))) else (none)) else ((msg_On.f k x305000 x305001 x305002 x305003 x305004 x305005 x2 x3 x4).bind fun bt324 => ((catchmentlaw04_live.f k).bind fun t326 => (if t326 = true then (if x14 ≤ 1 then ((msg_Touches.f x305000 x305001 x305002 x305003 x305004 x305005 x2).bind fun t327 => (if ((x14 == 1) == t327) = true then (if x15.toList = bt324.1.toList then (some (x16 == bt324.2)) else (some false)) else (some false))) else (some false)) else (some false))))
end
def catchmentlaw04_MsgClips.f (k : Nat) (a0_0 : Int) (a0_1 : Int) (a0_2 : BA) (a0_3 : BA) (a0_4 : BA) (a0_5 : Int) (a1_0 : BA) (a1_1 : BA) (a2 : BA) (a3 : BA) (a4 : Bool) : Option (Bool) := if a0_0 = 4 then (if a0_3.toList = ([] : List UInt8) then (catchmentlaw04_MsgClips.j0 k a2 a3 a4 false a0_0 a0_1 a0_2 a0_3 a0_4 a0_5 a1_0 a1_1) else (catchmentlaw04_MsgClips.j0 k a2 a3 a4 (!(Op.bytesLess a0_2.toList a0_3.toList)) a0_0 a0_1 a0_2 a0_3 a0_4 a0_5 a1_0 a1_1)) else (catchmentlaw04_MsgClips.j0 k a2 a3 a4 false a0_0 a0_1 a0_2 a0_3 a0_4 a0_5 a1_0 a1_1)
set_option maxHeartbeats 8000000 in
set_option maxRecDepth 100000 in
theorem catchmentlaw04_MsgClips.calls (k : Nat) (a0_0 : Int) (a0_1 : Int) (a0_2 : BA) (a0_3 : BA) (a0_4 : BA) (a0_5 : Int) (a1_0 : BA) (a1_1 : BA) (a2 : BA) (a3 : BA) (a4 : Bool) (r : Bool) (w : World) (h : catchmentlaw04_MsgClips.f k a0_0 a0_1 a0_2 a0_3 a0_4 a0_5 a1_0 a1_1 a2 a3 a4 = some r) :
  Calls Try.prog 5 #[.agg #[.int .u8 a0_0, .int .i64 a0_1, .string a0_2, .string a0_3, .string a0_4, .int .u64 a0_5], .agg #[.string a1_0, .string a1_1], .string a2, .string a3, .bool a4] w fun e w' => e = .returned (.bool r) ∧ Below w.heap.size w w' := by
 have hu25 := Try.underlying25
 have hu31 := Try.underlying31
 have HB := Aside0.mk (Below.refl w.heap.size w)
 have H : (if a0_0 = 4 then (if a0_3.toList = ([] : List UInt8) then (catchmentlaw04_MsgClips.j0 k a2 a3 a4 false a0_0 a0_1 a0_2 a0_3 a0_4 a0_5 a1_0 a1_1) else (catchmentlaw04_MsgClips.j0 k a2 a3 a4 (!(Op.bytesLess a0_2.toList a0_3.toList)) a0_0 a0_1 a0_2 a0_3 a0_4 a0_5 a1_0 a1_1)) else (catchmentlaw04_MsgClips.j0 k a2 a3 a4 false a0_0 a0_1 a0_2 a0_3 a0_4 a0_5 a1_0 a1_1)) = some r := h
 clear h
 have HC6 := Aside0.mk H
 clear H
 go_enter Try.func5, Try.ntmps5
 go_upto_region 1 with (first | ((with_reducible refine gate_dst (N := 5) rfl ?_); refine box_event ?hg (N := 5) ?hd (cs := #[.int .u8 a0_0, .int .i64 a0_1, .string a0_2, .string a0_3, .string a0_4, .int .u64 a0_5]) (t := 25) ?hr ?_; (case hd => rfl); (case hg => rfl); (case hr => first | (go_simp; done) | (go_simp; rfl)); intro gb304 hg w7 hbox hb; have n0_ := Aside0.mk (wT (by repeat (first | (with_reducible first | exact HB.out | apply wA | apply wN | apply w1) | exact HB.out)) hb); have n1_ := Aside0.mk (hbox); have n2_ := Aside0.mk ((by rw [hg]; exact (wZ (by repeat (first | (with_reducible first | exact HB.out | apply wA | apply wN | apply w1) | exact HB.out))) : w.heap.size ≤ gb304)); have n3_ := Aside0.mk ((by rw [hg]; exact (wZ (by repeat (first | (with_reducible first | exact HB.out | apply wA | apply wN | apply w1) | exact HB.out))) : w.heap.size ≤ gb304)); clear HB; have HB := n0_; have BK304 := n1_; have GW304 := n2_; have GE304 := n3_; clear n0_ n1_ n2_ n3_; clear hb hbox hg) | ((with_reducible refine gate_dst (N := 6) rfl ?_); refine box_event ?hg (N := 6) ?hd (cs := #[.string a1_0, .string a1_1]) (t := 31) ?hr ?_; (case hd => rfl); (case hg => rfl); (case hr => first | (go_simp; done) | (go_simp; rfl)); intro gb305 hg w8 hbox hb; have n0_ := Aside0.mk (bB (g := gb304) (o := .cells #[.int .u8 a0_0, .int .i64 a0_1, .string a0_2, .string a0_3, .string a0_4, .int .u64 a0_5] 25 (0, 0)) (by (with_reducible repeat (first | refine bN ?_ _ | refine bD ?_ | refine bA ?_ _)); exact BK304.out) hb); have n1_ := Aside0.mk (wT (by repeat (first | (with_reducible first | exact HB.out | apply wA | apply wN | apply w1 | refine wS ?_ GE304.out) | exact HB.out)) hb); have n2_ := Aside0.mk (hbox); have n3_ := Aside0.mk ((by rw [hg]; exact (wZ (by repeat (first | (with_reducible first | exact HB.out | apply wA | apply wN | apply w1 | refine wS ?_ GE304.out) | exact HB.out))) : w.heap.size ≤ gb305)); have n4_ := Aside0.mk ((by rw [hg]; exact (wZ (by repeat (first | (with_reducible first | exact HB.out | apply wA | apply wN | apply w1 | refine wS ?_ GE304.out) | exact HB.out))) : w.heap.size ≤ gb305)); have n5_ := Aside0.mk ((by rw [hg]; exact Nat.ne_of_lt (blk_lt (g := gb304) (o := .cells #[.int .u8 a0_0, .int .i64 a0_1, .string a0_2, .string a0_3, .string a0_4, .int .u64 a0_5] 25 (0, 0)) (by (with_reducible repeat (first | refine bN ?_ _ | refine bD ?_ | refine bA ?_ _)); exact BK304.out)) : gb304 ≠ gb305)); have n6_ := Aside0.mk ((by rw [hg]; exact Nat.ne_of_gt (blk_lt (g := gb304) (o := .cells #[.int .u8 a0_0, .int .i64 a0_1, .string a0_2, .string a0_3, .string a0_4, .int .u64 a0_5] 25 (0, 0)) (by (with_reducible repeat (first | refine bN ?_ _ | refine bD ?_ | refine bA ?_ _)); exact BK304.out)) : gb305 ≠ gb304)); clear BK304; clear HB; have BK304 := n0_; have HB := n1_; have BK305 := n2_; have GW305 := n3_; have GE305 := n4_; have NB304_305 := n5_; have NB305_304 := n6_; clear n0_ n1_ n2_ n3_ n4_ n5_ n6_; clear hb hbox hg))
 (try simp only [Act.put, sA1, sA2, sA3])
 go_cut [34] (fun v34 wc => ∃ (kq : Nat) (x34_5 : Bool), v34 = .bool x34_5 ∧ Aside0 (catchmentlaw04_MsgClips.j0 kq a2 a3 a4 x34_5 a0_0 a0_1 a0_2 a0_3 a0_4 a0_5 a1_0 a1_1 = some r) ∧ Aside0 (kq ≤ k) ∧ Aside0 (wc.heap[gb304]? = some (.cells #[.int .u8 a0_0, .int .i64 a0_1, .string a0_2, .string a0_3, .string a0_4, .int .u64 a0_5] 25 (0, 0))) ∧ Aside0 (wc.heap[gb305]? = some (.cells #[.string a1_0, .string a1_1] 31 (0, 0))) ∧ Aside0 (Below w.heap.size w wc))
 case first =>
  have H := HC6.out
  clear HC6
  by_cases c9 : a0_0 = 4
  ·rw [if_pos c9] at H
   have c9b0 : (a0_0 == 4) = true := beq_iff_eq.mpr c9
   have c9b1 : (a0_0 != 4) = false := bne_eq_false_iff_eq.mpr c9
   clear c9
   (first | rw [c9b0] | (simp only [i64_w, i32_w]; rw [c9b0]) | skip)
   by_cases c10 : a0_3.toList = ([] : List UInt8)
   ·rw [if_pos c10] at H
    have c10b0 : (a0_3.toList == ([] : List UInt8)) = true := beq_iff_eq.mpr c10
    have c10b1 : (a0_3.toList != ([] : List UInt8)) = false := bne_eq_false_iff_eq.mpr c10
    clear c10
    have H' := Aside0.mk H
    clear H
    have hnb11 := NB304_305.out
    have hnc11 := NB305_304.out
    have hcz12_0 : w8.cell? ⟨gb304, 0, none⟩ = some (.int .u8 a0_0) := (bC BK304.out 0).trans rfl
    have hcz12_1 : w8.cell? ⟨gb304, 1, none⟩ = some (.int .i64 a0_1) := (bC BK304.out 1).trans rfl
    have hcz12_2 : w8.cell? ⟨gb304, 2, none⟩ = some (.string a0_2) := (bC BK304.out 2).trans rfl
    have hcz12_3 : w8.cell? ⟨gb304, 3, none⟩ = some (.string a0_3) := (bC BK304.out 3).trans rfl
    have hcz12_4 : w8.cell? ⟨gb304, 4, none⟩ = some (.string a0_4) := (bC BK304.out 4).trans rfl
    have hcz12_5 : w8.cell? ⟨gb304, 5, none⟩ = some (.int .u64 a0_5) := (bC BK304.out 5).trans rfl
    have hfz12_0 := bF BK304.out 0
    have hfz12_1 := bF BK304.out 1
    have hfz12_2 := bF BK304.out 2
    have hfz12_3 := bF BK304.out 3
    have hfz12_4 := bF BK304.out 4
    have hfz12_5 := bF BK304.out 5
    go_wp2
    go_meet
    case rel => exact ⟨_, (false), (by first | rfl | (simp; done) | (simp [*]; done)), H', ⟨by first | omega | exact Nat.le_refl _⟩, ⟨by (with_reducible repeat (first | refine bN ?_ _ | refine bD ?_ | refine bA ?_ _)); exact BK304.out⟩, ⟨by (with_reducible repeat (first | refine bN ?_ _ | refine bD ?_ | refine bA ?_ _)); exact BK305.out⟩, ⟨by repeat (first | (with_reducible first | exact HB.out | apply wA | apply wN | apply w1 | refine wS ?_ GE304.out | refine wS ?_ GE305.out) | exact HB.out)⟩⟩
   ·rw [if_neg c10] at H
    have c10b0 : (a0_3.toList == ([] : List UInt8)) = false := beq_eq_false_iff_ne.mpr c10
    have c10b1 : (a0_3.toList != ([] : List UInt8)) = true := bne_iff_ne.mpr c10
    have H' := Aside0.mk H
    clear H
    have hnb13 := NB304_305.out
    have hnc13 := NB305_304.out
    have hcz14_0 : w8.cell? ⟨gb304, 0, none⟩ = some (.int .u8 a0_0) := (bC BK304.out 0).trans rfl
    have hcz14_1 : w8.cell? ⟨gb304, 1, none⟩ = some (.int .i64 a0_1) := (bC BK304.out 1).trans rfl
    have hcz14_2 : w8.cell? ⟨gb304, 2, none⟩ = some (.string a0_2) := (bC BK304.out 2).trans rfl
    have hcz14_3 : w8.cell? ⟨gb304, 3, none⟩ = some (.string a0_3) := (bC BK304.out 3).trans rfl
    have hcz14_4 : w8.cell? ⟨gb304, 4, none⟩ = some (.string a0_4) := (bC BK304.out 4).trans rfl
    have hcz14_5 : w8.cell? ⟨gb304, 5, none⟩ = some (.int .u64 a0_5) := (bC BK304.out 5).trans rfl
    have hfz14_0 := bF BK304.out 0
    have hfz14_1 := bF BK304.out 1
    have hfz14_2 := bF BK304.out 2
    have hfz14_3 := bF BK304.out 3
    have hfz14_4 := bF BK304.out 4
    have hfz14_5 := bF BK304.out 5
    go_wp2
    go_meet
    case rel => exact ⟨_, (!(Op.bytesLess a0_2.toList a0_3.toList)), (by first | rfl | (simp; done) | (simp [*]; done)), H', ⟨by first | omega | exact Nat.le_refl _⟩, ⟨by (with_reducible repeat (first | refine bN ?_ _ | refine bD ?_ | refine bA ?_ _)); exact BK304.out⟩, ⟨by (with_reducible repeat (first | refine bN ?_ _ | refine bD ?_ | refine bA ?_ _)); exact BK305.out⟩, ⟨by repeat (first | (with_reducible first | exact HB.out | apply wA | apply wN | apply w1 | refine wS ?_ GE304.out | refine wS ?_ GE305.out) | exact HB.out)⟩⟩
  ·rw [if_neg c9] at H
   have c9b0 : (a0_0 == 4) = false := beq_eq_false_iff_ne.mpr c9
   have c9b1 : (a0_0 != 4) = true := bne_iff_ne.mpr c9
   (first | rw [c9b0] | (simp only [i64_w, i32_w]; rw [c9b0]) | skip)
   have H' := Aside0.mk H
   clear H
   have hnb15 := NB304_305.out
   have hnc15 := NB305_304.out
   have hcz16_0 : w8.cell? ⟨gb304, 0, none⟩ = some (.int .u8 a0_0) := (bC BK304.out 0).trans rfl
   have hcz16_1 : w8.cell? ⟨gb304, 1, none⟩ = some (.int .i64 a0_1) := (bC BK304.out 1).trans rfl
   have hcz16_2 : w8.cell? ⟨gb304, 2, none⟩ = some (.string a0_2) := (bC BK304.out 2).trans rfl
   have hcz16_3 : w8.cell? ⟨gb304, 3, none⟩ = some (.string a0_3) := (bC BK304.out 3).trans rfl
   have hcz16_4 : w8.cell? ⟨gb304, 4, none⟩ = some (.string a0_4) := (bC BK304.out 4).trans rfl
   have hcz16_5 : w8.cell? ⟨gb304, 5, none⟩ = some (.int .u64 a0_5) := (bC BK304.out 5).trans rfl
   have hfz16_0 := bF BK304.out 0
   have hfz16_1 := bF BK304.out 1
   have hfz16_2 := bF BK304.out 2
   have hfz16_3 := bF BK304.out 3
   have hfz16_4 := bF BK304.out 4
   have hfz16_5 := bF BK304.out 5
   go_wp2
   go_meet
   case rel => exact ⟨_, (false), (by first | rfl | (simp; done) | (simp [*]; done)), H', ⟨by first | omega | exact Nat.le_refl _⟩, ⟨by (with_reducible repeat (first | refine bN ?_ _ | refine bD ?_ | refine bA ?_ _)); exact BK304.out⟩, ⟨by (with_reducible repeat (first | refine bN ?_ _ | refine bD ?_ | refine bA ?_ _)); exact BK305.out⟩, ⟨by repeat (first | (with_reducible first | exact HB.out | apply wA | apply wN | apply w1 | refine wS ?_ GE304.out | refine wS ?_ GE305.out) | exact HB.out)⟩⟩
 case rest =>
  clear HC6
  try clear c1
  try clear p2
  try clear c5
  try clear c9
  try clear c9b0
  try clear c9b1
  try clear c10
  try clear c10b0
  try clear c10b1
  try clear c11
  try clear c13
  try clear c15
  try clear hcz12_0
  try clear hcz12_1
  try clear hcz12_2
  try clear hcz12_3
  try clear hcz12_4
  try clear hcz12_5
  try clear hcz14_0
  try clear hcz14_1
  try clear hcz14_2
  try clear hcz14_3
  try clear hcz14_4
  try clear hcz14_5
  try clear hcz16_0
  try clear hcz16_1
  try clear hcz16_2
  try clear hcz16_3
  try clear hcz16_4
  try clear hcz16_5
  try clear hfz12_0
  try clear hfz12_1
  try clear hfz12_2
  try clear hfz12_3
  try clear hfz12_4
  try clear hfz12_5
  try clear hfz14_0
  try clear hfz14_1
  try clear hfz14_2
  try clear hfz14_3
  try clear hfz14_4
  try clear hfz14_5
  try clear hfz16_0
  try clear hfz16_1
  try clear hfz16_2
  try clear hfz16_3
  try clear hfz16_4
  try clear hfz16_5
  obtain ⟨kq, x34_5, rfl, HA, HJ5, BK304, BK305, HB⟩ := hcut
  cases kq with
  | zero => exact absurd HA.out (by simp [catchmentlaw04_MsgClips.j0])
  | succ kj5 =>
   have H := HA.out
   clear HA
   simp only [catchmentlaw04_MsgClips.j0] at H
   by_cases c17 : x34_5 = true
   ·subst c17
    have H1 : ((catchmentlaw04_live.f kj5).bind fun t306 => (some t306)) = some r := by rw [if_pos rfl] at H; exact H
    clear H
    have H := H1
    clear H1
    replace H := Option.bind_eq_some_iff.mp H
    obtain ⟨t306, A180, H⟩ := H
    replace H : (some t306) = some r := H
    have A18 := Aside0.mk A180
    clear A180
    obtain rfl := Option.some.inj H
    go_wp2_with (first | ((with_reducible refine gate_callee (f := 18) rfl ?_); refine goesL_ (some 35) rfl rfl Try.func18 (by kernel_rfl) rfl #[] rfl (by (try simp only [mA1, mA2, mA3]); first | done | rfl | (simp only [mA5, mA4]; rfl)) ?_; (with_reducible refine (catchmentlaw04_live.calls kj5  t306 _ A18.out).mono ?_); rintro e w19 ⟨rfl, hb⟩; refine ⟨_, rfl, ?_⟩; have n0_ := Aside0.mk (bB (g := gb304) (o := .cells #[.int .u8 a0_0, .int .i64 a0_1, .string a0_2, .string a0_3, .string a0_4, .int .u64 a0_5] 25 (0, 0)) (by (with_reducible repeat (first | refine bN ?_ _ | refine bD ?_ | refine bA ?_ _)); exact BK304.out) hb); have n1_ := Aside0.mk (bB (g := gb305) (o := .cells #[.string a1_0, .string a1_1] 31 (0, 0)) (by (with_reducible repeat (first | refine bN ?_ _ | refine bD ?_ | refine bA ?_ _)); exact BK305.out) hb); have n2_ := Aside0.mk (wT (by repeat (first | (with_reducible first | exact HB.out | apply wA | apply wN | apply w1 | refine wS ?_ GE304.out | refine wS ?_ GE305.out) | exact HB.out)) hb); clear BK304; clear BK305; clear HB; have BK304 := n0_; have BK305 := n1_; have HB := n2_; clear n0_ n1_ n2_; (try clear hb); (try clear hb2); (try clear hk); (try clear hi)))
    go_ret
    exact ⟨by first | rfl | (simp [errW_none, errW_some] <;> rfl) | (simp [*, errW_none, errW_some] <;> rfl), by repeat (first | (with_reducible first | exact HB.out | apply wA | apply wN | apply w1 | refine wS ?_ GE304.out | refine wS ?_ GE305.out) | exact HB.out)⟩
   ·replace c17 := Bool.eq_false_iff.mpr c17
    subst c17
    have H1 : ((msg_Rest.f kj5 a0_0 a0_1 a0_2 a0_3 a0_4 a0_5 a1_0 a1_1).bind fun t307 => ((msg_Clip.f kj5 a0_0 a0_1 a0_2 a0_3 a0_4 a0_5 a1_0 a1_1).bind fun bt310 => (if bt310.2.2.2.2.2.2 = true then ((some (([(⟨bt310.1, bt310.2.1, bt310.2.2.1, bt310.2.2.2.1, bt310.2.2.2.2.1, bt310.2.2.2.2.2.1⟩ : S25)] : List (S25)) : List (S25))).bind fun y318 => (if y318.length + t307.length < 1954687338268 then (catchmentlaw04_MsgClips.j1 kj5 a2 a3 a4 (y318 ++ t307) a0_0 a0_1 a0_2 a0_3 a0_4 a0_5) else (none))) else (catchmentlaw04_MsgClips.j1 kj5 a2 a3 a4 t307 a0_0 a0_1 a0_2 a0_3 a0_4 a0_5)))) = some r := by rw [if_neg (show ¬ (false = true) by decide)] at H; exact H
    clear H
    have H := H1
    clear H1
    replace H := Option.bind_eq_some_iff.mp H
    obtain ⟨t307, A200, H⟩ := H
    replace H : ((msg_Clip.f kj5 a0_0 a0_1 a0_2 a0_3 a0_4 a0_5 a1_0 a1_1).bind fun bt310 => (if bt310.2.2.2.2.2.2 = true then ((some (([(⟨bt310.1, bt310.2.1, bt310.2.2.1, bt310.2.2.2.1, bt310.2.2.2.2.1, bt310.2.2.2.2.2.1⟩ : S25)] : List (S25)) : List (S25))).bind fun y318 => (if y318.length + t307.length < 1954687338268 then (catchmentlaw04_MsgClips.j1 kj5 a2 a3 a4 (y318 ++ t307) a0_0 a0_1 a0_2 a0_3 a0_4 a0_5) else (none))) else (catchmentlaw04_MsgClips.j1 kj5 a2 a3 a4 t307 a0_0 a0_1 a0_2 a0_3 a0_4 a0_5))) = some r := H
    have A20 := Aside0.mk A200
    clear A200
    replace H := Option.bind_eq_some_iff.mp H
    obtain ⟨⟨t310, t311, t312, t313, t314, t315, t316⟩, A210, H⟩ := H
    replace H : (if t316 = true then ((some (([(⟨t310, t311, t312, t313, t314, t315⟩ : S25)] : List (S25)) : List (S25))).bind fun y318 => (if y318.length + t307.length < 1954687338268 then (catchmentlaw04_MsgClips.j1 kj5 a2 a3 a4 (y318 ++ t307) a0_0 a0_1 a0_2 a0_3 a0_4 a0_5) else (none))) else (catchmentlaw04_MsgClips.j1 kj5 a2 a3 a4 t307 a0_0 a0_1 a0_2 a0_3 a0_4 a0_5)) = some r := H
    have A21 := Aside0.mk A210
    clear A210
    have HC22 := Aside0.mk H
    clear H
    have hnb23 := NB304_305.out
    have hnc23 := NB305_304.out
    have hcz24_0 : wc.cell? ⟨gb304, 0, none⟩ = some (.int .u8 a0_0) := (bC BK304.out 0).trans rfl
    have hcz24_1 : wc.cell? ⟨gb304, 1, none⟩ = some (.int .i64 a0_1) := (bC BK304.out 1).trans rfl
    have hcz24_2 : wc.cell? ⟨gb304, 2, none⟩ = some (.string a0_2) := (bC BK304.out 2).trans rfl
    have hcz24_3 : wc.cell? ⟨gb304, 3, none⟩ = some (.string a0_3) := (bC BK304.out 3).trans rfl
    have hcz24_4 : wc.cell? ⟨gb304, 4, none⟩ = some (.string a0_4) := (bC BK304.out 4).trans rfl
    have hcz24_5 : wc.cell? ⟨gb304, 5, none⟩ = some (.int .u64 a0_5) := (bC BK304.out 5).trans rfl
    have hfz24_0 := bF BK304.out 0
    have hfz24_1 := bF BK304.out 1
    have hfz24_2 := bF BK304.out 2
    have hfz24_3 := bF BK304.out 3
    have hfz24_4 := bF BK304.out 4
    have hfz24_5 := bF BK304.out 5
    have hcz25_0 : wc.cell? ⟨gb305, 0, none⟩ = some (.string a1_0) := (bC BK305.out 0).trans rfl
    have hcz25_1 : wc.cell? ⟨gb305, 1, none⟩ = some (.string a1_1) := (bC BK305.out 1).trans rfl
    have hfz25_0 := bF BK305.out 0
    have hfz25_1 := bF BK305.out 1
    go_upto_if 45 with (first | ((with_reducible refine gate_callee (f := 22) rfl ?_); refine goesL_ (some 38) rfl rfl Try.func22 (by kernel_rfl) rfl #[.agg #[.int .u8 a0_0, .int .i64 a0_1, .string a0_2, .string a0_3, .string a0_4, .int .u64 a0_5], .agg #[.string a1_0, .string a1_1]] rfl (by (try simp only [mA1, mA2, mA3]); first | done | rfl | (simp only [mA5, mA4]; rfl)) ?_; (with_reducible refine (msg_Rest.calls kj5 a0_0 a0_1 a0_2 a0_3 a0_4 a0_5 a1_0 a1_1 t307 _ A20.out).mono ?_); rintro e w26 ⟨v308, rfl, ho0, hb⟩; refine ⟨_, rfl, ?_⟩; have n0_ := Aside0.mk (Kd.R_lower (Kd.R_newB ho0 (g := gb304) (o := .cells #[.int .u8 a0_0, .int .i64 a0_1, .string a0_2, .string a0_3, .string a0_4, .int .u64 a0_5] 25 (0, 0)) (by (with_reducible repeat (first | refine bN ?_ _ | refine bD ?_ | refine bA ?_ _)); exact BK304.out)) (wZ (by repeat (first | (with_reducible first | exact HB.out | apply wA | apply wN | apply w1 | refine wS ?_ GE304.out | refine wS ?_ GE305.out) | exact HB.out)))); have n1_ := Aside0.mk (bB (g := gb304) (o := .cells #[.int .u8 a0_0, .int .i64 a0_1, .string a0_2, .string a0_3, .string a0_4, .int .u64 a0_5] 25 (0, 0)) (by (with_reducible repeat (first | refine bN ?_ _ | refine bD ?_ | refine bA ?_ _)); exact BK304.out) hb); have n2_ := Aside0.mk (bB (g := gb305) (o := .cells #[.string a1_0, .string a1_1] 31 (0, 0)) (by (with_reducible repeat (first | refine bN ?_ _ | refine bD ?_ | refine bA ?_ _)); exact BK305.out) hb); have n3_ := Aside0.mk (wT (by repeat (first | (with_reducible first | exact HB.out | apply wA | apply wN | apply w1 | refine wS ?_ GE304.out | refine wS ?_ GE305.out) | exact HB.out)) hb); clear BK304; clear BK305; clear HB; have HO309 := n0_; have BK304 := n1_; have BK305 := n2_; have HB := n3_; clear n0_ n1_ n2_ n3_; (try clear hb); (try clear hb2); (try clear hk); (try clear hi); (try clear ho0); have hcz27_0 : w26.cell? ⟨gb304, 0, none⟩ = some (.int .u8 a0_0) := (bC BK304.out 0).trans rfl; have hcz27_1 : w26.cell? ⟨gb304, 1, none⟩ = some (.int .i64 a0_1) := (bC BK304.out 1).trans rfl; have hcz27_2 : w26.cell? ⟨gb304, 2, none⟩ = some (.string a0_2) := (bC BK304.out 2).trans rfl; have hcz27_3 : w26.cell? ⟨gb304, 3, none⟩ = some (.string a0_3) := (bC BK304.out 3).trans rfl; have hcz27_4 : w26.cell? ⟨gb304, 4, none⟩ = some (.string a0_4) := (bC BK304.out 4).trans rfl; have hcz27_5 : w26.cell? ⟨gb304, 5, none⟩ = some (.int .u64 a0_5) := (bC BK304.out 5).trans rfl; have hfz27_0 := bF BK304.out 0; have hfz27_1 := bF BK304.out 1; have hfz27_2 := bF BK304.out 2; have hfz27_3 := bF BK304.out 3; have hfz27_4 := bF BK304.out 4; have hfz27_5 := bF BK304.out 5; have hcz28_0 : w26.cell? ⟨gb305, 0, none⟩ = some (.string a1_0) := (bC BK305.out 0).trans rfl; have hcz28_1 : w26.cell? ⟨gb305, 1, none⟩ = some (.string a1_1) := (bC BK305.out 1).trans rfl; have hfz28_0 := bF BK305.out 0; have hfz28_1 := bF BK305.out 1) | ((with_reducible refine gate_callee (f := 19) rfl ?_); refine goesL_ (some 42) rfl rfl Try.func19 (by kernel_rfl) rfl #[.agg #[.int .u8 a0_0, .int .i64 a0_1, .string a0_2, .string a0_3, .string a0_4, .int .u64 a0_5], .agg #[.string a1_0, .string a1_1]] rfl (by (try simp only [mA1, mA2, mA3]); first | done | rfl | (simp only [mA5, mA4]; rfl)) ?_; (with_reducible refine (msg_Clip.calls kj5 a0_0 a0_1 a0_2 a0_3 a0_4 a0_5 a1_0 a1_1 t310 t311 t312 t313 t314 t315 t316 _ A21.out).mono ?_); rintro e w29 ⟨rfl, hb⟩; refine ⟨_, rfl, ?_⟩; have n0_ := Aside0.mk (Kd.R_below (by (with_reducible repeat (first | apply Kd.R_alloc | apply Kd.R_drewN | apply Kd.R_drew)); exact HO309.out) hb); have n1_ := Aside0.mk (bB (g := gb304) (o := .cells #[.int .u8 a0_0, .int .i64 a0_1, .string a0_2, .string a0_3, .string a0_4, .int .u64 a0_5] 25 (0, 0)) (by (with_reducible repeat (first | refine bN ?_ _ | refine bD ?_ | refine bA ?_ _)); exact BK304.out) hb); have n2_ := Aside0.mk (bB (g := gb305) (o := .cells #[.string a1_0, .string a1_1] 31 (0, 0)) (by (with_reducible repeat (first | refine bN ?_ _ | refine bD ?_ | refine bA ?_ _)); exact BK305.out) hb); have n3_ := Aside0.mk (wT (by repeat (first | (with_reducible first | exact HB.out | apply wA | apply wN | apply w1 | refine wS ?_ GE304.out | refine wS ?_ GE305.out) | exact HB.out)) hb); clear HO309; clear BK304; clear BK305; clear HB; have HO309 := n0_; have BK304 := n1_; have BK305 := n2_; have HB := n3_; clear n0_ n1_ n2_ n3_; (try clear hb); (try clear hb2); (try clear hk); (try clear hi)) | ((with_reducible refine gate_dst (N := 12) rfl ?_); refine box_event ?hg (N := 12) ?hd (cs := #[.int .u8 0, .int .i64 0, .string (⟨#[]⟩ : BA), .string (⟨#[]⟩ : BA), .string (⟨#[]⟩ : BA), .int .u64 0]) (t := 25) ?hr ?_; (case hd => rfl); (case hg => rfl); (case hr => first | (go_simp; done) | (go_simp; rfl)); intro gb317 hg w30 hbox hb; have n0_ := Aside0.mk (Kd.R_below (Kd.R_elderB (by (with_reducible repeat (first | apply Kd.R_alloc | apply Kd.R_drewN | apply Kd.R_drew)); exact HO309.out) gb317 (Nat.le_of_eq hg.symm)) hb); have n1_ := Aside0.mk (bB (g := gb304) (o := .cells #[.int .u8 a0_0, .int .i64 a0_1, .string a0_2, .string a0_3, .string a0_4, .int .u64 a0_5] 25 (0, 0)) (by (with_reducible repeat (first | refine bN ?_ _ | refine bD ?_ | refine bA ?_ _)); exact BK304.out) hb); have n2_ := Aside0.mk (bB (g := gb305) (o := .cells #[.string a1_0, .string a1_1] 31 (0, 0)) (by (with_reducible repeat (first | refine bN ?_ _ | refine bD ?_ | refine bA ?_ _)); exact BK305.out) hb); have n3_ := Aside0.mk (wT (by repeat (first | (with_reducible first | exact HB.out | apply wA | apply wN | apply w1 | refine wS ?_ GE304.out | refine wS ?_ GE305.out) | exact HB.out)) hb); have n4_ := Aside0.mk (hbox); have n5_ := Aside0.mk ((by rw [hg]; exact (wZ (by repeat (first | (with_reducible first | exact HB.out | apply wA | apply wN | apply w1 | refine wS ?_ GE304.out | refine wS ?_ GE305.out) | exact HB.out))) : w.heap.size ≤ gb317)); have n6_ := Aside0.mk ((by rw [hg]; exact (wZ (by repeat (first | (with_reducible first | exact HB.out | apply wA | apply wN | apply w1 | refine wS ?_ GE304.out | refine wS ?_ GE305.out) | exact HB.out))) : w.heap.size ≤ gb317)); have n7_ := Aside0.mk ((by rw [hg]; exact Nat.ne_of_lt (blk_lt (g := gb304) (o := .cells #[.int .u8 a0_0, .int .i64 a0_1, .string a0_2, .string a0_3, .string a0_4, .int .u64 a0_5] 25 (0, 0)) (by (with_reducible repeat (first | refine bN ?_ _ | refine bD ?_ | refine bA ?_ _)); exact BK304.out)) : gb304 ≠ gb317)); have n8_ := Aside0.mk ((by rw [hg]; exact Nat.ne_of_gt (blk_lt (g := gb304) (o := .cells #[.int .u8 a0_0, .int .i64 a0_1, .string a0_2, .string a0_3, .string a0_4, .int .u64 a0_5] 25 (0, 0)) (by (with_reducible repeat (first | refine bN ?_ _ | refine bD ?_ | refine bA ?_ _)); exact BK304.out)) : gb317 ≠ gb304)); have n9_ := Aside0.mk ((by rw [hg]; exact Nat.ne_of_lt (blk_lt (g := gb305) (o := .cells #[.string a1_0, .string a1_1] 31 (0, 0)) (by (with_reducible repeat (first | refine bN ?_ _ | refine bD ?_ | refine bA ?_ _)); exact BK305.out)) : gb305 ≠ gb317)); have n10_ := Aside0.mk ((by rw [hg]; exact Nat.ne_of_gt (blk_lt (g := gb305) (o := .cells #[.string a1_0, .string a1_1] 31 (0, 0)) (by (with_reducible repeat (first | refine bN ?_ _ | refine bD ?_ | refine bA ?_ _)); exact BK305.out)) : gb317 ≠ gb305)); clear HO309; clear BK304; clear BK305; clear HB; have HO309 := n0_; have BK304 := n1_; have BK305 := n2_; have HB := n3_; have BK317 := n4_; have GW317 := n5_; have GE317 := n6_; have NB304_317 := n7_; have NB317_304 := n8_; have NB305_317 := n9_; have NB317_305 := n10_; clear n0_ n1_ n2_ n3_ n4_ n5_ n6_ n7_ n8_ n9_ n10_; clear hb hbox hg; have hnb31 := NB317_304.out; have hnc31 := NB304_317.out; have hnb32 := NB317_305.out; have hnc32 := NB305_317.out; have hcz33_0 : w30.cell? ⟨gb317, 0, none⟩ = some (.int .u8 0) := (bC BK317.out 0).trans rfl; have hcz33_1 : w30.cell? ⟨gb317, 1, none⟩ = some (.int .i64 0) := (bC BK317.out 1).trans rfl; have hcz33_2 : w30.cell? ⟨gb317, 2, none⟩ = some (.string (⟨#[]⟩ : BA)) := (bC BK317.out 2).trans rfl; have hcz33_3 : w30.cell? ⟨gb317, 3, none⟩ = some (.string (⟨#[]⟩ : BA)) := (bC BK317.out 3).trans rfl; have hcz33_4 : w30.cell? ⟨gb317, 4, none⟩ = some (.string (⟨#[]⟩ : BA)) := (bC BK317.out 4).trans rfl; have hcz33_5 : w30.cell? ⟨gb317, 5, none⟩ = some (.int .u64 0) := (bC BK317.out 5).trans rfl; have hfz33_0 := bF BK317.out 0; have hfz33_1 := bF BK317.out 1; have hfz33_2 := bF BK317.out 2; have hfz33_3 := bF BK317.out 3; have hfz33_4 := bF BK317.out 4; have hfz33_5 := bF BK317.out 5))
    (try simp only [Act.put, sA1, sA2, sA3])
    go_cut [11] (fun v11 wc => ∃ (kq : Nat) (x11_21 : List (S25)), Aside0 (catchmentlaw04_MsgClips.j1 kq a2 a3 a4 x11_21 a0_0 a0_1 a0_2 a0_3 a0_4 a0_5 = some r) ∧ Aside0 (kq ≤ kj5) ∧ Aside0 (Kd.R k25 25 wc w.heap.size (fun k_ => k_ ≠ gb304 ∧ k_ ≠ gb317) v11 x11_21) ∧ Aside0 (wc.heap[gb304]? = some (.cells #[.int .u8 a0_0, .int .i64 a0_1, .string a0_2, .string a0_3, .string a0_4, .int .u64 a0_5] 25 (0, 0))) ∧ Aside0 (wc.heap[gb305]? = some (.cells #[.string a1_0, .string a1_1] 31 (0, 0))) ∧ Aside0 (wc.heap[gb317]? = some (.cells #[.int .u8 t310, .int .i64 t311, .string t312, .string t313, .string t314, .int .u64 t315] 25 (0, 0))) ∧ Aside0 (Below w.heap.size w wc))
    case first =>
     have H := HC22.out
     clear HC22
     by_cases c34 : t316 = true
     ·subst c34
      have H1 : ((some (([(⟨t310, t311, t312, t313, t314, t315⟩ : S25)] : List (S25)) : List (S25))).bind fun y318 => (if y318.length + t307.length < 1954687338268 then (catchmentlaw04_MsgClips.j1 kj5 a2 a3 a4 (y318 ++ t307) a0_0 a0_1 a0_2 a0_3 a0_4 a0_5) else (none))) = some r := by rw [if_pos rfl] at H; exact H
      clear H
      have H := H1
      clear H1
      obtain ⟨y318, hy318⟩ : ∃ y_ : List (S25), y_ = (([(⟨t310, t311, t312, t313, t314, t315⟩ : S25)] : List (S25))) := ⟨_, rfl⟩
      replace H : (if y318.length + t307.length < 1954687338268 then (catchmentlaw04_MsgClips.j1 kj5 a2 a3 a4 (y318 ++ t307) a0_0 a0_1 a0_2 a0_3 a0_4 a0_5) else (none)) = some r := by first | (rw [hy318]; with_reducible exact H) | (have H2_ := (Option.bind_some _ _).symm.trans H; rw [hy318]; with_reducible exact H2_) | (have H2_ := (Option.bind_some _ _).symm.trans H; with_reducible exact H2_) | with_reducible exact H | (rw [hy318]; exact H) | exact H
      have Ny318 := Aside0.mk hy318
      clear hy318
      by_cases c35 : y318.length + t307.length < 1954687338268
      ·rw [if_pos c35] at H
       have LMc35 := Aside0.mk c35
       clear c35
       obtain ⟨y321, hy321⟩ : ∃ y_ : List (S25), y_ = (y318 ++ t307) := ⟨_, rfl⟩
       replace H : (catchmentlaw04_MsgClips.j1 kj5 a2 a3 a4 y321 a0_0 a0_1 a0_2 a0_3 a0_4 a0_5) = some r := by first | (rw [hy321]; with_reducible exact H) | (have H2_ := (Option.bind_some _ _).symm.trans H; rw [hy321]; with_reducible exact H2_) | (have H2_ := (Option.bind_some _ _).symm.trans H; with_reducible exact H2_) | with_reducible exact H | (rw [hy321]; exact H) | exact H
       have Ny321 := Aside0.mk hy321
       clear hy321
       have H' := Aside0.mk H
       clear H
       have hnb36 := NB317_304.out
       have hnc36 := NB304_317.out
       have hnb37 := NB317_305.out
       have hnc37 := NB305_317.out
       have hcz38_0 : w30.cell? ⟨gb317, 0, none⟩ = some (.int .u8 0) := (bC BK317.out 0).trans rfl
       have hcz38_1 : w30.cell? ⟨gb317, 1, none⟩ = some (.int .i64 0) := (bC BK317.out 1).trans rfl
       have hcz38_2 : w30.cell? ⟨gb317, 2, none⟩ = some (.string (⟨#[]⟩ : BA)) := (bC BK317.out 2).trans rfl
       have hcz38_3 : w30.cell? ⟨gb317, 3, none⟩ = some (.string (⟨#[]⟩ : BA)) := (bC BK317.out 3).trans rfl
       have hcz38_4 : w30.cell? ⟨gb317, 4, none⟩ = some (.string (⟨#[]⟩ : BA)) := (bC BK317.out 4).trans rfl
       have hcz38_5 : w30.cell? ⟨gb317, 5, none⟩ = some (.int .u64 0) := (bC BK317.out 5).trans rfl
       have hfz38_0 := bF BK317.out 0
       have hfz38_1 := bF BK317.out 1
       have hfz38_2 := bF BK317.out 2
       have hfz38_3 := bF BK317.out 3
       have hfz38_4 := bF BK317.out 4
       have hfz38_5 := bF BK317.out 5
       go_wp2_with (first | ((with_reducible refine gate_dst (N := 47) rfl ?_); refine Kd.R_lit k25 _ 25 ?hg (N := 47) ?hd (xs := ([(⟨t310, t311, t312, t313, t314, t315⟩ : S25)] : List (S25))) (inner := [.int .u8 t310, .int .i64 t311, .string t312, .string t313, .string t314, .int .u64 t315]) (ok := fun _ => True) (okp := fun _ => True) ?hr ?hp (fun _ hk => hk) trivial (Below.refl _ _) (Nat.le_refl _) (by simp) ?_; (case hd => rfl); (case hg => rfl); (case hr => first | (go_simp; done) | (go_simp; rfl)); (case hp => exact (Reps.c6 (show Kd.M k25 _ _ _ (⟨t310, t311, t312, t313, t314, t315⟩ : S25) [.int .u8 t310, .int .i64 t311, .string t312, .string t313, .string t314, .int .u64 t315] from (k25_mkM _ _ _ (⟨t310, t311, t312, t313, t314, t315⟩ : S25) )) (Reps.none _ _))); intro v319 w39 ho40 hb hg_ hnew_; clear hg_ hnew_; (first | rw [← Ny318.out] at ho40 | (simp only [Int.reduceToNat] at ho40; rw [← Ny318.out] at ho40)); have n0_ := Aside0.mk (Kd.R_elder' (by (with_reducible repeat (first | apply Kd.R_alloc | apply Kd.R_drewN | apply Kd.R_drew)); exact (Kd.R_mono (Kd.R_far (p := ⟨gb317, 5, none⟩) (Kd.R_far (p := ⟨gb317, 4, none⟩) (Kd.R_far (p := ⟨gb317, 3, none⟩) (Kd.R_far (p := ⟨gb317, 2, none⟩) (Kd.R_far (p := ⟨gb317, 1, none⟩) (Kd.R_far (p := ⟨gb317, 0, none⟩) (Kd.R_mono HO309.out (fun k_ hk => (⟨hk, hk.2⟩ : _ ∧ k_ ≠ gb317))) (fun _ hk => hk.2) (.int .u8 t310)) (fun _ hk => hk.2) (.int .i64 t311)) (fun _ hk => hk.2) (.string t312)) (fun _ hk => hk.2) (.string t313)) (fun _ hk => hk.2) (.string t314)) (fun _ hk => hk.2) (.int .u64 t315)) (fun _ h_ => h_.1))) (Kd.R_base ho40) hb); have n1_ := Aside0.mk (Kd.R_lower (Kd.R_newB (Kd.R_newB (Kd.R_new' ho40 (Kd.R_lt (by (with_reducible repeat (first | apply Kd.R_alloc | apply Kd.R_drewN | apply Kd.R_drew)); exact (Kd.R_mono (Kd.R_far (p := ⟨gb317, 5, none⟩) (Kd.R_far (p := ⟨gb317, 4, none⟩) (Kd.R_far (p := ⟨gb317, 3, none⟩) (Kd.R_far (p := ⟨gb317, 2, none⟩) (Kd.R_far (p := ⟨gb317, 1, none⟩) (Kd.R_far (p := ⟨gb317, 0, none⟩) (Kd.R_mono HO309.out (fun k_ hk => (⟨hk, hk.2⟩ : _ ∧ k_ ≠ gb317))) (fun _ hk => hk.2) (.int .u8 t310)) (fun _ hk => hk.2) (.int .i64 t311)) (fun _ hk => hk.2) (.string t312)) (fun _ hk => hk.2) (.string t313)) (fun _ hk => hk.2) (.string t314)) (fun _ hk => hk.2) (.int .u64 t315)) (fun _ h_ => h_.1))))) (g := gb304) (o := .cells #[.int .u8 a0_0, .int .i64 a0_1, .string a0_2, .string a0_3, .string a0_4, .int .u64 a0_5] 25 (0, 0)) (by (with_reducible repeat (first | refine bN ?_ _ | refine bD ?_ | refine bA ?_ _)); refine bR ?_ NB304_317.out _; (with_reducible repeat (first | refine bN ?_ _ | refine bD ?_ | refine bA ?_ _)); refine bR ?_ NB304_317.out _; (with_reducible repeat (first | refine bN ?_ _ | refine bD ?_ | refine bA ?_ _)); refine bR ?_ NB304_317.out _; (with_reducible repeat (first | refine bN ?_ _ | refine bD ?_ | refine bA ?_ _)); refine bR ?_ NB304_317.out _; (with_reducible repeat (first | refine bN ?_ _ | refine bD ?_ | refine bA ?_ _)); refine bR ?_ NB304_317.out _; (with_reducible repeat (first | refine bN ?_ _ | refine bD ?_ | refine bA ?_ _)); refine bR ?_ NB304_317.out _; (with_reducible repeat (first | refine bN ?_ _ | refine bD ?_ | refine bA ?_ _)); exact BK304.out)) (g := gb317) (o := .cells #[.int .u8 t310, .int .i64 t311, .string t312, .string t313, .string t314, .int .u64 t315] 25 (0, 0)) (by (with_reducible repeat (first | refine bN ?_ _ | refine bD ?_ | refine bA ?_ _)); refine bP (cs := #[.int .u8 t310, .int .i64 t311, .string t312, .string t313, .string t314, .int .u64 0]) ?_ 5 _ rfl; (with_reducible repeat (first | refine bN ?_ _ | refine bD ?_ | refine bA ?_ _)); refine bP (cs := #[.int .u8 t310, .int .i64 t311, .string t312, .string t313, .string (⟨#[]⟩ : BA), .int .u64 0]) ?_ 4 _ rfl; (with_reducible repeat (first | refine bN ?_ _ | refine bD ?_ | refine bA ?_ _)); refine bP (cs := #[.int .u8 t310, .int .i64 t311, .string t312, .string (⟨#[]⟩ : BA), .string (⟨#[]⟩ : BA), .int .u64 0]) ?_ 3 _ rfl; (with_reducible repeat (first | refine bN ?_ _ | refine bD ?_ | refine bA ?_ _)); refine bP (cs := #[.int .u8 t310, .int .i64 t311, .string (⟨#[]⟩ : BA), .string (⟨#[]⟩ : BA), .string (⟨#[]⟩ : BA), .int .u64 0]) ?_ 2 _ rfl; (with_reducible repeat (first | refine bN ?_ _ | refine bD ?_ | refine bA ?_ _)); refine bP (cs := #[.int .u8 t310, .int .i64 0, .string (⟨#[]⟩ : BA), .string (⟨#[]⟩ : BA), .string (⟨#[]⟩ : BA), .int .u64 0]) ?_ 1 _ rfl; (with_reducible repeat (first | refine bN ?_ _ | refine bD ?_ | refine bA ?_ _)); refine bP (cs := #[.int .u8 0, .int .i64 0, .string (⟨#[]⟩ : BA), .string (⟨#[]⟩ : BA), .string (⟨#[]⟩ : BA), .int .u64 0]) ?_ 0 _ rfl; (with_reducible repeat (first | refine bN ?_ _ | refine bD ?_ | refine bA ?_ _)); exact BK317.out)) (wZ (by repeat (first | (with_reducible first | exact HB.out | apply wA | apply wN | apply w1 | refine wS ?_ GE304.out | refine wS ?_ GE305.out | refine wS ?_ GE317.out) | exact HB.out)))); have n2_ := Aside0.mk (bB (g := gb304) (o := .cells #[.int .u8 a0_0, .int .i64 a0_1, .string a0_2, .string a0_3, .string a0_4, .int .u64 a0_5] 25 (0, 0)) (by (with_reducible repeat (first | refine bN ?_ _ | refine bD ?_ | refine bA ?_ _)); refine bR ?_ NB304_317.out _; (with_reducible repeat (first | refine bN ?_ _ | refine bD ?_ | refine bA ?_ _)); refine bR ?_ NB304_317.out _; (with_reducible repeat (first | refine bN ?_ _ | refine bD ?_ | refine bA ?_ _)); refine bR ?_ NB304_317.out _; (with_reducible repeat (first | refine bN ?_ _ | refine bD ?_ | refine bA ?_ _)); refine bR ?_ NB304_317.out _; (with_reducible repeat (first | refine bN ?_ _ | refine bD ?_ | refine bA ?_ _)); refine bR ?_ NB304_317.out _; (with_reducible repeat (first | refine bN ?_ _ | refine bD ?_ | refine bA ?_ _)); refine bR ?_ NB304_317.out _; (with_reducible repeat (first | refine bN ?_ _ | refine bD ?_ | refine bA ?_ _)); exact BK304.out) hb); have n3_ := Aside0.mk (bB (g := gb305) (o := .cells #[.string a1_0, .string a1_1] 31 (0, 0)) (by (with_reducible repeat (first | refine bN ?_ _ | refine bD ?_ | refine bA ?_ _)); refine bR ?_ NB305_317.out _; (with_reducible repeat (first | refine bN ?_ _ | refine bD ?_ | refine bA ?_ _)); refine bR ?_ NB305_317.out _; (with_reducible repeat (first | refine bN ?_ _ | refine bD ?_ | refine bA ?_ _)); refine bR ?_ NB305_317.out _; (with_reducible repeat (first | refine bN ?_ _ | refine bD ?_ | refine bA ?_ _)); refine bR ?_ NB305_317.out _; (with_reducible repeat (first | refine bN ?_ _ | refine bD ?_ | refine bA ?_ _)); refine bR ?_ NB305_317.out _; (with_reducible repeat (first | refine bN ?_ _ | refine bD ?_ | refine bA ?_ _)); refine bR ?_ NB305_317.out _; (with_reducible repeat (first | refine bN ?_ _ | refine bD ?_ | refine bA ?_ _)); exact BK305.out) hb); have n4_ := Aside0.mk (bB (g := gb317) (o := .cells #[.int .u8 t310, .int .i64 t311, .string t312, .string t313, .string t314, .int .u64 t315] 25 (0, 0)) (by (with_reducible repeat (first | refine bN ?_ _ | refine bD ?_ | refine bA ?_ _)); refine bP (cs := #[.int .u8 t310, .int .i64 t311, .string t312, .string t313, .string t314, .int .u64 0]) ?_ 5 _ rfl; (with_reducible repeat (first | refine bN ?_ _ | refine bD ?_ | refine bA ?_ _)); refine bP (cs := #[.int .u8 t310, .int .i64 t311, .string t312, .string t313, .string (⟨#[]⟩ : BA), .int .u64 0]) ?_ 4 _ rfl; (with_reducible repeat (first | refine bN ?_ _ | refine bD ?_ | refine bA ?_ _)); refine bP (cs := #[.int .u8 t310, .int .i64 t311, .string t312, .string (⟨#[]⟩ : BA), .string (⟨#[]⟩ : BA), .int .u64 0]) ?_ 3 _ rfl; (with_reducible repeat (first | refine bN ?_ _ | refine bD ?_ | refine bA ?_ _)); refine bP (cs := #[.int .u8 t310, .int .i64 t311, .string (⟨#[]⟩ : BA), .string (⟨#[]⟩ : BA), .string (⟨#[]⟩ : BA), .int .u64 0]) ?_ 2 _ rfl; (with_reducible repeat (first | refine bN ?_ _ | refine bD ?_ | refine bA ?_ _)); refine bP (cs := #[.int .u8 t310, .int .i64 0, .string (⟨#[]⟩ : BA), .string (⟨#[]⟩ : BA), .string (⟨#[]⟩ : BA), .int .u64 0]) ?_ 1 _ rfl; (with_reducible repeat (first | refine bN ?_ _ | refine bD ?_ | refine bA ?_ _)); refine bP (cs := #[.int .u8 0, .int .i64 0, .string (⟨#[]⟩ : BA), .string (⟨#[]⟩ : BA), .string (⟨#[]⟩ : BA), .int .u64 0]) ?_ 0 _ rfl; (with_reducible repeat (first | refine bN ?_ _ | refine bD ?_ | refine bA ?_ _)); exact BK317.out) hb); have n5_ := Aside0.mk (wT (by repeat (first | (with_reducible first | exact HB.out | apply wA | apply wN | apply w1 | refine wS ?_ GE304.out | refine wS ?_ GE305.out | refine wS ?_ GE317.out) | exact HB.out)) hb); clear HO309; clear BK304; clear BK305; clear BK317; clear HB; have HO309 := n0_; have HO320 := n1_; have BK304 := n2_; have BK305 := n3_; have BK317 := n4_; have HB := n5_; clear n0_ n1_ n2_ n3_ n4_ n5_; clear hb ho40; obtain ⟨Ao42, co42, eo42⟩ := Kd.R_slice HO309.out; subst eo42) | ((with_reducible refine gate_builtin (b := .append) (xs := #[.tmp 47, .tmp 48]) rfl ?_); at_builtin; refine Kd.R_append_rows k25 (w0 := w) w.heap.size rfl (.tmp 47) (.tmp 48) 40 25 (.agg #[(.int .u8 0), (.int .i64 0), (.string ⟨#[]⟩), (.string ⟨#[]⟩), (.string ⟨#[]⟩), (.int .u64 0)]) 72 rfl Try.underlying40 info25 rfl (by decide) (by omega) v319 y318 t307 _ _ _ (fun k_ => some k_ ≠ (.slice Ao42 t307.length co42 : Value).ownBlock ∧ k_ ≠ gb304 ∧ k_ ≠ gb317) (fun _ => False) rfl rfl ?aO ?aR (fun _ _ h => h) (fun _ h => h.elim) ?aF ?aB ?aS ?aL ?_; (case aR => repeat (first | exact (Kd.R_reads' HO309.out).2.2 | (with_reducible refine Kd.C_alloc ?_ _) | (with_reducible refine Kd.C_drewN ?_ _) | (with_reducible refine Kd.C_drew ?_))); (case aB => exact (by repeat (first | (with_reducible first | exact HB.out | apply wA | apply wN | apply w1 | refine wS ?_ GE304.out | refine wS ?_ GE305.out | refine wS ?_ GE317.out) | exact HB.out))); (case aF => exact (fun k_ hk => ⟨Kd.fresh' (Kd.R_lt (by (with_reducible repeat (first | apply Kd.R_alloc | apply Kd.R_drewN | apply Kd.R_drew)); exact HO309.out)) k_ hk, Kd.freshB (g := gb304) (o := .cells #[.int .u8 a0_0, .int .i64 a0_1, .string a0_2, .string a0_3, .string a0_4, .int .u64 a0_5] 25 (0, 0)) (by (with_reducible repeat (first | refine bN ?_ _ | refine bD ?_ | refine bA ?_ _)); exact BK304.out) k_ hk, Kd.freshB (g := gb317) (o := .cells #[.int .u8 t310, .int .i64 t311, .string t312, .string t313, .string t314, .int .u64 t315] 25 (0, 0)) (by (with_reducible repeat (first | refine bN ?_ _ | refine bD ?_ | refine bA ?_ _)); exact BK317.out) k_ hk⟩)); (case aO => exact (by (with_reducible repeat (first | apply Kd.R_alloc | apply Kd.R_drewN | apply Kd.R_drew)); exact Kd.R_mono HO320.out (fun _ hk => ⟨hk.1.1.2, ⟨hk.1.2, hk.2⟩⟩))); (case aS => exact (wZ (by repeat (first | (with_reducible first | exact HB.out | apply wA | apply wN | apply w1 | refine wS ?_ GE304.out | refine wS ?_ GE305.out | refine wS ?_ GE317.out) | exact HB.out)))); (case aL => have := LMc35.out; omega); intro v322 w41 ho hb hg hat; rw [← Ny321.out] at ho; have n0_ := Aside0.mk (blk_grown (g := gb304) (o := .cells #[.int .u8 a0_0, .int .i64 a0_1, .string a0_2, .string a0_3, .string a0_4, .int .u64 a0_5] 25 (0, 0)) (by (with_reducible repeat (first | refine bN ?_ _ | refine bD ?_ | refine bA ?_ _)); exact BK304.out) hg (Kd.R_away HO320.out (fun _ hk => hk.1.2))); have n1_ := Aside0.mk (blk_grown (g := gb305) (o := .cells #[.string a1_0, .string a1_1] 31 (0, 0)) (by (with_reducible repeat (first | refine bN ?_ _ | refine bD ?_ | refine bA ?_ _)); exact BK305.out) hg (Kd.R_ne HO320.out BK305.out (by decide))); have n2_ := Aside0.mk (Kd.R_after (ok := (fun k_ => k_ ≠ gb304 ∧ k_ ≠ gb317)) (by (with_reducible repeat (first | apply Kd.R_alloc | apply Kd.R_drewN | apply Kd.R_drew)); exact Kd.R_mono HO309.out (fun _ hk => ⟨⟨hk.1.1.2, hk.1.2⟩, hk.2⟩)) hg hat); have n3_ := Aside0.mk (blk_grown (g := gb317) (o := .cells #[.int .u8 t310, .int .i64 t311, .string t312, .string t313, .string t314, .int .u64 t315] 25 (0, 0)) (by (with_reducible repeat (first | refine bN ?_ _ | refine bD ?_ | refine bA ?_ _)); exact BK317.out) hg (Kd.R_away HO320.out (fun _ hk => hk.2))); have n4_ := Aside0.mk (hb); have n5_ := Aside0.mk (ho); clear BK304; clear BK305; clear HO309; clear BK317; clear HB; clear HO320; have BK304 := n0_; have BK305 := n1_; have HO309 := n2_; have BK317 := n3_; have HB := n4_; have HO323 := n5_; clear n0_ n1_ n2_ n3_ n4_ n5_; clear ho hb hg hat))
       go_meet
       case rel => exact ⟨_, (y321), H', ⟨by have := HJ5.out; first | omega | exact Nat.le_refl _⟩, ⟨by (with_reducible repeat (first | apply Kd.R_alloc | apply Kd.R_drewN | apply Kd.R_drew)); exact Kd.R_mono HO323.out (fun _ hk => ⟨hk.2.1, hk.2.2⟩)⟩, ⟨by (with_reducible repeat (first | refine bN ?_ _ | refine bD ?_ | refine bA ?_ _)); exact BK304.out⟩, ⟨by (with_reducible repeat (first | refine bN ?_ _ | refine bD ?_ | refine bA ?_ _)); exact BK305.out⟩, ⟨by (with_reducible repeat (first | refine bN ?_ _ | refine bD ?_ | refine bA ?_ _)); exact BK317.out⟩, ⟨by repeat (first | (with_reducible first | exact HB.out | apply wA | apply wN | apply w1 | refine wS ?_ GE304.out | refine wS ?_ GE305.out | refine wS ?_ GE317.out) | exact HB.out)⟩⟩
      ·rw [if_neg c35] at H
       exact absurd H (by simp)
     ·replace c34 := Bool.eq_false_iff.mpr c34
      subst c34
      have H1 : (catchmentlaw04_MsgClips.j1 kj5 a2 a3 a4 t307 a0_0 a0_1 a0_2 a0_3 a0_4 a0_5) = some r := by rw [if_neg (show ¬ (false = true) by decide)] at H; exact H
      clear H
      have H := H1
      clear H1
      have H' := Aside0.mk H
      clear H
      go_wp2
      go_meet
      case rel => exact ⟨_, (t307), H', ⟨by have := HJ5.out; first | omega | exact Nat.le_refl _⟩, ⟨by (with_reducible repeat (first | apply Kd.R_alloc | apply Kd.R_drewN | apply Kd.R_drew)); exact Kd.R_mono (Kd.R_far (p := ⟨gb317, 5, none⟩) (Kd.R_far (p := ⟨gb317, 4, none⟩) (Kd.R_far (p := ⟨gb317, 3, none⟩) (Kd.R_far (p := ⟨gb317, 2, none⟩) (Kd.R_far (p := ⟨gb317, 1, none⟩) (Kd.R_far (p := ⟨gb317, 0, none⟩) (Kd.R_mono HO309.out (fun k_ hk => (⟨hk, hk.2⟩ : _ ∧ k_ ≠ gb317))) (fun _ hk => hk.2) (.int .u8 t310)) (fun _ hk => hk.2) (.int .i64 t311)) (fun _ hk => hk.2) (.string t312)) (fun _ hk => hk.2) (.string t313)) (fun _ hk => hk.2) (.string t314)) (fun _ hk => hk.2) (.int .u64 t315)) (fun _ hk => ⟨hk.1.1.2, hk.1.2⟩)⟩, ⟨by (with_reducible repeat (first | refine bN ?_ _ | refine bD ?_ | refine bA ?_ _)); refine bR ?_ NB304_317.out _; (with_reducible repeat (first | refine bN ?_ _ | refine bD ?_ | refine bA ?_ _)); refine bR ?_ NB304_317.out _; (with_reducible repeat (first | refine bN ?_ _ | refine bD ?_ | refine bA ?_ _)); refine bR ?_ NB304_317.out _; (with_reducible repeat (first | refine bN ?_ _ | refine bD ?_ | refine bA ?_ _)); refine bR ?_ NB304_317.out _; (with_reducible repeat (first | refine bN ?_ _ | refine bD ?_ | refine bA ?_ _)); refine bR ?_ NB304_317.out _; (with_reducible repeat (first | refine bN ?_ _ | refine bD ?_ | refine bA ?_ _)); refine bR ?_ NB304_317.out _; (with_reducible repeat (first | refine bN ?_ _ | refine bD ?_ | refine bA ?_ _)); exact BK304.out⟩, ⟨by (with_reducible repeat (first | refine bN ?_ _ | refine bD ?_ | refine bA ?_ _)); refine bR ?_ NB305_317.out _; (with_reducible repeat (first | refine bN ?_ _ | refine bD ?_ | refine bA ?_ _)); refine bR ?_ NB305_317.out _; (with_reducible repeat (first | refine bN ?_ _ | refine bD ?_ | refine bA ?_ _)); refine bR ?_ NB305_317.out _; (with_reducible repeat (first | refine bN ?_ _ | refine bD ?_ | refine bA ?_ _)); refine bR ?_ NB305_317.out _; (with_reducible repeat (first | refine bN ?_ _ | refine bD ?_ | refine bA ?_ _)); refine bR ?_ NB305_317.out _; (with_reducible repeat (first | refine bN ?_ _ | refine bD ?_ | refine bA ?_ _)); refine bR ?_ NB305_317.out _; (with_reducible repeat (first | refine bN ?_ _ | refine bD ?_ | refine bA ?_ _)); exact BK305.out⟩, ⟨by (with_reducible repeat (first | refine bN ?_ _ | refine bD ?_ | refine bA ?_ _)); refine bP (cs := #[.int .u8 t310, .int .i64 t311, .string t312, .string t313, .string t314, .int .u64 0]) ?_ 5 _ rfl; (with_reducible repeat (first | refine bN ?_ _ | refine bD ?_ | refine bA ?_ _)); refine bP (cs := #[.int .u8 t310, .int .i64 t311, .string t312, .string t313, .string (⟨#[]⟩ : BA), .int .u64 0]) ?_ 4 _ rfl; (with_reducible repeat (first | refine bN ?_ _ | refine bD ?_ | refine bA ?_ _)); refine bP (cs := #[.int .u8 t310, .int .i64 t311, .string t312, .string (⟨#[]⟩ : BA), .string (⟨#[]⟩ : BA), .int .u64 0]) ?_ 3 _ rfl; (with_reducible repeat (first | refine bN ?_ _ | refine bD ?_ | refine bA ?_ _)); refine bP (cs := #[.int .u8 t310, .int .i64 t311, .string (⟨#[]⟩ : BA), .string (⟨#[]⟩ : BA), .string (⟨#[]⟩ : BA), .int .u64 0]) ?_ 2 _ rfl; (with_reducible repeat (first | refine bN ?_ _ | refine bD ?_ | refine bA ?_ _)); refine bP (cs := #[.int .u8 t310, .int .i64 0, .string (⟨#[]⟩ : BA), .string (⟨#[]⟩ : BA), .string (⟨#[]⟩ : BA), .int .u64 0]) ?_ 1 _ rfl; (with_reducible repeat (first | refine bN ?_ _ | refine bD ?_ | refine bA ?_ _)); refine bP (cs := #[.int .u8 0, .int .i64 0, .string (⟨#[]⟩ : BA), .string (⟨#[]⟩ : BA), .string (⟨#[]⟩ : BA), .int .u64 0]) ?_ 0 _ rfl; (with_reducible repeat (first | refine bN ?_ _ | refine bD ?_ | refine bA ?_ _)); exact BK317.out⟩, ⟨by repeat (first | (with_reducible first | exact HB.out | apply wA | apply wN | apply w1 | refine wS ?_ GE304.out | refine wS ?_ GE305.out | refine wS ?_ GE317.out) | exact HB.out)⟩⟩
    case rest =>
     clear HC22
     try clear c1
     try clear c2
     try clear p2
     try clear c3
     try clear c5
     try clear c6
     try clear c9
     try clear c9b0
     try clear c9b1
     try clear c10
     try clear c10b0
     try clear c10b1
     try clear c11
     try clear c13
     try clear c15
     try clear c17
     try clear c18
     try clear c19
     try clear c22
     try clear c23
     try clear c31
     try clear c32
     try clear c34
     try clear c35
     try clear c36
     try clear c37
     try clear hcz12_0
     try clear hcz12_1
     try clear hcz12_2
     try clear hcz12_3
     try clear hcz12_4
     try clear hcz12_5
     try clear hcz14_0
     try clear hcz14_1
     try clear hcz14_2
     try clear hcz14_3
     try clear hcz14_4
     try clear hcz14_5
     try clear hcz16_0
     try clear hcz16_1
     try clear hcz16_2
     try clear hcz16_3
     try clear hcz16_4
     try clear hcz16_5
     try clear hcz24_0
     try clear hcz24_1
     try clear hcz24_2
     try clear hcz24_3
     try clear hcz24_4
     try clear hcz24_5
     try clear hcz25_0
     try clear hcz25_1
     try clear hcz27_0
     try clear hcz27_1
     try clear hcz27_2
     try clear hcz27_3
     try clear hcz27_4
     try clear hcz27_5
     try clear hcz28_0
     try clear hcz28_1
     try clear hcz33_0
     try clear hcz33_1
     try clear hcz33_2
     try clear hcz33_3
     try clear hcz33_4
     try clear hcz33_5
     try clear hcz38_0
     try clear hcz38_1
     try clear hcz38_2
     try clear hcz38_3
     try clear hcz38_4
     try clear hcz38_5
     try clear hfz12_0
     try clear hfz12_1
     try clear hfz12_2
     try clear hfz12_3
     try clear hfz12_4
     try clear hfz12_5
     try clear hfz14_0
     try clear hfz14_1
     try clear hfz14_2
     try clear hfz14_3
     try clear hfz14_4
     try clear hfz14_5
     try clear hfz16_0
     try clear hfz16_1
     try clear hfz16_2
     try clear hfz16_3
     try clear hfz16_4
     try clear hfz16_5
     try clear hfz24_0
     try clear hfz24_1
     try clear hfz24_2
     try clear hfz24_3
     try clear hfz24_4
     try clear hfz24_5
     try clear hfz25_0
     try clear hfz25_1
     try clear hfz27_0
     try clear hfz27_1
     try clear hfz27_2
     try clear hfz27_3
     try clear hfz27_4
     try clear hfz27_5
     try clear hfz28_0
     try clear hfz28_1
     try clear hfz33_0
     try clear hfz33_1
     try clear hfz33_2
     try clear hfz33_3
     try clear hfz33_4
     try clear hfz33_5
     try clear hfz38_0
     try clear hfz38_1
     try clear hfz38_2
     try clear hfz38_3
     try clear hfz38_4
     try clear hfz38_5
     try clear p2
     obtain ⟨kq, x11_21, HA, HJ21, HO_11, BK304, BK305, BK317, HB⟩ := hcut
     cases kq with
     | zero => exact absurd HA.out (by simp [catchmentlaw04_MsgClips.j1])
     | succ kj21 =>
      have H := HA.out
      clear HA
      simp only [catchmentlaw04_MsgClips.j1] at H
      have HC43 := Aside0.mk H
      clear H
      go_upto_if 53 with (fail)
      go_cut [15] (fun v15 wc => ∃ (kq : Nat) (x15_42 : BA), v15 = .string x15_42 ∧ Aside0 (catchmentlaw04_MsgClips.j2 kq a2 a3 a4 x11_21 0 x15_42 a4 a0_0 a0_1 a0_2 a0_3 a0_4 a0_5 = some r) ∧ Aside0 (kq ≤ kj21) ∧ Aside0 (Kd.R k25 25 wc w.heap.size (fun k_ => k_ ≠ gb304 ∧ k_ ≠ gb317) u11 x11_21) ∧ Aside0 (wc.heap[gb304]? = some (.cells #[.int .u8 a0_0, .int .i64 a0_1, .string a0_2, .string a0_3, .string a0_4, .int .u64 a0_5] 25 (0, 0))) ∧ Aside0 (wc.heap[gb305]? = some (.cells #[.string a1_0, .string a1_1] 31 (0, 0))) ∧ Aside0 (wc.heap[gb317]? = some (.cells #[.int .u8 t310, .int .i64 t311, .string t312, .string t313, .string t314, .int .u64 t315] 25 (0, 0))) ∧ Aside0 (Below w.heap.size w wc))
      case first =>
       have H := HC43.out
       clear HC43
       by_cases c44 : a4 = true
       ·subst c44
        have H1 : (catchmentlaw04_MsgClips.j2 kj21 a2 a3 true x11_21 0 a3 true a0_0 a0_1 a0_2 a0_3 a0_4 a0_5) = some r := by rw [if_pos rfl] at H; exact H
        clear H
        have H := H1
        clear H1
        have H' := Aside0.mk H
        clear H
        go_wp2
        go_meet
        case rel => exact ⟨_, (a3), (by first | rfl | (simp; done) | (simp [*]; done)), H', ⟨by have := HJ5.out; have := HJ21.out; first | omega | exact Nat.le_refl _⟩, ⟨by (with_reducible repeat (first | apply Kd.R_alloc | apply Kd.R_drewN | apply Kd.R_drew)); exact HO_11.out⟩, ⟨by (with_reducible repeat (first | refine bN ?_ _ | refine bD ?_ | refine bA ?_ _)); exact BK304.out⟩, ⟨by (with_reducible repeat (first | refine bN ?_ _ | refine bD ?_ | refine bA ?_ _)); exact BK305.out⟩, ⟨by (with_reducible repeat (first | refine bN ?_ _ | refine bD ?_ | refine bA ?_ _)); exact BK317.out⟩, ⟨by repeat (first | (with_reducible first | exact HB.out | apply wA | apply wN | apply w1 | refine wS ?_ GE304.out | refine wS ?_ GE305.out | refine wS ?_ GE317.out) | exact HB.out)⟩⟩
       ·replace c44 := Bool.eq_false_iff.mpr c44
        subst c44
        have H1 : (catchmentlaw04_MsgClips.j2 kj21 a2 a3 false x11_21 0 (⟨#[]⟩ : BA) false a0_0 a0_1 a0_2 a0_3 a0_4 a0_5) = some r := by rw [if_neg (show ¬ (false = true) by decide)] at H; exact H
        clear H
        have H := H1
        clear H1
        have H' := Aside0.mk H
        clear H
        go_wp2
        go_meet
        case rel => exact ⟨_, ((⟨#[]⟩ : BA)), (by first | rfl | (simp; done) | (simp [*]; done)), H', ⟨by have := HJ5.out; have := HJ21.out; first | omega | exact Nat.le_refl _⟩, ⟨by (with_reducible repeat (first | apply Kd.R_alloc | apply Kd.R_drewN | apply Kd.R_drew)); exact HO_11.out⟩, ⟨by (with_reducible repeat (first | refine bN ?_ _ | refine bD ?_ | refine bA ?_ _)); exact BK304.out⟩, ⟨by (with_reducible repeat (first | refine bN ?_ _ | refine bD ?_ | refine bA ?_ _)); exact BK305.out⟩, ⟨by (with_reducible repeat (first | refine bN ?_ _ | refine bD ?_ | refine bA ?_ _)); exact BK317.out⟩, ⟨by repeat (first | (with_reducible first | exact HB.out | apply wA | apply wN | apply w1 | refine wS ?_ GE304.out | refine wS ?_ GE305.out | refine wS ?_ GE317.out) | exact HB.out)⟩⟩
      case rest =>
       clear HC43
       try clear c1
       try clear c2
       try clear p2
       try clear c3
       try clear c4
       try clear c5
       try clear c6
       try clear c9
       try clear c9b0
       try clear c9b1
       try clear c10
       try clear c10b0
       try clear c10b1
       try clear c11
       try clear c13
       try clear c15
       try clear c17
       try clear c18
       try clear c19
       try clear c22
       try clear c23
       try clear c31
       try clear c32
       try clear c34
       try clear c35
       try clear c36
       try clear c37
       try clear c44
       try clear hcz12_0
       try clear hcz12_1
       try clear hcz12_2
       try clear hcz12_3
       try clear hcz12_4
       try clear hcz12_5
       try clear hcz14_0
       try clear hcz14_1
       try clear hcz14_2
       try clear hcz14_3
       try clear hcz14_4
       try clear hcz14_5
       try clear hcz16_0
       try clear hcz16_1
       try clear hcz16_2
       try clear hcz16_3
       try clear hcz16_4
       try clear hcz16_5
       try clear hcz24_0
       try clear hcz24_1
       try clear hcz24_2
       try clear hcz24_3
       try clear hcz24_4
       try clear hcz24_5
       try clear hcz25_0
       try clear hcz25_1
       try clear hcz27_0
       try clear hcz27_1
       try clear hcz27_2
       try clear hcz27_3
       try clear hcz27_4
       try clear hcz27_5
       try clear hcz28_0
       try clear hcz28_1
       try clear hcz33_0
       try clear hcz33_1
       try clear hcz33_2
       try clear hcz33_3
       try clear hcz33_4
       try clear hcz33_5
       try clear hcz38_0
       try clear hcz38_1
       try clear hcz38_2
       try clear hcz38_3
       try clear hcz38_4
       try clear hcz38_5
       try clear hfz12_0
       try clear hfz12_1
       try clear hfz12_2
       try clear hfz12_3
       try clear hfz12_4
       try clear hfz12_5
       try clear hfz14_0
       try clear hfz14_1
       try clear hfz14_2
       try clear hfz14_3
       try clear hfz14_4
       try clear hfz14_5
       try clear hfz16_0
       try clear hfz16_1
       try clear hfz16_2
       try clear hfz16_3
       try clear hfz16_4
       try clear hfz16_5
       try clear hfz24_0
       try clear hfz24_1
       try clear hfz24_2
       try clear hfz24_3
       try clear hfz24_4
       try clear hfz24_5
       try clear hfz25_0
       try clear hfz25_1
       try clear hfz27_0
       try clear hfz27_1
       try clear hfz27_2
       try clear hfz27_3
       try clear hfz27_4
       try clear hfz27_5
       try clear hfz28_0
       try clear hfz28_1
       try clear hfz33_0
       try clear hfz33_1
       try clear hfz33_2
       try clear hfz33_3
       try clear hfz33_4
       try clear hfz33_5
       try clear hfz38_0
       try clear hfz38_1
       try clear hfz38_2
       try clear hfz38_3
       try clear hfz38_4
       try clear hfz38_5
       try clear p2
       obtain ⟨kq, x15_42, rfl, HA, HJ42, HO_11, BK304, BK305, BK317, HB⟩ := hcut
       cases kq with
       | zero => exact absurd HA.out (by simp [catchmentlaw04_MsgClips.j2])
       | succ kj42 =>
        have H := HA.out
        clear HA
        simp only [catchmentlaw04_MsgClips.j2] at H
        have H' := Aside0.mk H
        clear H
        go_wp2
        go_loopg [14, 15, 16, 17] kj42 (fun kq v14 v15 v16 v17 w' => ∃ (x14_4 : Int) (x15_4 : BA) (x16_4 : Bool) (x17_4 : Int), v14 = .int .i64 x14_4 ∧ v15 = .string x15_4 ∧ v16 = .bool x16_4 ∧ v17 = .int .i64 x17_4 ∧ Aside0 (catchmentlaw04_MsgClips.l0 kq a2 a3 a4 x11_21 x14_4 x15_4 x16_4 x17_4 a0_0 a0_1 a0_2 a0_3 a0_4 a0_5 = some r) ∧ Aside0 (kq ≤ kj42) ∧ Aside0 (Kd.R k25 25 w' w.heap.size (fun k_ => k_ ≠ gb304 ∧ k_ ≠ gb317) u11 x11_21) ∧ Aside0 (w'.heap[gb304]? = some (.cells #[.int .u8 a0_0, .int .i64 a0_1, .string a0_2, .string a0_3, .string a0_4, .int .u64 a0_5] 25 (0, 0))) ∧ Aside0 (w'.heap[gb305]? = some (.cells #[.string a1_0, .string a1_1] 31 (0, 0))) ∧ Aside0 (w'.heap[gb317]? = some (.cells #[.int .u8 t310, .int .i64 t311, .string t312, .string t313, .string t314, .int .u64 t315] 25 (0, 0))) ∧ Aside0 (Below w.heap.size w w'))
        case atStart => exact ⟨(0), (x15_42), (a4), (0), (by first | rfl | (simp; done) | (simp [*]; done)), (by first | rfl | (simp; done) | (simp [*]; done)), (by first | rfl | (simp; done) | (simp [*]; done)), (by first | rfl | (simp; done) | (simp [*]; done)), H', ⟨Nat.le_refl _⟩, ⟨by (with_reducible repeat (first | apply Kd.R_alloc | apply Kd.R_drewN | apply Kd.R_drew)); exact HO_11.out⟩, ⟨by (with_reducible repeat (first | refine bN ?_ _ | refine bD ?_ | refine bA ?_ _)); exact BK304.out⟩, ⟨by (with_reducible repeat (first | refine bN ?_ _ | refine bD ?_ | refine bA ?_ _)); exact BK305.out⟩, ⟨by (with_reducible repeat (first | refine bN ?_ _ | refine bD ?_ | refine bA ?_ _)); exact BK317.out⟩, ⟨by repeat (first | (with_reducible first | exact HB.out | apply wA | apply wN | apply w1 | refine wS ?_ GE304.out | refine wS ?_ GE305.out | refine wS ?_ GE317.out) | exact HB.out)⟩⟩
        case round =>
         clear H'
         try clear c1
         try clear c2
         try clear p2
         try clear c3
         try clear c4
         try clear c5
         try clear c6
         try clear c9
         try clear c9b0
         try clear c9b1
         try clear c10
         try clear c10b0
         try clear c10b1
         try clear c11
         try clear c13
         try clear c15
         try clear c17
         try clear c18
         try clear c19
         try clear c22
         try clear c23
         try clear c31
         try clear c32
         try clear c34
         try clear c35
         try clear c36
         try clear c37
         try clear c44
         try clear hcz12_0
         try clear hcz12_1
         try clear hcz12_2
         try clear hcz12_3
         try clear hcz12_4
         try clear hcz12_5
         try clear hcz14_0
         try clear hcz14_1
         try clear hcz14_2
         try clear hcz14_3
         try clear hcz14_4
         try clear hcz14_5
         try clear hcz16_0
         try clear hcz16_1
         try clear hcz16_2
         try clear hcz16_3
         try clear hcz16_4
         try clear hcz16_5
         try clear hcz24_0
         try clear hcz24_1
         try clear hcz24_2
         try clear hcz24_3
         try clear hcz24_4
         try clear hcz24_5
         try clear hcz25_0
         try clear hcz25_1
         try clear hcz27_0
         try clear hcz27_1
         try clear hcz27_2
         try clear hcz27_3
         try clear hcz27_4
         try clear hcz27_5
         try clear hcz28_0
         try clear hcz28_1
         try clear hcz33_0
         try clear hcz33_1
         try clear hcz33_2
         try clear hcz33_3
         try clear hcz33_4
         try clear hcz33_5
         try clear hcz38_0
         try clear hcz38_1
         try clear hcz38_2
         try clear hcz38_3
         try clear hcz38_4
         try clear hcz38_5
         try clear hfz12_0
         try clear hfz12_1
         try clear hfz12_2
         try clear hfz12_3
         try clear hfz12_4
         try clear hfz12_5
         try clear hfz14_0
         try clear hfz14_1
         try clear hfz14_2
         try clear hfz14_3
         try clear hfz14_4
         try clear hfz14_5
         try clear hfz16_0
         try clear hfz16_1
         try clear hfz16_2
         try clear hfz16_3
         try clear hfz16_4
         try clear hfz16_5
         try clear hfz24_0
         try clear hfz24_1
         try clear hfz24_2
         try clear hfz24_3
         try clear hfz24_4
         try clear hfz24_5
         try clear hfz25_0
         try clear hfz25_1
         try clear hfz27_0
         try clear hfz27_1
         try clear hfz27_2
         try clear hfz27_3
         try clear hfz27_4
         try clear hfz27_5
         try clear hfz28_0
         try clear hfz28_1
         try clear hfz33_0
         try clear hfz33_1
         try clear hfz33_2
         try clear hfz33_3
         try clear hfz33_4
         try clear hfz33_5
         try clear hfz38_0
         try clear hfz38_1
         try clear hfz38_2
         try clear hfz38_3
         try clear hfz38_4
         try clear hfz38_5
         try clear p2
         obtain ⟨x14_4, x15_4, x16_4, x17_4, rfl, rfl, rfl, rfl, HA, HK4, HO_11, BK304, BK305, BK317, HB⟩ := hrel
         cases gk with
         | zero => exact absurd HA.out (by simp [catchmentlaw04_MsgClips.l0])
         | succ k4 =>
          have H := HA.out
          clear HA
          simp only [catchmentlaw04_MsgClips.l0] at H
          by_cases c45 : x17_4 < (x11_21.length : Int)
          ·rw [if_pos c45] at H
           have c45b0 : decide (x17_4 < (x11_21.length : Int)) = true := decide_eq_true c45
           clear c45
           by_cases c46 : 0 ≤ x17_4
           ·rw [if_pos c46] at H
            have c46b0 : decide (0 ≤ x17_4) = true := decide_eq_true c46
            clear c46
            replace H := Option.bind_eq_some_iff.mp H
            obtain ⟨t329, A470, H⟩ := H
            replace H : (if t329 = true then ((msg_On.f k4 ((rd_T25 x11_21 x17_4).f0) ((rd_T25 x11_21 x17_4).f1) ((rd_T25 x11_21 x17_4).f2) ((rd_T25 x11_21 x17_4).f3) ((rd_T25 x11_21 x17_4).f4) ((rd_T25 x11_21 x17_4).f5) a2 x15_4 x16_4).bind fun bt331 => (catchmentlaw04_MsgClips.l0 k4 a2 a3 a4 x11_21 (wrap64 (x14_4 + 1)) bt331.1 bt331.2 (wrap64 (x17_4 + 1)) a0_0 a0_1 a0_2 a0_3 a0_4 a0_5)) else ((msg_On.f k4 ((rd_T25 x11_21 x17_4).f0) ((rd_T25 x11_21 x17_4).f1) ((rd_T25 x11_21 x17_4).f2) ((rd_T25 x11_21 x17_4).f3) ((rd_T25 x11_21 x17_4).f4) ((rd_T25 x11_21 x17_4).f5) a2 x15_4 x16_4).bind fun bt334 => (catchmentlaw04_MsgClips.l0 k4 a2 a3 a4 x11_21 x14_4 bt334.1 bt334.2 (wrap64 (x17_4 + 1)) a0_0 a0_1 a0_2 a0_3 a0_4 a0_5))) = some r := H
            have A47 := Aside0.mk A470
            clear A470
            by_cases c48 : t329 = true
            ·subst c48
             have H1 : ((msg_On.f k4 ((rd_T25 x11_21 x17_4).f0) ((rd_T25 x11_21 x17_4).f1) ((rd_T25 x11_21 x17_4).f2) ((rd_T25 x11_21 x17_4).f3) ((rd_T25 x11_21 x17_4).f4) ((rd_T25 x11_21 x17_4).f5) a2 x15_4 x16_4).bind fun bt331 => (catchmentlaw04_MsgClips.l0 k4 a2 a3 a4 x11_21 (wrap64 (x14_4 + 1)) bt331.1 bt331.2 (wrap64 (x17_4 + 1)) a0_0 a0_1 a0_2 a0_3 a0_4 a0_5)) = some r := by rw [if_pos rfl] at H; exact H
             clear H
             have H := H1
             clear H1
             replace H := Option.bind_eq_some_iff.mp H
             obtain ⟨⟨t331, t332⟩, A490, H⟩ := H
             replace H : (catchmentlaw04_MsgClips.l0 k4 a2 a3 a4 x11_21 (wrap64 (x14_4 + 1)) t331 t332 (wrap64 (x17_4 + 1)) a0_0 a0_1 a0_2 a0_3 a0_4 a0_5) = some r := H
             have A49 := Aside0.mk A490
             clear A490
             have H' := Aside0.mk H
             clear H
             obtain ⟨Ao50, co50, eo50⟩ := Kd.R_slice HO_11.out
             subst eo50
             have p328 : 0 ≤ (x17_4 : Int) := of_decide_eq_true (by first | (with_reducible assumption) | assumption)
             have q328 : x17_4 < (x11_21.length : Int) := of_decide_eq_true (by first | (with_reducible assumption) | assumption)
             obtain ⟨ad328, e328, hx328_0, hx328_1, hx328_2, hx328_3, hx328_4, hx328_5⟩ := at_T25 (Kd.R_reads' HO_11.out).2.2 x17_4 p328 q328
             cases e328
             replace p328 := eq_true p328
             replace q328 := eq_true q328
             go_wp2_with (first | ((with_reducible refine gate_callee (f := 15) rfl ?_); refine goesL_ (some 65) rfl rfl Try.func15 (by kernel_rfl) rfl #[.agg #[.int .u8 ((rd_T25 x11_21 x17_4).f0), .int .i64 ((rd_T25 x11_21 x17_4).f1), .string ((rd_T25 x11_21 x17_4).f2), .string ((rd_T25 x11_21 x17_4).f3), .string ((rd_T25 x11_21 x17_4).f4), .int .u64 ((rd_T25 x11_21 x17_4).f5)], .string a2] rfl (by (try simp only [mA1, mA2, mA3]); first | done | rfl | (simp only [mA5, mA4]; rfl)) ?_; (with_reducible refine (msg_Touches.calls ((rd_T25 x11_21 x17_4).f0) ((rd_T25 x11_21 x17_4).f1) ((rd_T25 x11_21 x17_4).f2) ((rd_T25 x11_21 x17_4).f3) ((rd_T25 x11_21 x17_4).f4) ((rd_T25 x11_21 x17_4).f5) a2 true _ A47.out).mono ?_); rintro e w51 ⟨rfl, hb⟩; refine ⟨_, rfl, ?_⟩; have n0_ := Aside0.mk (Kd.R_below (by (with_reducible repeat (first | apply Kd.R_alloc | apply Kd.R_drewN | apply Kd.R_drew)); exact HO_11.out) hb); have n1_ := Aside0.mk (bB (g := gb304) (o := .cells #[.int .u8 a0_0, .int .i64 a0_1, .string a0_2, .string a0_3, .string a0_4, .int .u64 a0_5] 25 (0, 0)) (by (with_reducible repeat (first | refine bN ?_ _ | refine bD ?_ | refine bA ?_ _)); exact BK304.out) hb); have n2_ := Aside0.mk (bB (g := gb305) (o := .cells #[.string a1_0, .string a1_1] 31 (0, 0)) (by (with_reducible repeat (first | refine bN ?_ _ | refine bD ?_ | refine bA ?_ _)); exact BK305.out) hb); have n3_ := Aside0.mk (bB (g := gb317) (o := .cells #[.int .u8 t310, .int .i64 t311, .string t312, .string t313, .string t314, .int .u64 t315] 25 (0, 0)) (by (with_reducible repeat (first | refine bN ?_ _ | refine bD ?_ | refine bA ?_ _)); exact BK317.out) hb); have n4_ := Aside0.mk (wT (by repeat (first | (with_reducible first | exact HB.out | apply wA | apply wN | apply w1 | refine wS ?_ GE304.out | refine wS ?_ GE305.out | refine wS ?_ GE317.out) | exact HB.out)) hb); clear HO_11; clear BK304; clear BK305; clear BK317; clear HB; have HO_11 := n0_; have BK304 := n1_; have BK305 := n2_; have BK317 := n3_; have HB := n4_; clear n0_ n1_ n2_ n3_ n4_; (try clear hb); (try clear hb2); (try clear hk); (try clear hi); have p330 : 0 ≤ (x17_4 : Int) := of_decide_eq_true (by first | (with_reducible assumption) | assumption); have q330 : x17_4 < (x11_21.length : Int) := of_decide_eq_true (by first | (with_reducible assumption) | assumption); obtain ⟨ad330, e330, hx330_0, hx330_1, hx330_2, hx330_3, hx330_4, hx330_5⟩ := at_T25 (Kd.R_reads' HO_11.out).2.2 x17_4 p330 q330; obtain rfl : ad328 = ad330 := (by injection e330); replace p330 := eq_true p330; replace q330 := eq_true q330) | ((with_reducible refine gate_callee (f := 7) rfl ?_); refine goesL_ (some 76) rfl rfl Try.func7 (by kernel_rfl) rfl #[.agg #[.int .u8 ((rd_T25 x11_21 x17_4).f0), .int .i64 ((rd_T25 x11_21 x17_4).f1), .string ((rd_T25 x11_21 x17_4).f2), .string ((rd_T25 x11_21 x17_4).f3), .string ((rd_T25 x11_21 x17_4).f4), .int .u64 ((rd_T25 x11_21 x17_4).f5)], .string a2, .string x15_4, .bool x16_4] rfl (by (try simp only [mA1, mA2, mA3]); first | done | rfl | (simp only [mA5, mA4]; rfl)) ?_; (with_reducible refine (msg_On.calls k4 ((rd_T25 x11_21 x17_4).f0) ((rd_T25 x11_21 x17_4).f1) ((rd_T25 x11_21 x17_4).f2) ((rd_T25 x11_21 x17_4).f3) ((rd_T25 x11_21 x17_4).f4) ((rd_T25 x11_21 x17_4).f5) a2 x15_4 x16_4 t331 t332 _ A49.out).mono ?_); rintro e w52 ⟨rfl, hb⟩; refine ⟨_, rfl, ?_⟩; have n0_ := Aside0.mk (Kd.R_below (by (with_reducible repeat (first | apply Kd.R_alloc | apply Kd.R_drewN | apply Kd.R_drew)); exact HO_11.out) hb); have n1_ := Aside0.mk (bB (g := gb304) (o := .cells #[.int .u8 a0_0, .int .i64 a0_1, .string a0_2, .string a0_3, .string a0_4, .int .u64 a0_5] 25 (0, 0)) (by (with_reducible repeat (first | refine bN ?_ _ | refine bD ?_ | refine bA ?_ _)); exact BK304.out) hb); have n2_ := Aside0.mk (bB (g := gb305) (o := .cells #[.string a1_0, .string a1_1] 31 (0, 0)) (by (with_reducible repeat (first | refine bN ?_ _ | refine bD ?_ | refine bA ?_ _)); exact BK305.out) hb); have n3_ := Aside0.mk (bB (g := gb317) (o := .cells #[.int .u8 t310, .int .i64 t311, .string t312, .string t313, .string t314, .int .u64 t315] 25 (0, 0)) (by (with_reducible repeat (first | refine bN ?_ _ | refine bD ?_ | refine bA ?_ _)); exact BK317.out) hb); have n4_ := Aside0.mk (wT (by repeat (first | (with_reducible first | exact HB.out | apply wA | apply wN | apply w1 | refine wS ?_ GE304.out | refine wS ?_ GE305.out | refine wS ?_ GE317.out) | exact HB.out)) hb); clear HO_11; clear BK304; clear BK305; clear BK317; clear HB; have HO_11 := n0_; have BK304 := n1_; have BK305 := n2_; have BK317 := n3_; have HB := n4_; clear n0_ n1_ n2_ n3_ n4_; (try clear hb); (try clear hb2); (try clear hk); (try clear hi)))
             go_roundg k4
             case measure => have := HJ5.out; have := HJ21.out; have := HJ42.out; have := HK4.out; omega
             case rel => exact ⟨(wrap64 (x14_4 + 1)), (t331), (t332), (wrap64 (x17_4 + 1)), (by first | rfl | (simp; done) | (simp [*]; done)), (by first | rfl | (simp; done) | (simp [*]; done)), (by first | rfl | (simp; done) | (simp [*]; done)), (by first | rfl | (simp; done) | (simp [*]; done)), H', ⟨by have := HJ5.out; have := HJ21.out; have := HJ42.out; have := HK4.out; omega⟩, ⟨by (with_reducible repeat (first | apply Kd.R_alloc | apply Kd.R_drewN | apply Kd.R_drew)); exact HO_11.out⟩, ⟨by (with_reducible repeat (first | refine bN ?_ _ | refine bD ?_ | refine bA ?_ _)); exact BK304.out⟩, ⟨by (with_reducible repeat (first | refine bN ?_ _ | refine bD ?_ | refine bA ?_ _)); exact BK305.out⟩, ⟨by (with_reducible repeat (first | refine bN ?_ _ | refine bD ?_ | refine bA ?_ _)); exact BK317.out⟩, ⟨by repeat (first | (with_reducible first | exact HB.out | apply wA | apply wN | apply w1 | refine wS ?_ GE304.out | refine wS ?_ GE305.out | refine wS ?_ GE317.out) | exact HB.out)⟩⟩
            ·replace c48 := Bool.eq_false_iff.mpr c48
             subst c48
             have H1 : ((msg_On.f k4 ((rd_T25 x11_21 x17_4).f0) ((rd_T25 x11_21 x17_4).f1) ((rd_T25 x11_21 x17_4).f2) ((rd_T25 x11_21 x17_4).f3) ((rd_T25 x11_21 x17_4).f4) ((rd_T25 x11_21 x17_4).f5) a2 x15_4 x16_4).bind fun bt334 => (catchmentlaw04_MsgClips.l0 k4 a2 a3 a4 x11_21 x14_4 bt334.1 bt334.2 (wrap64 (x17_4 + 1)) a0_0 a0_1 a0_2 a0_3 a0_4 a0_5)) = some r := by rw [if_neg (show ¬ (false = true) by decide)] at H; exact H
             clear H
             have H := H1
             clear H1
             replace H := Option.bind_eq_some_iff.mp H
             obtain ⟨⟨t334, t335⟩, A530, H⟩ := H
             replace H : (catchmentlaw04_MsgClips.l0 k4 a2 a3 a4 x11_21 x14_4 t334 t335 (wrap64 (x17_4 + 1)) a0_0 a0_1 a0_2 a0_3 a0_4 a0_5) = some r := H
             have A53 := Aside0.mk A530
             clear A530
             have H' := Aside0.mk H
             clear H
             obtain ⟨Ao54, co54, eo54⟩ := Kd.R_slice HO_11.out
             subst eo54
             have p328 : 0 ≤ (x17_4 : Int) := of_decide_eq_true (by first | (with_reducible assumption) | assumption)
             have q328 : x17_4 < (x11_21.length : Int) := of_decide_eq_true (by first | (with_reducible assumption) | assumption)
             obtain ⟨ad328, e328, hx328_0, hx328_1, hx328_2, hx328_3, hx328_4, hx328_5⟩ := at_T25 (Kd.R_reads' HO_11.out).2.2 x17_4 p328 q328
             cases e328
             replace p328 := eq_true p328
             replace q328 := eq_true q328
             go_wp2_with (first | ((with_reducible refine gate_callee (f := 15) rfl ?_); refine goesL_ (some 65) rfl rfl Try.func15 (by kernel_rfl) rfl #[.agg #[.int .u8 ((rd_T25 x11_21 x17_4).f0), .int .i64 ((rd_T25 x11_21 x17_4).f1), .string ((rd_T25 x11_21 x17_4).f2), .string ((rd_T25 x11_21 x17_4).f3), .string ((rd_T25 x11_21 x17_4).f4), .int .u64 ((rd_T25 x11_21 x17_4).f5)], .string a2] rfl (by (try simp only [mA1, mA2, mA3]); first | done | rfl | (simp only [mA5, mA4]; rfl)) ?_; (with_reducible refine (msg_Touches.calls ((rd_T25 x11_21 x17_4).f0) ((rd_T25 x11_21 x17_4).f1) ((rd_T25 x11_21 x17_4).f2) ((rd_T25 x11_21 x17_4).f3) ((rd_T25 x11_21 x17_4).f4) ((rd_T25 x11_21 x17_4).f5) a2 false _ A47.out).mono ?_); rintro e w55 ⟨rfl, hb⟩; refine ⟨_, rfl, ?_⟩; have n0_ := Aside0.mk (Kd.R_below (by (with_reducible repeat (first | apply Kd.R_alloc | apply Kd.R_drewN | apply Kd.R_drew)); exact HO_11.out) hb); have n1_ := Aside0.mk (bB (g := gb304) (o := .cells #[.int .u8 a0_0, .int .i64 a0_1, .string a0_2, .string a0_3, .string a0_4, .int .u64 a0_5] 25 (0, 0)) (by (with_reducible repeat (first | refine bN ?_ _ | refine bD ?_ | refine bA ?_ _)); exact BK304.out) hb); have n2_ := Aside0.mk (bB (g := gb305) (o := .cells #[.string a1_0, .string a1_1] 31 (0, 0)) (by (with_reducible repeat (first | refine bN ?_ _ | refine bD ?_ | refine bA ?_ _)); exact BK305.out) hb); have n3_ := Aside0.mk (bB (g := gb317) (o := .cells #[.int .u8 t310, .int .i64 t311, .string t312, .string t313, .string t314, .int .u64 t315] 25 (0, 0)) (by (with_reducible repeat (first | refine bN ?_ _ | refine bD ?_ | refine bA ?_ _)); exact BK317.out) hb); have n4_ := Aside0.mk (wT (by repeat (first | (with_reducible first | exact HB.out | apply wA | apply wN | apply w1 | refine wS ?_ GE304.out | refine wS ?_ GE305.out | refine wS ?_ GE317.out) | exact HB.out)) hb); clear HO_11; clear BK304; clear BK305; clear BK317; clear HB; have HO_11 := n0_; have BK304 := n1_; have BK305 := n2_; have BK317 := n3_; have HB := n4_; clear n0_ n1_ n2_ n3_ n4_; (try clear hb); (try clear hb2); (try clear hk); (try clear hi); have p333 : 0 ≤ (x17_4 : Int) := of_decide_eq_true (by first | (with_reducible assumption) | assumption); have q333 : x17_4 < (x11_21.length : Int) := of_decide_eq_true (by first | (with_reducible assumption) | assumption); obtain ⟨ad333, e333, hx333_0, hx333_1, hx333_2, hx333_3, hx333_4, hx333_5⟩ := at_T25 (Kd.R_reads' HO_11.out).2.2 x17_4 p333 q333; obtain rfl : ad328 = ad333 := (by injection e333); replace p333 := eq_true p333; replace q333 := eq_true q333) | ((with_reducible refine gate_callee (f := 7) rfl ?_); refine goesL_ (some 76) rfl rfl Try.func7 (by kernel_rfl) rfl #[.agg #[.int .u8 ((rd_T25 x11_21 x17_4).f0), .int .i64 ((rd_T25 x11_21 x17_4).f1), .string ((rd_T25 x11_21 x17_4).f2), .string ((rd_T25 x11_21 x17_4).f3), .string ((rd_T25 x11_21 x17_4).f4), .int .u64 ((rd_T25 x11_21 x17_4).f5)], .string a2, .string x15_4, .bool x16_4] rfl (by (try simp only [mA1, mA2, mA3]); first | done | rfl | (simp only [mA5, mA4]; rfl)) ?_; (with_reducible refine (msg_On.calls k4 ((rd_T25 x11_21 x17_4).f0) ((rd_T25 x11_21 x17_4).f1) ((rd_T25 x11_21 x17_4).f2) ((rd_T25 x11_21 x17_4).f3) ((rd_T25 x11_21 x17_4).f4) ((rd_T25 x11_21 x17_4).f5) a2 x15_4 x16_4 t334 t335 _ A53.out).mono ?_); rintro e w56 ⟨rfl, hb⟩; refine ⟨_, rfl, ?_⟩; have n0_ := Aside0.mk (Kd.R_below (by (with_reducible repeat (first | apply Kd.R_alloc | apply Kd.R_drewN | apply Kd.R_drew)); exact HO_11.out) hb); have n1_ := Aside0.mk (bB (g := gb304) (o := .cells #[.int .u8 a0_0, .int .i64 a0_1, .string a0_2, .string a0_3, .string a0_4, .int .u64 a0_5] 25 (0, 0)) (by (with_reducible repeat (first | refine bN ?_ _ | refine bD ?_ | refine bA ?_ _)); exact BK304.out) hb); have n2_ := Aside0.mk (bB (g := gb305) (o := .cells #[.string a1_0, .string a1_1] 31 (0, 0)) (by (with_reducible repeat (first | refine bN ?_ _ | refine bD ?_ | refine bA ?_ _)); exact BK305.out) hb); have n3_ := Aside0.mk (bB (g := gb317) (o := .cells #[.int .u8 t310, .int .i64 t311, .string t312, .string t313, .string t314, .int .u64 t315] 25 (0, 0)) (by (with_reducible repeat (first | refine bN ?_ _ | refine bD ?_ | refine bA ?_ _)); exact BK317.out) hb); have n4_ := Aside0.mk (wT (by repeat (first | (with_reducible first | exact HB.out | apply wA | apply wN | apply w1 | refine wS ?_ GE304.out | refine wS ?_ GE305.out | refine wS ?_ GE317.out) | exact HB.out)) hb); clear HO_11; clear BK304; clear BK305; clear BK317; clear HB; have HO_11 := n0_; have BK304 := n1_; have BK305 := n2_; have BK317 := n3_; have HB := n4_; clear n0_ n1_ n2_ n3_ n4_; (try clear hb); (try clear hb2); (try clear hk); (try clear hi)))
             go_roundg k4
             case measure => have := HJ5.out; have := HJ21.out; have := HJ42.out; have := HK4.out; omega
             case rel => exact ⟨(x14_4), (t334), (t335), (wrap64 (x17_4 + 1)), (by first | rfl | (simp; done) | (simp [*]; done)), (by first | rfl | (simp; done) | (simp [*]; done)), (by first | rfl | (simp; done) | (simp [*]; done)), (by first | rfl | (simp; done) | (simp [*]; done)), H', ⟨by have := HJ5.out; have := HJ21.out; have := HJ42.out; have := HK4.out; omega⟩, ⟨by (with_reducible repeat (first | apply Kd.R_alloc | apply Kd.R_drewN | apply Kd.R_drew)); exact HO_11.out⟩, ⟨by (with_reducible repeat (first | refine bN ?_ _ | refine bD ?_ | refine bA ?_ _)); exact BK304.out⟩, ⟨by (with_reducible repeat (first | refine bN ?_ _ | refine bD ?_ | refine bA ?_ _)); exact BK305.out⟩, ⟨by (with_reducible repeat (first | refine bN ?_ _ | refine bD ?_ | refine bA ?_ _)); exact BK317.out⟩, ⟨by repeat (first | (with_reducible first | exact HB.out | apply wA | apply wN | apply w1 | refine wS ?_ GE304.out | refine wS ?_ GE305.out | refine wS ?_ GE317.out) | exact HB.out)⟩⟩
           ·rw [if_neg c46] at H
            exact absurd H (by simp)
          ·rw [if_neg c45] at H
           have c45b0 : decide (x17_4 < (x11_21.length : Int)) = false := decide_eq_false c45
           clear c45
           replace H := Option.bind_eq_some_iff.mp H
           obtain ⟨⟨t324, t325⟩, A570, H⟩ := H
           replace H : ((catchmentlaw04_live.f k4).bind fun t326 => (if t326 = true then (if x14_4 ≤ 1 then ((msg_Touches.f a0_0 a0_1 a0_2 a0_3 a0_4 a0_5 a2).bind fun t327 => (if ((x14_4 == 1) == t327) = true then (if x15_4.toList = t324.toList then (some (x16_4 == t325)) else (some false)) else (some false))) else (some false)) else (some false))) = some r := H
           have A57 := Aside0.mk A570
           clear A570
           replace H := Option.bind_eq_some_iff.mp H
           obtain ⟨t326, A580, H⟩ := H
           replace H : (if t326 = true then (if x14_4 ≤ 1 then ((msg_Touches.f a0_0 a0_1 a0_2 a0_3 a0_4 a0_5 a2).bind fun t327 => (if ((x14_4 == 1) == t327) = true then (if x15_4.toList = t324.toList then (some (x16_4 == t325)) else (some false)) else (some false))) else (some false)) else (some false)) = some r := H
           have A58 := Aside0.mk A580
           clear A580
           by_cases c59 : t326 = true
           ·subst c59
            have H1 : (if x14_4 ≤ 1 then ((msg_Touches.f a0_0 a0_1 a0_2 a0_3 a0_4 a0_5 a2).bind fun t327 => (if ((x14_4 == 1) == t327) = true then (if x15_4.toList = t324.toList then (some (x16_4 == t325)) else (some false)) else (some false))) else (some false)) = some r := by rw [if_pos rfl] at H; exact H
            clear H
            have H := H1
            clear H1
            by_cases c60 : x14_4 ≤ 1
            ·rw [if_pos c60] at H
             have c60b0 : decide (x14_4 ≤ 1) = true := decide_eq_true c60
             clear c60
             replace H := Option.bind_eq_some_iff.mp H
             obtain ⟨t327, A610, H⟩ := H
             replace H : (if ((x14_4 == 1) == t327) = true then (if x15_4.toList = t324.toList then (some (x16_4 == t325)) else (some false)) else (some false)) = some r := H
             have A61 := Aside0.mk A610
             clear A610
             by_cases c62 : ((x14_4 == 1) == t327) = true
             ·rw [if_pos c62] at H
              have c62b0 : ((x14_4 == 1) == t327) = true := c62
              (try (have c62b1 : decide ((x14_4 == 1) = t327) = true := by simpa using c62))
              (try (have c62b2 : ((x14_4 == 1) == t327) = true := by simpa using c62))
              clear c62
              by_cases c63 : x15_4.toList = t324.toList
              ·rw [if_pos c63] at H
               have c63b0 : (x15_4.toList == t324.toList) = true := beq_iff_eq.mpr c63
               have c63b1 : (x15_4.toList != t324.toList) = false := bne_eq_false_iff_eq.mpr c63
               clear c63
               obtain rfl := Option.some.inj H
               obtain ⟨Ao64, co64, eo64⟩ := Kd.R_slice HO_11.out
               subst eo64
               have hnb65 := NB304_305.out
               have hnc65 := NB305_304.out
               have hnb66 := NB304_317.out
               have hnc66 := NB317_304.out
               have hcz67_0 : wr.cell? ⟨gb304, 0, none⟩ = some (.int .u8 a0_0) := (bC BK304.out 0).trans rfl
               have hcz67_1 : wr.cell? ⟨gb304, 1, none⟩ = some (.int .i64 a0_1) := (bC BK304.out 1).trans rfl
               have hcz67_2 : wr.cell? ⟨gb304, 2, none⟩ = some (.string a0_2) := (bC BK304.out 2).trans rfl
               have hcz67_3 : wr.cell? ⟨gb304, 3, none⟩ = some (.string a0_3) := (bC BK304.out 3).trans rfl
               have hcz67_4 : wr.cell? ⟨gb304, 4, none⟩ = some (.string a0_4) := (bC BK304.out 4).trans rfl
               have hcz67_5 : wr.cell? ⟨gb304, 5, none⟩ = some (.int .u64 a0_5) := (bC BK304.out 5).trans rfl
               have hfz67_0 := bF BK304.out 0
               have hfz67_1 := bF BK304.out 1
               have hfz67_2 := bF BK304.out 2
               have hfz67_3 := bF BK304.out 3
               have hfz67_4 := bF BK304.out 4
               have hfz67_5 := bF BK304.out 5
               go_wp2_with (first | ((with_reducible refine gate_callee (f := 7) rfl ?_); refine goesL_ (some 84) rfl rfl Try.func7 (by kernel_rfl) rfl #[.agg #[.int .u8 a0_0, .int .i64 a0_1, .string a0_2, .string a0_3, .string a0_4, .int .u64 a0_5], .string a2, .string a3, .bool a4] rfl (by (try simp only [mA1, mA2, mA3]); first | done | rfl | (simp only [mA5, mA4]; rfl)) ?_; (with_reducible refine (msg_On.calls k4 a0_0 a0_1 a0_2 a0_3 a0_4 a0_5 a2 a3 a4 t324 t325 _ A57.out).mono ?_); rintro e w68 ⟨rfl, hb⟩; refine ⟨_, rfl, ?_⟩; have n0_ := Aside0.mk (Kd.R_below (by (with_reducible repeat (first | apply Kd.R_alloc | apply Kd.R_drewN | apply Kd.R_drew)); exact HO_11.out) hb); have n1_ := Aside0.mk (bB (g := gb304) (o := .cells #[.int .u8 a0_0, .int .i64 a0_1, .string a0_2, .string a0_3, .string a0_4, .int .u64 a0_5] 25 (0, 0)) (by (with_reducible repeat (first | refine bN ?_ _ | refine bD ?_ | refine bA ?_ _)); exact BK304.out) hb); have n2_ := Aside0.mk (bB (g := gb305) (o := .cells #[.string a1_0, .string a1_1] 31 (0, 0)) (by (with_reducible repeat (first | refine bN ?_ _ | refine bD ?_ | refine bA ?_ _)); exact BK305.out) hb); have n3_ := Aside0.mk (bB (g := gb317) (o := .cells #[.int .u8 t310, .int .i64 t311, .string t312, .string t313, .string t314, .int .u64 t315] 25 (0, 0)) (by (with_reducible repeat (first | refine bN ?_ _ | refine bD ?_ | refine bA ?_ _)); exact BK317.out) hb); have n4_ := Aside0.mk (wT (by repeat (first | (with_reducible first | exact HB.out | apply wA | apply wN | apply w1 | refine wS ?_ GE304.out | refine wS ?_ GE305.out | refine wS ?_ GE317.out) | exact HB.out)) hb); clear HO_11; clear BK304; clear BK305; clear BK317; clear HB; have HO_11 := n0_; have BK304 := n1_; have BK305 := n2_; have BK317 := n3_; have HB := n4_; clear n0_ n1_ n2_ n3_ n4_; (try clear hb); (try clear hb2); (try clear hk); (try clear hi)) | ((with_reducible refine gate_callee (f := 18) rfl ?_); refine goesL_ (some 87) rfl rfl Try.func18 (by kernel_rfl) rfl #[] rfl (by (try simp only [mA1, mA2, mA3]); first | done | rfl | (simp only [mA5, mA4]; rfl)) ?_; (with_reducible refine (catchmentlaw04_live.calls k4  true _ A58.out).mono ?_); rintro e w69 ⟨rfl, hb⟩; refine ⟨_, rfl, ?_⟩; have n0_ := Aside0.mk (Kd.R_below (by (with_reducible repeat (first | apply Kd.R_alloc | apply Kd.R_drewN | apply Kd.R_drew)); exact HO_11.out) hb); have n1_ := Aside0.mk (bB (g := gb304) (o := .cells #[.int .u8 a0_0, .int .i64 a0_1, .string a0_2, .string a0_3, .string a0_4, .int .u64 a0_5] 25 (0, 0)) (by (with_reducible repeat (first | refine bN ?_ _ | refine bD ?_ | refine bA ?_ _)); exact BK304.out) hb); have n2_ := Aside0.mk (bB (g := gb305) (o := .cells #[.string a1_0, .string a1_1] 31 (0, 0)) (by (with_reducible repeat (first | refine bN ?_ _ | refine bD ?_ | refine bA ?_ _)); exact BK305.out) hb); have n3_ := Aside0.mk (bB (g := gb317) (o := .cells #[.int .u8 t310, .int .i64 t311, .string t312, .string t313, .string t314, .int .u64 t315] 25 (0, 0)) (by (with_reducible repeat (first | refine bN ?_ _ | refine bD ?_ | refine bA ?_ _)); exact BK317.out) hb); have n4_ := Aside0.mk (wT (by repeat (first | (with_reducible first | exact HB.out | apply wA | apply wN | apply w1 | refine wS ?_ GE304.out | refine wS ?_ GE305.out | refine wS ?_ GE317.out) | exact HB.out)) hb); clear HO_11; clear BK304; clear BK305; clear BK317; clear HB; have HO_11 := n0_; have BK304 := n1_; have BK305 := n2_; have BK317 := n3_; have HB := n4_; clear n0_ n1_ n2_ n3_ n4_; (try clear hb); (try clear hb2); (try clear hk); (try clear hi); have hcz70_0 : w69.cell? ⟨gb304, 0, none⟩ = some (.int .u8 a0_0) := (bC BK304.out 0).trans rfl; have hcz70_1 : w69.cell? ⟨gb304, 1, none⟩ = some (.int .i64 a0_1) := (bC BK304.out 1).trans rfl; have hcz70_2 : w69.cell? ⟨gb304, 2, none⟩ = some (.string a0_2) := (bC BK304.out 2).trans rfl; have hcz70_3 : w69.cell? ⟨gb304, 3, none⟩ = some (.string a0_3) := (bC BK304.out 3).trans rfl; have hcz70_4 : w69.cell? ⟨gb304, 4, none⟩ = some (.string a0_4) := (bC BK304.out 4).trans rfl; have hcz70_5 : w69.cell? ⟨gb304, 5, none⟩ = some (.int .u64 a0_5) := (bC BK304.out 5).trans rfl; have hfz70_0 := bF BK304.out 0; have hfz70_1 := bF BK304.out 1; have hfz70_2 := bF BK304.out 2; have hfz70_3 := bF BK304.out 3; have hfz70_4 := bF BK304.out 4; have hfz70_5 := bF BK304.out 5) | (go_at_call 15; (with_reducible refine (msg_Touches.calls a0_0 a0_1 a0_2 a0_3 a0_4 a0_5 a2 t327 _ A61.out).mono ?_); rintro e w71 ⟨rfl, hb⟩; have n0_ := Aside0.mk (Kd.R_below (by (with_reducible repeat (first | apply Kd.R_alloc | apply Kd.R_drewN | apply Kd.R_drew)); exact HO_11.out) hb); have n1_ := Aside0.mk (bB (g := gb304) (o := .cells #[.int .u8 a0_0, .int .i64 a0_1, .string a0_2, .string a0_3, .string a0_4, .int .u64 a0_5] 25 (0, 0)) (by (with_reducible repeat (first | refine bN ?_ _ | refine bD ?_ | refine bA ?_ _)); exact BK304.out) hb); have n2_ := Aside0.mk (bB (g := gb305) (o := .cells #[.string a1_0, .string a1_1] 31 (0, 0)) (by (with_reducible repeat (first | refine bN ?_ _ | refine bD ?_ | refine bA ?_ _)); exact BK305.out) hb); have n3_ := Aside0.mk (bB (g := gb317) (o := .cells #[.int .u8 t310, .int .i64 t311, .string t312, .string t313, .string t314, .int .u64 t315] 25 (0, 0)) (by (with_reducible repeat (first | refine bN ?_ _ | refine bD ?_ | refine bA ?_ _)); exact BK317.out) hb); have n4_ := Aside0.mk (wT (by repeat (first | (with_reducible first | exact HB.out | apply wA | apply wN | apply w1 | refine wS ?_ GE304.out | refine wS ?_ GE305.out | refine wS ?_ GE317.out) | exact HB.out)) hb); clear HO_11; clear BK304; clear BK305; clear BK317; clear HB; have HO_11 := n0_; have BK304 := n1_; have BK305 := n2_; have BK317 := n3_; have HB := n4_; clear n0_ n1_ n2_ n3_ n4_; (try clear hb); (try clear hb2); (try clear hk); (try clear hi)))
               go_ret
               exact ⟨by first | rfl | (simp [errW_none, errW_some] <;> rfl) | (simp [*, errW_none, errW_some] <;> rfl), by repeat (first | (with_reducible first | exact HB.out | apply wA | apply wN | apply w1 | refine wS ?_ GE304.out | refine wS ?_ GE305.out | refine wS ?_ GE317.out) | exact HB.out)⟩
              ·rw [if_neg c63] at H
               have c63b0 : (x15_4.toList == t324.toList) = false := beq_eq_false_iff_ne.mpr c63
               have c63b1 : (x15_4.toList != t324.toList) = true := bne_iff_ne.mpr c63
               obtain rfl := Option.some.inj H
               obtain ⟨Ao72, co72, eo72⟩ := Kd.R_slice HO_11.out
               subst eo72
               have hnb73 := NB304_305.out
               have hnc73 := NB305_304.out
               have hnb74 := NB304_317.out
               have hnc74 := NB317_304.out
               have hcz75_0 : wr.cell? ⟨gb304, 0, none⟩ = some (.int .u8 a0_0) := (bC BK304.out 0).trans rfl
               have hcz75_1 : wr.cell? ⟨gb304, 1, none⟩ = some (.int .i64 a0_1) := (bC BK304.out 1).trans rfl
               have hcz75_2 : wr.cell? ⟨gb304, 2, none⟩ = some (.string a0_2) := (bC BK304.out 2).trans rfl
               have hcz75_3 : wr.cell? ⟨gb304, 3, none⟩ = some (.string a0_3) := (bC BK304.out 3).trans rfl
               have hcz75_4 : wr.cell? ⟨gb304, 4, none⟩ = some (.string a0_4) := (bC BK304.out 4).trans rfl
               have hcz75_5 : wr.cell? ⟨gb304, 5, none⟩ = some (.int .u64 a0_5) := (bC BK304.out 5).trans rfl
               have hfz75_0 := bF BK304.out 0
               have hfz75_1 := bF BK304.out 1
               have hfz75_2 := bF BK304.out 2
               have hfz75_3 := bF BK304.out 3
               have hfz75_4 := bF BK304.out 4
               have hfz75_5 := bF BK304.out 5
               go_wp2_with (first | ((with_reducible refine gate_callee (f := 7) rfl ?_); refine goesL_ (some 84) rfl rfl Try.func7 (by kernel_rfl) rfl #[.agg #[.int .u8 a0_0, .int .i64 a0_1, .string a0_2, .string a0_3, .string a0_4, .int .u64 a0_5], .string a2, .string a3, .bool a4] rfl (by (try simp only [mA1, mA2, mA3]); first | done | rfl | (simp only [mA5, mA4]; rfl)) ?_; (with_reducible refine (msg_On.calls k4 a0_0 a0_1 a0_2 a0_3 a0_4 a0_5 a2 a3 a4 t324 t325 _ A57.out).mono ?_); rintro e w76 ⟨rfl, hb⟩; refine ⟨_, rfl, ?_⟩; have n0_ := Aside0.mk (Kd.R_below (by (with_reducible repeat (first | apply Kd.R_alloc | apply Kd.R_drewN | apply Kd.R_drew)); exact HO_11.out) hb); have n1_ := Aside0.mk (bB (g := gb304) (o := .cells #[.int .u8 a0_0, .int .i64 a0_1, .string a0_2, .string a0_3, .string a0_4, .int .u64 a0_5] 25 (0, 0)) (by (with_reducible repeat (first | refine bN ?_ _ | refine bD ?_ | refine bA ?_ _)); exact BK304.out) hb); have n2_ := Aside0.mk (bB (g := gb305) (o := .cells #[.string a1_0, .string a1_1] 31 (0, 0)) (by (with_reducible repeat (first | refine bN ?_ _ | refine bD ?_ | refine bA ?_ _)); exact BK305.out) hb); have n3_ := Aside0.mk (bB (g := gb317) (o := .cells #[.int .u8 t310, .int .i64 t311, .string t312, .string t313, .string t314, .int .u64 t315] 25 (0, 0)) (by (with_reducible repeat (first | refine bN ?_ _ | refine bD ?_ | refine bA ?_ _)); exact BK317.out) hb); have n4_ := Aside0.mk (wT (by repeat (first | (with_reducible first | exact HB.out | apply wA | apply wN | apply w1 | refine wS ?_ GE304.out | refine wS ?_ GE305.out | refine wS ?_ GE317.out) | exact HB.out)) hb); clear HO_11; clear BK304; clear BK305; clear BK317; clear HB; have HO_11 := n0_; have BK304 := n1_; have BK305 := n2_; have BK317 := n3_; have HB := n4_; clear n0_ n1_ n2_ n3_ n4_; (try clear hb); (try clear hb2); (try clear hk); (try clear hi)) | ((with_reducible refine gate_callee (f := 18) rfl ?_); refine goesL_ (some 87) rfl rfl Try.func18 (by kernel_rfl) rfl #[] rfl (by (try simp only [mA1, mA2, mA3]); first | done | rfl | (simp only [mA5, mA4]; rfl)) ?_; (with_reducible refine (catchmentlaw04_live.calls k4  true _ A58.out).mono ?_); rintro e w77 ⟨rfl, hb⟩; refine ⟨_, rfl, ?_⟩; have n0_ := Aside0.mk (Kd.R_below (by (with_reducible repeat (first | apply Kd.R_alloc | apply Kd.R_drewN | apply Kd.R_drew)); exact HO_11.out) hb); have n1_ := Aside0.mk (bB (g := gb304) (o := .cells #[.int .u8 a0_0, .int .i64 a0_1, .string a0_2, .string a0_3, .string a0_4, .int .u64 a0_5] 25 (0, 0)) (by (with_reducible repeat (first | refine bN ?_ _ | refine bD ?_ | refine bA ?_ _)); exact BK304.out) hb); have n2_ := Aside0.mk (bB (g := gb305) (o := .cells #[.string a1_0, .string a1_1] 31 (0, 0)) (by (with_reducible repeat (first | refine bN ?_ _ | refine bD ?_ | refine bA ?_ _)); exact BK305.out) hb); have n3_ := Aside0.mk (bB (g := gb317) (o := .cells #[.int .u8 t310, .int .i64 t311, .string t312, .string t313, .string t314, .int .u64 t315] 25 (0, 0)) (by (with_reducible repeat (first | refine bN ?_ _ | refine bD ?_ | refine bA ?_ _)); exact BK317.out) hb); have n4_ := Aside0.mk (wT (by repeat (first | (with_reducible first | exact HB.out | apply wA | apply wN | apply w1 | refine wS ?_ GE304.out | refine wS ?_ GE305.out | refine wS ?_ GE317.out) | exact HB.out)) hb); clear HO_11; clear BK304; clear BK305; clear BK317; clear HB; have HO_11 := n0_; have BK304 := n1_; have BK305 := n2_; have BK317 := n3_; have HB := n4_; clear n0_ n1_ n2_ n3_ n4_; (try clear hb); (try clear hb2); (try clear hk); (try clear hi); have hcz78_0 : w77.cell? ⟨gb304, 0, none⟩ = some (.int .u8 a0_0) := (bC BK304.out 0).trans rfl; have hcz78_1 : w77.cell? ⟨gb304, 1, none⟩ = some (.int .i64 a0_1) := (bC BK304.out 1).trans rfl; have hcz78_2 : w77.cell? ⟨gb304, 2, none⟩ = some (.string a0_2) := (bC BK304.out 2).trans rfl; have hcz78_3 : w77.cell? ⟨gb304, 3, none⟩ = some (.string a0_3) := (bC BK304.out 3).trans rfl; have hcz78_4 : w77.cell? ⟨gb304, 4, none⟩ = some (.string a0_4) := (bC BK304.out 4).trans rfl; have hcz78_5 : w77.cell? ⟨gb304, 5, none⟩ = some (.int .u64 a0_5) := (bC BK304.out 5).trans rfl; have hfz78_0 := bF BK304.out 0; have hfz78_1 := bF BK304.out 1; have hfz78_2 := bF BK304.out 2; have hfz78_3 := bF BK304.out 3; have hfz78_4 := bF BK304.out 4; have hfz78_5 := bF BK304.out 5) | (go_at_call 15; (with_reducible refine (msg_Touches.calls a0_0 a0_1 a0_2 a0_3 a0_4 a0_5 a2 t327 _ A61.out).mono ?_); rintro e w79 ⟨rfl, hb⟩; have n0_ := Aside0.mk (Kd.R_below (by (with_reducible repeat (first | apply Kd.R_alloc | apply Kd.R_drewN | apply Kd.R_drew)); exact HO_11.out) hb); have n1_ := Aside0.mk (bB (g := gb304) (o := .cells #[.int .u8 a0_0, .int .i64 a0_1, .string a0_2, .string a0_3, .string a0_4, .int .u64 a0_5] 25 (0, 0)) (by (with_reducible repeat (first | refine bN ?_ _ | refine bD ?_ | refine bA ?_ _)); exact BK304.out) hb); have n2_ := Aside0.mk (bB (g := gb305) (o := .cells #[.string a1_0, .string a1_1] 31 (0, 0)) (by (with_reducible repeat (first | refine bN ?_ _ | refine bD ?_ | refine bA ?_ _)); exact BK305.out) hb); have n3_ := Aside0.mk (bB (g := gb317) (o := .cells #[.int .u8 t310, .int .i64 t311, .string t312, .string t313, .string t314, .int .u64 t315] 25 (0, 0)) (by (with_reducible repeat (first | refine bN ?_ _ | refine bD ?_ | refine bA ?_ _)); exact BK317.out) hb); have n4_ := Aside0.mk (wT (by repeat (first | (with_reducible first | exact HB.out | apply wA | apply wN | apply w1 | refine wS ?_ GE304.out | refine wS ?_ GE305.out | refine wS ?_ GE317.out) | exact HB.out)) hb); clear HO_11; clear BK304; clear BK305; clear BK317; clear HB; have HO_11 := n0_; have BK304 := n1_; have BK305 := n2_; have BK317 := n3_; have HB := n4_; clear n0_ n1_ n2_ n3_ n4_; (try clear hb); (try clear hb2); (try clear hk); (try clear hi)))
               go_ret
               exact ⟨by first | rfl | (simp [errW_none, errW_some] <;> rfl) | (simp [*, errW_none, errW_some] <;> rfl), by repeat (first | (with_reducible first | exact HB.out | apply wA | apply wN | apply w1 | refine wS ?_ GE304.out | refine wS ?_ GE305.out | refine wS ?_ GE317.out) | exact HB.out)⟩
             ·rw [if_neg c62] at H
              have c62b0 : ((x14_4 == 1) == t327) = false := by simpa using c62
              (try (have c62b1 : decide ((x14_4 == 1) = t327) = false := by simpa using c62))
              (try (have c62b2 : ((x14_4 == 1) == t327) = false := by simpa using c62))
              (try (have c62b3 : ¬ ((x14_4 == 1) = t327) := by simpa using c62))
              clear c62
              obtain rfl := Option.some.inj H
              obtain ⟨Ao80, co80, eo80⟩ := Kd.R_slice HO_11.out
              subst eo80
              have hnb81 := NB304_305.out
              have hnc81 := NB305_304.out
              have hnb82 := NB304_317.out
              have hnc82 := NB317_304.out
              have hcz83_0 : wr.cell? ⟨gb304, 0, none⟩ = some (.int .u8 a0_0) := (bC BK304.out 0).trans rfl
              have hcz83_1 : wr.cell? ⟨gb304, 1, none⟩ = some (.int .i64 a0_1) := (bC BK304.out 1).trans rfl
              have hcz83_2 : wr.cell? ⟨gb304, 2, none⟩ = some (.string a0_2) := (bC BK304.out 2).trans rfl
              have hcz83_3 : wr.cell? ⟨gb304, 3, none⟩ = some (.string a0_3) := (bC BK304.out 3).trans rfl
              have hcz83_4 : wr.cell? ⟨gb304, 4, none⟩ = some (.string a0_4) := (bC BK304.out 4).trans rfl
              have hcz83_5 : wr.cell? ⟨gb304, 5, none⟩ = some (.int .u64 a0_5) := (bC BK304.out 5).trans rfl
              have hfz83_0 := bF BK304.out 0
              have hfz83_1 := bF BK304.out 1
              have hfz83_2 := bF BK304.out 2
              have hfz83_3 := bF BK304.out 3
              have hfz83_4 := bF BK304.out 4
              have hfz83_5 := bF BK304.out 5
              go_wp2_with (first | ((with_reducible refine gate_callee (f := 7) rfl ?_); refine goesL_ (some 84) rfl rfl Try.func7 (by kernel_rfl) rfl #[.agg #[.int .u8 a0_0, .int .i64 a0_1, .string a0_2, .string a0_3, .string a0_4, .int .u64 a0_5], .string a2, .string a3, .bool a4] rfl (by (try simp only [mA1, mA2, mA3]); first | done | rfl | (simp only [mA5, mA4]; rfl)) ?_; (with_reducible refine (msg_On.calls k4 a0_0 a0_1 a0_2 a0_3 a0_4 a0_5 a2 a3 a4 t324 t325 _ A57.out).mono ?_); rintro e w84 ⟨rfl, hb⟩; refine ⟨_, rfl, ?_⟩; have n0_ := Aside0.mk (Kd.R_below (by (with_reducible repeat (first | apply Kd.R_alloc | apply Kd.R_drewN | apply Kd.R_drew)); exact HO_11.out) hb); have n1_ := Aside0.mk (bB (g := gb304) (o := .cells #[.int .u8 a0_0, .int .i64 a0_1, .string a0_2, .string a0_3, .string a0_4, .int .u64 a0_5] 25 (0, 0)) (by (with_reducible repeat (first | refine bN ?_ _ | refine bD ?_ | refine bA ?_ _)); exact BK304.out) hb); have n2_ := Aside0.mk (bB (g := gb305) (o := .cells #[.string a1_0, .string a1_1] 31 (0, 0)) (by (with_reducible repeat (first | refine bN ?_ _ | refine bD ?_ | refine bA ?_ _)); exact BK305.out) hb); have n3_ := Aside0.mk (bB (g := gb317) (o := .cells #[.int .u8 t310, .int .i64 t311, .string t312, .string t313, .string t314, .int .u64 t315] 25 (0, 0)) (by (with_reducible repeat (first | refine bN ?_ _ | refine bD ?_ | refine bA ?_ _)); exact BK317.out) hb); have n4_ := Aside0.mk (wT (by repeat (first | (with_reducible first | exact HB.out | apply wA | apply wN | apply w1 | refine wS ?_ GE304.out | refine wS ?_ GE305.out | refine wS ?_ GE317.out) | exact HB.out)) hb); clear HO_11; clear BK304; clear BK305; clear BK317; clear HB; have HO_11 := n0_; have BK304 := n1_; have BK305 := n2_; have BK317 := n3_; have HB := n4_; clear n0_ n1_ n2_ n3_ n4_; (try clear hb); (try clear hb2); (try clear hk); (try clear hi)) | ((with_reducible refine gate_callee (f := 18) rfl ?_); refine goesL_ (some 87) rfl rfl Try.func18 (by kernel_rfl) rfl #[] rfl (by (try simp only [mA1, mA2, mA3]); first | done | rfl | (simp only [mA5, mA4]; rfl)) ?_; (with_reducible refine (catchmentlaw04_live.calls k4  true _ A58.out).mono ?_); rintro e w85 ⟨rfl, hb⟩; refine ⟨_, rfl, ?_⟩; have n0_ := Aside0.mk (Kd.R_below (by (with_reducible repeat (first | apply Kd.R_alloc | apply Kd.R_drewN | apply Kd.R_drew)); exact HO_11.out) hb); have n1_ := Aside0.mk (bB (g := gb304) (o := .cells #[.int .u8 a0_0, .int .i64 a0_1, .string a0_2, .string a0_3, .string a0_4, .int .u64 a0_5] 25 (0, 0)) (by (with_reducible repeat (first | refine bN ?_ _ | refine bD ?_ | refine bA ?_ _)); exact BK304.out) hb); have n2_ := Aside0.mk (bB (g := gb305) (o := .cells #[.string a1_0, .string a1_1] 31 (0, 0)) (by (with_reducible repeat (first | refine bN ?_ _ | refine bD ?_ | refine bA ?_ _)); exact BK305.out) hb); have n3_ := Aside0.mk (bB (g := gb317) (o := .cells #[.int .u8 t310, .int .i64 t311, .string t312, .string t313, .string t314, .int .u64 t315] 25 (0, 0)) (by (with_reducible repeat (first | refine bN ?_ _ | refine bD ?_ | refine bA ?_ _)); exact BK317.out) hb); have n4_ := Aside0.mk (wT (by repeat (first | (with_reducible first | exact HB.out | apply wA | apply wN | apply w1 | refine wS ?_ GE304.out | refine wS ?_ GE305.out | refine wS ?_ GE317.out) | exact HB.out)) hb); clear HO_11; clear BK304; clear BK305; clear BK317; clear HB; have HO_11 := n0_; have BK304 := n1_; have BK305 := n2_; have BK317 := n3_; have HB := n4_; clear n0_ n1_ n2_ n3_ n4_; (try clear hb); (try clear hb2); (try clear hk); (try clear hi); have hcz86_0 : w85.cell? ⟨gb304, 0, none⟩ = some (.int .u8 a0_0) := (bC BK304.out 0).trans rfl; have hcz86_1 : w85.cell? ⟨gb304, 1, none⟩ = some (.int .i64 a0_1) := (bC BK304.out 1).trans rfl; have hcz86_2 : w85.cell? ⟨gb304, 2, none⟩ = some (.string a0_2) := (bC BK304.out 2).trans rfl; have hcz86_3 : w85.cell? ⟨gb304, 3, none⟩ = some (.string a0_3) := (bC BK304.out 3).trans rfl; have hcz86_4 : w85.cell? ⟨gb304, 4, none⟩ = some (.string a0_4) := (bC BK304.out 4).trans rfl; have hcz86_5 : w85.cell? ⟨gb304, 5, none⟩ = some (.int .u64 a0_5) := (bC BK304.out 5).trans rfl; have hfz86_0 := bF BK304.out 0; have hfz86_1 := bF BK304.out 1; have hfz86_2 := bF BK304.out 2; have hfz86_3 := bF BK304.out 3; have hfz86_4 := bF BK304.out 4; have hfz86_5 := bF BK304.out 5) | (go_at_call 15; (with_reducible refine (msg_Touches.calls a0_0 a0_1 a0_2 a0_3 a0_4 a0_5 a2 t327 _ A61.out).mono ?_); rintro e w87 ⟨rfl, hb⟩; have n0_ := Aside0.mk (Kd.R_below (by (with_reducible repeat (first | apply Kd.R_alloc | apply Kd.R_drewN | apply Kd.R_drew)); exact HO_11.out) hb); have n1_ := Aside0.mk (bB (g := gb304) (o := .cells #[.int .u8 a0_0, .int .i64 a0_1, .string a0_2, .string a0_3, .string a0_4, .int .u64 a0_5] 25 (0, 0)) (by (with_reducible repeat (first | refine bN ?_ _ | refine bD ?_ | refine bA ?_ _)); exact BK304.out) hb); have n2_ := Aside0.mk (bB (g := gb305) (o := .cells #[.string a1_0, .string a1_1] 31 (0, 0)) (by (with_reducible repeat (first | refine bN ?_ _ | refine bD ?_ | refine bA ?_ _)); exact BK305.out) hb); have n3_ := Aside0.mk (bB (g := gb317) (o := .cells #[.int .u8 t310, .int .i64 t311, .string t312, .string t313, .string t314, .int .u64 t315] 25 (0, 0)) (by (with_reducible repeat (first | refine bN ?_ _ | refine bD ?_ | refine bA ?_ _)); exact BK317.out) hb); have n4_ := Aside0.mk (wT (by repeat (first | (with_reducible first | exact HB.out | apply wA | apply wN | apply w1 | refine wS ?_ GE304.out | refine wS ?_ GE305.out | refine wS ?_ GE317.out) | exact HB.out)) hb); clear HO_11; clear BK304; clear BK305; clear BK317; clear HB; have HO_11 := n0_; have BK304 := n1_; have BK305 := n2_; have BK317 := n3_; have HB := n4_; clear n0_ n1_ n2_ n3_ n4_; (try clear hb); (try clear hb2); (try clear hk); (try clear hi)))
              go_ret
              exact ⟨by first | rfl | (simp [errW_none, errW_some] <;> rfl) | (simp [*, errW_none, errW_some] <;> rfl), by repeat (first | (with_reducible first | exact HB.out | apply wA | apply wN | apply w1 | refine wS ?_ GE304.out | refine wS ?_ GE305.out | refine wS ?_ GE317.out) | exact HB.out)⟩
            ·rw [if_neg c60] at H
             have c60b0 : decide (x14_4 ≤ 1) = false := decide_eq_false c60
             clear c60
             obtain rfl := Option.some.inj H
             obtain ⟨Ao88, co88, eo88⟩ := Kd.R_slice HO_11.out
             subst eo88
             have hnb89 := NB304_305.out
             have hnc89 := NB305_304.out
             have hnb90 := NB304_317.out
             have hnc90 := NB317_304.out
             have hcz91_0 : wr.cell? ⟨gb304, 0, none⟩ = some (.int .u8 a0_0) := (bC BK304.out 0).trans rfl
             have hcz91_1 : wr.cell? ⟨gb304, 1, none⟩ = some (.int .i64 a0_1) := (bC BK304.out 1).trans rfl
             have hcz91_2 : wr.cell? ⟨gb304, 2, none⟩ = some (.string a0_2) := (bC BK304.out 2).trans rfl
             have hcz91_3 : wr.cell? ⟨gb304, 3, none⟩ = some (.string a0_3) := (bC BK304.out 3).trans rfl
             have hcz91_4 : wr.cell? ⟨gb304, 4, none⟩ = some (.string a0_4) := (bC BK304.out 4).trans rfl
             have hcz91_5 : wr.cell? ⟨gb304, 5, none⟩ = some (.int .u64 a0_5) := (bC BK304.out 5).trans rfl
             have hfz91_0 := bF BK304.out 0
             have hfz91_1 := bF BK304.out 1
             have hfz91_2 := bF BK304.out 2
             have hfz91_3 := bF BK304.out 3
             have hfz91_4 := bF BK304.out 4
             have hfz91_5 := bF BK304.out 5
             go_wp2_with (first | ((with_reducible refine gate_callee (f := 7) rfl ?_); refine goesL_ (some 84) rfl rfl Try.func7 (by kernel_rfl) rfl #[.agg #[.int .u8 a0_0, .int .i64 a0_1, .string a0_2, .string a0_3, .string a0_4, .int .u64 a0_5], .string a2, .string a3, .bool a4] rfl (by (try simp only [mA1, mA2, mA3]); first | done | rfl | (simp only [mA5, mA4]; rfl)) ?_; (with_reducible refine (msg_On.calls k4 a0_0 a0_1 a0_2 a0_3 a0_4 a0_5 a2 a3 a4 t324 t325 _ A57.out).mono ?_); rintro e w92 ⟨rfl, hb⟩; refine ⟨_, rfl, ?_⟩; have n0_ := Aside0.mk (Kd.R_below (by (with_reducible repeat (first | apply Kd.R_alloc | apply Kd.R_drewN | apply Kd.R_drew)); exact HO_11.out) hb); have n1_ := Aside0.mk (bB (g := gb304) (o := .cells #[.int .u8 a0_0, .int .i64 a0_1, .string a0_2, .string a0_3, .string a0_4, .int .u64 a0_5] 25 (0, 0)) (by (with_reducible repeat (first | refine bN ?_ _ | refine bD ?_ | refine bA ?_ _)); exact BK304.out) hb); have n2_ := Aside0.mk (bB (g := gb305) (o := .cells #[.string a1_0, .string a1_1] 31 (0, 0)) (by (with_reducible repeat (first | refine bN ?_ _ | refine bD ?_ | refine bA ?_ _)); exact BK305.out) hb); have n3_ := Aside0.mk (bB (g := gb317) (o := .cells #[.int .u8 t310, .int .i64 t311, .string t312, .string t313, .string t314, .int .u64 t315] 25 (0, 0)) (by (with_reducible repeat (first | refine bN ?_ _ | refine bD ?_ | refine bA ?_ _)); exact BK317.out) hb); have n4_ := Aside0.mk (wT (by repeat (first | (with_reducible first | exact HB.out | apply wA | apply wN | apply w1 | refine wS ?_ GE304.out | refine wS ?_ GE305.out | refine wS ?_ GE317.out) | exact HB.out)) hb); clear HO_11; clear BK304; clear BK305; clear BK317; clear HB; have HO_11 := n0_; have BK304 := n1_; have BK305 := n2_; have BK317 := n3_; have HB := n4_; clear n0_ n1_ n2_ n3_ n4_; (try clear hb); (try clear hb2); (try clear hk); (try clear hi)) | ((with_reducible refine gate_callee (f := 18) rfl ?_); refine goesL_ (some 87) rfl rfl Try.func18 (by kernel_rfl) rfl #[] rfl (by (try simp only [mA1, mA2, mA3]); first | done | rfl | (simp only [mA5, mA4]; rfl)) ?_; (with_reducible refine (catchmentlaw04_live.calls k4  true _ A58.out).mono ?_); rintro e w93 ⟨rfl, hb⟩; refine ⟨_, rfl, ?_⟩; have n0_ := Aside0.mk (Kd.R_below (by (with_reducible repeat (first | apply Kd.R_alloc | apply Kd.R_drewN | apply Kd.R_drew)); exact HO_11.out) hb); have n1_ := Aside0.mk (bB (g := gb304) (o := .cells #[.int .u8 a0_0, .int .i64 a0_1, .string a0_2, .string a0_3, .string a0_4, .int .u64 a0_5] 25 (0, 0)) (by (with_reducible repeat (first | refine bN ?_ _ | refine bD ?_ | refine bA ?_ _)); exact BK304.out) hb); have n2_ := Aside0.mk (bB (g := gb305) (o := .cells #[.string a1_0, .string a1_1] 31 (0, 0)) (by (with_reducible repeat (first | refine bN ?_ _ | refine bD ?_ | refine bA ?_ _)); exact BK305.out) hb); have n3_ := Aside0.mk (bB (g := gb317) (o := .cells #[.int .u8 t310, .int .i64 t311, .string t312, .string t313, .string t314, .int .u64 t315] 25 (0, 0)) (by (with_reducible repeat (first | refine bN ?_ _ | refine bD ?_ | refine bA ?_ _)); exact BK317.out) hb); have n4_ := Aside0.mk (wT (by repeat (first | (with_reducible first | exact HB.out | apply wA | apply wN | apply w1 | refine wS ?_ GE304.out | refine wS ?_ GE305.out | refine wS ?_ GE317.out) | exact HB.out)) hb); clear HO_11; clear BK304; clear BK305; clear BK317; clear HB; have HO_11 := n0_; have BK304 := n1_; have BK305 := n2_; have BK317 := n3_; have HB := n4_; clear n0_ n1_ n2_ n3_ n4_; (try clear hb); (try clear hb2); (try clear hk); (try clear hi)))
             go_ret
             exact ⟨by first | rfl | (simp [errW_none, errW_some] <;> rfl) | (simp [*, errW_none, errW_some] <;> rfl), by repeat (first | (with_reducible first | exact HB.out | apply wA | apply wN | apply w1 | refine wS ?_ GE304.out | refine wS ?_ GE305.out | refine wS ?_ GE317.out) | exact HB.out)⟩
           ·replace c59 := Bool.eq_false_iff.mpr c59
            subst c59
            have H1 : (some false) = some r := by rw [if_neg (show ¬ (false = true) by decide)] at H; exact H
            clear H
            have H := H1
            clear H1
            obtain rfl := Option.some.inj H
            obtain ⟨Ao94, co94, eo94⟩ := Kd.R_slice HO_11.out
            subst eo94
            have hnb95 := NB304_305.out
            have hnc95 := NB305_304.out
            have hnb96 := NB304_317.out
            have hnc96 := NB317_304.out
            have hcz97_0 : wr.cell? ⟨gb304, 0, none⟩ = some (.int .u8 a0_0) := (bC BK304.out 0).trans rfl
            have hcz97_1 : wr.cell? ⟨gb304, 1, none⟩ = some (.int .i64 a0_1) := (bC BK304.out 1).trans rfl
            have hcz97_2 : wr.cell? ⟨gb304, 2, none⟩ = some (.string a0_2) := (bC BK304.out 2).trans rfl
            have hcz97_3 : wr.cell? ⟨gb304, 3, none⟩ = some (.string a0_3) := (bC BK304.out 3).trans rfl
            have hcz97_4 : wr.cell? ⟨gb304, 4, none⟩ = some (.string a0_4) := (bC BK304.out 4).trans rfl
            have hcz97_5 : wr.cell? ⟨gb304, 5, none⟩ = some (.int .u64 a0_5) := (bC BK304.out 5).trans rfl
            have hfz97_0 := bF BK304.out 0
            have hfz97_1 := bF BK304.out 1
            have hfz97_2 := bF BK304.out 2
            have hfz97_3 := bF BK304.out 3
            have hfz97_4 := bF BK304.out 4
            have hfz97_5 := bF BK304.out 5
            go_wp2_with (first | ((with_reducible refine gate_callee (f := 7) rfl ?_); refine goesL_ (some 84) rfl rfl Try.func7 (by kernel_rfl) rfl #[.agg #[.int .u8 a0_0, .int .i64 a0_1, .string a0_2, .string a0_3, .string a0_4, .int .u64 a0_5], .string a2, .string a3, .bool a4] rfl (by (try simp only [mA1, mA2, mA3]); first | done | rfl | (simp only [mA5, mA4]; rfl)) ?_; (with_reducible refine (msg_On.calls k4 a0_0 a0_1 a0_2 a0_3 a0_4 a0_5 a2 a3 a4 t324 t325 _ A57.out).mono ?_); rintro e w98 ⟨rfl, hb⟩; refine ⟨_, rfl, ?_⟩; have n0_ := Aside0.mk (Kd.R_below (by (with_reducible repeat (first | apply Kd.R_alloc | apply Kd.R_drewN | apply Kd.R_drew)); exact HO_11.out) hb); have n1_ := Aside0.mk (bB (g := gb304) (o := .cells #[.int .u8 a0_0, .int .i64 a0_1, .string a0_2, .string a0_3, .string a0_4, .int .u64 a0_5] 25 (0, 0)) (by (with_reducible repeat (first | refine bN ?_ _ | refine bD ?_ | refine bA ?_ _)); exact BK304.out) hb); have n2_ := Aside0.mk (bB (g := gb305) (o := .cells #[.string a1_0, .string a1_1] 31 (0, 0)) (by (with_reducible repeat (first | refine bN ?_ _ | refine bD ?_ | refine bA ?_ _)); exact BK305.out) hb); have n3_ := Aside0.mk (bB (g := gb317) (o := .cells #[.int .u8 t310, .int .i64 t311, .string t312, .string t313, .string t314, .int .u64 t315] 25 (0, 0)) (by (with_reducible repeat (first | refine bN ?_ _ | refine bD ?_ | refine bA ?_ _)); exact BK317.out) hb); have n4_ := Aside0.mk (wT (by repeat (first | (with_reducible first | exact HB.out | apply wA | apply wN | apply w1 | refine wS ?_ GE304.out | refine wS ?_ GE305.out | refine wS ?_ GE317.out) | exact HB.out)) hb); clear HO_11; clear BK304; clear BK305; clear BK317; clear HB; have HO_11 := n0_; have BK304 := n1_; have BK305 := n2_; have BK317 := n3_; have HB := n4_; clear n0_ n1_ n2_ n3_ n4_; (try clear hb); (try clear hb2); (try clear hk); (try clear hi)) | ((with_reducible refine gate_callee (f := 18) rfl ?_); refine goesL_ (some 87) rfl rfl Try.func18 (by kernel_rfl) rfl #[] rfl (by (try simp only [mA1, mA2, mA3]); first | done | rfl | (simp only [mA5, mA4]; rfl)) ?_; (with_reducible refine (catchmentlaw04_live.calls k4  false _ A58.out).mono ?_); rintro e w99 ⟨rfl, hb⟩; refine ⟨_, rfl, ?_⟩; have n0_ := Aside0.mk (Kd.R_below (by (with_reducible repeat (first | apply Kd.R_alloc | apply Kd.R_drewN | apply Kd.R_drew)); exact HO_11.out) hb); have n1_ := Aside0.mk (bB (g := gb304) (o := .cells #[.int .u8 a0_0, .int .i64 a0_1, .string a0_2, .string a0_3, .string a0_4, .int .u64 a0_5] 25 (0, 0)) (by (with_reducible repeat (first | refine bN ?_ _ | refine bD ?_ | refine bA ?_ _)); exact BK304.out) hb); have n2_ := Aside0.mk (bB (g := gb305) (o := .cells #[.string a1_0, .string a1_1] 31 (0, 0)) (by (with_reducible repeat (first | refine bN ?_ _ | refine bD ?_ | refine bA ?_ _)); exact BK305.out) hb); have n3_ := Aside0.mk (bB (g := gb317) (o := .cells #[.int .u8 t310, .int .i64 t311, .string t312, .string t313, .string t314, .int .u64 t315] 25 (0, 0)) (by (with_reducible repeat (first | refine bN ?_ _ | refine bD ?_ | refine bA ?_ _)); exact BK317.out) hb); have n4_ := Aside0.mk (wT (by repeat (first | (with_reducible first | exact HB.out | apply wA | apply wN | apply w1 | refine wS ?_ GE304.out | refine wS ?_ GE305.out | refine wS ?_ GE317.out) | exact HB.out)) hb); clear HO_11; clear BK304; clear BK305; clear BK317; clear HB; have HO_11 := n0_; have BK304 := n1_; have BK305 := n2_; have BK317 := n3_; have HB := n4_; clear n0_ n1_ n2_ n3_ n4_; (try clear hb); (try clear hb2); (try clear hk); (try clear hi)))
            go_ret
            exact ⟨by first | rfl | (simp [errW_none, errW_some] <;> rfl) | (simp [*, errW_none, errW_some] <;> rfl), by repeat (first | (with_reducible first | exact HB.out | apply wA | apply wN | apply w1 | refine wS ?_ GE304.out | refine wS ?_ GE305.out | refine wS ?_ GE317.out) | exact HB.out)⟩

end Go.Proofs.Ytgbikacioojpjaa.P
