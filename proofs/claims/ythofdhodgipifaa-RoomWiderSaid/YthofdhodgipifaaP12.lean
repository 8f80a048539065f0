-- Laid for this claim by a program of this seat's own (wip/tools/pp.py) out of the translation's print. Lean checks it.
import Derived.Test.YthofdhodgipifaaP0
import Derived.Test.YthofdhodgipifaaP5
import Derived.Test.YthofdhodgipifaaP6
namespace Go.Proofs.Ythofdhodgipifaa.P
open Go.RowKit Go.Proofs.YthofdhodgipifaaW.PrintWords Go.Proofs.YthofdhodgipifaaW.PrintLast Go.Proofs.YthofdhodgipifaaW.PrintMore Go.Proofs.Ythofdhodgipifaa.Own
open Go.Proofs.YthofdhodgipifaaW.PrintWords renaming blk_cell → bC, blk_frozen → bF, blk_drewN → bN, blk_alloc → bA, pw_below_drewN → wN, blk_drew → bD, below_drew1 → w1, below_set → wS, below_alloc → wA, blk_below → bB, below_step → wT, below_size → wZ, cell_far → cF, blk_far → bR, blk_put → bP
open List renaming setIfInBounds_toArray → sA1, set_cons_zero → sA2, set_cons_succ → sA3, map_toArray → mA1, map_cons → mA2, map_nil → mA3, length_take → mA4, length_drop → mA5
attribute [local go_sem] max2_str max2_int min2_int max_two min_two max_three min_three max_four min_four   -- for this text's walks alone
set_option linter.unusedVariables false
set_option linter.unusedSimpArgs false

/-! ### catchmentlaw21_RoomWider: function 4 -/
def catchmentlaw21_RoomWider.j0 : Nat → Int → Int → Int → Bool → Int → Int → Int → Int → Int → Int → Int → Int → Int → Int → ByteArray → ByteArray → Int → List (S47) → Option (Bool)
 | 0, _, _, _, _, _, _, _, _, _, _, _, _, _, _, _, _, _, _ => none
 | k + 1, x2, x3, x4, x24, x205000, x205001, x205002, x205003, x205004, x205005, x205006, x205007, x205008, x206000, x206001, x206002, x206003, x206004 => if x24 = true then ((catchmentlaw21_live.f k).bind fun t206 => (some t206)) else ((catchmentlaw21_live.f k).bind fun t208 => (if t208 = true then ((room_Ask.f k x206000 x206001 x206002 x206003 x206004 x205000 x205001 x205002 x205003 x205004 x205005 x205006 x205007 x205008).bind fun t209 => (if t209 = 0 then ((room_Ask.f k x206000 x206001 x206002 x206003 x206004 (wrap64 (x205000 + (wrap64 (x2)))) (wrap64 (x205001 + (wrap64 (x3)))) x205002 x205003 x205004 x205005 x205006 x205007 (wrap64 (x205008 + (wrap64 (x4))))).bind fun t210 => (some (t210 == 0))) else (some true))) else (some false)))
def catchmentlaw21_RoomWider.f (k : Nat) (a0_0 : Int) (a0_1 : Int) (a0_2 : Int) (a0_3 : Int) (a0_4 : Int) (a0_5 : Int) (a0_6 : Int) (a0_7 : Int) (a0_8 : Int) (a1_0 : Int) (a1_1 : BA) (a1_2 : BA) (a1_3 : Int) (l1_4 : List (S47)) (a2 : Int) (a3 : Int) (a4 : Int) : Option (Bool) := if a0_0 > 256 then (catchmentlaw21_RoomWider.j0 k a2 a3 a4 true a0_0 a0_1 a0_2 a0_3 a0_4 a0_5 a0_6 a0_7 a0_8 a1_0 a1_1 a1_2 a1_3 l1_4) else (if a0_1 > 4096 then (catchmentlaw21_RoomWider.j0 k a2 a3 a4 true a0_0 a0_1 a0_2 a0_3 a0_4 a0_5 a0_6 a0_7 a0_8 a1_0 a1_1 a1_2 a1_3 l1_4) else (catchmentlaw21_RoomWider.j0 k a2 a3 a4 (decide (a0_8 > 1024)) a0_0 a0_1 a0_2 a0_3 a0_4 a0_5 a0_6 a0_7 a0_8 a1_0 a1_1 a1_2 a1_3 l1_4))
def catchmentlaw21_RoomWider.T4 : Bool × List (List Nat × List Nat) := (true, [([], []), ([0], [0]), ([], []), ([2], [2]), ([1, 3], [1, 3]), ([], []), ([5], [5]), ([], []), ([7], [7]), ([6, 8], [6, 8]), ([], []), ([10], [10]), ([], []), ([12], [12]), ([11, 13], [11, 13]), ([0, 1, 2, 3, 4], []), ([15, 4, 0, 1, 2, 3, 4], [4, 15]), ([0, 1, 2, 3, 4, 5, 6, 7, 8, 9, 15, 16], []), ([17, 9, 16, 0, 1, 2, 3, 4, 5, 6, 7, 8, 9, 15, 16], [9, 17]), ([0, 1, 2, 3, 4, 5, 6, 7, 8, 9, 10, 11, 12, 13, 14, 15, 16, 17, 18], []), ([19, 14, 18, 0, 1, 2, 3, 4, 5, 6, 7, 8, 9, 10, 11, 12, 13, 14, 15, 16, 17, 18], [14, 19])])
def catchmentlaw21_RoomWider.B4 : List Nat := [0, 1, 0, 4, 15, 0, 32, 0, 128, 480, 0, 1024, 0, 4096, 15360, 31, 32799, 99327, 230399, 524287, 1048575]
theorem catchmentlaw21_RoomWider.tab4 : rtab .any (opsOf Try.f4 4) = catchmentlaw21_RoomWider.T4 := by kernel_rfl
theorem catchmentlaw21_RoomWider.bits4 : waitsOk catchmentlaw21_RoomWider.T4.2 catchmentlaw21_RoomWider.B4 = true := by kernel_rfl
set_option maxHeartbeats 8000000 in
set_option maxRecDepth 100000 in
theorem catchmentlaw21_RoomWider.calls (k : Nat) (a0_0 : Int) (a0_1 : Int) (a0_2 : Int) (a0_3 : Int) (a0_4 : Int) (a0_5 : Int) (a0_6 : Int) (a0_7 : Int) (a0_8 : Int) (a1_0 : Int) (a1_1 : BA) (a1_2 : BA) (a1_3 : Int) (A1_4 : Option Addr) (c1_4 : Nat) (l1_4 : List (S47)) (a2 : Int) (a3 : Int) (a4 : Int) (r : Bool) (w : World) (hr1_4 : Kd.C k47 w A1_4 l1_4.length l1_4) (hc1_4 : l1_4.length ≤ c1_4) (h : catchmentlaw21_RoomWider.f k a0_0 a0_1 a0_2 a0_3 a0_4 a0_5 a0_6 a0_7 a0_8 a1_0 a1_1 a1_2 a1_3 l1_4 a2 a3 a4 = some r) :
  Calls Try.prog 4 #[.agg #[.int .i64 a0_0, .int .i64 a0_1, .int .i64 a0_2, .int .i64 a0_3, .int .i64 a0_4, .int .i64 a0_5, .int .i64 a0_6, .int .i64 a0_7, .int .i64 a0_8], .agg #[.int .u8 a1_0, .string a1_1, .string a1_2, .int .i64 a1_3, .slice A1_4 l1_4.length c1_4], .int .u8 a2, .int .u8 a3, .int .u8 a4] w fun e w' => e = .returned (.bool r) ∧ Below w.heap.size w w' := by
 have hu23 := Try.underlying23
 have hu27 := Try.underlying27
 have HR1_4 := Aside0.mk hr1_4
 have HC1_4 := Aside0.mk hc1_4
 clear hr1_4 hc1_4
 have HB := Aside0.mk (Below.refl w.heap.size w)
 have H : (if a0_0 > 256 then (catchmentlaw21_RoomWider.j0 k a2 a3 a4 true a0_0 a0_1 a0_2 a0_3 a0_4 a0_5 a0_6 a0_7 a0_8 a1_0 a1_1 a1_2 a1_3 l1_4) else (if a0_1 > 4096 then (catchmentlaw21_RoomWider.j0 k a2 a3 a4 true a0_0 a0_1 a0_2 a0_3 a0_4 a0_5 a0_6 a0_7 a0_8 a1_0 a1_1 a1_2 a1_3 l1_4) else (catchmentlaw21_RoomWider.j0 k a2 a3 a4 (decide (a0_8 > 1024)) a0_0 a0_1 a0_2 a0_3 a0_4 a0_5 a0_6 a0_7 a0_8 a1_0 a1_1 a1_2 a1_3 l1_4))) = some r := h
 clear h
 have HC6 := Aside0.mk H
 clear H
 go_enter Try.func4, Try.ntmps4
 go_upto_region 1 with (first | ((with_reducible refine gate_dst (N := 5) rfl ?_); refine box_event ?hg (N := 5) ?hd (cs := #[.int .i64 a0_0, .int .i64 a0_1, .int .i64 a0_2, .int .i64 a0_3, .int .i64 a0_4, .int .i64 a0_5, .int .i64 a0_6, .int .i64 a0_7, .int .i64 a0_8]) (t := 23) ?hr ?_; (case hd => rfl); (case hg => rfl); (case hr => first | (go_simp; done) | (go_simp; rfl)); intro gb204 hg w7 hbox hb; have n0_ := Aside0.mk (wT (by repeat (first | (with_reducible first | exact HB.out | apply wA | apply wN | apply w1) | exact HB.out)) hb); have n1_ := Aside0.mk (hbox); have n2_ := Aside0.mk ((by rw [hg]; exact (wZ (by repeat (first | (with_reducible first | exact HB.out | apply wA | apply wN | apply w1) | exact HB.out))) : w.heap.size ≤ gb204)); have n3_ := Aside0.mk ((by rw [hg]; exact (wZ (by repeat (first | (with_reducible first | exact HB.out | apply wA | apply wN | apply w1) | exact HB.out))) : w.heap.size ≤ gb204)); clear HB; have HB := n0_; have BK204 := n1_; have GW204 := n2_; have GE204 := n3_; clear n0_ n1_ n2_ n3_; clear hb hbox hg) | ((with_reducible refine gate_dst (N := 6) rfl ?_); refine box_event ?hg (N := 6) ?hd (cs := #[.int .u8 a1_0, .string a1_1, .string a1_2, .int .i64 a1_3, .slice A1_4 l1_4.length c1_4]) (t := 27) ?hr ?_; (case hd => rfl); (case hg => rfl); (case hr => first | (go_simp; done) | (go_simp; rfl)); intro gb205 hg w8 hbox hb; have n0_ := Aside0.mk (bB (g := gb204) (o := .cells #[.int .i64 a0_0, .int .i64 a0_1, .int .i64 a0_2, .int .i64 a0_3, .int .i64 a0_4, .int .i64 a0_5, .int .i64 a0_6, .int .i64 a0_7, .int .i64 a0_8] 23 (0, 0)) (by (with_reducible repeat (first | refine bN ?_ _ | refine bD ?_ | refine bA ?_ _)); exact BK204.out) hb); have n1_ := Aside0.mk (wT (by repeat (first | (with_reducible first | exact HB.out | apply wA | apply wN | apply w1 | refine wS ?_ GE204.out) | exact HB.out)) hb); have n2_ := Aside0.mk (hbox); have n3_ := Aside0.mk ((by rw [hg]; exact (wZ (by repeat (first | (with_reducible first | exact HB.out | apply wA | apply wN | apply w1 | refine wS ?_ GE204.out) | exact HB.out))) : w.heap.size ≤ gb205)); have n4_ := Aside0.mk ((by rw [hg]; exact (wZ (by repeat (first | (with_reducible first | exact HB.out | apply wA | apply wN | apply w1 | refine wS ?_ GE204.out) | exact HB.out))) : w.heap.size ≤ gb205)); have n5_ := Aside0.mk ((by rw [hg]; exact Nat.ne_of_lt (blk_lt (g := gb204) (o := .cells #[.int .i64 a0_0, .int .i64 a0_1, .int .i64 a0_2, .int .i64 a0_3, .int .i64 a0_4, .int .i64 a0_5, .int .i64 a0_6, .int .i64 a0_7, .int .i64 a0_8] 23 (0, 0)) (by (with_reducible repeat (first | refine bN ?_ _ | refine bD ?_ | refine bA ?_ _)); exact BK204.out)) : gb204 ≠ gb205)); have n6_ := Aside0.mk ((by rw [hg]; exact Nat.ne_of_gt (blk_lt (g := gb204) (o := .cells #[.int .i64 a0_0, .int .i64 a0_1, .int .i64 a0_2, .int .i64 a0_3, .int .i64 a0_4, .int .i64 a0_5, .int .i64 a0_6, .int .i64 a0_7, .int .i64 a0_8] 23 (0, 0)) (by (with_reducible repeat (first | refine bN ?_ _ | refine bD ?_ | refine bA ?_ _)); exact BK204.out)) : gb205 ≠ gb204)); clear BK204; clear HB; have BK204 := n0_; have HB := n1_; have BK205 := n2_; have GW205 := n3_; have GE205 := n4_; have NB204_205 := n5_; have NB205_204 := n6_; clear n0_ n1_ n2_ n3_ n4_ n5_ n6_; clear hb hbox hg))
 (try simp only [Act.put, sA1, sA2, sA3])
 go_cut [24] (fun v24 wc => ∃ (kq : Nat) (x24_5 : Bool), v24 = .bool x24_5 ∧ Aside0 (catchmentlaw21_RoomWider.j0 kq a2 a3 a4 x24_5 a0_0 a0_1 a0_2 a0_3 a0_4 a0_5 a0_6 a0_7 a0_8 a1_0 a1_1 a1_2 a1_3 l1_4 = some r) ∧ Aside0 (kq ≤ k) ∧ Aside0 (wc.heap[gb204]? = some (.cells #[.int .i64 a0_0, .int .i64 a0_1, .int .i64 a0_2, .int .i64 a0_3, .int .i64 a0_4, .int .i64 a0_5, .int .i64 a0_6, .int .i64 a0_7, .int .i64 a0_8] 23 (0, 0))) ∧ Aside0 (wc.heap[gb205]? = some (.cells #[.int .u8 a1_0, .string a1_1, .string a1_2, .int .i64 a1_3, (.slice A1_4 l1_4.length c1_4)] 27 (0, 0))) ∧ Aside0 (Below w.heap.size w wc))
 case first =>
  have H := HC6.out
  clear HC6
  by_cases c9 : a0_0 > 256
  ·rw [if_pos c9] at H
   have c9b0 : decide (256 < a0_0) = true := decide_eq_true c9
   clear c9
   (first | rw [c9b0] | (simp only [i64_w, i32_w]; rw [c9b0]) | skip)
   have H' := Aside0.mk H
   clear H
   have hnb10 := NB204_205.out
   have hnc10 := NB205_204.out
   have hcz11_0 : w8.cell? ⟨gb204, 0, none⟩ = some (.int .i64 a0_0) := (bC BK204.out 0).trans rfl
   have hcz11_1 : w8.cell? ⟨gb204, 1, none⟩ = some (.int .i64 a0_1) := (bC BK204.out 1).trans rfl
   have hcz11_2 : w8.cell? ⟨gb204, 2, none⟩ = some (.int .i64 a0_2) := (bC BK204.out 2).trans rfl
   have hcz11_3 : w8.cell? ⟨gb204, 3, none⟩ = some (.int .i64 a0_3) := (bC BK204.out 3).trans rfl
   have hcz11_4 : w8.cell? ⟨gb204, 4, none⟩ = some (.int .i64 a0_4) := (bC BK204.out 4).trans rfl
   have hcz11_5 : w8.cell? ⟨gb204, 5, none⟩ = some (.int .i64 a0_5) := (bC BK204.out 5).trans rfl
   have hcz11_6 : w8.cell? ⟨gb204, 6, none⟩ = some (.int .i64 a0_6) := (bC BK204.out 6).trans rfl
   have hcz11_7 : w8.cell? ⟨gb204, 7, none⟩ = some (.int .i64 a0_7) := (bC BK204.out 7).trans rfl
   have hcz11_8 : w8.cell? ⟨gb204, 8, none⟩ = some (.int .i64 a0_8) := (bC BK204.out 8).trans rfl
   have hfz11_0 := bF BK204.out 0
   have hfz11_1 := bF BK204.out 1
   have hfz11_2 := bF BK204.out 2
   have hfz11_3 := bF BK204.out 3
   have hfz11_4 := bF BK204.out 4
   have hfz11_5 := bF BK204.out 5
   have hfz11_6 := bF BK204.out 6
   have hfz11_7 := bF BK204.out 7
   have hfz11_8 := bF BK204.out 8
   go_wp2
   go_meet
   case rel => exact ⟨_, (true), (by first | rfl | (simp; done) | (simp [*]; done)), H', ⟨by first | omega | exact Nat.le_refl _⟩, ⟨by (with_reducible repeat (first | refine bN ?_ _ | refine bD ?_ | refine bA ?_ _)); exact BK204.out⟩, ⟨by (with_reducible repeat (first | refine bN ?_ _ | refine bD ?_ | refine bA ?_ _)); exact BK205.out⟩, ⟨by repeat (first | (with_reducible first | exact HB.out | apply wA | apply wN | apply w1 | refine wS ?_ GE204.out | refine wS ?_ GE205.out) | exact HB.out)⟩⟩
  ·rw [if_neg c9] at H
   have c9b0 : decide (256 < a0_0) = false := decide_eq_false c9
   clear c9
   (first | rw [c9b0] | (simp only [i64_w, i32_w]; rw [c9b0]) | skip)
   by_cases c12 : a0_1 > 4096
   ·rw [if_pos c12] at H
    have c12b0 : decide (4096 < a0_1) = true := decide_eq_true c12
    clear c12
    have H' := Aside0.mk H
    clear H
    have hnb13 := NB204_205.out
    have hnc13 := NB205_204.out
    have hcz14_0 : w8.cell? ⟨gb204, 0, none⟩ = some (.int .i64 a0_0) := (bC BK204.out 0).trans rfl
    have hcz14_1 : w8.cell? ⟨gb204, 1, none⟩ = some (.int .i64 a0_1) := (bC BK204.out 1).trans rfl
    have hcz14_2 : w8.cell? ⟨gb204, 2, none⟩ = some (.int .i64 a0_2) := (bC BK204.out 2).trans rfl
    have hcz14_3 : w8.cell? ⟨gb204, 3, none⟩ = some (.int .i64 a0_3) := (bC BK204.out 3).trans rfl
    have hcz14_4 : w8.cell? ⟨gb204, 4, none⟩ = some (.int .i64 a0_4) := (bC BK204.out 4).trans rfl
    have hcz14_5 : w8.cell? ⟨gb204, 5, none⟩ = some (.int .i64 a0_5) := (bC BK204.out 5).trans rfl
    have hcz14_6 : w8.cell? ⟨gb204, 6, none⟩ = some (.int .i64 a0_6) := (bC BK204.out 6).trans rfl
    have hcz14_7 : w8.cell? ⟨gb204, 7, none⟩ = some (.int .i64 a0_7) := (bC BK204.out 7).trans rfl
    have hcz14_8 : w8.cell? ⟨gb204, 8, none⟩ = some (.int .i64 a0_8) := (bC BK204.out 8).trans rfl
    have hfz14_0 := bF BK204.out 0
    have hfz14_1 := bF BK204.out 1
    have hfz14_2 := bF BK204.out 2
    have hfz14_3 := bF BK204.out 3
    have hfz14_4 := bF BK204.out 4
    have hfz14_5 := bF BK204.out 5
    have hfz14_6 := bF BK204.out 6
    have hfz14_7 := bF BK204.out 7
    have hfz14_8 := bF BK204.out 8
    go_wp2
    go_meet
    case rel => exact ⟨_, (true), (by first | rfl | (simp; done) | (simp [*]; done)), H', ⟨by first | omega | exact Nat.le_refl _⟩, ⟨by (with_reducible repeat (first | refine bN ?_ _ | refine bD ?_ | refine bA ?_ _)); exact BK204.out⟩, ⟨by (with_reducible repeat (first | refine bN ?_ _ | refine bD ?_ | refine bA ?_ _)); exact BK205.out⟩, ⟨by repeat (first | (with_reducible first | exact HB.out | apply wA | apply wN | apply w1 | refine wS ?_ GE204.out | refine wS ?_ GE205.out) | exact HB.out)⟩⟩
   ·rw [if_neg c12] at H
    have c12b0 : decide (4096 < a0_1) = false := decide_eq_false c12
    clear c12
    have H' := Aside0.mk H
    clear H
    have hnb15 := NB204_205.out
    have hnc15 := NB205_204.out
    have hcz16_0 : w8.cell? ⟨gb204, 0, none⟩ = some (.int .i64 a0_0) := (bC BK204.out 0).trans rfl
    have hcz16_1 : w8.cell? ⟨gb204, 1, none⟩ = some (.int .i64 a0_1) := (bC BK204.out 1).trans rfl
    have hcz16_2 : w8.cell? ⟨gb204, 2, none⟩ = some (.int .i64 a0_2) := (bC BK204.out 2).trans rfl
    have hcz16_3 : w8.cell? ⟨gb204, 3, none⟩ = some (.int .i64 a0_3) := (bC BK204.out 3).trans rfl
    have hcz16_4 : w8.cell? ⟨gb204, 4, none⟩ = some (.int .i64 a0_4) := (bC BK204.out 4).trans rfl
    have hcz16_5 : w8.cell? ⟨gb204, 5, none⟩ = some (.int .i64 a0_5) := (bC BK204.out 5).trans rfl
    have hcz16_6 : w8.cell? ⟨gb204, 6, none⟩ = some (.int .i64 a0_6) := (bC BK204.out 6).trans rfl
    have hcz16_7 : w8.cell? ⟨gb204, 7, none⟩ = some (.int .i64 a0_7) := (bC BK204.out 7).trans rfl
    have hcz16_8 : w8.cell? ⟨gb204, 8, none⟩ = some (.int .i64 a0_8) := (bC BK204.out 8).trans rfl
    have hfz16_0 := bF BK204.out 0
    have hfz16_1 := bF BK204.out 1
    have hfz16_2 := bF BK204.out 2
    have hfz16_3 := bF BK204.out 3
    have hfz16_4 := bF BK204.out 4
    have hfz16_5 := bF BK204.out 5
    have hfz16_6 := bF BK204.out 6
    have hfz16_7 := bF BK204.out 7
    have hfz16_8 := bF BK204.out 8
    go_wp2
    go_meet
    case rel => exact ⟨_, (decide (a0_8 > 1024)), (by first | rfl | (simp; done) | (simp [*]; done)), H', ⟨by first | omega | exact Nat.le_refl _⟩, ⟨by (with_reducible repeat (first | refine bN ?_ _ | refine bD ?_ | refine bA ?_ _)); exact BK204.out⟩, ⟨by (with_reducible repeat (first | refine bN ?_ _ | refine bD ?_ | refine bA ?_ _)); exact BK205.out⟩, ⟨by repeat (first | (with_reducible first | exact HB.out | apply wA | apply wN | apply w1 | refine wS ?_ GE204.out | refine wS ?_ GE205.out) | exact HB.out)⟩⟩
 case rest =>
  clear HC6
  try clear c1
  try clear p2
  try clear c4
  try clear c9
  try clear c9b0
  try clear c10
  try clear c12
  try clear c12b0
  try clear c13
  try clear c15
  try clear hcz11_0
  try clear hcz11_1
  try clear hcz11_2
  try clear hcz11_3
  try clear hcz11_4
  try clear hcz11_5
  try clear hcz11_6
  try clear hcz11_7
  try clear hcz11_8
  try clear hcz14_0
  try clear hcz14_1
  try clear hcz14_2
  try clear hcz14_3
  try clear hcz14_4
  try clear hcz14_5
  try clear hcz14_6
  try clear hcz14_7
  try clear hcz14_8
  try clear hcz16_0
  try clear hcz16_1
  try clear hcz16_2
  try clear hcz16_3
  try clear hcz16_4
  try clear hcz16_5
  try clear hcz16_6
  try clear hcz16_7
  try clear hcz16_8
  try clear hfz11_0
  try clear hfz11_1
  try clear hfz11_2
  try clear hfz11_3
  try clear hfz11_4
  try clear hfz11_5
  try clear hfz11_6
  try clear hfz11_7
  try clear hfz11_8
  try clear hfz14_0
  try clear hfz14_1
  try clear hfz14_2
  try clear hfz14_3
  try clear hfz14_4
  try clear hfz14_5
  try clear hfz14_6
  try clear hfz14_7
  try clear hfz14_8
  try clear hfz16_0
  try clear hfz16_1
  try clear hfz16_2
  try clear hfz16_3
  try clear hfz16_4
  try clear hfz16_5
  try clear hfz16_6
  try clear hfz16_7
  try clear hfz16_8
  obtain ⟨kq, x24_5, rfl, HA, HJ5, BK204, BK205, HB⟩ := hcut
  cases kq with
  | zero => exact absurd HA.out (by simp [catchmentlaw21_RoomWider.j0])
  | succ kj5 =>
   have H := HA.out
   clear HA
   simp only [catchmentlaw21_RoomWider.j0] at H
   by_cases c17 : x24_5 = true
   ·subst c17
    have H1 : ((catchmentlaw21_live.f kj5).bind fun t206 => (some t206)) = some r := by rw [if_pos rfl] at H; exact H
    clear H
    have H := H1
    clear H1
    replace H := Option.bind_eq_some_iff.mp H
    obtain ⟨t206, A180, H⟩ := H
    replace H : (some t206) = some r := H
    have A18 := Aside0.mk A180
    clear A180
    obtain rfl := Option.some.inj H
    go_wp2_with (first | ((with_reducible refine gate_callee (f := 6) rfl ?_); refine goesL_ (some 25) rfl rfl Try.func6 (by kernel_rfl) rfl #[] rfl (by (try simp only [mA1, mA2, mA3]); first | done | rfl | (simp only [mA5, mA4]; rfl)) ?_; (with_reducible refine (catchmentlaw21_live.calls kj5  t206 _ A18.out).mono ?_); rintro e w19 ⟨rfl, hb⟩; refine ⟨_, rfl, ?_⟩; have n0_ := Aside0.mk (bB (g := gb204) (o := .cells #[.int .i64 a0_0, .int .i64 a0_1, .int .i64 a0_2, .int .i64 a0_3, .int .i64 a0_4, .int .i64 a0_5, .int .i64 a0_6, .int .i64 a0_7, .int .i64 a0_8] 23 (0, 0)) (by (with_reducible repeat (first | refine bN ?_ _ | refine bD ?_ | refine bA ?_ _)); exact BK204.out) hb); have n1_ := Aside0.mk (bB (g := gb205) (o := .cells #[.int .u8 a1_0, .string a1_1, .string a1_2, .int .i64 a1_3, .slice A1_4 l1_4.length c1_4] 27 (0, 0)) (by (with_reducible repeat (first | refine bN ?_ _ | refine bD ?_ | refine bA ?_ _)); exact BK205.out) hb); have n2_ := Aside0.mk (wT (by repeat (first | (with_reducible first | exact HB.out | apply wA | apply wN | apply w1 | refine wS ?_ GE204.out | refine wS ?_ GE205.out) | exact HB.out)) hb); clear BK204; clear BK205; clear HB; have BK204 := n0_; have BK205 := n1_; have HB := n2_; clear n0_ n1_ n2_; (try clear hb); (try clear hb2); (try clear hk); (try clear hi)))
    go_ret
    exact ⟨by first | rfl | (simp [errW_none, errW_some] <;> rfl) | (simp [*, errW_none, errW_some] <;> rfl), by repeat (first | (with_reducible first | exact HB.out | apply wA | apply wN | apply w1 | refine wS ?_ GE204.out | refine wS ?_ GE205.out) | exact HB.out)⟩
   ·replace c17 := Bool.eq_false_iff.mpr c17
    subst c17
    have H1 : ((catchmentlaw21_live.f kj5).bind fun t208 => (if t208 = true then ((room_Ask.f kj5 a1_0 a1_1 a1_2 a1_3 l1_4 a0_0 a0_1 a0_2 a0_3 a0_4 a0_5 a0_6 a0_7 a0_8).bind fun t209 => (if t209 = 0 then ((room_Ask.f kj5 a1_0 a1_1 a1_2 a1_3 l1_4 (wrap64 (a0_0 + (wrap64 (a2)))) (wrap64 (a0_1 + (wrap64 (a3)))) a0_2 a0_3 a0_4 a0_5 a0_6 a0_7 (wrap64 (a0_8 + (wrap64 (a4))))).bind fun t210 => (some (t210 == 0))) else (some true))) else (some false))) = some r := by rw [if_neg (show ¬ (false = true) by decide)] at H; exact H
    clear H
    have H := H1
    clear H1
    replace H := Option.bind_eq_some_iff.mp H
    obtain ⟨t208, A200, H⟩ := H
    replace H : (if t208 = true then ((room_Ask.f kj5 a1_0 a1_1 a1_2 a1_3 l1_4 a0_0 a0_1 a0_2 a0_3 a0_4 a0_5 a0_6 a0_7 a0_8).bind fun t209 => (if t209 = 0 then ((room_Ask.f kj5 a1_0 a1_1 a1_2 a1_3 l1_4 (wrap64 (a0_0 + (wrap64 (a2)))) (wrap64 (a0_1 + (wrap64 (a3)))) a0_2 a0_3 a0_4 a0_5 a0_6 a0_7 (wrap64 (a0_8 + (wrap64 (a4))))).bind fun t210 => (some (t210 == 0))) else (some true))) else (some false)) = some r := H
    have A20 := Aside0.mk A200
    clear A200
    by_cases c21 : t208 = true
    ·subst c21
     have H1 : ((room_Ask.f kj5 a1_0 a1_1 a1_2 a1_3 l1_4 a0_0 a0_1 a0_2 a0_3 a0_4 a0_5 a0_6 a0_7 a0_8).bind fun t209 => (if t209 = 0 then ((room_Ask.f kj5 a1_0 a1_1 a1_2 a1_3 l1_4 (wrap64 (a0_0 + (wrap64 (a2)))) (wrap64 (a0_1 + (wrap64 (a3)))) a0_2 a0_3 a0_4 a0_5 a0_6 a0_7 (wrap64 (a0_8 + (wrap64 (a4))))).bind fun t210 => (some (t210 == 0))) else (some true))) = some r := by rw [if_pos rfl] at H; exact H
     clear H
     have H := H1
     clear H1
     replace H := Option.bind_eq_some_iff.mp H
     obtain ⟨t209, A220, H⟩ := H
     replace H : (if t209 = 0 then ((room_Ask.f kj5 a1_0 a1_1 a1_2 a1_3 l1_4 (wrap64 (a0_0 + (wrap64 (a2)))) (wrap64 (a0_1 + (wrap64 (a3)))) a0_2 a0_3 a0_4 a0_5 a0_6 a0_7 (wrap64 (a0_8 + (wrap64 (a4))))).bind fun t210 => (some (t210 == 0))) else (some true)) = some r := H
     have A22 := Aside0.mk A220
     clear A220
     by_cases c23 : t209 = 0
     ·rw [if_pos c23] at H
      have c23b0 : (t209 == 0) = true := beq_iff_eq.mpr c23
      have c23b1 : (t209 != 0) = false := bne_eq_false_iff_eq.mpr c23
      clear c23
      replace H := Option.bind_eq_some_iff.mp H
      obtain ⟨t210, A240, H⟩ := H
      replace H : (some (t210 == 0)) = some r := H
      have A24 := Aside0.mk A240
      clear A240
      obtain rfl := Option.some.inj H
      have hnb25 := NB204_205.out
      have hnc25 := NB205_204.out
      have hcz26_0 : wc.cell? ⟨gb204, 0, none⟩ = some (.int .i64 a0_0) := (bC BK204.out 0).trans rfl
      have hcz26_1 : wc.cell? ⟨gb204, 1, none⟩ = some (.int .i64 a0_1) := (bC BK204.out 1).trans rfl
      have hcz26_2 : wc.cell? ⟨gb204, 2, none⟩ = some (.int .i64 a0_2) := (bC BK204.out 2).trans rfl
      have hcz26_3 : wc.cell? ⟨gb204, 3, none⟩ = some (.int .i64 a0_3) := (bC BK204.out 3).trans rfl
      have hcz26_4 : wc.cell? ⟨gb204, 4, none⟩ = some (.int .i64 a0_4) := (bC BK204.out 4).trans rfl
      have hcz26_5 : wc.cell? ⟨gb204, 5, none⟩ = some (.int .i64 a0_5) := (bC BK204.out 5).trans rfl
      have hcz26_6 : wc.cell? ⟨gb204, 6, none⟩ = some (.int .i64 a0_6) := (bC BK204.out 6).trans rfl
      have hcz26_7 : wc.cell? ⟨gb204, 7, none⟩ = some (.int .i64 a0_7) := (bC BK204.out 7).trans rfl
      have hcz26_8 : wc.cell? ⟨gb204, 8, none⟩ = some (.int .i64 a0_8) := (bC BK204.out 8).trans rfl
      have hfz26_0 := bF BK204.out 0
      have hfz26_1 := bF BK204.out 1
      have hfz26_2 := bF BK204.out 2
      have hfz26_3 := bF BK204.out 3
      have hfz26_4 := bF BK204.out 4
      have hfz26_5 := bF BK204.out 5
      have hfz26_6 := bF BK204.out 6
      have hfz26_7 := bF BK204.out 7
      have hfz26_8 := bF BK204.out 8
      try go_wp2_with (first | ((with_reducible refine gate_dst (N := 11) rfl ?_); refine box_event ?hg (N := 11) ?hd (cs := #[.int .i64 0, .int .i64 0, .int .i64 0, .int .i64 0, .int .i64 0, .int .i64 0, .int .i64 0, .int .i64 0, .int .i64 0]) (t := 23) ?hr ?_; (case hd => rfl); (case hg => rfl); (case hr => first | (go_simp; done) | (go_simp; rfl)); intro gb207 hg w27 hbox hb; have n0_ := Aside0.mk (bB (g := gb204) (o := .cells #[.int .i64 a0_0, .int .i64 a0_1, .int .i64 a0_2, .int .i64 a0_3, .int .i64 a0_4, .int .i64 a0_5, .int .i64 a0_6, .int .i64 a0_7, .int .i64 a0_8] 23 (0, 0)) (by (with_reducible repeat (first | refine bN ?_ _ | refine bD ?_ | refine bA ?_ _)); exact BK204.out) hb); have n1_ := Aside0.mk (bB (g := gb205) (o := .cells #[.int .u8 a1_0, .string a1_1, .string a1_2, .int .i64 a1_3, .slice A1_4 l1_4.length c1_4] 27 (0, 0)) (by (with_reducible repeat (first | refine bN ?_ _ | refine bD ?_ | refine bA ?_ _)); exact BK205.out) hb); have n2_ := Aside0.mk (wT (by repeat (first | (with_reducible first | exact HB.out | apply wA | apply wN | apply w1 | refine wS ?_ GE204.out | refine wS ?_ GE205.out) | exact HB.out)) hb); have n3_ := Aside0.mk (hbox); have n4_ := Aside0.mk ((by rw [hg]; exact (wZ (by repeat (first | (with_reducible first | exact HB.out | apply wA | apply wN | apply w1 | refine wS ?_ GE204.out | refine wS ?_ GE205.out) | exact HB.out))) : w.heap.size ≤ gb207)); have n5_ := Aside0.mk ((by rw [hg]; exact (wZ (by repeat (first | (with_reducible first | exact HB.out | apply wA | apply wN | apply w1 | refine wS ?_ GE204.out | refine wS ?_ GE205.out) | exact HB.out))) : w.heap.size ≤ gb207)); have n6_ := Aside0.mk ((by rw [hg]; exact Nat.ne_of_lt (blk_lt (g := gb204) (o := .cells #[.int .i64 a0_0, .int .i64 a0_1, .int .i64 a0_2, .int .i64 a0_3, .int .i64 a0_4, .int .i64 a0_5, .int .i64 a0_6, .int .i64 a0_7, .int .i64 a0_8] 23 (0, 0)) (by (with_reducible repeat (first | refine bN ?_ _ | refine bD ?_ | refine bA ?_ _)); exact BK204.out)) : gb204 ≠ gb207)); have n7_ := Aside0.mk ((by rw [hg]; exact Nat.ne_of_gt (blk_lt (g := gb204) (o := .cells #[.int .i64 a0_0, .int .i64 a0_1, .int .i64 a0_2, .int .i64 a0_3, .int .i64 a0_4, .int .i64 a0_5, .int .i64 a0_6, .int .i64 a0_7, .int .i64 a0_8] 23 (0, 0)) (by (with_reducible repeat (first | refine bN ?_ _ | refine bD ?_ | refine bA ?_ _)); exact BK204.out)) : gb207 ≠ gb204)); have n8_ := Aside0.mk ((by rw [hg]; exact Nat.ne_of_lt (blk_lt (g := gb205) (o := .cells #[.int .u8 a1_0, .string a1_1, .string a1_2, .int .i64 a1_3, .slice A1_4 l1_4.length c1_4] 27 (0, 0)) (by (with_reducible repeat (first | refine bN ?_ _ | refine bD ?_ | refine bA ?_ _)); exact BK205.out)) : gb205 ≠ gb207)); have n9_ := Aside0.mk ((by rw [hg]; exact Nat.ne_of_gt (blk_lt (g := gb205) (o := .cells #[.int .u8 a1_0, .string a1_1, .string a1_2, .int .i64 a1_3, .slice A1_4 l1_4.length c1_4] 27 (0, 0)) (by (with_reducible repeat (first | refine bN ?_ _ | refine bD ?_ | refine bA ?_ _)); exact BK205.out)) : gb207 ≠ gb205)); clear BK204; clear BK205; clear HB; have BK204 := n0_; have BK205 := n1_; have HB := n2_; have BK207 := n3_; have GW207 := n4_; have GE207 := n5_; have NB204_207 := n6_; have NB207_204 := n7_; have NB205_207 := n8_; have NB207_205 := n9_; clear n0_ n1_ n2_ n3_ n4_ n5_ n6_ n7_ n8_ n9_; clear hb hbox hg; have hnb28 := NB207_204.out; have hnc28 := NB204_207.out; have hnb29 := NB207_205.out; have hnc29 := NB205_207.out; have hcz30_0 : w27.cell? ⟨gb207, 0, none⟩ = some (.int .i64 0) := (bC BK207.out 0).trans rfl; have hcz30_1 : w27.cell? ⟨gb207, 1, none⟩ = some (.int .i64 0) := (bC BK207.out 1).trans rfl; have hcz30_2 : w27.cell? ⟨gb207, 2, none⟩ = some (.int .i64 0) := (bC BK207.out 2).trans rfl; have hcz30_3 : w27.cell? ⟨gb207, 3, none⟩ = some (.int .i64 0) := (bC BK207.out 3).trans rfl; have hcz30_4 : w27.cell? ⟨gb207, 4, none⟩ = some (.int .i64 0) := (bC BK207.out 4).trans rfl; have hcz30_5 : w27.cell? ⟨gb207, 5, none⟩ = some (.int .i64 0) := (bC BK207.out 5).trans rfl; have hcz30_6 : w27.cell? ⟨gb207, 6, none⟩ = some (.int .i64 0) := (bC BK207.out 6).trans rfl; have hcz30_7 : w27.cell? ⟨gb207, 7, none⟩ = some (.int .i64 0) := (bC BK207.out 7).trans rfl; have hcz30_8 : w27.cell? ⟨gb207, 8, none⟩ = some (.int .i64 0) := (bC BK207.out 8).trans rfl; have hfz30_0 := bF BK207.out 0; have hfz30_1 := bF BK207.out 1; have hfz30_2 := bF BK207.out 2; have hfz30_3 := bF BK207.out 3; have hfz30_4 := bF BK207.out 4; have hfz30_5 := bF BK207.out 5; have hfz30_6 := bF BK207.out 6; have hfz30_7 := bF BK207.out 7; have hfz30_8 := bF BK207.out 8))
      have n0_ : Aside0 ((((((((((w27.setCell ⟨gb207, 0, none⟩ (.int .i64 a0_0)).setCell ⟨gb207, 1, none⟩ (.int .i64 a0_1)).setCell ⟨gb207, 2, none⟩ (.int .i64 a0_2)).setCell ⟨gb207, 3, none⟩ (.int .i64 a0_3)).setCell ⟨gb207, 4, none⟩ (.int .i64 a0_4)).setCell ⟨gb207, 5, none⟩ (.int .i64 a0_5)).setCell ⟨gb207, 6, none⟩ (.int .i64 a0_6)).setCell ⟨gb207, 7, none⟩ (.int .i64 a0_7)).setCell ⟨gb207, 8, none⟩ (.int .i64 a0_8)).heap[gb204]? = some (.cells #[.int .i64 a0_0, .int .i64 a0_1, .int .i64 a0_2, .int .i64 a0_3, .int .i64 a0_4, .int .i64 a0_5, .int .i64 a0_6, .int .i64 a0_7, .int .i64 a0_8] 23 (0, 0))) := ⟨by (with_reducible repeat (first | refine bN ?_ _ | refine bD ?_ | refine bA ?_ _)); refine bR ?_ NB204_207.out _; (with_reducible repeat (first | refine bN ?_ _ | refine bD ?_ | refine bA ?_ _)); refine bR ?_ NB204_207.out _; (with_reducible repeat (first | refine bN ?_ _ | refine bD ?_ | refine bA ?_ _)); refine bR ?_ NB204_207.out _; (with_reducible repeat (first | refine bN ?_ _ | refine bD ?_ | refine bA ?_ _)); refine bR ?_ NB204_207.out _; (with_reducible repeat (first | refine bN ?_ _ | refine bD ?_ | refine bA ?_ _)); refine bR ?_ NB204_207.out _; (with_reducible repeat (first | refine bN ?_ _ | refine bD ?_ | refine bA ?_ _)); refine bR ?_ NB204_207.out _; (with_reducible repeat (first | refine bN ?_ _ | refine bD ?_ | refine bA ?_ _)); refine bR ?_ NB204_207.out _; (with_reducible repeat (first | refine bN ?_ _ | refine bD ?_ | refine bA ?_ _)); refine bR ?_ NB204_207.out _; (with_reducible repeat (first | refine bN ?_ _ | refine bD ?_ | refine bA ?_ _)); refine bR ?_ NB204_207.out _; (with_reducible repeat (first | refine bN ?_ _ | refine bD ?_ | refine bA ?_ _)); exact BK204.out⟩
      have n1_ : Aside0 ((((((((((w27.setCell ⟨gb207, 0, none⟩ (.int .i64 a0_0)).setCell ⟨gb207, 1, none⟩ (.int .i64 a0_1)).setCell ⟨gb207, 2, none⟩ (.int .i64 a0_2)).setCell ⟨gb207, 3, none⟩ (.int .i64 a0_3)).setCell ⟨gb207, 4, none⟩ (.int .i64 a0_4)).setCell ⟨gb207, 5, none⟩ (.int .i64 a0_5)).setCell ⟨gb207, 6, none⟩ (.int .i64 a0_6)).setCell ⟨gb207, 7, none⟩ (.int .i64 a0_7)).setCell ⟨gb207, 8, none⟩ (.int .i64 a0_8)).heap[gb205]? = some (.cells #[.int .u8 a1_0, .string a1_1, .string a1_2, .int .i64 a1_3, .slice A1_4 l1_4.length c1_4] 27 (0, 0))) := ⟨by (with_reducible repeat (first | refine bN ?_ _ | refine bD ?_ | refine bA ?_ _)); refine bR ?_ NB205_207.out _; (with_reducible repeat (first | refine bN ?_ _ | refine bD ?_ | refine bA ?_ _)); refine bR ?_ NB205_207.out _; (with_reducible repeat (first | refine bN ?_ _ | refine bD ?_ | refine bA ?_ _)); refine bR ?_ NB205_207.out _; (with_reducible repeat (first | refine bN ?_ _ | refine bD ?_ | refine bA ?_ _)); refine bR ?_ NB205_207.out _; (with_reducible repeat (first | refine bN ?_ _ | refine bD ?_ | refine bA ?_ _)); refine bR ?_ NB205_207.out _; (with_reducible repeat (first | refine bN ?_ _ | refine bD ?_ | refine bA ?_ _)); refine bR ?_ NB205_207.out _; (with_reducible repeat (first | refine bN ?_ _ | refine bD ?_ | refine bA ?_ _)); refine bR ?_ NB205_207.out _; (with_reducible repeat (first | refine bN ?_ _ | refine bD ?_ | refine bA ?_ _)); refine bR ?_ NB205_207.out _; (with_reducible repeat (first | refine bN ?_ _ | refine bD ?_ | refine bA ?_ _)); refine bR ?_ NB205_207.out _; (with_reducible repeat (first | refine bN ?_ _ | refine bD ?_ | refine bA ?_ _)); exact BK205.out⟩
      have n2_ : Aside0 ((((((((((w27.setCell ⟨gb207, 0, none⟩ (.int .i64 a0_0)).setCell ⟨gb207, 1, none⟩ (.int .i64 a0_1)).setCell ⟨gb207, 2, none⟩ (.int .i64 a0_2)).setCell ⟨gb207, 3, none⟩ (.int .i64 a0_3)).setCell ⟨gb207, 4, none⟩ (.int .i64 a0_4)).setCell ⟨gb207, 5, none⟩ (.int .i64 a0_5)).setCell ⟨gb207, 6, none⟩ (.int .i64 a0_6)).setCell ⟨gb207, 7, none⟩ (.int .i64 a0_7)).setCell ⟨gb207, 8, none⟩ (.int .i64 a0_8)).heap[gb207]? = some (.cells #[.int .i64 a0_0, .int .i64 a0_1, .int .i64 a0_2, .int .i64 a0_3, .int .i64 a0_4, .int .i64 a0_5, .int .i64 a0_6, .int .i64 a0_7, .int .i64 a0_8] 23 (0, 0))) := ⟨by (with_reducible repeat (first | refine bN ?_ _ | refine bD ?_ | refine bA ?_ _)); refine bP (cs := #[.int .i64 a0_0, .int .i64 a0_1, .int .i64 a0_2, .int .i64 a0_3, .int .i64 a0_4, .int .i64 a0_5, .int .i64 a0_6, .int .i64 a0_7, .int .i64 0]) ?_ 8 _ rfl; (with_reducible repeat (first | refine bN ?_ _ | refine bD ?_ | refine bA ?_ _)); refine bP (cs := #[.int .i64 a0_0, .int .i64 a0_1, .int .i64 a0_2, .int .i64 a0_3, .int .i64 a0_4, .int .i64 a0_5, .int .i64 a0_6, .int .i64 0, .int .i64 0]) ?_ 7 _ rfl; (with_reducible repeat (first | refine bN ?_ _ | refine bD ?_ | refine bA ?_ _)); refine bP (cs := #[.int .i64 a0_0, .int .i64 a0_1, .int .i64 a0_2, .int .i64 a0_3, .int .i64 a0_4, .int .i64 a0_5, .int .i64 0, .int .i64 0, .int .i64 0]) ?_ 6 _ rfl; (with_reducible repeat (first | refine bN ?_ _ | refine bD ?_ | refine bA ?_ _)); refine bP (cs := #[.int .i64 a0_0, .int .i64 a0_1, .int .i64 a0_2, .int .i64 a0_3, .int .i64 a0_4, .int .i64 0, .int .i64 0, .int .i64 0, .int .i64 0]) ?_ 5 _ rfl; (with_reducible repeat (first | refine bN ?_ _ | refine bD ?_ | refine bA ?_ _)); refine bP (cs := #[.int .i64 a0_0, .int .i64 a0_1, .int .i64 a0_2, .int .i64 a0_3, .int .i64 0, .int .i64 0, .int .i64 0, .int .i64 0, .int .i64 0]) ?_ 4 _ rfl; (with_reducible repeat (first | refine bN ?_ _ | refine bD ?_ | refine bA ?_ _)); refine bP (cs := #[.int .i64 a0_0, .int .i64 a0_1, .int .i64 a0_2, .int .i64 0, .int .i64 0, .int .i64 0, .int .i64 0, .int .i64 0, .int .i64 0]) ?_ 3 _ rfl; (with_reducible repeat (first | refine bN ?_ _ | refine bD ?_ | refine bA ?_ _)); refine bP (cs := #[.int .i64 a0_0, .int .i64 a0_1, .int .i64 0, .int .i64 0, .int .i64 0, .int .i64 0, .int .i64 0, .int .i64 0, .int .i64 0]) ?_ 2 _ rfl; (with_reducible repeat (first | refine bN ?_ _ | refine bD ?_ | refine bA ?_ _)); refine bP (cs := #[.int .i64 a0_0, .int .i64 0, .int .i64 0, .int .i64 0, .int .i64 0, .int .i64 0, .int .i64 0, .int .i64 0, .int .i64 0]) ?_ 1 _ rfl; (with_reducible repeat (first | refine bN ?_ _ | refine bD ?_ | refine bA ?_ _)); refine bP (cs := #[.int .i64 0, .int .i64 0, .int .i64 0, .int .i64 0, .int .i64 0, .int .i64 0, .int .i64 0, .int .i64 0, .int .i64 0]) ?_ 0 _ rfl; (with_reducible repeat (first | refine bN ?_ _ | refine bD ?_ | refine bA ?_ _)); exact BK207.out⟩
      have n3_ : Aside0 (Below w.heap.size w (((((((((w27.setCell ⟨gb207, 0, none⟩ (.int .i64 a0_0)).setCell ⟨gb207, 1, none⟩ (.int .i64 a0_1)).setCell ⟨gb207, 2, none⟩ (.int .i64 a0_2)).setCell ⟨gb207, 3, none⟩ (.int .i64 a0_3)).setCell ⟨gb207, 4, none⟩ (.int .i64 a0_4)).setCell ⟨gb207, 5, none⟩ (.int .i64 a0_5)).setCell ⟨gb207, 6, none⟩ (.int .i64 a0_6)).setCell ⟨gb207, 7, none⟩ (.int .i64 a0_7)).setCell ⟨gb207, 8, none⟩ (.int .i64 a0_8))) := ⟨by repeat (first | (with_reducible first | exact HB.out | apply wA | apply wN | apply w1 | refine wS ?_ GE204.out | refine wS ?_ GE205.out | refine wS ?_ GE207.out) | exact HB.out)⟩
      (try clear BK204)
      (try clear BK205)
      (try clear BK207)
      (try clear HB)
      generalize (((((((((w27.setCell ⟨gb207, 0, none⟩ (.int .i64 a0_0)).setCell ⟨gb207, 1, none⟩ (.int .i64 a0_1)).setCell ⟨gb207, 2, none⟩ (.int .i64 a0_2)).setCell ⟨gb207, 3, none⟩ (.int .i64 a0_3)).setCell ⟨gb207, 4, none⟩ (.int .i64 a0_4)).setCell ⟨gb207, 5, none⟩ (.int .i64 a0_5)).setCell ⟨gb207, 6, none⟩ (.int .i64 a0_6)).setCell ⟨gb207, 7, none⟩ (.int .i64 a0_7)).setCell ⟨gb207, 8, none⟩ (.int .i64 a0_8)) = w31 at n0_ n1_ n2_ n3_ ⊢
      have BK204 := n0_
      have BK205 := n1_
      have BK207 := n2_
      have HB := n3_
      clear n0_ n1_ n2_ n3_
      have n0_ := Aside0.mk (bD BK204.out)
      have n1_ := Aside0.mk (bD BK205.out)
      have n2_ := Aside0.mk (bD BK207.out)
      have n3_ := Aside0.mk (w1 HB.out)
      clear BK204
      clear BK205
      clear BK207
      clear HB
      have BK204 := n0_
      have BK205 := n1_
      have BK207 := n2_
      have HB := n3_
      clear n0_ n1_ n2_ n3_
      refine start_ (n := 21) (S := fun w' => w'.cell? ⟨gb204, 0, none⟩ = some (.int .i64 a0_0) ∧ w'.cell? ⟨gb204, 1, none⟩ = some (.int .i64 a0_1) ∧ w'.cell? ⟨gb204, 2, none⟩ = some (.int .i64 a0_2) ∧ w'.cell? ⟨gb204, 3, none⟩ = some (.int .i64 a0_3) ∧ w'.cell? ⟨gb204, 4, none⟩ = some (.int .i64 a0_4) ∧ w'.cell? ⟨gb204, 5, none⟩ = some (.int .i64 a0_5) ∧ w'.cell? ⟨gb204, 6, none⟩ = some (.int .i64 a0_6) ∧ w'.cell? ⟨gb204, 7, none⟩ = some (.int .i64 a0_7) ∧ w'.cell? ⟨gb204, 8, none⟩ = some (.int .i64 a0_8)) (ds := []) #[false, false, false, false, false, false, false, false, false, false, false, false, false, false, false, false, false, false, false, false, false] (by kernel_rfl) rfl rfl ⟨(bC BK204.out 0).trans rfl, (bC BK204.out 1).trans rfl, (bC BK204.out 2).trans rfl, (bC BK204.out 3).trans rfl, (bC BK204.out 4).trans rfl, (bC BK204.out 5).trans rfl, (bC BK204.out 6).trans rfl, (bC BK204.out 7).trans rfl, (bC BK204.out 8).trans rfl⟩ (fun hHeld => ?_); refine with_tabW catchmentlaw21_RoomWider.tab4 catchmentlaw21_RoomWider.bits4 (fun HT_ HW_ => ?_)
      generalize w31.drew = w32 at BK204 BK205 BK207 HB hHeld ⊢
      refine pure_ (i := 0) (N := some 27) (v := ?_) (a' := ?_) #[true, false, false, false, false, false, false, false, false, false, false, false, false, false, false, false, false, false, false, false, false] rfl rfl (any_of HT_.out (by kernel_rfl)) (fun _ _ _ h => h) (Or.inl ⟨by rfl, ?_⟩) ?_ ?_
      rotate_left
      ·intro w'
       go_simp
       with_reducible rfl
      rotate_left
      ·simp only [Act.put, sA1, sA2, sA3, i64_w, i32_w]
       rfl
      refine pure_ (i := 2) (N := some 29) (v := ?_) (a' := ?_) #[true, false, true, false, false, false, false, false, false, false, false, false, false, false, false, false, false, false, false, false, false] rfl rfl (any_of HT_.out (by kernel_rfl)) (fun _ _ _ h => h) (Or.inl ⟨by rfl, ?_⟩) ?_ ?_
      rotate_left
      ·intro w'
       go_simp
       with_reducible rfl
      rotate_left
      ·simp only [Act.put, sA1, sA2, sA3, i64_w, i32_w]
       rfl
      refine pure_ (i := 3) (N := some 30) (v := ?_) (a' := ?_) #[true, false, true, true, false, false, false, false, false, false, false, false, false, false, false, false, false, false, false, false, false] rfl rfl (any_of HT_.out (by kernel_rfl)) (fun _ _ _ h => h) (Or.inl ⟨by rfl, ?_⟩) ?_ ?_
      rotate_left
      ·intro w'
       go_simp
       with_reducible rfl
      rotate_left
      ·simp only [Act.put, sA1, sA2, sA3, i64_w, i32_w]
       rfl
      refine pure_ (i := 5) (N := some 32) (v := ?_) (a' := ?_) #[true, false, true, true, false, true, false, false, false, false, false, false, false, false, false, false, false, false, false, false, false] rfl rfl (any_of HT_.out (by kernel_rfl)) (fun _ _ _ h => h) (Or.inl ⟨by rfl, ?_⟩) ?_ ?_
      rotate_left
      ·intro w'
       go_simp
       with_reducible rfl
      rotate_left
      ·simp only [Act.put, sA1, sA2, sA3, i64_w, i32_w]
       rfl
      refine pure_ (i := 7) (N := some 34) (v := ?_) (a' := ?_) #[true, false, true, true, false, true, false, true, false, false, false, false, false, false, false, false, false, false, false, false, false] rfl rfl (any_of HT_.out (by kernel_rfl)) (fun _ _ _ h => h) (Or.inl ⟨by rfl, ?_⟩) ?_ ?_
      rotate_left
      ·intro w'
       go_simp
       with_reducible rfl
      rotate_left
      ·simp only [Act.put, sA1, sA2, sA3, i64_w, i32_w]
       rfl
      refine pure_ (i := 8) (N := some 35) (v := ?_) (a' := ?_) #[true, false, true, true, false, true, false, true, true, false, false, false, false, false, false, false, false, false, false, false, false] rfl rfl (any_of HT_.out (by kernel_rfl)) (fun _ _ _ h => h) (Or.inl ⟨by rfl, ?_⟩) ?_ ?_
      rotate_left
      ·intro w'
       go_simp
       with_reducible rfl
      rotate_left
      ·simp only [Act.put, sA1, sA2, sA3, i64_w, i32_w]
       rfl
      refine pure_ (i := 10) (N := some 37) (v := ?_) (a' := ?_) #[true, false, true, true, false, true, false, true, true, false, true, false, false, false, false, false, false, false, false, false, false] rfl rfl (any_of HT_.out (by kernel_rfl)) (fun _ _ _ h => h) (Or.inl ⟨by rfl, ?_⟩) ?_ ?_
      rotate_left
      ·intro w'
       go_simp
       with_reducible rfl
      rotate_left
      ·simp only [Act.put, sA1, sA2, sA3, i64_w, i32_w]
       rfl
      refine pure_ (i := 12) (N := some 39) (v := ?_) (a' := ?_) #[true, false, true, true, false, true, false, true, true, false, true, false, true, false, false, false, false, false, false, false, false] rfl rfl (any_of HT_.out (by kernel_rfl)) (fun _ _ _ h => h) (Or.inl ⟨by rfl, ?_⟩) ?_ ?_
      rotate_left
      ·intro w'
       go_simp
       with_reducible rfl
      rotate_left
      ·simp only [Act.put, sA1, sA2, sA3, i64_w, i32_w]
       rfl
      refine pure_ (i := 13) (N := some 40) (v := ?_) (a' := ?_) #[true, false, true, true, false, true, false, true, true, false, true, false, true, true, false, false, false, false, false, false, false] rfl rfl (any_of HT_.out (by kernel_rfl)) (fun _ _ _ h => h) (Or.inl ⟨by rfl, ?_⟩) ?_ ?_
      rotate_left
      ·intro w'
       go_simp
       with_reducible rfl
      rotate_left
      ·simp only [Act.put, sA1, sA2, sA3, i64_w, i32_w]
       rfl
      refine take_ (i := 1) (N := some 28) (v := ?_) (a' := ?_) #[true, true, true, true, false, true, false, true, true, false, true, false, true, true, false, false, false, false, false, false, false] rfl rfl (take_ofW HT_.out HW_.out (by kernel_rfl)) (fun _ _ _ h => h) (Or.inl ⟨by rfl, ?_⟩) hHeld ?_ ?_
      rotate_left
      ·rintro w' ⟨s0, s1, s2, s3, s4, s5, s6, s7, s8⟩
       go_simp
       with_reducible rfl
      rotate_left
      ·simp only [Act.put, sA1, sA2, sA3, i64_w, i32_w]
       rfl
      refine pure_ (i := 4) (N := some 31) (v := ?_) (a' := ?_) #[true, true, true, true, true, true, false, true, true, false, true, false, true, true, false, false, false, false, false, false, false] rfl rfl (any_of HT_.out (by kernel_rfl)) (fun _ _ _ h => h) (Or.inl ⟨by rfl, ?_⟩) ?_ ?_
      rotate_left
      ·intro w'
       go_simp
       with_reducible rfl
      rotate_left
      ·simp only [Act.put, sA1, sA2, sA3, i64_w, i32_w]
       rfl
      refine pure_ (i := 15) (N := some 42) (v := ?_) (a' := ?_) #[true, true, true, true, true, true, false, true, true, false, true, false, true, true, false, true, false, false, false, false, false] rfl rfl (any_of HT_.out (by kernel_rfl)) (fun _ _ _ h => h) (Or.inl ⟨by rfl, ?_⟩) ?_ ?_
      rotate_left
      ·intro w'
       go_simp
       with_reducible rfl
      rotate_left
      ·simp only [Act.put, sA1, sA2, sA3, i64_w, i32_w]
       rfl
      refine take_ (i := 6) (N := some 33) (v := ?_) (a' := ?_) #[true, true, true, true, true, true, true, true, true, false, true, false, true, true, false, true, false, false, false, false, false] rfl rfl (take_ofW HT_.out HW_.out (by kernel_rfl)) (fun _ _ _ h => h) (Or.inl ⟨by rfl, ?_⟩) hHeld ?_ ?_
      rotate_left
      ·rintro w' ⟨s0, s1, s2, s3, s4, s5, s6, s7, s8⟩
       go_simp
       with_reducible rfl
      rotate_left
      ·simp only [Act.put, sA1, sA2, sA3, i64_w, i32_w]
       rfl
      refine pure_ (i := 9) (N := some 36) (v := ?_) (a' := ?_) #[true, true, true, true, true, true, true, true, true, true, true, false, true, true, false, true, false, false, false, false, false] rfl rfl (any_of HT_.out (by kernel_rfl)) (fun _ _ _ h => h) (Or.inl ⟨by rfl, ?_⟩) ?_ ?_
      rotate_left
      ·intro w'
       go_simp
       with_reducible rfl
      rotate_left
      ·simp only [Act.put, sA1, sA2, sA3, i64_w, i32_w]
       rfl
      refine take_ (i := 11) (N := some 38) (v := ?_) (a' := ?_) #[true, true, true, true, true, true, true, true, true, true, true, true, true, true, false, true, false, false, false, false, false] rfl rfl (take_ofW HT_.out HW_.out (by kernel_rfl)) (fun _ _ _ h => h) (Or.inl ⟨by rfl, ?_⟩) hHeld ?_ ?_
      rotate_left
      ·rintro w' ⟨s0, s1, s2, s3, s4, s5, s6, s7, s8⟩
       go_simp
       with_reducible rfl
      rotate_left
      ·simp only [Act.put, sA1, sA2, sA3, i64_w, i32_w]
       rfl
      refine pure_ (i := 14) (N := some 41) (v := ?_) (a' := ?_) #[true, true, true, true, true, true, true, true, true, true, true, true, true, true, true, true, false, false, false, false, false] rfl rfl (any_of HT_.out (by kernel_rfl)) (fun _ _ _ h => h) (Or.inl ⟨by rfl, ?_⟩) ?_ ?_
      rotate_left
      ·intro w'
       go_simp
       with_reducible rfl
      rotate_left
      ·simp only [Act.put, sA1, sA2, sA3, i64_w, i32_w]
       rfl
      refine one_ (i := 16) (N := none) #[true, true, true, true, true, true, true, true, true, true, true, true, true, true, true, true, true, false, false, false, false] rfl rfl (one_of HT_.out (by kernel_rfl)) (by decide) (fun K hK => ?_)
      have hs33 : w32.cell? ⟨gb207, 0, none⟩ = some (.int .i64 a0_0) := (bC BK207.out 0).trans rfl
      have hfs33 := bF BK207.out 0
      have hns33_0 := NB204_207.out
      have hns33_1 := NB205_207.out
      have hms33_0 := NB207_204.out
      have hms33_1 := NB207_205.out
      refine skip_ (w1 := ?_) (by rfl) rfl ?_ ?_
      rotate_left
      ·go_simp
       rfl
      refine hK.out _ _ ⟨((cF (p := ⟨gb207, _, none⟩) NB204_207.out _).trans (hHeld.1)), ((cF (p := ⟨gb207, _, none⟩) NB204_207.out _).trans (hHeld.2.1)), ((cF (p := ⟨gb207, _, none⟩) NB204_207.out _).trans (hHeld.2.2.1)), ((cF (p := ⟨gb207, _, none⟩) NB204_207.out _).trans (hHeld.2.2.2.1)), ((cF (p := ⟨gb207, _, none⟩) NB204_207.out _).trans (hHeld.2.2.2.2.1)), ((cF (p := ⟨gb207, _, none⟩) NB204_207.out _).trans (hHeld.2.2.2.2.2.1)), ((cF (p := ⟨gb207, _, none⟩) NB204_207.out _).trans (hHeld.2.2.2.2.2.2.1)), ((cF (p := ⟨gb207, _, none⟩) NB204_207.out _).trans (hHeld.2.2.2.2.2.2.2.1)), ((cF (p := ⟨gb207, _, none⟩) NB204_207.out _).trans (hHeld.2.2.2.2.2.2.2.2))⟩ (fun hHeld => ?_)
      clear hK K
      refine pure_ (i := 17) (N := some 43) (v := ?_) (a' := ?_) #[true, true, true, true, true, true, true, true, true, true, true, true, true, true, true, true, true, true, false, false, false] rfl rfl (any_of HT_.out (by kernel_rfl)) (fun _ _ _ h => h) (Or.inl ⟨by rfl, ?_⟩) ?_ ?_
      rotate_left
      ·intro w'
       go_simp
       with_reducible rfl
      rotate_left
      ·simp only [Act.put, sA1, sA2, sA3, i64_w, i32_w]
       rfl
      refine one_ (i := 18) (N := none) #[true, true, true, true, true, true, true, true, true, true, true, true, true, true, true, true, true, true, true, false, false] rfl rfl (one_of HT_.out (by kernel_rfl)) (by decide) (fun K hK => ?_)
      have hs34 : w32.cell? ⟨gb207, 1, none⟩ = some (.int .i64 a0_1) := (bC BK207.out 1).trans rfl
      have hfs34 := bF BK207.out 1
      have hns34_0 := NB204_207.out
      have hns34_1 := NB205_207.out
      have hms34_0 := NB207_204.out
      have hms34_1 := NB207_205.out
      refine skip_ (w1 := ?_) (by rfl) rfl ?_ ?_
      rotate_left
      ·go_simp
       rfl
      refine hK.out _ _ ⟨((cF (p := ⟨gb207, _, none⟩) NB204_207.out _).trans (hHeld.1)), ((cF (p := ⟨gb207, _, none⟩) NB204_207.out _).trans (hHeld.2.1)), ((cF (p := ⟨gb207, _, none⟩) NB204_207.out _).trans (hHeld.2.2.1)), ((cF (p := ⟨gb207, _, none⟩) NB204_207.out _).trans (hHeld.2.2.2.1)), ((cF (p := ⟨gb207, _, none⟩) NB204_207.out _).trans (hHeld.2.2.2.2.1)), ((cF (p := ⟨gb207, _, none⟩) NB204_207.out _).trans (hHeld.2.2.2.2.2.1)), ((cF (p := ⟨gb207, _, none⟩) NB204_207.out _).trans (hHeld.2.2.2.2.2.2.1)), ((cF (p := ⟨gb207, _, none⟩) NB204_207.out _).trans (hHeld.2.2.2.2.2.2.2.1)), ((cF (p := ⟨gb207, _, none⟩) NB204_207.out _).trans (hHeld.2.2.2.2.2.2.2.2))⟩ (fun hHeld => ?_)
      clear hK K
      refine pure_ (i := 19) (N := some 44) (v := ?_) (a' := ?_) #[true, true, true, true, true, true, true, true, true, true, true, true, true, true, true, true, true, true, true, true, false] rfl rfl (any_of HT_.out (by kernel_rfl)) (fun _ _ _ h => h) (Or.inl ⟨by rfl, ?_⟩) ?_ ?_
      rotate_left
      ·intro w'
       go_simp
       with_reducible rfl
      rotate_left
      ·simp only [Act.put, sA1, sA2, sA3, i64_w, i32_w]
       rfl
      refine one_ (i := 20) (N := none) #[true, true, true, true, true, true, true, true, true, true, true, true, true, true, true, true, true, true, true, true, true] rfl rfl (one_of HT_.out (by kernel_rfl)) (by decide) (fun K hK => ?_)
      have hs35 : w32.cell? ⟨gb207, 8, none⟩ = some (.int .i64 a0_8) := (bC BK207.out 8).trans rfl
      have hfs35 := bF BK207.out 8
      have hns35_0 := NB204_207.out
      have hns35_1 := NB205_207.out
      have hms35_0 := NB207_204.out
      have hms35_1 := NB207_205.out
      refine skip_ (w1 := ?_) (by rfl) rfl ?_ ?_
      rotate_left
      ·go_simp
       rfl
      refine hK.out _ _ ⟨((cF (p := ⟨gb207, _, none⟩) NB204_207.out _).trans (hHeld.1)), ((cF (p := ⟨gb207, _, none⟩) NB204_207.out _).trans (hHeld.2.1)), ((cF (p := ⟨gb207, _, none⟩) NB204_207.out _).trans (hHeld.2.2.1)), ((cF (p := ⟨gb207, _, none⟩) NB204_207.out _).trans (hHeld.2.2.2.1)), ((cF (p := ⟨gb207, _, none⟩) NB204_207.out _).trans (hHeld.2.2.2.2.1)), ((cF (p := ⟨gb207, _, none⟩) NB204_207.out _).trans (hHeld.2.2.2.2.2.1)), ((cF (p := ⟨gb207, _, none⟩) NB204_207.out _).trans (hHeld.2.2.2.2.2.2.1)), ((cF (p := ⟨gb207, _, none⟩) NB204_207.out _).trans (hHeld.2.2.2.2.2.2.2.1)), ((cF (p := ⟨gb207, _, none⟩) NB204_207.out _).trans (hHeld.2.2.2.2.2.2.2.2))⟩ (fun hHeld => ?_)
      clear hK K
      refine done_ (done_of HT_.out (by kernel_rfl)) ?_
      try go_wp2_with (first | ((with_reducible refine gate_callee (f := 6) rfl ?_); refine goesL_ (some 45) rfl rfl Try.func6 (by kernel_rfl) rfl #[] rfl (by (try simp only [mA1, mA2, mA3]); first | done | rfl | (simp only [mA5, mA4]; rfl)) ?_; (with_reducible refine (catchmentlaw21_live.calls kj5  true _ A20.out).mono ?_); rintro e w36 ⟨rfl, hb⟩; refine ⟨_, rfl, ?_⟩; have n0_ := Aside0.mk (bB (g := gb204) (o := .cells #[.int .i64 a0_0, .int .i64 a0_1, .int .i64 a0_2, .int .i64 a0_3, .int .i64 a0_4, .int .i64 a0_5, .int .i64 a0_6, .int .i64 a0_7, .int .i64 a0_8] 23 (0, 0)) (by (with_reducible repeat (first | refine bN ?_ _ | refine bD ?_ | refine bA ?_ _)); refine bR ?_ NB204_207.out _; (with_reducible repeat (first | refine bN ?_ _ | refine bD ?_ | refine bA ?_ _)); refine bR ?_ NB204_207.out _; (with_reducible repeat (first | refine bN ?_ _ | refine bD ?_ | refine bA ?_ _)); refine bR ?_ NB204_207.out _; (with_reducible repeat (first | refine bN ?_ _ | refine bD ?_ | refine bA ?_ _)); exact BK204.out) hb); have n1_ := Aside0.mk (bB (g := gb205) (o := .cells #[.int .u8 a1_0, .string a1_1, .string a1_2, .int .i64 a1_3, .slice A1_4 l1_4.length c1_4] 27 (0, 0)) (by (with_reducible repeat (first | refine bN ?_ _ | refine bD ?_ | refine bA ?_ _)); refine bR ?_ NB205_207.out _; (with_reducible repeat (first | refine bN ?_ _ | refine bD ?_ | refine bA ?_ _)); refine bR ?_ NB205_207.out _; (with_reducible repeat (first | refine bN ?_ _ | refine bD ?_ | refine bA ?_ _)); refine bR ?_ NB205_207.out _; (with_reducible repeat (first | refine bN ?_ _ | refine bD ?_ | refine bA ?_ _)); exact BK205.out) hb); have n2_ := Aside0.mk (bB (g := gb207) (o := .cells #[.int .i64 (wrap64 (a0_0 + (wrap64 (a2)))), .int .i64 (wrap64 (a0_1 + (wrap64 (a3)))), .int .i64 a0_2, .int .i64 a0_3, .int .i64 a0_4, .int .i64 a0_5, .int .i64 a0_6, .int .i64 a0_7, .int .i64 (wrap64 (a0_8 + (wrap64 (a4))))] 23 (0, 0)) (by (with_reducible repeat (first | refine bN ?_ _ | refine bD ?_ | refine bA ?_ _)); refine bP (cs := #[.int .i64 (wrap64 (a0_0 + (wrap64 (a2)))), .int .i64 (wrap64 (a0_1 + (wrap64 (a3)))), .int .i64 a0_2, .int .i64 a0_3, .int .i64 a0_4, .int .i64 a0_5, .int .i64 a0_6, .int .i64 a0_7, .int .i64 a0_8]) ?_ 8 _ rfl; (with_reducible repeat (first | refine bN ?_ _ | refine bD ?_ | refine bA ?_ _)); refine bP (cs := #[.int .i64 (wrap64 (a0_0 + (wrap64 (a2)))), .int .i64 a0_1, .int .i64 a0_2, .int .i64 a0_3, .int .i64 a0_4, .int .i64 a0_5, .int .i64 a0_6, .int .i64 a0_7, .int .i64 a0_8]) ?_ 1 _ rfl; (with_reducible repeat (first | refine bN ?_ _ | refine bD ?_ | refine bA ?_ _)); refine bP (cs := #[.int .i64 a0_0, .int .i64 a0_1, .int .i64 a0_2, .int .i64 a0_3, .int .i64 a0_4, .int .i64 a0_5, .int .i64 a0_6, .int .i64 a0_7, .int .i64 a0_8]) ?_ 0 _ rfl; (with_reducible repeat (first | refine bN ?_ _ | refine bD ?_ | refine bA ?_ _)); exact BK207.out) hb); have n3_ := Aside0.mk (wT (by repeat (first | (with_reducible first | exact HB.out | apply wA | apply wN | apply w1 | refine wS ?_ GE204.out | refine wS ?_ GE205.out | refine wS ?_ GE207.out) | exact HB.out)) hb); clear BK204; clear BK205; clear BK207; clear HB; have BK204 := n0_; have BK205 := n1_; have BK207 := n2_; have HB := n3_; clear n0_ n1_ n2_ n3_; (try clear hb); (try clear hb2); (try clear hk); (try clear hi); have hcz37_0 : w36.cell? ⟨gb205, 0, none⟩ = some (.int .u8 a1_0) := (bC BK205.out 0).trans rfl; have hcz37_1 : w36.cell? ⟨gb205, 1, none⟩ = some (.string a1_1) := (bC BK205.out 1).trans rfl; have hcz37_2 : w36.cell? ⟨gb205, 2, none⟩ = some (.string a1_2) := (bC BK205.out 2).trans rfl; have hcz37_3 : w36.cell? ⟨gb205, 3, none⟩ = some (.int .i64 a1_3) := (bC BK205.out 3).trans rfl; have hcz37_4 : w36.cell? ⟨gb205, 4, none⟩ = some (.slice A1_4 l1_4.length c1_4) := (bC BK205.out 4).trans rfl; have hfz37_0 := bF BK205.out 0; have hfz37_1 := bF BK205.out 1; have hfz37_2 := bF BK205.out 2; have hfz37_3 := bF BK205.out 3; have hfz37_4 := bF BK205.out 4; have hcz38_0 : w36.cell? ⟨gb204, 0, none⟩ = some (.int .i64 a0_0) := (bC BK204.out 0).trans rfl; have hcz38_1 : w36.cell? ⟨gb204, 1, none⟩ = some (.int .i64 a0_1) := (bC BK204.out 1).trans rfl; have hcz38_2 : w36.cell? ⟨gb204, 2, none⟩ = some (.int .i64 a0_2) := (bC BK204.out 2).trans rfl; have hcz38_3 : w36.cell? ⟨gb204, 3, none⟩ = some (.int .i64 a0_3) := (bC BK204.out 3).trans rfl; have hcz38_4 : w36.cell? ⟨gb204, 4, none⟩ = some (.int .i64 a0_4) := (bC BK204.out 4).trans rfl; have hcz38_5 : w36.cell? ⟨gb204, 5, none⟩ = some (.int .i64 a0_5) := (bC BK204.out 5).trans rfl; have hcz38_6 : w36.cell? ⟨gb204, 6, none⟩ = some (.int .i64 a0_6) := (bC BK204.out 6).trans rfl; have hcz38_7 : w36.cell? ⟨gb204, 7, none⟩ = some (.int .i64 a0_7) := (bC BK204.out 7).trans rfl; have hcz38_8 : w36.cell? ⟨gb204, 8, none⟩ = some (.int .i64 a0_8) := (bC BK204.out 8).trans rfl; have hfz38_0 := bF BK204.out 0; have hfz38_1 := bF BK204.out 1; have hfz38_2 := bF BK204.out 2; have hfz38_3 := bF BK204.out 3; have hfz38_4 := bF BK204.out 4; have hfz38_5 := bF BK204.out 5; have hfz38_6 := bF BK204.out 6; have hfz38_7 := bF BK204.out 7; have hfz38_8 := bF BK204.out 8) | (go_at_call 9; (with_reducible refine (room_Ask.calls kj5 a1_0 a1_1 a1_2 a1_3 _ _ l1_4 a0_0 a0_1 a0_2 a0_3 a0_4 a0_5 a0_6 a0_7 a0_8 t209 _ ?side1 ?side2 A22.out).mono ?_); (case side1 => repeat (first | exact (Kd.C_below HR1_4.out HB.out) | (with_reducible refine Kd.C_alloc ?_ _) | (with_reducible refine Kd.C_drewN ?_ _) | (with_reducible refine Kd.C_drew ?_))); (case side2 => exact HC1_4.out); rintro e w39 ⟨rfl, hb⟩; have n0_ := Aside0.mk (bB (g := gb204) (o := .cells #[.int .i64 a0_0, .int .i64 a0_1, .int .i64 a0_2, .int .i64 a0_3, .int .i64 a0_4, .int .i64 a0_5, .int .i64 a0_6, .int .i64 a0_7, .int .i64 a0_8] 23 (0, 0)) (by (with_reducible repeat (first | refine bN ?_ _ | refine bD ?_ | refine bA ?_ _)); exact BK204.out) hb); have n1_ := Aside0.mk (bB (g := gb205) (o := .cells #[.int .u8 a1_0, .string a1_1, .string a1_2, .int .i64 a1_3, .slice A1_4 l1_4.length c1_4] 27 (0, 0)) (by (with_reducible repeat (first | refine bN ?_ _ | refine bD ?_ | refine bA ?_ _)); exact BK205.out) hb); have n2_ := Aside0.mk (bB (g := gb207) (o := .cells #[.int .i64 (wrap64 (a0_0 + (wrap64 (a2)))), .int .i64 (wrap64 (a0_1 + (wrap64 (a3)))), .int .i64 a0_2, .int .i64 a0_3, .int .i64 a0_4, .int .i64 a0_5, .int .i64 a0_6, .int .i64 a0_7, .int .i64 (wrap64 (a0_8 + (wrap64 (a4))))] 23 (0, 0)) (by (with_reducible repeat (first | refine bN ?_ _ | refine bD ?_ | refine bA ?_ _)); exact BK207.out) hb); have n3_ := Aside0.mk (wT (by repeat (first | (with_reducible first | exact HB.out | apply wA | apply wN | apply w1 | refine wS ?_ GE204.out | refine wS ?_ GE205.out | refine wS ?_ GE207.out) | exact HB.out)) hb); clear BK204; clear BK205; clear BK207; clear HB; have BK204 := n0_; have BK205 := n1_; have BK207 := n2_; have HB := n3_; clear n0_ n1_ n2_ n3_; (try clear hb); (try clear hb2); (try clear hk); (try clear hi); have hcz40_0 : w39.cell? ⟨gb205, 0, none⟩ = some (.int .u8 a1_0) := (bC BK205.out 0).trans rfl; have hcz40_1 : w39.cell? ⟨gb205, 1, none⟩ = some (.string a1_1) := (bC BK205.out 1).trans rfl; have hcz40_2 : w39.cell? ⟨gb205, 2, none⟩ = some (.string a1_2) := (bC BK205.out 2).trans rfl; have hcz40_3 : w39.cell? ⟨gb205, 3, none⟩ = some (.int .i64 a1_3) := (bC BK205.out 3).trans rfl; have hcz40_4 : w39.cell? ⟨gb205, 4, none⟩ = some (.slice A1_4 l1_4.length c1_4) := (bC BK205.out 4).trans rfl; have hfz40_0 := bF BK205.out 0; have hfz40_1 := bF BK205.out 1; have hfz40_2 := bF BK205.out 2; have hfz40_3 := bF BK205.out 3; have hfz40_4 := bF BK205.out 4; have hcz41_0 : w39.cell? ⟨gb207, 0, none⟩ = some (.int .i64 (wrap64 (a0_0 + (wrap64 (a2))))) := (bC BK207.out 0).trans rfl; have hcz41_1 : w39.cell? ⟨gb207, 1, none⟩ = some (.int .i64 (wrap64 (a0_1 + (wrap64 (a3))))) := (bC BK207.out 1).trans rfl; have hcz41_2 : w39.cell? ⟨gb207, 2, none⟩ = some (.int .i64 a0_2) := (bC BK207.out 2).trans rfl; have hcz41_3 : w39.cell? ⟨gb207, 3, none⟩ = some (.int .i64 a0_3) := (bC BK207.out 3).trans rfl; have hcz41_4 : w39.cell? ⟨gb207, 4, none⟩ = some (.int .i64 a0_4) := (bC BK207.out 4).trans rfl; have hcz41_5 : w39.cell? ⟨gb207, 5, none⟩ = some (.int .i64 a0_5) := (bC BK207.out 5).trans rfl; have hcz41_6 : w39.cell? ⟨gb207, 6, none⟩ = some (.int .i64 a0_6) := (bC BK207.out 6).trans rfl; have hcz41_7 : w39.cell? ⟨gb207, 7, none⟩ = some (.int .i64 a0_7) := (bC BK207.out 7).trans rfl; have hcz41_8 : w39.cell? ⟨gb207, 8, none⟩ = some (.int .i64 (wrap64 (a0_8 + (wrap64 (a4))))) := (bC BK207.out 8).trans rfl; have hfz41_0 := bF BK207.out 0; have hfz41_1 := bF BK207.out 1; have hfz41_2 := bF BK207.out 2; have hfz41_3 := bF BK207.out 3; have hfz41_4 := bF BK207.out 4; have hfz41_5 := bF BK207.out 5; have hfz41_6 := bF BK207.out 6; have hfz41_7 := bF BK207.out 7; have hfz41_8 := bF BK207.out 8) | (go_at_call 9; (with_reducible refine (room_Ask.calls kj5 a1_0 a1_1 a1_2 a1_3 _ _ l1_4 (wrap64 (a0_0 + (wrap64 (a2)))) (wrap64 (a0_1 + (wrap64 (a3)))) a0_2 a0_3 a0_4 a0_5 a0_6 a0_7 (wrap64 (a0_8 + (wrap64 (a4)))) t210 _ ?side1 ?side2 A24.out).mono ?_); (case side1 => repeat (first | exact (Kd.C_below HR1_4.out HB.out) | (with_reducible refine Kd.C_alloc ?_ _) | (with_reducible refine Kd.C_drewN ?_ _) | (with_reducible refine Kd.C_drew ?_))); (case side2 => exact HC1_4.out); rintro e w42 ⟨rfl, hb⟩; have n0_ := Aside0.mk (bB (g := gb204) (o := .cells #[.int .i64 a0_0, .int .i64 a0_1, .int .i64 a0_2, .int .i64 a0_3, .int .i64 a0_4, .int .i64 a0_5, .int .i64 a0_6, .int .i64 a0_7, .int .i64 a0_8] 23 (0, 0)) (by (with_reducible repeat (first | refine bN ?_ _ | refine bD ?_ | refine bA ?_ _)); exact BK204.out) hb); have n1_ := Aside0.mk (bB (g := gb205) (o := .cells #[.int .u8 a1_0, .string a1_1, .string a1_2, .int .i64 a1_3, .slice A1_4 l1_4.length c1_4] 27 (0, 0)) (by (with_reducible repeat (first | refine bN ?_ _ | refine bD ?_ | refine bA ?_ _)); exact BK205.out) hb); have n2_ := Aside0.mk (bB (g := gb207) (o := .cells #[.int .i64 (wrap64 (a0_0 + (wrap64 (a2)))), .int .i64 (wrap64 (a0_1 + (wrap64 (a3)))), .int .i64 a0_2, .int .i64 a0_3, .int .i64 a0_4, .int .i64 a0_5, .int .i64 a0_6, .int .i64 a0_7, .int .i64 (wrap64 (a0_8 + (wrap64 (a4))))] 23 (0, 0)) (by (with_reducible repeat (first | refine bN ?_ _ | refine bD ?_ | refine bA ?_ _)); exact BK207.out) hb); have n3_ := Aside0.mk (wT (by repeat (first | (with_reducible first | exact HB.out | apply wA | apply wN | apply w1 | refine wS ?_ GE204.out | refine wS ?_ GE205.out | refine wS ?_ GE207.out) | exact HB.out)) hb); clear BK204; clear BK205; clear BK207; clear HB; have BK204 := n0_; have BK205 := n1_; have BK207 := n2_; have HB := n3_; clear n0_ n1_ n2_ n3_; (try clear hb); (try clear hb2); (try clear hk); (try clear hi)))
      go_ret
      exact ⟨by first | rfl | (simp [errW_none, errW_some] <;> rfl) | (simp [*, errW_none, errW_some] <;> rfl), by repeat (first | (with_reducible first | exact HB.out | apply wA | apply wN | apply w1 | refine wS ?_ GE204.out | refine wS ?_ GE205.out | refine wS ?_ GE207.out) | exact HB.out)⟩
     ·rw [if_neg c23] at H
      have c23b0 : (t209 == 0) = false := beq_eq_false_iff_ne.mpr c23
      have c23b1 : (t209 != 0) = true := bne_iff_ne.mpr c23
      obtain rfl := Option.some.inj H
      have hnb43 := NB204_205.out
      have hnc43 := NB205_204.out
      have hcz44_0 : wc.cell? ⟨gb204, 0, none⟩ = some (.int .i64 a0_0) := (bC BK204.out 0).trans rfl
      have hcz44_1 : wc.cell? ⟨gb204, 1, none⟩ = some (.int .i64 a0_1) := (bC BK204.out 1).trans rfl
      have hcz44_2 : wc.cell? ⟨gb204, 2, none⟩ = some (.int .i64 a0_2) := (bC BK204.out 2).trans rfl
      have hcz44_3 : wc.cell? ⟨gb204, 3, none⟩ = some (.int .i64 a0_3) := (bC BK204.out 3).trans rfl
      have hcz44_4 : wc.cell? ⟨gb204, 4, none⟩ = some (.int .i64 a0_4) := (bC BK204.out 4).trans rfl
      have hcz44_5 : wc.cell? ⟨gb204, 5, none⟩ = some (.int .i64 a0_5) := (bC BK204.out 5).trans rfl
      have hcz44_6 : wc.cell? ⟨gb204, 6, none⟩ = some (.int .i64 a0_6) := (bC BK204.out 6).trans rfl
      have hcz44_7 : wc.cell? ⟨gb204, 7, none⟩ = some (.int .i64 a0_7) := (bC BK204.out 7).trans rfl
      have hcz44_8 : wc.cell? ⟨gb204, 8, none⟩ = some (.int .i64 a0_8) := (bC BK204.out 8).trans rfl
      have hfz44_0 := bF BK204.out 0
      have hfz44_1 := bF BK204.out 1
      have hfz44_2 := bF BK204.out 2
      have hfz44_3 := bF BK204.out 3
      have hfz44_4 := bF BK204.out 4
      have hfz44_5 := bF BK204.out 5
      have hfz44_6 := bF BK204.out 6
      have hfz44_7 := bF BK204.out 7
      have hfz44_8 := bF BK204.out 8
      try go_wp2_with (first | ((with_reducible refine gate_dst (N := 11) rfl ?_); refine box_event ?hg (N := 11) ?hd (cs := #[.int .i64 0, .int .i64 0, .int .i64 0, .int .i64 0, .int .i64 0, .int .i64 0, .int .i64 0, .int .i64 0, .int .i64 0]) (t := 23) ?hr ?_; (case hd => rfl); (case hg => rfl); (case hr => first | (go_simp; done) | (go_simp; rfl)); intro gb207 hg w45 hbox hb; have n0_ := Aside0.mk (bB (g := gb204) (o := .cells #[.int .i64 a0_0, .int .i64 a0_1, .int .i64 a0_2, .int .i64 a0_3, .int .i64 a0_4, .int .i64 a0_5, .int .i64 a0_6, .int .i64 a0_7, .int .i64 a0_8] 23 (0, 0)) (by (with_reducible repeat (first | refine bN ?_ _ | refine bD ?_ | refine bA ?_ _)); exact BK204.out) hb); have n1_ := Aside0.mk (bB (g := gb205) (o := .cells #[.int .u8 a1_0, .string a1_1, .string a1_2, .int .i64 a1_3, .slice A1_4 l1_4.length c1_4] 27 (0, 0)) (by (with_reducible repeat (first | refine bN ?_ _ | refine bD ?_ | refine bA ?_ _)); exact BK205.out) hb); have n2_ := Aside0.mk (wT (by repeat (first | (with_reducible first | exact HB.out | apply wA | apply wN | apply w1 | refine wS ?_ GE204.out | refine wS ?_ GE205.out) | exact HB.out)) hb); have n3_ := Aside0.mk (hbox); have n4_ := Aside0.mk ((by rw [hg]; exact (wZ (by repeat (first | (with_reducible first | exact HB.out | apply wA | apply wN | apply w1 | refine wS ?_ GE204.out | refine wS ?_ GE205.out) | exact HB.out))) : w.heap.size ≤ gb207)); have n5_ := Aside0.mk ((by rw [hg]; exact (wZ (by repeat (first | (with_reducible first | exact HB.out | apply wA | apply wN | apply w1 | refine wS ?_ GE204.out | refine wS ?_ GE205.out) | exact HB.out))) : w.heap.size ≤ gb207)); have n6_ := Aside0.mk ((by rw [hg]; exact Nat.ne_of_lt (blk_lt (g := gb204) (o := .cells #[.int .i64 a0_0, .int .i64 a0_1, .int .i64 a0_2, .int .i64 a0_3, .int .i64 a0_4, .int .i64 a0_5, .int .i64 a0_6, .int .i64 a0_7, .int .i64 a0_8] 23 (0, 0)) (by (with_reducible repeat (first | refine bN ?_ _ | refine bD ?_ | refine bA ?_ _)); exact BK204.out)) : gb204 ≠ gb207)); have n7_ := Aside0.mk ((by rw [hg]; exact Nat.ne_of_gt (blk_lt (g := gb204) (o := .cells #[.int .i64 a0_0, .int .i64 a0_1, .int .i64 a0_2, .int .i64 a0_3, .int .i64 a0_4, .int .i64 a0_5, .int .i64 a0_6, .int .i64 a0_7, .int .i64 a0_8] 23 (0, 0)) (by (with_reducible repeat (first | refine bN ?_ _ | refine bD ?_ | refine bA ?_ _)); exact BK204.out)) : gb207 ≠ gb204)); have n8_ := Aside0.mk ((by rw [hg]; exact Nat.ne_of_lt (blk_lt (g := gb205) (o := .cells #[.int .u8 a1_0, .string a1_1, .string a1_2, .int .i64 a1_3, .slice A1_4 l1_4.length c1_4] 27 (0, 0)) (by (with_reducible repeat (first | refine bN ?_ _ | refine bD ?_ | refine bA ?_ _)); exact BK205.out)) : gb205 ≠ gb207)); have n9_ := Aside0.mk ((by rw [hg]; exact Nat.ne_of_gt (blk_lt (g := gb205) (o := .cells #[.int .u8 a1_0, .string a1_1, .string a1_2, .int .i64 a1_3, .slice A1_4 l1_4.length c1_4] 27 (0, 0)) (by (with_reducible repeat (first | refine bN ?_ _ | refine bD ?_ | refine bA ?_ _)); exact BK205.out)) : gb207 ≠ gb205)); clear BK204; clear BK205; clear HB; have BK204 := n0_; have BK205 := n1_; have HB := n2_; have BK207 := n3_; have GW207 := n4_; have GE207 := n5_; have NB204_207 := n6_; have NB207_204 := n7_; have NB205_207 := n8_; have NB207_205 := n9_; clear n0_ n1_ n2_ n3_ n4_ n5_ n6_ n7_ n8_ n9_; clear hb hbox hg; have hnb46 := NB207_204.out; have hnc46 := NB204_207.out; have hnb47 := NB207_205.out; have hnc47 := NB205_207.out; have hcz48_0 : w45.cell? ⟨gb207, 0, none⟩ = some (.int .i64 0) := (bC BK207.out 0).trans rfl; have hcz48_1 : w45.cell? ⟨gb207, 1, none⟩ = some (.int .i64 0) := (bC BK207.out 1).trans rfl; have hcz48_2 : w45.cell? ⟨gb207, 2, none⟩ = some (.int .i64 0) := (bC BK207.out 2).trans rfl; have hcz48_3 : w45.cell? ⟨gb207, 3, none⟩ = some (.int .i64 0) := (bC BK207.out 3).trans rfl; have hcz48_4 : w45.cell? ⟨gb207, 4, none⟩ = some (.int .i64 0) := (bC BK207.out 4).trans rfl; have hcz48_5 : w45.cell? ⟨gb207, 5, none⟩ = some (.int .i64 0) := (bC BK207.out 5).trans rfl; have hcz48_6 : w45.cell? ⟨gb207, 6, none⟩ = some (.int .i64 0) := (bC BK207.out 6).trans rfl; have hcz48_7 : w45.cell? ⟨gb207, 7, none⟩ = some (.int .i64 0) := (bC BK207.out 7).trans rfl; have hcz48_8 : w45.cell? ⟨gb207, 8, none⟩ = some (.int .i64 0) := (bC BK207.out 8).trans rfl; have hfz48_0 := bF BK207.out 0; have hfz48_1 := bF BK207.out 1; have hfz48_2 := bF BK207.out 2; have hfz48_3 := bF BK207.out 3; have hfz48_4 := bF BK207.out 4; have hfz48_5 := bF BK207.out 5; have hfz48_6 := bF BK207.out 6; have hfz48_7 := bF BK207.out 7; have hfz48_8 := bF BK207.out 8))
      have n0_ : Aside0 ((((((((((w45.setCell ⟨gb207, 0, none⟩ (.int .i64 a0_0)).setCell ⟨gb207, 1, none⟩ (.int .i64 a0_1)).setCell ⟨gb207, 2, none⟩ (.int .i64 a0_2)).setCell ⟨gb207, 3, none⟩ (.int .i64 a0_3)).setCell ⟨gb207, 4, none⟩ (.int .i64 a0_4)).setCell ⟨gb207, 5, none⟩ (.int .i64 a0_5)).setCell ⟨gb207, 6, none⟩ (.int .i64 a0_6)).setCell ⟨gb207, 7, none⟩ (.int .i64 a0_7)).setCell ⟨gb207, 8, none⟩ (.int .i64 a0_8)).heap[gb204]? = some (.cells #[.int .i64 a0_0, .int .i64 a0_1, .int .i64 a0_2, .int .i64 a0_3, .int .i64 a0_4, .int .i64 a0_5, .int .i64 a0_6, .int .i64 a0_7, .int .i64 a0_8] 23 (0, 0))) := ⟨by (with_reducible repeat (first | refine bN ?_ _ | refine bD ?_ | refine bA ?_ _)); refine bR ?_ NB204_207.out _; (with_reducible repeat (first | refine bN ?_ _ | refine bD ?_ | refine bA ?_ _)); refine bR ?_ NB204_207.out _; (with_reducible repeat (first | refine bN ?_ _ | refine bD ?_ | refine bA ?_ _)); refine bR ?_ NB204_207.out _; (with_reducible repeat (first | refine bN ?_ _ | refine bD ?_ | refine bA ?_ _)); refine bR ?_ NB204_207.out _; (with_reducible repeat (first | refine bN ?_ _ | refine bD ?_ | refine bA ?_ _)); refine bR ?_ NB204_207.out _; (with_reducible repeat (first | refine bN ?_ _ | refine bD ?_ | refine bA ?_ _)); refine bR ?_ NB204_207.out _; (with_reducible repeat (first | refine bN ?_ _ | refine bD ?_ | refine bA ?_ _)); refine bR ?_ NB204_207.out _; (with_reducible repeat (first | refine bN ?_ _ | refine bD ?_ | refine bA ?_ _)); refine bR ?_ NB204_207.out _; (with_reducible repeat (first | refine bN ?_ _ | refine bD ?_ | refine bA ?_ _)); refine bR ?_ NB204_207.out _; (with_reducible repeat (first | refine bN ?_ _ | refine bD ?_ | refine bA ?_ _)); exact BK204.out⟩
      have n1_ : Aside0 ((((((((((w45.setCell ⟨gb207, 0, none⟩ (.int .i64 a0_0)).setCell ⟨gb207, 1, none⟩ (.int .i64 a0_1)).setCell ⟨gb207, 2, none⟩ (.int .i64 a0_2)).setCell ⟨gb207, 3, none⟩ (.int .i64 a0_3)).setCell ⟨gb207, 4, none⟩ (.int .i64 a0_4)).setCell ⟨gb207, 5, none⟩ (.int .i64 a0_5)).setCell ⟨gb207, 6, none⟩ (.int .i64 a0_6)).setCell ⟨gb207, 7, none⟩ (.int .i64 a0_7)).setCell ⟨gb207, 8, none⟩ (.int .i64 a0_8)).heap[gb205]? = some (.cells #[.int .u8 a1_0, .string a1_1, .string a1_2, .int .i64 a1_3, .slice A1_4 l1_4.length c1_4] 27 (0, 0))) := ⟨by (with_reducible repeat (first | refine bN ?_ _ | refine bD ?_ | refine bA ?_ _)); refine bR ?_ NB205_207.out _; (with_reducible repeat (first | refine bN ?_ _ | refine bD ?_ | refine bA ?_ _)); refine bR ?_ NB205_207.out _; (with_reducible repeat (first | refine bN ?_ _ | refine bD ?_ | refine bA ?_ _)); refine bR ?_ NB205_207.out _; (with_reducible repeat (first | refine bN ?_ _ | refine bD ?_ | refine bA ?_ _)); refine bR ?_ NB205_207.out _; (with_reducible repeat (first | refine bN ?_ _ | refine bD ?_ | refine bA ?_ _)); refine bR ?_ NB205_207.out _; (with_reducible repeat (first | refine bN ?_ _ | refine bD ?_ | refine bA ?_ _)); refine bR ?_ NB205_207.out _; (with_reducible repeat (first | refine bN ?_ _ | refine bD ?_ | refine bA ?_ _)); refine bR ?_ NB205_207.out _; (with_reducible repeat (first | refine bN ?_ _ | refine bD ?_ | refine bA ?_ _)); refine bR ?_ NB205_207.out _; (with_reducible repeat (first | refine bN ?_ _ | refine bD ?_ | refine bA ?_ _)); refine bR ?_ NB205_207.out _; (with_reducible repeat (first | refine bN ?_ _ | refine bD ?_ | refine bA ?_ _)); exact BK205.out⟩
      have n2_ : Aside0 ((((((((((w45.setCell ⟨gb207, 0, none⟩ (.int .i64 a0_0)).setCell ⟨gb207, 1, none⟩ (.int .i64 a0_1)).setCell ⟨gb207, 2, none⟩ (.int .i64 a0_2)).setCell ⟨gb207, 3, none⟩ (.int .i64 a0_3)).setCell ⟨gb207, 4, none⟩ (.int .i64 a0_4)).setCell ⟨gb207, 5, none⟩ (.int .i64 a0_5)).setCell ⟨gb207, 6, none⟩ (.int .i64 a0_6)).setCell ⟨gb207, 7, none⟩ (.int .i64 a0_7)).setCell ⟨gb207, 8, none⟩ (.int .i64 a0_8)).heap[gb207]? = some (.cells #[.int .i64 a0_0, .int .i64 a0_1, .int .i64 a0_2, .int .i64 a0_3, .int .i64 a0_4, .int .i64 a0_5, .int .i64 a0_6, .int .i64 a0_7, .int .i64 a0_8] 23 (0, 0))) := ⟨by (with_reducible repeat (first | refine bN ?_ _ | refine bD ?_ | refine bA ?_ _)); refine bP (cs := #[.int .i64 a0_0, .int .i64 a0_1, .int .i64 a0_2, .int .i64 a0_3, .int .i64 a0_4, .int .i64 a0_5, .int .i64 a0_6, .int .i64 a0_7, .int .i64 0]) ?_ 8 _ rfl; (with_reducible repeat (first | refine bN ?_ _ | refine bD ?_ | refine bA ?_ _)); refine bP (cs := #[.int .i64 a0_0, .int .i64 a0_1, .int .i64 a0_2, .int .i64 a0_3, .int .i64 a0_4, .int .i64 a0_5, .int .i64 a0_6, .int .i64 0, .int .i64 0]) ?_ 7 _ rfl; (with_reducible repeat (first | refine bN ?_ _ | refine bD ?_ | refine bA ?_ _)); refine bP (cs := #[.int .i64 a0_0, .int .i64 a0_1, .int .i64 a0_2, .int .i64 a0_3, .int .i64 a0_4, .int .i64 a0_5, .int .i64 0, .int .i64 0, .int .i64 0]) ?_ 6 _ rfl; (with_reducible repeat (first | refine bN ?_ _ | refine bD ?_ | refine bA ?_ _)); refine bP (cs := #[.int .i64 a0_0, .int .i64 a0_1, .int .i64 a0_2, .int .i64 a0_3, .int .i64 a0_4, .int .i64 0, .int .i64 0, .int .i64 0, .int .i64 0]) ?_ 5 _ rfl; (with_reducible repeat (first | refine bN ?_ _ | refine bD ?_ | refine bA ?_ _)); refine bP (cs := #[.int .i64 a0_0, .int .i64 a0_1, .int .i64 a0_2, .int .i64 a0_3, .int .i64 0, .int .i64 0, .int .i64 0, .int .i64 0, .int .i64 0]) ?_ 4 _ rfl; (with_reducible repeat (first | refine bN ?_ _ | refine bD ?_ | refine bA ?_ _)); refine bP (cs := #[.int .i64 a0_0, .int .i64 a0_1, .int .i64 a0_2, .int .i64 0, .int .i64 0, .int .i64 0, .int .i64 0, .int .i64 0, .int .i64 0]) ?_ 3 _ rfl; (with_reducible repeat (first | refine bN ?_ _ | refine bD ?_ | refine bA ?_ _)); refine bP (cs := #[.int .i64 a0_0, .int .i64 a0_1, .int .i64 0, .int .i64 0, .int .i64 0, .int .i64 0, .int .i64 0, .int .i64 0, .int .i64 0]) ?_ 2 _ rfl; (with_reducible repeat (first | refine bN ?_ _ | refine bD ?_ | refine bA ?_ _)); refine bP (cs := #[.int .i64 a0_0, .int .i64 0, .int .i64 0, .int .i64 0, .int .i64 0, .int .i64 0, .int .i64 0, .int .i64 0, .int .i64 0]) ?_ 1 _ rfl; (with_reducible repeat (first | refine bN ?_ _ | refine bD ?_ | refine bA ?_ _)); refine bP (cs := #[.int .i64 0, .int .i64 0, .int .i64 0, .int .i64 0, .int .i64 0, .int .i64 0, .int .i64 0, .int .i64 0, .int .i64 0]) ?_ 0 _ rfl; (with_reducible repeat (first | refine bN ?_ _ | refine bD ?_ | refine bA ?_ _)); exact BK207.out⟩
      have n3_ : Aside0 (Below w.heap.size w (((((((((w45.setCell ⟨gb207, 0, none⟩ (.int .i64 a0_0)).setCell ⟨gb207, 1, none⟩ (.int .i64 a0_1)).setCell ⟨gb207, 2, none⟩ (.int .i64 a0_2)).setCell ⟨gb207, 3, none⟩ (.int .i64 a0_3)).setCell ⟨gb207, 4, none⟩ (.int .i64 a0_4)).setCell ⟨gb207, 5, none⟩ (.int .i64 a0_5)).setCell ⟨gb207, 6, none⟩ (.int .i64 a0_6)).setCell ⟨gb207, 7, none⟩ (.int .i64 a0_7)).setCell ⟨gb207, 8, none⟩ (.int .i64 a0_8))) := ⟨by repeat (first | (with_reducible first | exact HB.out | apply wA | apply wN | apply w1 | refine wS ?_ GE204.out | refine wS ?_ GE205.out | refine wS ?_ GE207.out) | exact HB.out)⟩
      (try clear BK204)
      (try clear BK205)
      (try clear BK207)
      (try clear HB)
      generalize (((((((((w45.setCell ⟨gb207, 0, none⟩ (.int .i64 a0_0)).setCell ⟨gb207, 1, none⟩ (.int .i64 a0_1)).setCell ⟨gb207, 2, none⟩ (.int .i64 a0_2)).setCell ⟨gb207, 3, none⟩ (.int .i64 a0_3)).setCell ⟨gb207, 4, none⟩ (.int .i64 a0_4)).setCell ⟨gb207, 5, none⟩ (.int .i64 a0_5)).setCell ⟨gb207, 6, none⟩ (.int .i64 a0_6)).setCell ⟨gb207, 7, none⟩ (.int .i64 a0_7)).setCell ⟨gb207, 8, none⟩ (.int .i64 a0_8)) = w49 at n0_ n1_ n2_ n3_ ⊢
      have BK204 := n0_
      have BK205 := n1_
      have BK207 := n2_
      have HB := n3_
      clear n0_ n1_ n2_ n3_
      have n0_ := Aside0.mk (bD BK204.out)
      have n1_ := Aside0.mk (bD BK205.out)
      have n2_ := Aside0.mk (bD BK207.out)
      have n3_ := Aside0.mk (w1 HB.out)
      clear BK204
      clear BK205
      clear BK207
      clear HB
      have BK204 := n0_
      have BK205 := n1_
      have BK207 := n2_
      have HB := n3_
      clear n0_ n1_ n2_ n3_
      refine start_ (n := 21) (S := fun w' => w'.cell? ⟨gb204, 0, none⟩ = some (.int .i64 a0_0) ∧ w'.cell? ⟨gb204, 1, none⟩ = some (.int .i64 a0_1) ∧ w'.cell? ⟨gb204, 2, none⟩ = some (.int .i64 a0_2) ∧ w'.cell? ⟨gb204, 3, none⟩ = some (.int .i64 a0_3) ∧ w'.cell? ⟨gb204, 4, none⟩ = some (.int .i64 a0_4) ∧ w'.cell? ⟨gb204, 5, none⟩ = some (.int .i64 a0_5) ∧ w'.cell? ⟨gb204, 6, none⟩ = some (.int .i64 a0_6) ∧ w'.cell? ⟨gb204, 7, none⟩ = some (.int .i64 a0_7) ∧ w'.cell? ⟨gb204, 8, none⟩ = some (.int .i64 a0_8)) (ds := []) #[false, false, false, false, false, false, false, false, false, false, false, false, false, false, false, false, false, false, false, false, false] (by kernel_rfl) rfl rfl ⟨(bC BK204.out 0).trans rfl, (bC BK204.out 1).trans rfl, (bC BK204.out 2).trans rfl, (bC BK204.out 3).trans rfl, (bC BK204.out 4).trans rfl, (bC BK204.out 5).trans rfl, (bC BK204.out 6).trans rfl, (bC BK204.out 7).trans rfl, (bC BK204.out 8).trans rfl⟩ (fun hHeld => ?_); refine with_tabW catchmentlaw21_RoomWider.tab4 catchmentlaw21_RoomWider.bits4 (fun HT_ HW_ => ?_)
      generalize w49.drew = w50 at BK204 BK205 BK207 HB hHeld ⊢
      refine pure_ (i := 0) (N := some 27) (v := ?_) (a' := ?_) #[true, false, false, false, false, false, false, false, false, false, false, false, false, false, false, false, false, false, false, false, false] rfl rfl (any_of HT_.out (by kernel_rfl)) (fun _ _ _ h => h) (Or.inl ⟨by rfl, ?_⟩) ?_ ?_
      rotate_left
      ·intro w'
       go_simp
       with_reducible rfl
      rotate_left
      ·simp only [Act.put, sA1, sA2, sA3, i64_w, i32_w]
       rfl
      refine pure_ (i := 2) (N := some 29) (v := ?_) (a' := ?_) #[true, false, true, false, false, false, false, false, false, false, false, false, false, false, false, false, false, false, false, false, false] rfl rfl (any_of HT_.out (by kernel_rfl)) (fun _ _ _ h => h) (Or.inl ⟨by rfl, ?_⟩) ?_ ?_
      rotate_left
      ·intro w'
       go_simp
       with_reducible rfl
      rotate_left
      ·simp only [Act.put, sA1, sA2, sA3, i64_w, i32_w]
       rfl
      refine pure_ (i := 3) (N := some 30) (v := ?_) (a' := ?_) #[true, false, true, true, false, false, false, false, false, false, false, false, false, false, false, false, false, false, false, false, false] rfl rfl (any_of HT_.out (by kernel_rfl)) (fun _ _ _ h => h) (Or.inl ⟨by rfl, ?_⟩) ?_ ?_
      rotate_left
      ·intro w'
       go_simp
       with_reducible rfl
      rotate_left
      ·simp only [Act.put, sA1, sA2, sA3, i64_w, i32_w]
       rfl
      refine pure_ (i := 5) (N := some 32) (v := ?_) (a' := ?_) #[true, false, true, true, false, true, false, false, false, false, false, false, false, false, false, false, false, false, false, false, false] rfl rfl (any_of HT_.out (by kernel_rfl)) (fun _ _ _ h => h) (Or.inl ⟨by rfl, ?_⟩) ?_ ?_
      rotate_left
      ·intro w'
       go_simp
       with_reducible rfl
      rotate_left
      ·simp only [Act.put, sA1, sA2, sA3, i64_w, i32_w]
       rfl
      refine pure_ (i := 7) (N := some 34) (v := ?_) (a' := ?_) #[true, false, true, true, false, true, false, true, false, false, false, false, false, false, false, false, false, false, false, false, false] rfl rfl (any_of HT_.out (by kernel_rfl)) (fun _ _ _ h => h) (Or.inl ⟨by rfl, ?_⟩) ?_ ?_
      rotate_left
      ·intro w'
       go_simp
       with_reducible rfl
      rotate_left
      ·simp only [Act.put, sA1, sA2, sA3, i64_w, i32_w]
       rfl
      refine pure_ (i := 8) (N := some 35) (v := ?_) (a' := ?_) #[true, false, true, true, false, true, false, true, true, false, false, false, false, false, false, false, false, false, false, false, false] rfl rfl (any_of HT_.out (by kernel_rfl)) (fun _ _ _ h => h) (Or.inl ⟨by rfl, ?_⟩) ?_ ?_
      rotate_left
      ·intro w'
       go_simp
       with_reducible rfl
      rotate_left
      ·simp only [Act.put, sA1, sA2, sA3, i64_w, i32_w]
       rfl
      refine pure_ (i := 10) (N := some 37) (v := ?_) (a' := ?_) #[true, false, true, true, false, true, false, true, true, false, true, false, false, false, false, false, false, false, false, false, false] rfl rfl (any_of HT_.out (by kernel_rfl)) (fun _ _ _ h => h) (Or.inl ⟨by rfl, ?_⟩) ?_ ?_
      rotate_left
      ·intro w'
       go_simp
       with_reducible rfl
      rotate_left
      ·simp only [Act.put, sA1, sA2, sA3, i64_w, i32_w]
       rfl
      refine pure_ (i := 12) (N := some 39) (v := ?_) (a' := ?_) #[true, false, true, true, false, true, false, true, true, false, true, false, true, false, false, false, false, false, false, false, false] rfl rfl (any_of HT_.out (by kernel_rfl)) (fun _ _ _ h => h) (Or.inl ⟨by rfl, ?_⟩) ?_ ?_
      rotate_left
      ·intro w'
       go_simp
       with_reducible rfl
      rotate_left
      ·simp only [Act.put, sA1, sA2, sA3, i64_w, i32_w]
       rfl
      refine pure_ (i := 13) (N := some 40) (v := ?_) (a' := ?_) #[true, false, true, true, false, true, false, true, true, false, true, false, true, true, false, false, false, false, false, false, false] rfl rfl (any_of HT_.out (by kernel_rfl)) (fun _ _ _ h => h) (Or.inl ⟨by rfl, ?_⟩) ?_ ?_
      rotate_left
      ·intro w'
       go_simp
       with_reducible rfl
      rotate_left
      ·simp only [Act.put, sA1, sA2, sA3, i64_w, i32_w]
       rfl
      refine take_ (i := 1) (N := some 28) (v := ?_) (a' := ?_) #[true, true, true, true, false, true, false, true, true, false, true, false, true, true, false, false, false, false, false, false, false] rfl rfl (take_ofW HT_.out HW_.out (by kernel_rfl)) (fun _ _ _ h => h) (Or.inl ⟨by rfl, ?_⟩) hHeld ?_ ?_
      rotate_left
      ·rintro w' ⟨s0, s1, s2, s3, s4, s5, s6, s7, s8⟩
       go_simp
       with_reducible rfl
      rotate_left
      ·simp only [Act.put, sA1, sA2, sA3, i64_w, i32_w]
       rfl
      refine pure_ (i := 4) (N := some 31) (v := ?_) (a' := ?_) #[true, true, true, true, true, true, false, true, true, false, true, false, true, true, false, false, false, false, false, false, false] rfl rfl (any_of HT_.out (by kernel_rfl)) (fun _ _ _ h => h) (Or.inl ⟨by rfl, ?_⟩) ?_ ?_
      rotate_left
      ·intro w'
       go_simp
       with_reducible rfl
      rotate_left
      ·simp only [Act.put, sA1, sA2, sA3, i64_w, i32_w]
       rfl
      refine pure_ (i := 15) (N := some 42) (v := ?_) (a' := ?_) #[true, true, true, true, true, true, false, true, true, false, true, false, true, true, false, true, false, false, false, false, false] rfl rfl (any_of HT_.out (by kernel_rfl)) (fun _ _ _ h => h) (Or.inl ⟨by rfl, ?_⟩) ?_ ?_
      rotate_left
      ·intro w'
       go_simp
       with_reducible rfl
      rotate_left
      ·simp only [Act.put, sA1, sA2, sA3, i64_w, i32_w]
       rfl
      refine take_ (i := 6) (N := some 33) (v := ?_) (a' := ?_) #[true, true, true, true, true, true, true, true, true, false, true, false, true, true, false, true, false, false, false, false, false] rfl rfl (take_ofW HT_.out HW_.out (by kernel_rfl)) (fun _ _ _ h => h) (Or.inl ⟨by rfl, ?_⟩) hHeld ?_ ?_
      rotate_left
      ·rintro w' ⟨s0, s1, s2, s3, s4, s5, s6, s7, s8⟩
       go_simp
       with_reducible rfl
      rotate_left
      ·simp only [Act.put, sA1, sA2, sA3, i64_w, i32_w]
       rfl
      refine pure_ (i := 9) (N := some 36) (v := ?_) (a' := ?_) #[true, true, true, true, true, true, true, true, true, true, true, false, true, true, false, true, false, false, false, false, false] rfl rfl (any_of HT_.out (by kernel_rfl)) (fun _ _ _ h => h) (Or.inl ⟨by rfl, ?_⟩) ?_ ?_
      rotate_left
      ·intro w'
       go_simp
       with_reducible rfl
      rotate_left
      ·simp only [Act.put, sA1, sA2, sA3, i64_w, i32_w]
       rfl
      refine take_ (i := 11) (N := some 38) (v := ?_) (a' := ?_) #[true, true, true, true, true, true, true, true, true, true, true, true, true, true, false, true, false, false, false, false, false] rfl rfl (take_ofW HT_.out HW_.out (by kernel_rfl)) (fun _ _ _ h => h) (Or.inl ⟨by rfl, ?_⟩) hHeld ?_ ?_
      rotate_left
      ·rintro w' ⟨s0, s1, s2, s3, s4, s5, s6, s7, s8⟩
       go_simp
       with_reducible rfl
      rotate_left
      ·simp only [Act.put, sA1, sA2, sA3, i64_w, i32_w]
       rfl
      refine pure_ (i := 14) (N := some 41) (v := ?_) (a' := ?_) #[true, true, true, true, true, true, true, true, true, true, true, true, true, true, true, true, false, false, false, false, false] rfl rfl (any_of HT_.out (by kernel_rfl)) (fun _ _ _ h => h) (Or.inl ⟨by rfl, ?_⟩) ?_ ?_
      rotate_left
      ·intro w'
       go_simp
       with_reducible rfl
      rotate_left
      ·simp only [Act.put, sA1, sA2, sA3, i64_w, i32_w]
       rfl
      refine one_ (i := 16) (N := none) #[true, true, true, true, true, true, true, true, true, true, true, true, true, true, true, true, true, false, false, false, false] rfl rfl (one_of HT_.out (by kernel_rfl)) (by decide) (fun K hK => ?_)
      have hs51 : w50.cell? ⟨gb207, 0, none⟩ = some (.int .i64 a0_0) := (bC BK207.out 0).trans rfl
      have hfs51 := bF BK207.out 0
      have hns51_0 := NB204_207.out
      have hns51_1 := NB205_207.out
      have hms51_0 := NB207_204.out
      have hms51_1 := NB207_205.out
      refine skip_ (w1 := ?_) (by rfl) rfl ?_ ?_
      rotate_left
      ·go_simp
       rfl
      refine hK.out _ _ ⟨((cF (p := ⟨gb207, _, none⟩) NB204_207.out _).trans (hHeld.1)), ((cF (p := ⟨gb207, _, none⟩) NB204_207.out _).trans (hHeld.2.1)), ((cF (p := ⟨gb207, _, none⟩) NB204_207.out _).trans (hHeld.2.2.1)), ((cF (p := ⟨gb207, _, none⟩) NB204_207.out _).trans (hHeld.2.2.2.1)), ((cF (p := ⟨gb207, _, none⟩) NB204_207.out _).trans (hHeld.2.2.2.2.1)), ((cF (p := ⟨gb207, _, none⟩) NB204_207.out _).trans (hHeld.2.2.2.2.2.1)), ((cF (p := ⟨gb207, _, none⟩) NB204_207.out _).trans (hHeld.2.2.2.2.2.2.1)), ((cF (p := ⟨gb207, _, none⟩) NB204_207.out _).trans (hHeld.2.2.2.2.2.2.2.1)), ((cF (p := ⟨gb207, _, none⟩) NB204_207.out _).trans (hHeld.2.2.2.2.2.2.2.2))⟩ (fun hHeld => ?_)
      clear hK K
      refine pure_ (i := 17) (N := some 43) (v := ?_) (a' := ?_) #[true, true, true, true, true, true, true, true, true, true, true, true, true, true, true, true, true, true, false, false, false] rfl rfl (any_of HT_.out (by kernel_rfl)) (fun _ _ _ h => h) (Or.inl ⟨by rfl, ?_⟩) ?_ ?_
      rotate_left
      ·intro w'
       go_simp
       with_reducible rfl
      rotate_left
      ·simp only [Act.put, sA1, sA2, sA3, i64_w, i32_w]
       rfl
      refine one_ (i := 18) (N := none) #[true, true, true, true, true, true, true, true, true, true, true, true, true, true, true, true, true, true, true, false, false] rfl rfl (one_of HT_.out (by kernel_rfl)) (by decide) (fun K hK => ?_)
      have hs52 : w50.cell? ⟨gb207, 1, none⟩ = some (.int .i64 a0_1) := (bC BK207.out 1).trans rfl
      have hfs52 := bF BK207.out 1
      have hns52_0 := NB204_207.out
      have hns52_1 := NB205_207.out
      have hms52_0 := NB207_204.out
      have hms52_1 := NB207_205.out
      refine skip_ (w1 := ?_) (by rfl) rfl ?_ ?_
      rotate_left
      ·go_simp
       rfl
      refine hK.out _ _ ⟨((cF (p := ⟨gb207, _, none⟩) NB204_207.out _).trans (hHeld.1)), ((cF (p := ⟨gb207, _, none⟩) NB204_207.out _).trans (hHeld.2.1)), ((cF (p := ⟨gb207, _, none⟩) NB204_207.out _).trans (hHeld.2.2.1)), ((cF (p := ⟨gb207, _, none⟩) NB204_207.out _).trans (hHeld.2.2.2.1)), ((cF (p := ⟨gb207, _, none⟩) NB204_207.out _).trans (hHeld.2.2.2.2.1)), ((cF (p := ⟨gb207, _, none⟩) NB204_207.out _).trans (hHeld.2.2.2.2.2.1)), ((cF (p := ⟨gb207, _, none⟩) NB204_207.out _).trans (hHeld.2.2.2.2.2.2.1)), ((cF (p := ⟨gb207, _, none⟩) NB204_207.out _).trans (hHeld.2.2.2.2.2.2.2.1)), ((cF (p := ⟨gb207, _, none⟩) NB204_207.out _).trans (hHeld.2.2.2.2.2.2.2.2))⟩ (fun hHeld => ?_)
      clear hK K
      refine pure_ (i := 19) (N := some 44) (v := ?_) (a' := ?_) #[true, true, true, true, true, true, true, true, true, true, true, true, true, true, true, true, true, true, true, true, false] rfl rfl (any_of HT_.out (by kernel_rfl)) (fun _ _ _ h => h) (Or.inl ⟨by rfl, ?_⟩) ?_ ?_
      rotate_left
      ·intro w'
       go_simp
       with_reducible rfl
      rotate_left
      ·simp only [Act.put, sA1, sA2, sA3, i64_w, i32_w]
       rfl
      refine one_ (i := 20) (N := none) #[true, true, true, true, true, true, true, true, true, true, true, true, true, true, true, true, true, true, true, true, true] rfl rfl (one_of HT_.out (by kernel_rfl)) (by decide) (fun K hK => ?_)
      have hs53 : w50.cell? ⟨gb207, 8, none⟩ = some (.int .i64 a0_8) := (bC BK207.out 8).trans rfl
      have hfs53 := bF BK207.out 8
      have hns53_0 := NB204_207.out
      have hns53_1 := NB205_207.out
      have hms53_0 := NB207_204.out
      have hms53_1 := NB207_205.out
      refine skip_ (w1 := ?_) (by rfl) rfl ?_ ?_
      rotate_left
      ·go_simp
       rfl
      refine hK.out _ _ ⟨((cF (p := ⟨gb207, _, none⟩) NB204_207.out _).trans (hHeld.1)), ((cF (p := ⟨gb207, _, none⟩) NB204_207.out _).trans (hHeld.2.1)), ((cF (p := ⟨gb207, _, none⟩) NB204_207.out _).trans (hHeld.2.2.1)), ((cF (p := ⟨gb207, _, none⟩) NB204_207.out _).trans (hHeld.2.2.2.1)), ((cF (p := ⟨gb207, _, none⟩) NB204_207.out _).trans (hHeld.2.2.2.2.1)), ((cF (p := ⟨gb207, _, none⟩) NB204_207.out _).trans (hHeld.2.2.2.2.2.1)), ((cF (p := ⟨gb207, _, none⟩) NB204_207.out _).trans (hHeld.2.2.2.2.2.2.1)), ((cF (p := ⟨gb207, _, none⟩) NB204_207.out _).trans (hHeld.2.2.2.2.2.2.2.1)), ((cF (p := ⟨gb207, _, none⟩) NB204_207.out _).trans (hHeld.2.2.2.2.2.2.2.2))⟩ (fun hHeld => ?_)
      clear hK K
      refine done_ (done_of HT_.out (by kernel_rfl)) ?_
      try go_wp2_with (first | ((with_reducible refine gate_callee (f := 6) rfl ?_); refine goesL_ (some 45) rfl rfl Try.func6 (by kernel_rfl) rfl #[] rfl (by (try simp only [mA1, mA2, mA3]); first | done | rfl | (simp only [mA5, mA4]; rfl)) ?_; (with_reducible refine (catchmentlaw21_live.calls kj5  true _ A20.out).mono ?_); rintro e w54 ⟨rfl, hb⟩; refine ⟨_, rfl, ?_⟩; have n0_ := Aside0.mk (bB (g := gb204) (o := .cells #[.int .i64 a0_0, .int .i64 a0_1, .int .i64 a0_2, .int .i64 a0_3, .int .i64 a0_4, .int .i64 a0_5, .int .i64 a0_6, .int .i64 a0_7, .int .i64 a0_8] 23 (0, 0)) (by (with_reducible repeat (first | refine bN ?_ _ | refine bD ?_ | refine bA ?_ _)); refine bR ?_ NB204_207.out _; (with_reducible repeat (first | refine bN ?_ _ | refine bD ?_ | refine bA ?_ _)); refine bR ?_ NB204_207.out _; (with_reducible repeat (first | refine bN ?_ _ | refine bD ?_ | refine bA ?_ _)); refine bR ?_ NB204_207.out _; (with_reducible repeat (first | refine bN ?_ _ | refine bD ?_ | refine bA ?_ _)); exact BK204.out) hb); have n1_ := Aside0.mk (bB (g := gb205) (o := .cells #[.int .u8 a1_0, .string a1_1, .string a1_2, .int .i64 a1_3, .slice A1_4 l1_4.length c1_4] 27 (0, 0)) (by (with_reducible repeat (first | refine bN ?_ _ | refine bD ?_ | refine bA ?_ _)); refine bR ?_ NB205_207.out _; (with_reducible repeat (first | refine bN ?_ _ | refine bD ?_ | refine bA ?_ _)); refine bR ?_ NB205_207.out _; (with_reducible repeat (first | refine bN ?_ _ | refine bD ?_ | refine bA ?_ _)); refine bR ?_ NB205_207.out _; (with_reducible repeat (first | refine bN ?_ _ | refine bD ?_ | refine bA ?_ _)); exact BK205.out) hb); have n2_ := Aside0.mk (bB (g := gb207) (o := .cells #[.int .i64 (wrap64 (a0_0 + (wrap64 (a2)))), .int .i64 (wrap64 (a0_1 + (wrap64 (a3)))), .int .i64 a0_2, .int .i64 a0_3, .int .i64 a0_4, .int .i64 a0_5, .int .i64 a0_6, .int .i64 a0_7, .int .i64 (wrap64 (a0_8 + (wrap64 (a4))))] 23 (0, 0)) (by (with_reducible repeat (first | refine bN ?_ _ | refine bD ?_ | refine bA ?_ _)); refine bP (cs := #[.int .i64 (wrap64 (a0_0 + (wrap64 (a2)))), .int .i64 (wrap64 (a0_1 + (wrap64 (a3)))), .int .i64 a0_2, .int .i64 a0_3, .int .i64 a0_4, .int .i64 a0_5, .int .i64 a0_6, .int .i64 a0_7, .int .i64 a0_8]) ?_ 8 _ rfl; (with_reducible repeat (first | refine bN ?_ _ | refine bD ?_ | refine bA ?_ _)); refine bP (cs := #[.int .i64 (wrap64 (a0_0 + (wrap64 (a2)))), .int .i64 a0_1, .int .i64 a0_2, .int .i64 a0_3, .int .i64 a0_4, .int .i64 a0_5, .int .i64 a0_6, .int .i64 a0_7, .int .i64 a0_8]) ?_ 1 _ rfl; (with_reducible repeat (first | refine bN ?_ _ | refine bD ?_ | refine bA ?_ _)); refine bP (cs := #[.int .i64 a0_0, .int .i64 a0_1, .int .i64 a0_2, .int .i64 a0_3, .int .i64 a0_4, .int .i64 a0_5, .int .i64 a0_6, .int .i64 a0_7, .int .i64 a0_8]) ?_ 0 _ rfl; (with_reducible repeat (first | refine bN ?_ _ | refine bD ?_ | refine bA ?_ _)); exact BK207.out) hb); have n3_ := Aside0.mk (wT (by repeat (first | (with_reducible first | exact HB.out | apply wA | apply wN | apply w1 | refine wS ?_ GE204.out | refine wS ?_ GE205.out | refine wS ?_ GE207.out) | exact HB.out)) hb); clear BK204; clear BK205; clear BK207; clear HB; have BK204 := n0_; have BK205 := n1_; have BK207 := n2_; have HB := n3_; clear n0_ n1_ n2_ n3_; (try clear hb); (try clear hb2); (try clear hk); (try clear hi); have hcz55_0 : w54.cell? ⟨gb205, 0, none⟩ = some (.int .u8 a1_0) := (bC BK205.out 0).trans rfl; have hcz55_1 : w54.cell? ⟨gb205, 1, none⟩ = some (.string a1_1) := (bC BK205.out 1).trans rfl; have hcz55_2 : w54.cell? ⟨gb205, 2, none⟩ = some (.string a1_2) := (bC BK205.out 2).trans rfl; have hcz55_3 : w54.cell? ⟨gb205, 3, none⟩ = some (.int .i64 a1_3) := (bC BK205.out 3).trans rfl; have hcz55_4 : w54.cell? ⟨gb205, 4, none⟩ = some (.slice A1_4 l1_4.length c1_4) := (bC BK205.out 4).trans rfl; have hfz55_0 := bF BK205.out 0; have hfz55_1 := bF BK205.out 1; have hfz55_2 := bF BK205.out 2; have hfz55_3 := bF BK205.out 3; have hfz55_4 := bF BK205.out 4; have hcz56_0 : w54.cell? ⟨gb204, 0, none⟩ = some (.int .i64 a0_0) := (bC BK204.out 0).trans rfl; have hcz56_1 : w54.cell? ⟨gb204, 1, none⟩ = some (.int .i64 a0_1) := (bC BK204.out 1).trans rfl; have hcz56_2 : w54.cell? ⟨gb204, 2, none⟩ = some (.int .i64 a0_2) := (bC BK204.out 2).trans rfl; have hcz56_3 : w54.cell? ⟨gb204, 3, none⟩ = some (.int .i64 a0_3) := (bC BK204.out 3).trans rfl; have hcz56_4 : w54.cell? ⟨gb204, 4, none⟩ = some (.int .i64 a0_4) := (bC BK204.out 4).trans rfl; have hcz56_5 : w54.cell? ⟨gb204, 5, none⟩ = some (.int .i64 a0_5) := (bC BK204.out 5).trans rfl; have hcz56_6 : w54.cell? ⟨gb204, 6, none⟩ = some (.int .i64 a0_6) := (bC BK204.out 6).trans rfl; have hcz56_7 : w54.cell? ⟨gb204, 7, none⟩ = some (.int .i64 a0_7) := (bC BK204.out 7).trans rfl; have hcz56_8 : w54.cell? ⟨gb204, 8, none⟩ = some (.int .i64 a0_8) := (bC BK204.out 8).trans rfl; have hfz56_0 := bF BK204.out 0; have hfz56_1 := bF BK204.out 1; have hfz56_2 := bF BK204.out 2; have hfz56_3 := bF BK204.out 3; have hfz56_4 := bF BK204.out 4; have hfz56_5 := bF BK204.out 5; have hfz56_6 := bF BK204.out 6; have hfz56_7 := bF BK204.out 7; have hfz56_8 := bF BK204.out 8) | (go_at_call 9; (with_reducible refine (room_Ask.calls kj5 a1_0 a1_1 a1_2 a1_3 _ _ l1_4 a0_0 a0_1 a0_2 a0_3 a0_4 a0_5 a0_6 a0_7 a0_8 t209 _ ?side1 ?side2 A22.out).mono ?_); (case side1 => repeat (first | exact (Kd.C_below HR1_4.out HB.out) | (with_reducible refine Kd.C_alloc ?_ _) | (with_reducible refine Kd.C_drewN ?_ _) | (with_reducible refine Kd.C_drew ?_))); (case side2 => exact HC1_4.out); rintro e w57 ⟨rfl, hb⟩; have n0_ := Aside0.mk (bB (g := gb204) (o := .cells #[.int .i64 a0_0, .int .i64 a0_1, .int .i64 a0_2, .int .i64 a0_3, .int .i64 a0_4, .int .i64 a0_5, .int .i64 a0_6, .int .i64 a0_7, .int .i64 a0_8] 23 (0, 0)) (by (with_reducible repeat (first | refine bN ?_ _ | refine bD ?_ | refine bA ?_ _)); exact BK204.out) hb); have n1_ := Aside0.mk (bB (g := gb205) (o := .cells #[.int .u8 a1_0, .string a1_1, .string a1_2, .int .i64 a1_3, .slice A1_4 l1_4.length c1_4] 27 (0, 0)) (by (with_reducible repeat (first | refine bN ?_ _ | refine bD ?_ | refine bA ?_ _)); exact BK205.out) hb); have n2_ := Aside0.mk (bB (g := gb207) (o := .cells #[.int .i64 (wrap64 (a0_0 + (wrap64 (a2)))), .int .i64 (wrap64 (a0_1 + (wrap64 (a3)))), .int .i64 a0_2, .int .i64 a0_3, .int .i64 a0_4, .int .i64 a0_5, .int .i64 a0_6, .int .i64 a0_7, .int .i64 (wrap64 (a0_8 + (wrap64 (a4))))] 23 (0, 0)) (by (with_reducible repeat (first | refine bN ?_ _ | refine bD ?_ | refine bA ?_ _)); exact BK207.out) hb); have n3_ := Aside0.mk (wT (by repeat (first | (with_reducible first | exact HB.out | apply wA | apply wN | apply w1 | refine wS ?_ GE204.out | refine wS ?_ GE205.out | refine wS ?_ GE207.out) | exact HB.out)) hb); clear BK204; clear BK205; clear BK207; clear HB; have BK204 := n0_; have BK205 := n1_; have BK207 := n2_; have HB := n3_; clear n0_ n1_ n2_ n3_; (try clear hb); (try clear hb2); (try clear hk); (try clear hi)))
      go_ret
      exact ⟨by first | rfl | (simp [errW_none, errW_some] <;> rfl) | (simp [*, errW_none, errW_some] <;> rfl), by repeat (first | (with_reducible first | exact HB.out | apply wA | apply wN | apply w1 | refine wS ?_ GE204.out | refine wS ?_ GE205.out | refine wS ?_ GE207.out) | exact HB.out)⟩
    ·replace c21 := Bool.eq_false_iff.mpr c21
     subst c21
     have H1 : (some false) = some r := by rw [if_neg (show ¬ (false = true) by decide)] at H; exact H
     clear H
     have H := H1
     clear H1
     obtain rfl := Option.some.inj H
     have hnb58 := NB204_205.out
     have hnc58 := NB205_204.out
     have hcz59_0 : wc.cell? ⟨gb204, 0, none⟩ = some (.int .i64 a0_0) := (bC BK204.out 0).trans rfl
     have hcz59_1 : wc.cell? ⟨gb204, 1, none⟩ = some (.int .i64 a0_1) := (bC BK204.out 1).trans rfl
     have hcz59_2 : wc.cell? ⟨gb204, 2, none⟩ = some (.int .i64 a0_2) := (bC BK204.out 2).trans rfl
     have hcz59_3 : wc.cell? ⟨gb204, 3, none⟩ = some (.int .i64 a0_3) := (bC BK204.out 3).trans rfl
     have hcz59_4 : wc.cell? ⟨gb204, 4, none⟩ = some (.int .i64 a0_4) := (bC BK204.out 4).trans rfl
     have hcz59_5 : wc.cell? ⟨gb204, 5, none⟩ = some (.int .i64 a0_5) := (bC BK204.out 5).trans rfl
     have hcz59_6 : wc.cell? ⟨gb204, 6, none⟩ = some (.int .i64 a0_6) := (bC BK204.out 6).trans rfl
     have hcz59_7 : wc.cell? ⟨gb204, 7, none⟩ = some (.int .i64 a0_7) := (bC BK204.out 7).trans rfl
     have hcz59_8 : wc.cell? ⟨gb204, 8, none⟩ = some (.int .i64 a0_8) := (bC BK204.out 8).trans rfl
     have hfz59_0 := bF BK204.out 0
     have hfz59_1 := bF BK204.out 1
     have hfz59_2 := bF BK204.out 2
     have hfz59_3 := bF BK204.out 3
     have hfz59_4 := bF BK204.out 4
     have hfz59_5 := bF BK204.out 5
     have hfz59_6 := bF BK204.out 6
     have hfz59_7 := bF BK204.out 7
     have hfz59_8 := bF BK204.out 8
     try go_wp2_with (first | ((with_reducible refine gate_dst (N := 11) rfl ?_); refine box_event ?hg (N := 11) ?hd (cs := #[.int .i64 0, .int .i64 0, .int .i64 0, .int .i64 0, .int .i64 0, .int .i64 0, .int .i64 0, .int .i64 0, .int .i64 0]) (t := 23) ?hr ?_; (case hd => rfl); (case hg => rfl); (case hr => first | (go_simp; done) | (go_simp; rfl)); intro gb207 hg w60 hbox hb; have n0_ := Aside0.mk (bB (g := gb204) (o := .cells #[.int .i64 a0_0, .int .i64 a0_1, .int .i64 a0_2, .int .i64 a0_3, .int .i64 a0_4, .int .i64 a0_5, .int .i64 a0_6, .int .i64 a0_7, .int .i64 a0_8] 23 (0, 0)) (by (with_reducible repeat (first | refine bN ?_ _ | refine bD ?_ | refine bA ?_ _)); exact BK204.out) hb); have n1_ := Aside0.mk (bB (g := gb205) (o := .cells #[.int .u8 a1_0, .string a1_1, .string a1_2, .int .i64 a1_3, .slice A1_4 l1_4.length c1_4] 27 (0, 0)) (by (with_reducible repeat (first | refine bN ?_ _ | refine bD ?_ | refine bA ?_ _)); exact BK205.out) hb); have n2_ := Aside0.mk (wT (by repeat (first | (with_reducible first | exact HB.out | apply wA | apply wN | apply w1 | refine wS ?_ GE204.out | refine wS ?_ GE205.out) | exact HB.out)) hb); have n3_ := Aside0.mk (hbox); have n4_ := Aside0.mk ((by rw [hg]; exact (wZ (by repeat (first | (with_reducible first | exact HB.out | apply wA | apply wN | apply w1 | refine wS ?_ GE204.out | refine wS ?_ GE205.out) | exact HB.out))) : w.heap.size ≤ gb207)); have n5_ := Aside0.mk ((by rw [hg]; exact (wZ (by repeat (first | (with_reducible first | exact HB.out | apply wA | apply wN | apply w1 | refine wS ?_ GE204.out | refine wS ?_ GE205.out) | exact HB.out))) : w.heap.size ≤ gb207)); have n6_ := Aside0.mk ((by rw [hg]; exact Nat.ne_of_lt (blk_lt (g := gb204) (o := .cells #[.int .i64 a0_0, .int .i64 a0_1, .int .i64 a0_2, .int .i64 a0_3, .int .i64 a0_4, .int .i64 a0_5, .int .i64 a0_6, .int .i64 a0_7, .int .i64 a0_8] 23 (0, 0)) (by (with_reducible repeat (first | refine bN ?_ _ | refine bD ?_ | refine bA ?_ _)); exact BK204.out)) : gb204 ≠ gb207)); have n7_ := Aside0.mk ((by rw [hg]; exact Nat.ne_of_gt (blk_lt (g := gb204) (o := .cells #[.int .i64 a0_0, .int .i64 a0_1, .int .i64 a0_2, .int .i64 a0_3, .int .i64 a0_4, .int .i64 a0_5, .int .i64 a0_6, .int .i64 a0_7, .int .i64 a0_8] 23 (0, 0)) (by (with_reducible repeat (first | refine bN ?_ _ | refine bD ?_ | refine bA ?_ _)); exact BK204.out)) : gb207 ≠ gb204)); have n8_ := Aside0.mk ((by rw [hg]; exact Nat.ne_of_lt (blk_lt (g := gb205) (o := .cells #[.int .u8 a1_0, .string a1_1, .string a1_2, .int .i64 a1_3, .slice A1_4 l1_4.length c1_4] 27 (0, 0)) (by (with_reducible repeat (first | refine bN ?_ _ | refine bD ?_ | refine bA ?_ _)); exact BK205.out)) : gb205 ≠ gb207)); have n9_ := Aside0.mk ((by rw [hg]; exact Nat.ne_of_gt (blk_lt (g := gb205) (o := .cells #[.int .u8 a1_0, .string a1_1, .string a1_2, .int .i64 a1_3, .slice A1_4 l1_4.length c1_4] 27 (0, 0)) (by (with_reducible repeat (first | refine bN ?_ _ | refine bD ?_ | refine bA ?_ _)); exact BK205.out)) : gb207 ≠ gb205)); clear BK204; clear BK205; clear HB; have BK204 := n0_; have BK205 := n1_; have HB := n2_; have BK207 := n3_; have GW207 := n4_; have GE207 := n5_; have NB204_207 := n6_; have NB207_204 := n7_; have NB205_207 := n8_; have NB207_205 := n9_; clear n0_ n1_ n2_ n3_ n4_ n5_ n6_ n7_ n8_ n9_; clear hb hbox hg; have hnb61 := NB207_204.out; have hnc61 := NB204_207.out; have hnb62 := NB207_205.out; have hnc62 := NB205_207.out; have hcz63_0 : w60.cell? ⟨gb207, 0, none⟩ = some (.int .i64 0) := (bC BK207.out 0).trans rfl; have hcz63_1 : w60.cell? ⟨gb207, 1, none⟩ = some (.int .i64 0) := (bC BK207.out 1).trans rfl; have hcz63_2 : w60.cell? ⟨gb207, 2, none⟩ = some (.int .i64 0) := (bC BK207.out 2).trans rfl; have hcz63_3 : w60.cell? ⟨gb207, 3, none⟩ = some (.int .i64 0) := (bC BK207.out 3).trans rfl; have hcz63_4 : w60.cell? ⟨gb207, 4, none⟩ = some (.int .i64 0) := (bC BK207.out 4).trans rfl; have hcz63_5 : w60.cell? ⟨gb207, 5, none⟩ = some (.int .i64 0) := (bC BK207.out 5).trans rfl; have hcz63_6 : w60.cell? ⟨gb207, 6, none⟩ = some (.int .i64 0) := (bC BK207.out 6).trans rfl; have hcz63_7 : w60.cell? ⟨gb207, 7, none⟩ = some (.int .i64 0) := (bC BK207.out 7).trans rfl; have hcz63_8 : w60.cell? ⟨gb207, 8, none⟩ = some (.int .i64 0) := (bC BK207.out 8).trans rfl; have hfz63_0 := bF BK207.out 0; have hfz63_1 := bF BK207.out 1; have hfz63_2 := bF BK207.out 2; have hfz63_3 := bF BK207.out 3; have hfz63_4 := bF BK207.out 4; have hfz63_5 := bF BK207.out 5; have hfz63_6 := bF BK207.out 6; have hfz63_7 := bF BK207.out 7; have hfz63_8 := bF BK207.out 8))
     have n0_ : Aside0 ((((((((((w60.setCell ⟨gb207, 0, none⟩ (.int .i64 a0_0)).setCell ⟨gb207, 1, none⟩ (.int .i64 a0_1)).setCell ⟨gb207, 2, none⟩ (.int .i64 a0_2)).setCell ⟨gb207, 3, none⟩ (.int .i64 a0_3)).setCell ⟨gb207, 4, none⟩ (.int .i64 a0_4)).setCell ⟨gb207, 5, none⟩ (.int .i64 a0_5)).setCell ⟨gb207, 6, none⟩ (.int .i64 a0_6)).setCell ⟨gb207, 7, none⟩ (.int .i64 a0_7)).setCell ⟨gb207, 8, none⟩ (.int .i64 a0_8)).heap[gb204]? = some (.cells #[.int .i64 a0_0, .int .i64 a0_1, .int .i64 a0_2, .int .i64 a0_3, .int .i64 a0_4, .int .i64 a0_5, .int .i64 a0_6, .int .i64 a0_7, .int .i64 a0_8] 23 (0, 0))) := ⟨by (with_reducible repeat (first | refine bN ?_ _ | refine bD ?_ | refine bA ?_ _)); refine bR ?_ NB204_207.out _; (with_reducible repeat (first | refine bN ?_ _ | refine bD ?_ | refine bA ?_ _)); refine bR ?_ NB204_207.out _; (with_reducible repeat (first | refine bN ?_ _ | refine bD ?_ | refine bA ?_ _)); refine bR ?_ NB204_207.out _; (with_reducible repeat (first | refine bN ?_ _ | refine bD ?_ | refine bA ?_ _)); refine bR ?_ NB204_207.out _; (with_reducible repeat (first | refine bN ?_ _ | refine bD ?_ | refine bA ?_ _)); refine bR ?_ NB204_207.out _; (with_reducible repeat (first | refine bN ?_ _ | refine bD ?_ | refine bA ?_ _)); refine bR ?_ NB204_207.out _; (with_reducible repeat (first | refine bN ?_ _ | refine bD ?_ | refine bA ?_ _)); refine bR ?_ NB204_207.out _; (with_reducible repeat (first | refine bN ?_ _ | refine bD ?_ | refine bA ?_ _)); refine bR ?_ NB204_207.out _; (with_reducible repeat (first | refine bN ?_ _ | refine bD ?_ | refine bA ?_ _)); refine bR ?_ NB204_207.out _; (with_reducible repeat (first | refine bN ?_ _ | refine bD ?_ | refine bA ?_ _)); exact BK204.out⟩
     have n1_ : Aside0 ((((((((((w60.setCell ⟨gb207, 0, none⟩ (.int .i64 a0_0)).setCell ⟨gb207, 1, none⟩ (.int .i64 a0_1)).setCell ⟨gb207, 2, none⟩ (.int .i64 a0_2)).setCell ⟨gb207, 3, none⟩ (.int .i64 a0_3)).setCell ⟨gb207, 4, none⟩ (.int .i64 a0_4)).setCell ⟨gb207, 5, none⟩ (.int .i64 a0_5)).setCell ⟨gb207, 6, none⟩ (.int .i64 a0_6)).setCell ⟨gb207, 7, none⟩ (.int .i64 a0_7)).setCell ⟨gb207, 8, none⟩ (.int .i64 a0_8)).heap[gb205]? = some (.cells #[.int .u8 a1_0, .string a1_1, .string a1_2, .int .i64 a1_3, .slice A1_4 l1_4.length c1_4] 27 (0, 0))) := ⟨by (with_reducible repeat (first | refine bN ?_ _ | refine bD ?_ | refine bA ?_ _)); refine bR ?_ NB205_207.out _; (with_reducible repeat (first | refine bN ?_ _ | refine bD ?_ | refine bA ?_ _)); refine bR ?_ NB205_207.out _; (with_reducible repeat (first | refine bN ?_ _ | refine bD ?_ | refine bA ?_ _)); refine bR ?_ NB205_207.out _; (with_reducible repeat (first | refine bN ?_ _ | refine bD ?_ | refine bA ?_ _)); refine bR ?_ NB205_207.out _; (with_reducible repeat (first | refine bN ?_ _ | refine bD ?_ | refine bA ?_ _)); refine bR ?_ NB205_207.out _; (with_reducible repeat (first | refine bN ?_ _ | refine bD ?_ | refine bA ?_ _)); refine bR ?_ NB205_207.out _; (with_reducible repeat (first | refine bN ?_ _ | refine bD ?_ | refine bA ?_ _)); refine bR ?_ NB205_207.out _; (with_reducible repeat (first | refine bN ?_ _ | refine bD ?_ | refine bA ?_ _)); refine bR ?_ NB205_207.out _; (with_reducible repeat (first | refine bN ?_ _ | refine bD ?_ | refine bA ?_ _)); refine bR ?_ NB205_207.out _; (with_reducible repeat (first | refine bN ?_ _ | refine bD ?_ | refine bA ?_ _)); exact BK205.out⟩
     have n2_ : Aside0 ((((((((((w60.setCell ⟨gb207, 0, none⟩ (.int .i64 a0_0)).setCell ⟨gb207, 1, none⟩ (.int .i64 a0_1)).setCell ⟨gb207, 2, none⟩ (.int .i64 a0_2)).setCell ⟨gb207, 3, none⟩ (.int .i64 a0_3)).setCell ⟨gb207, 4, none⟩ (.int .i64 a0_4)).setCell ⟨gb207, 5, none⟩ (.int .i64 a0_5)).setCell ⟨gb207, 6, none⟩ (.int .i64 a0_6)).setCell ⟨gb207, 7, none⟩ (.int .i64 a0_7)).setCell ⟨gb207, 8, none⟩ (.int .i64 a0_8)).heap[gb207]? = some (.cells #[.int .i64 a0_0, .int .i64 a0_1, .int .i64 a0_2, .int .i64 a0_3, .int .i64 a0_4, .int .i64 a0_5, .int .i64 a0_6, .int .i64 a0_7, .int .i64 a0_8] 23 (0, 0))) := ⟨by (with_reducible repeat (first | refine bN ?_ _ | refine bD ?_ | refine bA ?_ _)); refine bP (cs := #[.int .i64 a0_0, .int .i64 a0_1, .int .i64 a0_2, .int .i64 a0_3, .int .i64 a0_4, .int .i64 a0_5, .int .i64 a0_6, .int .i64 a0_7, .int .i64 0]) ?_ 8 _ rfl; (with_reducible repeat (first | refine bN ?_ _ | refine bD ?_ | refine bA ?_ _)); refine bP (cs := #[.int .i64 a0_0, .int .i64 a0_1, .int .i64 a0_2, .int .i64 a0_3, .int .i64 a0_4, .int .i64 a0_5, .int .i64 a0_6, .int .i64 0, .int .i64 0]) ?_ 7 _ rfl; (with_reducible repeat (first | refine bN ?_ _ | refine bD ?_ | refine bA ?_ _)); refine bP (cs := #[.int .i64 a0_0, .int .i64 a0_1, .int .i64 a0_2, .int .i64 a0_3, .int .i64 a0_4, .int .i64 a0_5, .int .i64 0, .int .i64 0, .int .i64 0]) ?_ 6 _ rfl; (with_reducible repeat (first | refine bN ?_ _ | refine bD ?_ | refine bA ?_ _)); refine bP (cs := #[.int .i64 a0_0, .int .i64 a0_1, .int .i64 a0_2, .int .i64 a0_3, .int .i64 a0_4, .int .i64 0, .int .i64 0, .int .i64 0, .int .i64 0]) ?_ 5 _ rfl; (with_reducible repeat (first | refine bN ?_ _ | refine bD ?_ | refine bA ?_ _)); refine bP (cs := #[.int .i64 a0_0, .int .i64 a0_1, .int .i64 a0_2, .int .i64 a0_3, .int .i64 0, .int .i64 0, .int .i64 0, .int .i64 0, .int .i64 0]) ?_ 4 _ rfl; (with_reducible repeat (first | refine bN ?_ _ | refine bD ?_ | refine bA ?_ _)); refine bP (cs := #[.int .i64 a0_0, .int .i64 a0_1, .int .i64 a0_2, .int .i64 0, .int .i64 0, .int .i64 0, .int .i64 0, .int .i64 0, .int .i64 0]) ?_ 3 _ rfl; (with_reducible repeat (first | refine bN ?_ _ | refine bD ?_ | refine bA ?_ _)); refine bP (cs := #[.int .i64 a0_0, .int .i64 a0_1, .int .i64 0, .int .i64 0, .int .i64 0, .int .i64 0, .int .i64 0, .int .i64 0, .int .i64 0]) ?_ 2 _ rfl; (with_reducible repeat (first | refine bN ?_ _ | refine bD ?_ | refine bA ?_ _)); refine bP (cs := #[.int .i64 a0_0, .int .i64 0, .int .i64 0, .int .i64 0, .int .i64 0, .int .i64 0, .int .i64 0, .int .i64 0, .int .i64 0]) ?_ 1 _ rfl; (with_reducible repeat (first | refine bN ?_ _ | refine bD ?_ | refine bA ?_ _)); refine bP (cs := #[.int .i64 0, .int .i64 0, .int .i64 0, .int .i64 0, .int .i64 0, .int .i64 0, .int .i64 0, .int .i64 0, .int .i64 0]) ?_ 0 _ rfl; (with_reducible repeat (first | refine bN ?_ _ | refine bD ?_ | refine bA ?_ _)); exact BK207.out⟩
     have n3_ : Aside0 (Below w.heap.size w (((((((((w60.setCell ⟨gb207, 0, none⟩ (.int .i64 a0_0)).setCell ⟨gb207, 1, none⟩ (.int .i64 a0_1)).setCell ⟨gb207, 2, none⟩ (.int .i64 a0_2)).setCell ⟨gb207, 3, none⟩ (.int .i64 a0_3)).setCell ⟨gb207, 4, none⟩ (.int .i64 a0_4)).setCell ⟨gb207, 5, none⟩ (.int .i64 a0_5)).setCell ⟨gb207, 6, none⟩ (.int .i64 a0_6)).setCell ⟨gb207, 7, none⟩ (.int .i64 a0_7)).setCell ⟨gb207, 8, none⟩ (.int .i64 a0_8))) := ⟨by repeat (first | (with_reducible first | exact HB.out | apply wA | apply wN | apply w1 | refine wS ?_ GE204.out | refine wS ?_ GE205.out | refine wS ?_ GE207.out) | exact HB.out)⟩
     (try clear BK204)
     (try clear BK205)
     (try clear BK207)
     (try clear HB)
     generalize (((((((((w60.setCell ⟨gb207, 0, none⟩ (.int .i64 a0_0)).setCell ⟨gb207, 1, none⟩ (.int .i64 a0_1)).setCell ⟨gb207, 2, none⟩ (.int .i64 a0_2)).setCell ⟨gb207, 3, none⟩ (.int .i64 a0_3)).setCell ⟨gb207, 4, none⟩ (.int .i64 a0_4)).setCell ⟨gb207, 5, none⟩ (.int .i64 a0_5)).setCell ⟨gb207, 6, none⟩ (.int .i64 a0_6)).setCell ⟨gb207, 7, none⟩ (.int .i64 a0_7)).setCell ⟨gb207, 8, none⟩ (.int .i64 a0_8)) = w64 at n0_ n1_ n2_ n3_ ⊢
     have BK204 := n0_
     have BK205 := n1_
     have BK207 := n2_
     have HB := n3_
     clear n0_ n1_ n2_ n3_
     have n0_ := Aside0.mk (bD BK204.out)
     have n1_ := Aside0.mk (bD BK205.out)
     have n2_ := Aside0.mk (bD BK207.out)
     have n3_ := Aside0.mk (w1 HB.out)
     clear BK204
     clear BK205
     clear BK207
     clear HB
     have BK204 := n0_
     have BK205 := n1_
     have BK207 := n2_
     have HB := n3_
     clear n0_ n1_ n2_ n3_
     refine start_ (n := 21) (S := fun w' => w'.cell? ⟨gb204, 0, none⟩ = some (.int .i64 a0_0) ∧ w'.cell? ⟨gb204, 1, none⟩ = some (.int .i64 a0_1) ∧ w'.cell? ⟨gb204, 2, none⟩ = some (.int .i64 a0_2) ∧ w'.cell? ⟨gb204, 3, none⟩ = some (.int .i64 a0_3) ∧ w'.cell? ⟨gb204, 4, none⟩ = some (.int .i64 a0_4) ∧ w'.cell? ⟨gb204, 5, none⟩ = some (.int .i64 a0_5) ∧ w'.cell? ⟨gb204, 6, none⟩ = some (.int .i64 a0_6) ∧ w'.cell? ⟨gb204, 7, none⟩ = some (.int .i64 a0_7) ∧ w'.cell? ⟨gb204, 8, none⟩ = some (.int .i64 a0_8)) (ds := []) #[false, false, false, false, false, false, false, false, false, false, false, false, false, false, false, false, false, false, false, false, false] (by kernel_rfl) rfl rfl ⟨(bC BK204.out 0).trans rfl, (bC BK204.out 1).trans rfl, (bC BK204.out 2).trans rfl, (bC BK204.out 3).trans rfl, (bC BK204.out 4).trans rfl, (bC BK204.out 5).trans rfl, (bC BK204.out 6).trans rfl, (bC BK204.out 7).trans rfl, (bC BK204.out 8).trans rfl⟩ (fun hHeld => ?_); refine with_tabW catchmentlaw21_RoomWider.tab4 catchmentlaw21_RoomWider.bits4 (fun HT_ HW_ => ?_)
     generalize w64.drew = w65 at BK204 BK205 BK207 HB hHeld ⊢
     refine pure_ (i := 0) (N := some 27) (v := ?_) (a' := ?_) #[true, false, false, false, false, false, false, false, false, false, false, false, false, false, false, false, false, false, false, false, false] rfl rfl (any_of HT_.out (by kernel_rfl)) (fun _ _ _ h => h) (Or.inl ⟨by rfl, ?_⟩) ?_ ?_
     rotate_left
     ·intro w'
      go_simp
      with_reducible rfl
     rotate_left
     ·simp only [Act.put, sA1, sA2, sA3, i64_w, i32_w]
      rfl
     refine pure_ (i := 2) (N := some 29) (v := ?_) (a' := ?_) #[true, false, true, false, false, false, false, false, false, false, false, false, false, false, false, false, false, false, false, false, false] rfl rfl (any_of HT_.out (by kernel_rfl)) (fun _ _ _ h => h) (Or.inl ⟨by rfl, ?_⟩) ?_ ?_
     rotate_left
     ·intro w'
      go_simp
      with_reducible rfl
     rotate_left
     ·simp only [Act.put, sA1, sA2, sA3, i64_w, i32_w]
      rfl
     refine pure_ (i := 3) (N := some 30) (v := ?_) (a' := ?_) #[true, false, true, true, false, false, false, false, false, false, false, false, false, false, false, false, false, false, false, false, false] rfl rfl (any_of HT_.out (by kernel_rfl)) (fun _ _ _ h => h) (Or.inl ⟨by rfl, ?_⟩) ?_ ?_
     rotate_left
     ·intro w'
      go_simp
      with_reducible rfl
     rotate_left
     ·simp only [Act.put, sA1, sA2, sA3, i64_w, i32_w]
      rfl
     refine pure_ (i := 5) (N := some 32) (v := ?_) (a' := ?_) #[true, false, true, true, false, true, false, false, false, false, false, false, false, false, false, false, false, false, false, false, false] rfl rfl (any_of HT_.out (by kernel_rfl)) (fun _ _ _ h => h) (Or.inl ⟨by rfl, ?_⟩) ?_ ?_
     rotate_left
     ·intro w'
      go_simp
      with_reducible rfl
     rotate_left
     ·simp only [Act.put, sA1, sA2, sA3, i64_w, i32_w]
      rfl
     refine pure_ (i := 7) (N := some 34) (v := ?_) (a' := ?_) #[true, false, true, true, false, true, false, true, false, false, false, false, false, false, false, false, false, false, false, false, false] rfl rfl (any_of HT_.out (by kernel_rfl)) (fun _ _ _ h => h) (Or.inl ⟨by rfl, ?_⟩) ?_ ?_
     rotate_left
     ·intro w'
      go_simp
      with_reducible rfl
     rotate_left
     ·simp only [Act.put, sA1, sA2, sA3, i64_w, i32_w]
      rfl
     refine pure_ (i := 8) (N := some 35) (v := ?_) (a' := ?_) #[true, false, true, true, false, true, false, true, true, false, false, false, false, false, false, false, false, false, false, false, false] rfl rfl (any_of HT_.out (by kernel_rfl)) (fun _ _ _ h => h) (Or.inl ⟨by rfl, ?_⟩) ?_ ?_
     rotate_left
     ·intro w'
      go_simp
      with_reducible rfl
     rotate_left
     ·simp only [Act.put, sA1, sA2, sA3, i64_w, i32_w]
      rfl
     refine pure_ (i := 10) (N := some 37) (v := ?_) (a' := ?_) #[true, false, true, true, false, true, false, true, true, false, true, false, false, false, false, false, false, false, false, false, false] rfl rfl (any_of HT_.out (by kernel_rfl)) (fun _ _ _ h => h) (Or.inl ⟨by rfl, ?_⟩) ?_ ?_
     rotate_left
     ·intro w'
      go_simp
      with_reducible rfl
     rotate_left
     ·simp only [Act.put, sA1, sA2, sA3, i64_w, i32_w]
      rfl
     refine pure_ (i := 12) (N := some 39) (v := ?_) (a' := ?_) #[true, false, true, true, false, true, false, true, true, false, true, false, true, false, false, false, false, false, false, false, false] rfl rfl (any_of HT_.out (by kernel_rfl)) (fun _ _ _ h => h) (Or.inl ⟨by rfl, ?_⟩) ?_ ?_
     rotate_left
     ·intro w'
      go_simp
      with_reducible rfl
     rotate_left
     ·simp only [Act.put, sA1, sA2, sA3, i64_w, i32_w]
      rfl
     refine pure_ (i := 13) (N := some 40) (v := ?_) (a' := ?_) #[true, false, true, true, false, true, false, true, true, false, true, false, true, true, false, false, false, false, false, false, false] rfl rfl (any_of HT_.out (by kernel_rfl)) (fun _ _ _ h => h) (Or.inl ⟨by rfl, ?_⟩) ?_ ?_
     rotate_left
     ·intro w'
      go_simp
      with_reducible rfl
     rotate_left
     ·simp only [Act.put, sA1, sA2, sA3, i64_w, i32_w]
      rfl
     refine take_ (i := 1) (N := some 28) (v := ?_) (a' := ?_) #[true, true, true, true, false, true, false, true, true, false, true, false, true, true, false, false, false, false, false, false, false] rfl rfl (take_ofW HT_.out HW_.out (by kernel_rfl)) (fun _ _ _ h => h) (Or.inl ⟨by rfl, ?_⟩) hHeld ?_ ?_
     rotate_left
     ·rintro w' ⟨s0, s1, s2, s3, s4, s5, s6, s7, s8⟩
      go_simp
      with_reducible rfl
     rotate_left
     ·simp only [Act.put, sA1, sA2, sA3, i64_w, i32_w]
      rfl
     refine pure_ (i := 4) (N := some 31) (v := ?_) (a' := ?_) #[true, true, true, true, true, true, false, true, true, false, true, false, true, true, false, false, false, false, false, false, false] rfl rfl (any_of HT_.out (by kernel_rfl)) (fun _ _ _ h => h) (Or.inl ⟨by rfl, ?_⟩) ?_ ?_
     rotate_left
     ·intro w'
      go_simp
      with_reducible rfl
     rotate_left
     ·simp only [Act.put, sA1, sA2, sA3, i64_w, i32_w]
      rfl
     refine pure_ (i := 15) (N := some 42) (v := ?_) (a' := ?_) #[true, true, true, true, true, true, false, true, true, false, true, false, true, true, false, true, false, false, false, false, false] rfl rfl (any_of HT_.out (by kernel_rfl)) (fun _ _ _ h => h) (Or.inl ⟨by rfl, ?_⟩) ?_ ?_
     rotate_left
     ·intro w'
      go_simp
      with_reducible rfl
     rotate_left
     ·simp only [Act.put, sA1, sA2, sA3, i64_w, i32_w]
      rfl
     refine take_ (i := 6) (N := some 33) (v := ?_) (a' := ?_) #[true, true, true, true, true, true, true, true, true, false, true, false, true, true, false, true, false, false, false, false, false] rfl rfl (take_ofW HT_.out HW_.out (by kernel_rfl)) (fun _ _ _ h => h) (Or.inl ⟨by rfl, ?_⟩) hHeld ?_ ?_
     rotate_left
     ·rintro w' ⟨s0, s1, s2, s3, s4, s5, s6, s7, s8⟩
      go_simp
      with_reducible rfl
     rotate_left
     ·simp only [Act.put, sA1, sA2, sA3, i64_w, i32_w]
      rfl
     refine pure_ (i := 9) (N := some 36) (v := ?_) (a' := ?_) #[true, true, true, true, true, true, true, true, true, true, true, false, true, true, false, true, false, false, false, false, false] rfl rfl (any_of HT_.out (by kernel_rfl)) (fun _ _ _ h => h) (Or.inl ⟨by rfl, ?_⟩) ?_ ?_
     rotate_left
     ·intro w'
      go_simp
      with_reducible rfl
     rotate_left
     ·simp only [Act.put, sA1, sA2, sA3, i64_w, i32_w]
      rfl
     refine take_ (i := 11) (N := some 38) (v := ?_) (a' := ?_) #[true, true, true, true, true, true, true, true, true, true, true, true, true, true, false, true, false, false, false, false, false] rfl rfl (take_ofW HT_.out HW_.out (by kernel_rfl)) (fun _ _ _ h => h) (Or.inl ⟨by rfl, ?_⟩) hHeld ?_ ?_
     rotate_left
     ·rintro w' ⟨s0, s1, s2, s3, s4, s5, s6, s7, s8⟩
      go_simp
      with_reducible rfl
     rotate_left
     ·simp only [Act.put, sA1, sA2, sA3, i64_w, i32_w]
      rfl
     refine pure_ (i := 14) (N := some 41) (v := ?_) (a' := ?_) #[true, true, true, true, true, true, true, true, true, true, true, true, true, true, true, true, false, false, false, false, false] rfl rfl (any_of HT_.out (by kernel_rfl)) (fun _ _ _ h => h) (Or.inl ⟨by rfl, ?_⟩) ?_ ?_
     rotate_left
     ·intro w'
      go_simp
      with_reducible rfl
     rotate_left
     ·simp only [Act.put, sA1, sA2, sA3, i64_w, i32_w]
      rfl
     refine one_ (i := 16) (N := none) #[true, true, true, true, true, true, true, true, true, true, true, true, true, true, true, true, true, false, false, false, false] rfl rfl (one_of HT_.out (by kernel_rfl)) (by decide) (fun K hK => ?_)
     have hs66 : w65.cell? ⟨gb207, 0, none⟩ = some (.int .i64 a0_0) := (bC BK207.out 0).trans rfl
     have hfs66 := bF BK207.out 0
     have hns66_0 := NB204_207.out
     have hns66_1 := NB205_207.out
     have hms66_0 := NB207_204.out
     have hms66_1 := NB207_205.out
     refine skip_ (w1 := ?_) (by rfl) rfl ?_ ?_
     rotate_left
     ·go_simp
      rfl
     refine hK.out _ _ ⟨((cF (p := ⟨gb207, _, none⟩) NB204_207.out _).trans (hHeld.1)), ((cF (p := ⟨gb207, _, none⟩) NB204_207.out _).trans (hHeld.2.1)), ((cF (p := ⟨gb207, _, none⟩) NB204_207.out _).trans (hHeld.2.2.1)), ((cF (p := ⟨gb207, _, none⟩) NB204_207.out _).trans (hHeld.2.2.2.1)), ((cF (p := ⟨gb207, _, none⟩) NB204_207.out _).trans (hHeld.2.2.2.2.1)), ((cF (p := ⟨gb207, _, none⟩) NB204_207.out _).trans (hHeld.2.2.2.2.2.1)), ((cF (p := ⟨gb207, _, none⟩) NB204_207.out _).trans (hHeld.2.2.2.2.2.2.1)), ((cF (p := ⟨gb207, _, none⟩) NB204_207.out _).trans (hHeld.2.2.2.2.2.2.2.1)), ((cF (p := ⟨gb207, _, none⟩) NB204_207.out _).trans (hHeld.2.2.2.2.2.2.2.2))⟩ (fun hHeld => ?_)
     clear hK K
     refine pure_ (i := 17) (N := some 43) (v := ?_) (a' := ?_) #[true, true, true, true, true, true, true, true, true, true, true, true, true, true, true, true, true, true, false, false, false] rfl rfl (any_of HT_.out (by kernel_rfl)) (fun _ _ _ h => h) (Or.inl ⟨by rfl, ?_⟩) ?_ ?_
     rotate_left
     ·intro w'
      go_simp
      with_reducible rfl
     rotate_left
     ·simp only [Act.put, sA1, sA2, sA3, i64_w, i32_w]
      rfl
     refine one_ (i := 18) (N := none) #[true, true, true, true, true, true, true, true, true, true, true, true, true, true, true, true, true, true, true, false, false] rfl rfl (one_of HT_.out (by kernel_rfl)) (by decide) (fun K hK => ?_)
     have hs67 : w65.cell? ⟨gb207, 1, none⟩ = some (.int .i64 a0_1) := (bC BK207.out 1).trans rfl
     have hfs67 := bF BK207.out 1
     have hns67_0 := NB204_207.out
     have hns67_1 := NB205_207.out
     have hms67_0 := NB207_204.out
     have hms67_1 := NB207_205.out
     refine skip_ (w1 := ?_) (by rfl) rfl ?_ ?_
     rotate_left
     ·go_simp
      rfl
     refine hK.out _ _ ⟨((cF (p := ⟨gb207, _, none⟩) NB204_207.out _).trans (hHeld.1)), ((cF (p := ⟨gb207, _, none⟩) NB204_207.out _).trans (hHeld.2.1)), ((cF (p := ⟨gb207, _, none⟩) NB204_207.out _).trans (hHeld.2.2.1)), ((cF (p := ⟨gb207, _, none⟩) NB204_207.out _).trans (hHeld.2.2.2.1)), ((cF (p := ⟨gb207, _, none⟩) NB204_207.out _).trans (hHeld.2.2.2.2.1)), ((cF (p := ⟨gb207, _, none⟩) NB204_207.out _).trans (hHeld.2.2.2.2.2.1)), ((cF (p := ⟨gb207, _, none⟩) NB204_207.out _).trans (hHeld.2.2.2.2.2.2.1)), ((cF (p := ⟨gb207, _, none⟩) NB204_207.out _).trans (hHeld.2.2.2.2.2.2.2.1)), ((cF (p := ⟨gb207, _, none⟩) NB204_207.out _).trans (hHeld.2.2.2.2.2.2.2.2))⟩ (fun hHeld => ?_)
     clear hK K
     refine pure_ (i := 19) (N := some 44) (v := ?_) (a' := ?_) #[true, true, true, true, true, true, true, true, true, true, true, true, true, true, true, true, true, true, true, true, false] rfl rfl (any_of HT_.out (by kernel_rfl)) (fun _ _ _ h => h) (Or.inl ⟨by rfl, ?_⟩) ?_ ?_
     rotate_left
     ·intro w'
      go_simp
      with_reducible rfl
     rotate_left
     ·simp only [Act.put, sA1, sA2, sA3, i64_w, i32_w]
      rfl
     refine one_ (i := 20) (N := none) #[true, true, true, true, true, true, true, true, true, true, true, true, true, true, true, true, true, true, true, true, true] rfl rfl (one_of HT_.out (by kernel_rfl)) (by decide) (fun K hK => ?_)
     have hs68 : w65.cell? ⟨gb207, 8, none⟩ = some (.int .i64 a0_8) := (bC BK207.out 8).trans rfl
     have hfs68 := bF BK207.out 8
     have hns68_0 := NB204_207.out
     have hns68_1 := NB205_207.out
     have hms68_0 := NB207_204.out
     have hms68_1 := NB207_205.out
     refine skip_ (w1 := ?_) (by rfl) rfl ?_ ?_
     rotate_left
     ·go_simp
      rfl
     refine hK.out _ _ ⟨((cF (p := ⟨gb207, _, none⟩) NB204_207.out _).trans (hHeld.1)), ((cF (p := ⟨gb207, _, none⟩) NB204_207.out _).trans (hHeld.2.1)), ((cF (p := ⟨gb207, _, none⟩) NB204_207.out _).trans (hHeld.2.2.1)), ((cF (p := ⟨gb207, _, none⟩) NB204_207.out _).trans (hHeld.2.2.2.1)), ((cF (p := ⟨gb207, _, none⟩) NB204_207.out _).trans (hHeld.2.2.2.2.1)), ((cF (p := ⟨gb207, _, none⟩) NB204_207.out _).trans (hHeld.2.2.2.2.2.1)), ((cF (p := ⟨gb207, _, none⟩) NB204_207.out _).trans (hHeld.2.2.2.2.2.2.1)), ((cF (p := ⟨gb207, _, none⟩) NB204_207.out _).trans (hHeld.2.2.2.2.2.2.2.1)), ((cF (p := ⟨gb207, _, none⟩) NB204_207.out _).trans (hHeld.2.2.2.2.2.2.2.2))⟩ (fun hHeld => ?_)
     clear hK K
     refine done_ (done_of HT_.out (by kernel_rfl)) ?_
     try go_wp2_with (first | ((with_reducible refine gate_callee (f := 6) rfl ?_); refine goesL_ (some 45) rfl rfl Try.func6 (by kernel_rfl) rfl #[] rfl (by (try simp only [mA1, mA2, mA3]); first | done | rfl | (simp only [mA5, mA4]; rfl)) ?_; (with_reducible refine (catchmentlaw21_live.calls kj5  false _ A20.out).mono ?_); rintro e w69 ⟨rfl, hb⟩; refine ⟨_, rfl, ?_⟩; have n0_ := Aside0.mk (bB (g := gb204) (o := .cells #[.int .i64 a0_0, .int .i64 a0_1, .int .i64 a0_2, .int .i64 a0_3, .int .i64 a0_4, .int .i64 a0_5, .int .i64 a0_6, .int .i64 a0_7, .int .i64 a0_8] 23 (0, 0)) (by (with_reducible repeat (first | refine bN ?_ _ | refine bD ?_ | refine bA ?_ _)); refine bR ?_ NB204_207.out _; (with_reducible repeat (first | refine bN ?_ _ | refine bD ?_ | refine bA ?_ _)); refine bR ?_ NB204_207.out _; (with_reducible repeat (first | refine bN ?_ _ | refine bD ?_ | refine bA ?_ _)); refine bR ?_ NB204_207.out _; (with_reducible repeat (first | refine bN ?_ _ | refine bD ?_ | refine bA ?_ _)); exact BK204.out) hb); have n1_ := Aside0.mk (bB (g := gb205) (o := .cells #[.int .u8 a1_0, .string a1_1, .string a1_2, .int .i64 a1_3, .slice A1_4 l1_4.length c1_4] 27 (0, 0)) (by (with_reducible repeat (first | refine bN ?_ _ | refine bD ?_ | refine bA ?_ _)); refine bR ?_ NB205_207.out _; (with_reducible repeat (first | refine bN ?_ _ | refine bD ?_ | refine bA ?_ _)); refine bR ?_ NB205_207.out _; (with_reducible repeat (first | refine bN ?_ _ | refine bD ?_ | refine bA ?_ _)); refine bR ?_ NB205_207.out _; (with_reducible repeat (first | refine bN ?_ _ | refine bD ?_ | refine bA ?_ _)); exact BK205.out) hb); have n2_ := Aside0.mk (bB (g := gb207) (o := .cells #[.int .i64 (wrap64 (a0_0 + (wrap64 (a2)))), .int .i64 (wrap64 (a0_1 + (wrap64 (a3)))), .int .i64 a0_2, .int .i64 a0_3, .int .i64 a0_4, .int .i64 a0_5, .int .i64 a0_6, .int .i64 a0_7, .int .i64 (wrap64 (a0_8 + (wrap64 (a4))))] 23 (0, 0)) (by (with_reducible repeat (first | refine bN ?_ _ | refine bD ?_ | refine bA ?_ _)); refine bP (cs := #[.int .i64 (wrap64 (a0_0 + (wrap64 (a2)))), .int .i64 (wrap64 (a0_1 + (wrap64 (a3)))), .int .i64 a0_2, .int .i64 a0_3, .int .i64 a0_4, .int .i64 a0_5, .int .i64 a0_6, .int .i64 a0_7, .int .i64 a0_8]) ?_ 8 _ rfl; (with_reducible repeat (first | refine bN ?_ _ | refine bD ?_ | refine bA ?_ _)); refine bP (cs := #[.int .i64 (wrap64 (a0_0 + (wrap64 (a2)))), .int .i64 a0_1, .int .i64 a0_2, .int .i64 a0_3, .int .i64 a0_4, .int .i64 a0_5, .int .i64 a0_6, .int .i64 a0_7, .int .i64 a0_8]) ?_ 1 _ rfl; (with_reducible repeat (first | refine bN ?_ _ | refine bD ?_ | refine bA ?_ _)); refine bP (cs := #[.int .i64 a0_0, .int .i64 a0_1, .int .i64 a0_2, .int .i64 a0_3, .int .i64 a0_4, .int .i64 a0_5, .int .i64 a0_6, .int .i64 a0_7, .int .i64 a0_8]) ?_ 0 _ rfl; (with_reducible repeat (first | refine bN ?_ _ | refine bD ?_ | refine bA ?_ _)); exact BK207.out) hb); have n3_ := Aside0.mk (wT (by repeat (first | (with_reducible first | exact HB.out | apply wA | apply wN | apply w1 | refine wS ?_ GE204.out | refine wS ?_ GE205.out | refine wS ?_ GE207.out) | exact HB.out)) hb); clear BK204; clear BK205; clear BK207; clear HB; have BK204 := n0_; have BK205 := n1_; have BK207 := n2_; have HB := n3_; clear n0_ n1_ n2_ n3_; (try clear hb); (try clear hb2); (try clear hk); (try clear hi)))
     go_ret
     exact ⟨by first | rfl | (simp [errW_none, errW_some] <;> rfl) | (simp [*, errW_none, errW_some] <;> rfl), by repeat (first | (with_reducible first | exact HB.out | apply wA | apply wN | apply w1 | refine wS ?_ GE204.out | refine wS ?_ GE205.out | refine wS ?_ GE207.out) | exact HB.out)⟩

end Go.Proofs.Ythofdhodgipifaa.P
