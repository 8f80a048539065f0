-- Laid for this claim by a program of this seat's own (wip/tools/pp.py) out of the translation's print. Lean checks it.
import Derived.Test.YthofdhodgipifaaP0
import Derived.Test.YthofdhodgipifaaP8
import Derived.Test.YthofdhodgipifaaP9
namespace Go.Proofs.Ythofdhodgipifaa.P
open Go.RowKit Go.Proofs.YthofdhodgipifaaW.PrintWords Go.Proofs.YthofdhodgipifaaW.PrintLast Go.Proofs.YthofdhodgipifaaW.PrintMore Go.Proofs.Ythofdhodgipifaa.Own
open Go.Proofs.YthofdhodgipifaaW.PrintWords renaming blk_cell → bC, blk_frozen → bF, blk_drewN → bN, blk_alloc → bA, pw_below_drewN → wN, blk_drew → bD, below_drew1 → w1, below_set → wS, below_alloc → wA, blk_below → bB, below_step → wT, below_size → wZ
open List renaming setIfInBounds_toArray → sA1, set_cons_zero → sA2, set_cons_succ → sA3, map_toArray → mA1, map_cons → mA2, map_nil → mA3, length_take → mA4, length_drop → mA5
attribute [local go_sem] max2_str max2_int min2_int max_two min_two max_three min_three max_four min_four   -- for this text's walks alone
set_option linter.unusedVariables false
set_option linter.unusedSimpArgs false

/-! ### catchmentref21_Ask: function 10 -/
mutual
def catchmentref21_Ask.j0 : Nat → Bool → Int → ByteArray → ByteArray → Int → List (S47) → Int → Int → Int → Int → Int → Int → Int → Int → Int → Option (Int)
 | 0, _, _, _, _, _, _, _, _, _, _, _, _, _, _, _ => none
 | k + 1, x20, x192000, x192001, x192002, x192003, x192004, x193000, x193001, x193002, x193003, x193004, x193005, x193006, x193007, x193008 => if x20 = true then (some 3) else (if x192000 = 1 then (if x192001.toList = ([] : List UInt8) then (catchmentref21_Ask.j1 k true x192000 x192001 x192002 x192003 x192004 x193000 x193001 x193002 x193003 x193004 x193005 x193006 x193007 x193008) else (catchmentref21_Ask.j1 k (decide ((x192001.size : Int) > x193000)) x192000 x192001 x192002 x192003 x192004 x193000 x193001 x193002 x193003 x193004 x193005 x193006 x193007 x193008)) else (catchmentref21_Ask.j1 k false x192000 x192001 x192002 x192003 x192004 x193000 x193001 x193002 x193003 x193004 x193005 x193006 x193007 x193008))
def catchmentref21_Ask.j1 : Nat → Bool → Int → ByteArray → ByteArray → Int → List (S47) → Int → Int → Int → Int → Int → Int → Int → Int → Int → Option (Int)
 | 0, _, _, _, _, _, _, _, _, _, _, _, _, _, _, _ => none
 | k + 1, x36, x192000, x192001, x192002, x192003, x192004, x193000, x193001, x193002, x193003, x193004, x193005, x193006, x193007, x193008 => if x36 = true then (some 6) else (if x192000 = 2 then (catchmentref21_Ask.j2 k (decide ((x192004.length : Int) > 1024)) x192000 x192001 x192002 x192003 x192004 x193000 x193001 x193002 x193003 x193004 x193005 x193006 x193007 x193008) else (catchmentref21_Ask.j2 k false x192000 x192001 x192002 x192003 x192004 x193000 x193001 x193002 x193003 x193004 x193005 x193006 x193007 x193008))
def catchmentref21_Ask.j2 : Nat → Bool → Int → ByteArray → ByteArray → Int → List (S47) → Int → Int → Int → Int → Int → Int → Int → Int → Int → Option (Int)
 | 0, _, _, _, _, _, _, _, _, _, _, _, _, _, _, _ => none
 | k + 1, x45, x192000, x192001, x192002, x192003, x192004, x193000, x193001, x193002, x193003, x193004, x193005, x193006, x193007, x193008 => if x45 = true then (some 8) else (catchmentref21_Ask.l0 k 0 x192000 x192001 x192002 x192003 x192004 x193000 x193001 x193002 x193003 x193004 x193005 x193006 x193007 x193008)
def catchmentref21_Ask.l0 : Nat → Int → Int → ByteArray → ByteArray → Int → List (S47) → Int → Int → Int → Int → Int → Int → Int → Int → Int → Option (Int)
 | 0, _, _, _, _, _, _, _, _, _, _, _, _, _, _, _ => none
 | k + 1, x5, x192000, x192001, x192002, x192003, x192004, x193000, x193001, x193002, x193003, x193004, x193005, x193006, x193007, x193008 => if x5 < (x192004.length : Int) then (if 0 ≤ x5 then (if ((rd_T47 x192004 x5).f1) = 0 then (catchmentref21_Ask.l0 k (wrap64 (x5 + 1)) x192000 x192001 x192002 x192003 x192004 x193000 x193001 x193002 x193003 x193004 x193005 x193006 x193007 x193008) else (some 3)) else (none)) else (catchmentref21_Ask.l1 k 0 x192000 x192001 x192002 x192003 x192004 x193000 x193001 x193002 x193003 x193004 x193005 x193006 x193007 x193008)
def catchmentref21_Ask.l1 : Nat → Int → Int → ByteArray → ByteArray → Int → List (S47) → Int → Int → Int → Int → Int → Int → Int → Int → Int → Option (Int)
 | 0, _, _, _, _, _, _, _, _, _, _, _, _, _, _, _ => none
 | k + 1, x6, x192000, x192001, x192002, x192003, x192004, x193000, x193001, x193002, x193003, x193004, x193005, x193006, x193007, x193008 => if x6 < (x192004.length : Int) then (if 0 ≤ x6 then ((catchmentref04_Check.f k ((rd_T47 x192004 x6).f0) ((rd_T47 x192004 x6).f1) ((rd_T47 x192004 x6).f2) ((rd_T47 x192004 x6).f3) ((rd_T47 x192004 x6).f4) ((rd_T47 x192004 x6).f5) x193000 x193001 x193002 x193003 x193004 x193005 x193006 x193007 x193008).bind fun t196 => (if t196 = 0 then (catchmentref21_Ask.l1 k (wrap64 (x6 + 1)) x192000 x192001 x192002 x192003 x192004 x193000 x193001 x193002 x193003 x193004 x193005 x193006 x193007 x193008) else (some t196))) else (none)) else (if x192000 = 3 then (catchmentref21_Ask.j5 k false x192000 x192001 x192002 x192003 x192004 x193000 x193001 x193002 x193003 x193004 x193005 x193006 x193007 x193008) else (catchmentref21_Ask.j5 k (x192000 != 4) x192000 x192001 x192002 x192003 x192004 x193000 x193001 x193002 x193003 x193004 x193005 x193006 x193007 x193008))
def catchmentref21_Ask.j5 : Nat → Bool → Int → ByteArray → ByteArray → Int → List (S47) → Int → Int → Int → Int → Int → Int → Int → Int → Int → Option (Int)
 | 0, _, _, _, _, _, _, _, _, _, _, _, _, _, _, _ => none
 | k + 1, x84, x192000, x192001, x192002, x192003, x192004, x193000, x193001, x193002, x193003, x193004, x193005, x193006, x193007, x193008 => if x84 = true then (some 0) else (if (x192001.size : Int) > x193000 then (catchmentref21_Ask.j6 k true x192000 x192001 x192002 x192003 x192004 x193000 x193001 x193002 x193003 x193004 x193005 x193006 x193007 x193008) else (catchmentref21_Ask.j6 k (decide ((x192002.size : Int) > x193000)) x192000 x192001 x192002 x192003 x192004 x193000 x193001 x193002 x193003 x193004 x193005 x193006 x193007 x193008))
def catchmentref21_Ask.j6 : Nat → Bool → Int → ByteArray → ByteArray → Int → List (S47) → Int → Int → Int → Int → Int → Int → Int → Int → Int → Option (Int)
 | 0, _, _, _, _, _, _, _, _, _, _, _, _, _, _, _ => none
 | k + 1, x98, x192000, x192001, x192002, x192003, x192004, x193000, x193001, x193002, x193003, x193004, x193005, x193006, x193007, x193008 => if x98 = true then (some 6) else (if x192002.toList = ([] : List UInt8) then (catchmentref21_Ask.j7 k false x192000 x192001 x192002 x192003 x192004 x193000 x193001 x193002 x193003 x193004 x193005 x193006 x193007 x193008) else (catchmentref21_Ask.j7 k (!(Op.bytesLess x192001.toList x192002.toList)) x192000 x192001 x192002 x192003 x192004 x193000 x193001 x193002 x193003 x193004 x193005 x193006 x193007 x193008))
def catchmentref21_Ask.j7 : Nat → Bool → Int → ByteArray → ByteArray → Int → List (S47) → Int → Int → Int → Int → Int → Int → Int → Int → Int → Option (Int)
 | 0, _, _, _, _, _, _, _, _, _, _, _, _, _, _, _ => none
 | k + 1, x108, x192000, x192001, x192002, x192003, x192004, x193000, x193001, x193002, x193003, x193004, x193005, x193006, x193007, x193008 => if x108 = true then (some 7) else (if x192000 = 3 then (if x192003 < 1 then (some 4) else (if x192003 > x193008 then (some 4) else (some 0))) else (some 0))
end
def catchmentref21_Ask.f (k : Nat) (a0_0 : Int) (a0_1 : BA) (a0_2 : BA) (a0_3 : Int) (l0_4 : List (S47)) (a1_0 : Int) (a1_1 : Int) (a1_2 : Int) (a1_3 : Int) (a1_4 : Int) (a1_5 : Int) (a1_6 : Int) (a1_7 : Int) (a1_8 : Int) : Option (Int) := if a0_0 < 1 then (catchmentref21_Ask.j0 k true a0_0 a0_1 a0_2 a0_3 l0_4 a1_0 a1_1 a1_2 a1_3 a1_4 a1_5 a1_6 a1_7 a1_8) else (if a0_0 > 6 then (catchmentref21_Ask.j0 k true a0_0 a0_1 a0_2 a0_3 l0_4 a1_0 a1_1 a1_2 a1_3 a1_4 a1_5 a1_6 a1_7 a1_8) else ((catchmentref21_zero.f a0_0 a0_1 a0_2 a0_3 l0_4).bind fun t193 => (catchmentref21_Ask.j0 k (!t193) a0_0 a0_1 a0_2 a0_3 l0_4 a1_0 a1_1 a1_2 a1_3 a1_4 a1_5 a1_6 a1_7 a1_8)))
def catchmentref21_Ask.T15 : Bool × List (List Nat × List Nat) := (true, [([], []), ([0], [0]), ([], []), ([1, 2], [1, 2]), ([3], [3]), ([], []), ([4, 5], [4, 5]), ([6, 6, 0, 1, 2, 3, 4, 5, 6], [6])])
def catchmentref21_Ask.B15 : List Nat := [0, 1, 0, 7, 15, 0, 63, 127]
theorem catchmentref21_Ask.tab15 : rtab .any (opsOf Try.f10 15) = catchmentref21_Ask.T15 := by kernel_rfl
theorem catchmentref21_Ask.bits15 : waitsOk catchmentref21_Ask.T15.2 catchmentref21_Ask.B15 = true := by kernel_rfl
set_option maxHeartbeats 8000000 in
set_option maxRecDepth 100000 in
theorem catchmentref21_Ask.calls (k : Nat) (a0_0 : Int) (a0_1 : BA) (a0_2 : BA) (a0_3 : Int) (A0_4 : Option Addr) (c0_4 : Nat) (l0_4 : List (S47)) (a1_0 : Int) (a1_1 : Int) (a1_2 : Int) (a1_3 : Int) (a1_4 : Int) (a1_5 : Int) (a1_6 : Int) (a1_7 : Int) (a1_8 : Int) (r : Int) (w : World) (hr0_4 : Kd.C k47 w A0_4 l0_4.length l0_4) (hc0_4 : l0_4.length ≤ c0_4) (h : catchmentref21_Ask.f k a0_0 a0_1 a0_2 a0_3 l0_4 a1_0 a1_1 a1_2 a1_3 a1_4 a1_5 a1_6 a1_7 a1_8 = some r) :
  Calls Try.prog 10 #[.agg #[.int .u8 a0_0, .string a0_1, .string a0_2, .int .i64 a0_3, .slice A0_4 l0_4.length c0_4], .agg #[.int .i64 a1_0, .int .i64 a1_1, .int .i64 a1_2, .int .i64 a1_3, .int .i64 a1_4, .int .i64 a1_5, .int .i64 a1_6, .int .i64 a1_7, .int .i64 a1_8]] w fun e w' => e = .returned (.int .i64 r) ∧ Below w.heap.size w w' := by
 have hu27 := Try.underlying27
 have hu23 := Try.underlying23
 have hu47 := Try.underlying47
 have HR0_4 := Aside0.mk hr0_4
 have HC0_4 := Aside0.mk hc0_4
 clear hr0_4 hc0_4
 have HB := Aside0.mk (Below.refl w.heap.size w)
 have H : (if a0_0 < 1 then (catchmentref21_Ask.j0 k true a0_0 a0_1 a0_2 a0_3 l0_4 a1_0 a1_1 a1_2 a1_3 a1_4 a1_5 a1_6 a1_7 a1_8) else (if a0_0 > 6 then (catchmentref21_Ask.j0 k true a0_0 a0_1 a0_2 a0_3 l0_4 a1_0 a1_1 a1_2 a1_3 a1_4 a1_5 a1_6 a1_7 a1_8) else ((catchmentref21_zero.f a0_0 a0_1 a0_2 a0_3 l0_4).bind fun t193 => (catchmentref21_Ask.j0 k (!t193) a0_0 a0_1 a0_2 a0_3 l0_4 a1_0 a1_1 a1_2 a1_3 a1_4 a1_5 a1_6 a1_7 a1_8)))) = some r := h
 clear h
 have HC3 := Aside0.mk H
 clear H
 go_enter Try.func10, Try.ntmps10
 go_upto_region 1 with (first | ((with_reducible refine gate_dst (N := 2) rfl ?_); (try (refine gate_guard (by rfl) ?_; dsimp only)); refine box_event ?hg (N := 2) ?hd (cs := #[.int .u8 a0_0, .string a0_1, .string a0_2, .int .i64 a0_3, .slice A0_4 l0_4.length c0_4]) (t := 27) ?hr ?_; (case hd => rfl); (case hg => rfl); (case hr => first | (go_simp; done) | (go_simp; rfl)); intro gb191 hg w4 hbox hb; have n0_ := Aside0.mk (wT (by repeat (first | (with_reducible first | exact HB.out | apply wA | apply wN | apply w1) | exact HB.out)) hb); have n1_ := Aside0.mk (hbox); have n2_ := Aside0.mk ((by rw [hg]; exact (wZ (by repeat (first | (with_reducible first | exact HB.out | apply wA | apply wN | apply w1) | exact HB.out))) : w.heap.size ≤ gb191)); have n3_ := Aside0.mk ((by rw [hg]; exact (wZ (by repeat (first | (with_reducible first | exact HB.out | apply wA | apply wN | apply w1) | exact HB.out))) : w.heap.size ≤ gb191)); clear HB; have HB := n0_; have BK191 := n1_; have GW191 := n2_; have GE191 := n3_; clear n0_ n1_ n2_ n3_; clear hb hbox hg) | ((with_reducible refine gate_dst (N := 3) rfl ?_); (try (refine gate_guard (by rfl) ?_; dsimp only)); refine box_event ?hg (N := 3) ?hd (cs := #[.int .i64 a1_0, .int .i64 a1_1, .int .i64 a1_2, .int .i64 a1_3, .int .i64 a1_4, .int .i64 a1_5, .int .i64 a1_6, .int .i64 a1_7, .int .i64 a1_8]) (t := 23) ?hr ?_; (case hd => rfl); (case hg => rfl); (case hr => first | (go_simp; done) | (go_simp; rfl)); intro gb192 hg w5 hbox hb; have n0_ := Aside0.mk (bB (g := gb191) (o := .cells #[.int .u8 a0_0, .string a0_1, .string a0_2, .int .i64 a0_3, .slice A0_4 l0_4.length c0_4] 27 (0, 0)) (by (with_reducible repeat (first | refine bN ?_ _ | refine bD ?_ | refine bA ?_ _)); exact BK191.out) hb); have n1_ := Aside0.mk (wT (by repeat (first | (with_reducible first | exact HB.out | apply wA | apply wN | apply w1 | refine wS ?_ GE191.out) | exact HB.out)) hb); have n2_ := Aside0.mk (hbox); have n3_ := Aside0.mk ((by rw [hg]; exact (wZ (by repeat (first | (with_reducible first | exact HB.out | apply wA | apply wN | apply w1 | refine wS ?_ GE191.out) | exact HB.out))) : w.heap.size ≤ gb192)); have n4_ := Aside0.mk ((by rw [hg]; exact (wZ (by repeat (first | (with_reducible first | exact HB.out | apply wA | apply wN | apply w1 | refine wS ?_ GE191.out) | exact HB.out))) : w.heap.size ≤ gb192)); have n5_ := Aside0.mk ((by rw [hg]; exact Nat.ne_of_lt (blk_lt (g := gb191) (o := .cells #[.int .u8 a0_0, .string a0_1, .string a0_2, .int .i64 a0_3, .slice A0_4 l0_4.length c0_4] 27 (0, 0)) (by (with_reducible repeat (first | refine bN ?_ _ | refine bD ?_ | refine bA ?_ _)); exact BK191.out)) : gb191 ≠ gb192)); have n6_ := Aside0.mk ((by rw [hg]; exact Nat.ne_of_gt (blk_lt (g := gb191) (o := .cells #[.int .u8 a0_0, .string a0_1, .string a0_2, .int .i64 a0_3, .slice A0_4 l0_4.length c0_4] 27 (0, 0)) (by (with_reducible repeat (first | refine bN ?_ _ | refine bD ?_ | refine bA ?_ _)); exact BK191.out)) : gb192 ≠ gb191)); clear BK191; clear HB; have BK191 := n0_; have HB := n1_; have BK192 := n2_; have GW192 := n3_; have GE192 := n4_; have NB191_192 := n5_; have NB192_191 := n6_; clear n0_ n1_ n2_ n3_ n4_ n5_ n6_; clear hb hbox hg))
 (try simp only [Act.put, sA1, sA2, sA3])
 go_cut [20] (fun v20 wc => ∃ (kq : Nat) (x20_2 : Bool), v20 = .bool x20_2 ∧ Aside0 (catchmentref21_Ask.j0 kq x20_2 a0_0 a0_1 a0_2 a0_3 l0_4 a1_0 a1_1 a1_2 a1_3 a1_4 a1_5 a1_6 a1_7 a1_8 = some r) ∧ Aside0 (kq ≤ k) ∧ Aside0 (wc.heap[gb191]? = some (.cells #[.int .u8 a0_0, .string a0_1, .string a0_2, .int .i64 a0_3, (.slice A0_4 l0_4.length c0_4)] 27 (0, 0))) ∧ Aside0 (wc.heap[gb192]? = some (.cells #[.int .i64 a1_0, .int .i64 a1_1, .int .i64 a1_2, .int .i64 a1_3, .int .i64 a1_4, .int .i64 a1_5, .int .i64 a1_6, .int .i64 a1_7, .int .i64 a1_8] 23 (0, 0))) ∧ Aside0 (Below w.heap.size w wc))
 case first =>
  have H := HC3.out
  clear HC3
  by_cases c6 : a0_0 < 1
  ·rw [if_pos c6] at H
   have c6b0 : decide (a0_0 < 1) = true := decide_eq_true c6
   clear c6
   (first | rw [c6b0] | (simp only [i64_w, i32_w]; rw [c6b0]) | skip)
   have H' := Aside0.mk H
   clear H
   have hnb7 := NB191_192.out
   have hnc7 := NB192_191.out
   have hcz8_0 : w5.cell? ⟨gb191, 0, none⟩ = some (.int .u8 a0_0) := (bC BK191.out 0).trans rfl
   have hcz8_1 : w5.cell? ⟨gb191, 1, none⟩ = some (.string a0_1) := (bC BK191.out 1).trans rfl
   have hcz8_2 : w5.cell? ⟨gb191, 2, none⟩ = some (.string a0_2) := (bC BK191.out 2).trans rfl
   have hcz8_3 : w5.cell? ⟨gb191, 3, none⟩ = some (.int .i64 a0_3) := (bC BK191.out 3).trans rfl
   have hcz8_4 : w5.cell? ⟨gb191, 4, none⟩ = some (.slice A0_4 l0_4.length c0_4) := (bC BK191.out 4).trans rfl
   have hfz8_0 := bF BK191.out 0
   have hfz8_1 := bF BK191.out 1
   have hfz8_2 := bF BK191.out 2
   have hfz8_3 := bF BK191.out 3
   have hfz8_4 := bF BK191.out 4
   go_wp2
   go_meet
   case rel => exact ⟨_, (true), (by first | rfl | (simp; done) | (simp [*]; done)), H', ⟨by first | omega | exact Nat.le_refl _⟩, ⟨by (with_reducible repeat (first | refine bN ?_ _ | refine bD ?_ | refine bA ?_ _)); exact BK191.out⟩, ⟨by (with_reducible repeat (first | refine bN ?_ _ | refine bD ?_ | refine bA ?_ _)); exact BK192.out⟩, ⟨by repeat (first | (with_reducible first | exact HB.out | apply wA | apply wN | apply w1 | refine wS ?_ GE191.out | refine wS ?_ GE192.out) | exact HB.out)⟩⟩
  ·rw [if_neg c6] at H
   have c6b0 : decide (a0_0 < 1) = false := decide_eq_false c6
   clear c6
   (first | rw [c6b0] | (simp only [i64_w, i32_w]; rw [c6b0]) | skip)
   by_cases c9 : a0_0 > 6
   ·rw [if_pos c9] at H
    have c9b0 : decide (6 < a0_0) = true := decide_eq_true c9
    clear c9
    have H' := Aside0.mk H
    clear H
    have hnb10 := NB191_192.out
    have hnc10 := NB192_191.out
    have hcz11_0 : w5.cell? ⟨gb191, 0, none⟩ = some (.int .u8 a0_0) := (bC BK191.out 0).trans rfl
    have hcz11_1 : w5.cell? ⟨gb191, 1, none⟩ = some (.string a0_1) := (bC BK191.out 1).trans rfl
    have hcz11_2 : w5.cell? ⟨gb191, 2, none⟩ = some (.string a0_2) := (bC BK191.out 2).trans rfl
    have hcz11_3 : w5.cell? ⟨gb191, 3, none⟩ = some (.int .i64 a0_3) := (bC BK191.out 3).trans rfl
    have hcz11_4 : w5.cell? ⟨gb191, 4, none⟩ = some (.slice A0_4 l0_4.length c0_4) := (bC BK191.out 4).trans rfl
    have hfz11_0 := bF BK191.out 0
    have hfz11_1 := bF BK191.out 1
    have hfz11_2 := bF BK191.out 2
    have hfz11_3 := bF BK191.out 3
    have hfz11_4 := bF BK191.out 4
    go_wp2
    go_meet
    case rel => exact ⟨_, (true), (by first | rfl | (simp; done) | (simp [*]; done)), H', ⟨by first | omega | exact Nat.le_refl _⟩, ⟨by (with_reducible repeat (first | refine bN ?_ _ | refine bD ?_ | refine bA ?_ _)); exact BK191.out⟩, ⟨by (with_reducible repeat (first | refine bN ?_ _ | refine bD ?_ | refine bA ?_ _)); exact BK192.out⟩, ⟨by repeat (first | (with_reducible first | exact HB.out | apply wA | apply wN | apply w1 | refine wS ?_ GE191.out | refine wS ?_ GE192.out) | exact HB.out)⟩⟩
   ·rw [if_neg c9] at H
    have c9b0 : decide (6 < a0_0) = false := decide_eq_false c9
    clear c9
    replace H := Option.bind_eq_some_iff.mp H
    obtain ⟨t193, A120, H⟩ := H
    replace H : (catchmentref21_Ask.j0 k (!t193) a0_0 a0_1 a0_2 a0_3 l0_4 a1_0 a1_1 a1_2 a1_3 a1_4 a1_5 a1_6 a1_7 a1_8) = some r := H
    have A12 := Aside0.mk A120
    clear A120
    have H' := Aside0.mk H
    clear H
    have hnb13 := NB191_192.out
    have hnc13 := NB192_191.out
    have hcz14_0 : w5.cell? ⟨gb191, 0, none⟩ = some (.int .u8 a0_0) := (bC BK191.out 0).trans rfl
    have hcz14_1 : w5.cell? ⟨gb191, 1, none⟩ = some (.string a0_1) := (bC BK191.out 1).trans rfl
    have hcz14_2 : w5.cell? ⟨gb191, 2, none⟩ = some (.string a0_2) := (bC BK191.out 2).trans rfl
    have hcz14_3 : w5.cell? ⟨gb191, 3, none⟩ = some (.int .i64 a0_3) := (bC BK191.out 3).trans rfl
    have hcz14_4 : w5.cell? ⟨gb191, 4, none⟩ = some (.slice A0_4 l0_4.length c0_4) := (bC BK191.out 4).trans rfl
    have hfz14_0 := bF BK191.out 0
    have hfz14_1 := bF BK191.out 1
    have hfz14_2 := bF BK191.out 2
    have hfz14_3 := bF BK191.out 3
    have hfz14_4 := bF BK191.out 4
    go_wp2_with (first | (go_at_call 17; (with_reducible refine (catchmentref21_zero.calls a0_0 a0_1 a0_2 a0_3 _ _ l0_4 t193 _ ?side1 ?side2 A12.out).mono ?_); (case side1 => repeat (first | exact (Kd.C_below HR0_4.out HB.out) | (with_reducible refine Kd.C_alloc ?_ _) | (with_reducible refine Kd.C_drewN ?_ _) | (with_reducible refine Kd.C_drew ?_))); (case side2 => exact HC0_4.out); rintro e w15 ⟨rfl, hb⟩; have n0_ := Aside0.mk (bB (g := gb191) (o := .cells #[.int .u8 a0_0, .string a0_1, .string a0_2, .int .i64 a0_3, .slice A0_4 l0_4.length c0_4] 27 (0, 0)) (by (with_reducible repeat (first | refine bN ?_ _ | refine bD ?_ | refine bA ?_ _)); exact BK191.out) hb); have n1_ := Aside0.mk (bB (g := gb192) (o := .cells #[.int .i64 a1_0, .int .i64 a1_1, .int .i64 a1_2, .int .i64 a1_3, .int .i64 a1_4, .int .i64 a1_5, .int .i64 a1_6, .int .i64 a1_7, .int .i64 a1_8] 23 (0, 0)) (by (with_reducible repeat (first | refine bN ?_ _ | refine bD ?_ | refine bA ?_ _)); exact BK192.out) hb); have n2_ := Aside0.mk (wT (by repeat (first | (with_reducible first | exact HB.out | apply wA | apply wN | apply w1 | refine wS ?_ GE191.out | refine wS ?_ GE192.out) | exact HB.out)) hb); clear BK191; clear BK192; clear HB; have BK191 := n0_; have BK192 := n1_; have HB := n2_; clear n0_ n1_ n2_; (try clear hb); (try clear hb2); (try clear hk); (try clear hi)))
    go_meet
    case rel => exact ⟨_, (!t193), (by first | rfl | (simp; done) | (simp [*]; done)), H', ⟨by first | omega | exact Nat.le_refl _⟩, ⟨by (with_reducible repeat (first | refine bN ?_ _ | refine bD ?_ | refine bA ?_ _)); exact BK191.out⟩, ⟨by (with_reducible repeat (first | refine bN ?_ _ | refine bD ?_ | refine bA ?_ _)); exact BK192.out⟩, ⟨by repeat (first | (with_reducible first | exact HB.out | apply wA | apply wN | apply w1 | refine wS ?_ GE191.out | refine wS ?_ GE192.out) | exact HB.out)⟩⟩
 case rest =>
  clear HC3
  try clear c1
  try clear p2
  try clear c6
  try clear c6b0
  try clear c7
  try clear c9
  try clear c9b0
  try clear c10
  try clear c13
  try clear hcz11_0
  try clear hcz11_1
  try clear hcz11_2
  try clear hcz11_3
  try clear hcz11_4
  try clear hcz14_0
  try clear hcz14_1
  try clear hcz14_2
  try clear hcz14_3
  try clear hcz14_4
  try clear hcz8_0
  try clear hcz8_1
  try clear hcz8_2
  try clear hcz8_3
  try clear hcz8_4
  try clear hfz11_0
  try clear hfz11_1
  try clear hfz11_2
  try clear hfz11_3
  try clear hfz11_4
  try clear hfz14_0
  try clear hfz14_1
  try clear hfz14_2
  try clear hfz14_3
  try clear hfz14_4
  try clear hfz8_0
  try clear hfz8_1
  try clear hfz8_2
  try clear hfz8_3
  try clear hfz8_4
  obtain ⟨kq, x20_2, rfl, HA, HJ2, BK191, BK192, HB⟩ := hcut
  cases kq with
  | zero => exact absurd HA.out (by simp [catchmentref21_Ask.j0])
  | succ kj2 =>
   have H := HA.out
   clear HA
   simp only [catchmentref21_Ask.j0] at H
   by_cases c16 : x20_2 = true
   ·subst c16
    have H1 : (some 3) = some r := by rw [if_pos rfl] at H; exact H
    clear H
    have H := H1
    clear H1
    obtain rfl := Option.some.inj H
    go_wp2
    go_ret
    exact ⟨by first | rfl | (simp [errW_none, errW_some] <;> rfl) | (simp [*, errW_none, errW_some] <;> rfl), by repeat (first | (with_reducible first | exact HB.out | apply wA | apply wN | apply w1 | refine wS ?_ GE191.out | refine wS ?_ GE192.out) | exact HB.out)⟩
   ·replace c16 := Bool.eq_false_iff.mpr c16
    subst c16
    have H1 : (if a0_0 = 1 then (if a0_1.toList = ([] : List UInt8) then (catchmentref21_Ask.j1 kj2 true a0_0 a0_1 a0_2 a0_3 l0_4 a1_0 a1_1 a1_2 a1_3 a1_4 a1_5 a1_6 a1_7 a1_8) else (catchmentref21_Ask.j1 kj2 (decide ((a0_1.size : Int) > a1_0)) a0_0 a0_1 a0_2 a0_3 l0_4 a1_0 a1_1 a1_2 a1_3 a1_4 a1_5 a1_6 a1_7 a1_8)) else (catchmentref21_Ask.j1 kj2 false a0_0 a0_1 a0_2 a0_3 l0_4 a1_0 a1_1 a1_2 a1_3 a1_4 a1_5 a1_6 a1_7 a1_8)) = some r := by rw [if_neg (show ¬ (false = true) by decide)] at H; exact H
    clear H
    have H := H1
    clear H1
    have HC17 := Aside0.mk H
    clear H
    go_upto_region 3 with (fail)
    go_cut [36] (fun v36 wc => ∃ (kq : Nat) (x36_16 : Bool), v36 = .bool x36_16 ∧ Aside0 (catchmentref21_Ask.j1 kq x36_16 a0_0 a0_1 a0_2 a0_3 l0_4 a1_0 a1_1 a1_2 a1_3 a1_4 a1_5 a1_6 a1_7 a1_8 = some r) ∧ Aside0 (kq ≤ kj2) ∧ Aside0 (wc.heap[gb191]? = some (.cells #[.int .u8 a0_0, .string a0_1, .string a0_2, .int .i64 a0_3, (.slice A0_4 l0_4.length c0_4)] 27 (0, 0))) ∧ Aside0 (wc.heap[gb192]? = some (.cells #[.int .i64 a1_0, .int .i64 a1_1, .int .i64 a1_2, .int .i64 a1_3, .int .i64 a1_4, .int .i64 a1_5, .int .i64 a1_6, .int .i64 a1_7, .int .i64 a1_8] 23 (0, 0))) ∧ Aside0 (Below w.heap.size w wc))
    case first =>
     have H := HC17.out
     clear HC17
     by_cases c18 : a0_0 = 1
     ·rw [if_pos c18] at H
      have c18b0 : (a0_0 == 1) = true := beq_iff_eq.mpr c18
      have c18b1 : (a0_0 != 1) = false := bne_eq_false_iff_eq.mpr c18
      clear c18
      (first | rw [c18b0] | (simp only [i64_w, i32_w]; rw [c18b0]) | skip)
      by_cases c19 : a0_1.toList = ([] : List UInt8)
      ·rw [if_pos c19] at H
       have c19b0 : (a0_1.toList == ([] : List UInt8)) = true := beq_iff_eq.mpr c19
       have c19b1 : (a0_1.toList != ([] : List UInt8)) = false := bne_eq_false_iff_eq.mpr c19
       clear c19
       have H' := Aside0.mk H
       clear H
       have hnb20 := NB191_192.out
       have hnc20 := NB192_191.out
       have hcz21_0 : wc.cell? ⟨gb191, 0, none⟩ = some (.int .u8 a0_0) := (bC BK191.out 0).trans rfl
       have hcz21_1 : wc.cell? ⟨gb191, 1, none⟩ = some (.string a0_1) := (bC BK191.out 1).trans rfl
       have hcz21_2 : wc.cell? ⟨gb191, 2, none⟩ = some (.string a0_2) := (bC BK191.out 2).trans rfl
       have hcz21_3 : wc.cell? ⟨gb191, 3, none⟩ = some (.int .i64 a0_3) := (bC BK191.out 3).trans rfl
       have hcz21_4 : wc.cell? ⟨gb191, 4, none⟩ = some (.slice A0_4 l0_4.length c0_4) := (bC BK191.out 4).trans rfl
       have hfz21_0 := bF BK191.out 0
       have hfz21_1 := bF BK191.out 1
       have hfz21_2 := bF BK191.out 2
       have hfz21_3 := bF BK191.out 3
       have hfz21_4 := bF BK191.out 4
       go_wp2
       go_meet
       case rel => exact ⟨_, (true), (by first | rfl | (simp; done) | (simp [*]; done)), H', ⟨by have := HJ2.out; first | omega | exact Nat.le_refl _⟩, ⟨by (with_reducible repeat (first | refine bN ?_ _ | refine bD ?_ | refine bA ?_ _)); exact BK191.out⟩, ⟨by (with_reducible repeat (first | refine bN ?_ _ | refine bD ?_ | refine bA ?_ _)); exact BK192.out⟩, ⟨by repeat (first | (with_reducible first | exact HB.out | apply wA | apply wN | apply w1 | refine wS ?_ GE191.out | refine wS ?_ GE192.out) | exact HB.out)⟩⟩
      ·rw [if_neg c19] at H
       have c19b0 : (a0_1.toList == ([] : List UInt8)) = false := beq_eq_false_iff_ne.mpr c19
       have c19b1 : (a0_1.toList != ([] : List UInt8)) = true := bne_iff_ne.mpr c19
       have H' := Aside0.mk H
       clear H
       have hnb22 := NB191_192.out
       have hnc22 := NB192_191.out
       have hcz23_0 : wc.cell? ⟨gb191, 0, none⟩ = some (.int .u8 a0_0) := (bC BK191.out 0).trans rfl
       have hcz23_1 : wc.cell? ⟨gb191, 1, none⟩ = some (.string a0_1) := (bC BK191.out 1).trans rfl
       have hcz23_2 : wc.cell? ⟨gb191, 2, none⟩ = some (.string a0_2) := (bC BK191.out 2).trans rfl
       have hcz23_3 : wc.cell? ⟨gb191, 3, none⟩ = some (.int .i64 a0_3) := (bC BK191.out 3).trans rfl
       have hcz23_4 : wc.cell? ⟨gb191, 4, none⟩ = some (.slice A0_4 l0_4.length c0_4) := (bC BK191.out 4).trans rfl
       have hfz23_0 := bF BK191.out 0
       have hfz23_1 := bF BK191.out 1
       have hfz23_2 := bF BK191.out 2
       have hfz23_3 := bF BK191.out 3
       have hfz23_4 := bF BK191.out 4
       have hcz24_0 : wc.cell? ⟨gb192, 0, none⟩ = some (.int .i64 a1_0) := (bC BK192.out 0).trans rfl
       have hcz24_1 : wc.cell? ⟨gb192, 1, none⟩ = some (.int .i64 a1_1) := (bC BK192.out 1).trans rfl
       have hcz24_2 : wc.cell? ⟨gb192, 2, none⟩ = some (.int .i64 a1_2) := (bC BK192.out 2).trans rfl
       have hcz24_3 : wc.cell? ⟨gb192, 3, none⟩ = some (.int .i64 a1_3) := (bC BK192.out 3).trans rfl
       have hcz24_4 : wc.cell? ⟨gb192, 4, none⟩ = some (.int .i64 a1_4) := (bC BK192.out 4).trans rfl
       have hcz24_5 : wc.cell? ⟨gb192, 5, none⟩ = some (.int .i64 a1_5) := (bC BK192.out 5).trans rfl
       have hcz24_6 : wc.cell? ⟨gb192, 6, none⟩ = some (.int .i64 a1_6) := (bC BK192.out 6).trans rfl
       have hcz24_7 : wc.cell? ⟨gb192, 7, none⟩ = some (.int .i64 a1_7) := (bC BK192.out 7).trans rfl
       have hcz24_8 : wc.cell? ⟨gb192, 8, none⟩ = some (.int .i64 a1_8) := (bC BK192.out 8).trans rfl
       have hfz24_0 := bF BK192.out 0
       have hfz24_1 := bF BK192.out 1
       have hfz24_2 := bF BK192.out 2
       have hfz24_3 := bF BK192.out 3
       have hfz24_4 := bF BK192.out 4
       have hfz24_5 := bF BK192.out 5
       have hfz24_6 := bF BK192.out 6
       have hfz24_7 := bF BK192.out 7
       have hfz24_8 := bF BK192.out 8
       go_wp2
       go_meet
       case rel => exact ⟨_, (decide ((a0_1.size : Int) > a1_0)), (by first | rfl | (simp; done) | (simp [*]; done)), H', ⟨by have := HJ2.out; first | omega | exact Nat.le_refl _⟩, ⟨by (with_reducible repeat (first | refine bN ?_ _ | refine bD ?_ | refine bA ?_ _)); exact BK191.out⟩, ⟨by (with_reducible repeat (first | refine bN ?_ _ | refine bD ?_ | refine bA ?_ _)); exact BK192.out⟩, ⟨by repeat (first | (with_reducible first | exact HB.out | apply wA | apply wN | apply w1 | refine wS ?_ GE191.out | refine wS ?_ GE192.out) | exact HB.out)⟩⟩
     ·rw [if_neg c18] at H
      have c18b0 : (a0_0 == 1) = false := beq_eq_false_iff_ne.mpr c18
      have c18b1 : (a0_0 != 1) = true := bne_iff_ne.mpr c18
      (first | rw [c18b0] | (simp only [i64_w, i32_w]; rw [c18b0]) | skip)
      have H' := Aside0.mk H
      clear H
      have hnb25 := NB191_192.out
      have hnc25 := NB192_191.out
      have hcz26_0 : wc.cell? ⟨gb191, 0, none⟩ = some (.int .u8 a0_0) := (bC BK191.out 0).trans rfl
      have hcz26_1 : wc.cell? ⟨gb191, 1, none⟩ = some (.string a0_1) := (bC BK191.out 1).trans rfl
      have hcz26_2 : wc.cell? ⟨gb191, 2, none⟩ = some (.string a0_2) := (bC BK191.out 2).trans rfl
      have hcz26_3 : wc.cell? ⟨gb191, 3, none⟩ = some (.int .i64 a0_3) := (bC BK191.out 3).trans rfl
      have hcz26_4 : wc.cell? ⟨gb191, 4, none⟩ = some (.slice A0_4 l0_4.length c0_4) := (bC BK191.out 4).trans rfl
      have hfz26_0 := bF BK191.out 0
      have hfz26_1 := bF BK191.out 1
      have hfz26_2 := bF BK191.out 2
      have hfz26_3 := bF BK191.out 3
      have hfz26_4 := bF BK191.out 4
      go_wp2
      go_meet
      case rel => exact ⟨_, (false), (by first | rfl | (simp; done) | (simp [*]; done)), H', ⟨by have := HJ2.out; first | omega | exact Nat.le_refl _⟩, ⟨by (with_reducible repeat (first | refine bN ?_ _ | refine bD ?_ | refine bA ?_ _)); exact BK191.out⟩, ⟨by (with_reducible repeat (first | refine bN ?_ _ | refine bD ?_ | refine bA ?_ _)); exact BK192.out⟩, ⟨by repeat (first | (with_reducible first | exact HB.out | apply wA | apply wN | apply w1 | refine wS ?_ GE191.out | refine wS ?_ GE192.out) | exact HB.out)⟩⟩
    case rest =>
     clear HC17
     try clear c1
     try clear c2
     try clear p2
     try clear c6
     try clear c6b0
     try clear c7
     try clear c9
     try clear c9b0
     try clear c10
     try clear c13
     try clear c16
     try clear c18
     try clear c18b0
     try clear c18b1
     try clear c19
     try clear c19b0
     try clear c19b1
     try clear c20
     try clear c22
     try clear c25
     try clear hcz11_0
     try clear hcz11_1
     try clear hcz11_2
     try clear hcz11_3
     try clear hcz11_4
     try clear hcz14_0
     try clear hcz14_1
     try clear hcz14_2
     try clear hcz14_3
     try clear hcz14_4
     try clear hcz21_0
     try clear hcz21_1
     try clear hcz21_2
     try clear hcz21_3
     try clear hcz21_4
     try clear hcz23_0
     try clear hcz23_1
     try clear hcz23_2
     try clear hcz23_3
     try clear hcz23_4
     try clear hcz24_0
     try clear hcz24_1
     try clear hcz24_2
     try clear hcz24_3
     try clear hcz24_4
     try clear hcz24_5
     try clear hcz24_6
     try clear hcz24_7
     try clear hcz24_8
     try clear hcz26_0
     try clear hcz26_1
     try clear hcz26_2
     try clear hcz26_3
     try clear hcz26_4
     try clear hcz8_0
     try clear hcz8_1
     try clear hcz8_2
     try clear hcz8_3
     try clear hcz8_4
     try clear hfz11_0
     try clear hfz11_1
     try clear hfz11_2
     try clear hfz11_3
     try clear hfz11_4
     try clear hfz14_0
     try clear hfz14_1
     try clear hfz14_2
     try clear hfz14_3
     try clear hfz14_4
     try clear hfz21_0
     try clear hfz21_1
     try clear hfz21_2
     try clear hfz21_3
     try clear hfz21_4
     try clear hfz23_0
     try clear hfz23_1
     try clear hfz23_2
     try clear hfz23_3
     try clear hfz23_4
     try clear hfz24_0
     try clear hfz24_1
     try clear hfz24_2
     try clear hfz24_3
     try clear hfz24_4
     try clear hfz24_5
     try clear hfz24_6
     try clear hfz24_7
     try clear hfz24_8
     try clear hfz26_0
     try clear hfz26_1
     try clear hfz26_2
     try clear hfz26_3
     try clear hfz26_4
     try clear hfz8_0
     try clear hfz8_1
     try clear hfz8_2
     try clear hfz8_3
     try clear hfz8_4
     try clear p2
     obtain ⟨kq, x36_16, rfl, HA, HJ16, BK191, BK192, HB⟩ := hcut
     cases kq with
     | zero => exact absurd HA.out (by simp [catchmentref21_Ask.j1])
     | succ kj16 =>
      have H := HA.out
      clear HA
      simp only [catchmentref21_Ask.j1] at H
      by_cases c27 : x36_16 = true
      ·subst c27
       have H1 : (some 6) = some r := by rw [if_pos rfl] at H; exact H
       clear H
       have H := H1
       clear H1
       obtain rfl := Option.some.inj H
       go_wp2
       go_ret
       exact ⟨by first | rfl | (simp [errW_none, errW_some] <;> rfl) | (simp [*, errW_none, errW_some] <;> rfl), by repeat (first | (with_reducible first | exact HB.out | apply wA | apply wN | apply w1 | refine wS ?_ GE191.out | refine wS ?_ GE192.out) | exact HB.out)⟩
      ·replace c27 := Bool.eq_false_iff.mpr c27
       subst c27
       have H1 : (if a0_0 = 2 then (catchmentref21_Ask.j2 kj16 (decide ((l0_4.length : Int) > 1024)) a0_0 a0_1 a0_2 a0_3 l0_4 a1_0 a1_1 a1_2 a1_3 a1_4 a1_5 a1_6 a1_7 a1_8) else (catchmentref21_Ask.j2 kj16 false a0_0 a0_1 a0_2 a0_3 l0_4 a1_0 a1_1 a1_2 a1_3 a1_4 a1_5 a1_6 a1_7 a1_8)) = some r := by rw [if_neg (show ¬ (false = true) by decide)] at H; exact H
       clear H
       have H := H1
       clear H1
       have HC28 := Aside0.mk H
       clear H
       go_upto_region 5 with (fail)
       go_cut [45] (fun v45 wc => ∃ (kq : Nat) (x45_27 : Bool), v45 = .bool x45_27 ∧ Aside0 (catchmentref21_Ask.j2 kq x45_27 a0_0 a0_1 a0_2 a0_3 l0_4 a1_0 a1_1 a1_2 a1_3 a1_4 a1_5 a1_6 a1_7 a1_8 = some r) ∧ Aside0 (kq ≤ kj16) ∧ Aside0 (wc.heap[gb191]? = some (.cells #[.int .u8 a0_0, .string a0_1, .string a0_2, .int .i64 a0_3, (.slice A0_4 l0_4.length c0_4)] 27 (0, 0))) ∧ Aside0 (wc.heap[gb192]? = some (.cells #[.int .i64 a1_0, .int .i64 a1_1, .int .i64 a1_2, .int .i64 a1_3, .int .i64 a1_4, .int .i64 a1_5, .int .i64 a1_6, .int .i64 a1_7, .int .i64 a1_8] 23 (0, 0))) ∧ Aside0 (Below w.heap.size w wc))
       case first =>
        have H := HC28.out
        clear HC28
        by_cases c29 : a0_0 = 2
        ·rw [if_pos c29] at H
         have c29b0 : (a0_0 == 2) = true := beq_iff_eq.mpr c29
         have c29b1 : (a0_0 != 2) = false := bne_eq_false_iff_eq.mpr c29
         clear c29
         (first | rw [c29b0] | (simp only [i64_w, i32_w]; rw [c29b0]) | skip)
         have H' := Aside0.mk H
         clear H
         have hnb30 := NB191_192.out
         have hnc30 := NB192_191.out
         have hcz31_0 : wc.cell? ⟨gb191, 0, none⟩ = some (.int .u8 a0_0) := (bC BK191.out 0).trans rfl
         have hcz31_1 : wc.cell? ⟨gb191, 1, none⟩ = some (.string a0_1) := (bC BK191.out 1).trans rfl
         have hcz31_2 : wc.cell? ⟨gb191, 2, none⟩ = some (.string a0_2) := (bC BK191.out 2).trans rfl
         have hcz31_3 : wc.cell? ⟨gb191, 3, none⟩ = some (.int .i64 a0_3) := (bC BK191.out 3).trans rfl
         have hcz31_4 : wc.cell? ⟨gb191, 4, none⟩ = some (.slice A0_4 l0_4.length c0_4) := (bC BK191.out 4).trans rfl
         have hfz31_0 := bF BK191.out 0
         have hfz31_1 := bF BK191.out 1
         have hfz31_2 := bF BK191.out 2
         have hfz31_3 := bF BK191.out 3
         have hfz31_4 := bF BK191.out 4
         go_wp2
         go_meet
         case rel => exact ⟨_, (decide ((l0_4.length : Int) > 1024)), (by first | rfl | (simp; done) | (simp [*]; done)), H', ⟨by have := HJ2.out; have := HJ16.out; first | omega | exact Nat.le_refl _⟩, ⟨by (with_reducible repeat (first | refine bN ?_ _ | refine bD ?_ | refine bA ?_ _)); exact BK191.out⟩, ⟨by (with_reducible repeat (first | refine bN ?_ _ | refine bD ?_ | refine bA ?_ _)); exact BK192.out⟩, ⟨by repeat (first | (with_reducible first | exact HB.out | apply wA | apply wN | apply w1 | refine wS ?_ GE191.out | refine wS ?_ GE192.out) | exact HB.out)⟩⟩
        ·rw [if_neg c29] at H
         have c29b0 : (a0_0 == 2) = false := beq_eq_false_iff_ne.mpr c29
         have c29b1 : (a0_0 != 2) = true := bne_iff_ne.mpr c29
         (first | rw [c29b0] | (simp only [i64_w, i32_w]; rw [c29b0]) | skip)
         have H' := Aside0.mk H
         clear H
         have hnb32 := NB191_192.out
         have hnc32 := NB192_191.out
         have hcz33_0 : wc.cell? ⟨gb191, 0, none⟩ = some (.int .u8 a0_0) := (bC BK191.out 0).trans rfl
         have hcz33_1 : wc.cell? ⟨gb191, 1, none⟩ = some (.string a0_1) := (bC BK191.out 1).trans rfl
         have hcz33_2 : wc.cell? ⟨gb191, 2, none⟩ = some (.string a0_2) := (bC BK191.out 2).trans rfl
         have hcz33_3 : wc.cell? ⟨gb191, 3, none⟩ = some (.int .i64 a0_3) := (bC BK191.out 3).trans rfl
         have hcz33_4 : wc.cell? ⟨gb191, 4, none⟩ = some (.slice A0_4 l0_4.length c0_4) := (bC BK191.out 4).trans rfl
         have hfz33_0 := bF BK191.out 0
         have hfz33_1 := bF BK191.out 1
         have hfz33_2 := bF BK191.out 2
         have hfz33_3 := bF BK191.out 3
         have hfz33_4 := bF BK191.out 4
         go_wp2
         go_meet
         case rel => exact ⟨_, (false), (by first | rfl | (simp; done) | (simp [*]; done)), H', ⟨by have := HJ2.out; have := HJ16.out; first | omega | exact Nat.le_refl _⟩, ⟨by (with_reducible repeat (first | refine bN ?_ _ | refine bD ?_ | refine bA ?_ _)); exact BK191.out⟩, ⟨by (with_reducible repeat (first | refine bN ?_ _ | refine bD ?_ | refine bA ?_ _)); exact BK192.out⟩, ⟨by repeat (first | (with_reducible first | exact HB.out | apply wA | apply wN | apply w1 | refine wS ?_ GE191.out | refine wS ?_ GE192.out) | exact HB.out)⟩⟩
       case rest =>
        clear HC28
        try clear c1
        try clear c2
        try clear p2
        try clear c3
        try clear c6
        try clear c6b0
        try clear c7
        try clear c9
        try clear c9b0
        try clear c10
        try clear c13
        try clear c16
        try clear c18
        try clear c18b0
        try clear c18b1
        try clear c19
        try clear c19b0
        try clear c19b1
        try clear c20
        try clear c22
        try clear c25
        try clear c27
        try clear c29
        try clear c29b0
        try clear c29b1
        try clear c30
        try clear c32
        try clear hcz11_0
        try clear hcz11_1
        try clear hcz11_2
        try clear hcz11_3
        try clear hcz11_4
        try clear hcz14_0
        try clear hcz14_1
        try clear hcz14_2
        try clear hcz14_3
        try clear hcz14_4
        try clear hcz21_0
        try clear hcz21_1
        try clear hcz21_2
        try clear hcz21_3
        try clear hcz21_4
        try clear hcz23_0
        try clear hcz23_1
        try clear hcz23_2
        try clear hcz23_3
        try clear hcz23_4
        try clear hcz24_0
        try clear hcz24_1
        try clear hcz24_2
        try clear hcz24_3
        try clear hcz24_4
        try clear hcz24_5
        try clear hcz24_6
        try clear hcz24_7
        try clear hcz24_8
        try clear hcz26_0
        try clear hcz26_1
        try clear hcz26_2
        try clear hcz26_3
        try clear hcz26_4
        try clear hcz31_0
        try clear hcz31_1
        try clear hcz31_2
        try clear hcz31_3
        try clear hcz31_4
        try clear hcz33_0
        try clear hcz33_1
        try clear hcz33_2
        try clear hcz33_3
        try clear hcz33_4
        try clear hcz8_0
        try clear hcz8_1
        try clear hcz8_2
        try clear hcz8_3
        try clear hcz8_4
        try clear hfz11_0
        try clear hfz11_1
        try clear hfz11_2
        try clear hfz11_3
        try clear hfz11_4
        try clear hfz14_0
        try clear hfz14_1
        try clear hfz14_2
        try clear hfz14_3
        try clear hfz14_4
        try clear hfz21_0
        try clear hfz21_1
        try clear hfz21_2
        try clear hfz21_3
        try clear hfz21_4
        try clear hfz23_0
        try clear hfz23_1
        try clear hfz23_2
        try clear hfz23_3
        try clear hfz23_4
        try clear hfz24_0
        try clear hfz24_1
        try clear hfz24_2
        try clear hfz24_3
        try clear hfz24_4
        try clear hfz24_5
        try clear hfz24_6
        try clear hfz24_7
        try clear hfz24_8
        try clear hfz26_0
        try clear hfz26_1
        try clear hfz26_2
        try clear hfz26_3
        try clear hfz26_4
        try clear hfz31_0
        try clear hfz31_1
        try clear hfz31_2
        try clear hfz31_3
        try clear hfz31_4
        try clear hfz33_0
        try clear hfz33_1
        try clear hfz33_2
        try clear hfz33_3
        try clear hfz33_4
        try clear hfz8_0
        try clear hfz8_1
        try clear hfz8_2
        try clear hfz8_3
        try clear hfz8_4
        try clear p2
        obtain ⟨kq, x45_27, rfl, HA, HJ27, BK191, BK192, HB⟩ := hcut
        cases kq with
        | zero => exact absurd HA.out (by simp [catchmentref21_Ask.j2])
        | succ kj27 =>
         have H := HA.out
         clear HA
         simp only [catchmentref21_Ask.j2] at H
         by_cases c34 : x45_27 = true
         ·subst c34
          have H1 : (some 8) = some r := by rw [if_pos rfl] at H; exact H
          clear H
          have H := H1
          clear H1
          obtain rfl := Option.some.inj H
          go_wp2
          go_ret
          exact ⟨by first | rfl | (simp [errW_none, errW_some] <;> rfl) | (simp [*, errW_none, errW_some] <;> rfl), by repeat (first | (with_reducible first | exact HB.out | apply wA | apply wN | apply w1 | refine wS ?_ GE191.out | refine wS ?_ GE192.out) | exact HB.out)⟩
         ·replace c34 := Bool.eq_false_iff.mpr c34
          subst c34
          have H1 : (catchmentref21_Ask.l0 kj27 0 a0_0 a0_1 a0_2 a0_3 l0_4 a1_0 a1_1 a1_2 a1_3 a1_4 a1_5 a1_6 a1_7 a1_8) = some r := by rw [if_neg (show ¬ (false = true) by decide)] at H; exact H
          clear H
          have H := H1
          clear H1
          have H' := Aside0.mk H
          clear H
          go_wp2
          go_loopg [5] kj27 (fun kq v5 w' => ∃ (x5_4 : Int), v5 = .int .i64 x5_4 ∧ Aside0 (catchmentref21_Ask.l0 kq x5_4 a0_0 a0_1 a0_2 a0_3 l0_4 a1_0 a1_1 a1_2 a1_3 a1_4 a1_5 a1_6 a1_7 a1_8 = some r) ∧ Aside0 (kq ≤ kj27) ∧ Aside0 (w'.heap[gb191]? = some (.cells #[.int .u8 a0_0, .string a0_1, .string a0_2, .int .i64 a0_3, (.slice A0_4 l0_4.length c0_4)] 27 (0, 0))) ∧ Aside0 (w'.heap[gb192]? = some (.cells #[.int .i64 a1_0, .int .i64 a1_1, .int .i64 a1_2, .int .i64 a1_3, .int .i64 a1_4, .int .i64 a1_5, .int .i64 a1_6, .int .i64 a1_7, .int .i64 a1_8] 23 (0, 0))) ∧ Aside0 (Below w.heap.size w w'))
          case atStart => exact ⟨(0), (by first | rfl | (simp; done) | (simp [*]; done)), H', ⟨Nat.le_refl _⟩, ⟨by (with_reducible repeat (first | refine bN ?_ _ | refine bD ?_ | refine bA ?_ _)); exact BK191.out⟩, ⟨by (with_reducible repeat (first | refine bN ?_ _ | refine bD ?_ | refine bA ?_ _)); exact BK192.out⟩, ⟨by repeat (first | (with_reducible first | exact HB.out | apply wA | apply wN | apply w1 | refine wS ?_ GE191.out | refine wS ?_ GE192.out) | exact HB.out)⟩⟩
          case round =>
           clear H'
           try clear c1
           try clear c2
           try clear p2
           try clear c3
           try clear c6
           try clear c6b0
           try clear c7
           try clear c9
           try clear c9b0
           try clear c10
           try clear c13
           try clear c16
           try clear c18
           try clear c18b0
           try clear c18b1
           try clear c19
           try clear c19b0
           try clear c19b1
           try clear c20
           try clear c22
           try clear c25
           try clear c27
           try clear c29
           try clear c29b0
           try clear c29b1
           try clear c30
           try clear c32
           try clear c34
           try clear hcz11_0
           try clear hcz11_1
           try clear hcz11_2
           try clear hcz11_3
           try clear hcz11_4
           try clear hcz14_0
           try clear hcz14_1
           try clear hcz14_2
           try clear hcz14_3
           try clear hcz14_4
           try clear hcz21_0
           try clear hcz21_1
           try clear hcz21_2
           try clear hcz21_3
           try clear hcz21_4
           try clear hcz23_0
           try clear hcz23_1
           try clear hcz23_2
           try clear hcz23_3
           try clear hcz23_4
           try clear hcz24_0
           try clear hcz24_1
           try clear hcz24_2
           try clear hcz24_3
           try clear hcz24_4
           try clear hcz24_5
           try clear hcz24_6
           try clear hcz24_7
           try clear hcz24_8
           try clear hcz26_0
           try clear hcz26_1
           try clear hcz26_2
           try clear hcz26_3
           try clear hcz26_4
           try clear hcz31_0
           try clear hcz31_1
           try clear hcz31_2
           try clear hcz31_3
           try clear hcz31_4
           try clear hcz33_0
           try clear hcz33_1
           try clear hcz33_2
           try clear hcz33_3
           try clear hcz33_4
           try clear hcz8_0
           try clear hcz8_1
           try clear hcz8_2
           try clear hcz8_3
           try clear hcz8_4
           try clear hfz11_0
           try clear hfz11_1
           try clear hfz11_2
           try clear hfz11_3
           try clear hfz11_4
           try clear hfz14_0
           try clear hfz14_1
           try clear hfz14_2
           try clear hfz14_3
           try clear hfz14_4
           try clear hfz21_0
           try clear hfz21_1
           try clear hfz21_2
           try clear hfz21_3
           try clear hfz21_4
           try clear hfz23_0
           try clear hfz23_1
           try clear hfz23_2
           try clear hfz23_3
           try clear hfz23_4
           try clear hfz24_0
           try clear hfz24_1
           try clear hfz24_2
           try clear hfz24_3
           try clear hfz24_4
           try clear hfz24_5
           try clear hfz24_6
           try clear hfz24_7
           try clear hfz24_8
           try clear hfz26_0
           try clear hfz26_1
           try clear hfz26_2
           try clear hfz26_3
           try clear hfz26_4
           try clear hfz31_0
           try clear hfz31_1
           try clear hfz31_2
           try clear hfz31_3
           try clear hfz31_4
           try clear hfz33_0
           try clear hfz33_1
           try clear hfz33_2
           try clear hfz33_3
           try clear hfz33_4
           try clear hfz8_0
           try clear hfz8_1
           try clear hfz8_2
           try clear hfz8_3
           try clear hfz8_4
           try clear p2
           obtain ⟨x5_4, rfl, HA, HK4, BK191, BK192, HB⟩ := hrel
           cases gk with
           | zero => exact absurd HA.out (by simp [catchmentref21_Ask.l0])
           | succ k4 =>
            have H := HA.out
            clear HA
            simp only [catchmentref21_Ask.l0] at H
            by_cases c35 : x5_4 < (l0_4.length : Int)
            ·rw [if_pos c35] at H
             have c35b0 : decide (x5_4 < (l0_4.length : Int)) = true := decide_eq_true c35
             clear c35
             by_cases c36 : 0 ≤ x5_4
             ·rw [if_pos c36] at H
              have c36b0 : decide (0 ≤ x5_4) = true := decide_eq_true c36
              clear c36
              by_cases c37 : ((rd_T47 l0_4 x5_4).f1) = 0
              ·rw [if_pos c37] at H
               have c37b0 : (((rd_T47 l0_4 x5_4).f1) == 0) = true := beq_iff_eq.mpr c37
               have c37b1 : (((rd_T47 l0_4 x5_4).f1) != 0) = false := bne_eq_false_iff_eq.mpr c37
               clear c37
               have H' := Aside0.mk H
               clear H
               have hnb38 := NB191_192.out
               have hnc38 := NB192_191.out
               have hcz39_0 : wr.cell? ⟨gb191, 0, none⟩ = some (.int .u8 a0_0) := (bC BK191.out 0).trans rfl
               have hcz39_1 : wr.cell? ⟨gb191, 1, none⟩ = some (.string a0_1) := (bC BK191.out 1).trans rfl
               have hcz39_2 : wr.cell? ⟨gb191, 2, none⟩ = some (.string a0_2) := (bC BK191.out 2).trans rfl
               have hcz39_3 : wr.cell? ⟨gb191, 3, none⟩ = some (.int .i64 a0_3) := (bC BK191.out 3).trans rfl
               have hcz39_4 : wr.cell? ⟨gb191, 4, none⟩ = some (.slice A0_4 l0_4.length c0_4) := (bC BK191.out 4).trans rfl
               have hfz39_0 := bF BK191.out 0
               have hfz39_1 := bF BK191.out 1
               have hfz39_2 := bF BK191.out 2
               have hfz39_3 := bF BK191.out 3
               have hfz39_4 := bF BK191.out 4
               have p194 : 0 ≤ (x5_4 : Int) := of_decide_eq_true (by first | (with_reducible assumption) | assumption)
               have q194 : x5_4 < (l0_4.length : Int) := of_decide_eq_true (by first | (with_reducible assumption) | assumption)
               obtain ⟨ad194, e194, hx194_0, hx194_1, hx194_2, hx194_3, hx194_4, hx194_5⟩ := at_T47 HR0_4.out x5_4 p194 q194
               cases e194
               replace hx194_0 := (HB.out.cell (World.block_lt_of_cell? w _ hx194_0)).trans hx194_0
               replace hx194_1 := (HB.out.cell (World.block_lt_of_cell? w _ hx194_1)).trans hx194_1
               replace hx194_2 := (HB.out.cell (World.block_lt_of_cell? w _ hx194_2)).trans hx194_2
               replace hx194_3 := (HB.out.cell (World.block_lt_of_cell? w _ hx194_3)).trans hx194_3
               replace hx194_4 := (HB.out.cell (World.block_lt_of_cell? w _ hx194_4)).trans hx194_4
               replace hx194_5 := (HB.out.cell (World.block_lt_of_cell? w _ hx194_5)).trans hx194_5
               replace p194 := eq_true p194
               replace q194 := eq_true q194
               go_wp2
               go_roundg k4
               case measure => have := HJ2.out; have := HJ16.out; have := HJ27.out; have := HK4.out; omega
               case rel => exact ⟨(wrap64 (x5_4 + 1)), (by first | rfl | (simp; done) | (simp [*]; done)), H', ⟨by have := HJ2.out; have := HJ16.out; have := HJ27.out; have := HK4.out; omega⟩, ⟨by (with_reducible repeat (first | refine bN ?_ _ | refine bD ?_ | refine bA ?_ _)); exact BK191.out⟩, ⟨by (with_reducible repeat (first | refine bN ?_ _ | refine bD ?_ | refine bA ?_ _)); exact BK192.out⟩, ⟨by repeat (first | (with_reducible first | exact HB.out | apply wA | apply wN | apply w1 | refine wS ?_ GE191.out | refine wS ?_ GE192.out) | exact HB.out)⟩⟩
              ·rw [if_neg c37] at H
               have c37b0 : (((rd_T47 l0_4 x5_4).f1) == 0) = false := beq_eq_false_iff_ne.mpr c37
               have c37b1 : (((rd_T47 l0_4 x5_4).f1) != 0) = true := bne_iff_ne.mpr c37
               obtain rfl := Option.some.inj H
               have hnb40 := NB191_192.out
               have hnc40 := NB192_191.out
               have hcz41_0 : wr.cell? ⟨gb191, 0, none⟩ = some (.int .u8 a0_0) := (bC BK191.out 0).trans rfl
               have hcz41_1 : wr.cell? ⟨gb191, 1, none⟩ = some (.string a0_1) := (bC BK191.out 1).trans rfl
               have hcz41_2 : wr.cell? ⟨gb191, 2, none⟩ = some (.string a0_2) := (bC BK191.out 2).trans rfl
               have hcz41_3 : wr.cell? ⟨gb191, 3, none⟩ = some (.int .i64 a0_3) := (bC BK191.out 3).trans rfl
               have hcz41_4 : wr.cell? ⟨gb191, 4, none⟩ = some (.slice A0_4 l0_4.length c0_4) := (bC BK191.out 4).trans rfl
               have hfz41_0 := bF BK191.out 0
               have hfz41_1 := bF BK191.out 1
               have hfz41_2 := bF BK191.out 2
               have hfz41_3 := bF BK191.out 3
               have hfz41_4 := bF BK191.out 4
               have p194 : 0 ≤ (x5_4 : Int) := of_decide_eq_true (by first | (with_reducible assumption) | assumption)
               have q194 : x5_4 < (l0_4.length : Int) := of_decide_eq_true (by first | (with_reducible assumption) | assumption)
               obtain ⟨ad194, e194, hx194_0, hx194_1, hx194_2, hx194_3, hx194_4, hx194_5⟩ := at_T47 HR0_4.out x5_4 p194 q194
               cases e194
               replace hx194_0 := (HB.out.cell (World.block_lt_of_cell? w _ hx194_0)).trans hx194_0
               replace hx194_1 := (HB.out.cell (World.block_lt_of_cell? w _ hx194_1)).trans hx194_1
               replace hx194_2 := (HB.out.cell (World.block_lt_of_cell? w _ hx194_2)).trans hx194_2
               replace hx194_3 := (HB.out.cell (World.block_lt_of_cell? w _ hx194_3)).trans hx194_3
               replace hx194_4 := (HB.out.cell (World.block_lt_of_cell? w _ hx194_4)).trans hx194_4
               replace hx194_5 := (HB.out.cell (World.block_lt_of_cell? w _ hx194_5)).trans hx194_5
               replace p194 := eq_true p194
               replace q194 := eq_true q194
               go_wp2
               go_ret
               exact ⟨by first | rfl | (simp [errW_none, errW_some] <;> rfl) | (simp [*, errW_none, errW_some] <;> rfl), by repeat (first | (with_reducible first | exact HB.out | apply wA | apply wN | apply w1 | refine wS ?_ GE191.out | refine wS ?_ GE192.out) | exact HB.out)⟩
             ·rw [if_neg c36] at H
              exact absurd H (by simp)
            ·rw [if_neg c35] at H
             have c35b0 : decide (x5_4 < (l0_4.length : Int)) = false := decide_eq_false c35
             clear c35
             have H' := Aside0.mk H
             clear H
             have hnb42 := NB191_192.out
             have hnc42 := NB192_191.out
             have hcz43_0 : wr.cell? ⟨gb191, 0, none⟩ = some (.int .u8 a0_0) := (bC BK191.out 0).trans rfl
             have hcz43_1 : wr.cell? ⟨gb191, 1, none⟩ = some (.string a0_1) := (bC BK191.out 1).trans rfl
             have hcz43_2 : wr.cell? ⟨gb191, 2, none⟩ = some (.string a0_2) := (bC BK191.out 2).trans rfl
             have hcz43_3 : wr.cell? ⟨gb191, 3, none⟩ = some (.int .i64 a0_3) := (bC BK191.out 3).trans rfl
             have hcz43_4 : wr.cell? ⟨gb191, 4, none⟩ = some (.slice A0_4 l0_4.length c0_4) := (bC BK191.out 4).trans rfl
             have hfz43_0 := bF BK191.out 0
             have hfz43_1 := bF BK191.out 1
             have hfz43_2 := bF BK191.out 2
             have hfz43_3 := bF BK191.out 3
             have hfz43_4 := bF BK191.out 4
             go_wp2
             go_loopg [6] k4 (fun kq v6 w' => ∃ (x6_5 : Int), v6 = .int .i64 x6_5 ∧ Aside0 (catchmentref21_Ask.l1 kq x6_5 a0_0 a0_1 a0_2 a0_3 l0_4 a1_0 a1_1 a1_2 a1_3 a1_4 a1_5 a1_6 a1_7 a1_8 = some r) ∧ Aside0 (kq ≤ k4) ∧ Aside0 (w'.heap[gb191]? = some (.cells #[.int .u8 a0_0, .string a0_1, .string a0_2, .int .i64 a0_3, (.slice A0_4 l0_4.length c0_4)] 27 (0, 0))) ∧ Aside0 (w'.heap[gb192]? = some (.cells #[.int .i64 a1_0, .int .i64 a1_1, .int .i64 a1_2, .int .i64 a1_3, .int .i64 a1_4, .int .i64 a1_5, .int .i64 a1_6, .int .i64 a1_7, .int .i64 a1_8] 23 (0, 0))) ∧ Aside0 (Below w.heap.size w w'))
             case atStart => exact ⟨(0), (by first | rfl | (simp; done) | (simp [*]; done)), H', ⟨Nat.le_refl _⟩, ⟨by (with_reducible repeat (first | refine bN ?_ _ | refine bD ?_ | refine bA ?_ _)); exact BK191.out⟩, ⟨by (with_reducible repeat (first | refine bN ?_ _ | refine bD ?_ | refine bA ?_ _)); exact BK192.out⟩, ⟨by repeat (first | (with_reducible first | exact HB.out | apply wA | apply wN | apply w1 | refine wS ?_ GE191.out | refine wS ?_ GE192.out) | exact HB.out)⟩⟩
             case round =>
              clear H'
              try clear c1
              try clear p1
              try clear q1
              try clear hx1
              try clear c2
              try clear p2
              try clear c3
              try clear c4
              try clear c6
              try clear c6b0
              try clear p6
              try clear c7
              try clear c9
              try clear c9b0
              try clear c10
              try clear c13
              try clear c16
              try clear c18
              try clear c18b0
              try clear c18b1
              try clear c19
              try clear c19b0
              try clear c19b1
              try clear p19
              try clear q19
              try clear hx19
              try clear c20
              try clear c22
              try clear c25
              try clear c27
              try clear c29
              try clear c29b0
              try clear c29b1
              try clear c30
              try clear c32
              try clear c34
              try clear c35
              try clear c35b0
              try clear c36
              try clear c36b0
              try clear c37
              try clear c37b0
              try clear c37b1
              try clear c38
              try clear c40
              try clear c42
              try clear hcz11_0
              try clear hcz11_1
              try clear hcz11_2
              try clear hcz11_3
              try clear hcz11_4
              try clear hcz14_0
              try clear hcz14_1
              try clear hcz14_2
              try clear hcz14_3
              try clear hcz14_4
              try clear hcz21_0
              try clear hcz21_1
              try clear hcz21_2
              try clear hcz21_3
              try clear hcz21_4
              try clear hcz23_0
              try clear hcz23_1
              try clear hcz23_2
              try clear hcz23_3
              try clear hcz23_4
              try clear hcz24_0
              try clear hcz24_1
              try clear hcz24_2
              try clear hcz24_3
              try clear hcz24_4
              try clear hcz24_5
              try clear hcz24_6
              try clear hcz24_7
              try clear hcz24_8
              try clear hcz26_0
              try clear hcz26_1
              try clear hcz26_2
              try clear hcz26_3
              try clear hcz26_4
              try clear hcz31_0
              try clear hcz31_1
              try clear hcz31_2
              try clear hcz31_3
              try clear hcz31_4
              try clear hcz33_0
              try clear hcz33_1
              try clear hcz33_2
              try clear hcz33_3
              try clear hcz33_4
              try clear hcz39_0
              try clear hcz39_1
              try clear hcz39_2
              try clear hcz39_3
              try clear hcz39_4
              try clear hcz41_0
              try clear hcz41_1
              try clear hcz41_2
              try clear hcz41_3
              try clear hcz41_4
              try clear hcz43_0
              try clear hcz43_1
              try clear hcz43_2
              try clear hcz43_3
              try clear hcz43_4
              try clear hcz8_0
              try clear hcz8_1
              try clear hcz8_2
              try clear hcz8_3
              try clear hcz8_4
              try clear hfz11_0
              try clear hfz11_1
              try clear hfz11_2
              try clear hfz11_3
              try clear hfz11_4
              try clear hfz14_0
              try clear hfz14_1
              try clear hfz14_2
              try clear hfz14_3
              try clear hfz14_4
              try clear hfz21_0
              try clear hfz21_1
              try clear hfz21_2
              try clear hfz21_3
              try clear hfz21_4
              try clear hfz23_0
              try clear hfz23_1
              try clear hfz23_2
              try clear hfz23_3
              try clear hfz23_4
              try clear hfz24_0
              try clear hfz24_1
              try clear hfz24_2
              try clear hfz24_3
              try clear hfz24_4
              try clear hfz24_5
              try clear hfz24_6
              try clear hfz24_7
              try clear hfz24_8
              try clear hfz26_0
              try clear hfz26_1
              try clear hfz26_2
              try clear hfz26_3
              try clear hfz26_4
              try clear hfz31_0
              try clear hfz31_1
              try clear hfz31_2
              try clear hfz31_3
              try clear hfz31_4
              try clear hfz33_0
              try clear hfz33_1
              try clear hfz33_2
              try clear hfz33_3
              try clear hfz33_4
              try clear hfz39_0
              try clear hfz39_1
              try clear hfz39_2
              try clear hfz39_3
              try clear hfz39_4
              try clear hfz41_0
              try clear hfz41_1
              try clear hfz41_2
              try clear hfz41_3
              try clear hfz41_4
              try clear hfz43_0
              try clear hfz43_1
              try clear hfz43_2
              try clear hfz43_3
              try clear hfz43_4
              try clear hfz8_0
              try clear hfz8_1
              try clear hfz8_2
              try clear hfz8_3
              try clear hfz8_4
              try clear hx194_0
              try clear hx194_1
              try clear hx194_2
              try clear hx194_3
              try clear hx194_4
              try clear hx194_5
              try clear p194
              try clear p2
              try clear q194
              obtain ⟨x6_5, rfl, HA, HK5, BK191, BK192, HB⟩ := hrel
              cases gk with
              | zero => exact absurd HA.out (by simp [catchmentref21_Ask.l1])
              | succ k5 =>
               have H := HA.out
               clear HA
               simp only [catchmentref21_Ask.l1] at H
               by_cases c44 : x6_5 < (l0_4.length : Int)
               ·rw [if_pos c44] at H
                have c44b0 : decide (x6_5 < (l0_4.length : Int)) = true := decide_eq_true c44
                clear c44
                by_cases c45 : 0 ≤ x6_5
                ·rw [if_pos c45] at H
                 have c45b0 : decide (0 ≤ x6_5) = true := decide_eq_true c45
                 clear c45
                 replace H := Option.bind_eq_some_iff.mp H
                 obtain ⟨t196, A460, H⟩ := H
                 replace H : (if t196 = 0 then (catchmentref21_Ask.l1 k5 (wrap64 (x6_5 + 1)) a0_0 a0_1 a0_2 a0_3 l0_4 a1_0 a1_1 a1_2 a1_3 a1_4 a1_5 a1_6 a1_7 a1_8) else (some t196)) = some r := H
                 have A46 := Aside0.mk A460
                 clear A460
                 by_cases c47 : t196 = 0
                 ·rw [if_pos c47] at H
                  have c47b0 : (t196 == 0) = true := beq_iff_eq.mpr c47
                  have c47b1 : (t196 != 0) = false := bne_eq_false_iff_eq.mpr c47
                  clear c47
                  have H' := Aside0.mk H
                  clear H
                  have hnb48 := NB191_192.out
                  have hnc48 := NB192_191.out
                  have hcz49_0 : wr.cell? ⟨gb191, 0, none⟩ = some (.int .u8 a0_0) := (bC BK191.out 0).trans rfl
                  have hcz49_1 : wr.cell? ⟨gb191, 1, none⟩ = some (.string a0_1) := (bC BK191.out 1).trans rfl
                  have hcz49_2 : wr.cell? ⟨gb191, 2, none⟩ = some (.string a0_2) := (bC BK191.out 2).trans rfl
                  have hcz49_3 : wr.cell? ⟨gb191, 3, none⟩ = some (.int .i64 a0_3) := (bC BK191.out 3).trans rfl
                  have hcz49_4 : wr.cell? ⟨gb191, 4, none⟩ = some (.slice A0_4 l0_4.length c0_4) := (bC BK191.out 4).trans rfl
                  have hfz49_0 := bF BK191.out 0
                  have hfz49_1 := bF BK191.out 1
                  have hfz49_2 := bF BK191.out 2
                  have hfz49_3 := bF BK191.out 3
                  have hfz49_4 := bF BK191.out 4
                  try go_wp2
                  have n0_ := Aside0.mk (bD BK191.out)
                  have n1_ := Aside0.mk (bD BK192.out)
                  have n2_ := Aside0.mk (w1 HB.out)
                  clear BK191
                  clear BK192
                  clear HB
                  have BK191 := n0_
                  have BK192 := n1_
                  have HB := n2_
                  clear n0_ n1_ n2_
                  have p195 : 0 ≤ (x6_5 : Int) := of_decide_eq_true (by first | (with_reducible assumption) | assumption)
                  have q195 : x6_5 < (l0_4.length : Int) := of_decide_eq_true (by first | (with_reducible assumption) | assumption)
                  obtain ⟨ad195, e195, hx195_0, hx195_1, hx195_2, hx195_3, hx195_4, hx195_5⟩ := at_T47 HR0_4.out x6_5 p195 q195
                  have hw195_5 := hx195_5
                  have hw195_4 := hx195_4
                  have hw195_3 := hx195_3
                  have hw195_2 := hx195_2
                  have hw195_1 := hx195_1
                  have hw195_0 := hx195_0
                  cases e195
                  replace hx195_0 := (HB.out.cell (World.block_lt_of_cell? w _ hx195_0)).trans hx195_0
                  replace hx195_1 := (HB.out.cell (World.block_lt_of_cell? w _ hx195_1)).trans hx195_1
                  replace hx195_2 := (HB.out.cell (World.block_lt_of_cell? w _ hx195_2)).trans hx195_2
                  replace hx195_3 := (HB.out.cell (World.block_lt_of_cell? w _ hx195_3)).trans hx195_3
                  replace hx195_4 := (HB.out.cell (World.block_lt_of_cell? w _ hx195_4)).trans hx195_4
                  replace hx195_5 := (HB.out.cell (World.block_lt_of_cell? w _ hx195_5)).trans hx195_5
                  replace p195 := eq_true p195
                  replace q195 := eq_true q195
                  refine start_ (n := 8) (S := fun w' => w'.cell? ⟨gb191, 0, none⟩ = some (.int .u8 a0_0) ∧ w'.cell? ⟨gb191, 1, none⟩ = some (.string a0_1) ∧ w'.cell? ⟨gb191, 2, none⟩ = some (.string a0_2) ∧ w'.cell? ⟨gb191, 3, none⟩ = some (.int .i64 a0_3) ∧ w'.cell? ⟨gb191, 4, none⟩ = some (.slice (some ad195) l0_4.length c0_4) ∧ w'.cell? ⟨gb192, 0, none⟩ = some (.int .i64 a1_0) ∧ w'.cell? ⟨gb192, 1, none⟩ = some (.int .i64 a1_1) ∧ w'.cell? ⟨gb192, 2, none⟩ = some (.int .i64 a1_2) ∧ w'.cell? ⟨gb192, 3, none⟩ = some (.int .i64 a1_3) ∧ w'.cell? ⟨gb192, 4, none⟩ = some (.int .i64 a1_4) ∧ w'.cell? ⟨gb192, 5, none⟩ = some (.int .i64 a1_5) ∧ w'.cell? ⟨gb192, 6, none⟩ = some (.int .i64 a1_6) ∧ w'.cell? ⟨gb192, 7, none⟩ = some (.int .i64 a1_7) ∧ w'.cell? ⟨gb192, 8, none⟩ = some (.int .i64 a1_8) ∧ w'.cell? (ad195.add ((x6_5).toNat * 6)) = some (.int .u8 ((rd_T47 l0_4 x6_5).f0)) ∧ w'.cell? ⟨(ad195.add ((x6_5).toNat * 6)).block, (ad195.add ((x6_5).toNat * 6)).off + 1, none⟩ = some (.int .i64 ((rd_T47 l0_4 x6_5).f1)) ∧ w'.cell? ⟨(ad195.add ((x6_5).toNat * 6)).block, (ad195.add ((x6_5).toNat * 6)).off + 2, none⟩ = some (.string ((rd_T47 l0_4 x6_5).f2)) ∧ w'.cell? ⟨(ad195.add ((x6_5).toNat * 6)).block, (ad195.add ((x6_5).toNat * 6)).off + 3, none⟩ = some (.string ((rd_T47 l0_4 x6_5).f3)) ∧ w'.cell? ⟨(ad195.add ((x6_5).toNat * 6)).block, (ad195.add ((x6_5).toNat * 6)).off + 4, none⟩ = some (.string ((rd_T47 l0_4 x6_5).f4)) ∧ w'.cell? ⟨(ad195.add ((x6_5).toNat * 6)).block, (ad195.add ((x6_5).toNat * 6)).off + 5, none⟩ = some (.int .u64 ((rd_T47 l0_4 x6_5).f5))) (ds := []) #[false, false, false, false, false, false, false, false] (by kernel_rfl) rfl rfl ⟨(bC BK191.out 0).trans rfl, (bC BK191.out 1).trans rfl, (bC BK191.out 2).trans rfl, (bC BK191.out 3).trans rfl, (bC BK191.out 4).trans rfl, (bC BK192.out 0).trans rfl, (bC BK192.out 1).trans rfl, (bC BK192.out 2).trans rfl, (bC BK192.out 3).trans rfl, (bC BK192.out 4).trans rfl, (bC BK192.out 5).trans rfl, (bC BK192.out 6).trans rfl, (bC BK192.out 7).trans rfl, (bC BK192.out 8).trans rfl, ((HB.out.cell (World.block_lt_of_cell? w _ hw195_0)).trans hw195_0), ((HB.out.cell (World.block_lt_of_cell? w _ hw195_1)).trans hw195_1), ((HB.out.cell (World.block_lt_of_cell? w _ hw195_2)).trans hw195_2), ((HB.out.cell (World.block_lt_of_cell? w _ hw195_3)).trans hw195_3), ((HB.out.cell (World.block_lt_of_cell? w _ hw195_4)).trans hw195_4), ((HB.out.cell (World.block_lt_of_cell? w _ hw195_5)).trans hw195_5)⟩ (fun hHeld => ?_); refine with_tabW catchmentref21_Ask.tab15 catchmentref21_Ask.bits15 (fun HT_ HW_ => ?_)
                  generalize wr.drew = w50 at BK191 BK192 HB hx195_0 hx195_1 hx195_2 hx195_3 hx195_4 hx195_5 hHeld ⊢
                  refine pure_ (i := 0) (N := some 67) (v := ?_) (a' := ?_) #[true, false, false, false, false, false, false, false] rfl rfl (any_of HT_.out (by kernel_rfl)) (fun _ _ _ h => h) (Or.inl ⟨by rfl, ?_⟩) ?_ ?_
                  rotate_left
                  ·intro w'
                   go_simp
                   with_reducible rfl
                  rotate_left
                  ·simp only [Act.put, sA1, sA2, sA3, i64_w, i32_w]
                   rfl
                  refine pure_ (i := 2) (N := some 69) (v := ?_) (a' := ?_) #[true, false, true, false, false, false, false, false] rfl rfl (any_of HT_.out (by kernel_rfl)) (fun _ _ _ h => h) (Or.inl ⟨by rfl, ?_⟩) ?_ ?_
                  rotate_left
                  ·intro w'
                   go_simp
                   with_reducible rfl
                  rotate_left
                  ·simp only [Act.put, sA1, sA2, sA3, i64_w, i32_w]
                   rfl
                  refine take_ (i := 1) (N := some 68) (v := ?_) (a' := ?_) #[true, true, true, false, false, false, false, false] rfl rfl (take_ofW HT_.out HW_.out (by kernel_rfl)) (fun _ _ _ h => h) (Or.inl ⟨by rfl, ?_⟩) hHeld ?_ ?_
                  rotate_left
                  ·rintro w' ⟨s0, s1, s2, s3, s4, s5, s6, s7, s8, s9, s10, s11, s12, s13, s14, s15, s16, s17, s18, s19⟩
                   go_simp
                   with_reducible rfl
                  rotate_left
                  ·simp only [Act.put, sA1, sA2, sA3, i64_w, i32_w]
                   rfl
                  refine pure_ (i := 3) (N := some 70) (v := ?_) (a' := ?_) #[true, true, true, true, false, false, false, false] rfl rfl (any_of HT_.out (by kernel_rfl)) (fun _ _ _ h => h) (Or.inl ⟨by rfl, ?_⟩) ?_ ?_
                  rotate_left
                  ·intro w'
                   go_simp
                   with_reducible rfl
                  rotate_left
                  ·simp only [Act.put, sA1, sA2, sA3, i64_w, i32_w]
                   rfl
                  refine take_ (i := 4) (N := some 71) (v := ?_) (a' := ?_) #[true, true, true, true, true, false, false, false] rfl rfl (take_ofW HT_.out HW_.out (by kernel_rfl)) (fun _ _ _ h => h) (Or.inl ⟨by rfl, ?_⟩) hHeld ?_ ?_
                  rotate_left
                  ·rintro w' ⟨s0, s1, s2, s3, s4, s5, s6, s7, s8, s9, s10, s11, s12, s13, s14, s15, s16, s17, s18, s19⟩
                   go_simp
                   with_reducible rfl
                  rotate_left
                  ·simp only [Act.put, sA1, sA2, sA3, i64_w, i32_w]
                   rfl
                  refine take_ (i := 5) (N := some 72) (v := ?_) (a' := ?_) #[true, true, true, true, true, true, false, false] rfl rfl (take_ofW HT_.out HW_.out (by kernel_rfl)) (fun _ _ _ h => h) (Or.inl ⟨by rfl, ?_⟩) hHeld ?_ ?_
                  rotate_left
                  ·rintro w' ⟨s0, s1, s2, s3, s4, s5, s6, s7, s8, s9, s10, s11, s12, s13, s14, s15, s16, s17, s18, s19⟩
                   go_simp
                   with_reducible rfl
                  rotate_left
                  ·simp only [Act.put, sA1, sA2, sA3, i64_w, i32_w]
                   rfl
                  refine one_ (i := 6) (N := some 73) #[true, true, true, true, true, true, true, false] rfl rfl (one_of HT_.out (by kernel_rfl)) (by decide) (fun K hK => ?_)
                  refine goes_ Try.func18 (by kernel_rfl) rfl #[.agg #[.int .u8 ((rd_T47 l0_4 x6_5).f0), .int .i64 ((rd_T47 l0_4 x6_5).f1), .string ((rd_T47 l0_4 x6_5).f2), .string ((rd_T47 l0_4 x6_5).f3), .string ((rd_T47 l0_4 x6_5).f4), .int .u64 ((rd_T47 l0_4 x6_5).f5)], .agg #[.int .i64 a1_0, .int .i64 a1_1, .int .i64 a1_2, .int .i64 a1_3, .int .i64 a1_4, .int .i64 a1_5, .int .i64 a1_6, .int .i64 a1_7, .int .i64 a1_8]] (by rfl) rfl rfl (by (try simp only [mA1, mA2, mA3]); first | done | rfl | (simp only [mA5, mA4]; rfl)) ?_
                  with_reducible refine (catchmentref04_Check.calls k5 ((rd_T47 l0_4 x6_5).f0) ((rd_T47 l0_4 x6_5).f1) ((rd_T47 l0_4 x6_5).f2) ((rd_T47 l0_4 x6_5).f3) ((rd_T47 l0_4 x6_5).f4) ((rd_T47 l0_4 x6_5).f5) a1_0 a1_1 a1_2 a1_3 a1_4 a1_5 a1_6 a1_7 a1_8 t196 _ A46.out).mono ?_
                  rintro e w51 ⟨rfl, hb⟩
                  refine ⟨_, rfl, ?_⟩
                  have n0_ := Aside0.mk (bB (g := gb191) (o := .cells #[.int .u8 a0_0, .string a0_1, .string a0_2, .int .i64 a0_3, .slice (some ad195) l0_4.length c0_4] 27 (0, 0)) (by (with_reducible repeat (first | refine bN ?_ _ | refine bD ?_ | refine bA ?_ _)); exact BK191.out) hb)
                  have n1_ := Aside0.mk (bB (g := gb192) (o := .cells #[.int .i64 a1_0, .int .i64 a1_1, .int .i64 a1_2, .int .i64 a1_3, .int .i64 a1_4, .int .i64 a1_5, .int .i64 a1_6, .int .i64 a1_7, .int .i64 a1_8] 23 (0, 0)) (by (with_reducible repeat (first | refine bN ?_ _ | refine bD ?_ | refine bA ?_ _)); exact BK192.out) hb)
                  have n2_ := Aside0.mk (wT (by repeat (first | (with_reducible first | exact HB.out | apply wA | apply wN | apply w1 | refine wS ?_ GE191.out | refine wS ?_ GE192.out) | exact HB.out)) hb)
                  clear BK191
                  clear BK192
                  clear HB
                  have BK191 := n0_
                  have BK192 := n1_
                  have HB := n2_
                  clear n0_ n1_ n2_
                  (try clear hb)
                  (try clear hb2)
                  (try clear hk)
                  (try clear hi)
                  refine hK.out _ _ ⟨(bC BK191.out 0).trans rfl, (bC BK191.out 1).trans rfl, (bC BK191.out 2).trans rfl, (bC BK191.out 3).trans rfl, (bC BK191.out 4).trans rfl, (bC BK192.out 0).trans rfl, (bC BK192.out 1).trans rfl, (bC BK192.out 2).trans rfl, (bC BK192.out 3).trans rfl, (bC BK192.out 4).trans rfl, (bC BK192.out 5).trans rfl, (bC BK192.out 6).trans rfl, (bC BK192.out 7).trans rfl, (bC BK192.out 8).trans rfl, ((HB.out.cell (World.block_lt_of_cell? w _ hw195_0)).trans hw195_0), ((HB.out.cell (World.block_lt_of_cell? w _ hw195_1)).trans hw195_1), ((HB.out.cell (World.block_lt_of_cell? w _ hw195_2)).trans hw195_2), ((HB.out.cell (World.block_lt_of_cell? w _ hw195_3)).trans hw195_3), ((HB.out.cell (World.block_lt_of_cell? w _ hw195_4)).trans hw195_4), ((HB.out.cell (World.block_lt_of_cell? w _ hw195_5)).trans hw195_5)⟩ (fun hHeld => ?_)
                  clear hK K
                  refine norm_ (a' := ?_) ?_ ?_
                  rotate_left
                  ·show Act.put _ (some 73) _ = _
                   simp only [Act.put, sA1, sA2, sA3, i64_w, i32_w]
                   rfl
                  refine pure_ (i := 7) (N := some 7) (v := ?_) (a' := ?_) #[true, true, true, true, true, true, true, true] rfl rfl (any_of HT_.out (by kernel_rfl)) (fun _ _ _ h => h) (Or.inl ⟨by rfl, ?_⟩) ?_ ?_
                  rotate_left
                  ·intro w'
                   go_simp
                   with_reducible rfl
                  rotate_left
                  ·simp only [Act.put, sA1, sA2, sA3, i64_w, i32_w]
                   rfl
                  refine done_ (done_of HT_.out (by kernel_rfl)) ?_
                  try go_wp2
                  go_roundg k5
                  case measure => have := HJ2.out; have := HJ16.out; have := HJ27.out; have := HK4.out; have := HK5.out; omega
                  case rel => exact ⟨(wrap64 (x6_5 + 1)), (by first | rfl | (simp; done) | (simp [*]; done)), H', ⟨by have := HJ2.out; have := HJ16.out; have := HJ27.out; have := HK4.out; have := HK5.out; omega⟩, ⟨by (with_reducible repeat (first | refine bN ?_ _ | refine bD ?_ | refine bA ?_ _)); exact BK191.out⟩, ⟨by (with_reducible repeat (first | refine bN ?_ _ | refine bD ?_ | refine bA ?_ _)); exact BK192.out⟩, ⟨by repeat (first | (with_reducible first | exact HB.out | apply wA | apply wN | apply w1 | refine wS ?_ GE191.out | refine wS ?_ GE192.out) | exact HB.out)⟩⟩
                 ·rw [if_neg c47] at H
                  have c47b0 : (t196 == 0) = false := beq_eq_false_iff_ne.mpr c47
                  have c47b1 : (t196 != 0) = true := bne_iff_ne.mpr c47
                  obtain rfl := Option.some.inj H
                  have hnb52 := NB191_192.out
                  have hnc52 := NB192_191.out
                  have hcz53_0 : wr.cell? ⟨gb191, 0, none⟩ = some (.int .u8 a0_0) := (bC BK191.out 0).trans rfl
                  have hcz53_1 : wr.cell? ⟨gb191, 1, none⟩ = some (.string a0_1) := (bC BK191.out 1).trans rfl
                  have hcz53_2 : wr.cell? ⟨gb191, 2, none⟩ = some (.string a0_2) := (bC BK191.out 2).trans rfl
                  have hcz53_3 : wr.cell? ⟨gb191, 3, none⟩ = some (.int .i64 a0_3) := (bC BK191.out 3).trans rfl
                  have hcz53_4 : wr.cell? ⟨gb191, 4, none⟩ = some (.slice A0_4 l0_4.length c0_4) := (bC BK191.out 4).trans rfl
                  have hfz53_0 := bF BK191.out 0
                  have hfz53_1 := bF BK191.out 1
                  have hfz53_2 := bF BK191.out 2
                  have hfz53_3 := bF BK191.out 3
                  have hfz53_4 := bF BK191.out 4
                  try go_wp2
                  have n0_ := Aside0.mk (bD BK191.out)
                  have n1_ := Aside0.mk (bD BK192.out)
                  have n2_ := Aside0.mk (w1 HB.out)
                  clear BK191
                  clear BK192
                  clear HB
                  have BK191 := n0_
                  have BK192 := n1_
                  have HB := n2_
                  clear n0_ n1_ n2_
                  have p195 : 0 ≤ (x6_5 : Int) := of_decide_eq_true (by first | (with_reducible assumption) | assumption)
                  have q195 : x6_5 < (l0_4.length : Int) := of_decide_eq_true (by first | (with_reducible assumption) | assumption)
                  obtain ⟨ad195, e195, hx195_0, hx195_1, hx195_2, hx195_3, hx195_4, hx195_5⟩ := at_T47 HR0_4.out x6_5 p195 q195
                  have hw195_5 := hx195_5
                  have hw195_4 := hx195_4
                  have hw195_3 := hx195_3
                  have hw195_2 := hx195_2
                  have hw195_1 := hx195_1
                  have hw195_0 := hx195_0
                  cases e195
                  replace hx195_0 := (HB.out.cell (World.block_lt_of_cell? w _ hx195_0)).trans hx195_0
                  replace hx195_1 := (HB.out.cell (World.block_lt_of_cell? w _ hx195_1)).trans hx195_1
                  replace hx195_2 := (HB.out.cell (World.block_lt_of_cell? w _ hx195_2)).trans hx195_2
                  replace hx195_3 := (HB.out.cell (World.block_lt_of_cell? w _ hx195_3)).trans hx195_3
                  replace hx195_4 := (HB.out.cell (World.block_lt_of_cell? w _ hx195_4)).trans hx195_4
                  replace hx195_5 := (HB.out.cell (World.block_lt_of_cell? w _ hx195_5)).trans hx195_5
                  replace p195 := eq_true p195
                  replace q195 := eq_true q195
                  refine start_ (n := 8) (S := fun w' => w'.cell? ⟨gb191, 0, none⟩ = some (.int .u8 a0_0) ∧ w'.cell? ⟨gb191, 1, none⟩ = some (.string a0_1) ∧ w'.cell? ⟨gb191, 2, none⟩ = some (.string a0_2) ∧ w'.cell? ⟨gb191, 3, none⟩ = some (.int .i64 a0_3) ∧ w'.cell? ⟨gb191, 4, none⟩ = some (.slice (some ad195) l0_4.length c0_4) ∧ w'.cell? ⟨gb192, 0, none⟩ = some (.int .i64 a1_0) ∧ w'.cell? ⟨gb192, 1, none⟩ = some (.int .i64 a1_1) ∧ w'.cell? ⟨gb192, 2, none⟩ = some (.int .i64 a1_2) ∧ w'.cell? ⟨gb192, 3, none⟩ = some (.int .i64 a1_3) ∧ w'.cell? ⟨gb192, 4, none⟩ = some (.int .i64 a1_4) ∧ w'.cell? ⟨gb192, 5, none⟩ = some (.int .i64 a1_5) ∧ w'.cell? ⟨gb192, 6, none⟩ = some (.int .i64 a1_6) ∧ w'.cell? ⟨gb192, 7, none⟩ = some (.int .i64 a1_7) ∧ w'.cell? ⟨gb192, 8, none⟩ = some (.int .i64 a1_8) ∧ w'.cell? (ad195.add ((x6_5).toNat * 6)) = some (.int .u8 ((rd_T47 l0_4 x6_5).f0)) ∧ w'.cell? ⟨(ad195.add ((x6_5).toNat * 6)).block, (ad195.add ((x6_5).toNat * 6)).off + 1, none⟩ = some (.int .i64 ((rd_T47 l0_4 x6_5).f1)) ∧ w'.cell? ⟨(ad195.add ((x6_5).toNat * 6)).block, (ad195.add ((x6_5).toNat * 6)).off + 2, none⟩ = some (.string ((rd_T47 l0_4 x6_5).f2)) ∧ w'.cell? ⟨(ad195.add ((x6_5).toNat * 6)).block, (ad195.add ((x6_5).toNat * 6)).off + 3, none⟩ = some (.string ((rd_T47 l0_4 x6_5).f3)) ∧ w'.cell? ⟨(ad195.add ((x6_5).toNat * 6)).block, (ad195.add ((x6_5).toNat * 6)).off + 4, none⟩ = some (.string ((rd_T47 l0_4 x6_5).f4)) ∧ w'.cell? ⟨(ad195.add ((x6_5).toNat * 6)).block, (ad195.add ((x6_5).toNat * 6)).off + 5, none⟩ = some (.int .u64 ((rd_T47 l0_4 x6_5).f5))) (ds := []) #[false, false, false, false, false, false, false, false] (by kernel_rfl) rfl rfl ⟨(bC BK191.out 0).trans rfl, (bC BK191.out 1).trans rfl, (bC BK191.out 2).trans rfl, (bC BK191.out 3).trans rfl, (bC BK191.out 4).trans rfl, (bC BK192.out 0).trans rfl, (bC BK192.out 1).trans rfl, (bC BK192.out 2).trans rfl, (bC BK192.out 3).trans rfl, (bC BK192.out 4).trans rfl, (bC BK192.out 5).trans rfl, (bC BK192.out 6).trans rfl, (bC BK192.out 7).trans rfl, (bC BK192.out 8).trans rfl, ((HB.out.cell (World.block_lt_of_cell? w _ hw195_0)).trans hw195_0), ((HB.out.cell (World.block_lt_of_cell? w _ hw195_1)).trans hw195_1), ((HB.out.cell (World.block_lt_of_cell? w _ hw195_2)).trans hw195_2), ((HB.out.cell (World.block_lt_of_cell? w _ hw195_3)).trans hw195_3), ((HB.out.cell (World.block_lt_of_cell? w _ hw195_4)).trans hw195_4), ((HB.out.cell (World.block_lt_of_cell? w _ hw195_5)).trans hw195_5)⟩ (fun hHeld => ?_); refine with_tabW catchmentref21_Ask.tab15 catchmentref21_Ask.bits15 (fun HT_ HW_ => ?_)
                  generalize wr.drew = w54 at BK191 BK192 HB hx195_0 hx195_1 hx195_2 hx195_3 hx195_4 hx195_5 hHeld ⊢
                  refine pure_ (i := 0) (N := some 67) (v := ?_) (a' := ?_) #[true, false, false, false, false, false, false, false] rfl rfl (any_of HT_.out (by kernel_rfl)) (fun _ _ _ h => h) (Or.inl ⟨by rfl, ?_⟩) ?_ ?_
                  rotate_left
                  ·intro w'
                   go_simp
                   with_reducible rfl
                  rotate_left
                  ·simp only [Act.put, sA1, sA2, sA3, i64_w, i32_w]
                   rfl
                  refine pure_ (i := 2) (N := some 69) (v := ?_) (a' := ?_) #[true, false, true, false, false, false, false, false] rfl rfl (any_of HT_.out (by kernel_rfl)) (fun _ _ _ h => h) (Or.inl ⟨by rfl, ?_⟩) ?_ ?_
                  rotate_left
                  ·intro w'
                   go_simp
                   with_reducible rfl
                  rotate_left
                  ·simp only [Act.put, sA1, sA2, sA3, i64_w, i32_w]
                   rfl
                  refine take_ (i := 1) (N := some 68) (v := ?_) (a' := ?_) #[true, true, true, false, false, false, false, false] rfl rfl (take_ofW HT_.out HW_.out (by kernel_rfl)) (fun _ _ _ h => h) (Or.inl ⟨by rfl, ?_⟩) hHeld ?_ ?_
                  rotate_left
                  ·rintro w' ⟨s0, s1, s2, s3, s4, s5, s6, s7, s8, s9, s10, s11, s12, s13, s14, s15, s16, s17, s18, s19⟩
                   go_simp
                   with_reducible rfl
                  rotate_left
                  ·simp only [Act.put, sA1, sA2, sA3, i64_w, i32_w]
                   rfl
                  refine pure_ (i := 3) (N := some 70) (v := ?_) (a' := ?_) #[true, true, true, true, false, false, false, false] rfl rfl (any_of HT_.out (by kernel_rfl)) (fun _ _ _ h => h) (Or.inl ⟨by rfl, ?_⟩) ?_ ?_
                  rotate_left
                  ·intro w'
                   go_simp
                   with_reducible rfl
                  rotate_left
                  ·simp only [Act.put, sA1, sA2, sA3, i64_w, i32_w]
                   rfl
                  refine take_ (i := 4) (N := some 71) (v := ?_) (a' := ?_) #[true, true, true, true, true, false, false, false] rfl rfl (take_ofW HT_.out HW_.out (by kernel_rfl)) (fun _ _ _ h => h) (Or.inl ⟨by rfl, ?_⟩) hHeld ?_ ?_
                  rotate_left
                  ·rintro w' ⟨s0, s1, s2, s3, s4, s5, s6, s7, s8, s9, s10, s11, s12, s13, s14, s15, s16, s17, s18, s19⟩
                   go_simp
                   with_reducible rfl
                  rotate_left
                  ·simp only [Act.put, sA1, sA2, sA3, i64_w, i32_w]
                   rfl
                  refine take_ (i := 5) (N := some 72) (v := ?_) (a' := ?_) #[true, true, true, true, true, true, false, false] rfl rfl (take_ofW HT_.out HW_.out (by kernel_rfl)) (fun _ _ _ h => h) (Or.inl ⟨by rfl, ?_⟩) hHeld ?_ ?_
                  rotate_left
                  ·rintro w' ⟨s0, s1, s2, s3, s4, s5, s6, s7, s8, s9, s10, s11, s12, s13, s14, s15, s16, s17, s18, s19⟩
                   go_simp
                   with_reducible rfl
                  rotate_left
                  ·simp only [Act.put, sA1, sA2, sA3, i64_w, i32_w]
                   rfl
                  refine one_ (i := 6) (N := some 73) #[true, true, true, true, true, true, true, false] rfl rfl (one_of HT_.out (by kernel_rfl)) (by decide) (fun K hK => ?_)
                  refine goes_ Try.func18 (by kernel_rfl) rfl #[.agg #[.int .u8 ((rd_T47 l0_4 x6_5).f0), .int .i64 ((rd_T47 l0_4 x6_5).f1), .string ((rd_T47 l0_4 x6_5).f2), .string ((rd_T47 l0_4 x6_5).f3), .string ((rd_T47 l0_4 x6_5).f4), .int .u64 ((rd_T47 l0_4 x6_5).f5)], .agg #[.int .i64 a1_0, .int .i64 a1_1, .int .i64 a1_2, .int .i64 a1_3, .int .i64 a1_4, .int .i64 a1_5, .int .i64 a1_6, .int .i64 a1_7, .int .i64 a1_8]] (by rfl) rfl rfl (by (try simp only [mA1, mA2, mA3]); first | done | rfl | (simp only [mA5, mA4]; rfl)) ?_
                  with_reducible refine (catchmentref04_Check.calls k5 ((rd_T47 l0_4 x6_5).f0) ((rd_T47 l0_4 x6_5).f1) ((rd_T47 l0_4 x6_5).f2) ((rd_T47 l0_4 x6_5).f3) ((rd_T47 l0_4 x6_5).f4) ((rd_T47 l0_4 x6_5).f5) a1_0 a1_1 a1_2 a1_3 a1_4 a1_5 a1_6 a1_7 a1_8 t196 _ A46.out).mono ?_
                  rintro e w55 ⟨rfl, hb⟩
                  refine ⟨_, rfl, ?_⟩
                  have n0_ := Aside0.mk (bB (g := gb191) (o := .cells #[.int .u8 a0_0, .string a0_1, .string a0_2, .int .i64 a0_3, .slice (some ad195) l0_4.length c0_4] 27 (0, 0)) (by (with_reducible repeat (first | refine bN ?_ _ | refine bD ?_ | refine bA ?_ _)); exact BK191.out) hb)
                  have n1_ := Aside0.mk (bB (g := gb192) (o := .cells #[.int .i64 a1_0, .int .i64 a1_1, .int .i64 a1_2, .int .i64 a1_3, .int .i64 a1_4, .int .i64 a1_5, .int .i64 a1_6, .int .i64 a1_7, .int .i64 a1_8] 23 (0, 0)) (by (with_reducible repeat (first | refine bN ?_ _ | refine bD ?_ | refine bA ?_ _)); exact BK192.out) hb)
                  have n2_ := Aside0.mk (wT (by repeat (first | (with_reducible first | exact HB.out | apply wA | apply wN | apply w1 | refine wS ?_ GE191.out | refine wS ?_ GE192.out) | exact HB.out)) hb)
                  clear BK191
                  clear BK192
                  clear HB
                  have BK191 := n0_
                  have BK192 := n1_
                  have HB := n2_
                  clear n0_ n1_ n2_
                  (try clear hb)
                  (try clear hb2)
                  (try clear hk)
                  (try clear hi)
                  refine hK.out _ _ ⟨(bC BK191.out 0).trans rfl, (bC BK191.out 1).trans rfl, (bC BK191.out 2).trans rfl, (bC BK191.out 3).trans rfl, (bC BK191.out 4).trans rfl, (bC BK192.out 0).trans rfl, (bC BK192.out 1).trans rfl, (bC BK192.out 2).trans rfl, (bC BK192.out 3).trans rfl, (bC BK192.out 4).trans rfl, (bC BK192.out 5).trans rfl, (bC BK192.out 6).trans rfl, (bC BK192.out 7).trans rfl, (bC BK192.out 8).trans rfl, ((HB.out.cell (World.block_lt_of_cell? w _ hw195_0)).trans hw195_0), ((HB.out.cell (World.block_lt_of_cell? w _ hw195_1)).trans hw195_1), ((HB.out.cell (World.block_lt_of_cell? w _ hw195_2)).trans hw195_2), ((HB.out.cell (World.block_lt_of_cell? w _ hw195_3)).trans hw195_3), ((HB.out.cell (World.block_lt_of_cell? w _ hw195_4)).trans hw195_4), ((HB.out.cell (World.block_lt_of_cell? w _ hw195_5)).trans hw195_5)⟩ (fun hHeld => ?_)
                  clear hK K
                  refine norm_ (a' := ?_) ?_ ?_
                  rotate_left
                  ·show Act.put _ (some 73) _ = _
                   simp only [Act.put, sA1, sA2, sA3, i64_w, i32_w]
                   rfl
                  refine pure_ (i := 7) (N := some 7) (v := ?_) (a' := ?_) #[true, true, true, true, true, true, true, true] rfl rfl (any_of HT_.out (by kernel_rfl)) (fun _ _ _ h => h) (Or.inl ⟨by rfl, ?_⟩) ?_ ?_
                  rotate_left
                  ·intro w'
                   go_simp
                   with_reducible rfl
                  rotate_left
                  ·simp only [Act.put, sA1, sA2, sA3, i64_w, i32_w]
                   rfl
                  refine done_ (done_of HT_.out (by kernel_rfl)) ?_
                  try go_wp2
                  go_ret
                  exact ⟨by first | rfl | (simp [errW_none, errW_some] <;> rfl) | (simp [*, errW_none, errW_some] <;> rfl), by repeat (first | (with_reducible first | exact HB.out | apply wA | apply wN | apply w1 | refine wS ?_ GE191.out | refine wS ?_ GE192.out) | exact HB.out)⟩
                ·rw [if_neg c45] at H
                 exact absurd H (by simp)
               ·rw [if_neg c44] at H
                have c44b0 : decide (x6_5 < (l0_4.length : Int)) = false := decide_eq_false c44
                clear c44
                have HC56 := Aside0.mk H
                clear H
                have hnb57 := NB191_192.out
                have hnc57 := NB192_191.out
                have hcz58_0 : wr.cell? ⟨gb191, 0, none⟩ = some (.int .u8 a0_0) := (bC BK191.out 0).trans rfl
                have hcz58_1 : wr.cell? ⟨gb191, 1, none⟩ = some (.string a0_1) := (bC BK191.out 1).trans rfl
                have hcz58_2 : wr.cell? ⟨gb191, 2, none⟩ = some (.string a0_2) := (bC BK191.out 2).trans rfl
                have hcz58_3 : wr.cell? ⟨gb191, 3, none⟩ = some (.int .i64 a0_3) := (bC BK191.out 3).trans rfl
                have hcz58_4 : wr.cell? ⟨gb191, 4, none⟩ = some (.slice A0_4 l0_4.length c0_4) := (bC BK191.out 4).trans rfl
                have hfz58_0 := bF BK191.out 0
                have hfz58_1 := bF BK191.out 1
                have hfz58_2 := bF BK191.out 2
                have hfz58_3 := bF BK191.out 3
                have hfz58_4 := bF BK191.out 4
                go_upto_region 18 with (fail)
                go_cut [84] (fun v84 wc => ∃ (kq : Nat) (x84_55 : Bool), v84 = .bool x84_55 ∧ Aside0 (catchmentref21_Ask.j5 kq x84_55 a0_0 a0_1 a0_2 a0_3 l0_4 a1_0 a1_1 a1_2 a1_3 a1_4 a1_5 a1_6 a1_7 a1_8 = some r) ∧ Aside0 (kq ≤ k5) ∧ Aside0 (wc.heap[gb191]? = some (.cells #[.int .u8 a0_0, .string a0_1, .string a0_2, .int .i64 a0_3, (.slice A0_4 l0_4.length c0_4)] 27 (0, 0))) ∧ Aside0 (wc.heap[gb192]? = some (.cells #[.int .i64 a1_0, .int .i64 a1_1, .int .i64 a1_2, .int .i64 a1_3, .int .i64 a1_4, .int .i64 a1_5, .int .i64 a1_6, .int .i64 a1_7, .int .i64 a1_8] 23 (0, 0))) ∧ Aside0 (Below w.heap.size w wc))
                case first =>
                 have H := HC56.out
                 clear HC56
                 by_cases c59 : a0_0 = 3
                 ·rw [if_pos c59] at H
                  have c59b0 : (a0_0 == 3) = true := beq_iff_eq.mpr c59
                  have c59b1 : (a0_0 != 3) = false := bne_eq_false_iff_eq.mpr c59
                  clear c59
                  (first | rw [c59b0] | (simp only [i64_w, i32_w]; rw [c59b0]) | skip)
                  have H' := Aside0.mk H
                  clear H
                  have hnb60 := NB191_192.out
                  have hnc60 := NB192_191.out
                  have hcz61_0 : wr.cell? ⟨gb191, 0, none⟩ = some (.int .u8 a0_0) := (bC BK191.out 0).trans rfl
                  have hcz61_1 : wr.cell? ⟨gb191, 1, none⟩ = some (.string a0_1) := (bC BK191.out 1).trans rfl
                  have hcz61_2 : wr.cell? ⟨gb191, 2, none⟩ = some (.string a0_2) := (bC BK191.out 2).trans rfl
                  have hcz61_3 : wr.cell? ⟨gb191, 3, none⟩ = some (.int .i64 a0_3) := (bC BK191.out 3).trans rfl
                  have hcz61_4 : wr.cell? ⟨gb191, 4, none⟩ = some (.slice A0_4 l0_4.length c0_4) := (bC BK191.out 4).trans rfl
                  have hfz61_0 := bF BK191.out 0
                  have hfz61_1 := bF BK191.out 1
                  have hfz61_2 := bF BK191.out 2
                  have hfz61_3 := bF BK191.out 3
                  have hfz61_4 := bF BK191.out 4
                  go_wp2
                  go_meet
                  case rel => exact ⟨_, (false), (by first | rfl | (simp; done) | (simp [*]; done)), H', ⟨by have := HJ2.out; have := HJ16.out; have := HJ27.out; have := HK4.out; have := HK5.out; first | omega | exact Nat.le_refl _⟩, ⟨by (with_reducible repeat (first | refine bN ?_ _ | refine bD ?_ | refine bA ?_ _)); exact BK191.out⟩, ⟨by (with_reducible repeat (first | refine bN ?_ _ | refine bD ?_ | refine bA ?_ _)); exact BK192.out⟩, ⟨by repeat (first | (with_reducible first | exact HB.out | apply wA | apply wN | apply w1 | refine wS ?_ GE191.out | refine wS ?_ GE192.out) | exact HB.out)⟩⟩
                 ·rw [if_neg c59] at H
                  have c59b0 : (a0_0 == 3) = false := beq_eq_false_iff_ne.mpr c59
                  have c59b1 : (a0_0 != 3) = true := bne_iff_ne.mpr c59
                  (first | rw [c59b0] | (simp only [i64_w, i32_w]; rw [c59b0]) | skip)
                  have H' := Aside0.mk H
                  clear H
                  have hnb62 := NB191_192.out
                  have hnc62 := NB192_191.out
                  have hcz63_0 : wr.cell? ⟨gb191, 0, none⟩ = some (.int .u8 a0_0) := (bC BK191.out 0).trans rfl
                  have hcz63_1 : wr.cell? ⟨gb191, 1, none⟩ = some (.string a0_1) := (bC BK191.out 1).trans rfl
                  have hcz63_2 : wr.cell? ⟨gb191, 2, none⟩ = some (.string a0_2) := (bC BK191.out 2).trans rfl
                  have hcz63_3 : wr.cell? ⟨gb191, 3, none⟩ = some (.int .i64 a0_3) := (bC BK191.out 3).trans rfl
                  have hcz63_4 : wr.cell? ⟨gb191, 4, none⟩ = some (.slice A0_4 l0_4.length c0_4) := (bC BK191.out 4).trans rfl
                  have hfz63_0 := bF BK191.out 0
                  have hfz63_1 := bF BK191.out 1
                  have hfz63_2 := bF BK191.out 2
                  have hfz63_3 := bF BK191.out 3
                  have hfz63_4 := bF BK191.out 4
                  go_wp2
                  go_meet
                  case rel => exact ⟨_, ((a0_0 != 4)), (by first | rfl | (simp; done) | (simp [*]; done)), H', ⟨by have := HJ2.out; have := HJ16.out; have := HJ27.out; have := HK4.out; have := HK5.out; first | omega | exact Nat.le_refl _⟩, ⟨by (with_reducible repeat (first | refine bN ?_ _ | refine bD ?_ | refine bA ?_ _)); exact BK191.out⟩, ⟨by (with_reducible repeat (first | refine bN ?_ _ | refine bD ?_ | refine bA ?_ _)); exact BK192.out⟩, ⟨by repeat (first | (with_reducible first | exact HB.out | apply wA | apply wN | apply w1 | refine wS ?_ GE191.out | refine wS ?_ GE192.out) | exact HB.out)⟩⟩
                case rest =>
                 clear HC56
                 try clear c1
                 try clear p1
                 try clear q1
                 try clear hx1
                 try clear c2
                 try clear p2
                 try clear c3
                 try clear c4
                 try clear c5
                 try clear c6
                 try clear c6b0
                 try clear p6
                 try clear c7
                 try clear c9
                 try clear c9b0
                 try clear c10
                 try clear c13
                 try clear c16
                 try clear c18
                 try clear c18b0
                 try clear c18b1
                 try clear c19
                 try clear c19b0
                 try clear c19b1
                 try clear p19
                 try clear q19
                 try clear hx19
                 try clear c20
                 try clear c22
                 try clear c25
                 try clear c27
                 try clear c29
                 try clear c29b0
                 try clear c29b1
                 try clear c30
                 try clear c32
                 try clear c34
                 try clear c35
                 try clear c35b0
                 try clear c36
                 try clear c36b0
                 try clear c37
                 try clear c37b0
                 try clear c37b1
                 try clear c38
                 try clear c40
                 try clear c42
                 try clear c44
                 try clear c44b0
                 try clear c45
                 try clear c45b0
                 try clear c47
                 try clear c47b0
                 try clear c47b1
                 try clear c48
                 try clear c52
                 try clear c57
                 try clear c59
                 try clear c59b0
                 try clear c59b1
                 try clear c60
                 try clear c62
                 try clear hcz11_0
                 try clear hcz11_1
                 try clear hcz11_2
                 try clear hcz11_3
                 try clear hcz11_4
                 try clear hcz14_0
                 try clear hcz14_1
                 try clear hcz14_2
                 try clear hcz14_3
                 try clear hcz14_4
                 try clear hcz21_0
                 try clear hcz21_1
                 try clear hcz21_2
                 try clear hcz21_3
                 try clear hcz21_4
                 try clear hcz23_0
                 try clear hcz23_1
                 try clear hcz23_2
                 try clear hcz23_3
                 try clear hcz23_4
                 try clear hcz24_0
                 try clear hcz24_1
                 try clear hcz24_2
                 try clear hcz24_3
                 try clear hcz24_4
                 try clear hcz24_5
                 try clear hcz24_6
                 try clear hcz24_7
                 try clear hcz24_8
                 try clear hcz26_0
                 try clear hcz26_1
                 try clear hcz26_2
                 try clear hcz26_3
                 try clear hcz26_4
                 try clear hcz31_0
                 try clear hcz31_1
                 try clear hcz31_2
                 try clear hcz31_3
                 try clear hcz31_4
                 try clear hcz33_0
                 try clear hcz33_1
                 try clear hcz33_2
                 try clear hcz33_3
                 try clear hcz33_4
                 try clear hcz39_0
                 try clear hcz39_1
                 try clear hcz39_2
                 try clear hcz39_3
                 try clear hcz39_4
                 try clear hcz41_0
                 try clear hcz41_1
                 try clear hcz41_2
                 try clear hcz41_3
                 try clear hcz41_4
                 try clear hcz43_0
                 try clear hcz43_1
                 try clear hcz43_2
                 try clear hcz43_3
                 try clear hcz43_4
                 try clear hcz49_0
                 try clear hcz49_1
                 try clear hcz49_2
                 try clear hcz49_3
                 try clear hcz49_4
                 try clear hcz53_0
                 try clear hcz53_1
                 try clear hcz53_2
                 try clear hcz53_3
                 try clear hcz53_4
                 try clear hcz58_0
                 try clear hcz58_1
                 try clear hcz58_2
                 try clear hcz58_3
                 try clear hcz58_4
                 try clear hcz61_0
                 try clear hcz61_1
                 try clear hcz61_2
                 try clear hcz61_3
                 try clear hcz61_4
                 try clear hcz63_0
                 try clear hcz63_1
                 try clear hcz63_2
                 try clear hcz63_3
                 try clear hcz63_4
                 try clear hcz8_0
                 try clear hcz8_1
                 try clear hcz8_2
                 try clear hcz8_3
                 try clear hcz8_4
                 try clear hfz11_0
                 try clear hfz11_1
                 try clear hfz11_2
                 try clear hfz11_3
                 try clear hfz11_4
                 try clear hfz14_0
                 try clear hfz14_1
                 try clear hfz14_2
                 try clear hfz14_3
                 try clear hfz14_4
                 try clear hfz21_0
                 try clear hfz21_1
                 try clear hfz21_2
                 try clear hfz21_3
                 try clear hfz21_4
                 try clear hfz23_0
                 try clear hfz23_1
                 try clear hfz23_2
                 try clear hfz23_3
                 try clear hfz23_4
                 try clear hfz24_0
                 try clear hfz24_1
                 try clear hfz24_2
                 try clear hfz24_3
                 try clear hfz24_4
                 try clear hfz24_5
                 try clear hfz24_6
                 try clear hfz24_7
                 try clear hfz24_8
                 try clear hfz26_0
                 try clear hfz26_1
                 try clear hfz26_2
                 try clear hfz26_3
                 try clear hfz26_4
                 try clear hfz31_0
                 try clear hfz31_1
                 try clear hfz31_2
                 try clear hfz31_3
                 try clear hfz31_4
                 try clear hfz33_0
                 try clear hfz33_1
                 try clear hfz33_2
                 try clear hfz33_3
                 try clear hfz33_4
                 try clear hfz39_0
                 try clear hfz39_1
                 try clear hfz39_2
                 try clear hfz39_3
                 try clear hfz39_4
                 try clear hfz41_0
                 try clear hfz41_1
                 try clear hfz41_2
                 try clear hfz41_3
                 try clear hfz41_4
                 try clear hfz43_0
                 try clear hfz43_1
                 try clear hfz43_2
                 try clear hfz43_3
                 try clear hfz43_4
                 try clear hfz49_0
                 try clear hfz49_1
                 try clear hfz49_2
                 try clear hfz49_3
                 try clear hfz49_4
                 try clear hfz53_0
                 try clear hfz53_1
                 try clear hfz53_2
                 try clear hfz53_3
                 try clear hfz53_4
                 try clear hfz58_0
                 try clear hfz58_1
                 try clear hfz58_2
                 try clear hfz58_3
                 try clear hfz58_4
                 try clear hfz61_0
                 try clear hfz61_1
                 try clear hfz61_2
                 try clear hfz61_3
                 try clear hfz61_4
                 try clear hfz63_0
                 try clear hfz63_1
                 try clear hfz63_2
                 try clear hfz63_3
                 try clear hfz63_4
                 try clear hfz8_0
                 try clear hfz8_1
                 try clear hfz8_2
                 try clear hfz8_3
                 try clear hfz8_4
                 try clear hx194_0
                 try clear hx194_1
                 try clear hx194_2
                 try clear hx194_3
                 try clear hx194_4
                 try clear hx194_5
                 try clear hx195_0
                 try clear hx195_1
                 try clear hx195_2
                 try clear hx195_3
                 try clear hx195_4
                 try clear hx195_5
                 try clear p1
                 try clear p19
                 try clear p194
                 try clear p195
                 try clear p2
                 try clear p6
                 try clear q1
                 try clear q19
                 try clear q194
                 try clear q195
                 obtain ⟨kq, x84_55, rfl, HA, HJ55, BK191, BK192, HB⟩ := hcut
                 cases kq with
                 | zero => exact absurd HA.out (by simp [catchmentref21_Ask.j5])
                 | succ kj55 =>
                  have H := HA.out
                  clear HA
                  simp only [catchmentref21_Ask.j5] at H
                  by_cases c64 : x84_55 = true
                  ·subst c64
                   have H1 : (some 0) = some r := by rw [if_pos rfl] at H; exact H
                   clear H
                   have H := H1
                   clear H1
                   obtain rfl := Option.some.inj H
                   go_wp2
                   go_ret
                   exact ⟨by first | rfl | (simp [errW_none, errW_some] <;> rfl) | (simp [*, errW_none, errW_some] <;> rfl), by repeat (first | (with_reducible first | exact HB.out | apply wA | apply wN | apply w1 | refine wS ?_ GE191.out | refine wS ?_ GE192.out) | exact HB.out)⟩
                  ·replace c64 := Bool.eq_false_iff.mpr c64
                   subst c64
                   have H1 : (if (a0_1.size : Int) > a1_0 then (catchmentref21_Ask.j6 kj55 true a0_0 a0_1 a0_2 a0_3 l0_4 a1_0 a1_1 a1_2 a1_3 a1_4 a1_5 a1_6 a1_7 a1_8) else (catchmentref21_Ask.j6 kj55 (decide ((a0_2.size : Int) > a1_0)) a0_0 a0_1 a0_2 a0_3 l0_4 a1_0 a1_1 a1_2 a1_3 a1_4 a1_5 a1_6 a1_7 a1_8)) = some r := by rw [if_neg (show ¬ (false = true) by decide)] at H; exact H
                   clear H
                   have H := H1
                   clear H1
                   have HC65 := Aside0.mk H
                   clear H
                   go_upto_region 20 with (fail)
                   go_cut [98] (fun v98 wc => ∃ (kq : Nat) (x98_64 : Bool), v98 = .bool x98_64 ∧ Aside0 (catchmentref21_Ask.j6 kq x98_64 a0_0 a0_1 a0_2 a0_3 l0_4 a1_0 a1_1 a1_2 a1_3 a1_4 a1_5 a1_6 a1_7 a1_8 = some r) ∧ Aside0 (kq ≤ kj55) ∧ Aside0 (wc.heap[gb191]? = some (.cells #[.int .u8 a0_0, .string a0_1, .string a0_2, .int .i64 a0_3, (.slice A0_4 l0_4.length c0_4)] 27 (0, 0))) ∧ Aside0 (wc.heap[gb192]? = some (.cells #[.int .i64 a1_0, .int .i64 a1_1, .int .i64 a1_2, .int .i64 a1_3, .int .i64 a1_4, .int .i64 a1_5, .int .i64 a1_6, .int .i64 a1_7, .int .i64 a1_8] 23 (0, 0))) ∧ Aside0 (Below w.heap.size w wc))
                   case first =>
                    have H := HC65.out
                    clear HC65
                    by_cases c66 : (a0_1.size : Int) > a1_0
                    ·rw [if_pos c66] at H
                     have c66b0 : decide (a1_0 < (a0_1.size : Int)) = true := decide_eq_true c66
                     clear c66
                     (first | rw [c66b0] | (simp only [i64_w, i32_w]; rw [c66b0]) | skip)
                     have H' := Aside0.mk H
                     clear H
                     have hnb67 := NB191_192.out
                     have hnc67 := NB192_191.out
                     have hcz68_0 : wc.cell? ⟨gb191, 0, none⟩ = some (.int .u8 a0_0) := (bC BK191.out 0).trans rfl
                     have hcz68_1 : wc.cell? ⟨gb191, 1, none⟩ = some (.string a0_1) := (bC BK191.out 1).trans rfl
                     have hcz68_2 : wc.cell? ⟨gb191, 2, none⟩ = some (.string a0_2) := (bC BK191.out 2).trans rfl
                     have hcz68_3 : wc.cell? ⟨gb191, 3, none⟩ = some (.int .i64 a0_3) := (bC BK191.out 3).trans rfl
                     have hcz68_4 : wc.cell? ⟨gb191, 4, none⟩ = some (.slice A0_4 l0_4.length c0_4) := (bC BK191.out 4).trans rfl
                     have hfz68_0 := bF BK191.out 0
                     have hfz68_1 := bF BK191.out 1
                     have hfz68_2 := bF BK191.out 2
                     have hfz68_3 := bF BK191.out 3
                     have hfz68_4 := bF BK191.out 4
                     have hcz69_0 : wc.cell? ⟨gb192, 0, none⟩ = some (.int .i64 a1_0) := (bC BK192.out 0).trans rfl
                     have hcz69_1 : wc.cell? ⟨gb192, 1, none⟩ = some (.int .i64 a1_1) := (bC BK192.out 1).trans rfl
                     have hcz69_2 : wc.cell? ⟨gb192, 2, none⟩ = some (.int .i64 a1_2) := (bC BK192.out 2).trans rfl
                     have hcz69_3 : wc.cell? ⟨gb192, 3, none⟩ = some (.int .i64 a1_3) := (bC BK192.out 3).trans rfl
                     have hcz69_4 : wc.cell? ⟨gb192, 4, none⟩ = some (.int .i64 a1_4) := (bC BK192.out 4).trans rfl
                     have hcz69_5 : wc.cell? ⟨gb192, 5, none⟩ = some (.int .i64 a1_5) := (bC BK192.out 5).trans rfl
                     have hcz69_6 : wc.cell? ⟨gb192, 6, none⟩ = some (.int .i64 a1_6) := (bC BK192.out 6).trans rfl
                     have hcz69_7 : wc.cell? ⟨gb192, 7, none⟩ = some (.int .i64 a1_7) := (bC BK192.out 7).trans rfl
                     have hcz69_8 : wc.cell? ⟨gb192, 8, none⟩ = some (.int .i64 a1_8) := (bC BK192.out 8).trans rfl
                     have hfz69_0 := bF BK192.out 0
                     have hfz69_1 := bF BK192.out 1
                     have hfz69_2 := bF BK192.out 2
                     have hfz69_3 := bF BK192.out 3
                     have hfz69_4 := bF BK192.out 4
                     have hfz69_5 := bF BK192.out 5
                     have hfz69_6 := bF BK192.out 6
                     have hfz69_7 := bF BK192.out 7
                     have hfz69_8 := bF BK192.out 8
                     go_wp2
                     go_meet
                     case rel => exact ⟨_, (true), (by first | rfl | (simp; done) | (simp [*]; done)), H', ⟨by have := HJ2.out; have := HJ16.out; have := HJ27.out; have := HK4.out; have := HK5.out; have := HJ55.out; first | omega | exact Nat.le_refl _⟩, ⟨by (with_reducible repeat (first | refine bN ?_ _ | refine bD ?_ | refine bA ?_ _)); exact BK191.out⟩, ⟨by (with_reducible repeat (first | refine bN ?_ _ | refine bD ?_ | refine bA ?_ _)); exact BK192.out⟩, ⟨by repeat (first | (with_reducible first | exact HB.out | apply wA | apply wN | apply w1 | refine wS ?_ GE191.out | refine wS ?_ GE192.out) | exact HB.out)⟩⟩
                    ·rw [if_neg c66] at H
                     have c66b0 : decide (a1_0 < (a0_1.size : Int)) = false := decide_eq_false c66
                     clear c66
                     (first | rw [c66b0] | (simp only [i64_w, i32_w]; rw [c66b0]) | skip)
                     have H' := Aside0.mk H
                     clear H
                     have hnb70 := NB191_192.out
                     have hnc70 := NB192_191.out
                     have hcz71_0 : wc.cell? ⟨gb191, 0, none⟩ = some (.int .u8 a0_0) := (bC BK191.out 0).trans rfl
                     have hcz71_1 : wc.cell? ⟨gb191, 1, none⟩ = some (.string a0_1) := (bC BK191.out 1).trans rfl
                     have hcz71_2 : wc.cell? ⟨gb191, 2, none⟩ = some (.string a0_2) := (bC BK191.out 2).trans rfl
                     have hcz71_3 : wc.cell? ⟨gb191, 3, none⟩ = some (.int .i64 a0_3) := (bC BK191.out 3).trans rfl
                     have hcz71_4 : wc.cell? ⟨gb191, 4, none⟩ = some (.slice A0_4 l0_4.length c0_4) := (bC BK191.out 4).trans rfl
                     have hfz71_0 := bF BK191.out 0
                     have hfz71_1 := bF BK191.out 1
                     have hfz71_2 := bF BK191.out 2
                     have hfz71_3 := bF BK191.out 3
                     have hfz71_4 := bF BK191.out 4
                     have hcz72_0 : wc.cell? ⟨gb192, 0, none⟩ = some (.int .i64 a1_0) := (bC BK192.out 0).trans rfl
                     have hcz72_1 : wc.cell? ⟨gb192, 1, none⟩ = some (.int .i64 a1_1) := (bC BK192.out 1).trans rfl
                     have hcz72_2 : wc.cell? ⟨gb192, 2, none⟩ = some (.int .i64 a1_2) := (bC BK192.out 2).trans rfl
                     have hcz72_3 : wc.cell? ⟨gb192, 3, none⟩ = some (.int .i64 a1_3) := (bC BK192.out 3).trans rfl
                     have hcz72_4 : wc.cell? ⟨gb192, 4, none⟩ = some (.int .i64 a1_4) := (bC BK192.out 4).trans rfl
                     have hcz72_5 : wc.cell? ⟨gb192, 5, none⟩ = some (.int .i64 a1_5) := (bC BK192.out 5).trans rfl
                     have hcz72_6 : wc.cell? ⟨gb192, 6, none⟩ = some (.int .i64 a1_6) := (bC BK192.out 6).trans rfl
                     have hcz72_7 : wc.cell? ⟨gb192, 7, none⟩ = some (.int .i64 a1_7) := (bC BK192.out 7).trans rfl
                     have hcz72_8 : wc.cell? ⟨gb192, 8, none⟩ = some (.int .i64 a1_8) := (bC BK192.out 8).trans rfl
                     have hfz72_0 := bF BK192.out 0
                     have hfz72_1 := bF BK192.out 1
                     have hfz72_2 := bF BK192.out 2
                     have hfz72_3 := bF BK192.out 3
                     have hfz72_4 := bF BK192.out 4
                     have hfz72_5 := bF BK192.out 5
                     have hfz72_6 := bF BK192.out 6
                     have hfz72_7 := bF BK192.out 7
                     have hfz72_8 := bF BK192.out 8
                     go_wp2
                     go_meet
                     case rel => exact ⟨_, (decide ((a0_2.size : Int) > a1_0)), (by first | rfl | (simp; done) | (simp [*]; done)), H', ⟨by have := HJ2.out; have := HJ16.out; have := HJ27.out; have := HK4.out; have := HK5.out; have := HJ55.out; first | omega | exact Nat.le_refl _⟩, ⟨by (with_reducible repeat (first | refine bN ?_ _ | refine bD ?_ | refine bA ?_ _)); exact BK191.out⟩, ⟨by (with_reducible repeat (first | refine bN ?_ _ | refine bD ?_ | refine bA ?_ _)); exact BK192.out⟩, ⟨by repeat (first | (with_reducible first | exact HB.out | apply wA | apply wN | apply w1 | refine wS ?_ GE191.out | refine wS ?_ GE192.out) | exact HB.out)⟩⟩
                   case rest =>
                    clear HC65
                    try clear c1
                    try clear p1
                    try clear q1
                    try clear hx1
                    try clear c2
                    try clear p2
                    try clear c3
                    try clear c4
                    try clear c5
                    try clear c6
                    try clear c6b0
                    try clear p6
                    try clear c7
                    try clear c9
                    try clear c9b0
                    try clear c10
                    try clear c13
                    try clear c16
                    try clear c18
                    try clear c18b0
                    try clear c18b1
                    try clear c19
                    try clear c19b0
                    try clear c19b1
                    try clear p19
                    try clear q19
                    try clear hx19
                    try clear c20
                    try clear c22
                    try clear c25
                    try clear c27
                    try clear c29
                    try clear c29b0
                    try clear c29b1
                    try clear c30
                    try clear c32
                    try clear c34
                    try clear c35
                    try clear c35b0
                    try clear c36
                    try clear c36b0
                    try clear c37
                    try clear c37b0
                    try clear c37b1
                    try clear c38
                    try clear c40
                    try clear c42
                    try clear c44
                    try clear c44b0
                    try clear c45
                    try clear c45b0
                    try clear c47
                    try clear c47b0
                    try clear c47b1
                    try clear c48
                    try clear c52
                    try clear c57
                    try clear c59
                    try clear c59b0
                    try clear c59b1
                    try clear c60
                    try clear c62
                    try clear c64
                    try clear p64
                    try clear c66
                    try clear c66b0
                    try clear c67
                    try clear c70
                    try clear hcz11_0
                    try clear hcz11_1
                    try clear hcz11_2
                    try clear hcz11_3
                    try clear hcz11_4
                    try clear hcz14_0
                    try clear hcz14_1
                    try clear hcz14_2
                    try clear hcz14_3
                    try clear hcz14_4
                    try clear hcz21_0
                    try clear hcz21_1
                    try clear hcz21_2
                    try clear hcz21_3
                    try clear hcz21_4
                    try clear hcz23_0
                    try clear hcz23_1
                    try clear hcz23_2
                    try clear hcz23_3
                    try clear hcz23_4
                    try clear hcz24_0
                    try clear hcz24_1
                    try clear hcz24_2
                    try clear hcz24_3
                    try clear hcz24_4
                    try clear hcz24_5
                    try clear hcz24_6
                    try clear hcz24_7
                    try clear hcz24_8
                    try clear hcz26_0
                    try clear hcz26_1
                    try clear hcz26_2
                    try clear hcz26_3
                    try clear hcz26_4
                    try clear hcz31_0
                    try clear hcz31_1
                    try clear hcz31_2
                    try clear hcz31_3
                    try clear hcz31_4
                    try clear hcz33_0
                    try clear hcz33_1
                    try clear hcz33_2
                    try clear hcz33_3
                    try clear hcz33_4
                    try clear hcz39_0
                    try clear hcz39_1
                    try clear hcz39_2
                    try clear hcz39_3
                    try clear hcz39_4
                    try clear hcz41_0
                    try clear hcz41_1
                    try clear hcz41_2
                    try clear hcz41_3
                    try clear hcz41_4
                    try clear hcz43_0
                    try clear hcz43_1
                    try clear hcz43_2
                    try clear hcz43_3
                    try clear hcz43_4
                    try clear hcz49_0
                    try clear hcz49_1
                    try clear hcz49_2
                    try clear hcz49_3
                    try clear hcz49_4
                    try clear hcz53_0
                    try clear hcz53_1
                    try clear hcz53_2
                    try clear hcz53_3
                    try clear hcz53_4
                    try clear hcz58_0
                    try clear hcz58_1
                    try clear hcz58_2
                    try clear hcz58_3
                    try clear hcz58_4
                    try clear hcz61_0
                    try clear hcz61_1
                    try clear hcz61_2
                    try clear hcz61_3
                    try clear hcz61_4
                    try clear hcz63_0
                    try clear hcz63_1
                    try clear hcz63_2
                    try clear hcz63_3
                    try clear hcz63_4
                    try clear hcz68_0
                    try clear hcz68_1
                    try clear hcz68_2
                    try clear hcz68_3
                    try clear hcz68_4
                    try clear hcz69_0
                    try clear hcz69_1
                    try clear hcz69_2
                    try clear hcz69_3
                    try clear hcz69_4
                    try clear hcz69_5
                    try clear hcz69_6
                    try clear hcz69_7
                    try clear hcz69_8
                    try clear hcz71_0
                    try clear hcz71_1
                    try clear hcz71_2
                    try clear hcz71_3
                    try clear hcz71_4
                    try clear hcz72_0
                    try clear hcz72_1
                    try clear hcz72_2
                    try clear hcz72_3
                    try clear hcz72_4
                    try clear hcz72_5
                    try clear hcz72_6
                    try clear hcz72_7
                    try clear hcz72_8
                    try clear hcz8_0
                    try clear hcz8_1
                    try clear hcz8_2
                    try clear hcz8_3
                    try clear hcz8_4
                    try clear hfz11_0
                    try clear hfz11_1
                    try clear hfz11_2
                    try clear hfz11_3
                    try clear hfz11_4
                    try clear hfz14_0
                    try clear hfz14_1
                    try clear hfz14_2
                    try clear hfz14_3
                    try clear hfz14_4
                    try clear hfz21_0
                    try clear hfz21_1
                    try clear hfz21_2
                    try clear hfz21_3
                    try clear hfz21_4
                    try clear hfz23_0
                    try clear hfz23_1
                    try clear hfz23_2
                    try clear hfz23_3
                    try clear hfz23_4
                    try clear hfz24_0
                    try clear hfz24_1
                    try clear hfz24_2
                    try clear hfz24_3
                    try clear hfz24_4
                    try clear hfz24_5
                    try clear hfz24_6
                    try clear hfz24_7
                    try clear hfz24_8
                    try clear hfz26_0
                    try clear hfz26_1
                    try clear hfz26_2
                    try clear hfz26_3
                    try clear hfz26_4
                    try clear hfz31_0
                    try clear hfz31_1
                    try clear hfz31_2
                    try clear hfz31_3
                    try clear hfz31_4
                    try clear hfz33_0
                    try clear hfz33_1
                    try clear hfz33_2
                    try clear hfz33_3
                    try clear hfz33_4
                    try clear hfz39_0
                    try clear hfz39_1
                    try clear hfz39_2
                    try clear hfz39_3
                    try clear hfz39_4
                    try clear hfz41_0
                    try clear hfz41_1
                    try clear hfz41_2
                    try clear hfz41_3
                    try clear hfz41_4
                    try clear hfz43_0
                    try clear hfz43_1
                    try clear hfz43_2
                    try clear hfz43_3
                    try clear hfz43_4
                    try clear hfz49_0
                    try clear hfz49_1
                    try clear hfz49_2
                    try clear hfz49_3
                    try clear hfz49_4
                    try clear hfz53_0
                    try clear hfz53_1
                    try clear hfz53_2
                    try clear hfz53_3
                    try clear hfz53_4
                    try clear hfz58_0
                    try clear hfz58_1
                    try clear hfz58_2
                    try clear hfz58_3
                    try clear hfz58_4
                    try clear hfz61_0
                    try clear hfz61_1
                    try clear hfz61_2
                    try clear hfz61_3
                    try clear hfz61_4
                    try clear hfz63_0
                    try clear hfz63_1
                    try clear hfz63_2
                    try clear hfz63_3
                    try clear hfz63_4
                    try clear hfz68_0
                    try clear hfz68_1
                    try clear hfz68_2
                    try clear hfz68_3
                    try clear hfz68_4
                    try clear hfz69_0
                    try clear hfz69_1
                    try clear hfz69_2
                    try clear hfz69_3
                    try clear hfz69_4
                    try clear hfz69_5
                    try clear hfz69_6
                    try clear hfz69_7
                    try clear hfz69_8
                    try clear hfz71_0
                    try clear hfz71_1
                    try clear hfz71_2
                    try clear hfz71_3
                    try clear hfz71_4
                    try clear hfz72_0
                    try clear hfz72_1
                    try clear hfz72_2
                    try clear hfz72_3
                    try clear hfz72_4
                    try clear hfz72_5
                    try clear hfz72_6
                    try clear hfz72_7
                    try clear hfz72_8
                    try clear hfz8_0
                    try clear hfz8_1
                    try clear hfz8_2
                    try clear hfz8_3
                    try clear hfz8_4
                    try clear hx194_0
                    try clear hx194_1
                    try clear hx194_2
                    try clear hx194_3
                    try clear hx194_4
                    try clear hx194_5
                    try clear hx195_0
                    try clear hx195_1
                    try clear hx195_2
                    try clear hx195_3
                    try clear hx195_4
                    try clear hx195_5
                    try clear p1
                    try clear p19
                    try clear p194
                    try clear p195
                    try clear p2
                    try clear p6
                    try clear q1
                    try clear q19
                    try clear q194
                    try clear q195
                    obtain ⟨kq, x98_64, rfl, HA, HJ64, BK191, BK192, HB⟩ := hcut
                    cases kq with
                    | zero => exact absurd HA.out (by simp [catchmentref21_Ask.j6])
                    | succ kj64 =>
                     have H := HA.out
                     clear HA
                     simp only [catchmentref21_Ask.j6] at H
                     by_cases c73 : x98_64 = true
                     ·subst c73
                      have H1 : (some 6) = some r := by rw [if_pos rfl] at H; exact H
                      clear H
                      have H := H1
                      clear H1
                      obtain rfl := Option.some.inj H
                      go_wp2
                      go_ret
                      exact ⟨by first | rfl | (simp [errW_none, errW_some] <;> rfl) | (simp [*, errW_none, errW_some] <;> rfl), by repeat (first | (with_reducible first | exact HB.out | apply wA | apply wN | apply w1 | refine wS ?_ GE191.out | refine wS ?_ GE192.out) | exact HB.out)⟩
                     ·replace c73 := Bool.eq_false_iff.mpr c73
                      subst c73
                      have H1 : (if a0_2.toList = ([] : List UInt8) then (catchmentref21_Ask.j7 kj64 false a0_0 a0_1 a0_2 a0_3 l0_4 a1_0 a1_1 a1_2 a1_3 a1_4 a1_5 a1_6 a1_7 a1_8) else (catchmentref21_Ask.j7 kj64 (!(Op.bytesLess a0_1.toList a0_2.toList)) a0_0 a0_1 a0_2 a0_3 l0_4 a1_0 a1_1 a1_2 a1_3 a1_4 a1_5 a1_6 a1_7 a1_8)) = some r := by rw [if_neg (show ¬ (false = true) by decide)] at H; exact H
                      clear H
                      have H := H1
                      clear H1
                      have HC74 := Aside0.mk H
                      clear H
                      go_upto_region 22 with (fail)
                      go_cut [108] (fun v108 wc => ∃ (kq : Nat) (x108_73 : Bool), v108 = .bool x108_73 ∧ Aside0 (catchmentref21_Ask.j7 kq x108_73 a0_0 a0_1 a0_2 a0_3 l0_4 a1_0 a1_1 a1_2 a1_3 a1_4 a1_5 a1_6 a1_7 a1_8 = some r) ∧ Aside0 (kq ≤ kj64) ∧ Aside0 (wc.heap[gb191]? = some (.cells #[.int .u8 a0_0, .string a0_1, .string a0_2, .int .i64 a0_3, (.slice A0_4 l0_4.length c0_4)] 27 (0, 0))) ∧ Aside0 (wc.heap[gb192]? = some (.cells #[.int .i64 a1_0, .int .i64 a1_1, .int .i64 a1_2, .int .i64 a1_3, .int .i64 a1_4, .int .i64 a1_5, .int .i64 a1_6, .int .i64 a1_7, .int .i64 a1_8] 23 (0, 0))) ∧ Aside0 (Below w.heap.size w wc))
                      case first =>
                       have H := HC74.out
                       clear HC74
                       by_cases c75 : a0_2.toList = ([] : List UInt8)
                       ·rw [if_pos c75] at H
                        have c75b0 : (a0_2.toList == ([] : List UInt8)) = true := beq_iff_eq.mpr c75
                        have c75b1 : (a0_2.toList != ([] : List UInt8)) = false := bne_eq_false_iff_eq.mpr c75
                        clear c75
                        (first | rw [c75b0] | (simp only [i64_w, i32_w]; rw [c75b0]) | skip)
                        have H' := Aside0.mk H
                        clear H
                        have hnb76 := NB191_192.out
                        have hnc76 := NB192_191.out
                        have hcz77_0 : wc.cell? ⟨gb191, 0, none⟩ = some (.int .u8 a0_0) := (bC BK191.out 0).trans rfl
                        have hcz77_1 : wc.cell? ⟨gb191, 1, none⟩ = some (.string a0_1) := (bC BK191.out 1).trans rfl
                        have hcz77_2 : wc.cell? ⟨gb191, 2, none⟩ = some (.string a0_2) := (bC BK191.out 2).trans rfl
                        have hcz77_3 : wc.cell? ⟨gb191, 3, none⟩ = some (.int .i64 a0_3) := (bC BK191.out 3).trans rfl
                        have hcz77_4 : wc.cell? ⟨gb191, 4, none⟩ = some (.slice A0_4 l0_4.length c0_4) := (bC BK191.out 4).trans rfl
                        have hfz77_0 := bF BK191.out 0
                        have hfz77_1 := bF BK191.out 1
                        have hfz77_2 := bF BK191.out 2
                        have hfz77_3 := bF BK191.out 3
                        have hfz77_4 := bF BK191.out 4
                        go_wp2
                        go_meet
                        case rel => exact ⟨_, (false), (by first | rfl | (simp; done) | (simp [*]; done)), H', ⟨by have := HJ2.out; have := HJ16.out; have := HJ27.out; have := HK4.out; have := HK5.out; have := HJ55.out; have := HJ64.out; first | omega | exact Nat.le_refl _⟩, ⟨by (with_reducible repeat (first | refine bN ?_ _ | refine bD ?_ | refine bA ?_ _)); exact BK191.out⟩, ⟨by (with_reducible repeat (first | refine bN ?_ _ | refine bD ?_ | refine bA ?_ _)); exact BK192.out⟩, ⟨by repeat (first | (with_reducible first | exact HB.out | apply wA | apply wN | apply w1 | refine wS ?_ GE191.out | refine wS ?_ GE192.out) | exact HB.out)⟩⟩
                       ·rw [if_neg c75] at H
                        have c75b0 : (a0_2.toList == ([] : List UInt8)) = false := beq_eq_false_iff_ne.mpr c75
                        have c75b1 : (a0_2.toList != ([] : List UInt8)) = true := bne_iff_ne.mpr c75
                        (first | rw [c75b0] | (simp only [i64_w, i32_w]; rw [c75b0]) | skip)
                        have H' := Aside0.mk H
                        clear H
                        have hnb78 := NB191_192.out
                        have hnc78 := NB192_191.out
                        have hcz79_0 : wc.cell? ⟨gb191, 0, none⟩ = some (.int .u8 a0_0) := (bC BK191.out 0).trans rfl
                        have hcz79_1 : wc.cell? ⟨gb191, 1, none⟩ = some (.string a0_1) := (bC BK191.out 1).trans rfl
                        have hcz79_2 : wc.cell? ⟨gb191, 2, none⟩ = some (.string a0_2) := (bC BK191.out 2).trans rfl
                        have hcz79_3 : wc.cell? ⟨gb191, 3, none⟩ = some (.int .i64 a0_3) := (bC BK191.out 3).trans rfl
                        have hcz79_4 : wc.cell? ⟨gb191, 4, none⟩ = some (.slice A0_4 l0_4.length c0_4) := (bC BK191.out 4).trans rfl
                        have hfz79_0 := bF BK191.out 0
                        have hfz79_1 := bF BK191.out 1
                        have hfz79_2 := bF BK191.out 2
                        have hfz79_3 := bF BK191.out 3
                        have hfz79_4 := bF BK191.out 4
                        go_wp2
                        go_meet
                        case rel => exact ⟨_, (!(Op.bytesLess a0_1.toList a0_2.toList)), (by first | rfl | (simp; done) | (simp [*]; done)), H', ⟨by have := HJ2.out; have := HJ16.out; have := HJ27.out; have := HK4.out; have := HK5.out; have := HJ55.out; have := HJ64.out; first | omega | exact Nat.le_refl _⟩, ⟨by (with_reducible repeat (first | refine bN ?_ _ | refine bD ?_ | refine bA ?_ _)); exact BK191.out⟩, ⟨by (with_reducible repeat (first | refine bN ?_ _ | refine bD ?_ | refine bA ?_ _)); exact BK192.out⟩, ⟨by repeat (first | (with_reducible first | exact HB.out | apply wA | apply wN | apply w1 | refine wS ?_ GE191.out | refine wS ?_ GE192.out) | exact HB.out)⟩⟩
                      case rest =>
                       clear HC74
                       try clear c1
                       try clear p1
                       try clear q1
                       try clear hx1
                       try clear c2
                       try clear p2
                       try clear c3
                       try clear c4
                       try clear c5
                       try clear c6
                       try clear c6b0
                       try clear p6
                       try clear c7
                       try clear c9
                       try clear c9b0
                       try clear c10
                       try clear c13
                       try clear c16
                       try clear c18
                       try clear c18b0
                       try clear c18b1
                       try clear c19
                       try clear c19b0
                       try clear c19b1
                       try clear p19
                       try clear q19
                       try clear hx19
                       try clear c20
                       try clear c22
                       try clear c25
                       try clear c27
                       try clear c29
                       try clear c29b0
                       try clear c29b1
                       try clear c30
                       try clear c32
                       try clear c34
                       try clear c35
                       try clear c35b0
                       try clear c36
                       try clear c36b0
                       try clear c37
                       try clear c37b0
                       try clear c37b1
                       try clear c38
                       try clear c40
                       try clear c42
                       try clear c44
                       try clear c44b0
                       try clear c45
                       try clear c45b0
                       try clear c47
                       try clear c47b0
                       try clear c47b1
                       try clear c48
                       try clear c52
                       try clear c57
                       try clear c59
                       try clear c59b0
                       try clear c59b1
                       try clear c60
                       try clear c62
                       try clear c64
                       try clear p64
                       try clear c66
                       try clear c66b0
                       try clear c67
                       try clear c70
                       try clear c73
                       try clear c75
                       try clear c75b0
                       try clear c75b1
                       try clear c76
                       try clear c78
                       try clear hcz11_0
                       try clear hcz11_1
                       try clear hcz11_2
                       try clear hcz11_3
                       try clear hcz11_4
                       try clear hcz14_0
                       try clear hcz14_1
                       try clear hcz14_2
                       try clear hcz14_3
                       try clear hcz14_4
                       try clear hcz21_0
                       try clear hcz21_1
                       try clear hcz21_2
                       try clear hcz21_3
                       try clear hcz21_4
                       try clear hcz23_0
                       try clear hcz23_1
                       try clear hcz23_2
                       try clear hcz23_3
                       try clear hcz23_4
                       try clear hcz24_0
                       try clear hcz24_1
                       try clear hcz24_2
                       try clear hcz24_3
                       try clear hcz24_4
                       try clear hcz24_5
                       try clear hcz24_6
                       try clear hcz24_7
                       try clear hcz24_8
                       try clear hcz26_0
                       try clear hcz26_1
                       try clear hcz26_2
                       try clear hcz26_3
                       try clear hcz26_4
                       try clear hcz31_0
                       try clear hcz31_1
                       try clear hcz31_2
                       try clear hcz31_3
                       try clear hcz31_4
                       try clear hcz33_0
                       try clear hcz33_1
                       try clear hcz33_2
                       try clear hcz33_3
                       try clear hcz33_4
                       try clear hcz39_0
                       try clear hcz39_1
                       try clear hcz39_2
                       try clear hcz39_3
                       try clear hcz39_4
                       try clear hcz41_0
                       try clear hcz41_1
                       try clear hcz41_2
                       try clear hcz41_3
                       try clear hcz41_4
                       try clear hcz43_0
                       try clear hcz43_1
                       try clear hcz43_2
                       try clear hcz43_3
                       try clear hcz43_4
                       try clear hcz49_0
                       try clear hcz49_1
                       try clear hcz49_2
                       try clear hcz49_3
                       try clear hcz49_4
                       try clear hcz53_0
                       try clear hcz53_1
                       try clear hcz53_2
                       try clear hcz53_3
                       try clear hcz53_4
                       try clear hcz58_0
                       try clear hcz58_1
                       try clear hcz58_2
                       try clear hcz58_3
                       try clear hcz58_4
                       try clear hcz61_0
                       try clear hcz61_1
                       try clear hcz61_2
                       try clear hcz61_3
                       try clear hcz61_4
                       try clear hcz63_0
                       try clear hcz63_1
                       try clear hcz63_2
                       try clear hcz63_3
                       try clear hcz63_4
                       try clear hcz68_0
                       try clear hcz68_1
                       try clear hcz68_2
                       try clear hcz68_3
                       try clear hcz68_4
                       try clear hcz69_0
                       try clear hcz69_1
                       try clear hcz69_2
                       try clear hcz69_3
                       try clear hcz69_4
                       try clear hcz69_5
                       try clear hcz69_6
                       try clear hcz69_7
                       try clear hcz69_8
                       try clear hcz71_0
                       try clear hcz71_1
                       try clear hcz71_2
                       try clear hcz71_3
                       try clear hcz71_4
                       try clear hcz72_0
                       try clear hcz72_1
                       try clear hcz72_2
                       try clear hcz72_3
                       try clear hcz72_4
                       try clear hcz72_5
                       try clear hcz72_6
                       try clear hcz72_7
                       try clear hcz72_8
                       try clear hcz77_0
                       try clear hcz77_1
                       try clear hcz77_2
                       try clear hcz77_3
                       try clear hcz77_4
                       try clear hcz79_0
                       try clear hcz79_1
                       try clear hcz79_2
                       try clear hcz79_3
                       try clear hcz79_4
                       try clear hcz8_0
                       try clear hcz8_1
                       try clear hcz8_2
                       try clear hcz8_3
                       try clear hcz8_4
                       try clear hfz11_0
                       try clear hfz11_1
                       try clear hfz11_2
                       try clear hfz11_3
                       try clear hfz11_4
                       try clear hfz14_0
                       try clear hfz14_1
                       try clear hfz14_2
                       try clear hfz14_3
                       try clear hfz14_4
                       try clear hfz21_0
                       try clear hfz21_1
                       try clear hfz21_2
                       try clear hfz21_3
                       try clear hfz21_4
                       try clear hfz23_0
                       try clear hfz23_1
                       try clear hfz23_2
                       try clear hfz23_3
                       try clear hfz23_4
                       try clear hfz24_0
                       try clear hfz24_1
                       try clear hfz24_2
                       try clear hfz24_3
                       try clear hfz24_4
                       try clear hfz24_5
                       try clear hfz24_6
                       try clear hfz24_7
                       try clear hfz24_8
                       try clear hfz26_0
                       try clear hfz26_1
                       try clear hfz26_2
                       try clear hfz26_3
                       try clear hfz26_4
                       try clear hfz31_0
                       try clear hfz31_1
                       try clear hfz31_2
                       try clear hfz31_3
                       try clear hfz31_4
                       try clear hfz33_0
                       try clear hfz33_1
                       try clear hfz33_2
                       try clear hfz33_3
                       try clear hfz33_4
                       try clear hfz39_0
                       try clear hfz39_1
                       try clear hfz39_2
                       try clear hfz39_3
                       try clear hfz39_4
                       try clear hfz41_0
                       try clear hfz41_1
                       try clear hfz41_2
                       try clear hfz41_3
                       try clear hfz41_4
                       try clear hfz43_0
                       try clear hfz43_1
                       try clear hfz43_2
                       try clear hfz43_3
                       try clear hfz43_4
                       try clear hfz49_0
                       try clear hfz49_1
                       try clear hfz49_2
                       try clear hfz49_3
                       try clear hfz49_4
                       try clear hfz53_0
                       try clear hfz53_1
                       try clear hfz53_2
                       try clear hfz53_3
                       try clear hfz53_4
                       try clear hfz58_0
                       try clear hfz58_1
                       try clear hfz58_2
                       try clear hfz58_3
                       try clear hfz58_4
                       try clear hfz61_0
                       try clear hfz61_1
                       try clear hfz61_2
                       try clear hfz61_3
                       try clear hfz61_4
                       try clear hfz63_0
                       try clear hfz63_1
                       try clear hfz63_2
                       try clear hfz63_3
                       try clear hfz63_4
                       try clear hfz68_0
                       try clear hfz68_1
                       try clear hfz68_2
                       try clear hfz68_3
                       try clear hfz68_4
                       try clear hfz69_0
                       try clear hfz69_1
                       try clear hfz69_2
                       try clear hfz69_3
                       try clear hfz69_4
                       try clear hfz69_5
                       try clear hfz69_6
                       try clear hfz69_7
                       try clear hfz69_8
                       try clear hfz71_0
                       try clear hfz71_1
                       try clear hfz71_2
                       try clear hfz71_3
                       try clear hfz71_4
                       try clear hfz72_0
                       try clear hfz72_1
                       try clear hfz72_2
                       try clear hfz72_3
                       try clear hfz72_4
                       try clear hfz72_5
                       try clear hfz72_6
                       try clear hfz72_7
                       try clear hfz72_8
                       try clear hfz77_0
                       try clear hfz77_1
                       try clear hfz77_2
                       try clear hfz77_3
                       try clear hfz77_4
                       try clear hfz79_0
                       try clear hfz79_1
                       try clear hfz79_2
                       try clear hfz79_3
                       try clear hfz79_4
                       try clear hfz8_0
                       try clear hfz8_1
                       try clear hfz8_2
                       try clear hfz8_3
                       try clear hfz8_4
                       try clear hx194_0
                       try clear hx194_1
                       try clear hx194_2
                       try clear hx194_3
                       try clear hx194_4
                       try clear hx194_5
                       try clear hx195_0
                       try clear hx195_1
                       try clear hx195_2
                       try clear hx195_3
                       try clear hx195_4
                       try clear hx195_5
                       try clear p1
                       try clear p19
                       try clear p194
                       try clear p195
                       try clear p2
                       try clear p6
                       try clear p64
                       try clear q1
                       try clear q19
                       try clear q194
                       try clear q195
                       obtain ⟨kq, x108_73, rfl, HA, HJ73, BK191, BK192, HB⟩ := hcut
                       cases kq with
                       | zero => exact absurd HA.out (by simp [catchmentref21_Ask.j7])
                       | succ kj73 =>
                        have H := HA.out
                        clear HA
                        simp only [catchmentref21_Ask.j7] at H
                        by_cases c80 : x108_73 = true
                        ·subst c80
                         have H1 : (some 7) = some r := by rw [if_pos rfl] at H; exact H
                         clear H
                         have H := H1
                         clear H1
                         obtain rfl := Option.some.inj H
                         go_wp2
                         go_ret
                         exact ⟨by first | rfl | (simp [errW_none, errW_some] <;> rfl) | (simp [*, errW_none, errW_some] <;> rfl), by repeat (first | (with_reducible first | exact HB.out | apply wA | apply wN | apply w1 | refine wS ?_ GE191.out | refine wS ?_ GE192.out) | exact HB.out)⟩
                        ·replace c80 := Bool.eq_false_iff.mpr c80
                         subst c80
                         have H1 : (if a0_0 = 3 then (if a0_3 < 1 then (some 4) else (if a0_3 > a1_8 then (some 4) else (some 0))) else (some 0)) = some r := by rw [if_neg (show ¬ (false = true) by decide)] at H; exact H
                         clear H
                         have H := H1
                         clear H1
                         by_cases c81 : a0_0 = 3
                         ·rw [if_pos c81] at H
                          have c81b0 : (a0_0 == 3) = true := beq_iff_eq.mpr c81
                          have c81b1 : (a0_0 != 3) = false := bne_eq_false_iff_eq.mpr c81
                          clear c81
                          by_cases c82 : a0_3 < 1
                          ·rw [if_pos c82] at H
                           have c82b0 : decide (a0_3 < 1) = true := decide_eq_true c82
                           clear c82
                           obtain rfl := Option.some.inj H
                           have hnb83 := NB191_192.out
                           have hnc83 := NB192_191.out
                           have hcz84_0 : wc.cell? ⟨gb191, 0, none⟩ = some (.int .u8 a0_0) := (bC BK191.out 0).trans rfl
                           have hcz84_1 : wc.cell? ⟨gb191, 1, none⟩ = some (.string a0_1) := (bC BK191.out 1).trans rfl
                           have hcz84_2 : wc.cell? ⟨gb191, 2, none⟩ = some (.string a0_2) := (bC BK191.out 2).trans rfl
                           have hcz84_3 : wc.cell? ⟨gb191, 3, none⟩ = some (.int .i64 a0_3) := (bC BK191.out 3).trans rfl
                           have hcz84_4 : wc.cell? ⟨gb191, 4, none⟩ = some (.slice A0_4 l0_4.length c0_4) := (bC BK191.out 4).trans rfl
                           have hfz84_0 := bF BK191.out 0
                           have hfz84_1 := bF BK191.out 1
                           have hfz84_2 := bF BK191.out 2
                           have hfz84_3 := bF BK191.out 3
                           have hfz84_4 := bF BK191.out 4
                           go_wp2
                           go_ret
                           exact ⟨by first | rfl | (simp [errW_none, errW_some] <;> rfl) | (simp [*, errW_none, errW_some] <;> rfl), by repeat (first | (with_reducible first | exact HB.out | apply wA | apply wN | apply w1 | refine wS ?_ GE191.out | refine wS ?_ GE192.out) | exact HB.out)⟩
                          ·rw [if_neg c82] at H
                           have c82b0 : decide (a0_3 < 1) = false := decide_eq_false c82
                           clear c82
                           by_cases c85 : a0_3 > a1_8
                           ·rw [if_pos c85] at H
                            have c85b0 : decide (a1_8 < a0_3) = true := decide_eq_true c85
                            clear c85
                            obtain rfl := Option.some.inj H
                            have hnb86 := NB191_192.out
                            have hnc86 := NB192_191.out
                            have hcz87_0 : wc.cell? ⟨gb191, 0, none⟩ = some (.int .u8 a0_0) := (bC BK191.out 0).trans rfl
                            have hcz87_1 : wc.cell? ⟨gb191, 1, none⟩ = some (.string a0_1) := (bC BK191.out 1).trans rfl
                            have hcz87_2 : wc.cell? ⟨gb191, 2, none⟩ = some (.string a0_2) := (bC BK191.out 2).trans rfl
                            have hcz87_3 : wc.cell? ⟨gb191, 3, none⟩ = some (.int .i64 a0_3) := (bC BK191.out 3).trans rfl
                            have hcz87_4 : wc.cell? ⟨gb191, 4, none⟩ = some (.slice A0_4 l0_4.length c0_4) := (bC BK191.out 4).trans rfl
                            have hfz87_0 := bF BK191.out 0
                            have hfz87_1 := bF BK191.out 1
                            have hfz87_2 := bF BK191.out 2
                            have hfz87_3 := bF BK191.out 3
                            have hfz87_4 := bF BK191.out 4
                            have hcz88_0 : wc.cell? ⟨gb192, 0, none⟩ = some (.int .i64 a1_0) := (bC BK192.out 0).trans rfl
                            have hcz88_1 : wc.cell? ⟨gb192, 1, none⟩ = some (.int .i64 a1_1) := (bC BK192.out 1).trans rfl
                            have hcz88_2 : wc.cell? ⟨gb192, 2, none⟩ = some (.int .i64 a1_2) := (bC BK192.out 2).trans rfl
                            have hcz88_3 : wc.cell? ⟨gb192, 3, none⟩ = some (.int .i64 a1_3) := (bC BK192.out 3).trans rfl
                            have hcz88_4 : wc.cell? ⟨gb192, 4, none⟩ = some (.int .i64 a1_4) := (bC BK192.out 4).trans rfl
                            have hcz88_5 : wc.cell? ⟨gb192, 5, none⟩ = some (.int .i64 a1_5) := (bC BK192.out 5).trans rfl
                            have hcz88_6 : wc.cell? ⟨gb192, 6, none⟩ = some (.int .i64 a1_6) := (bC BK192.out 6).trans rfl
                            have hcz88_7 : wc.cell? ⟨gb192, 7, none⟩ = some (.int .i64 a1_7) := (bC BK192.out 7).trans rfl
                            have hcz88_8 : wc.cell? ⟨gb192, 8, none⟩ = some (.int .i64 a1_8) := (bC BK192.out 8).trans rfl
                            have hfz88_0 := bF BK192.out 0
                            have hfz88_1 := bF BK192.out 1
                            have hfz88_2 := bF BK192.out 2
                            have hfz88_3 := bF BK192.out 3
                            have hfz88_4 := bF BK192.out 4
                            have hfz88_5 := bF BK192.out 5
                            have hfz88_6 := bF BK192.out 6
                            have hfz88_7 := bF BK192.out 7
                            have hfz88_8 := bF BK192.out 8
                            go_wp2
                            go_ret
                            exact ⟨by first | rfl | (simp [errW_none, errW_some] <;> rfl) | (simp [*, errW_none, errW_some] <;> rfl), by repeat (first | (with_reducible first | exact HB.out | apply wA | apply wN | apply w1 | refine wS ?_ GE191.out | refine wS ?_ GE192.out) | exact HB.out)⟩
                           ·rw [if_neg c85] at H
                            have c85b0 : decide (a1_8 < a0_3) = false := decide_eq_false c85
                            clear c85
                            obtain rfl := Option.some.inj H
                            have hnb89 := NB191_192.out
                            have hnc89 := NB192_191.out
                            have hcz90_0 : wc.cell? ⟨gb191, 0, none⟩ = some (.int .u8 a0_0) := (bC BK191.out 0).trans rfl
                            have hcz90_1 : wc.cell? ⟨gb191, 1, none⟩ = some (.string a0_1) := (bC BK191.out 1).trans rfl
                            have hcz90_2 : wc.cell? ⟨gb191, 2, none⟩ = some (.string a0_2) := (bC BK191.out 2).trans rfl
                            have hcz90_3 : wc.cell? ⟨gb191, 3, none⟩ = some (.int .i64 a0_3) := (bC BK191.out 3).trans rfl
                            have hcz90_4 : wc.cell? ⟨gb191, 4, none⟩ = some (.slice A0_4 l0_4.length c0_4) := (bC BK191.out 4).trans rfl
                            have hfz90_0 := bF BK191.out 0
                            have hfz90_1 := bF BK191.out 1
                            have hfz90_2 := bF BK191.out 2
                            have hfz90_3 := bF BK191.out 3
                            have hfz90_4 := bF BK191.out 4
                            have hcz91_0 : wc.cell? ⟨gb192, 0, none⟩ = some (.int .i64 a1_0) := (bC BK192.out 0).trans rfl
                            have hcz91_1 : wc.cell? ⟨gb192, 1, none⟩ = some (.int .i64 a1_1) := (bC BK192.out 1).trans rfl
                            have hcz91_2 : wc.cell? ⟨gb192, 2, none⟩ = some (.int .i64 a1_2) := (bC BK192.out 2).trans rfl
                            have hcz91_3 : wc.cell? ⟨gb192, 3, none⟩ = some (.int .i64 a1_3) := (bC BK192.out 3).trans rfl
                            have hcz91_4 : wc.cell? ⟨gb192, 4, none⟩ = some (.int .i64 a1_4) := (bC BK192.out 4).trans rfl
                            have hcz91_5 : wc.cell? ⟨gb192, 5, none⟩ = some (.int .i64 a1_5) := (bC BK192.out 5).trans rfl
                            have hcz91_6 : wc.cell? ⟨gb192, 6, none⟩ = some (.int .i64 a1_6) := (bC BK192.out 6).trans rfl
                            have hcz91_7 : wc.cell? ⟨gb192, 7, none⟩ = some (.int .i64 a1_7) := (bC BK192.out 7).trans rfl
                            have hcz91_8 : wc.cell? ⟨gb192, 8, none⟩ = some (.int .i64 a1_8) := (bC BK192.out 8).trans rfl
                            have hfz91_0 := bF BK192.out 0
                            have hfz91_1 := bF BK192.out 1
                            have hfz91_2 := bF BK192.out 2
                            have hfz91_3 := bF BK192.out 3
                            have hfz91_4 := bF BK192.out 4
                            have hfz91_5 := bF BK192.out 5
                            have hfz91_6 := bF BK192.out 6
                            have hfz91_7 := bF BK192.out 7
                            have hfz91_8 := bF BK192.out 8
                            go_wp2
                            go_ret
                            exact ⟨by first | rfl | (simp [errW_none, errW_some] <;> rfl) | (simp [*, errW_none, errW_some] <;> rfl), by repeat (first | (with_reducible first | exact HB.out | apply wA | apply wN | apply w1 | refine wS ?_ GE191.out | refine wS ?_ GE192.out) | exact HB.out)⟩
                         ·rw [if_neg c81] at H
                          have c81b0 : (a0_0 == 3) = false := beq_eq_false_iff_ne.mpr c81
                          have c81b1 : (a0_0 != 3) = true := bne_iff_ne.mpr c81
                          obtain rfl := Option.some.inj H
                          have hnb92 := NB191_192.out
                          have hnc92 := NB192_191.out
                          have hcz93_0 : wc.cell? ⟨gb191, 0, none⟩ = some (.int .u8 a0_0) := (bC BK191.out 0).trans rfl
                          have hcz93_1 : wc.cell? ⟨gb191, 1, none⟩ = some (.string a0_1) := (bC BK191.out 1).trans rfl
                          have hcz93_2 : wc.cell? ⟨gb191, 2, none⟩ = some (.string a0_2) := (bC BK191.out 2).trans rfl
                          have hcz93_3 : wc.cell? ⟨gb191, 3, none⟩ = some (.int .i64 a0_3) := (bC BK191.out 3).trans rfl
                          have hcz93_4 : wc.cell? ⟨gb191, 4, none⟩ = some (.slice A0_4 l0_4.length c0_4) := (bC BK191.out 4).trans rfl
                          have hfz93_0 := bF BK191.out 0
                          have hfz93_1 := bF BK191.out 1
                          have hfz93_2 := bF BK191.out 2
                          have hfz93_3 := bF BK191.out 3
                          have hfz93_4 := bF BK191.out 4
                          go_wp2
                          go_ret
                          exact ⟨by first | rfl | (simp [errW_none, errW_some] <;> rfl) | (simp [*, errW_none, errW_some] <;> rfl), by repeat (first | (with_reducible first | exact HB.out | apply wA | apply wN | apply w1 | refine wS ?_ GE191.out | refine wS ?_ GE192.out) | exact HB.out)⟩

end Go.Proofs.Ythofdhodgipifaa.P
