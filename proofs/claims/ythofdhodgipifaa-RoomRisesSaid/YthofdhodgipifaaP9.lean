-- Laid for this claim by a program of this seat's own (wip/tools/pp.py) out of the translation's print. Lean checks it.
import Derived.Test.YthofdhodgipifaaP0
import Derived.Test.YthofdhodgipifaaP8
namespace Go.Proofs.Ythofdhodgipifaa.P
open Go.RowKit Go.Proofs.YthofdhodgipifaaW.PrintWords Go.Proofs.YthofdhodgipifaaW.PrintLast Go.Proofs.YthofdhodgipifaaW.PrintMore Go.Proofs.Ythofdhodgipifaa.Own
open Go.Proofs.YthofdhodgipifaaW.PrintWords renaming blk_cell → bC, blk_frozen → bF, blk_drewN → bN, blk_alloc → bA, pw_below_drewN → wN, blk_drew → bD, below_drew1 → w1, below_set → wS, below_alloc → wA, blk_below → bB, below_step → wT, below_size → wZ
open List renaming setIfInBounds_toArray → sA1, set_cons_zero → sA2, set_cons_succ → sA3
attribute [local go_sem] max2_str max2_int min2_int max_two min_two max_three min_three max_four min_four   -- for this text's walks alone
set_option linter.unusedVariables false
set_option linter.unusedSimpArgs false

/-! ### catchmentref04_Check: function 18 -/
mutual
def catchmentref04_Check.j0 : Nat → Bool → Int → Int → ByteArray → ByteArray → ByteArray → Int → Int → Int → Int → Int → Int → Int → Int → Int → Int → Option (Int)
 | 0, _, _, _, _, _, _, _, _, _, _, _, _, _, _, _, _ => none
 | k + 1, x5, x189000, x189001, x189002, x189003, x189004, x189005, x190000, x190001, x190002, x190003, x190004, x190005, x190006, x190007, x190008 => if x5 = true then (catchmentref04_Check.j1 k true x189000 x189001 x189002 x189003 x189004 x189005 x190000 x190001 x190002 x190003 x190004 x190005 x190006 x190007 x190008) else (if x189000 = 1 then (catchmentref04_Check.j1 k false x189000 x189001 x189002 x189003 x189004 x189005 x190000 x190001 x190002 x190003 x190004 x190005 x190006 x190007 x190008) else (catchmentref04_Check.j1 k (x189004.toList != ([] : List UInt8)) x189000 x189001 x189002 x189003 x189004 x189005 x190000 x190001 x190002 x190003 x190004 x190005 x190006 x190007 x190008))
def catchmentref04_Check.j1 : Nat → Bool → Int → Int → ByteArray → ByteArray → ByteArray → Int → Int → Int → Int → Int → Int → Int → Int → Int → Int → Option (Int)
 | 0, _, _, _, _, _, _, _, _, _, _, _, _, _, _, _, _ => none
 | k + 1, x5, x189000, x189001, x189002, x189003, x189004, x189005, x190000, x190001, x190002, x190003, x190004, x190005, x190006, x190007, x190008 => if x5 = true then (catchmentref04_Check.j2 k true x189000 x189001 x189002 x189003 x189004 x189005 x190000 x190001 x190002 x190003 x190004 x190005 x190006 x190007 x190008) else (if x189000 = 3 then (catchmentref04_Check.j2 k false x189000 x189001 x189002 x189003 x189004 x189005 x190000 x190001 x190002 x190003 x190004 x190005 x190006 x190007 x190008) else (catchmentref04_Check.j2 k (x189005 != 0) x189000 x189001 x189002 x189003 x189004 x189005 x190000 x190001 x190002 x190003 x190004 x190005 x190006 x190007 x190008))
def catchmentref04_Check.j2 : Nat → Bool → Int → Int → ByteArray → ByteArray → ByteArray → Int → Int → Int → Int → Int → Int → Int → Int → Int → Int → Option (Int)
 | 0, _, _, _, _, _, _, _, _, _, _, _, _, _, _, _, _ => none
 | k + 1, x5, x189000, x189001, x189002, x189003, x189004, x189005, x190000, x190001, x190002, x190003, x190004, x190005, x190006, x190007, x190008 => if x5 = true then (catchmentref04_Check.j3 k true x189000 x189001 x189002 x189003 x189004 x189005 x190000 x190001 x190002 x190003 x190004 x190005 x190006 x190007 x190008) else (if x189000 = 4 then (catchmentref04_Check.j3 k false x189000 x189001 x189002 x189003 x189004 x189005 x190000 x190001 x190002 x190003 x190004 x190005 x190006 x190007 x190008) else (catchmentref04_Check.j3 k (x189003.toList != ([] : List UInt8)) x189000 x189001 x189002 x189003 x189004 x189005 x190000 x190001 x190002 x190003 x190004 x190005 x190006 x190007 x190008))
def catchmentref04_Check.j3 : Nat → Bool → Int → Int → ByteArray → ByteArray → ByteArray → Int → Int → Int → Int → Int → Int → Int → Int → Int → Int → Option (Int)
 | 0, _, _, _, _, _, _, _, _, _, _, _, _, _, _, _, _ => none
 | k + 1, x5, x189000, x189001, x189002, x189003, x189004, x189005, x190000, x190001, x190002, x190003, x190004, x190005, x190006, x190007, x190008 => if x5 = true then (some 3) else (if (x189002.size : Int) > x190000 then (catchmentref04_Check.j4 k true x189000 x189001 x189002 x189003 x189004 x189005) else (if (x189003.size : Int) > x190000 then (catchmentref04_Check.j4 k true x189000 x189001 x189002 x189003 x189004 x189005) else ((catchmentref04_Point.f x189000 x189001 x189002 x189003 x189004 x189005).bind fun t190 => (if t190 = true then (if x189002.toList = ([] : List UInt8) then (catchmentref04_Check.j4 k true x189000 x189001 x189002 x189003 x189004 x189005) else (if x189000 = 1 then (catchmentref04_Check.j4 k (decide ((x189004.size : Int) > x190001)) x189000 x189001 x189002 x189003 x189004 x189005) else (catchmentref04_Check.j4 k false x189000 x189001 x189002 x189003 x189004 x189005))) else (if x189000 = 1 then (catchmentref04_Check.j4 k (decide ((x189004.size : Int) > x190001)) x189000 x189001 x189002 x189003 x189004 x189005) else (catchmentref04_Check.j4 k false x189000 x189001 x189002 x189003 x189004 x189005))))))
def catchmentref04_Check.j4 : Nat → Bool → Int → Int → ByteArray → ByteArray → ByteArray → Int → Option (Int)
 | 0, _, _, _, _, _, _, _ => none
 | k + 1, x83, x189000, x189001, x189002, x189003, x189004, x189005 => if x83 = true then (some 6) else (if x189000 = 4 then (if x189003.toList = ([] : List UInt8) then (some 0) else (if ((Op.bytesLess x189002.toList x189003.toList) = true) then (some 0) else (some 7))) else (some 0))
end
def catchmentref04_Check.f (k : Nat) (a0_0 : Int) (a0_1 : Int) (a0_2 : BA) (a0_3 : BA) (a0_4 : BA) (a0_5 : Int) (a1_0 : Int) (a1_1 : Int) (a1_2 : Int) (a1_3 : Int) (a1_4 : Int) (a1_5 : Int) (a1_6 : Int) (a1_7 : Int) (a1_8 : Int) : Option (Int) := if a0_0 < 1 then (catchmentref04_Check.j0 k true a0_0 a0_1 a0_2 a0_3 a0_4 a0_5 a1_0 a1_1 a1_2 a1_3 a1_4 a1_5 a1_6 a1_7 a1_8) else (catchmentref04_Check.j0 k (decide (a0_0 > 4)) a0_0 a0_1 a0_2 a0_3 a0_4 a0_5 a1_0 a1_1 a1_2 a1_3 a1_4 a1_5 a1_6 a1_7 a1_8)
set_option maxHeartbeats 8000000 in
set_option maxRecDepth 100000 in
theorem catchmentref04_Check.calls (k : Nat) (a0_0 : Int) (a0_1 : Int) (a0_2 : BA) (a0_3 : BA) (a0_4 : BA) (a0_5 : Int) (a1_0 : Int) (a1_1 : Int) (a1_2 : Int) (a1_3 : Int) (a1_4 : Int) (a1_5 : Int) (a1_6 : Int) (a1_7 : Int) (a1_8 : Int) (r : Int) (w : World) (h : catchmentref04_Check.f k a0_0 a0_1 a0_2 a0_3 a0_4 a0_5 a1_0 a1_1 a1_2 a1_3 a1_4 a1_5 a1_6 a1_7 a1_8 = some r) :
  Calls Try.prog 18 #[.agg #[.int .u8 a0_0, .int .i64 a0_1, .string a0_2, .string a0_3, .string a0_4, .int .u64 a0_5], .agg #[.int .i64 a1_0, .int .i64 a1_1, .int .i64 a1_2, .int .i64 a1_3, .int .i64 a1_4, .int .i64 a1_5, .int .i64 a1_6, .int .i64 a1_7, .int .i64 a1_8]] w fun e w' => e = .returned (.int .i64 r) ∧ Below w.heap.size w w' := by
 have hu47 := Try.underlying47
 have hu23 := Try.underlying23
 have HB := Aside0.mk (Below.refl w.heap.size w)
 have H : (if a0_0 < 1 then (catchmentref04_Check.j0 k true a0_0 a0_1 a0_2 a0_3 a0_4 a0_5 a1_0 a1_1 a1_2 a1_3 a1_4 a1_5 a1_6 a1_7 a1_8) else (catchmentref04_Check.j0 k (decide (a0_0 > 4)) a0_0 a0_1 a0_2 a0_3 a0_4 a0_5 a1_0 a1_1 a1_2 a1_3 a1_4 a1_5 a1_6 a1_7 a1_8)) = some r := h
 clear h
 have HC3 := Aside0.mk H
 clear H
 go_enter Try.func18, Try.ntmps18
 go_upto_region 1 with (first | ((with_reducible refine gate_dst (N := 2) rfl ?_); (try (refine gate_guard (by rfl) ?_; dsimp only)); refine box_event ?hg (N := 2) ?hd (cs := #[.int .u8 a0_0, .int .i64 a0_1, .string a0_2, .string a0_3, .string a0_4, .int .u64 a0_5]) (t := 47) ?hr ?_; (case hd => rfl); (case hg => rfl); (case hr => first | (go_simp; done) | (go_simp; rfl)); intro gb188 hg w4 hbox hb; have n0_ := Aside0.mk (wT (by repeat (first | (with_reducible first | exact HB.out | apply wA | apply wN | apply w1) | exact HB.out)) hb); have n1_ := Aside0.mk (hbox); have n2_ := Aside0.mk ((by rw [hg]; exact (wZ (by repeat (first | (with_reducible first | exact HB.out | apply wA | apply wN | apply w1) | exact HB.out))) : w.heap.size ≤ gb188)); have n3_ := Aside0.mk ((by rw [hg]; exact (wZ (by repeat (first | (with_reducible first | exact HB.out | apply wA | apply wN | apply w1) | exact HB.out))) : w.heap.size ≤ gb188)); clear HB; have HB := n0_; have BK188 := n1_; have GW188 := n2_; have GE188 := n3_; clear n0_ n1_ n2_ n3_; clear hb hbox hg) | ((with_reducible refine gate_dst (N := 3) rfl ?_); (try (refine gate_guard (by rfl) ?_; dsimp only)); refine box_event ?hg (N := 3) ?hd (cs := #[.int .i64 a1_0, .int .i64 a1_1, .int .i64 a1_2, .int .i64 a1_3, .int .i64 a1_4, .int .i64 a1_5, .int .i64 a1_6, .int .i64 a1_7, .int .i64 a1_8]) (t := 23) ?hr ?_; (case hd => rfl); (case hg => rfl); (case hr => first | (go_simp; done) | (go_simp; rfl)); intro gb189 hg w5 hbox hb; have n0_ := Aside0.mk (bB (g := gb188) (o := .cells #[.int .u8 a0_0, .int .i64 a0_1, .string a0_2, .string a0_3, .string a0_4, .int .u64 a0_5] 47 (0, 0)) (by (with_reducible repeat (first | refine bN ?_ _ | refine bD ?_ | refine bA ?_ _)); exact BK188.out) hb); have n1_ := Aside0.mk (wT (by repeat (first | (with_reducible first | exact HB.out | apply wA | apply wN | apply w1 | refine wS ?_ GE188.out) | exact HB.out)) hb); have n2_ := Aside0.mk (hbox); have n3_ := Aside0.mk ((by rw [hg]; exact (wZ (by repeat (first | (with_reducible first | exact HB.out | apply wA | apply wN | apply w1 | refine wS ?_ GE188.out) | exact HB.out))) : w.heap.size ≤ gb189)); have n4_ := Aside0.mk ((by rw [hg]; exact (wZ (by repeat (first | (with_reducible first | exact HB.out | apply wA | apply wN | apply w1 | refine wS ?_ GE188.out) | exact HB.out))) : w.heap.size ≤ gb189)); have n5_ := Aside0.mk ((by rw [hg]; exact Nat.ne_of_lt (blk_lt (g := gb188) (o := .cells #[.int .u8 a0_0, .int .i64 a0_1, .string a0_2, .string a0_3, .string a0_4, .int .u64 a0_5] 47 (0, 0)) (by (with_reducible repeat (first | refine bN ?_ _ | refine bD ?_ | refine bA ?_ _)); exact BK188.out)) : gb188 ≠ gb189)); have n6_ := Aside0.mk ((by rw [hg]; exact Nat.ne_of_gt (blk_lt (g := gb188) (o := .cells #[.int .u8 a0_0, .int .i64 a0_1, .string a0_2, .string a0_3, .string a0_4, .int .u64 a0_5] 47 (0, 0)) (by (with_reducible repeat (first | refine bN ?_ _ | refine bD ?_ | refine bA ?_ _)); exact BK188.out)) : gb189 ≠ gb188)); clear BK188; clear HB; have BK188 := n0_; have HB := n1_; have BK189 := n2_; have GW189 := n3_; have GE189 := n4_; have NB188_189 := n5_; have NB189_188 := n6_; clear n0_ n1_ n2_ n3_ n4_ n5_ n6_; clear hb hbox hg))
 (try simp only [Act.put, sA1, sA2, sA3])
 go_cut [5] (fun v5 wc => ∃ (kq : Nat) (x5_2 : Bool), v5 = .bool x5_2 ∧ Aside0 (catchmentref04_Check.j0 kq x5_2 a0_0 a0_1 a0_2 a0_3 a0_4 a0_5 a1_0 a1_1 a1_2 a1_3 a1_4 a1_5 a1_6 a1_7 a1_8 = some r) ∧ Aside0 (kq ≤ k) ∧ Aside0 (wc.heap[gb188]? = some (.cells #[.int .u8 a0_0, .int .i64 a0_1, .string a0_2, .string a0_3, .string a0_4, .int .u64 a0_5] 47 (0, 0))) ∧ Aside0 (wc.heap[gb189]? = some (.cells #[.int .i64 a1_0, .int .i64 a1_1, .int .i64 a1_2, .int .i64 a1_3, .int .i64 a1_4, .int .i64 a1_5, .int .i64 a1_6, .int .i64 a1_7, .int .i64 a1_8] 23 (0, 0))) ∧ Aside0 (Below w.heap.size w wc))
 case first =>
  have H := HC3.out
  clear HC3
  by_cases c6 : a0_0 < 1
  ·rw [if_pos c6] at H
   have c6b0 : decide (a0_0 < 1) = true := decide_eq_true c6
   clear c6
   (first | rw [c6b0] | (simp only [i64_w, i32_w]; rw [c6b0]) | skip)
   have H' := Aside0.mk H
   clear H
   have hnb7 := NB188_189.out
   have hnc7 := NB189_188.out
   have hcz8_0 : w5.cell? ⟨gb188, 0, none⟩ = some (.int .u8 a0_0) := (bC BK188.out 0).trans rfl
   have hcz8_1 : w5.cell? ⟨gb188, 1, none⟩ = some (.int .i64 a0_1) := (bC BK188.out 1).trans rfl
   have hcz8_2 : w5.cell? ⟨gb188, 2, none⟩ = some (.string a0_2) := (bC BK188.out 2).trans rfl
   have hcz8_3 : w5.cell? ⟨gb188, 3, none⟩ = some (.string a0_3) := (bC BK188.out 3).trans rfl
   have hcz8_4 : w5.cell? ⟨gb188, 4, none⟩ = some (.string a0_4) := (bC BK188.out 4).trans rfl
   have hcz8_5 : w5.cell? ⟨gb188, 5, none⟩ = some (.int .u64 a0_5) := (bC BK188.out 5).trans rfl
   have hfz8_0 := bF BK188.out 0
   have hfz8_1 := bF BK188.out 1
   have hfz8_2 := bF BK188.out 2
   have hfz8_3 := bF BK188.out 3
   have hfz8_4 := bF BK188.out 4
   have hfz8_5 := bF BK188.out 5
   go_wp2
   go_meet
   case rel => exact ⟨_, (true), (by first | rfl | (simp; done) | (simp [*]; done)), H', ⟨by first | omega | exact Nat.le_refl _⟩, ⟨by (with_reducible repeat (first | refine bN ?_ _ | refine bD ?_ | refine bA ?_ _)); exact BK188.out⟩, ⟨by (with_reducible repeat (first | refine bN ?_ _ | refine bD ?_ | refine bA ?_ _)); exact BK189.out⟩, ⟨by repeat (first | (with_reducible first | exact HB.out | apply wA | apply wN | apply w1 | refine wS ?_ GE188.out | refine wS ?_ GE189.out) | exact HB.out)⟩⟩
  ·rw [if_neg c6] at H
   have c6b0 : decide (a0_0 < 1) = false := decide_eq_false c6
   clear c6
   (first | rw [c6b0] | (simp only [i64_w, i32_w]; rw [c6b0]) | skip)
   have H' := Aside0.mk H
   clear H
   have hnb9 := NB188_189.out
   have hnc9 := NB189_188.out
   have hcz10_0 : w5.cell? ⟨gb188, 0, none⟩ = some (.int .u8 a0_0) := (bC BK188.out 0).trans rfl
   have hcz10_1 : w5.cell? ⟨gb188, 1, none⟩ = some (.int .i64 a0_1) := (bC BK188.out 1).trans rfl
   have hcz10_2 : w5.cell? ⟨gb188, 2, none⟩ = some (.string a0_2) := (bC BK188.out 2).trans rfl
   have hcz10_3 : w5.cell? ⟨gb188, 3, none⟩ = some (.string a0_3) := (bC BK188.out 3).trans rfl
   have hcz10_4 : w5.cell? ⟨gb188, 4, none⟩ = some (.string a0_4) := (bC BK188.out 4).trans rfl
   have hcz10_5 : w5.cell? ⟨gb188, 5, none⟩ = some (.int .u64 a0_5) := (bC BK188.out 5).trans rfl
   have hfz10_0 := bF BK188.out 0
   have hfz10_1 := bF BK188.out 1
   have hfz10_2 := bF BK188.out 2
   have hfz10_3 := bF BK188.out 3
   have hfz10_4 := bF BK188.out 4
   have hfz10_5 := bF BK188.out 5
   go_wp2
   go_meet
   case rel => exact ⟨_, (decide (a0_0 > 4)), (by first | rfl | (simp; done) | (simp [*]; done)), H', ⟨by first | omega | exact Nat.le_refl _⟩, ⟨by (with_reducible repeat (first | refine bN ?_ _ | refine bD ?_ | refine bA ?_ _)); exact BK188.out⟩, ⟨by (with_reducible repeat (first | refine bN ?_ _ | refine bD ?_ | refine bA ?_ _)); exact BK189.out⟩, ⟨by repeat (first | (with_reducible first | exact HB.out | apply wA | apply wN | apply w1 | refine wS ?_ GE188.out | refine wS ?_ GE189.out) | exact HB.out)⟩⟩
 case rest =>
  clear HC3
  try clear c1
  try clear p2
  try clear c6
  try clear c6b0
  try clear c7
  try clear c9
  try clear hcz10_0
  try clear hcz10_1
  try clear hcz10_2
  try clear hcz10_3
  try clear hcz10_4
  try clear hcz10_5
  try clear hcz8_0
  try clear hcz8_1
  try clear hcz8_2
  try clear hcz8_3
  try clear hcz8_4
  try clear hcz8_5
  try clear hfz10_0
  try clear hfz10_1
  try clear hfz10_2
  try clear hfz10_3
  try clear hfz10_4
  try clear hfz10_5
  try clear hfz8_0
  try clear hfz8_1
  try clear hfz8_2
  try clear hfz8_3
  try clear hfz8_4
  try clear hfz8_5
  obtain ⟨kq, x5_2, rfl, HA, HJ2, BK188, BK189, HB⟩ := hcut
  cases kq with
  | zero => exact absurd HA.out (by simp [catchmentref04_Check.j0])
  | succ kj2 =>
   have H := HA.out
   clear HA
   simp only [catchmentref04_Check.j0] at H
   have HC11 := Aside0.mk H
   clear H
   go_upto_region 2 with (fail)
   go_cut [5] (fun v5 wc => ∃ (kq : Nat) (x5_10 : Bool), v5 = .bool x5_10 ∧ Aside0 (catchmentref04_Check.j1 kq x5_10 a0_0 a0_1 a0_2 a0_3 a0_4 a0_5 a1_0 a1_1 a1_2 a1_3 a1_4 a1_5 a1_6 a1_7 a1_8 = some r) ∧ Aside0 (kq ≤ kj2) ∧ Aside0 (wc.heap[gb188]? = some (.cells #[.int .u8 a0_0, .int .i64 a0_1, .string a0_2, .string a0_3, .string a0_4, .int .u64 a0_5] 47 (0, 0))) ∧ Aside0 (wc.heap[gb189]? = some (.cells #[.int .i64 a1_0, .int .i64 a1_1, .int .i64 a1_2, .int .i64 a1_3, .int .i64 a1_4, .int .i64 a1_5, .int .i64 a1_6, .int .i64 a1_7, .int .i64 a1_8] 23 (0, 0))) ∧ Aside0 (Below w.heap.size w wc))
   case first =>
    have H := HC11.out
    clear HC11
    by_cases c12 : x5_2 = true
    ·subst c12
     have H1 : (catchmentref04_Check.j1 kj2 true a0_0 a0_1 a0_2 a0_3 a0_4 a0_5 a1_0 a1_1 a1_2 a1_3 a1_4 a1_5 a1_6 a1_7 a1_8) = some r := by rw [if_pos rfl] at H; exact H
     clear H
     have H := H1
     clear H1
     have H' := Aside0.mk H
     clear H
     go_wp2
     go_meet
     case rel => exact ⟨_, (true), (by first | rfl | (simp; done) | (simp [*]; done)), H', ⟨by have := HJ2.out; first | omega | exact Nat.le_refl _⟩, ⟨by (with_reducible repeat (first | refine bN ?_ _ | refine bD ?_ | refine bA ?_ _)); exact BK188.out⟩, ⟨by (with_reducible repeat (first | refine bN ?_ _ | refine bD ?_ | refine bA ?_ _)); exact BK189.out⟩, ⟨by repeat (first | (with_reducible first | exact HB.out | apply wA | apply wN | apply w1 | refine wS ?_ GE188.out | refine wS ?_ GE189.out) | exact HB.out)⟩⟩
    ·replace c12 := Bool.eq_false_iff.mpr c12
     subst c12
     have H1 : (if a0_0 = 1 then (catchmentref04_Check.j1 kj2 false a0_0 a0_1 a0_2 a0_3 a0_4 a0_5 a1_0 a1_1 a1_2 a1_3 a1_4 a1_5 a1_6 a1_7 a1_8) else (catchmentref04_Check.j1 kj2 (a0_4.toList != ([] : List UInt8)) a0_0 a0_1 a0_2 a0_3 a0_4 a0_5 a1_0 a1_1 a1_2 a1_3 a1_4 a1_5 a1_6 a1_7 a1_8)) = some r := by rw [if_neg (show ¬ (false = true) by decide)] at H; exact H
     clear H
     have H := H1
     clear H1
     by_cases c13 : a0_0 = 1
     ·rw [if_pos c13] at H
      have c13b0 : (a0_0 == 1) = true := beq_iff_eq.mpr c13
      have c13b1 : (a0_0 != 1) = false := bne_eq_false_iff_eq.mpr c13
      clear c13
      (first | rw [c13b0] | (simp only [i64_w, i32_w]; rw [c13b0]) | skip)
      have H' := Aside0.mk H
      clear H
      have hnb14 := NB188_189.out
      have hnc14 := NB189_188.out
      have hcz15_0 : wc.cell? ⟨gb188, 0, none⟩ = some (.int .u8 a0_0) := (bC BK188.out 0).trans rfl
      have hcz15_1 : wc.cell? ⟨gb188, 1, none⟩ = some (.int .i64 a0_1) := (bC BK188.out 1).trans rfl
      have hcz15_2 : wc.cell? ⟨gb188, 2, none⟩ = some (.string a0_2) := (bC BK188.out 2).trans rfl
      have hcz15_3 : wc.cell? ⟨gb188, 3, none⟩ = some (.string a0_3) := (bC BK188.out 3).trans rfl
      have hcz15_4 : wc.cell? ⟨gb188, 4, none⟩ = some (.string a0_4) := (bC BK188.out 4).trans rfl
      have hcz15_5 : wc.cell? ⟨gb188, 5, none⟩ = some (.int .u64 a0_5) := (bC BK188.out 5).trans rfl
      have hfz15_0 := bF BK188.out 0
      have hfz15_1 := bF BK188.out 1
      have hfz15_2 := bF BK188.out 2
      have hfz15_3 := bF BK188.out 3
      have hfz15_4 := bF BK188.out 4
      have hfz15_5 := bF BK188.out 5
      go_wp2
      go_meet
      case rel => exact ⟨_, (false), (by first | rfl | (simp; done) | (simp [*]; done)), H', ⟨by have := HJ2.out; first | omega | exact Nat.le_refl _⟩, ⟨by (with_reducible repeat (first | refine bN ?_ _ | refine bD ?_ | refine bA ?_ _)); exact BK188.out⟩, ⟨by (with_reducible repeat (first | refine bN ?_ _ | refine bD ?_ | refine bA ?_ _)); exact BK189.out⟩, ⟨by repeat (first | (with_reducible first | exact HB.out | apply wA | apply wN | apply w1 | refine wS ?_ GE188.out | refine wS ?_ GE189.out) | exact HB.out)⟩⟩
     ·rw [if_neg c13] at H
      have c13b0 : (a0_0 == 1) = false := beq_eq_false_iff_ne.mpr c13
      have c13b1 : (a0_0 != 1) = true := bne_iff_ne.mpr c13
      (first | rw [c13b0] | (simp only [i64_w, i32_w]; rw [c13b0]) | skip)
      have H' := Aside0.mk H
      clear H
      have hnb16 := NB188_189.out
      have hnc16 := NB189_188.out
      have hcz17_0 : wc.cell? ⟨gb188, 0, none⟩ = some (.int .u8 a0_0) := (bC BK188.out 0).trans rfl
      have hcz17_1 : wc.cell? ⟨gb188, 1, none⟩ = some (.int .i64 a0_1) := (bC BK188.out 1).trans rfl
      have hcz17_2 : wc.cell? ⟨gb188, 2, none⟩ = some (.string a0_2) := (bC BK188.out 2).trans rfl
      have hcz17_3 : wc.cell? ⟨gb188, 3, none⟩ = some (.string a0_3) := (bC BK188.out 3).trans rfl
      have hcz17_4 : wc.cell? ⟨gb188, 4, none⟩ = some (.string a0_4) := (bC BK188.out 4).trans rfl
      have hcz17_5 : wc.cell? ⟨gb188, 5, none⟩ = some (.int .u64 a0_5) := (bC BK188.out 5).trans rfl
      have hfz17_0 := bF BK188.out 0
      have hfz17_1 := bF BK188.out 1
      have hfz17_2 := bF BK188.out 2
      have hfz17_3 := bF BK188.out 3
      have hfz17_4 := bF BK188.out 4
      have hfz17_5 := bF BK188.out 5
      go_wp2
      go_meet
      case rel => exact ⟨_, ((a0_4.toList != ([] : List UInt8))), (by first | rfl | (simp; done) | (simp [*]; done)), H', ⟨by have := HJ2.out; first | omega | exact Nat.le_refl _⟩, ⟨by (with_reducible repeat (first | refine bN ?_ _ | refine bD ?_ | refine bA ?_ _)); exact BK188.out⟩, ⟨by (with_reducible repeat (first | refine bN ?_ _ | refine bD ?_ | refine bA ?_ _)); exact BK189.out⟩, ⟨by repeat (first | (with_reducible first | exact HB.out | apply wA | apply wN | apply w1 | refine wS ?_ GE188.out | refine wS ?_ GE189.out) | exact HB.out)⟩⟩
   case rest =>
    clear HC11
    try clear c1
    try clear p2
    try clear c6
    try clear c6b0
    try clear c7
    try clear c9
    try clear c12
    try clear c13
    try clear c13b0
    try clear c13b1
    try clear c14
    try clear c16
    try clear hcz10_0
    try clear hcz10_1
    try clear hcz10_2
    try clear hcz10_3
    try clear hcz10_4
    try clear hcz10_5
    try clear hcz15_0
    try clear hcz15_1
    try clear hcz15_2
    try clear hcz15_3
    try clear hcz15_4
    try clear hcz15_5
    try clear hcz17_0
    try clear hcz17_1
    try clear hcz17_2
    try clear hcz17_3
    try clear hcz17_4
    try clear hcz17_5
    try clear hcz8_0
    try clear hcz8_1
    try clear hcz8_2
    try clear hcz8_3
    try clear hcz8_4
    try clear hcz8_5
    try clear hfz10_0
    try clear hfz10_1
    try clear hfz10_2
    try clear hfz10_3
    try clear hfz10_4
    try clear hfz10_5
    try clear hfz15_0
    try clear hfz15_1
    try clear hfz15_2
    try clear hfz15_3
    try clear hfz15_4
    try clear hfz15_5
    try clear hfz17_0
    try clear hfz17_1
    try clear hfz17_2
    try clear hfz17_3
    try clear hfz17_4
    try clear hfz17_5
    try clear hfz8_0
    try clear hfz8_1
    try clear hfz8_2
    try clear hfz8_3
    try clear hfz8_4
    try clear hfz8_5
    try clear p2
    obtain ⟨kq, x5_10, rfl, HA, HJ10, BK188, BK189, HB⟩ := hcut
    cases kq with
    | zero => exact absurd HA.out (by simp [catchmentref04_Check.j1])
    | succ kj10 =>
     have H := HA.out
     clear HA
     simp only [catchmentref04_Check.j1] at H
     have HC18 := Aside0.mk H
     clear H
     go_upto_region 3 with (fail)
     go_cut [5] (fun v5 wc => ∃ (kq : Nat) (x5_17 : Bool), v5 = .bool x5_17 ∧ Aside0 (catchmentref04_Check.j2 kq x5_17 a0_0 a0_1 a0_2 a0_3 a0_4 a0_5 a1_0 a1_1 a1_2 a1_3 a1_4 a1_5 a1_6 a1_7 a1_8 = some r) ∧ Aside0 (kq ≤ kj10) ∧ Aside0 (wc.heap[gb188]? = some (.cells #[.int .u8 a0_0, .int .i64 a0_1, .string a0_2, .string a0_3, .string a0_4, .int .u64 a0_5] 47 (0, 0))) ∧ Aside0 (wc.heap[gb189]? = some (.cells #[.int .i64 a1_0, .int .i64 a1_1, .int .i64 a1_2, .int .i64 a1_3, .int .i64 a1_4, .int .i64 a1_5, .int .i64 a1_6, .int .i64 a1_7, .int .i64 a1_8] 23 (0, 0))) ∧ Aside0 (Below w.heap.size w wc))
     case first =>
      have H := HC18.out
      clear HC18
      by_cases c19 : x5_10 = true
      ·subst c19
       have H1 : (catchmentref04_Check.j2 kj10 true a0_0 a0_1 a0_2 a0_3 a0_4 a0_5 a1_0 a1_1 a1_2 a1_3 a1_4 a1_5 a1_6 a1_7 a1_8) = some r := by rw [if_pos rfl] at H; exact H
       clear H
       have H := H1
       clear H1
       have H' := Aside0.mk H
       clear H
       go_wp2
       go_meet
       case rel => exact ⟨_, (true), (by first | rfl | (simp; done) | (simp [*]; done)), H', ⟨by have := HJ2.out; have := HJ10.out; first | omega | exact Nat.le_refl _⟩, ⟨by (with_reducible repeat (first | refine bN ?_ _ | refine bD ?_ | refine bA ?_ _)); exact BK188.out⟩, ⟨by (with_reducible repeat (first | refine bN ?_ _ | refine bD ?_ | refine bA ?_ _)); exact BK189.out⟩, ⟨by repeat (first | (with_reducible first | exact HB.out | apply wA | apply wN | apply w1 | refine wS ?_ GE188.out | refine wS ?_ GE189.out) | exact HB.out)⟩⟩
      ·replace c19 := Bool.eq_false_iff.mpr c19
       subst c19
       have H1 : (if a0_0 = 3 then (catchmentref04_Check.j2 kj10 false a0_0 a0_1 a0_2 a0_3 a0_4 a0_5 a1_0 a1_1 a1_2 a1_3 a1_4 a1_5 a1_6 a1_7 a1_8) else (catchmentref04_Check.j2 kj10 (a0_5 != 0) a0_0 a0_1 a0_2 a0_3 a0_4 a0_5 a1_0 a1_1 a1_2 a1_3 a1_4 a1_5 a1_6 a1_7 a1_8)) = some r := by rw [if_neg (show ¬ (false = true) by decide)] at H; exact H
       clear H
       have H := H1
       clear H1
       by_cases c20 : a0_0 = 3
       ·rw [if_pos c20] at H
        have c20b0 : (a0_0 == 3) = true := beq_iff_eq.mpr c20
        have c20b1 : (a0_0 != 3) = false := bne_eq_false_iff_eq.mpr c20
        clear c20
        (first | rw [c20b0] | (simp only [i64_w, i32_w]; rw [c20b0]) | skip)
        have H' := Aside0.mk H
        clear H
        have hnb21 := NB188_189.out
        have hnc21 := NB189_188.out
        have hcz22_0 : wc.cell? ⟨gb188, 0, none⟩ = some (.int .u8 a0_0) := (bC BK188.out 0).trans rfl
        have hcz22_1 : wc.cell? ⟨gb188, 1, none⟩ = some (.int .i64 a0_1) := (bC BK188.out 1).trans rfl
        have hcz22_2 : wc.cell? ⟨gb188, 2, none⟩ = some (.string a0_2) := (bC BK188.out 2).trans rfl
        have hcz22_3 : wc.cell? ⟨gb188, 3, none⟩ = some (.string a0_3) := (bC BK188.out 3).trans rfl
        have hcz22_4 : wc.cell? ⟨gb188, 4, none⟩ = some (.string a0_4) := (bC BK188.out 4).trans rfl
        have hcz22_5 : wc.cell? ⟨gb188, 5, none⟩ = some (.int .u64 a0_5) := (bC BK188.out 5).trans rfl
        have hfz22_0 := bF BK188.out 0
        have hfz22_1 := bF BK188.out 1
        have hfz22_2 := bF BK188.out 2
        have hfz22_3 := bF BK188.out 3
        have hfz22_4 := bF BK188.out 4
        have hfz22_5 := bF BK188.out 5
        go_wp2
        go_meet
        case rel => exact ⟨_, (false), (by first | rfl | (simp; done) | (simp [*]; done)), H', ⟨by have := HJ2.out; have := HJ10.out; first | omega | exact Nat.le_refl _⟩, ⟨by (with_reducible repeat (first | refine bN ?_ _ | refine bD ?_ | refine bA ?_ _)); exact BK188.out⟩, ⟨by (with_reducible repeat (first | refine bN ?_ _ | refine bD ?_ | refine bA ?_ _)); exact BK189.out⟩, ⟨by repeat (first | (with_reducible first | exact HB.out | apply wA | apply wN | apply w1 | refine wS ?_ GE188.out | refine wS ?_ GE189.out) | exact HB.out)⟩⟩
       ·rw [if_neg c20] at H
        have c20b0 : (a0_0 == 3) = false := beq_eq_false_iff_ne.mpr c20
        have c20b1 : (a0_0 != 3) = true := bne_iff_ne.mpr c20
        (first | rw [c20b0] | (simp only [i64_w, i32_w]; rw [c20b0]) | skip)
        have H' := Aside0.mk H
        clear H
        have hnb23 := NB188_189.out
        have hnc23 := NB189_188.out
        have hcz24_0 : wc.cell? ⟨gb188, 0, none⟩ = some (.int .u8 a0_0) := (bC BK188.out 0).trans rfl
        have hcz24_1 : wc.cell? ⟨gb188, 1, none⟩ = some (.int .i64 a0_1) := (bC BK188.out 1).trans rfl
        have hcz24_2 : wc.cell? ⟨gb188, 2, none⟩ = some (.string a0_2) := (bC BK188.out 2).trans rfl
        have hcz24_3 : wc.cell? ⟨gb188, 3, none⟩ = some (.string a0_3) := (bC BK188.out 3).trans rfl
        have hcz24_4 : wc.cell? ⟨gb188, 4, none⟩ = some (.string a0_4) := (bC BK188.out 4).trans rfl
        have hcz24_5 : wc.cell? ⟨gb188, 5, none⟩ = some (.int .u64 a0_5) := (bC BK188.out 5).trans rfl
        have hfz24_0 := bF BK188.out 0
        have hfz24_1 := bF BK188.out 1
        have hfz24_2 := bF BK188.out 2
        have hfz24_3 := bF BK188.out 3
        have hfz24_4 := bF BK188.out 4
        have hfz24_5 := bF BK188.out 5
        go_wp2
        go_meet
        case rel => exact ⟨_, ((a0_5 != 0)), (by first | rfl | (simp; done) | (simp [*]; done)), H', ⟨by have := HJ2.out; have := HJ10.out; first | omega | exact Nat.le_refl _⟩, ⟨by (with_reducible repeat (first | refine bN ?_ _ | refine bD ?_ | refine bA ?_ _)); exact BK188.out⟩, ⟨by (with_reducible repeat (first | refine bN ?_ _ | refine bD ?_ | refine bA ?_ _)); exact BK189.out⟩, ⟨by repeat (first | (with_reducible first | exact HB.out | apply wA | apply wN | apply w1 | refine wS ?_ GE188.out | refine wS ?_ GE189.out) | exact HB.out)⟩⟩
     case rest =>
      clear HC18
      try clear c1
      try clear c2
      try clear p2
      try clear c6
      try clear c6b0
      try clear c7
      try clear c9
      try clear c12
      try clear c13
      try clear c13b0
      try clear c13b1
      try clear c14
      try clear c16
      try clear c18
      try clear c19
      try clear c20
      try clear c20b0
      try clear c20b1
      try clear c21
      try clear c23
      try clear hcz10_0
      try clear hcz10_1
      try clear hcz10_2
      try clear hcz10_3
      try clear hcz10_4
      try clear hcz10_5
      try clear hcz15_0
      try clear hcz15_1
      try clear hcz15_2
      try clear hcz15_3
      try clear hcz15_4
      try clear hcz15_5
      try clear hcz17_0
      try clear hcz17_1
      try clear hcz17_2
      try clear hcz17_3
      try clear hcz17_4
      try clear hcz17_5
      try clear hcz22_0
      try clear hcz22_1
      try clear hcz22_2
      try clear hcz22_3
      try clear hcz22_4
      try clear hcz22_5
      try clear hcz24_0
      try clear hcz24_1
      try clear hcz24_2
      try clear hcz24_3
      try clear hcz24_4
      try clear hcz24_5
      try clear hcz8_0
      try clear hcz8_1
      try clear hcz8_2
      try clear hcz8_3
      try clear hcz8_4
      try clear hcz8_5
      try clear hfz10_0
      try clear hfz10_1
      try clear hfz10_2
      try clear hfz10_3
      try clear hfz10_4
      try clear hfz10_5
      try clear hfz15_0
      try clear hfz15_1
      try clear hfz15_2
      try clear hfz15_3
      try clear hfz15_4
      try clear hfz15_5
      try clear hfz17_0
      try clear hfz17_1
      try clear hfz17_2
      try clear hfz17_3
      try clear hfz17_4
      try clear hfz17_5
      try clear hfz22_0
      try clear hfz22_1
      try clear hfz22_2
      try clear hfz22_3
      try clear hfz22_4
      try clear hfz22_5
      try clear hfz24_0
      try clear hfz24_1
      try clear hfz24_2
      try clear hfz24_3
      try clear hfz24_4
      try clear hfz24_5
      try clear hfz8_0
      try clear hfz8_1
      try clear hfz8_2
      try clear hfz8_3
      try clear hfz8_4
      try clear hfz8_5
      try clear p2
      obtain ⟨kq, x5_17, rfl, HA, HJ17, BK188, BK189, HB⟩ := hcut
      cases kq with
      | zero => exact absurd HA.out (by simp [catchmentref04_Check.j2])
      | succ kj17 =>
       have H := HA.out
       clear HA
       simp only [catchmentref04_Check.j2] at H
       have HC25 := Aside0.mk H
       clear H
       go_upto_region 4 with (fail)
       go_cut [5] (fun v5 wc => ∃ (kq : Nat) (x5_24 : Bool), v5 = .bool x5_24 ∧ Aside0 (catchmentref04_Check.j3 kq x5_24 a0_0 a0_1 a0_2 a0_3 a0_4 a0_5 a1_0 a1_1 a1_2 a1_3 a1_4 a1_5 a1_6 a1_7 a1_8 = some r) ∧ Aside0 (kq ≤ kj17) ∧ Aside0 (wc.heap[gb188]? = some (.cells #[.int .u8 a0_0, .int .i64 a0_1, .string a0_2, .string a0_3, .string a0_4, .int .u64 a0_5] 47 (0, 0))) ∧ Aside0 (wc.heap[gb189]? = some (.cells #[.int .i64 a1_0, .int .i64 a1_1, .int .i64 a1_2, .int .i64 a1_3, .int .i64 a1_4, .int .i64 a1_5, .int .i64 a1_6, .int .i64 a1_7, .int .i64 a1_8] 23 (0, 0))) ∧ Aside0 (Below w.heap.size w wc))
       case first =>
        have H := HC25.out
        clear HC25
        by_cases c26 : x5_17 = true
        ·subst c26
         have H1 : (catchmentref04_Check.j3 kj17 true a0_0 a0_1 a0_2 a0_3 a0_4 a0_5 a1_0 a1_1 a1_2 a1_3 a1_4 a1_5 a1_6 a1_7 a1_8) = some r := by rw [if_pos rfl] at H; exact H
         clear H
         have H := H1
         clear H1
         have H' := Aside0.mk H
         clear H
         go_wp2
         go_meet
         case rel => exact ⟨_, (true), (by first | rfl | (simp; done) | (simp [*]; done)), H', ⟨by have := HJ2.out; have := HJ10.out; have := HJ17.out; first | omega | exact Nat.le_refl _⟩, ⟨by (with_reducible repeat (first | refine bN ?_ _ | refine bD ?_ | refine bA ?_ _)); exact BK188.out⟩, ⟨by (with_reducible repeat (first | refine bN ?_ _ | refine bD ?_ | refine bA ?_ _)); exact BK189.out⟩, ⟨by repeat (first | (with_reducible first | exact HB.out | apply wA | apply wN | apply w1 | refine wS ?_ GE188.out | refine wS ?_ GE189.out) | exact HB.out)⟩⟩
        ·replace c26 := Bool.eq_false_iff.mpr c26
         subst c26
         have H1 : (if a0_0 = 4 then (catchmentref04_Check.j3 kj17 false a0_0 a0_1 a0_2 a0_3 a0_4 a0_5 a1_0 a1_1 a1_2 a1_3 a1_4 a1_5 a1_6 a1_7 a1_8) else (catchmentref04_Check.j3 kj17 (a0_3.toList != ([] : List UInt8)) a0_0 a0_1 a0_2 a0_3 a0_4 a0_5 a1_0 a1_1 a1_2 a1_3 a1_4 a1_5 a1_6 a1_7 a1_8)) = some r := by rw [if_neg (show ¬ (false = true) by decide)] at H; exact H
         clear H
         have H := H1
         clear H1
         by_cases c27 : a0_0 = 4
         ·rw [if_pos c27] at H
          have c27b0 : (a0_0 == 4) = true := beq_iff_eq.mpr c27
          have c27b1 : (a0_0 != 4) = false := bne_eq_false_iff_eq.mpr c27
          clear c27
          (first | rw [c27b0] | (simp only [i64_w, i32_w]; rw [c27b0]) | skip)
          have H' := Aside0.mk H
          clear H
          have hnb28 := NB188_189.out
          have hnc28 := NB189_188.out
          have hcz29_0 : wc.cell? ⟨gb188, 0, none⟩ = some (.int .u8 a0_0) := (bC BK188.out 0).trans rfl
          have hcz29_1 : wc.cell? ⟨gb188, 1, none⟩ = some (.int .i64 a0_1) := (bC BK188.out 1).trans rfl
          have hcz29_2 : wc.cell? ⟨gb188, 2, none⟩ = some (.string a0_2) := (bC BK188.out 2).trans rfl
          have hcz29_3 : wc.cell? ⟨gb188, 3, none⟩ = some (.string a0_3) := (bC BK188.out 3).trans rfl
          have hcz29_4 : wc.cell? ⟨gb188, 4, none⟩ = some (.string a0_4) := (bC BK188.out 4).trans rfl
          have hcz29_5 : wc.cell? ⟨gb188, 5, none⟩ = some (.int .u64 a0_5) := (bC BK188.out 5).trans rfl
          have hfz29_0 := bF BK188.out 0
          have hfz29_1 := bF BK188.out 1
          have hfz29_2 := bF BK188.out 2
          have hfz29_3 := bF BK188.out 3
          have hfz29_4 := bF BK188.out 4
          have hfz29_5 := bF BK188.out 5
          go_wp2
          go_meet
          case rel => exact ⟨_, (false), (by first | rfl | (simp; done) | (simp [*]; done)), H', ⟨by have := HJ2.out; have := HJ10.out; have := HJ17.out; first | omega | exact Nat.le_refl _⟩, ⟨by (with_reducible repeat (first | refine bN ?_ _ | refine bD ?_ | refine bA ?_ _)); exact BK188.out⟩, ⟨by (with_reducible repeat (first | refine bN ?_ _ | refine bD ?_ | refine bA ?_ _)); exact BK189.out⟩, ⟨by repeat (first | (with_reducible first | exact HB.out | apply wA | apply wN | apply w1 | refine wS ?_ GE188.out | refine wS ?_ GE189.out) | exact HB.out)⟩⟩
         ·rw [if_neg c27] at H
          have c27b0 : (a0_0 == 4) = false := beq_eq_false_iff_ne.mpr c27
          have c27b1 : (a0_0 != 4) = true := bne_iff_ne.mpr c27
          (first | rw [c27b0] | (simp only [i64_w, i32_w]; rw [c27b0]) | skip)
          have H' := Aside0.mk H
          clear H
          have hnb30 := NB188_189.out
          have hnc30 := NB189_188.out
          have hcz31_0 : wc.cell? ⟨gb188, 0, none⟩ = some (.int .u8 a0_0) := (bC BK188.out 0).trans rfl
          have hcz31_1 : wc.cell? ⟨gb188, 1, none⟩ = some (.int .i64 a0_1) := (bC BK188.out 1).trans rfl
          have hcz31_2 : wc.cell? ⟨gb188, 2, none⟩ = some (.string a0_2) := (bC BK188.out 2).trans rfl
          have hcz31_3 : wc.cell? ⟨gb188, 3, none⟩ = some (.string a0_3) := (bC BK188.out 3).trans rfl
          have hcz31_4 : wc.cell? ⟨gb188, 4, none⟩ = some (.string a0_4) := (bC BK188.out 4).trans rfl
          have hcz31_5 : wc.cell? ⟨gb188, 5, none⟩ = some (.int .u64 a0_5) := (bC BK188.out 5).trans rfl
          have hfz31_0 := bF BK188.out 0
          have hfz31_1 := bF BK188.out 1
          have hfz31_2 := bF BK188.out 2
          have hfz31_3 := bF BK188.out 3
          have hfz31_4 := bF BK188.out 4
          have hfz31_5 := bF BK188.out 5
          go_wp2
          go_meet
          case rel => exact ⟨_, ((a0_3.toList != ([] : List UInt8))), (by first | rfl | (simp; done) | (simp [*]; done)), H', ⟨by have := HJ2.out; have := HJ10.out; have := HJ17.out; first | omega | exact Nat.le_refl _⟩, ⟨by (with_reducible repeat (first | refine bN ?_ _ | refine bD ?_ | refine bA ?_ _)); exact BK188.out⟩, ⟨by (with_reducible repeat (first | refine bN ?_ _ | refine bD ?_ | refine bA ?_ _)); exact BK189.out⟩, ⟨by repeat (first | (with_reducible first | exact HB.out | apply wA | apply wN | apply w1 | refine wS ?_ GE188.out | refine wS ?_ GE189.out) | exact HB.out)⟩⟩
       case rest =>
        clear HC25
        try clear c1
        try clear c2
        try clear p2
        try clear c3
        try clear c6
        try clear c6b0
        try clear c7
        try clear c9
        try clear c12
        try clear c13
        try clear c13b0
        try clear c13b1
        try clear c14
        try clear c16
        try clear c18
        try clear c19
        try clear c20
        try clear c20b0
        try clear c20b1
        try clear c21
        try clear c23
        try clear c26
        try clear c27
        try clear c27b0
        try clear c27b1
        try clear c28
        try clear c30
        try clear hcz10_0
        try clear hcz10_1
        try clear hcz10_2
        try clear hcz10_3
        try clear hcz10_4
        try clear hcz10_5
        try clear hcz15_0
        try clear hcz15_1
        try clear hcz15_2
        try clear hcz15_3
        try clear hcz15_4
        try clear hcz15_5
        try clear hcz17_0
        try clear hcz17_1
        try clear hcz17_2
        try clear hcz17_3
        try clear hcz17_4
        try clear hcz17_5
        try clear hcz22_0
        try clear hcz22_1
        try clear hcz22_2
        try clear hcz22_3
        try clear hcz22_4
        try clear hcz22_5
        try clear hcz24_0
        try clear hcz24_1
        try clear hcz24_2
        try clear hcz24_3
        try clear hcz24_4
        try clear hcz24_5
        try clear hcz29_0
        try clear hcz29_1
        try clear hcz29_2
        try clear hcz29_3
        try clear hcz29_4
        try clear hcz29_5
        try clear hcz31_0
        try clear hcz31_1
        try clear hcz31_2
        try clear hcz31_3
        try clear hcz31_4
        try clear hcz31_5
        try clear hcz8_0
        try clear hcz8_1
        try clear hcz8_2
        try clear hcz8_3
        try clear hcz8_4
        try clear hcz8_5
        try clear hfz10_0
        try clear hfz10_1
        try clear hfz10_2
        try clear hfz10_3
        try clear hfz10_4
        try clear hfz10_5
        try clear hfz15_0
        try clear hfz15_1
        try clear hfz15_2
        try clear hfz15_3
        try clear hfz15_4
        try clear hfz15_5
        try clear hfz17_0
        try clear hfz17_1
        try clear hfz17_2
        try clear hfz17_3
        try clear hfz17_4
        try clear hfz17_5
        try clear hfz22_0
        try clear hfz22_1
        try clear hfz22_2
        try clear hfz22_3
        try clear hfz22_4
        try clear hfz22_5
        try clear hfz24_0
        try clear hfz24_1
        try clear hfz24_2
        try clear hfz24_3
        try clear hfz24_4
        try clear hfz24_5
        try clear hfz29_0
        try clear hfz29_1
        try clear hfz29_2
        try clear hfz29_3
        try clear hfz29_4
        try clear hfz29_5
        try clear hfz31_0
        try clear hfz31_1
        try clear hfz31_2
        try clear hfz31_3
        try clear hfz31_4
        try clear hfz31_5
        try clear hfz8_0
        try clear hfz8_1
        try clear hfz8_2
        try clear hfz8_3
        try clear hfz8_4
        try clear hfz8_5
        try clear p2
        obtain ⟨kq, x5_24, rfl, HA, HJ24, BK188, BK189, HB⟩ := hcut
        cases kq with
        | zero => exact absurd HA.out (by simp [catchmentref04_Check.j3])
        | succ kj24 =>
         have H := HA.out
         clear HA
         simp only [catchmentref04_Check.j3] at H
         by_cases c32 : x5_24 = true
         ·subst c32
          have H1 : (some 3) = some r := by rw [if_pos rfl] at H; exact H
          clear H
          have H := H1
          clear H1
          obtain rfl := Option.some.inj H
          go_wp2
          go_ret
          exact ⟨by first | rfl | (simp [errW_none, errW_some] <;> rfl) | (simp [*, errW_none, errW_some] <;> rfl), by repeat (first | (with_reducible first | exact HB.out | apply wA | apply wN | apply w1 | refine wS ?_ GE188.out | refine wS ?_ GE189.out) | exact HB.out)⟩
         ·replace c32 := Bool.eq_false_iff.mpr c32
          subst c32
          have H1 : (if (a0_2.size : Int) > a1_0 then (catchmentref04_Check.j4 kj24 true a0_0 a0_1 a0_2 a0_3 a0_4 a0_5) else (if (a0_3.size : Int) > a1_0 then (catchmentref04_Check.j4 kj24 true a0_0 a0_1 a0_2 a0_3 a0_4 a0_5) else ((catchmentref04_Point.f a0_0 a0_1 a0_2 a0_3 a0_4 a0_5).bind fun t190 => (if t190 = true then (if a0_2.toList = ([] : List UInt8) then (catchmentref04_Check.j4 kj24 true a0_0 a0_1 a0_2 a0_3 a0_4 a0_5) else (if a0_0 = 1 then (catchmentref04_Check.j4 kj24 (decide ((a0_4.size : Int) > a1_1)) a0_0 a0_1 a0_2 a0_3 a0_4 a0_5) else (catchmentref04_Check.j4 kj24 false a0_0 a0_1 a0_2 a0_3 a0_4 a0_5))) else (if a0_0 = 1 then (catchmentref04_Check.j4 kj24 (decide ((a0_4.size : Int) > a1_1)) a0_0 a0_1 a0_2 a0_3 a0_4 a0_5) else (catchmentref04_Check.j4 kj24 false a0_0 a0_1 a0_2 a0_3 a0_4 a0_5)))))) = some r := by rw [if_neg (show ¬ (false = true) by decide)] at H; exact H
          clear H
          have H := H1
          clear H1
          have HC33 := Aside0.mk H
          clear H
          go_upto_region 7 with (fail)
          go_cut [83] (fun v83 wc => ∃ (kq : Nat) (x83_32 : Bool), v83 = .bool x83_32 ∧ Aside0 (catchmentref04_Check.j4 kq x83_32 a0_0 a0_1 a0_2 a0_3 a0_4 a0_5 = some r) ∧ Aside0 (kq ≤ kj24) ∧ Aside0 (wc.heap[gb188]? = some (.cells #[.int .u8 a0_0, .int .i64 a0_1, .string a0_2, .string a0_3, .string a0_4, .int .u64 a0_5] 47 (0, 0))) ∧ Aside0 (wc.heap[gb189]? = some (.cells #[.int .i64 a1_0, .int .i64 a1_1, .int .i64 a1_2, .int .i64 a1_3, .int .i64 a1_4, .int .i64 a1_5, .int .i64 a1_6, .int .i64 a1_7, .int .i64 a1_8] 23 (0, 0))) ∧ Aside0 (Below w.heap.size w wc))
          case first =>
           have H := HC33.out
           clear HC33
           by_cases c34 : (a0_2.size : Int) > a1_0
           ·rw [if_pos c34] at H
            have c34b0 : decide (a1_0 < (a0_2.size : Int)) = true := decide_eq_true c34
            clear c34
            (first | rw [c34b0] | (simp only [i64_w, i32_w]; rw [c34b0]) | skip)
            have H' := Aside0.mk H
            clear H
            have hnb35 := NB188_189.out
            have hnc35 := NB189_188.out
            have hcz36_0 : wc.cell? ⟨gb188, 0, none⟩ = some (.int .u8 a0_0) := (bC BK188.out 0).trans rfl
            have hcz36_1 : wc.cell? ⟨gb188, 1, none⟩ = some (.int .i64 a0_1) := (bC BK188.out 1).trans rfl
            have hcz36_2 : wc.cell? ⟨gb188, 2, none⟩ = some (.string a0_2) := (bC BK188.out 2).trans rfl
            have hcz36_3 : wc.cell? ⟨gb188, 3, none⟩ = some (.string a0_3) := (bC BK188.out 3).trans rfl
            have hcz36_4 : wc.cell? ⟨gb188, 4, none⟩ = some (.string a0_4) := (bC BK188.out 4).trans rfl
            have hcz36_5 : wc.cell? ⟨gb188, 5, none⟩ = some (.int .u64 a0_5) := (bC BK188.out 5).trans rfl
            have hfz36_0 := bF BK188.out 0
            have hfz36_1 := bF BK188.out 1
            have hfz36_2 := bF BK188.out 2
            have hfz36_3 := bF BK188.out 3
            have hfz36_4 := bF BK188.out 4
            have hfz36_5 := bF BK188.out 5
            have hcz37_0 : wc.cell? ⟨gb189, 0, none⟩ = some (.int .i64 a1_0) := (bC BK189.out 0).trans rfl
            have hcz37_1 : wc.cell? ⟨gb189, 1, none⟩ = some (.int .i64 a1_1) := (bC BK189.out 1).trans rfl
            have hcz37_2 : wc.cell? ⟨gb189, 2, none⟩ = some (.int .i64 a1_2) := (bC BK189.out 2).trans rfl
            have hcz37_3 : wc.cell? ⟨gb189, 3, none⟩ = some (.int .i64 a1_3) := (bC BK189.out 3).trans rfl
            have hcz37_4 : wc.cell? ⟨gb189, 4, none⟩ = some (.int .i64 a1_4) := (bC BK189.out 4).trans rfl
            have hcz37_5 : wc.cell? ⟨gb189, 5, none⟩ = some (.int .i64 a1_5) := (bC BK189.out 5).trans rfl
            have hcz37_6 : wc.cell? ⟨gb189, 6, none⟩ = some (.int .i64 a1_6) := (bC BK189.out 6).trans rfl
            have hcz37_7 : wc.cell? ⟨gb189, 7, none⟩ = some (.int .i64 a1_7) := (bC BK189.out 7).trans rfl
            have hcz37_8 : wc.cell? ⟨gb189, 8, none⟩ = some (.int .i64 a1_8) := (bC BK189.out 8).trans rfl
            have hfz37_0 := bF BK189.out 0
            have hfz37_1 := bF BK189.out 1
            have hfz37_2 := bF BK189.out 2
            have hfz37_3 := bF BK189.out 3
            have hfz37_4 := bF BK189.out 4
            have hfz37_5 := bF BK189.out 5
            have hfz37_6 := bF BK189.out 6
            have hfz37_7 := bF BK189.out 7
            have hfz37_8 := bF BK189.out 8
            go_wp2
            go_meet
            case rel => exact ⟨_, (true), (by first | rfl | (simp; done) | (simp [*]; done)), H', ⟨by have := HJ2.out; have := HJ10.out; have := HJ17.out; have := HJ24.out; first | omega | exact Nat.le_refl _⟩, ⟨by (with_reducible repeat (first | refine bN ?_ _ | refine bD ?_ | refine bA ?_ _)); exact BK188.out⟩, ⟨by (with_reducible repeat (first | refine bN ?_ _ | refine bD ?_ | refine bA ?_ _)); exact BK189.out⟩, ⟨by repeat (first | (with_reducible first | exact HB.out | apply wA | apply wN | apply w1 | refine wS ?_ GE188.out | refine wS ?_ GE189.out) | exact HB.out)⟩⟩
           ·rw [if_neg c34] at H
            have c34b0 : decide (a1_0 < (a0_2.size : Int)) = false := decide_eq_false c34
            clear c34
            (first | rw [c34b0] | (simp only [i64_w, i32_w]; rw [c34b0]) | skip)
            by_cases c38 : (a0_3.size : Int) > a1_0
            ·rw [if_pos c38] at H
             have c38b0 : decide (a1_0 < (a0_3.size : Int)) = true := decide_eq_true c38
             clear c38
             have H' := Aside0.mk H
             clear H
             have hnb39 := NB188_189.out
             have hnc39 := NB189_188.out
             have hcz40_0 : wc.cell? ⟨gb188, 0, none⟩ = some (.int .u8 a0_0) := (bC BK188.out 0).trans rfl
             have hcz40_1 : wc.cell? ⟨gb188, 1, none⟩ = some (.int .i64 a0_1) := (bC BK188.out 1).trans rfl
             have hcz40_2 : wc.cell? ⟨gb188, 2, none⟩ = some (.string a0_2) := (bC BK188.out 2).trans rfl
             have hcz40_3 : wc.cell? ⟨gb188, 3, none⟩ = some (.string a0_3) := (bC BK188.out 3).trans rfl
             have hcz40_4 : wc.cell? ⟨gb188, 4, none⟩ = some (.string a0_4) := (bC BK188.out 4).trans rfl
             have hcz40_5 : wc.cell? ⟨gb188, 5, none⟩ = some (.int .u64 a0_5) := (bC BK188.out 5).trans rfl
             have hfz40_0 := bF BK188.out 0
             have hfz40_1 := bF BK188.out 1
             have hfz40_2 := bF BK188.out 2
             have hfz40_3 := bF BK188.out 3
             have hfz40_4 := bF BK188.out 4
             have hfz40_5 := bF BK188.out 5
             have hcz41_0 : wc.cell? ⟨gb189, 0, none⟩ = some (.int .i64 a1_0) := (bC BK189.out 0).trans rfl
             have hcz41_1 : wc.cell? ⟨gb189, 1, none⟩ = some (.int .i64 a1_1) := (bC BK189.out 1).trans rfl
             have hcz41_2 : wc.cell? ⟨gb189, 2, none⟩ = some (.int .i64 a1_2) := (bC BK189.out 2).trans rfl
             have hcz41_3 : wc.cell? ⟨gb189, 3, none⟩ = some (.int .i64 a1_3) := (bC BK189.out 3).trans rfl
             have hcz41_4 : wc.cell? ⟨gb189, 4, none⟩ = some (.int .i64 a1_4) := (bC BK189.out 4).trans rfl
             have hcz41_5 : wc.cell? ⟨gb189, 5, none⟩ = some (.int .i64 a1_5) := (bC BK189.out 5).trans rfl
             have hcz41_6 : wc.cell? ⟨gb189, 6, none⟩ = some (.int .i64 a1_6) := (bC BK189.out 6).trans rfl
             have hcz41_7 : wc.cell? ⟨gb189, 7, none⟩ = some (.int .i64 a1_7) := (bC BK189.out 7).trans rfl
             have hcz41_8 : wc.cell? ⟨gb189, 8, none⟩ = some (.int .i64 a1_8) := (bC BK189.out 8).trans rfl
             have hfz41_0 := bF BK189.out 0
             have hfz41_1 := bF BK189.out 1
             have hfz41_2 := bF BK189.out 2
             have hfz41_3 := bF BK189.out 3
             have hfz41_4 := bF BK189.out 4
             have hfz41_5 := bF BK189.out 5
             have hfz41_6 := bF BK189.out 6
             have hfz41_7 := bF BK189.out 7
             have hfz41_8 := bF BK189.out 8
             go_wp2
             go_meet
             case rel => exact ⟨_, (true), (by first | rfl | (simp; done) | (simp [*]; done)), H', ⟨by have := HJ2.out; have := HJ10.out; have := HJ17.out; have := HJ24.out; first | omega | exact Nat.le_refl _⟩, ⟨by (with_reducible repeat (first | refine bN ?_ _ | refine bD ?_ | refine bA ?_ _)); exact BK188.out⟩, ⟨by (with_reducible repeat (first | refine bN ?_ _ | refine bD ?_ | refine bA ?_ _)); exact BK189.out⟩, ⟨by repeat (first | (with_reducible first | exact HB.out | apply wA | apply wN | apply w1 | refine wS ?_ GE188.out | refine wS ?_ GE189.out) | exact HB.out)⟩⟩
            ·rw [if_neg c38] at H
             have c38b0 : decide (a1_0 < (a0_3.size : Int)) = false := decide_eq_false c38
             clear c38
             replace H := Option.bind_eq_some_iff.mp H
             obtain ⟨t190, A420, H⟩ := H
             replace H : (if t190 = true then (if a0_2.toList = ([] : List UInt8) then (catchmentref04_Check.j4 kj24 true a0_0 a0_1 a0_2 a0_3 a0_4 a0_5) else (if a0_0 = 1 then (catchmentref04_Check.j4 kj24 (decide ((a0_4.size : Int) > a1_1)) a0_0 a0_1 a0_2 a0_3 a0_4 a0_5) else (catchmentref04_Check.j4 kj24 false a0_0 a0_1 a0_2 a0_3 a0_4 a0_5))) else (if a0_0 = 1 then (catchmentref04_Check.j4 kj24 (decide ((a0_4.size : Int) > a1_1)) a0_0 a0_1 a0_2 a0_3 a0_4 a0_5) else (catchmentref04_Check.j4 kj24 false a0_0 a0_1 a0_2 a0_3 a0_4 a0_5))) = some r := H
             have A42 := Aside0.mk A420
             clear A420
             by_cases c43 : t190 = true
             ·subst c43
              have H1 : (if a0_2.toList = ([] : List UInt8) then (catchmentref04_Check.j4 kj24 true a0_0 a0_1 a0_2 a0_3 a0_4 a0_5) else (if a0_0 = 1 then (catchmentref04_Check.j4 kj24 (decide ((a0_4.size : Int) > a1_1)) a0_0 a0_1 a0_2 a0_3 a0_4 a0_5) else (catchmentref04_Check.j4 kj24 false a0_0 a0_1 a0_2 a0_3 a0_4 a0_5))) = some r := by rw [if_pos rfl] at H; exact H
              clear H
              have H := H1
              clear H1
              by_cases c44 : a0_2.toList = ([] : List UInt8)
              ·rw [if_pos c44] at H
               have c44b0 : (a0_2.toList == ([] : List UInt8)) = true := beq_iff_eq.mpr c44
               have c44b1 : (a0_2.toList != ([] : List UInt8)) = false := bne_eq_false_iff_eq.mpr c44
               clear c44
               have H' := Aside0.mk H
               clear H
               have hnb45 := NB188_189.out
               have hnc45 := NB189_188.out
               have hcz46_0 : wc.cell? ⟨gb188, 0, none⟩ = some (.int .u8 a0_0) := (bC BK188.out 0).trans rfl
               have hcz46_1 : wc.cell? ⟨gb188, 1, none⟩ = some (.int .i64 a0_1) := (bC BK188.out 1).trans rfl
               have hcz46_2 : wc.cell? ⟨gb188, 2, none⟩ = some (.string a0_2) := (bC BK188.out 2).trans rfl
               have hcz46_3 : wc.cell? ⟨gb188, 3, none⟩ = some (.string a0_3) := (bC BK188.out 3).trans rfl
               have hcz46_4 : wc.cell? ⟨gb188, 4, none⟩ = some (.string a0_4) := (bC BK188.out 4).trans rfl
               have hcz46_5 : wc.cell? ⟨gb188, 5, none⟩ = some (.int .u64 a0_5) := (bC BK188.out 5).trans rfl
               have hfz46_0 := bF BK188.out 0
               have hfz46_1 := bF BK188.out 1
               have hfz46_2 := bF BK188.out 2
               have hfz46_3 := bF BK188.out 3
               have hfz46_4 := bF BK188.out 4
               have hfz46_5 := bF BK188.out 5
               have hcz47_0 : wc.cell? ⟨gb189, 0, none⟩ = some (.int .i64 a1_0) := (bC BK189.out 0).trans rfl
               have hcz47_1 : wc.cell? ⟨gb189, 1, none⟩ = some (.int .i64 a1_1) := (bC BK189.out 1).trans rfl
               have hcz47_2 : wc.cell? ⟨gb189, 2, none⟩ = some (.int .i64 a1_2) := (bC BK189.out 2).trans rfl
               have hcz47_3 : wc.cell? ⟨gb189, 3, none⟩ = some (.int .i64 a1_3) := (bC BK189.out 3).trans rfl
               have hcz47_4 : wc.cell? ⟨gb189, 4, none⟩ = some (.int .i64 a1_4) := (bC BK189.out 4).trans rfl
               have hcz47_5 : wc.cell? ⟨gb189, 5, none⟩ = some (.int .i64 a1_5) := (bC BK189.out 5).trans rfl
               have hcz47_6 : wc.cell? ⟨gb189, 6, none⟩ = some (.int .i64 a1_6) := (bC BK189.out 6).trans rfl
               have hcz47_7 : wc.cell? ⟨gb189, 7, none⟩ = some (.int .i64 a1_7) := (bC BK189.out 7).trans rfl
               have hcz47_8 : wc.cell? ⟨gb189, 8, none⟩ = some (.int .i64 a1_8) := (bC BK189.out 8).trans rfl
               have hfz47_0 := bF BK189.out 0
               have hfz47_1 := bF BK189.out 1
               have hfz47_2 := bF BK189.out 2
               have hfz47_3 := bF BK189.out 3
               have hfz47_4 := bF BK189.out 4
               have hfz47_5 := bF BK189.out 5
               have hfz47_6 := bF BK189.out 6
               have hfz47_7 := bF BK189.out 7
               have hfz47_8 := bF BK189.out 8
               go_wp2_with (first | (go_at_call 23; (with_reducible refine (catchmentref04_Point.calls a0_0 a0_1 a0_2 a0_3 a0_4 a0_5 true _ A42.out).mono ?_); rintro e w48 ⟨rfl, hb⟩; have n0_ := Aside0.mk (bB (g := gb188) (o := .cells #[.int .u8 a0_0, .int .i64 a0_1, .string a0_2, .string a0_3, .string a0_4, .int .u64 a0_5] 47 (0, 0)) (by (with_reducible repeat (first | refine bN ?_ _ | refine bD ?_ | refine bA ?_ _)); exact BK188.out) hb); have n1_ := Aside0.mk (bB (g := gb189) (o := .cells #[.int .i64 a1_0, .int .i64 a1_1, .int .i64 a1_2, .int .i64 a1_3, .int .i64 a1_4, .int .i64 a1_5, .int .i64 a1_6, .int .i64 a1_7, .int .i64 a1_8] 23 (0, 0)) (by (with_reducible repeat (first | refine bN ?_ _ | refine bD ?_ | refine bA ?_ _)); exact BK189.out) hb); have n2_ := Aside0.mk (wT (by repeat (first | (with_reducible first | exact HB.out | apply wA | apply wN | apply w1 | refine wS ?_ GE188.out | refine wS ?_ GE189.out) | exact HB.out)) hb); clear BK188; clear BK189; clear HB; have BK188 := n0_; have BK189 := n1_; have HB := n2_; clear n0_ n1_ n2_; (try clear hb); (try clear hb2); (try clear hk); (try clear hi); have hcz49_0 : w48.cell? ⟨gb188, 0, none⟩ = some (.int .u8 a0_0) := (bC BK188.out 0).trans rfl; have hcz49_1 : w48.cell? ⟨gb188, 1, none⟩ = some (.int .i64 a0_1) := (bC BK188.out 1).trans rfl; have hcz49_2 : w48.cell? ⟨gb188, 2, none⟩ = some (.string a0_2) := (bC BK188.out 2).trans rfl; have hcz49_3 : w48.cell? ⟨gb188, 3, none⟩ = some (.string a0_3) := (bC BK188.out 3).trans rfl; have hcz49_4 : w48.cell? ⟨gb188, 4, none⟩ = some (.string a0_4) := (bC BK188.out 4).trans rfl; have hcz49_5 : w48.cell? ⟨gb188, 5, none⟩ = some (.int .u64 a0_5) := (bC BK188.out 5).trans rfl; have hfz49_0 := bF BK188.out 0; have hfz49_1 := bF BK188.out 1; have hfz49_2 := bF BK188.out 2; have hfz49_3 := bF BK188.out 3; have hfz49_4 := bF BK188.out 4; have hfz49_5 := bF BK188.out 5))
               go_meet
               case rel => exact ⟨_, (true), (by first | rfl | (simp; done) | (simp [*]; done)), H', ⟨by have := HJ2.out; have := HJ10.out; have := HJ17.out; have := HJ24.out; first | omega | exact Nat.le_refl _⟩, ⟨by (with_reducible repeat (first | refine bN ?_ _ | refine bD ?_ | refine bA ?_ _)); exact BK188.out⟩, ⟨by (with_reducible repeat (first | refine bN ?_ _ | refine bD ?_ | refine bA ?_ _)); exact BK189.out⟩, ⟨by repeat (first | (with_reducible first | exact HB.out | apply wA | apply wN | apply w1 | refine wS ?_ GE188.out | refine wS ?_ GE189.out) | exact HB.out)⟩⟩
              ·rw [if_neg c44] at H
               have c44b0 : (a0_2.toList == ([] : List UInt8)) = false := beq_eq_false_iff_ne.mpr c44
               have c44b1 : (a0_2.toList != ([] : List UInt8)) = true := bne_iff_ne.mpr c44
               by_cases c50 : a0_0 = 1
               ·rw [if_pos c50] at H
                have c50b0 : (a0_0 == 1) = true := beq_iff_eq.mpr c50
                have c50b1 : (a0_0 != 1) = false := bne_eq_false_iff_eq.mpr c50
                clear c50
                have H' := Aside0.mk H
                clear H
                have hnb51 := NB188_189.out
                have hnc51 := NB189_188.out
                have hcz52_0 : wc.cell? ⟨gb188, 0, none⟩ = some (.int .u8 a0_0) := (bC BK188.out 0).trans rfl
                have hcz52_1 : wc.cell? ⟨gb188, 1, none⟩ = some (.int .i64 a0_1) := (bC BK188.out 1).trans rfl
                have hcz52_2 : wc.cell? ⟨gb188, 2, none⟩ = some (.string a0_2) := (bC BK188.out 2).trans rfl
                have hcz52_3 : wc.cell? ⟨gb188, 3, none⟩ = some (.string a0_3) := (bC BK188.out 3).trans rfl
                have hcz52_4 : wc.cell? ⟨gb188, 4, none⟩ = some (.string a0_4) := (bC BK188.out 4).trans rfl
                have hcz52_5 : wc.cell? ⟨gb188, 5, none⟩ = some (.int .u64 a0_5) := (bC BK188.out 5).trans rfl
                have hfz52_0 := bF BK188.out 0
                have hfz52_1 := bF BK188.out 1
                have hfz52_2 := bF BK188.out 2
                have hfz52_3 := bF BK188.out 3
                have hfz52_4 := bF BK188.out 4
                have hfz52_5 := bF BK188.out 5
                have hcz53_0 : wc.cell? ⟨gb189, 0, none⟩ = some (.int .i64 a1_0) := (bC BK189.out 0).trans rfl
                have hcz53_1 : wc.cell? ⟨gb189, 1, none⟩ = some (.int .i64 a1_1) := (bC BK189.out 1).trans rfl
                have hcz53_2 : wc.cell? ⟨gb189, 2, none⟩ = some (.int .i64 a1_2) := (bC BK189.out 2).trans rfl
                have hcz53_3 : wc.cell? ⟨gb189, 3, none⟩ = some (.int .i64 a1_3) := (bC BK189.out 3).trans rfl
                have hcz53_4 : wc.cell? ⟨gb189, 4, none⟩ = some (.int .i64 a1_4) := (bC BK189.out 4).trans rfl
                have hcz53_5 : wc.cell? ⟨gb189, 5, none⟩ = some (.int .i64 a1_5) := (bC BK189.out 5).trans rfl
                have hcz53_6 : wc.cell? ⟨gb189, 6, none⟩ = some (.int .i64 a1_6) := (bC BK189.out 6).trans rfl
                have hcz53_7 : wc.cell? ⟨gb189, 7, none⟩ = some (.int .i64 a1_7) := (bC BK189.out 7).trans rfl
                have hcz53_8 : wc.cell? ⟨gb189, 8, none⟩ = some (.int .i64 a1_8) := (bC BK189.out 8).trans rfl
                have hfz53_0 := bF BK189.out 0
                have hfz53_1 := bF BK189.out 1
                have hfz53_2 := bF BK189.out 2
                have hfz53_3 := bF BK189.out 3
                have hfz53_4 := bF BK189.out 4
                have hfz53_5 := bF BK189.out 5
                have hfz53_6 := bF BK189.out 6
                have hfz53_7 := bF BK189.out 7
                have hfz53_8 := bF BK189.out 8
                go_wp2_with (first | (go_at_call 23; (with_reducible refine (catchmentref04_Point.calls a0_0 a0_1 a0_2 a0_3 a0_4 a0_5 true _ A42.out).mono ?_); rintro e w54 ⟨rfl, hb⟩; have n0_ := Aside0.mk (bB (g := gb188) (o := .cells #[.int .u8 a0_0, .int .i64 a0_1, .string a0_2, .string a0_3, .string a0_4, .int .u64 a0_5] 47 (0, 0)) (by (with_reducible repeat (first | refine bN ?_ _ | refine bD ?_ | refine bA ?_ _)); exact BK188.out) hb); have n1_ := Aside0.mk (bB (g := gb189) (o := .cells #[.int .i64 a1_0, .int .i64 a1_1, .int .i64 a1_2, .int .i64 a1_3, .int .i64 a1_4, .int .i64 a1_5, .int .i64 a1_6, .int .i64 a1_7, .int .i64 a1_8] 23 (0, 0)) (by (with_reducible repeat (first | refine bN ?_ _ | refine bD ?_ | refine bA ?_ _)); exact BK189.out) hb); have n2_ := Aside0.mk (wT (by repeat (first | (with_reducible first | exact HB.out | apply wA | apply wN | apply w1 | refine wS ?_ GE188.out | refine wS ?_ GE189.out) | exact HB.out)) hb); clear BK188; clear BK189; clear HB; have BK188 := n0_; have BK189 := n1_; have HB := n2_; clear n0_ n1_ n2_; (try clear hb); (try clear hb2); (try clear hk); (try clear hi); have hcz55_0 : w54.cell? ⟨gb188, 0, none⟩ = some (.int .u8 a0_0) := (bC BK188.out 0).trans rfl; have hcz55_1 : w54.cell? ⟨gb188, 1, none⟩ = some (.int .i64 a0_1) := (bC BK188.out 1).trans rfl; have hcz55_2 : w54.cell? ⟨gb188, 2, none⟩ = some (.string a0_2) := (bC BK188.out 2).trans rfl; have hcz55_3 : w54.cell? ⟨gb188, 3, none⟩ = some (.string a0_3) := (bC BK188.out 3).trans rfl; have hcz55_4 : w54.cell? ⟨gb188, 4, none⟩ = some (.string a0_4) := (bC BK188.out 4).trans rfl; have hcz55_5 : w54.cell? ⟨gb188, 5, none⟩ = some (.int .u64 a0_5) := (bC BK188.out 5).trans rfl; have hfz55_0 := bF BK188.out 0; have hfz55_1 := bF BK188.out 1; have hfz55_2 := bF BK188.out 2; have hfz55_3 := bF BK188.out 3; have hfz55_4 := bF BK188.out 4; have hfz55_5 := bF BK188.out 5; have hcz56_0 : w54.cell? ⟨gb189, 0, none⟩ = some (.int .i64 a1_0) := (bC BK189.out 0).trans rfl; have hcz56_1 : w54.cell? ⟨gb189, 1, none⟩ = some (.int .i64 a1_1) := (bC BK189.out 1).trans rfl; have hcz56_2 : w54.cell? ⟨gb189, 2, none⟩ = some (.int .i64 a1_2) := (bC BK189.out 2).trans rfl; have hcz56_3 : w54.cell? ⟨gb189, 3, none⟩ = some (.int .i64 a1_3) := (bC BK189.out 3).trans rfl; have hcz56_4 : w54.cell? ⟨gb189, 4, none⟩ = some (.int .i64 a1_4) := (bC BK189.out 4).trans rfl; have hcz56_5 : w54.cell? ⟨gb189, 5, none⟩ = some (.int .i64 a1_5) := (bC BK189.out 5).trans rfl; have hcz56_6 : w54.cell? ⟨gb189, 6, none⟩ = some (.int .i64 a1_6) := (bC BK189.out 6).trans rfl; have hcz56_7 : w54.cell? ⟨gb189, 7, none⟩ = some (.int .i64 a1_7) := (bC BK189.out 7).trans rfl; have hcz56_8 : w54.cell? ⟨gb189, 8, none⟩ = some (.int .i64 a1_8) := (bC BK189.out 8).trans rfl; have hfz56_0 := bF BK189.out 0; have hfz56_1 := bF BK189.out 1; have hfz56_2 := bF BK189.out 2; have hfz56_3 := bF BK189.out 3; have hfz56_4 := bF BK189.out 4; have hfz56_5 := bF BK189.out 5; have hfz56_6 := bF BK189.out 6; have hfz56_7 := bF BK189.out 7; have hfz56_8 := bF BK189.out 8))
                go_meet
                case rel => exact ⟨_, (decide ((a0_4.size : Int) > a1_1)), (by first | rfl | (simp; done) | (simp [*]; done)), H', ⟨by have := HJ2.out; have := HJ10.out; have := HJ17.out; have := HJ24.out; first | omega | exact Nat.le_refl _⟩, ⟨by (with_reducible repeat (first | refine bN ?_ _ | refine bD ?_ | refine bA ?_ _)); exact BK188.out⟩, ⟨by (with_reducible repeat (first | refine bN ?_ _ | refine bD ?_ | refine bA ?_ _)); exact BK189.out⟩, ⟨by repeat (first | (with_reducible first | exact HB.out | apply wA | apply wN | apply w1 | refine wS ?_ GE188.out | refine wS ?_ GE189.out) | exact HB.out)⟩⟩
               ·rw [if_neg c50] at H
                have c50b0 : (a0_0 == 1) = false := beq_eq_false_iff_ne.mpr c50
                have c50b1 : (a0_0 != 1) = true := bne_iff_ne.mpr c50
                have H' := Aside0.mk H
                clear H
                have hnb57 := NB188_189.out
                have hnc57 := NB189_188.out
                have hcz58_0 : wc.cell? ⟨gb188, 0, none⟩ = some (.int .u8 a0_0) := (bC BK188.out 0).trans rfl
                have hcz58_1 : wc.cell? ⟨gb188, 1, none⟩ = some (.int .i64 a0_1) := (bC BK188.out 1).trans rfl
                have hcz58_2 : wc.cell? ⟨gb188, 2, none⟩ = some (.string a0_2) := (bC BK188.out 2).trans rfl
                have hcz58_3 : wc.cell? ⟨gb188, 3, none⟩ = some (.string a0_3) := (bC BK188.out 3).trans rfl
                have hcz58_4 : wc.cell? ⟨gb188, 4, none⟩ = some (.string a0_4) := (bC BK188.out 4).trans rfl
                have hcz58_5 : wc.cell? ⟨gb188, 5, none⟩ = some (.int .u64 a0_5) := (bC BK188.out 5).trans rfl
                have hfz58_0 := bF BK188.out 0
                have hfz58_1 := bF BK188.out 1
                have hfz58_2 := bF BK188.out 2
                have hfz58_3 := bF BK188.out 3
                have hfz58_4 := bF BK188.out 4
                have hfz58_5 := bF BK188.out 5
                have hcz59_0 : wc.cell? ⟨gb189, 0, none⟩ = some (.int .i64 a1_0) := (bC BK189.out 0).trans rfl
                have hcz59_1 : wc.cell? ⟨gb189, 1, none⟩ = some (.int .i64 a1_1) := (bC BK189.out 1).trans rfl
                have hcz59_2 : wc.cell? ⟨gb189, 2, none⟩ = some (.int .i64 a1_2) := (bC BK189.out 2).trans rfl
                have hcz59_3 : wc.cell? ⟨gb189, 3, none⟩ = some (.int .i64 a1_3) := (bC BK189.out 3).trans rfl
                have hcz59_4 : wc.cell? ⟨gb189, 4, none⟩ = some (.int .i64 a1_4) := (bC BK189.out 4).trans rfl
                have hcz59_5 : wc.cell? ⟨gb189, 5, none⟩ = some (.int .i64 a1_5) := (bC BK189.out 5).trans rfl
                have hcz59_6 : wc.cell? ⟨gb189, 6, none⟩ = some (.int .i64 a1_6) := (bC BK189.out 6).trans rfl
                have hcz59_7 : wc.cell? ⟨gb189, 7, none⟩ = some (.int .i64 a1_7) := (bC BK189.out 7).trans rfl
                have hcz59_8 : wc.cell? ⟨gb189, 8, none⟩ = some (.int .i64 a1_8) := (bC BK189.out 8).trans rfl
                have hfz59_0 := bF BK189.out 0
                have hfz59_1 := bF BK189.out 1
                have hfz59_2 := bF BK189.out 2
                have hfz59_3 := bF BK189.out 3
                have hfz59_4 := bF BK189.out 4
                have hfz59_5 := bF BK189.out 5
                have hfz59_6 := bF BK189.out 6
                have hfz59_7 := bF BK189.out 7
                have hfz59_8 := bF BK189.out 8
                go_wp2_with (first | (go_at_call 23; (with_reducible refine (catchmentref04_Point.calls a0_0 a0_1 a0_2 a0_3 a0_4 a0_5 true _ A42.out).mono ?_); rintro e w60 ⟨rfl, hb⟩; have n0_ := Aside0.mk (bB (g := gb188) (o := .cells #[.int .u8 a0_0, .int .i64 a0_1, .string a0_2, .string a0_3, .string a0_4, .int .u64 a0_5] 47 (0, 0)) (by (with_reducible repeat (first | refine bN ?_ _ | refine bD ?_ | refine bA ?_ _)); exact BK188.out) hb); have n1_ := Aside0.mk (bB (g := gb189) (o := .cells #[.int .i64 a1_0, .int .i64 a1_1, .int .i64 a1_2, .int .i64 a1_3, .int .i64 a1_4, .int .i64 a1_5, .int .i64 a1_6, .int .i64 a1_7, .int .i64 a1_8] 23 (0, 0)) (by (with_reducible repeat (first | refine bN ?_ _ | refine bD ?_ | refine bA ?_ _)); exact BK189.out) hb); have n2_ := Aside0.mk (wT (by repeat (first | (with_reducible first | exact HB.out | apply wA | apply wN | apply w1 | refine wS ?_ GE188.out | refine wS ?_ GE189.out) | exact HB.out)) hb); clear BK188; clear BK189; clear HB; have BK188 := n0_; have BK189 := n1_; have HB := n2_; clear n0_ n1_ n2_; (try clear hb); (try clear hb2); (try clear hk); (try clear hi); have hcz61_0 : w60.cell? ⟨gb188, 0, none⟩ = some (.int .u8 a0_0) := (bC BK188.out 0).trans rfl; have hcz61_1 : w60.cell? ⟨gb188, 1, none⟩ = some (.int .i64 a0_1) := (bC BK188.out 1).trans rfl; have hcz61_2 : w60.cell? ⟨gb188, 2, none⟩ = some (.string a0_2) := (bC BK188.out 2).trans rfl; have hcz61_3 : w60.cell? ⟨gb188, 3, none⟩ = some (.string a0_3) := (bC BK188.out 3).trans rfl; have hcz61_4 : w60.cell? ⟨gb188, 4, none⟩ = some (.string a0_4) := (bC BK188.out 4).trans rfl; have hcz61_5 : w60.cell? ⟨gb188, 5, none⟩ = some (.int .u64 a0_5) := (bC BK188.out 5).trans rfl; have hfz61_0 := bF BK188.out 0; have hfz61_1 := bF BK188.out 1; have hfz61_2 := bF BK188.out 2; have hfz61_3 := bF BK188.out 3; have hfz61_4 := bF BK188.out 4; have hfz61_5 := bF BK188.out 5))
                go_meet
                case rel => exact ⟨_, (false), (by first | rfl | (simp; done) | (simp [*]; done)), H', ⟨by have := HJ2.out; have := HJ10.out; have := HJ17.out; have := HJ24.out; first | omega | exact Nat.le_refl _⟩, ⟨by (with_reducible repeat (first | refine bN ?_ _ | refine bD ?_ | refine bA ?_ _)); exact BK188.out⟩, ⟨by (with_reducible repeat (first | refine bN ?_ _ | refine bD ?_ | refine bA ?_ _)); exact BK189.out⟩, ⟨by repeat (first | (with_reducible first | exact HB.out | apply wA | apply wN | apply w1 | refine wS ?_ GE188.out | refine wS ?_ GE189.out) | exact HB.out)⟩⟩
             ·replace c43 := Bool.eq_false_iff.mpr c43
              subst c43
              have H1 : (if a0_0 = 1 then (catchmentref04_Check.j4 kj24 (decide ((a0_4.size : Int) > a1_1)) a0_0 a0_1 a0_2 a0_3 a0_4 a0_5) else (catchmentref04_Check.j4 kj24 false a0_0 a0_1 a0_2 a0_3 a0_4 a0_5)) = some r := by rw [if_neg (show ¬ (false = true) by decide)] at H; exact H
              clear H
              have H := H1
              clear H1
              by_cases c62 : a0_0 = 1
              ·rw [if_pos c62] at H
               have c62b0 : (a0_0 == 1) = true := beq_iff_eq.mpr c62
               have c62b1 : (a0_0 != 1) = false := bne_eq_false_iff_eq.mpr c62
               clear c62
               have H' := Aside0.mk H
               clear H
               have hnb63 := NB188_189.out
               have hnc63 := NB189_188.out
               have hcz64_0 : wc.cell? ⟨gb188, 0, none⟩ = some (.int .u8 a0_0) := (bC BK188.out 0).trans rfl
               have hcz64_1 : wc.cell? ⟨gb188, 1, none⟩ = some (.int .i64 a0_1) := (bC BK188.out 1).trans rfl
               have hcz64_2 : wc.cell? ⟨gb188, 2, none⟩ = some (.string a0_2) := (bC BK188.out 2).trans rfl
               have hcz64_3 : wc.cell? ⟨gb188, 3, none⟩ = some (.string a0_3) := (bC BK188.out 3).trans rfl
               have hcz64_4 : wc.cell? ⟨gb188, 4, none⟩ = some (.string a0_4) := (bC BK188.out 4).trans rfl
               have hcz64_5 : wc.cell? ⟨gb188, 5, none⟩ = some (.int .u64 a0_5) := (bC BK188.out 5).trans rfl
               have hfz64_0 := bF BK188.out 0
               have hfz64_1 := bF BK188.out 1
               have hfz64_2 := bF BK188.out 2
               have hfz64_3 := bF BK188.out 3
               have hfz64_4 := bF BK188.out 4
               have hfz64_5 := bF BK188.out 5
               have hcz65_0 : wc.cell? ⟨gb189, 0, none⟩ = some (.int .i64 a1_0) := (bC BK189.out 0).trans rfl
               have hcz65_1 : wc.cell? ⟨gb189, 1, none⟩ = some (.int .i64 a1_1) := (bC BK189.out 1).trans rfl
               have hcz65_2 : wc.cell? ⟨gb189, 2, none⟩ = some (.int .i64 a1_2) := (bC BK189.out 2).trans rfl
               have hcz65_3 : wc.cell? ⟨gb189, 3, none⟩ = some (.int .i64 a1_3) := (bC BK189.out 3).trans rfl
               have hcz65_4 : wc.cell? ⟨gb189, 4, none⟩ = some (.int .i64 a1_4) := (bC BK189.out 4).trans rfl
               have hcz65_5 : wc.cell? ⟨gb189, 5, none⟩ = some (.int .i64 a1_5) := (bC BK189.out 5).trans rfl
               have hcz65_6 : wc.cell? ⟨gb189, 6, none⟩ = some (.int .i64 a1_6) := (bC BK189.out 6).trans rfl
               have hcz65_7 : wc.cell? ⟨gb189, 7, none⟩ = some (.int .i64 a1_7) := (bC BK189.out 7).trans rfl
               have hcz65_8 : wc.cell? ⟨gb189, 8, none⟩ = some (.int .i64 a1_8) := (bC BK189.out 8).trans rfl
               have hfz65_0 := bF BK189.out 0
               have hfz65_1 := bF BK189.out 1
               have hfz65_2 := bF BK189.out 2
               have hfz65_3 := bF BK189.out 3
               have hfz65_4 := bF BK189.out 4
               have hfz65_5 := bF BK189.out 5
               have hfz65_6 := bF BK189.out 6
               have hfz65_7 := bF BK189.out 7
               have hfz65_8 := bF BK189.out 8
               go_wp2_with (first | (go_at_call 23; (with_reducible refine (catchmentref04_Point.calls a0_0 a0_1 a0_2 a0_3 a0_4 a0_5 false _ A42.out).mono ?_); rintro e w66 ⟨rfl, hb⟩; have n0_ := Aside0.mk (bB (g := gb188) (o := .cells #[.int .u8 a0_0, .int .i64 a0_1, .string a0_2, .string a0_3, .string a0_4, .int .u64 a0_5] 47 (0, 0)) (by (with_reducible repeat (first | refine bN ?_ _ | refine bD ?_ | refine bA ?_ _)); exact BK188.out) hb); have n1_ := Aside0.mk (bB (g := gb189) (o := .cells #[.int .i64 a1_0, .int .i64 a1_1, .int .i64 a1_2, .int .i64 a1_3, .int .i64 a1_4, .int .i64 a1_5, .int .i64 a1_6, .int .i64 a1_7, .int .i64 a1_8] 23 (0, 0)) (by (with_reducible repeat (first | refine bN ?_ _ | refine bD ?_ | refine bA ?_ _)); exact BK189.out) hb); have n2_ := Aside0.mk (wT (by repeat (first | (with_reducible first | exact HB.out | apply wA | apply wN | apply w1 | refine wS ?_ GE188.out | refine wS ?_ GE189.out) | exact HB.out)) hb); clear BK188; clear BK189; clear HB; have BK188 := n0_; have BK189 := n1_; have HB := n2_; clear n0_ n1_ n2_; (try clear hb); (try clear hb2); (try clear hk); (try clear hi); have hcz67_0 : w66.cell? ⟨gb188, 0, none⟩ = some (.int .u8 a0_0) := (bC BK188.out 0).trans rfl; have hcz67_1 : w66.cell? ⟨gb188, 1, none⟩ = some (.int .i64 a0_1) := (bC BK188.out 1).trans rfl; have hcz67_2 : w66.cell? ⟨gb188, 2, none⟩ = some (.string a0_2) := (bC BK188.out 2).trans rfl; have hcz67_3 : w66.cell? ⟨gb188, 3, none⟩ = some (.string a0_3) := (bC BK188.out 3).trans rfl; have hcz67_4 : w66.cell? ⟨gb188, 4, none⟩ = some (.string a0_4) := (bC BK188.out 4).trans rfl; have hcz67_5 : w66.cell? ⟨gb188, 5, none⟩ = some (.int .u64 a0_5) := (bC BK188.out 5).trans rfl; have hfz67_0 := bF BK188.out 0; have hfz67_1 := bF BK188.out 1; have hfz67_2 := bF BK188.out 2; have hfz67_3 := bF BK188.out 3; have hfz67_4 := bF BK188.out 4; have hfz67_5 := bF BK188.out 5; have hcz68_0 : w66.cell? ⟨gb189, 0, none⟩ = some (.int .i64 a1_0) := (bC BK189.out 0).trans rfl; have hcz68_1 : w66.cell? ⟨gb189, 1, none⟩ = some (.int .i64 a1_1) := (bC BK189.out 1).trans rfl; have hcz68_2 : w66.cell? ⟨gb189, 2, none⟩ = some (.int .i64 a1_2) := (bC BK189.out 2).trans rfl; have hcz68_3 : w66.cell? ⟨gb189, 3, none⟩ = some (.int .i64 a1_3) := (bC BK189.out 3).trans rfl; have hcz68_4 : w66.cell? ⟨gb189, 4, none⟩ = some (.int .i64 a1_4) := (bC BK189.out 4).trans rfl; have hcz68_5 : w66.cell? ⟨gb189, 5, none⟩ = some (.int .i64 a1_5) := (bC BK189.out 5).trans rfl; have hcz68_6 : w66.cell? ⟨gb189, 6, none⟩ = some (.int .i64 a1_6) := (bC BK189.out 6).trans rfl; have hcz68_7 : w66.cell? ⟨gb189, 7, none⟩ = some (.int .i64 a1_7) := (bC BK189.out 7).trans rfl; have hcz68_8 : w66.cell? ⟨gb189, 8, none⟩ = some (.int .i64 a1_8) := (bC BK189.out 8).trans rfl; have hfz68_0 := bF BK189.out 0; have hfz68_1 := bF BK189.out 1; have hfz68_2 := bF BK189.out 2; have hfz68_3 := bF BK189.out 3; have hfz68_4 := bF BK189.out 4; have hfz68_5 := bF BK189.out 5; have hfz68_6 := bF BK189.out 6; have hfz68_7 := bF BK189.out 7; have hfz68_8 := bF BK189.out 8))
               go_meet
               case rel => exact ⟨_, (decide ((a0_4.size : Int) > a1_1)), (by first | rfl | (simp; done) | (simp [*]; done)), H', ⟨by have := HJ2.out; have := HJ10.out; have := HJ17.out; have := HJ24.out; first | omega | exact Nat.le_refl _⟩, ⟨by (with_reducible repeat (first | refine bN ?_ _ | refine bD ?_ | refine bA ?_ _)); exact BK188.out⟩, ⟨by (with_reducible repeat (first | refine bN ?_ _ | refine bD ?_ | refine bA ?_ _)); exact BK189.out⟩, ⟨by repeat (first | (with_reducible first | exact HB.out | apply wA | apply wN | apply w1 | refine wS ?_ GE188.out | refine wS ?_ GE189.out) | exact HB.out)⟩⟩
              ·rw [if_neg c62] at H
               have c62b0 : (a0_0 == 1) = false := beq_eq_false_iff_ne.mpr c62
               have c62b1 : (a0_0 != 1) = true := bne_iff_ne.mpr c62
               have H' := Aside0.mk H
               clear H
               have hnb69 := NB188_189.out
               have hnc69 := NB189_188.out
               have hcz70_0 : wc.cell? ⟨gb188, 0, none⟩ = some (.int .u8 a0_0) := (bC BK188.out 0).trans rfl
               have hcz70_1 : wc.cell? ⟨gb188, 1, none⟩ = some (.int .i64 a0_1) := (bC BK188.out 1).trans rfl
               have hcz70_2 : wc.cell? ⟨gb188, 2, none⟩ = some (.string a0_2) := (bC BK188.out 2).trans rfl
               have hcz70_3 : wc.cell? ⟨gb188, 3, none⟩ = some (.string a0_3) := (bC BK188.out 3).trans rfl
               have hcz70_4 : wc.cell? ⟨gb188, 4, none⟩ = some (.string a0_4) := (bC BK188.out 4).trans rfl
               have hcz70_5 : wc.cell? ⟨gb188, 5, none⟩ = some (.int .u64 a0_5) := (bC BK188.out 5).trans rfl
               have hfz70_0 := bF BK188.out 0
               have hfz70_1 := bF BK188.out 1
               have hfz70_2 := bF BK188.out 2
               have hfz70_3 := bF BK188.out 3
               have hfz70_4 := bF BK188.out 4
               have hfz70_5 := bF BK188.out 5
               have hcz71_0 : wc.cell? ⟨gb189, 0, none⟩ = some (.int .i64 a1_0) := (bC BK189.out 0).trans rfl
               have hcz71_1 : wc.cell? ⟨gb189, 1, none⟩ = some (.int .i64 a1_1) := (bC BK189.out 1).trans rfl
               have hcz71_2 : wc.cell? ⟨gb189, 2, none⟩ = some (.int .i64 a1_2) := (bC BK189.out 2).trans rfl
               have hcz71_3 : wc.cell? ⟨gb189, 3, none⟩ = some (.int .i64 a1_3) := (bC BK189.out 3).trans rfl
               have hcz71_4 : wc.cell? ⟨gb189, 4, none⟩ = some (.int .i64 a1_4) := (bC BK189.out 4).trans rfl
               have hcz71_5 : wc.cell? ⟨gb189, 5, none⟩ = some (.int .i64 a1_5) := (bC BK189.out 5).trans rfl
               have hcz71_6 : wc.cell? ⟨gb189, 6, none⟩ = some (.int .i64 a1_6) := (bC BK189.out 6).trans rfl
               have hcz71_7 : wc.cell? ⟨gb189, 7, none⟩ = some (.int .i64 a1_7) := (bC BK189.out 7).trans rfl
               have hcz71_8 : wc.cell? ⟨gb189, 8, none⟩ = some (.int .i64 a1_8) := (bC BK189.out 8).trans rfl
               have hfz71_0 := bF BK189.out 0
               have hfz71_1 := bF BK189.out 1
               have hfz71_2 := bF BK189.out 2
               have hfz71_3 := bF BK189.out 3
               have hfz71_4 := bF BK189.out 4
               have hfz71_5 := bF BK189.out 5
               have hfz71_6 := bF BK189.out 6
               have hfz71_7 := bF BK189.out 7
               have hfz71_8 := bF BK189.out 8
               go_wp2_with (first | (go_at_call 23; (with_reducible refine (catchmentref04_Point.calls a0_0 a0_1 a0_2 a0_3 a0_4 a0_5 false _ A42.out).mono ?_); rintro e w72 ⟨rfl, hb⟩; have n0_ := Aside0.mk (bB (g := gb188) (o := .cells #[.int .u8 a0_0, .int .i64 a0_1, .string a0_2, .string a0_3, .string a0_4, .int .u64 a0_5] 47 (0, 0)) (by (with_reducible repeat (first | refine bN ?_ _ | refine bD ?_ | refine bA ?_ _)); exact BK188.out) hb); have n1_ := Aside0.mk (bB (g := gb189) (o := .cells #[.int .i64 a1_0, .int .i64 a1_1, .int .i64 a1_2, .int .i64 a1_3, .int .i64 a1_4, .int .i64 a1_5, .int .i64 a1_6, .int .i64 a1_7, .int .i64 a1_8] 23 (0, 0)) (by (with_reducible repeat (first | refine bN ?_ _ | refine bD ?_ | refine bA ?_ _)); exact BK189.out) hb); have n2_ := Aside0.mk (wT (by repeat (first | (with_reducible first | exact HB.out | apply wA | apply wN | apply w1 | refine wS ?_ GE188.out | refine wS ?_ GE189.out) | exact HB.out)) hb); clear BK188; clear BK189; clear HB; have BK188 := n0_; have BK189 := n1_; have HB := n2_; clear n0_ n1_ n2_; (try clear hb); (try clear hb2); (try clear hk); (try clear hi); have hcz73_0 : w72.cell? ⟨gb188, 0, none⟩ = some (.int .u8 a0_0) := (bC BK188.out 0).trans rfl; have hcz73_1 : w72.cell? ⟨gb188, 1, none⟩ = some (.int .i64 a0_1) := (bC BK188.out 1).trans rfl; have hcz73_2 : w72.cell? ⟨gb188, 2, none⟩ = some (.string a0_2) := (bC BK188.out 2).trans rfl; have hcz73_3 : w72.cell? ⟨gb188, 3, none⟩ = some (.string a0_3) := (bC BK188.out 3).trans rfl; have hcz73_4 : w72.cell? ⟨gb188, 4, none⟩ = some (.string a0_4) := (bC BK188.out 4).trans rfl; have hcz73_5 : w72.cell? ⟨gb188, 5, none⟩ = some (.int .u64 a0_5) := (bC BK188.out 5).trans rfl; have hfz73_0 := bF BK188.out 0; have hfz73_1 := bF BK188.out 1; have hfz73_2 := bF BK188.out 2; have hfz73_3 := bF BK188.out 3; have hfz73_4 := bF BK188.out 4; have hfz73_5 := bF BK188.out 5))
               go_meet
               case rel => exact ⟨_, (false), (by first | rfl | (simp; done) | (simp [*]; done)), H', ⟨by have := HJ2.out; have := HJ10.out; have := HJ17.out; have := HJ24.out; first | omega | exact Nat.le_refl _⟩, ⟨by (with_reducible repeat (first | refine bN ?_ _ | refine bD ?_ | refine bA ?_ _)); exact BK188.out⟩, ⟨by (with_reducible repeat (first | refine bN ?_ _ | refine bD ?_ | refine bA ?_ _)); exact BK189.out⟩, ⟨by repeat (first | (with_reducible first | exact HB.out | apply wA | apply wN | apply w1 | refine wS ?_ GE188.out | refine wS ?_ GE189.out) | exact HB.out)⟩⟩
          case rest =>
           clear HC33
           try clear c1
           try clear c2
           try clear p2
           try clear c3
           try clear c4
           try clear c5
           try clear c6
           try clear c6b0
           try clear c7
           try clear c9
           try clear c12
           try clear c13
           try clear c13b0
           try clear c13b1
           try clear c14
           try clear c16
           try clear c18
           try clear c19
           try clear c20
           try clear c20b0
           try clear c20b1
           try clear c21
           try clear c23
           try clear c26
           try clear c27
           try clear c27b0
           try clear c27b1
           try clear c28
           try clear c30
           try clear c32
           try clear c34
           try clear c34b0
           try clear c35
           try clear c38
           try clear c38b0
           try clear c39
           try clear c43
           try clear c44
           try clear c44b0
           try clear c44b1
           try clear c45
           try clear c50
           try clear c50b0
           try clear c50b1
           try clear c51
           try clear c57
           try clear c62
           try clear c62b0
           try clear c62b1
           try clear c63
           try clear c69
           try clear hcz10_0
           try clear hcz10_1
           try clear hcz10_2
           try clear hcz10_3
           try clear hcz10_4
           try clear hcz10_5
           try clear hcz15_0
           try clear hcz15_1
           try clear hcz15_2
           try clear hcz15_3
           try clear hcz15_4
           try clear hcz15_5
           try clear hcz17_0
           try clear hcz17_1
           try clear hcz17_2
           try clear hcz17_3
           try clear hcz17_4
           try clear hcz17_5
           try clear hcz22_0
           try clear hcz22_1
           try clear hcz22_2
           try clear hcz22_3
           try clear hcz22_4
           try clear hcz22_5
           try clear hcz24_0
           try clear hcz24_1
           try clear hcz24_2
           try clear hcz24_3
           try clear hcz24_4
           try clear hcz24_5
           try clear hcz29_0
           try clear hcz29_1
           try clear hcz29_2
           try clear hcz29_3
           try clear hcz29_4
           try clear hcz29_5
           try clear hcz31_0
           try clear hcz31_1
           try clear hcz31_2
           try clear hcz31_3
           try clear hcz31_4
           try clear hcz31_5
           try clear hcz36_0
           try clear hcz36_1
           try clear hcz36_2
           try clear hcz36_3
           try clear hcz36_4
           try clear hcz36_5
           try clear hcz37_0
           try clear hcz37_1
           try clear hcz37_2
           try clear hcz37_3
           try clear hcz37_4
           try clear hcz37_5
           try clear hcz37_6
           try clear hcz37_7
           try clear hcz37_8
           try clear hcz40_0
           try clear hcz40_1
           try clear hcz40_2
           try clear hcz40_3
           try clear hcz40_4
           try clear hcz40_5
           try clear hcz41_0
           try clear hcz41_1
           try clear hcz41_2
           try clear hcz41_3
           try clear hcz41_4
           try clear hcz41_5
           try clear hcz41_6
           try clear hcz41_7
           try clear hcz41_8
           try clear hcz46_0
           try clear hcz46_1
           try clear hcz46_2
           try clear hcz46_3
           try clear hcz46_4
           try clear hcz46_5
           try clear hcz47_0
           try clear hcz47_1
           try clear hcz47_2
           try clear hcz47_3
           try clear hcz47_4
           try clear hcz47_5
           try clear hcz47_6
           try clear hcz47_7
           try clear hcz47_8
           try clear hcz49_0
           try clear hcz49_1
           try clear hcz49_2
           try clear hcz49_3
           try clear hcz49_4
           try clear hcz49_5
           try clear hcz52_0
           try clear hcz52_1
           try clear hcz52_2
           try clear hcz52_3
           try clear hcz52_4
           try clear hcz52_5
           try clear hcz53_0
           try clear hcz53_1
           try clear hcz53_2
           try clear hcz53_3
           try clear hcz53_4
           try clear hcz53_5
           try clear hcz53_6
           try clear hcz53_7
           try clear hcz53_8
           try clear hcz55_0
           try clear hcz55_1
           try clear hcz55_2
           try clear hcz55_3
           try clear hcz55_4
           try clear hcz55_5
           try clear hcz56_0
           try clear hcz56_1
           try clear hcz56_2
           try clear hcz56_3
           try clear hcz56_4
           try clear hcz56_5
           try clear hcz56_6
           try clear hcz56_7
           try clear hcz56_8
           try clear hcz58_0
           try clear hcz58_1
           try clear hcz58_2
           try clear hcz58_3
           try clear hcz58_4
           try clear hcz58_5
           try clear hcz59_0
           try clear hcz59_1
           try clear hcz59_2
           try clear hcz59_3
           try clear hcz59_4
           try clear hcz59_5
           try clear hcz59_6
           try clear hcz59_7
           try clear hcz59_8
           try clear hcz61_0
           try clear hcz61_1
           try clear hcz61_2
           try clear hcz61_3
           try clear hcz61_4
           try clear hcz61_5
           try clear hcz64_0
           try clear hcz64_1
           try clear hcz64_2
           try clear hcz64_3
           try clear hcz64_4
           try clear hcz64_5
           try clear hcz65_0
           try clear hcz65_1
           try clear hcz65_2
           try clear hcz65_3
           try clear hcz65_4
           try clear hcz65_5
           try clear hcz65_6
           try clear hcz65_7
           try clear hcz65_8
           try clear hcz67_0
           try clear hcz67_1
           try clear hcz67_2
           try clear hcz67_3
           try clear hcz67_4
           try clear hcz67_5
           try clear hcz68_0
           try clear hcz68_1
           try clear hcz68_2
           try clear hcz68_3
           try clear hcz68_4
           try clear hcz68_5
           try clear hcz68_6
           try clear hcz68_7
           try clear hcz68_8
           try clear hcz70_0
           try clear hcz70_1
           try clear hcz70_2
           try clear hcz70_3
           try clear hcz70_4
           try clear hcz70_5
           try clear hcz71_0
           try clear hcz71_1
           try clear hcz71_2
           try clear hcz71_3
           try clear hcz71_4
           try clear hcz71_5
           try clear hcz71_6
           try clear hcz71_7
           try clear hcz71_8
           try clear hcz73_0
           try clear hcz73_1
           try clear hcz73_2
           try clear hcz73_3
           try clear hcz73_4
           try clear hcz73_5
           try clear hcz8_0
           try clear hcz8_1
           try clear hcz8_2
           try clear hcz8_3
           try clear hcz8_4
           try clear hcz8_5
           try clear hfz10_0
           try clear hfz10_1
           try clear hfz10_2
           try clear hfz10_3
           try clear hfz10_4
           try clear hfz10_5
           try clear hfz15_0
           try clear hfz15_1
           try clear hfz15_2
           try clear hfz15_3
           try clear hfz15_4
           try clear hfz15_5
           try clear hfz17_0
           try clear hfz17_1
           try clear hfz17_2
           try clear hfz17_3
           try clear hfz17_4
           try clear hfz17_5
           try clear hfz22_0
           try clear hfz22_1
           try clear hfz22_2
           try clear hfz22_3
           try clear hfz22_4
           try clear hfz22_5
           try clear hfz24_0
           try clear hfz24_1
           try clear hfz24_2
           try clear hfz24_3
           try clear hfz24_4
           try clear hfz24_5
           try clear hfz29_0
           try clear hfz29_1
           try clear hfz29_2
           try clear hfz29_3
           try clear hfz29_4
           try clear hfz29_5
           try clear hfz31_0
           try clear hfz31_1
           try clear hfz31_2
           try clear hfz31_3
           try clear hfz31_4
           try clear hfz31_5
           try clear hfz36_0
           try clear hfz36_1
           try clear hfz36_2
           try clear hfz36_3
           try clear hfz36_4
           try clear hfz36_5
           try clear hfz37_0
           try clear hfz37_1
           try clear hfz37_2
           try clear hfz37_3
           try clear hfz37_4
           try clear hfz37_5
           try clear hfz37_6
           try clear hfz37_7
           try clear hfz37_8
           try clear hfz40_0
           try clear hfz40_1
           try clear hfz40_2
           try clear hfz40_3
           try clear hfz40_4
           try clear hfz40_5
           try clear hfz41_0
           try clear hfz41_1
           try clear hfz41_2
           try clear hfz41_3
           try clear hfz41_4
           try clear hfz41_5
           try clear hfz41_6
           try clear hfz41_7
           try clear hfz41_8
           try clear hfz46_0
           try clear hfz46_1
           try clear hfz46_2
           try clear hfz46_3
           try clear hfz46_4
           try clear hfz46_5
           try clear hfz47_0
           try clear hfz47_1
           try clear hfz47_2
           try clear hfz47_3
           try clear hfz47_4
           try clear hfz47_5
           try clear hfz47_6
           try clear hfz47_7
           try clear hfz47_8
           try clear hfz49_0
           try clear hfz49_1
           try clear hfz49_2
           try clear hfz49_3
           try clear hfz49_4
           try clear hfz49_5
           try clear hfz52_0
           try clear hfz52_1
           try clear hfz52_2
           try clear hfz52_3
           try clear hfz52_4
           try clear hfz52_5
           try clear hfz53_0
           try clear hfz53_1
           try clear hfz53_2
           try clear hfz53_3
           try clear hfz53_4
           try clear hfz53_5
           try clear hfz53_6
           try clear hfz53_7
           try clear hfz53_8
           try clear hfz55_0
           try clear hfz55_1
           try clear hfz55_2
           try clear hfz55_3
           try clear hfz55_4
           try clear hfz55_5
           try clear hfz56_0
           try clear hfz56_1
           try clear hfz56_2
           try clear hfz56_3
           try clear hfz56_4
           try clear hfz56_5
           try clear hfz56_6
           try clear hfz56_7
           try clear hfz56_8
           try clear hfz58_0
           try clear hfz58_1
           try clear hfz58_2
           try clear hfz58_3
           try clear hfz58_4
           try clear hfz58_5
           try clear hfz59_0
           try clear hfz59_1
           try clear hfz59_2
           try clear hfz59_3
           try clear hfz59_4
           try clear hfz59_5
           try clear hfz59_6
           try clear hfz59_7
           try clear hfz59_8
           try clear hfz61_0
           try clear hfz61_1
           try clear hfz61_2
           try clear hfz61_3
           try clear hfz61_4
           try clear hfz61_5
           try clear hfz64_0
           try clear hfz64_1
           try clear hfz64_2
           try clear hfz64_3
           try clear hfz64_4
           try clear hfz64_5
           try clear hfz65_0
           try clear hfz65_1
           try clear hfz65_2
           try clear hfz65_3
           try clear hfz65_4
           try clear hfz65_5
           try clear hfz65_6
           try clear hfz65_7
           try clear hfz65_8
           try clear hfz67_0
           try clear hfz67_1
           try clear hfz67_2
           try clear hfz67_3
           try clear hfz67_4
           try clear hfz67_5
           try clear hfz68_0
           try clear hfz68_1
           try clear hfz68_2
           try clear hfz68_3
           try clear hfz68_4
           try clear hfz68_5
           try clear hfz68_6
           try clear hfz68_7
           try clear hfz68_8
           try clear hfz70_0
           try clear hfz70_1
           try clear hfz70_2
           try clear hfz70_3
           try clear hfz70_4
           try clear hfz70_5
           try clear hfz71_0
           try clear hfz71_1
           try clear hfz71_2
           try clear hfz71_3
           try clear hfz71_4
           try clear hfz71_5
           try clear hfz71_6
           try clear hfz71_7
           try clear hfz71_8
           try clear hfz73_0
           try clear hfz73_1
           try clear hfz73_2
           try clear hfz73_3
           try clear hfz73_4
           try clear hfz73_5
           try clear hfz8_0
           try clear hfz8_1
           try clear hfz8_2
           try clear hfz8_3
           try clear hfz8_4
           try clear hfz8_5
           try clear p2
           obtain ⟨kq, x83_32, rfl, HA, HJ32, BK188, BK189, HB⟩ := hcut
           cases kq with
           | zero => exact absurd HA.out (by simp [catchmentref04_Check.j4])
           | succ kj32 =>
            have H := HA.out
            clear HA
            simp only [catchmentref04_Check.j4] at H
            by_cases c74 : x83_32 = true
            ·subst c74
             have H1 : (some 6) = some r := by rw [if_pos rfl] at H; exact H
             clear H
             have H := H1
             clear H1
             obtain rfl := Option.some.inj H
             go_wp2
             go_ret
             exact ⟨by first | rfl | (simp [errW_none, errW_some] <;> rfl) | (simp [*, errW_none, errW_some] <;> rfl), by repeat (first | (with_reducible first | exact HB.out | apply wA | apply wN | apply w1 | refine wS ?_ GE188.out | refine wS ?_ GE189.out) | exact HB.out)⟩
            ·replace c74 := Bool.eq_false_iff.mpr c74
             subst c74
             have H1 : (if a0_0 = 4 then (if a0_3.toList = ([] : List UInt8) then (some 0) else (if ((Op.bytesLess a0_2.toList a0_3.toList) = true) then (some 0) else (some 7))) else (some 0)) = some r := by rw [if_neg (show ¬ (false = true) by decide)] at H; exact H
             clear H
             have H := H1
             clear H1
             by_cases c75 : a0_0 = 4
             ·rw [if_pos c75] at H
              have c75b0 : (a0_0 == 4) = true := beq_iff_eq.mpr c75
              have c75b1 : (a0_0 != 4) = false := bne_eq_false_iff_eq.mpr c75
              clear c75
              by_cases c76 : a0_3.toList = ([] : List UInt8)
              ·rw [if_pos c76] at H
               have c76b0 : (a0_3.toList == ([] : List UInt8)) = true := beq_iff_eq.mpr c76
               have c76b1 : (a0_3.toList != ([] : List UInt8)) = false := bne_eq_false_iff_eq.mpr c76
               clear c76
               obtain rfl := Option.some.inj H
               have hnb77 := NB188_189.out
               have hnc77 := NB189_188.out
               have hcz78_0 : wc.cell? ⟨gb188, 0, none⟩ = some (.int .u8 a0_0) := (bC BK188.out 0).trans rfl
               have hcz78_1 : wc.cell? ⟨gb188, 1, none⟩ = some (.int .i64 a0_1) := (bC BK188.out 1).trans rfl
               have hcz78_2 : wc.cell? ⟨gb188, 2, none⟩ = some (.string a0_2) := (bC BK188.out 2).trans rfl
               have hcz78_3 : wc.cell? ⟨gb188, 3, none⟩ = some (.string a0_3) := (bC BK188.out 3).trans rfl
               have hcz78_4 : wc.cell? ⟨gb188, 4, none⟩ = some (.string a0_4) := (bC BK188.out 4).trans rfl
               have hcz78_5 : wc.cell? ⟨gb188, 5, none⟩ = some (.int .u64 a0_5) := (bC BK188.out 5).trans rfl
               have hfz78_0 := bF BK188.out 0
               have hfz78_1 := bF BK188.out 1
               have hfz78_2 := bF BK188.out 2
               have hfz78_3 := bF BK188.out 3
               have hfz78_4 := bF BK188.out 4
               have hfz78_5 := bF BK188.out 5
               go_wp2
               go_ret
               exact ⟨by first | rfl | (simp [errW_none, errW_some] <;> rfl) | (simp [*, errW_none, errW_some] <;> rfl), by repeat (first | (with_reducible first | exact HB.out | apply wA | apply wN | apply w1 | refine wS ?_ GE188.out | refine wS ?_ GE189.out) | exact HB.out)⟩
              ·rw [if_neg c76] at H
               have c76b0 : (a0_3.toList == ([] : List UInt8)) = false := beq_eq_false_iff_ne.mpr c76
               have c76b1 : (a0_3.toList != ([] : List UInt8)) = true := bne_iff_ne.mpr c76
               by_cases c79 : ((Op.bytesLess a0_2.toList a0_3.toList) = true)
               ·rw [if_pos c79] at H
                have c79b0 : (Op.bytesLess a0_2.toList a0_3.toList) = true := c79
                clear c79
                obtain rfl := Option.some.inj H
                have hnb80 := NB188_189.out
                have hnc80 := NB189_188.out
                have hcz81_0 : wc.cell? ⟨gb188, 0, none⟩ = some (.int .u8 a0_0) := (bC BK188.out 0).trans rfl
                have hcz81_1 : wc.cell? ⟨gb188, 1, none⟩ = some (.int .i64 a0_1) := (bC BK188.out 1).trans rfl
                have hcz81_2 : wc.cell? ⟨gb188, 2, none⟩ = some (.string a0_2) := (bC BK188.out 2).trans rfl
                have hcz81_3 : wc.cell? ⟨gb188, 3, none⟩ = some (.string a0_3) := (bC BK188.out 3).trans rfl
                have hcz81_4 : wc.cell? ⟨gb188, 4, none⟩ = some (.string a0_4) := (bC BK188.out 4).trans rfl
                have hcz81_5 : wc.cell? ⟨gb188, 5, none⟩ = some (.int .u64 a0_5) := (bC BK188.out 5).trans rfl
                have hfz81_0 := bF BK188.out 0
                have hfz81_1 := bF BK188.out 1
                have hfz81_2 := bF BK188.out 2
                have hfz81_3 := bF BK188.out 3
                have hfz81_4 := bF BK188.out 4
                have hfz81_5 := bF BK188.out 5
                go_wp2
                go_ret
                exact ⟨by first | rfl | (simp [errW_none, errW_some] <;> rfl) | (simp [*, errW_none, errW_some] <;> rfl), by repeat (first | (with_reducible first | exact HB.out | apply wA | apply wN | apply w1 | refine wS ?_ GE188.out | refine wS ?_ GE189.out) | exact HB.out)⟩
               ·rw [if_neg c79] at H
                have c79b0 : (Op.bytesLess a0_2.toList a0_3.toList) = false := by simpa using c79
                clear c79
                obtain rfl := Option.some.inj H
                have hnb82 := NB188_189.out
                have hnc82 := NB189_188.out
                have hcz83_0 : wc.cell? ⟨gb188, 0, none⟩ = some (.int .u8 a0_0) := (bC BK188.out 0).trans rfl
                have hcz83_1 : wc.cell? ⟨gb188, 1, none⟩ = some (.int .i64 a0_1) := (bC BK188.out 1).trans rfl
                have hcz83_2 : wc.cell? ⟨gb188, 2, none⟩ = some (.string a0_2) := (bC BK188.out 2).trans rfl
                have hcz83_3 : wc.cell? ⟨gb188, 3, none⟩ = some (.string a0_3) := (bC BK188.out 3).trans rfl
                have hcz83_4 : wc.cell? ⟨gb188, 4, none⟩ = some (.string a0_4) := (bC BK188.out 4).trans rfl
                have hcz83_5 : wc.cell? ⟨gb188, 5, none⟩ = some (.int .u64 a0_5) := (bC BK188.out 5).trans rfl
                have hfz83_0 := bF BK188.out 0
                have hfz83_1 := bF BK188.out 1
                have hfz83_2 := bF BK188.out 2
                have hfz83_3 := bF BK188.out 3
                have hfz83_4 := bF BK188.out 4
                have hfz83_5 := bF BK188.out 5
                go_wp2
                go_ret
                exact ⟨by first | rfl | (simp [errW_none, errW_some] <;> rfl) | (simp [*, errW_none, errW_some] <;> rfl), by repeat (first | (with_reducible first | exact HB.out | apply wA | apply wN | apply w1 | refine wS ?_ GE188.out | refine wS ?_ GE189.out) | exact HB.out)⟩
             ·rw [if_neg c75] at H
              have c75b0 : (a0_0 == 4) = false := beq_eq_false_iff_ne.mpr c75
              have c75b1 : (a0_0 != 4) = true := bne_iff_ne.mpr c75
              obtain rfl := Option.some.inj H
              have hnb84 := NB188_189.out
              have hnc84 := NB189_188.out
              have hcz85_0 : wc.cell? ⟨gb188, 0, none⟩ = some (.int .u8 a0_0) := (bC BK188.out 0).trans rfl
              have hcz85_1 : wc.cell? ⟨gb188, 1, none⟩ = some (.int .i64 a0_1) := (bC BK188.out 1).trans rfl
              have hcz85_2 : wc.cell? ⟨gb188, 2, none⟩ = some (.string a0_2) := (bC BK188.out 2).trans rfl
              have hcz85_3 : wc.cell? ⟨gb188, 3, none⟩ = some (.string a0_3) := (bC BK188.out 3).trans rfl
              have hcz85_4 : wc.cell? ⟨gb188, 4, none⟩ = some (.string a0_4) := (bC BK188.out 4).trans rfl
              have hcz85_5 : wc.cell? ⟨gb188, 5, none⟩ = some (.int .u64 a0_5) := (bC BK188.out 5).trans rfl
              have hfz85_0 := bF BK188.out 0
              have hfz85_1 := bF BK188.out 1
              have hfz85_2 := bF BK188.out 2
              have hfz85_3 := bF BK188.out 3
              have hfz85_4 := bF BK188.out 4
              have hfz85_5 := bF BK188.out 5
              go_wp2
              go_ret
              exact ⟨by first | rfl | (simp [errW_none, errW_some] <;> rfl) | (simp [*, errW_none, errW_some] <;> rfl), by repeat (first | (with_reducible first | exact HB.out | apply wA | apply wN | apply w1 | refine wS ?_ GE188.out | refine wS ?_ GE189.out) | exact HB.out)⟩

end Go.Proofs.Ythofdhodgipifaa.P
