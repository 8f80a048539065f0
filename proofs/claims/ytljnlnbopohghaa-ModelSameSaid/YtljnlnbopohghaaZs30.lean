/- Texts of one claim (laid by shake.py). -/
import Derived.Test.YtljnlnbopohghaaZs3
import Derived.Test.YtljnlnbopohghaaZs4
import Derived.Test.YtljnlnbopohghaaZs5
import Derived.Test.YtljnlnbopohghaaZs29
set_option linter.unusedVariables false
set_option linter.unusedSimpArgs false
section
namespace Go.Proofs.Ytljnlnbopohghaa.P
open Go.RowKit Go.Proofs.YtljnlnbopohghaaW.PrintWords Go.Proofs.YtljnlnbopohghaaW.PrintLast Go.Proofs.YtljnlnbopohghaaW.PrintMore Go.Proofs.Ytljnlnbopohghaa.Own
open Bool renaming true → YY, false → ZZ
open Go.Proofs.YtljnlnbopohghaaW.PrintWords renaming blk_cell → bC, blk_frozen → bF, blk_drewN → bN, blk_alloc → bA, pw_below_drewN → wN, blk_drew → bD, below_drew1 → w1, below_set → wS, below_alloc → wA, blk_below → bB, below_step → wT, below_size → wZ
open List renaming setIfInBounds_toArray → sA1, set_cons_zero → sA2, set_cons_succ → sA3, map_toArray → mA1, map_cons → mA2, map_nil → mA3, length_take → mA4, length_drop → mA5
attribute [local go_sem] max2_str max2_int min2_int max_two min_two max_three min_three max_four min_four   -- for this text's walks alone
def catchmentlaw28_ModelSame.j0 : Nat → Bool → Int → Bool → ByteArray → List (S103) → Int → Bool → Int → Bool → ByteArray → List (S103) → Int → Bool → Option (Bool)
 | 0, _, _, _, _, _, _, _, _, _, _, _, _, _ => none
 | k + 1, x14, x383000, x383001, x383002, x383003, x383004, x383005, x384000, x384001, x384002, x384003, x384004, x384005 => if x14 = true then ((catchmentlaw28_live.f).bind fun t384 => (some t384)) else ((catchmentlaw28_live.f).bind fun t385 => (if t385 = true then ((model_Same.f k x383000 x383001 x383002 x383003 x383004 x383005 x384000 x384001 x384002 x384003 x384004 x384005).bind fun t386 => ((catchmentref24_Same.f k x383000 x383001 x383002 x383003 x383004 x383005 x384000 x384001 x384002 x384003 x384004 x384005).bind fun t387 => (if (t386 == t387) = true then ((model_Same.f k x383000 x383001 x383002 x383003 x383004 x383005 x383000 x383001 x383002 x383003 x383004 x383005).bind fun t388 => (if t388 = true then ((model_Refused.f x383000 x383001 x383002 x383003 x383004 x383005).bind fun t389 => (if x383000 = 10 then (some (t389 == true)) else (some (t389 == (x383000 == 9))))) else (some false))) else (some false)))) else (some false)))
def catchmentlaw28_ModelSame.f (k : Nat) (a0_0 : Int) (a0_1 : Bool) (a0_2 : BA) (l0_3 : List (S103)) (a0_4 : Int) (a0_5 : Bool) (a1_0 : Int) (a1_1 : Bool) (a1_2 : BA) (l1_3 : List (S103)) (a1_4 : Int) (a1_5 : Bool) : Option (Bool) := if (l0_3.length : Int) > 40 then (catchmentlaw28_ModelSame.j0 k true a0_0 a0_1 a0_2 l0_3 a0_4 a0_5 a1_0 a1_1 a1_2 l1_3 a1_4 a1_5) else (catchmentlaw28_ModelSame.j0 k (decide ((l1_3.length : Int) > 40)) a0_0 a0_1 a0_2 l0_3 a0_4 a0_5 a1_0 a1_1 a1_2 l1_3 a1_4 a1_5)
def catchmentlaw28_ModelSame.T3 : Bool × List (List Nat × List Nat) := (true, [([], []), ([0, 0], [0]), ([1], [1]), ([1], [1]), ([2, 3, 1, 1], [1, 2, 3]), ([1], [1]), ([1], [1]), ([5, 6, 4, 1], [1, 5, 6]), ([4, 7, 1], [1, 4, 7]), ([1, 8], [1, 8]), ([9, 7], [9]), ([10], [10]), ([10], [10]), ([11, 12, 10, 10], [10, 11, 12]), ([10, 13], [10, 13]), ([14, 13], [14]), ([15], [15]), ([16, 15, 15], [15, 16]), ([15], [15]), ([18, 15], [15, 18]), ([19, 15], [15, 19]), ([20, 17, 15], [15, 20]), ([21], [21]), ([22, 21], [21, 22]), ([23, 21], [21, 23]), ([21, 24, 15], [15, 21, 24]), ([17, 25, 15], [15, 17, 25]), ([15, 26], [15, 26]), ([27, 21, 0, 1, 2, 3, 4, 5, 6, 7, 8, 9, 10, 11, 12, 13, 14, 15, 16, 17, 18, 19, 20, 21, 22, 23, 24, 25, 26, 27], [27])])
def catchmentlaw28_ModelSame.B3 : List Nat := [0, 1, 3, 3, 15, 3, 3, 127, 255, 511, 1023, 2047, 2047, 8191, 16383, 32767, 65535, 131071, 65535, 327679, 851967, 2097151, 4194303, 8388607, 16777215, 33554431, 67108863, 134217727, 268435455]
theorem catchmentlaw28_ModelSame.tab3 : rtab .any (opsOf Try.f7 3) = catchmentlaw28_ModelSame.T3 := by kernel_rfl
theorem catchmentlaw28_ModelSame.bits3 : waitsOk catchmentlaw28_ModelSame.T3.2 catchmentlaw28_ModelSame.B3 = true := by kernel_rfl
set_option maxHeartbeats 8000000 in
set_option maxRecDepth 100000 in
theorem catchmentlaw28_ModelSame.calls (k : Nat) (a0_0 : Int) (a0_1 : Bool) (a0_2 : BA) (A0_3 : Option Addr) (c0_3 : Nat) (l0_3 : List (S103)) (a0_4 : Int) (a0_5 : Bool) (a1_0 : Int) (a1_1 : Bool) (a1_2 : BA) (A1_3 : Option Addr) (c1_3 : Nat) (l1_3 : List (S103)) (a1_4 : Int) (a1_5 : Bool) (r : Bool) (w : World) (hr0_3 : Kd.C k103 w A0_3 l0_3.length l0_3) (hc0_3 : l0_3.length ≤ c0_3) (hr1_3 : Kd.C k103 w A1_3 l1_3.length l1_3) (hc1_3 : l1_3.length ≤ c1_3) (h : catchmentlaw28_ModelSame.f k a0_0 a0_1 a0_2 l0_3 a0_4 a0_5 a1_0 a1_1 a1_2 l1_3 a1_4 a1_5 = some r) :
  Calls Try.prog 7 #[.agg #[.int .i64 a0_0, .bool a0_1, .string a0_2, .slice A0_3 l0_3.length c0_3, .int .i64 a0_4, .bool a0_5], .agg #[.int .i64 a1_0, .bool a1_1, .string a1_2, .slice A1_3 l1_3.length c1_3, .int .i64 a1_4, .bool a1_5]] w fun e w' => e = .returned (.bool r) ∧ Below w.heap.size w w' := by
 have hu59 := Try.underlying59
 have HR0_3 := Aside0.mk hr0_3
 have HC0_3 := Aside0.mk hc0_3
 clear hr0_3 hc0_3
 have HR1_3 := Aside0.mk hr1_3
 have HC1_3 := Aside0.mk hc1_3
 clear hr1_3 hc1_3
 have HB := Aside0.mk (Below.refl w.heap.size w)
 have H : (if (l0_3.length : Int) > 40 then (catchmentlaw28_ModelSame.j0 k true a0_0 a0_1 a0_2 l0_3 a0_4 a0_5 a1_0 a1_1 a1_2 l1_3 a1_4 a1_5) else (catchmentlaw28_ModelSame.j0 k (decide ((l1_3.length : Int) > 40)) a0_0 a0_1 a0_2 l0_3 a0_4 a0_5 a1_0 a1_1 a1_2 l1_3 a1_4 a1_5)) = some r := h
 clear h
 have HC3 := Aside0.mk H
 clear H
 go_enter Try.func7, Try.ntmps7
 go_upto_region 1 with (first | ((with_reducible refine gate_dst (N := 2) rfl ?_); (try (refine gate_guard (by rfl) ?_; dsimp only)); refine box_event ?hg (N := 2) ?hd (cs := #[.int .i64 a0_0, .bool a0_1, .string a0_2, .slice A0_3 l0_3.length c0_3, .int .i64 a0_4, .bool a0_5]) (t := 59) ?hr ?_; (case hd => rfl); (case hg => rfl); (case hr => first | (go_simp; done) | (go_simp; rfl)); intro gb382 hg w4 hbox hb; have n0_ := Aside0.mk (wT bW_ hb); have n1_ := Aside0.mk (hbox); have n2_ := Aside0.mk ((by rw [hg]; exact (wZ bW_) : w.heap.size ≤ gb382)); have n3_ := n2_; clear HB; have HB := n0_; have BK382 := n1_; have GW382 := n2_; have GE382 := n3_; clear n0_ n1_ n2_ n3_; clear hb hbox hg) | ((with_reducible refine gate_dst (N := 3) rfl ?_); (try (refine gate_guard (by rfl) ?_; dsimp only)); refine box_event ?hg (N := 3) ?hd (cs := #[.int .i64 a1_0, .bool a1_1, .string a1_2, .slice A1_3 l1_3.length c1_3, .int .i64 a1_4, .bool a1_5]) (t := 59) ?hr ?_; (case hd => rfl); (case hg => rfl); (case hr => first | (go_simp; done) | (go_simp; rfl)); intro gb383 hg w5 hbox hb; have n0_ := Aside0.mk (bB (bX_ BK382.out) hb); have n1_ := Aside0.mk (wT (bS1_ GE382.out) hb); have n2_ := Aside0.mk (hbox); have n3_ := Aside0.mk ((by rw [hg]; exact (wZ (bS1_ GE382.out)) : w.heap.size ≤ gb383)); have n4_ := n3_; have n5_ := Aside0.mk ((by rw [hg]; exact Nat.ne_of_lt (blk_lt (g := gb382) (o := .cells #[.int .i64 a0_0, .bool a0_1, .string a0_2, .slice A0_3 l0_3.length c0_3, .int .i64 a0_4, .bool a0_5] 59 (0, 0)) (bX_ BK382.out)) : gb382 ≠ gb383)); have n6_ := Aside0.mk ((by rw [hg]; exact Nat.ne_of_gt (blk_lt (g := gb382) (o := .cells #[.int .i64 a0_0, .bool a0_1, .string a0_2, .slice A0_3 l0_3.length c0_3, .int .i64 a0_4, .bool a0_5] 59 (0, 0)) (bX_ BK382.out)) : gb383 ≠ gb382)); clear BK382; clear HB; have BK382 := n0_; have HB := n1_; have BK383 := n2_; have GW383 := n3_; have GE383 := n4_; have NB382_383 := n5_; have NB383_382 := n6_; clear n0_ n1_ n2_ n3_ n4_ n5_ n6_; clear hb hbox hg))
 (try simp only [Act.put, sA1, sA2, sA3])
 go_cut [14] (fun v14 wc => ∃ (kq : Nat) (x14_2 : Bool), v14 = .bool x14_2 ∧ Aside0 (catchmentlaw28_ModelSame.j0 kq x14_2 a0_0 a0_1 a0_2 l0_3 a0_4 a0_5 a1_0 a1_1 a1_2 l1_3 a1_4 a1_5 = some r) ∧ Aside0 (kq ≤ k) ∧ Aside0 (wc.heap[gb382]? = some (.cells #[.int .i64 a0_0, .bool a0_1, .string a0_2, (.slice A0_3 l0_3.length c0_3), .int .i64 a0_4, .bool a0_5] 59 (0, 0))) ∧ Aside0 (wc.heap[gb383]? = some (.cells #[.int .i64 a1_0, .bool a1_1, .string a1_2, (.slice A1_3 l1_3.length c1_3), .int .i64 a1_4, .bool a1_5] 59 (0, 0))) ∧ Aside0 (Below w.heap.size w wc))
 case first =>
  have H := HC3.out
  clear HC3
  by_cases c6 : (l0_3.length : Int) > 40
  ·rw [if_pos c6] at H
   have c6b0 : decide (40 < (l0_3.length : Int)) = true := decide_eq_true c6
   have c6b1 : decide (40 < l0_3.length) = true := decide_eq_true (by omega)
   clear c6
   (first | rw [c6b0] | (simp only [i64_w, i32_w]; rw [c6b0]) | skip)
   have H' := Aside0.mk H
   clear H
   have hnb7 := NB382_383.out
   have hnc7 := NB383_382.out
   have hcz8_0 := cz_ BK382.out 0
   have hcz8_1 := cz_ BK382.out 1
   have hcz8_2 := cz_ BK382.out 2
   have hcz8_3 := cz_ BK382.out 3
   have hcz8_4 := cz_ BK382.out 4
   have hcz8_5 := cz_ BK382.out 5
   have hfz8_0 := bF BK382.out 0
   have hfz8_1 := bF BK382.out 1
   have hfz8_2 := bF BK382.out 2
   have hfz8_3 := bF BK382.out 3
   have hfz8_4 := bF BK382.out 4
   have hfz8_5 := bF BK382.out 5
   go_wp2
   go_meet
   case rel => exact ⟨_, (true), (by first | rfl | (simp; done) | (simp [*]; done)), H', ⟨by first | omega | exact Nat.le_refl _⟩, ⟨by (with_reducible repeat (first | refine bN ?_ _ | refine bD ?_ | refine bA ?_ _)); exact BK382.out⟩, ⟨by (with_reducible repeat (first | refine bN ?_ _ | refine bD ?_ | refine bA ?_ _)); exact BK383.out⟩, ⟨by repeat (first | (with_reducible first | exact HB.out | apply wA | apply wN | apply w1 | refine wS ?_ GE382.out | refine wS ?_ GE383.out) | exact HB.out)⟩⟩
  ·rw [if_neg c6] at H
   have c6b0 : decide (40 < (l0_3.length : Int)) = false := decide_eq_false c6
   have c6b1 : decide (40 < l0_3.length) = false := decide_eq_false (by omega)
   clear c6
   (first | rw [c6b0] | (simp only [i64_w, i32_w]; rw [c6b0]) | skip)
   have H' := Aside0.mk H
   clear H
   have hnb9 := NB382_383.out
   have hnc9 := NB383_382.out
   have hcz10_0 := cz_ BK382.out 0
   have hcz10_1 := cz_ BK382.out 1
   have hcz10_2 := cz_ BK382.out 2
   have hcz10_3 := cz_ BK382.out 3
   have hcz10_4 := cz_ BK382.out 4
   have hcz10_5 := cz_ BK382.out 5
   have hfz10_0 := bF BK382.out 0
   have hfz10_1 := bF BK382.out 1
   have hfz10_2 := bF BK382.out 2
   have hfz10_3 := bF BK382.out 3
   have hfz10_4 := bF BK382.out 4
   have hfz10_5 := bF BK382.out 5
   have hcz11_0 := cz_ BK383.out 0
   have hcz11_1 := cz_ BK383.out 1
   have hcz11_2 := cz_ BK383.out 2
   have hcz11_3 := cz_ BK383.out 3
   have hcz11_4 := cz_ BK383.out 4
   have hcz11_5 := cz_ BK383.out 5
   have hfz11_0 := bF BK383.out 0
   have hfz11_1 := bF BK383.out 1
   have hfz11_2 := bF BK383.out 2
   have hfz11_3 := bF BK383.out 3
   have hfz11_4 := bF BK383.out 4
   have hfz11_5 := bF BK383.out 5
   go_wp2
   go_meet
   case rel => exact ⟨_, (decide ((l1_3.length : Int) > 40)), (by first | rfl | (simp; done) | (simp [*]; done)), H', ⟨by first | omega | exact Nat.le_refl _⟩, ⟨by (with_reducible repeat (first | refine bN ?_ _ | refine bD ?_ | refine bA ?_ _)); exact BK382.out⟩, ⟨by (with_reducible repeat (first | refine bN ?_ _ | refine bD ?_ | refine bA ?_ _)); exact BK383.out⟩, ⟨by repeat (first | (with_reducible first | exact HB.out | apply wA | apply wN | apply w1 | refine wS ?_ GE382.out | refine wS ?_ GE383.out) | exact HB.out)⟩⟩
 case rest =>
  clear HC3
  try clear c1
  try clear p2
  try clear c6
  try clear c6b0
  try clear c6b1
  try clear c7
  try clear c9
  try clear hcz10_0
  try clear hcz10_1
  try clear hcz10_2
  try clear hcz10_3
  try clear hcz10_4
  try clear hcz10_5
  try clear hcz11_0
  try clear hcz11_1
  try clear hcz11_2
  try clear hcz11_3
  try clear hcz11_4
  try clear hcz11_5
  try clear hcz8_0
  try clear hcz8_1
  try clear hcz8_2
  try clear hcz8_3
  try clear hcz8_4
  try clear hcz8_5
  try clear hfz10_0
  try clear hfz10_1
  try clear hfz10_2
  try clear hfz10_3
  try clear hfz10_4
  try clear hfz10_5
  try clear hfz11_0
  try clear hfz11_1
  try clear hfz11_2
  try clear hfz11_3
  try clear hfz11_4
  try clear hfz11_5
  try clear hfz8_0
  try clear hfz8_1
  try clear hfz8_2
  try clear hfz8_3
  try clear hfz8_4
  try clear hfz8_5
  obtain ⟨kq, x14_2, rfl, HA, HJ2, BK382, BK383, HB⟩ := hcut
  cases kq with
  | zero => exact absurd HA.out (by simp [catchmentlaw28_ModelSame.j0])
  | succ kj2 =>
   have H := HA.out
   clear HA
   simp only [catchmentlaw28_ModelSame.j0] at H
   by_cases c12 : x14_2 = true
   ·subst c12
    have H1 : ((catchmentlaw28_live.f).bind fun t384 => (some t384)) = some r := by rw [if_pos rfl] at H; exact H
    clear H
    have H := H1
    clear H1
    replace H := Option.bind_eq_some_iff.mp H
    obtain ⟨t384, A130, H⟩ := H
    replace H : (some t384) = some r := H
    have A13 := Aside0.mk A130
    clear A130
    obtain rfl := Option.some.inj H
    go_wp2_with (first | ((with_reducible refine gate_callee (f := 21) rfl ?_); refine goesL_ (some 15) rfl rfl Try.func21 (by kernel_rfl) rfl #[] rfl mS_ ?_; (with_reducible refine (catchmentlaw28_live.calls  t384 _ A13.out).mono ?_); rintro e w14 ⟨rfl, hb⟩; refine ⟨_, rfl, ?_⟩; have n0_ := Aside0.mk (bB (bX_ BK382.out) hb); have n1_ := Aside0.mk (bB (bX_ BK383.out) hb); have n2_ := Aside0.mk (wT (bS2_ GE382.out GE383.out) hb); clear BK382; clear BK383; clear HB; have BK382 := n0_; have BK383 := n1_; have HB := n2_; clear n0_ n1_ n2_; (try clear hb); (try clear hb2); (try clear hk); (try clear hi)))
    go_ret
    exact ⟨by first | rfl | (simp [errW_none, errW_some] <;> rfl) | (simp [*, errW_none, errW_some] <;> rfl), by repeat (first | (with_reducible first | exact HB.out | apply wA | apply wN | apply w1 | refine wS ?_ GE382.out | refine wS ?_ GE383.out) | exact HB.out)⟩
   ·replace c12 := Bool.eq_false_iff.mpr c12
    subst c12
    have H1 : ((catchmentlaw28_live.f).bind fun t385 => (if t385 = true then ((model_Same.f kj2 a0_0 a0_1 a0_2 l0_3 a0_4 a0_5 a1_0 a1_1 a1_2 l1_3 a1_4 a1_5).bind fun t386 => ((catchmentref24_Same.f kj2 a0_0 a0_1 a0_2 l0_3 a0_4 a0_5 a1_0 a1_1 a1_2 l1_3 a1_4 a1_5).bind fun t387 => (if (t386 == t387) = true then ((model_Same.f kj2 a0_0 a0_1 a0_2 l0_3 a0_4 a0_5 a0_0 a0_1 a0_2 l0_3 a0_4 a0_5).bind fun t388 => (if t388 = true then ((model_Refused.f a0_0 a0_1 a0_2 l0_3 a0_4 a0_5).bind fun t389 => (if a0_0 = 10 then (some (t389 == true)) else (some (t389 == (a0_0 == 9))))) else (some false))) else (some false)))) else (some false))) = some r := by rw [if_neg (show ¬ (false = true) by decide)] at H; exact H
    clear H
    have H := H1
    clear H1
    replace H := Option.bind_eq_some_iff.mp H
    obtain ⟨t385, A150, H⟩ := H
    replace H : (if t385 = true then ((model_Same.f kj2 a0_0 a0_1 a0_2 l0_3 a0_4 a0_5 a1_0 a1_1 a1_2 l1_3 a1_4 a1_5).bind fun t386 => ((catchmentref24_Same.f kj2 a0_0 a0_1 a0_2 l0_3 a0_4 a0_5 a1_0 a1_1 a1_2 l1_3 a1_4 a1_5).bind fun t387 => (if (t386 == t387) = true then ((model_Same.f kj2 a0_0 a0_1 a0_2 l0_3 a0_4 a0_5 a0_0 a0_1 a0_2 l0_3 a0_4 a0_5).bind fun t388 => (if t388 = true then ((model_Refused.f a0_0 a0_1 a0_2 l0_3 a0_4 a0_5).bind fun t389 => (if a0_0 = 10 then (some (t389 == true)) else (some (t389 == (a0_0 == 9))))) else (some false))) else (some false)))) else (some false)) = some r := H
    have A15 := Aside0.mk A150
    clear A150
    by_cases c16 : t385 = true
    ·subst c16
     have H1 : ((model_Same.f kj2 a0_0 a0_1 a0_2 l0_3 a0_4 a0_5 a1_0 a1_1 a1_2 l1_3 a1_4 a1_5).bind fun t386 => ((catchmentref24_Same.f kj2 a0_0 a0_1 a0_2 l0_3 a0_4 a0_5 a1_0 a1_1 a1_2 l1_3 a1_4 a1_5).bind fun t387 => (if (t386 == t387) = true then ((model_Same.f kj2 a0_0 a0_1 a0_2 l0_3 a0_4 a0_5 a0_0 a0_1 a0_2 l0_3 a0_4 a0_5).bind fun t388 => (if t388 = true then ((model_Refused.f a0_0 a0_1 a0_2 l0_3 a0_4 a0_5).bind fun t389 => (if a0_0 = 10 then (some (t389 == true)) else (some (t389 == (a0_0 == 9))))) else (some false))) else (some false)))) = some r := by rw [if_pos rfl] at H; exact H
     clear H
     have H := H1
     clear H1
     replace H := Option.bind_eq_some_iff.mp H
     obtain ⟨t386, A170, H⟩ := H
     replace H : ((catchmentref24_Same.f kj2 a0_0 a0_1 a0_2 l0_3 a0_4 a0_5 a1_0 a1_1 a1_2 l1_3 a1_4 a1_5).bind fun t387 => (if (t386 == t387) = true then ((model_Same.f kj2 a0_0 a0_1 a0_2 l0_3 a0_4 a0_5 a0_0 a0_1 a0_2 l0_3 a0_4 a0_5).bind fun t388 => (if t388 = true then ((model_Refused.f a0_0 a0_1 a0_2 l0_3 a0_4 a0_5).bind fun t389 => (if a0_0 = 10 then (some (t389 == true)) else (some (t389 == (a0_0 == 9))))) else (some false))) else (some false))) = some r := H
     have A17 := Aside0.mk A170
     clear A170
     replace H := Option.bind_eq_some_iff.mp H
     obtain ⟨t387, A180, H⟩ := H
     replace H : (if (t386 == t387) = true then ((model_Same.f kj2 a0_0 a0_1 a0_2 l0_3 a0_4 a0_5 a0_0 a0_1 a0_2 l0_3 a0_4 a0_5).bind fun t388 => (if t388 = true then ((model_Refused.f a0_0 a0_1 a0_2 l0_3 a0_4 a0_5).bind fun t389 => (if a0_0 = 10 then (some (t389 == true)) else (some (t389 == (a0_0 == 9))))) else (some false))) else (some false)) = some r := H
     have A18 := Aside0.mk A180
     clear A180
     by_cases c19 : (t386 == t387) = true
     ·rw [if_pos c19] at H
      have c19b0 : (t386 == t387) = true := c19
      (try (have c19b1 : decide (t386 = t387) = true := by simpa using c19))
      (try (have c19b2 : (t386 == t387) = true := by simpa using c19))
      clear c19
      replace H := Option.bind_eq_some_iff.mp H
      obtain ⟨t388, A200, H⟩ := H
      replace H : (if t388 = true then ((model_Refused.f a0_0 a0_1 a0_2 l0_3 a0_4 a0_5).bind fun t389 => (if a0_0 = 10 then (some (t389 == true)) else (some (t389 == (a0_0 == 9))))) else (some false)) = some r := H
      have A20 := Aside0.mk A200
      clear A200
      by_cases c21 : t388 = true
      ·subst c21
       have H1 : ((model_Refused.f a0_0 a0_1 a0_2 l0_3 a0_4 a0_5).bind fun t389 => (if a0_0 = 10 then (some (t389 == true)) else (some (t389 == (a0_0 == 9))))) = some r := by rw [if_pos rfl] at H; exact H
       clear H
       have H := H1
       clear H1
       replace H := Option.bind_eq_some_iff.mp H
       obtain ⟨t389, A220, H⟩ := H
       replace H : (if a0_0 = 10 then (some (t389 == true)) else (some (t389 == (a0_0 == 9)))) = some r := H
       have A22 := Aside0.mk A220
       clear A220
       by_cases c23 : a0_0 = 10
       ·rw [if_pos c23] at H
        have c23b0 : (a0_0 == 10) = true := beq_iff_eq.mpr c23
        have c23b1 : (a0_0 != 10) = false := bne_eq_false_iff_eq.mpr c23
        clear c23
        obtain rfl := Option.some.inj H
        try go_wp2
        have n0_ := Aside0.mk (bD BK382.out)
        have n1_ := Aside0.mk (bD BK383.out)
        have n2_ := Aside0.mk (w1 HB.out)
        clear BK382
        clear BK383
        clear HB
        have BK382 := n0_
        have BK383 := n1_
        have HB := n2_
        clear n0_ n1_ n2_
        refine start_ (n := 29) (S := fun w' => w'.cell? ⟨gb382, 0, none⟩ = some (.int .i64 a0_0) ∧ w'.cell? ⟨gb382, 1, none⟩ = some (.bool a0_1) ∧ w'.cell? ⟨gb382, 2, none⟩ = some (.string a0_2) ∧ w'.cell? ⟨gb382, 3, none⟩ = some (.slice A0_3 l0_3.length c0_3) ∧ w'.cell? ⟨gb382, 4, none⟩ = some (.int .i64 a0_4) ∧ w'.cell? ⟨gb382, 5, none⟩ = some (.bool a0_5) ∧ w'.cell? ⟨gb383, 0, none⟩ = some (.int .i64 a1_0) ∧ w'.cell? ⟨gb383, 1, none⟩ = some (.bool a1_1) ∧ w'.cell? ⟨gb383, 2, none⟩ = some (.string a1_2) ∧ w'.cell? ⟨gb383, 3, none⟩ = some (.slice A1_3 l1_3.length c1_3) ∧ w'.cell? ⟨gb383, 4, none⟩ = some (.int .i64 a1_4) ∧ w'.cell? ⟨gb383, 5, none⟩ = some (.bool a1_5)) (ds := []) #[ZZ,ZZ,ZZ,ZZ,ZZ,ZZ,ZZ,ZZ,ZZ,ZZ,ZZ,ZZ,ZZ,ZZ,ZZ,ZZ,ZZ,ZZ,ZZ,ZZ,ZZ,ZZ,ZZ,ZZ,ZZ,ZZ,ZZ,ZZ,ZZ] (by kernel_rfl) rfl rfl ⟨(bC BK382.out 0).trans rfl, (bC BK382.out 1).trans rfl, (bC BK382.out 2).trans rfl, (bC BK382.out 3).trans rfl, (bC BK382.out 4).trans rfl, (bC BK382.out 5).trans rfl, (bC BK383.out 0).trans rfl, (bC BK383.out 1).trans rfl, (bC BK383.out 2).trans rfl, (bC BK383.out 3).trans rfl, (bC BK383.out 4).trans rfl, (bC BK383.out 5).trans rfl⟩ (fun hHeld => ?_); refine with_tabW catchmentlaw28_ModelSame.tab3 catchmentlaw28_ModelSame.bits3 (fun HT_ HW_ => ?_)
        generalize wc.drew = w24 at BK382 BK383 HB hHeld ⊢
        refine one_ (i := 0) (N := some 16) #[YY,ZZ,ZZ,ZZ,ZZ,ZZ,ZZ,ZZ,ZZ,ZZ,ZZ,ZZ,ZZ,ZZ,ZZ,ZZ,ZZ,ZZ,ZZ,ZZ,ZZ,ZZ,ZZ,ZZ,ZZ,ZZ,ZZ,ZZ,ZZ] rfl rfl (one_of HT_.out (by kernel_rfl)) (by decide) (fun K hK => ?_)
        refine goes_ Try.func21 (by kernel_rfl) rfl #[] (by rfl) rfl rfl mS_ ?_
        with_reducible refine (catchmentlaw28_live.calls  true _ A15.out).mono ?_
        rintro e w25 ⟨rfl, hb⟩
        refine ⟨_, rfl, ?_⟩
        have n0_ := Aside0.mk (bB (bX_ BK382.out) hb)
        have n1_ := Aside0.mk (bB (bX_ BK383.out) hb)
        have n2_ := Aside0.mk (wT (bS2_ GE382.out GE383.out) hb)
        clear BK382
        clear BK383
        clear HB
        have BK382 := n0_
        have BK383 := n1_
        have HB := n2_
        clear n0_ n1_ n2_
        (try clear hb)
        (try clear hb2)
        (try clear hk)
        (try clear hi)
        refine hK.out _ _ ⟨(bC BK382.out 0).trans rfl, (bC BK382.out 1).trans rfl, (bC BK382.out 2).trans rfl, (bC BK382.out 3).trans rfl, (bC BK382.out 4).trans rfl, (bC BK382.out 5).trans rfl, (bC BK383.out 0).trans rfl, (bC BK383.out 1).trans rfl, (bC BK383.out 2).trans rfl, (bC BK383.out 3).trans rfl, (bC BK383.out 4).trans rfl, (bC BK383.out 5).trans rfl⟩ (fun hHeld => ?_)
        clear hK K
        refine norm_ (a' := ?_) ?_ ?_
        rotate_left
        ·show Act.put _ (some 16) _ = _
         simp only [Act.put, sA1, sA2, sA3, i64_w, i32_w]
         rfl
        refine pU_ 1 17 #[YY,YY,ZZ,ZZ,ZZ,ZZ,ZZ,ZZ,ZZ,ZZ,ZZ,ZZ,ZZ,ZZ,ZZ,ZZ,ZZ,ZZ,ZZ,ZZ,ZZ,ZZ,ZZ,ZZ,ZZ,ZZ,ZZ,ZZ,ZZ] ?_
        refine take_ (i := 2) (N := some 18) (v := ?_) (a' := ?_) #[YY,YY,YY,ZZ,ZZ,ZZ,ZZ,ZZ,ZZ,ZZ,ZZ,ZZ,ZZ,ZZ,ZZ,ZZ,ZZ,ZZ,ZZ,ZZ,ZZ,ZZ,ZZ,ZZ,ZZ,ZZ,ZZ,ZZ,ZZ] rfl rfl (take_ofW HT_.out HW_.out (by kernel_rfl)) (fun _ _ _ h => h) (Or.inl ⟨by rfl, ?_⟩) hHeld ?_ ?_
        rotate_left
        ·rintro w' ⟨s0, s1, s2, s3, s4, s5, s6, s7, s8, s9, s10, s11⟩
         go_simp
         with_reducible rfl
        rotate_left
        ·simp only [Act.put, sA1, sA2, sA3, i64_w, i32_w]
         rfl
        refine take_ (i := 3) (N := some 19) (v := ?_) (a' := ?_) #[YY,YY,YY,YY,ZZ,ZZ,ZZ,ZZ,ZZ,ZZ,ZZ,ZZ,ZZ,ZZ,ZZ,ZZ,ZZ,ZZ,ZZ,ZZ,ZZ,ZZ,ZZ,ZZ,ZZ,ZZ,ZZ,ZZ,ZZ] rfl rfl (take_ofW HT_.out HW_.out (by kernel_rfl)) (fun _ _ _ h => h) (Or.inl ⟨by rfl, ?_⟩) hHeld ?_ ?_
        rotate_left
        ·rintro w' ⟨s0, s1, s2, s3, s4, s5, s6, s7, s8, s9, s10, s11⟩
         go_simp
         with_reducible rfl
        rotate_left
        ·simp only [Act.put, sA1, sA2, sA3, i64_w, i32_w]
         rfl
        refine take_ (i := 5) (N := some 21) (v := ?_) (a' := ?_) #[YY,YY,YY,YY,ZZ,YY,ZZ,ZZ,ZZ,ZZ,ZZ,ZZ,ZZ,ZZ,ZZ,ZZ,ZZ,ZZ,ZZ,ZZ,ZZ,ZZ,ZZ,ZZ,ZZ,ZZ,ZZ,ZZ,ZZ] rfl rfl (take_ofW HT_.out HW_.out (by kernel_rfl)) (fun _ _ _ h => h) (Or.inl ⟨by rfl, ?_⟩) hHeld ?_ ?_
        rotate_left
        ·rintro w' ⟨s0, s1, s2, s3, s4, s5, s6, s7, s8, s9, s10, s11⟩
         go_simp
         with_reducible rfl
        rotate_left
        ·simp only [Act.put, sA1, sA2, sA3, i64_w, i32_w]
         rfl
        refine take_ (i := 6) (N := some 22) (v := ?_) (a' := ?_) #[YY,YY,YY,YY,ZZ,YY,YY,ZZ,ZZ,ZZ,ZZ,ZZ,ZZ,ZZ,ZZ,ZZ,ZZ,ZZ,ZZ,ZZ,ZZ,ZZ,ZZ,ZZ,ZZ,ZZ,ZZ,ZZ,ZZ] rfl rfl (take_ofW HT_.out HW_.out (by kernel_rfl)) (fun _ _ _ h => h) (Or.inl ⟨by rfl, ?_⟩) hHeld ?_ ?_
        rotate_left
        ·rintro w' ⟨s0, s1, s2, s3, s4, s5, s6, s7, s8, s9, s10, s11⟩
         go_simp
         with_reducible rfl
        rotate_left
        ·simp only [Act.put, sA1, sA2, sA3, i64_w, i32_w]
         rfl
        refine one_ (i := 4) (N := some 20) #[YY,YY,YY,YY,YY,YY,YY,ZZ,ZZ,ZZ,ZZ,ZZ,ZZ,ZZ,ZZ,ZZ,ZZ,ZZ,ZZ,ZZ,ZZ,ZZ,ZZ,ZZ,ZZ,ZZ,ZZ,ZZ,ZZ] rfl rfl (one_of HT_.out (by kernel_rfl)) (by decide) (fun K hK => ?_)
        refine goes_ Try.func31 (by kernel_rfl) rfl #[.agg #[.int .i64 a0_0, .bool a0_1, .string a0_2, .slice A0_3 l0_3.length c0_3, .int .i64 a0_4, .bool a0_5], .agg #[.int .i64 a1_0, .bool a1_1, .string a1_2, .slice A1_3 l1_3.length c1_3, .int .i64 a1_4, .bool a1_5]] (by rfl) rfl rfl mS_ ?_
        with_reducible refine (model_Same.calls kj2 a0_0 a0_1 a0_2 _ _ l0_3 a0_4 a0_5 a1_0 a1_1 a1_2 _ _ l1_3 a1_4 a1_5 t386 _ ?side1 ?side2 ?side3 ?side4 A17.out).mono ?_
        (case side1 => repeat (first | exact (Kd.C_below HR0_3.out HB.out) | (with_reducible refine Kd.C_alloc ?_ _) | (with_reducible refine Kd.C_drewN ?_ _) | (with_reducible refine Kd.C_drew ?_)))
        (case side2 => exact HC0_3.out)
        (case side3 => repeat (first | exact (Kd.C_below HR1_3.out HB.out) | (with_reducible refine Kd.C_alloc ?_ _) | (with_reducible refine Kd.C_drewN ?_ _) | (with_reducible refine Kd.C_drew ?_)))
        (case side4 => exact HC1_3.out)
        rintro e w26 ⟨rfl, hb⟩
        refine ⟨_, rfl, ?_⟩
        have n0_ := Aside0.mk (bB (bX_ BK382.out) hb)
        have n1_ := Aside0.mk (bB (bX_ BK383.out) hb)
        have n2_ := Aside0.mk (wT (bS2_ GE382.out GE383.out) hb)
        clear BK382
        clear BK383
        clear HB
        have BK382 := n0_
        have BK383 := n1_
        have HB := n2_
        clear n0_ n1_ n2_
        (try clear hb)
        (try clear hb2)
        (try clear hk)
        (try clear hi)
        refine hK.out _ _ ⟨(bC BK382.out 0).trans rfl, (bC BK382.out 1).trans rfl, (bC BK382.out 2).trans rfl, (bC BK382.out 3).trans rfl, (bC BK382.out 4).trans rfl, (bC BK382.out 5).trans rfl, (bC BK383.out 0).trans rfl, (bC BK383.out 1).trans rfl, (bC BK383.out 2).trans rfl, (bC BK383.out 3).trans rfl, (bC BK383.out 4).trans rfl, (bC BK383.out 5).trans rfl⟩ (fun hHeld => ?_)
        clear hK K
        refine norm_ (a' := ?_) ?_ ?_
        rotate_left
        ·show Act.put _ (some 20) _ = _
         simp only [Act.put, sA1, sA2, sA3, i64_w, i32_w]
         rfl
        refine one_ (i := 7) (N := some 23) #[YY,YY,YY,YY,YY,YY,YY,YY,ZZ,ZZ,ZZ,ZZ,ZZ,ZZ,ZZ,ZZ,ZZ,ZZ,ZZ,ZZ,ZZ,ZZ,ZZ,ZZ,ZZ,ZZ,ZZ,ZZ,ZZ] rfl rfl (one_of HT_.out (by kernel_rfl)) (by decide) (fun K hK => ?_)
        refine goes_ Try.func32 (by kernel_rfl) rfl #[.agg #[.int .i64 a0_0, .bool a0_1, .string a0_2, .slice A0_3 l0_3.length c0_3, .int .i64 a0_4, .bool a0_5], .agg #[.int .i64 a1_0, .bool a1_1, .string a1_2, .slice A1_3 l1_3.length c1_3, .int .i64 a1_4, .bool a1_5]] (by rfl) rfl rfl mS_ ?_
        with_reducible refine (catchmentref24_Same.calls kj2 a0_0 a0_1 a0_2 _ _ l0_3 a0_4 a0_5 a1_0 a1_1 a1_2 _ _ l1_3 a1_4 a1_5 t387 _ ?side1 ?side2 ?side3 ?side4 A18.out).mono ?_
        (case side1 => repeat (first | exact (Kd.C_below HR0_3.out HB.out) | (with_reducible refine Kd.C_alloc ?_ _) | (with_reducible refine Kd.C_drewN ?_ _) | (with_reducible refine Kd.C_drew ?_)))
        (case side2 => exact HC0_3.out)
        (case side3 => repeat (first | exact (Kd.C_below HR1_3.out HB.out) | (with_reducible refine Kd.C_alloc ?_ _) | (with_reducible refine Kd.C_drewN ?_ _) | (with_reducible refine Kd.C_drew ?_)))
        (case side4 => exact HC1_3.out)
        rintro e w27 ⟨rfl, hb⟩
        refine ⟨_, rfl, ?_⟩
        have n0_ := Aside0.mk (bB (bX_ BK382.out) hb)
        have n1_ := Aside0.mk (bB (bX_ BK383.out) hb)
        have n2_ := Aside0.mk (wT (bS2_ GE382.out GE383.out) hb)
        clear BK382
        clear BK383
        clear HB
        have BK382 := n0_
        have BK383 := n1_
        have HB := n2_
        clear n0_ n1_ n2_
        (try clear hb)
        (try clear hb2)
        (try clear hk)
        (try clear hi)
        refine hK.out _ _ ⟨(bC BK382.out 0).trans rfl, (bC BK382.out 1).trans rfl, (bC BK382.out 2).trans rfl, (bC BK382.out 3).trans rfl, (bC BK382.out 4).trans rfl, (bC BK382.out 5).trans rfl, (bC BK383.out 0).trans rfl, (bC BK383.out 1).trans rfl, (bC BK383.out 2).trans rfl, (bC BK383.out 3).trans rfl, (bC BK383.out 4).trans rfl, (bC BK383.out 5).trans rfl⟩ (fun hHeld => ?_)
        clear hK K
        refine norm_ (a' := ?_) ?_ ?_
        rotate_left
        ·show Act.put _ (some 23) _ = _
         simp only [Act.put, sA1, sA2, sA3, i64_w, i32_w]
         rfl
        refine pU_ 8 24 #[YY,YY,YY,YY,YY,YY,YY,YY,YY,ZZ,ZZ,ZZ,ZZ,ZZ,ZZ,ZZ,ZZ,ZZ,ZZ,ZZ,ZZ,ZZ,ZZ,ZZ,ZZ,ZZ,ZZ,ZZ,ZZ] ?_
        refine pU_ 9 25 #[YY,YY,YY,YY,YY,YY,YY,YY,YY,YY,ZZ,ZZ,ZZ,ZZ,ZZ,ZZ,ZZ,ZZ,ZZ,ZZ,ZZ,ZZ,ZZ,ZZ,ZZ,ZZ,ZZ,ZZ,ZZ] ?_
        refine pU_ 10 26 #[YY,YY,YY,YY,YY,YY,YY,YY,YY,YY,YY,ZZ,ZZ,ZZ,ZZ,ZZ,ZZ,ZZ,ZZ,ZZ,ZZ,ZZ,ZZ,ZZ,ZZ,ZZ,ZZ,ZZ,ZZ] ?_
        refine take_ (i := 11) (N := some 27) (v := ?_) (a' := ?_) #[YY,YY,YY,YY,YY,YY,YY,YY,YY,YY,YY,YY,ZZ,ZZ,ZZ,ZZ,ZZ,ZZ,ZZ,ZZ,ZZ,ZZ,ZZ,ZZ,ZZ,ZZ,ZZ,ZZ,ZZ] rfl rfl (take_ofW HT_.out HW_.out (by kernel_rfl)) (fun _ _ _ h => h) (Or.inl ⟨by rfl, ?_⟩) hHeld ?_ ?_
        rotate_left
        ·rintro w' ⟨s0, s1, s2, s3, s4, s5, s6, s7, s8, s9, s10, s11⟩
         go_simp
         with_reducible rfl
        rotate_left
        ·simp only [Act.put, sA1, sA2, sA3, i64_w, i32_w]
         rfl
        refine take_ (i := 12) (N := some 28) (v := ?_) (a' := ?_) #[YY,YY,YY,YY,YY,YY,YY,YY,YY,YY,YY,YY,YY,ZZ,ZZ,ZZ,ZZ,ZZ,ZZ,ZZ,ZZ,ZZ,ZZ,ZZ,ZZ,ZZ,ZZ,ZZ,ZZ] rfl rfl (take_ofW HT_.out HW_.out (by kernel_rfl)) (fun _ _ _ h => h) (Or.inl ⟨by rfl, ?_⟩) hHeld ?_ ?_
        rotate_left
        ·rintro w' ⟨s0, s1, s2, s3, s4, s5, s6, s7, s8, s9, s10, s11⟩
         go_simp
         with_reducible rfl
        rotate_left
        ·simp only [Act.put, sA1, sA2, sA3, i64_w, i32_w]
         rfl
        refine one_ (i := 13) (N := some 29) #[YY,YY,YY,YY,YY,YY,YY,YY,YY,YY,YY,YY,YY,YY,ZZ,ZZ,ZZ,ZZ,ZZ,ZZ,ZZ,ZZ,ZZ,ZZ,ZZ,ZZ,ZZ,ZZ,ZZ] rfl rfl (one_of HT_.out (by kernel_rfl)) (by decide) (fun K hK => ?_)
        refine goes_ Try.func31 (by kernel_rfl) rfl #[.agg #[.int .i64 a0_0, .bool a0_1, .string a0_2, .slice A0_3 l0_3.length c0_3, .int .i64 a0_4, .bool a0_5], .agg #[.int .i64 a0_0, .bool a0_1, .string a0_2, .slice A0_3 l0_3.length c0_3, .int .i64 a0_4, .bool a0_5]] (by rfl) rfl rfl mS_ ?_
        with_reducible refine (model_Same.calls kj2 a0_0 a0_1 a0_2 _ _ l0_3 a0_4 a0_5 a0_0 a0_1 a0_2 _ _ l0_3 a0_4 a0_5 true _ ?side1 ?side2 ?side3 ?side4 A20.out).mono ?_
        (case side1 => repeat (first | exact (Kd.C_below HR0_3.out HB.out) | (with_reducible refine Kd.C_alloc ?_ _) | (with_reducible refine Kd.C_drewN ?_ _) | (with_reducible refine Kd.C_drew ?_)))
        (case side2 => exact HC0_3.out)
        (case side3 => repeat (first | exact (Kd.C_below HR0_3.out HB.out) | (with_reducible refine Kd.C_alloc ?_ _) | (with_reducible refine Kd.C_drewN ?_ _) | (with_reducible refine Kd.C_drew ?_)))
        (case side4 => exact HC0_3.out)
        rintro e w28 ⟨rfl, hb⟩
        refine ⟨_, rfl, ?_⟩
        have n0_ := Aside0.mk (bB (bX_ BK382.out) hb)
        have n1_ := Aside0.mk (bB (bX_ BK383.out) hb)
        have n2_ := Aside0.mk (wT (bS2_ GE382.out GE383.out) hb)
        clear BK382
        clear BK383
        clear HB
        have BK382 := n0_
        have BK383 := n1_
        have HB := n2_
        clear n0_ n1_ n2_
        (try clear hb)
        (try clear hb2)
        (try clear hk)
        (try clear hi)
        refine hK.out _ _ ⟨(bC BK382.out 0).trans rfl, (bC BK382.out 1).trans rfl, (bC BK382.out 2).trans rfl, (bC BK382.out 3).trans rfl, (bC BK382.out 4).trans rfl, (bC BK382.out 5).trans rfl, (bC BK383.out 0).trans rfl, (bC BK383.out 1).trans rfl, (bC BK383.out 2).trans rfl, (bC BK383.out 3).trans rfl, (bC BK383.out 4).trans rfl, (bC BK383.out 5).trans rfl⟩ (fun hHeld => ?_)
        clear hK K
        refine norm_ (a' := ?_) ?_ ?_
        rotate_left
        ·show Act.put _ (some 29) _ = _
         simp only [Act.put, sA1, sA2, sA3, i64_w, i32_w]
         rfl
        refine pU_ 14 30 #[YY,YY,YY,YY,YY,YY,YY,YY,YY,YY,YY,YY,YY,YY,YY,ZZ,ZZ,ZZ,ZZ,ZZ,ZZ,ZZ,ZZ,ZZ,ZZ,ZZ,ZZ,ZZ,ZZ] ?_
        refine pU_ 15 31 #[YY,YY,YY,YY,YY,YY,YY,YY,YY,YY,YY,YY,YY,YY,YY,YY,ZZ,ZZ,ZZ,ZZ,ZZ,ZZ,ZZ,ZZ,ZZ,ZZ,ZZ,ZZ,ZZ] ?_
        refine pU_ 18 34 #[YY,YY,YY,YY,YY,YY,YY,YY,YY,YY,YY,YY,YY,YY,YY,YY,ZZ,ZZ,YY,ZZ,ZZ,ZZ,ZZ,ZZ,ZZ,ZZ,ZZ,ZZ,ZZ] ?_
        refine take_ (i := 16) (N := some 32) (v := ?_) (a' := ?_) #[YY,YY,YY,YY,YY,YY,YY,YY,YY,YY,YY,YY,YY,YY,YY,YY,YY,ZZ,YY,ZZ,ZZ,ZZ,ZZ,ZZ,ZZ,ZZ,ZZ,ZZ,ZZ] rfl rfl (take_ofW HT_.out HW_.out (by kernel_rfl)) (fun _ _ _ h => h) (Or.inl ⟨by rfl, ?_⟩) hHeld ?_ ?_
        rotate_left
        ·rintro w' ⟨s0, s1, s2, s3, s4, s5, s6, s7, s8, s9, s10, s11⟩
         go_simp
         with_reducible rfl
        rotate_left
        ·simp only [Act.put, sA1, sA2, sA3, i64_w, i32_w]
         rfl
        refine take_ (i := 19) (N := some 35) (v := ?_) (a' := ?_) #[YY,YY,YY,YY,YY,YY,YY,YY,YY,YY,YY,YY,YY,YY,YY,YY,YY,ZZ,YY,YY,ZZ,ZZ,ZZ,ZZ,ZZ,ZZ,ZZ,ZZ,ZZ] rfl rfl (take_ofW HT_.out HW_.out (by kernel_rfl)) (fun _ _ _ h => h) (Or.inl ⟨by rfl, ?_⟩) hHeld ?_ ?_
        rotate_left
        ·rintro w' ⟨s0, s1, s2, s3, s4, s5, s6, s7, s8, s9, s10, s11⟩
         go_simp
         with_reducible rfl
        rotate_left
        ·simp only [Act.put, sA1, sA2, sA3, i64_w, i32_w]
         rfl
        refine pU_ 20 36 #[YY,YY,YY,YY,YY,YY,YY,YY,YY,YY,YY,YY,YY,YY,YY,YY,YY,ZZ,YY,YY,YY,ZZ,ZZ,ZZ,ZZ,ZZ,ZZ,ZZ,ZZ] ?_
        refine one_ (i := 17) (N := some 33) #[YY,YY,YY,YY,YY,YY,YY,YY,YY,YY,YY,YY,YY,YY,YY,YY,YY,YY,YY,YY,YY,ZZ,ZZ,ZZ,ZZ,ZZ,ZZ,ZZ,ZZ] rfl rfl (one_of HT_.out (by kernel_rfl)) (by decide) (fun K hK => ?_)
        refine goes_ Try.func33 (by kernel_rfl) rfl #[.agg #[.int .i64 a0_0, .bool a0_1, .string a0_2, .slice A0_3 l0_3.length c0_3, .int .i64 a0_4, .bool a0_5]] (by rfl) rfl rfl mS_ ?_
        with_reducible refine (model_Refused.calls a0_0 a0_1 a0_2 _ _ l0_3 a0_4 a0_5 t389 _ ?side1 ?side2 A22.out).mono ?_
        (case side1 => repeat (first | exact (Kd.C_below HR0_3.out HB.out) | (with_reducible refine Kd.C_alloc ?_ _) | (with_reducible refine Kd.C_drewN ?_ _) | (with_reducible refine Kd.C_drew ?_)))
        (case side2 => exact HC0_3.out)
        rintro e w29 ⟨rfl, hb⟩
        refine ⟨_, rfl, ?_⟩
        have n0_ := Aside0.mk (bB (bX_ BK382.out) hb)
        have n1_ := Aside0.mk (bB (bX_ BK383.out) hb)
        have n2_ := Aside0.mk (wT (bS2_ GE382.out GE383.out) hb)
        clear BK382
        clear BK383
        clear HB
        have BK382 := n0_
        have BK383 := n1_
        have HB := n2_
        clear n0_ n1_ n2_
        (try clear hb)
        (try clear hb2)
        (try clear hk)
        (try clear hi)
        refine hK.out _ _ ⟨(bC BK382.out 0).trans rfl, (bC BK382.out 1).trans rfl, (bC BK382.out 2).trans rfl, (bC BK382.out 3).trans rfl, (bC BK382.out 4).trans rfl, (bC BK382.out 5).trans rfl, (bC BK383.out 0).trans rfl, (bC BK383.out 1).trans rfl, (bC BK383.out 2).trans rfl, (bC BK383.out 3).trans rfl, (bC BK383.out 4).trans rfl, (bC BK383.out 5).trans rfl⟩ (fun hHeld => ?_)
        clear hK K
        refine norm_ (a' := ?_) ?_ ?_
        rotate_left
        ·show Act.put _ (some 33) _ = _
         simp only [Act.put, sA1, sA2, sA3, i64_w, i32_w]
         rfl
        refine pU_ 21 37 #[YY,YY,YY,YY,YY,YY,YY,YY,YY,YY,YY,YY,YY,YY,YY,YY,YY,YY,YY,YY,YY,YY,ZZ,ZZ,ZZ,ZZ,ZZ,ZZ,ZZ] ?_
        refine oF_ 22 38 #[YY,YY,YY,YY,YY,YY,YY,YY,YY,YY,YY,YY,YY,YY,YY,YY,YY,YY,YY,YY,YY,YY,YY,ZZ,ZZ,ZZ,ZZ,ZZ,ZZ] ?_
        refine oF_ 23 39 #[YY,YY,YY,YY,YY,YY,YY,YY,YY,YY,YY,YY,YY,YY,YY,YY,YY,YY,YY,YY,YY,YY,YY,YY,ZZ,ZZ,ZZ,ZZ,ZZ] ?_
        refine oF_ 24 40 #[YY,YY,YY,YY,YY,YY,YY,YY,YY,YY,YY,YY,YY,YY,YY,YY,YY,YY,YY,YY,YY,YY,YY,YY,YY,ZZ,ZZ,ZZ,ZZ] ?_
        refine pU_ 25 41 #[YY,YY,YY,YY,YY,YY,YY,YY,YY,YY,YY,YY,YY,YY,YY,YY,YY,YY,YY,YY,YY,YY,YY,YY,YY,YY,ZZ,ZZ,ZZ] ?_
        refine pU_ 26 42 #[YY,YY,YY,YY,YY,YY,YY,YY,YY,YY,YY,YY,YY,YY,YY,YY,YY,YY,YY,YY,YY,YY,YY,YY,YY,YY,YY,ZZ,ZZ] ?_
        refine pU_ 27 43 #[YY,YY,YY,YY,YY,YY,YY,YY,YY,YY,YY,YY,YY,YY,YY,YY,YY,YY,YY,YY,YY,YY,YY,YY,YY,YY,YY,YY,ZZ] ?_
        refine pU_ 28 4 #[YY,YY,YY,YY,YY,YY,YY,YY,YY,YY,YY,YY,YY,YY,YY,YY,YY,YY,YY,YY,YY,YY,YY,YY,YY,YY,YY,YY,YY] ?_
        refine done_ (done_of HT_.out (by kernel_rfl)) ?_
        try go_wp2
        go_ret
        exact ⟨by first | rfl | (simp [errW_none, errW_some] <;> rfl) | (simp [*, errW_none, errW_some] <;> rfl), by repeat (first | (with_reducible first | exact HB.out | apply wA | apply wN | apply w1 | refine wS ?_ GE382.out | refine wS ?_ GE383.out) | exact HB.out)⟩
       ·rw [if_neg c23] at H
        have c23b0 : (a0_0 == 10) = false := beq_eq_false_iff_ne.mpr c23
        have c23b1 : (a0_0 != 10) = true := bne_iff_ne.mpr c23
        obtain rfl := Option.some.inj H
        try go_wp2
        have n0_ := Aside0.mk (bD BK382.out)
        have n1_ := Aside0.mk (bD BK383.out)
        have n2_ := Aside0.mk (w1 HB.out)
        clear BK382
        clear BK383
        clear HB
        have BK382 := n0_
        have BK383 := n1_
        have HB := n2_
        clear n0_ n1_ n2_
        refine start_ (n := 29) (S := fun w' => w'.cell? ⟨gb382, 0, none⟩ = some (.int .i64 a0_0) ∧ w'.cell? ⟨gb382, 1, none⟩ = some (.bool a0_1) ∧ w'.cell? ⟨gb382, 2, none⟩ = some (.string a0_2) ∧ w'.cell? ⟨gb382, 3, none⟩ = some (.slice A0_3 l0_3.length c0_3) ∧ w'.cell? ⟨gb382, 4, none⟩ = some (.int .i64 a0_4) ∧ w'.cell? ⟨gb382, 5, none⟩ = some (.bool a0_5) ∧ w'.cell? ⟨gb383, 0, none⟩ = some (.int .i64 a1_0) ∧ w'.cell? ⟨gb383, 1, none⟩ = some (.bool a1_1) ∧ w'.cell? ⟨gb383, 2, none⟩ = some (.string a1_2) ∧ w'.cell? ⟨gb383, 3, none⟩ = some (.slice A1_3 l1_3.length c1_3) ∧ w'.cell? ⟨gb383, 4, none⟩ = some (.int .i64 a1_4) ∧ w'.cell? ⟨gb383, 5, none⟩ = some (.bool a1_5)) (ds := []) #[ZZ,ZZ,ZZ,ZZ,ZZ,ZZ,ZZ,ZZ,ZZ,ZZ,ZZ,ZZ,ZZ,ZZ,ZZ,ZZ,ZZ,ZZ,ZZ,ZZ,ZZ,ZZ,ZZ,ZZ,ZZ,ZZ,ZZ,ZZ,ZZ] (by kernel_rfl) rfl rfl ⟨(bC BK382.out 0).trans rfl, (bC BK382.out 1).trans rfl, (bC BK382.out 2).trans rfl, (bC BK382.out 3).trans rfl, (bC BK382.out 4).trans rfl, (bC BK382.out 5).trans rfl, (bC BK383.out 0).trans rfl, (bC BK383.out 1).trans rfl, (bC BK383.out 2).trans rfl, (bC BK383.out 3).trans rfl, (bC BK383.out 4).trans rfl, (bC BK383.out 5).trans rfl⟩ (fun hHeld => ?_); refine with_tabW catchmentlaw28_ModelSame.tab3 catchmentlaw28_ModelSame.bits3 (fun HT_ HW_ => ?_)
        generalize wc.drew = w30 at BK382 BK383 HB hHeld ⊢
        refine one_ (i := 0) (N := some 16) #[YY,ZZ,ZZ,ZZ,ZZ,ZZ,ZZ,ZZ,ZZ,ZZ,ZZ,ZZ,ZZ,ZZ,ZZ,ZZ,ZZ,ZZ,ZZ,ZZ,ZZ,ZZ,ZZ,ZZ,ZZ,ZZ,ZZ,ZZ,ZZ] rfl rfl (one_of HT_.out (by kernel_rfl)) (by decide) (fun K hK => ?_)
        refine goes_ Try.func21 (by kernel_rfl) rfl #[] (by rfl) rfl rfl mS_ ?_
        with_reducible refine (catchmentlaw28_live.calls  true _ A15.out).mono ?_
        rintro e w31 ⟨rfl, hb⟩
        refine ⟨_, rfl, ?_⟩
        have n0_ := Aside0.mk (bB (bX_ BK382.out) hb)
        have n1_ := Aside0.mk (bB (bX_ BK383.out) hb)
        have n2_ := Aside0.mk (wT (bS2_ GE382.out GE383.out) hb)
        clear BK382
        clear BK383
        clear HB
        have BK382 := n0_
        have BK383 := n1_
        have HB := n2_
        clear n0_ n1_ n2_
        (try clear hb)
        (try clear hb2)
        (try clear hk)
        (try clear hi)
        refine hK.out _ _ ⟨(bC BK382.out 0).trans rfl, (bC BK382.out 1).trans rfl, (bC BK382.out 2).trans rfl, (bC BK382.out 3).trans rfl, (bC BK382.out 4).trans rfl, (bC BK382.out 5).trans rfl, (bC BK383.out 0).trans rfl, (bC BK383.out 1).trans rfl, (bC BK383.out 2).trans rfl, (bC BK383.out 3).trans rfl, (bC BK383.out 4).trans rfl, (bC BK383.out 5).trans rfl⟩ (fun hHeld => ?_)
        clear hK K
        refine norm_ (a' := ?_) ?_ ?_
        rotate_left
        ·show Act.put _ (some 16) _ = _
         simp only [Act.put, sA1, sA2, sA3, i64_w, i32_w]
         rfl
        refine pU_ 1 17 #[YY,YY,ZZ,ZZ,ZZ,ZZ,ZZ,ZZ,ZZ,ZZ,ZZ,ZZ,ZZ,ZZ,ZZ,ZZ,ZZ,ZZ,ZZ,ZZ,ZZ,ZZ,ZZ,ZZ,ZZ,ZZ,ZZ,ZZ,ZZ] ?_
        refine take_ (i := 2) (N := some 18) (v := ?_) (a' := ?_) #[YY,YY,YY,ZZ,ZZ,ZZ,ZZ,ZZ,ZZ,ZZ,ZZ,ZZ,ZZ,ZZ,ZZ,ZZ,ZZ,ZZ,ZZ,ZZ,ZZ,ZZ,ZZ,ZZ,ZZ,ZZ,ZZ,ZZ,ZZ] rfl rfl (take_ofW HT_.out HW_.out (by kernel_rfl)) (fun _ _ _ h => h) (Or.inl ⟨by rfl, ?_⟩) hHeld ?_ ?_
        rotate_left
        ·rintro w' ⟨s0, s1, s2, s3, s4, s5, s6, s7, s8, s9, s10, s11⟩
         go_simp
         with_reducible rfl
        rotate_left
        ·simp only [Act.put, sA1, sA2, sA3, i64_w, i32_w]
         rfl
        refine take_ (i := 3) (N := some 19) (v := ?_) (a' := ?_) #[YY,YY,YY,YY,ZZ,ZZ,ZZ,ZZ,ZZ,ZZ,ZZ,ZZ,ZZ,ZZ,ZZ,ZZ,ZZ,ZZ,ZZ,ZZ,ZZ,ZZ,ZZ,ZZ,ZZ,ZZ,ZZ,ZZ,ZZ] rfl rfl (take_ofW HT_.out HW_.out (by kernel_rfl)) (fun _ _ _ h => h) (Or.inl ⟨by rfl, ?_⟩) hHeld ?_ ?_
        rotate_left
        ·rintro w' ⟨s0, s1, s2, s3, s4, s5, s6, s7, s8, s9, s10, s11⟩
         go_simp
         with_reducible rfl
        rotate_left
        ·simp only [Act.put, sA1, sA2, sA3, i64_w, i32_w]
         rfl
        refine take_ (i := 5) (N := some 21) (v := ?_) (a' := ?_) #[YY,YY,YY,YY,ZZ,YY,ZZ,ZZ,ZZ,ZZ,ZZ,ZZ,ZZ,ZZ,ZZ,ZZ,ZZ,ZZ,ZZ,ZZ,ZZ,ZZ,ZZ,ZZ,ZZ,ZZ,ZZ,ZZ,ZZ] rfl rfl (take_ofW HT_.out HW_.out (by kernel_rfl)) (fun _ _ _ h => h) (Or.inl ⟨by rfl, ?_⟩) hHeld ?_ ?_
        rotate_left
        ·rintro w' ⟨s0, s1, s2, s3, s4, s5, s6, s7, s8, s9, s10, s11⟩
         go_simp
         with_reducible rfl
        rotate_left
        ·simp only [Act.put, sA1, sA2, sA3, i64_w, i32_w]
         rfl
        refine take_ (i := 6) (N := some 22) (v := ?_) (a' := ?_) #[YY,YY,YY,YY,ZZ,YY,YY,ZZ,ZZ,ZZ,ZZ,ZZ,ZZ,ZZ,ZZ,ZZ,ZZ,ZZ,ZZ,ZZ,ZZ,ZZ,ZZ,ZZ,ZZ,ZZ,ZZ,ZZ,ZZ] rfl rfl (take_ofW HT_.out HW_.out (by kernel_rfl)) (fun _ _ _ h => h) (Or.inl ⟨by rfl, ?_⟩) hHeld ?_ ?_
        rotate_left
        ·rintro w' ⟨s0, s1, s2, s3, s4, s5, s6, s7, s8, s9, s10, s11⟩
         go_simp
         with_reducible rfl
        rotate_left
        ·simp only [Act.put, sA1, sA2, sA3, i64_w, i32_w]
         rfl
        refine one_ (i := 4) (N := some 20) #[YY,YY,YY,YY,YY,YY,YY,ZZ,ZZ,ZZ,ZZ,ZZ,ZZ,ZZ,ZZ,ZZ,ZZ,ZZ,ZZ,ZZ,ZZ,ZZ,ZZ,ZZ,ZZ,ZZ,ZZ,ZZ,ZZ] rfl rfl (one_of HT_.out (by kernel_rfl)) (by decide) (fun K hK => ?_)
        refine goes_ Try.func31 (by kernel_rfl) rfl #[.agg #[.int .i64 a0_0, .bool a0_1, .string a0_2, .slice A0_3 l0_3.length c0_3, .int .i64 a0_4, .bool a0_5], .agg #[.int .i64 a1_0, .bool a1_1, .string a1_2, .slice A1_3 l1_3.length c1_3, .int .i64 a1_4, .bool a1_5]] (by rfl) rfl rfl mS_ ?_
        with_reducible refine (model_Same.calls kj2 a0_0 a0_1 a0_2 _ _ l0_3 a0_4 a0_5 a1_0 a1_1 a1_2 _ _ l1_3 a1_4 a1_5 t386 _ ?side1 ?side2 ?side3 ?side4 A17.out).mono ?_
        (case side1 => repeat (first | exact (Kd.C_below HR0_3.out HB.out) | (with_reducible refine Kd.C_alloc ?_ _) | (with_reducible refine Kd.C_drewN ?_ _) | (with_reducible refine Kd.C_drew ?_)))
        (case side2 => exact HC0_3.out)
        (case side3 => repeat (first | exact (Kd.C_below HR1_3.out HB.out) | (with_reducible refine Kd.C_alloc ?_ _) | (with_reducible refine Kd.C_drewN ?_ _) | (with_reducible refine Kd.C_drew ?_)))
        (case side4 => exact HC1_3.out)
        rintro e w32 ⟨rfl, hb⟩
        refine ⟨_, rfl, ?_⟩
        have n0_ := Aside0.mk (bB (bX_ BK382.out) hb)
        have n1_ := Aside0.mk (bB (bX_ BK383.out) hb)
        have n2_ := Aside0.mk (wT (bS2_ GE382.out GE383.out) hb)
        clear BK382
        clear BK383
        clear HB
        have BK382 := n0_
        have BK383 := n1_
        have HB := n2_
        clear n0_ n1_ n2_
        (try clear hb)
        (try clear hb2)
        (try clear hk)
        (try clear hi)
        refine hK.out _ _ ⟨(bC BK382.out 0).trans rfl, (bC BK382.out 1).trans rfl, (bC BK382.out 2).trans rfl, (bC BK382.out 3).trans rfl, (bC BK382.out 4).trans rfl, (bC BK382.out 5).trans rfl, (bC BK383.out 0).trans rfl, (bC BK383.out 1).trans rfl, (bC BK383.out 2).trans rfl, (bC BK383.out 3).trans rfl, (bC BK383.out 4).trans rfl, (bC BK383.out 5).trans rfl⟩ (fun hHeld => ?_)
        clear hK K
        refine norm_ (a' := ?_) ?_ ?_
        rotate_left
        ·show Act.put _ (some 20) _ = _
         simp only [Act.put, sA1, sA2, sA3, i64_w, i32_w]
         rfl
        refine one_ (i := 7) (N := some 23) #[YY,YY,YY,YY,YY,YY,YY,YY,ZZ,ZZ,ZZ,ZZ,ZZ,ZZ,ZZ,ZZ,ZZ,ZZ,ZZ,ZZ,ZZ,ZZ,ZZ,ZZ,ZZ,ZZ,ZZ,ZZ,ZZ] rfl rfl (one_of HT_.out (by kernel_rfl)) (by decide) (fun K hK => ?_)
        refine goes_ Try.func32 (by kernel_rfl) rfl #[.agg #[.int .i64 a0_0, .bool a0_1, .string a0_2, .slice A0_3 l0_3.length c0_3, .int .i64 a0_4, .bool a0_5], .agg #[.int .i64 a1_0, .bool a1_1, .string a1_2, .slice A1_3 l1_3.length c1_3, .int .i64 a1_4, .bool a1_5]] (by rfl) rfl rfl mS_ ?_
        with_reducible refine (catchmentref24_Same.calls kj2 a0_0 a0_1 a0_2 _ _ l0_3 a0_4 a0_5 a1_0 a1_1 a1_2 _ _ l1_3 a1_4 a1_5 t387 _ ?side1 ?side2 ?side3 ?side4 A18.out).mono ?_
        (case side1 => repeat (first | exact (Kd.C_below HR0_3.out HB.out) | (with_reducible refine Kd.C_alloc ?_ _) | (with_reducible refine Kd.C_drewN ?_ _) | (with_reducible refine Kd.C_drew ?_)))
        (case side2 => exact HC0_3.out)
        (case side3 => repeat (first | exact (Kd.C_below HR1_3.out HB.out) | (with_reducible refine Kd.C_alloc ?_ _) | (with_reducible refine Kd.C_drewN ?_ _) | (with_reducible refine Kd.C_drew ?_)))
        (case side4 => exact HC1_3.out)
        rintro e w33 ⟨rfl, hb⟩
        refine ⟨_, rfl, ?_⟩
        have n0_ := Aside0.mk (bB (bX_ BK382.out) hb)
        have n1_ := Aside0.mk (bB (bX_ BK383.out) hb)
        have n2_ := Aside0.mk (wT (bS2_ GE382.out GE383.out) hb)
        clear BK382
        clear BK383
        clear HB
        have BK382 := n0_
        have BK383 := n1_
        have HB := n2_
        clear n0_ n1_ n2_
        (try clear hb)
        (try clear hb2)
        (try clear hk)
        (try clear hi)
        refine hK.out _ _ ⟨(bC BK382.out 0).trans rfl, (bC BK382.out 1).trans rfl, (bC BK382.out 2).trans rfl, (bC BK382.out 3).trans rfl, (bC BK382.out 4).trans rfl, (bC BK382.out 5).trans rfl, (bC BK383.out 0).trans rfl, (bC BK383.out 1).trans rfl, (bC BK383.out 2).trans rfl, (bC BK383.out 3).trans rfl, (bC BK383.out 4).trans rfl, (bC BK383.out 5).trans rfl⟩ (fun hHeld => ?_)
        clear hK K
        refine norm_ (a' := ?_) ?_ ?_
        rotate_left
        ·show Act.put _ (some 23) _ = _
         simp only [Act.put, sA1, sA2, sA3, i64_w, i32_w]
         rfl
        refine pU_ 8 24 #[YY,YY,YY,YY,YY,YY,YY,YY,YY,ZZ,ZZ,ZZ,ZZ,ZZ,ZZ,ZZ,ZZ,ZZ,ZZ,ZZ,ZZ,ZZ,ZZ,ZZ,ZZ,ZZ,ZZ,ZZ,ZZ] ?_
        refine pU_ 9 25 #[YY,YY,YY,YY,YY,YY,YY,YY,YY,YY,ZZ,ZZ,ZZ,ZZ,ZZ,ZZ,ZZ,ZZ,ZZ,ZZ,ZZ,ZZ,ZZ,ZZ,ZZ,ZZ,ZZ,ZZ,ZZ] ?_
        refine pU_ 10 26 #[YY,YY,YY,YY,YY,YY,YY,YY,YY,YY,YY,ZZ,ZZ,ZZ,ZZ,ZZ,ZZ,ZZ,ZZ,ZZ,ZZ,ZZ,ZZ,ZZ,ZZ,ZZ,ZZ,ZZ,ZZ] ?_
        refine take_ (i := 11) (N := some 27) (v := ?_) (a' := ?_) #[YY,YY,YY,YY,YY,YY,YY,YY,YY,YY,YY,YY,ZZ,ZZ,ZZ,ZZ,ZZ,ZZ,ZZ,ZZ,ZZ,ZZ,ZZ,ZZ,ZZ,ZZ,ZZ,ZZ,ZZ] rfl rfl (take_ofW HT_.out HW_.out (by kernel_rfl)) (fun _ _ _ h => h) (Or.inl ⟨by rfl, ?_⟩) hHeld ?_ ?_
        rotate_left
        ·rintro w' ⟨s0, s1, s2, s3, s4, s5, s6, s7, s8, s9, s10, s11⟩
         go_simp
         with_reducible rfl
        rotate_left
        ·simp only [Act.put, sA1, sA2, sA3, i64_w, i32_w]
         rfl
        refine take_ (i := 12) (N := some 28) (v := ?_) (a' := ?_) #[YY,YY,YY,YY,YY,YY,YY,YY,YY,YY,YY,YY,YY,ZZ,ZZ,ZZ,ZZ,ZZ,ZZ,ZZ,ZZ,ZZ,ZZ,ZZ,ZZ,ZZ,ZZ,ZZ,ZZ] rfl rfl (take_ofW HT_.out HW_.out (by kernel_rfl)) (fun _ _ _ h => h) (Or.inl ⟨by rfl, ?_⟩) hHeld ?_ ?_
        rotate_left
        ·rintro w' ⟨s0, s1, s2, s3, s4, s5, s6, s7, s8, s9, s10, s11⟩
         go_simp
         with_reducible rfl
        rotate_left
        ·simp only [Act.put, sA1, sA2, sA3, i64_w, i32_w]
         rfl
        refine one_ (i := 13) (N := some 29) #[YY,YY,YY,YY,YY,YY,YY,YY,YY,YY,YY,YY,YY,YY,ZZ,ZZ,ZZ,ZZ,ZZ,ZZ,ZZ,ZZ,ZZ,ZZ,ZZ,ZZ,ZZ,ZZ,ZZ] rfl rfl (one_of HT_.out (by kernel_rfl)) (by decide) (fun K hK => ?_)
        refine goes_ Try.func31 (by kernel_rfl) rfl #[.agg #[.int .i64 a0_0, .bool a0_1, .string a0_2, .slice A0_3 l0_3.length c0_3, .int .i64 a0_4, .bool a0_5], .agg #[.int .i64 a0_0, .bool a0_1, .string a0_2, .slice A0_3 l0_3.length c0_3, .int .i64 a0_4, .bool a0_5]] (by rfl) rfl rfl mS_ ?_
        with_reducible refine (model_Same.calls kj2 a0_0 a0_1 a0_2 _ _ l0_3 a0_4 a0_5 a0_0 a0_1 a0_2 _ _ l0_3 a0_4 a0_5 true _ ?side1 ?side2 ?side3 ?side4 A20.out).mono ?_
        (case side1 => repeat (first | exact (Kd.C_below HR0_3.out HB.out) | (with_reducible refine Kd.C_alloc ?_ _) | (with_reducible refine Kd.C_drewN ?_ _) | (with_reducible refine Kd.C_drew ?_)))
        (case side2 => exact HC0_3.out)
        (case side3 => repeat (first | exact (Kd.C_below HR0_3.out HB.out) | (with_reducible refine Kd.C_alloc ?_ _) | (with_reducible refine Kd.C_drewN ?_ _) | (with_reducible refine Kd.C_drew ?_)))
        (case side4 => exact HC0_3.out)
        rintro e w34 ⟨rfl, hb⟩
        refine ⟨_, rfl, ?_⟩
        have n0_ := Aside0.mk (bB (bX_ BK382.out) hb)
        have n1_ := Aside0.mk (bB (bX_ BK383.out) hb)
        have n2_ := Aside0.mk (wT (bS2_ GE382.out GE383.out) hb)
        clear BK382
        clear BK383
        clear HB
        have BK382 := n0_
        have BK383 := n1_
        have HB := n2_
        clear n0_ n1_ n2_
        (try clear hb)
        (try clear hb2)
        (try clear hk)
        (try clear hi)
        refine hK.out _ _ ⟨(bC BK382.out 0).trans rfl, (bC BK382.out 1).trans rfl, (bC BK382.out 2).trans rfl, (bC BK382.out 3).trans rfl, (bC BK382.out 4).trans rfl, (bC BK382.out 5).trans rfl, (bC BK383.out 0).trans rfl, (bC BK383.out 1).trans rfl, (bC BK383.out 2).trans rfl, (bC BK383.out 3).trans rfl, (bC BK383.out 4).trans rfl, (bC BK383.out 5).trans rfl⟩ (fun hHeld => ?_)
        clear hK K
        refine norm_ (a' := ?_) ?_ ?_
        rotate_left
        ·show Act.put _ (some 29) _ = _
         simp only [Act.put, sA1, sA2, sA3, i64_w, i32_w]
         rfl
        refine pU_ 14 30 #[YY,YY,YY,YY,YY,YY,YY,YY,YY,YY,YY,YY,YY,YY,YY,ZZ,ZZ,ZZ,ZZ,ZZ,ZZ,ZZ,ZZ,ZZ,ZZ,ZZ,ZZ,ZZ,ZZ] ?_
        refine pU_ 15 31 #[YY,YY,YY,YY,YY,YY,YY,YY,YY,YY,YY,YY,YY,YY,YY,YY,ZZ,ZZ,ZZ,ZZ,ZZ,ZZ,ZZ,ZZ,ZZ,ZZ,ZZ,ZZ,ZZ] ?_
        refine pU_ 18 34 #[YY,YY,YY,YY,YY,YY,YY,YY,YY,YY,YY,YY,YY,YY,YY,YY,ZZ,ZZ,YY,ZZ,ZZ,ZZ,ZZ,ZZ,ZZ,ZZ,ZZ,ZZ,ZZ] ?_
        refine take_ (i := 16) (N := some 32) (v := ?_) (a' := ?_) #[YY,YY,YY,YY,YY,YY,YY,YY,YY,YY,YY,YY,YY,YY,YY,YY,YY,ZZ,YY,ZZ,ZZ,ZZ,ZZ,ZZ,ZZ,ZZ,ZZ,ZZ,ZZ] rfl rfl (take_ofW HT_.out HW_.out (by kernel_rfl)) (fun _ _ _ h => h) (Or.inl ⟨by rfl, ?_⟩) hHeld ?_ ?_
        rotate_left
        ·rintro w' ⟨s0, s1, s2, s3, s4, s5, s6, s7, s8, s9, s10, s11⟩
         go_simp
         with_reducible rfl
        rotate_left
        ·simp only [Act.put, sA1, sA2, sA3, i64_w, i32_w]
         rfl
        refine take_ (i := 19) (N := some 35) (v := ?_) (a' := ?_) #[YY,YY,YY,YY,YY,YY,YY,YY,YY,YY,YY,YY,YY,YY,YY,YY,YY,ZZ,YY,YY,ZZ,ZZ,ZZ,ZZ,ZZ,ZZ,ZZ,ZZ,ZZ] rfl rfl (take_ofW HT_.out HW_.out (by kernel_rfl)) (fun _ _ _ h => h) (Or.inl ⟨by rfl, ?_⟩) hHeld ?_ ?_
        rotate_left
        ·rintro w' ⟨s0, s1, s2, s3, s4, s5, s6, s7, s8, s9, s10, s11⟩
         go_simp
         with_reducible rfl
        rotate_left
        ·simp only [Act.put, sA1, sA2, sA3, i64_w, i32_w]
         rfl
        refine pU_ 20 36 #[YY,YY,YY,YY,YY,YY,YY,YY,YY,YY,YY,YY,YY,YY,YY,YY,YY,ZZ,YY,YY,YY,ZZ,ZZ,ZZ,ZZ,ZZ,ZZ,ZZ,ZZ] ?_
        refine one_ (i := 17) (N := some 33) #[YY,YY,YY,YY,YY,YY,YY,YY,YY,YY,YY,YY,YY,YY,YY,YY,YY,YY,YY,YY,YY,ZZ,ZZ,ZZ,ZZ,ZZ,ZZ,ZZ,ZZ] rfl rfl (one_of HT_.out (by kernel_rfl)) (by decide) (fun K hK => ?_)
        refine goes_ Try.func33 (by kernel_rfl) rfl #[.agg #[.int .i64 a0_0, .bool a0_1, .string a0_2, .slice A0_3 l0_3.length c0_3, .int .i64 a0_4, .bool a0_5]] (by rfl) rfl rfl mS_ ?_
        with_reducible refine (model_Refused.calls a0_0 a0_1 a0_2 _ _ l0_3 a0_4 a0_5 t389 _ ?side1 ?side2 A22.out).mono ?_
        (case side1 => repeat (first | exact (Kd.C_below HR0_3.out HB.out) | (with_reducible refine Kd.C_alloc ?_ _) | (with_reducible refine Kd.C_drewN ?_ _) | (with_reducible refine Kd.C_drew ?_)))
        (case side2 => exact HC0_3.out)
        rintro e w35 ⟨rfl, hb⟩
        refine ⟨_, rfl, ?_⟩
        have n0_ := Aside0.mk (bB (bX_ BK382.out) hb)
        have n1_ := Aside0.mk (bB (bX_ BK383.out) hb)
        have n2_ := Aside0.mk (wT (bS2_ GE382.out GE383.out) hb)
        clear BK382
        clear BK383
        clear HB
        have BK382 := n0_
        have BK383 := n1_
        have HB := n2_
        clear n0_ n1_ n2_
        (try clear hb)
        (try clear hb2)
        (try clear hk)
        (try clear hi)
        refine hK.out _ _ ⟨(bC BK382.out 0).trans rfl, (bC BK382.out 1).trans rfl, (bC BK382.out 2).trans rfl, (bC BK382.out 3).trans rfl, (bC BK382.out 4).trans rfl, (bC BK382.out 5).trans rfl, (bC BK383.out 0).trans rfl, (bC BK383.out 1).trans rfl, (bC BK383.out 2).trans rfl, (bC BK383.out 3).trans rfl, (bC BK383.out 4).trans rfl, (bC BK383.out 5).trans rfl⟩ (fun hHeld => ?_)
        clear hK K
        refine norm_ (a' := ?_) ?_ ?_
        rotate_left
        ·show Act.put _ (some 33) _ = _
         simp only [Act.put, sA1, sA2, sA3, i64_w, i32_w]
         rfl
        refine pU_ 21 37 #[YY,YY,YY,YY,YY,YY,YY,YY,YY,YY,YY,YY,YY,YY,YY,YY,YY,YY,YY,YY,YY,YY,ZZ,ZZ,ZZ,ZZ,ZZ,ZZ,ZZ] ?_
        refine pU_ 22 38 #[YY,YY,YY,YY,YY,YY,YY,YY,YY,YY,YY,YY,YY,YY,YY,YY,YY,YY,YY,YY,YY,YY,YY,ZZ,ZZ,ZZ,ZZ,ZZ,ZZ] ?_
        refine take_ (i := 23) (N := some 39) (v := ?_) (a' := ?_) #[YY,YY,YY,YY,YY,YY,YY,YY,YY,YY,YY,YY,YY,YY,YY,YY,YY,YY,YY,YY,YY,YY,YY,YY,ZZ,ZZ,ZZ,ZZ,ZZ] rfl rfl (take_ofW HT_.out HW_.out (by kernel_rfl)) (fun _ _ _ h => h) (Or.inl ⟨by rfl, ?_⟩) hHeld ?_ ?_
        rotate_left
        ·rintro w' ⟨s0, s1, s2, s3, s4, s5, s6, s7, s8, s9, s10, s11⟩
         go_simp
         with_reducible rfl
        rotate_left
        ·simp only [Act.put, sA1, sA2, sA3, i64_w, i32_w]
         rfl
        refine pU_ 24 40 #[YY,YY,YY,YY,YY,YY,YY,YY,YY,YY,YY,YY,YY,YY,YY,YY,YY,YY,YY,YY,YY,YY,YY,YY,YY,ZZ,ZZ,ZZ,ZZ] ?_
        refine pU_ 25 41 #[YY,YY,YY,YY,YY,YY,YY,YY,YY,YY,YY,YY,YY,YY,YY,YY,YY,YY,YY,YY,YY,YY,YY,YY,YY,YY,ZZ,ZZ,ZZ] ?_
        refine pU_ 26 42 #[YY,YY,YY,YY,YY,YY,YY,YY,YY,YY,YY,YY,YY,YY,YY,YY,YY,YY,YY,YY,YY,YY,YY,YY,YY,YY,YY,ZZ,ZZ] ?_
        refine pU_ 27 43 #[YY,YY,YY,YY,YY,YY,YY,YY,YY,YY,YY,YY,YY,YY,YY,YY,YY,YY,YY,YY,YY,YY,YY,YY,YY,YY,YY,YY,ZZ] ?_
        refine pU_ 28 4 #[YY,YY,YY,YY,YY,YY,YY,YY,YY,YY,YY,YY,YY,YY,YY,YY,YY,YY,YY,YY,YY,YY,YY,YY,YY,YY,YY,YY,YY] ?_
        refine done_ (done_of HT_.out (by kernel_rfl)) ?_
        try go_wp2
        go_ret
        exact ⟨by first | rfl | (simp [errW_none, errW_some] <;> rfl) | (simp [*, errW_none, errW_some] <;> rfl), by repeat (first | (with_reducible first | exact HB.out | apply wA | apply wN | apply w1 | refine wS ?_ GE382.out | refine wS ?_ GE383.out) | exact HB.out)⟩
      ·replace c21 := Bool.eq_false_iff.mpr c21
       subst c21
       have H1 : (some false) = some r := by rw [if_neg (show ¬ (false = true) by decide)] at H; exact H
       clear H
       have H := H1
       clear H1
       obtain rfl := Option.some.inj H
       try go_wp2
       have n0_ := Aside0.mk (bD BK382.out)
       have n1_ := Aside0.mk (bD BK383.out)
       have n2_ := Aside0.mk (w1 HB.out)
       clear BK382
       clear BK383
       clear HB
       have BK382 := n0_
       have BK383 := n1_
       have HB := n2_
       clear n0_ n1_ n2_
       refine start_ (n := 29) (S := fun w' => w'.cell? ⟨gb382, 0, none⟩ = some (.int .i64 a0_0) ∧ w'.cell? ⟨gb382, 1, none⟩ = some (.bool a0_1) ∧ w'.cell? ⟨gb382, 2, none⟩ = some (.string a0_2) ∧ w'.cell? ⟨gb382, 3, none⟩ = some (.slice A0_3 l0_3.length c0_3) ∧ w'.cell? ⟨gb382, 4, none⟩ = some (.int .i64 a0_4) ∧ w'.cell? ⟨gb382, 5, none⟩ = some (.bool a0_5) ∧ w'.cell? ⟨gb383, 0, none⟩ = some (.int .i64 a1_0) ∧ w'.cell? ⟨gb383, 1, none⟩ = some (.bool a1_1) ∧ w'.cell? ⟨gb383, 2, none⟩ = some (.string a1_2) ∧ w'.cell? ⟨gb383, 3, none⟩ = some (.slice A1_3 l1_3.length c1_3) ∧ w'.cell? ⟨gb383, 4, none⟩ = some (.int .i64 a1_4) ∧ w'.cell? ⟨gb383, 5, none⟩ = some (.bool a1_5)) (ds := []) #[ZZ,ZZ,ZZ,ZZ,ZZ,ZZ,ZZ,ZZ,ZZ,ZZ,ZZ,ZZ,ZZ,ZZ,ZZ,ZZ,ZZ,ZZ,ZZ,ZZ,ZZ,ZZ,ZZ,ZZ,ZZ,ZZ,ZZ,ZZ,ZZ] (by kernel_rfl) rfl rfl ⟨(bC BK382.out 0).trans rfl, (bC BK382.out 1).trans rfl, (bC BK382.out 2).trans rfl, (bC BK382.out 3).trans rfl, (bC BK382.out 4).trans rfl, (bC BK382.out 5).trans rfl, (bC BK383.out 0).trans rfl, (bC BK383.out 1).trans rfl, (bC BK383.out 2).trans rfl, (bC BK383.out 3).trans rfl, (bC BK383.out 4).trans rfl, (bC BK383.out 5).trans rfl⟩ (fun hHeld => ?_); refine with_tabW catchmentlaw28_ModelSame.tab3 catchmentlaw28_ModelSame.bits3 (fun HT_ HW_ => ?_)
       generalize wc.drew = w36 at BK382 BK383 HB hHeld ⊢
       refine one_ (i := 0) (N := some 16) #[YY,ZZ,ZZ,ZZ,ZZ,ZZ,ZZ,ZZ,ZZ,ZZ,ZZ,ZZ,ZZ,ZZ,ZZ,ZZ,ZZ,ZZ,ZZ,ZZ,ZZ,ZZ,ZZ,ZZ,ZZ,ZZ,ZZ,ZZ,ZZ] rfl rfl (one_of HT_.out (by kernel_rfl)) (by decide) (fun K hK => ?_)
       refine goes_ Try.func21 (by kernel_rfl) rfl #[] (by rfl) rfl rfl mS_ ?_
       with_reducible refine (catchmentlaw28_live.calls  true _ A15.out).mono ?_
       rintro e w37 ⟨rfl, hb⟩
       refine ⟨_, rfl, ?_⟩
       have n0_ := Aside0.mk (bB (bX_ BK382.out) hb)
       have n1_ := Aside0.mk (bB (bX_ BK383.out) hb)
       have n2_ := Aside0.mk (wT (bS2_ GE382.out GE383.out) hb)
       clear BK382
       clear BK383
       clear HB
       have BK382 := n0_
       have BK383 := n1_
       have HB := n2_
       clear n0_ n1_ n2_
       (try clear hb)
       (try clear hb2)
       (try clear hk)
       (try clear hi)
       refine hK.out _ _ ⟨(bC BK382.out 0).trans rfl, (bC BK382.out 1).trans rfl, (bC BK382.out 2).trans rfl, (bC BK382.out 3).trans rfl, (bC BK382.out 4).trans rfl, (bC BK382.out 5).trans rfl, (bC BK383.out 0).trans rfl, (bC BK383.out 1).trans rfl, (bC BK383.out 2).trans rfl, (bC BK383.out 3).trans rfl, (bC BK383.out 4).trans rfl, (bC BK383.out 5).trans rfl⟩ (fun hHeld => ?_)
       clear hK K
       refine norm_ (a' := ?_) ?_ ?_
       rotate_left
       ·show Act.put _ (some 16) _ = _
        simp only [Act.put, sA1, sA2, sA3, i64_w, i32_w]
        rfl
       refine pU_ 1 17 #[YY,YY,ZZ,ZZ,ZZ,ZZ,ZZ,ZZ,ZZ,ZZ,ZZ,ZZ,ZZ,ZZ,ZZ,ZZ,ZZ,ZZ,ZZ,ZZ,ZZ,ZZ,ZZ,ZZ,ZZ,ZZ,ZZ,ZZ,ZZ] ?_
       refine take_ (i := 2) (N := some 18) (v := ?_) (a' := ?_) #[YY,YY,YY,ZZ,ZZ,ZZ,ZZ,ZZ,ZZ,ZZ,ZZ,ZZ,ZZ,ZZ,ZZ,ZZ,ZZ,ZZ,ZZ,ZZ,ZZ,ZZ,ZZ,ZZ,ZZ,ZZ,ZZ,ZZ,ZZ] rfl rfl (take_ofW HT_.out HW_.out (by kernel_rfl)) (fun _ _ _ h => h) (Or.inl ⟨by rfl, ?_⟩) hHeld ?_ ?_
       rotate_left
       ·rintro w' ⟨s0, s1, s2, s3, s4, s5, s6, s7, s8, s9, s10, s11⟩
        go_simp
        with_reducible rfl
       rotate_left
       ·simp only [Act.put, sA1, sA2, sA3, i64_w, i32_w]
        rfl
       refine take_ (i := 3) (N := some 19) (v := ?_) (a' := ?_) #[YY,YY,YY,YY,ZZ,ZZ,ZZ,ZZ,ZZ,ZZ,ZZ,ZZ,ZZ,ZZ,ZZ,ZZ,ZZ,ZZ,ZZ,ZZ,ZZ,ZZ,ZZ,ZZ,ZZ,ZZ,ZZ,ZZ,ZZ] rfl rfl (take_ofW HT_.out HW_.out (by kernel_rfl)) (fun _ _ _ h => h) (Or.inl ⟨by rfl, ?_⟩) hHeld ?_ ?_
       rotate_left
       ·rintro w' ⟨s0, s1, s2, s3, s4, s5, s6, s7, s8, s9, s10, s11⟩
        go_simp
        with_reducible rfl
       rotate_left
       ·simp only [Act.put, sA1, sA2, sA3, i64_w, i32_w]
        rfl
       refine take_ (i := 5) (N := some 21) (v := ?_) (a' := ?_) #[YY,YY,YY,YY,ZZ,YY,ZZ,ZZ,ZZ,ZZ,ZZ,ZZ,ZZ,ZZ,ZZ,ZZ,ZZ,ZZ,ZZ,ZZ,ZZ,ZZ,ZZ,ZZ,ZZ,ZZ,ZZ,ZZ,ZZ] rfl rfl (take_ofW HT_.out HW_.out (by kernel_rfl)) (fun _ _ _ h => h) (Or.inl ⟨by rfl, ?_⟩) hHeld ?_ ?_
       rotate_left
       ·rintro w' ⟨s0, s1, s2, s3, s4, s5, s6, s7, s8, s9, s10, s11⟩
        go_simp
        with_reducible rfl
       rotate_left
       ·simp only [Act.put, sA1, sA2, sA3, i64_w, i32_w]
        rfl
       refine take_ (i := 6) (N := some 22) (v := ?_) (a' := ?_) #[YY,YY,YY,YY,ZZ,YY,YY,ZZ,ZZ,ZZ,ZZ,ZZ,ZZ,ZZ,ZZ,ZZ,ZZ,ZZ,ZZ,ZZ,ZZ,ZZ,ZZ,ZZ,ZZ,ZZ,ZZ,ZZ,ZZ] rfl rfl (take_ofW HT_.out HW_.out (by kernel_rfl)) (fun _ _ _ h => h) (Or.inl ⟨by rfl, ?_⟩) hHeld ?_ ?_
       rotate_left
       ·rintro w' ⟨s0, s1, s2, s3, s4, s5, s6, s7, s8, s9, s10, s11⟩
        go_simp
        with_reducible rfl
       rotate_left
       ·simp only [Act.put, sA1, sA2, sA3, i64_w, i32_w]
        rfl
       refine one_ (i := 4) (N := some 20) #[YY,YY,YY,YY,YY,YY,YY,ZZ,ZZ,ZZ,ZZ,ZZ,ZZ,ZZ,ZZ,ZZ,ZZ,ZZ,ZZ,ZZ,ZZ,ZZ,ZZ,ZZ,ZZ,ZZ,ZZ,ZZ,ZZ] rfl rfl (one_of HT_.out (by kernel_rfl)) (by decide) (fun K hK => ?_)
       refine goes_ Try.func31 (by kernel_rfl) rfl #[.agg #[.int .i64 a0_0, .bool a0_1, .string a0_2, .slice A0_3 l0_3.length c0_3, .int .i64 a0_4, .bool a0_5], .agg #[.int .i64 a1_0, .bool a1_1, .string a1_2, .slice A1_3 l1_3.length c1_3, .int .i64 a1_4, .bool a1_5]] (by rfl) rfl rfl mS_ ?_
       with_reducible refine (model_Same.calls kj2 a0_0 a0_1 a0_2 _ _ l0_3 a0_4 a0_5 a1_0 a1_1 a1_2 _ _ l1_3 a1_4 a1_5 t386 _ ?side1 ?side2 ?side3 ?side4 A17.out).mono ?_
       (case side1 => repeat (first | exact (Kd.C_below HR0_3.out HB.out) | (with_reducible refine Kd.C_alloc ?_ _) | (with_reducible refine Kd.C_drewN ?_ _) | (with_reducible refine Kd.C_drew ?_)))
       (case side2 => exact HC0_3.out)
       (case side3 => repeat (first | exact (Kd.C_below HR1_3.out HB.out) | (with_reducible refine Kd.C_alloc ?_ _) | (with_reducible refine Kd.C_drewN ?_ _) | (with_reducible refine Kd.C_drew ?_)))
       (case side4 => exact HC1_3.out)
       rintro e w38 ⟨rfl, hb⟩
       refine ⟨_, rfl, ?_⟩
       have n0_ := Aside0.mk (bB (bX_ BK382.out) hb)
       have n1_ := Aside0.mk (bB (bX_ BK383.out) hb)
       have n2_ := Aside0.mk (wT (bS2_ GE382.out GE383.out) hb)
       clear BK382
       clear BK383
       clear HB
       have BK382 := n0_
       have BK383 := n1_
       have HB := n2_
       clear n0_ n1_ n2_
       (try clear hb)
       (try clear hb2)
       (try clear hk)
       (try clear hi)
       refine hK.out _ _ ⟨(bC BK382.out 0).trans rfl, (bC BK382.out 1).trans rfl, (bC BK382.out 2).trans rfl, (bC BK382.out 3).trans rfl, (bC BK382.out 4).trans rfl, (bC BK382.out 5).trans rfl, (bC BK383.out 0).trans rfl, (bC BK383.out 1).trans rfl, (bC BK383.out 2).trans rfl, (bC BK383.out 3).trans rfl, (bC BK383.out 4).trans rfl, (bC BK383.out 5).trans rfl⟩ (fun hHeld => ?_)
       clear hK K
       refine norm_ (a' := ?_) ?_ ?_
       rotate_left
       ·show Act.put _ (some 20) _ = _
        simp only [Act.put, sA1, sA2, sA3, i64_w, i32_w]
        rfl
       refine one_ (i := 7) (N := some 23) #[YY,YY,YY,YY,YY,YY,YY,YY,ZZ,ZZ,ZZ,ZZ,ZZ,ZZ,ZZ,ZZ,ZZ,ZZ,ZZ,ZZ,ZZ,ZZ,ZZ,ZZ,ZZ,ZZ,ZZ,ZZ,ZZ] rfl rfl (one_of HT_.out (by kernel_rfl)) (by decide) (fun K hK => ?_)
       refine goes_ Try.func32 (by kernel_rfl) rfl #[.agg #[.int .i64 a0_0, .bool a0_1, .string a0_2, .slice A0_3 l0_3.length c0_3, .int .i64 a0_4, .bool a0_5], .agg #[.int .i64 a1_0, .bool a1_1, .string a1_2, .slice A1_3 l1_3.length c1_3, .int .i64 a1_4, .bool a1_5]] (by rfl) rfl rfl mS_ ?_
       with_reducible refine (catchmentref24_Same.calls kj2 a0_0 a0_1 a0_2 _ _ l0_3 a0_4 a0_5 a1_0 a1_1 a1_2 _ _ l1_3 a1_4 a1_5 t387 _ ?side1 ?side2 ?side3 ?side4 A18.out).mono ?_
       (case side1 => repeat (first | exact (Kd.C_below HR0_3.out HB.out) | (with_reducible refine Kd.C_alloc ?_ _) | (with_reducible refine Kd.C_drewN ?_ _) | (with_reducible refine Kd.C_drew ?_)))
       (case side2 => exact HC0_3.out)
       (case side3 => repeat (first | exact (Kd.C_below HR1_3.out HB.out) | (with_reducible refine Kd.C_alloc ?_ _) | (with_reducible refine Kd.C_drewN ?_ _) | (with_reducible refine Kd.C_drew ?_)))
       (case side4 => exact HC1_3.out)
       rintro e w39 ⟨rfl, hb⟩
       refine ⟨_, rfl, ?_⟩
       have n0_ := Aside0.mk (bB (bX_ BK382.out) hb)
       have n1_ := Aside0.mk (bB (bX_ BK383.out) hb)
       have n2_ := Aside0.mk (wT (bS2_ GE382.out GE383.out) hb)
       clear BK382
       clear BK383
       clear HB
       have BK382 := n0_
       have BK383 := n1_
       have HB := n2_
       clear n0_ n1_ n2_
       (try clear hb)
       (try clear hb2)
       (try clear hk)
       (try clear hi)
       refine hK.out _ _ ⟨(bC BK382.out 0).trans rfl, (bC BK382.out 1).trans rfl, (bC BK382.out 2).trans rfl, (bC BK382.out 3).trans rfl, (bC BK382.out 4).trans rfl, (bC BK382.out 5).trans rfl, (bC BK383.out 0).trans rfl, (bC BK383.out 1).trans rfl, (bC BK383.out 2).trans rfl, (bC BK383.out 3).trans rfl, (bC BK383.out 4).trans rfl, (bC BK383.out 5).trans rfl⟩ (fun hHeld => ?_)
       clear hK K
       refine norm_ (a' := ?_) ?_ ?_
       rotate_left
       ·show Act.put _ (some 23) _ = _
        simp only [Act.put, sA1, sA2, sA3, i64_w, i32_w]
        rfl
       refine pU_ 8 24 #[YY,YY,YY,YY,YY,YY,YY,YY,YY,ZZ,ZZ,ZZ,ZZ,ZZ,ZZ,ZZ,ZZ,ZZ,ZZ,ZZ,ZZ,ZZ,ZZ,ZZ,ZZ,ZZ,ZZ,ZZ,ZZ] ?_
       refine pU_ 9 25 #[YY,YY,YY,YY,YY,YY,YY,YY,YY,YY,ZZ,ZZ,ZZ,ZZ,ZZ,ZZ,ZZ,ZZ,ZZ,ZZ,ZZ,ZZ,ZZ,ZZ,ZZ,ZZ,ZZ,ZZ,ZZ] ?_
       refine pU_ 10 26 #[YY,YY,YY,YY,YY,YY,YY,YY,YY,YY,YY,ZZ,ZZ,ZZ,ZZ,ZZ,ZZ,ZZ,ZZ,ZZ,ZZ,ZZ,ZZ,ZZ,ZZ,ZZ,ZZ,ZZ,ZZ] ?_
       refine take_ (i := 11) (N := some 27) (v := ?_) (a' := ?_) #[YY,YY,YY,YY,YY,YY,YY,YY,YY,YY,YY,YY,ZZ,ZZ,ZZ,ZZ,ZZ,ZZ,ZZ,ZZ,ZZ,ZZ,ZZ,ZZ,ZZ,ZZ,ZZ,ZZ,ZZ] rfl rfl (take_ofW HT_.out HW_.out (by kernel_rfl)) (fun _ _ _ h => h) (Or.inl ⟨by rfl, ?_⟩) hHeld ?_ ?_
       rotate_left
       ·rintro w' ⟨s0, s1, s2, s3, s4, s5, s6, s7, s8, s9, s10, s11⟩
        go_simp
        with_reducible rfl
       rotate_left
       ·simp only [Act.put, sA1, sA2, sA3, i64_w, i32_w]
        rfl
       refine take_ (i := 12) (N := some 28) (v := ?_) (a' := ?_) #[YY,YY,YY,YY,YY,YY,YY,YY,YY,YY,YY,YY,YY,ZZ,ZZ,ZZ,ZZ,ZZ,ZZ,ZZ,ZZ,ZZ,ZZ,ZZ,ZZ,ZZ,ZZ,ZZ,ZZ] rfl rfl (take_ofW HT_.out HW_.out (by kernel_rfl)) (fun _ _ _ h => h) (Or.inl ⟨by rfl, ?_⟩) hHeld ?_ ?_
       rotate_left
       ·rintro w' ⟨s0, s1, s2, s3, s4, s5, s6, s7, s8, s9, s10, s11⟩
        go_simp
        with_reducible rfl
       rotate_left
       ·simp only [Act.put, sA1, sA2, sA3, i64_w, i32_w]
        rfl
       refine one_ (i := 13) (N := some 29) #[YY,YY,YY,YY,YY,YY,YY,YY,YY,YY,YY,YY,YY,YY,ZZ,ZZ,ZZ,ZZ,ZZ,ZZ,ZZ,ZZ,ZZ,ZZ,ZZ,ZZ,ZZ,ZZ,ZZ] rfl rfl (one_of HT_.out (by kernel_rfl)) (by decide) (fun K hK => ?_)
       refine goes_ Try.func31 (by kernel_rfl) rfl #[.agg #[.int .i64 a0_0, .bool a0_1, .string a0_2, .slice A0_3 l0_3.length c0_3, .int .i64 a0_4, .bool a0_5], .agg #[.int .i64 a0_0, .bool a0_1, .string a0_2, .slice A0_3 l0_3.length c0_3, .int .i64 a0_4, .bool a0_5]] (by rfl) rfl rfl mS_ ?_
       with_reducible refine (model_Same.calls kj2 a0_0 a0_1 a0_2 _ _ l0_3 a0_4 a0_5 a0_0 a0_1 a0_2 _ _ l0_3 a0_4 a0_5 false _ ?side1 ?side2 ?side3 ?side4 A20.out).mono ?_
       (case side1 => repeat (first | exact (Kd.C_below HR0_3.out HB.out) | (with_reducible refine Kd.C_alloc ?_ _) | (with_reducible refine Kd.C_drewN ?_ _) | (with_reducible refine Kd.C_drew ?_)))
       (case side2 => exact HC0_3.out)
       (case side3 => repeat (first | exact (Kd.C_below HR0_3.out HB.out) | (with_reducible refine Kd.C_alloc ?_ _) | (with_reducible refine Kd.C_drewN ?_ _) | (with_reducible refine Kd.C_drew ?_)))
       (case side4 => exact HC0_3.out)
       rintro e w40 ⟨rfl, hb⟩
       refine ⟨_, rfl, ?_⟩
       have n0_ := Aside0.mk (bB (bX_ BK382.out) hb)
       have n1_ := Aside0.mk (bB (bX_ BK383.out) hb)
       have n2_ := Aside0.mk (wT (bS2_ GE382.out GE383.out) hb)
       clear BK382
       clear BK383
       clear HB
       have BK382 := n0_
       have BK383 := n1_
       have HB := n2_
       clear n0_ n1_ n2_
       (try clear hb)
       (try clear hb2)
       (try clear hk)
       (try clear hi)
       refine hK.out _ _ ⟨(bC BK382.out 0).trans rfl, (bC BK382.out 1).trans rfl, (bC BK382.out 2).trans rfl, (bC BK382.out 3).trans rfl, (bC BK382.out 4).trans rfl, (bC BK382.out 5).trans rfl, (bC BK383.out 0).trans rfl, (bC BK383.out 1).trans rfl, (bC BK383.out 2).trans rfl, (bC BK383.out 3).trans rfl, (bC BK383.out 4).trans rfl, (bC BK383.out 5).trans rfl⟩ (fun hHeld => ?_)
       clear hK K
       refine norm_ (a' := ?_) ?_ ?_
       rotate_left
       ·show Act.put _ (some 29) _ = _
        simp only [Act.put, sA1, sA2, sA3, i64_w, i32_w]
        rfl
       refine pU_ 14 30 #[YY,YY,YY,YY,YY,YY,YY,YY,YY,YY,YY,YY,YY,YY,YY,ZZ,ZZ,ZZ,ZZ,ZZ,ZZ,ZZ,ZZ,ZZ,ZZ,ZZ,ZZ,ZZ,ZZ] ?_
       refine pU_ 15 31 #[YY,YY,YY,YY,YY,YY,YY,YY,YY,YY,YY,YY,YY,YY,YY,YY,ZZ,ZZ,ZZ,ZZ,ZZ,ZZ,ZZ,ZZ,ZZ,ZZ,ZZ,ZZ,ZZ] ?_
       refine oF_ 16 32 #[YY,YY,YY,YY,YY,YY,YY,YY,YY,YY,YY,YY,YY,YY,YY,YY,YY,ZZ,ZZ,ZZ,ZZ,ZZ,ZZ,ZZ,ZZ,ZZ,ZZ,ZZ,ZZ] ?_
       refine oF_ 17 33 #[YY,YY,YY,YY,YY,YY,YY,YY,YY,YY,YY,YY,YY,YY,YY,YY,YY,YY,ZZ,ZZ,ZZ,ZZ,ZZ,ZZ,ZZ,ZZ,ZZ,ZZ,ZZ] ?_
       refine oF_ 18 34 #[YY,YY,YY,YY,YY,YY,YY,YY,YY,YY,YY,YY,YY,YY,YY,YY,YY,YY,YY,ZZ,ZZ,ZZ,ZZ,ZZ,ZZ,ZZ,ZZ,ZZ,ZZ] ?_
       refine oF_ 19 35 #[YY,YY,YY,YY,YY,YY,YY,YY,YY,YY,YY,YY,YY,YY,YY,YY,YY,YY,YY,YY,ZZ,ZZ,ZZ,ZZ,ZZ,ZZ,ZZ,ZZ,ZZ] ?_
       refine oF_ 20 36 #[YY,YY,YY,YY,YY,YY,YY,YY,YY,YY,YY,YY,YY,YY,YY,YY,YY,YY,YY,YY,YY,ZZ,ZZ,ZZ,ZZ,ZZ,ZZ,ZZ,ZZ] ?_
       refine oF_ 21 37 #[YY,YY,YY,YY,YY,YY,YY,YY,YY,YY,YY,YY,YY,YY,YY,YY,YY,YY,YY,YY,YY,YY,ZZ,ZZ,ZZ,ZZ,ZZ,ZZ,ZZ] ?_
       refine oF_ 22 38 #[YY,YY,YY,YY,YY,YY,YY,YY,YY,YY,YY,YY,YY,YY,YY,YY,YY,YY,YY,YY,YY,YY,YY,ZZ,ZZ,ZZ,ZZ,ZZ,ZZ] ?_
       refine oF_ 23 39 #[YY,YY,YY,YY,YY,YY,YY,YY,YY,YY,YY,YY,YY,YY,YY,YY,YY,YY,YY,YY,YY,YY,YY,YY,ZZ,ZZ,ZZ,ZZ,ZZ] ?_
       refine oF_ 24 40 #[YY,YY,YY,YY,YY,YY,YY,YY,YY,YY,YY,YY,YY,YY,YY,YY,YY,YY,YY,YY,YY,YY,YY,YY,YY,ZZ,ZZ,ZZ,ZZ] ?_
       refine oF_ 25 41 #[YY,YY,YY,YY,YY,YY,YY,YY,YY,YY,YY,YY,YY,YY,YY,YY,YY,YY,YY,YY,YY,YY,YY,YY,YY,YY,ZZ,ZZ,ZZ] ?_
       refine oF_ 26 42 #[YY,YY,YY,YY,YY,YY,YY,YY,YY,YY,YY,YY,YY,YY,YY,YY,YY,YY,YY,YY,YY,YY,YY,YY,YY,YY,YY,ZZ,ZZ] ?_
       refine pU_ 27 43 #[YY,YY,YY,YY,YY,YY,YY,YY,YY,YY,YY,YY,YY,YY,YY,YY,YY,YY,YY,YY,YY,YY,YY,YY,YY,YY,YY,YY,ZZ] ?_
       refine pU_ 28 4 #[YY,YY,YY,YY,YY,YY,YY,YY,YY,YY,YY,YY,YY,YY,YY,YY,YY,YY,YY,YY,YY,YY,YY,YY,YY,YY,YY,YY,YY] ?_
       refine done_ (done_of HT_.out (by kernel_rfl)) ?_
       try go_wp2
       go_ret
       exact ⟨by first | rfl | (simp [errW_none, errW_some] <;> rfl) | (simp [*, errW_none, errW_some] <;> rfl), by repeat (first | (with_reducible first | exact HB.out | apply wA | apply wN | apply w1 | refine wS ?_ GE382.out | refine wS ?_ GE383.out) | exact HB.out)⟩
     ·rw [if_neg c19] at H
      have c19b0 : (t386 == t387) = false := by simpa using c19
      (try (have c19b1 : decide (t386 = t387) = false := by simpa using c19))
      (try (have c19b2 : (t386 == t387) = false := by simpa using c19))
      (try (have c19b3 : ¬ (t386 = t387) := by simpa using c19))
      clear c19
      obtain rfl := Option.some.inj H
      try go_wp2
      have n0_ := Aside0.mk (bD BK382.out)
      have n1_ := Aside0.mk (bD BK383.out)
      have n2_ := Aside0.mk (w1 HB.out)
      clear BK382
      clear BK383
      clear HB
      have BK382 := n0_
      have BK383 := n1_
      have HB := n2_
      clear n0_ n1_ n2_
      refine start_ (n := 29) (S := fun w' => w'.cell? ⟨gb382, 0, none⟩ = some (.int .i64 a0_0) ∧ w'.cell? ⟨gb382, 1, none⟩ = some (.bool a0_1) ∧ w'.cell? ⟨gb382, 2, none⟩ = some (.string a0_2) ∧ w'.cell? ⟨gb382, 3, none⟩ = some (.slice A0_3 l0_3.length c0_3) ∧ w'.cell? ⟨gb382, 4, none⟩ = some (.int .i64 a0_4) ∧ w'.cell? ⟨gb382, 5, none⟩ = some (.bool a0_5) ∧ w'.cell? ⟨gb383, 0, none⟩ = some (.int .i64 a1_0) ∧ w'.cell? ⟨gb383, 1, none⟩ = some (.bool a1_1) ∧ w'.cell? ⟨gb383, 2, none⟩ = some (.string a1_2) ∧ w'.cell? ⟨gb383, 3, none⟩ = some (.slice A1_3 l1_3.length c1_3) ∧ w'.cell? ⟨gb383, 4, none⟩ = some (.int .i64 a1_4) ∧ w'.cell? ⟨gb383, 5, none⟩ = some (.bool a1_5)) (ds := []) #[ZZ,ZZ,ZZ,ZZ,ZZ,ZZ,ZZ,ZZ,ZZ,ZZ,ZZ,ZZ,ZZ,ZZ,ZZ,ZZ,ZZ,ZZ,ZZ,ZZ,ZZ,ZZ,ZZ,ZZ,ZZ,ZZ,ZZ,ZZ,ZZ] (by kernel_rfl) rfl rfl ⟨(bC BK382.out 0).trans rfl, (bC BK382.out 1).trans rfl, (bC BK382.out 2).trans rfl, (bC BK382.out 3).trans rfl, (bC BK382.out 4).trans rfl, (bC BK382.out 5).trans rfl, (bC BK383.out 0).trans rfl, (bC BK383.out 1).trans rfl, (bC BK383.out 2).trans rfl, (bC BK383.out 3).trans rfl, (bC BK383.out 4).trans rfl, (bC BK383.out 5).trans rfl⟩ (fun hHeld => ?_); refine with_tabW catchmentlaw28_ModelSame.tab3 catchmentlaw28_ModelSame.bits3 (fun HT_ HW_ => ?_)
      generalize wc.drew = w41 at BK382 BK383 HB hHeld ⊢
      refine one_ (i := 0) (N := some 16) #[YY,ZZ,ZZ,ZZ,ZZ,ZZ,ZZ,ZZ,ZZ,ZZ,ZZ,ZZ,ZZ,ZZ,ZZ,ZZ,ZZ,ZZ,ZZ,ZZ,ZZ,ZZ,ZZ,ZZ,ZZ,ZZ,ZZ,ZZ,ZZ] rfl rfl (one_of HT_.out (by kernel_rfl)) (by decide) (fun K hK => ?_)
      refine goes_ Try.func21 (by kernel_rfl) rfl #[] (by rfl) rfl rfl mS_ ?_
      with_reducible refine (catchmentlaw28_live.calls  true _ A15.out).mono ?_
      rintro e w42 ⟨rfl, hb⟩
      refine ⟨_, rfl, ?_⟩
      have n0_ := Aside0.mk (bB (bX_ BK382.out) hb)
      have n1_ := Aside0.mk (bB (bX_ BK383.out) hb)
      have n2_ := Aside0.mk (wT (bS2_ GE382.out GE383.out) hb)
      clear BK382
      clear BK383
      clear HB
      have BK382 := n0_
      have BK383 := n1_
      have HB := n2_
      clear n0_ n1_ n2_
      (try clear hb)
      (try clear hb2)
      (try clear hk)
      (try clear hi)
      refine hK.out _ _ ⟨(bC BK382.out 0).trans rfl, (bC BK382.out 1).trans rfl, (bC BK382.out 2).trans rfl, (bC BK382.out 3).trans rfl, (bC BK382.out 4).trans rfl, (bC BK382.out 5).trans rfl, (bC BK383.out 0).trans rfl, (bC BK383.out 1).trans rfl, (bC BK383.out 2).trans rfl, (bC BK383.out 3).trans rfl, (bC BK383.out 4).trans rfl, (bC BK383.out 5).trans rfl⟩ (fun hHeld => ?_)
      clear hK K
      refine norm_ (a' := ?_) ?_ ?_
      rotate_left
      ·show Act.put _ (some 16) _ = _
       simp only [Act.put, sA1, sA2, sA3, i64_w, i32_w]
       rfl
      refine pU_ 1 17 #[YY,YY,ZZ,ZZ,ZZ,ZZ,ZZ,ZZ,ZZ,ZZ,ZZ,ZZ,ZZ,ZZ,ZZ,ZZ,ZZ,ZZ,ZZ,ZZ,ZZ,ZZ,ZZ,ZZ,ZZ,ZZ,ZZ,ZZ,ZZ] ?_
      refine take_ (i := 2) (N := some 18) (v := ?_) (a' := ?_) #[YY,YY,YY,ZZ,ZZ,ZZ,ZZ,ZZ,ZZ,ZZ,ZZ,ZZ,ZZ,ZZ,ZZ,ZZ,ZZ,ZZ,ZZ,ZZ,ZZ,ZZ,ZZ,ZZ,ZZ,ZZ,ZZ,ZZ,ZZ] rfl rfl (take_ofW HT_.out HW_.out (by kernel_rfl)) (fun _ _ _ h => h) (Or.inl ⟨by rfl, ?_⟩) hHeld ?_ ?_
      rotate_left
      ·rintro w' ⟨s0, s1, s2, s3, s4, s5, s6, s7, s8, s9, s10, s11⟩
       go_simp
       with_reducible rfl
      rotate_left
      ·simp only [Act.put, sA1, sA2, sA3, i64_w, i32_w]
       rfl
      refine take_ (i := 3) (N := some 19) (v := ?_) (a' := ?_) #[YY,YY,YY,YY,ZZ,ZZ,ZZ,ZZ,ZZ,ZZ,ZZ,ZZ,ZZ,ZZ,ZZ,ZZ,ZZ,ZZ,ZZ,ZZ,ZZ,ZZ,ZZ,ZZ,ZZ,ZZ,ZZ,ZZ,ZZ] rfl rfl (take_ofW HT_.out HW_.out (by kernel_rfl)) (fun _ _ _ h => h) (Or.inl ⟨by rfl, ?_⟩) hHeld ?_ ?_
      rotate_left
      ·rintro w' ⟨s0, s1, s2, s3, s4, s5, s6, s7, s8, s9, s10, s11⟩
       go_simp
       with_reducible rfl
      rotate_left
      ·simp only [Act.put, sA1, sA2, sA3, i64_w, i32_w]
       rfl
      refine take_ (i := 5) (N := some 21) (v := ?_) (a' := ?_) #[YY,YY,YY,YY,ZZ,YY,ZZ,ZZ,ZZ,ZZ,ZZ,ZZ,ZZ,ZZ,ZZ,ZZ,ZZ,ZZ,ZZ,ZZ,ZZ,ZZ,ZZ,ZZ,ZZ,ZZ,ZZ,ZZ,ZZ] rfl rfl (take_ofW HT_.out HW_.out (by kernel_rfl)) (fun _ _ _ h => h) (Or.inl ⟨by rfl, ?_⟩) hHeld ?_ ?_
      rotate_left
      ·rintro w' ⟨s0, s1, s2, s3, s4, s5, s6, s7, s8, s9, s10, s11⟩
       go_simp
       with_reducible rfl
      rotate_left
      ·simp only [Act.put, sA1, sA2, sA3, i64_w, i32_w]
       rfl
      refine take_ (i := 6) (N := some 22) (v := ?_) (a' := ?_) #[YY,YY,YY,YY,ZZ,YY,YY,ZZ,ZZ,ZZ,ZZ,ZZ,ZZ,ZZ,ZZ,ZZ,ZZ,ZZ,ZZ,ZZ,ZZ,ZZ,ZZ,ZZ,ZZ,ZZ,ZZ,ZZ,ZZ] rfl rfl (take_ofW HT_.out HW_.out (by kernel_rfl)) (fun _ _ _ h => h) (Or.inl ⟨by rfl, ?_⟩) hHeld ?_ ?_
      rotate_left
      ·rintro w' ⟨s0, s1, s2, s3, s4, s5, s6, s7, s8, s9, s10, s11⟩
       go_simp
       with_reducible rfl
      rotate_left
      ·simp only [Act.put, sA1, sA2, sA3, i64_w, i32_w]
       rfl
      refine one_ (i := 4) (N := some 20) #[YY,YY,YY,YY,YY,YY,YY,ZZ,ZZ,ZZ,ZZ,ZZ,ZZ,ZZ,ZZ,ZZ,ZZ,ZZ,ZZ,ZZ,ZZ,ZZ,ZZ,ZZ,ZZ,ZZ,ZZ,ZZ,ZZ] rfl rfl (one_of HT_.out (by kernel_rfl)) (by decide) (fun K hK => ?_)
      refine goes_ Try.func31 (by kernel_rfl) rfl #[.agg #[.int .i64 a0_0, .bool a0_1, .string a0_2, .slice A0_3 l0_3.length c0_3, .int .i64 a0_4, .bool a0_5], .agg #[.int .i64 a1_0, .bool a1_1, .string a1_2, .slice A1_3 l1_3.length c1_3, .int .i64 a1_4, .bool a1_5]] (by rfl) rfl rfl mS_ ?_
      with_reducible refine (model_Same.calls kj2 a0_0 a0_1 a0_2 _ _ l0_3 a0_4 a0_5 a1_0 a1_1 a1_2 _ _ l1_3 a1_4 a1_5 t386 _ ?side1 ?side2 ?side3 ?side4 A17.out).mono ?_
      (case side1 => repeat (first | exact (Kd.C_below HR0_3.out HB.out) | (with_reducible refine Kd.C_alloc ?_ _) | (with_reducible refine Kd.C_drewN ?_ _) | (with_reducible refine Kd.C_drew ?_)))
      (case side2 => exact HC0_3.out)
      (case side3 => repeat (first | exact (Kd.C_below HR1_3.out HB.out) | (with_reducible refine Kd.C_alloc ?_ _) | (with_reducible refine Kd.C_drewN ?_ _) | (with_reducible refine Kd.C_drew ?_)))
      (case side4 => exact HC1_3.out)
      rintro e w43 ⟨rfl, hb⟩
      refine ⟨_, rfl, ?_⟩
      have n0_ := Aside0.mk (bB (bX_ BK382.out) hb)
      have n1_ := Aside0.mk (bB (bX_ BK383.out) hb)
      have n2_ := Aside0.mk (wT (bS2_ GE382.out GE383.out) hb)
      clear BK382
      clear BK383
      clear HB
      have BK382 := n0_
      have BK383 := n1_
      have HB := n2_
      clear n0_ n1_ n2_
      (try clear hb)
      (try clear hb2)
      (try clear hk)
      (try clear hi)
      refine hK.out _ _ ⟨(bC BK382.out 0).trans rfl, (bC BK382.out 1).trans rfl, (bC BK382.out 2).trans rfl, (bC BK382.out 3).trans rfl, (bC BK382.out 4).trans rfl, (bC BK382.out 5).trans rfl, (bC BK383.out 0).trans rfl, (bC BK383.out 1).trans rfl, (bC BK383.out 2).trans rfl, (bC BK383.out 3).trans rfl, (bC BK383.out 4).trans rfl, (bC BK383.out 5).trans rfl⟩ (fun hHeld => ?_)
      clear hK K
      refine norm_ (a' := ?_) ?_ ?_
      rotate_left
      ·show Act.put _ (some 20) _ = _
       simp only [Act.put, sA1, sA2, sA3, i64_w, i32_w]
       rfl
      refine one_ (i := 7) (N := some 23) #[YY,YY,YY,YY,YY,YY,YY,YY,ZZ,ZZ,ZZ,ZZ,ZZ,ZZ,ZZ,ZZ,ZZ,ZZ,ZZ,ZZ,ZZ,ZZ,ZZ,ZZ,ZZ,ZZ,ZZ,ZZ,ZZ] rfl rfl (one_of HT_.out (by kernel_rfl)) (by decide) (fun K hK => ?_)
      refine goes_ Try.func32 (by kernel_rfl) rfl #[.agg #[.int .i64 a0_0, .bool a0_1, .string a0_2, .slice A0_3 l0_3.length c0_3, .int .i64 a0_4, .bool a0_5], .agg #[.int .i64 a1_0, .bool a1_1, .string a1_2, .slice A1_3 l1_3.length c1_3, .int .i64 a1_4, .bool a1_5]] (by rfl) rfl rfl mS_ ?_
      with_reducible refine (catchmentref24_Same.calls kj2 a0_0 a0_1 a0_2 _ _ l0_3 a0_4 a0_5 a1_0 a1_1 a1_2 _ _ l1_3 a1_4 a1_5 t387 _ ?side1 ?side2 ?side3 ?side4 A18.out).mono ?_
      (case side1 => repeat (first | exact (Kd.C_below HR0_3.out HB.out) | (with_reducible refine Kd.C_alloc ?_ _) | (with_reducible refine Kd.C_drewN ?_ _) | (with_reducible refine Kd.C_drew ?_)))
      (case side2 => exact HC0_3.out)
      (case side3 => repeat (first | exact (Kd.C_below HR1_3.out HB.out) | (with_reducible refine Kd.C_alloc ?_ _) | (with_reducible refine Kd.C_drewN ?_ _) | (with_reducible refine Kd.C_drew ?_)))
      (case side4 => exact HC1_3.out)
      rintro e w44 ⟨rfl, hb⟩
      refine ⟨_, rfl, ?_⟩
      have n0_ := Aside0.mk (bB (bX_ BK382.out) hb)
      have n1_ := Aside0.mk (bB (bX_ BK383.out) hb)
      have n2_ := Aside0.mk (wT (bS2_ GE382.out GE383.out) hb)
      clear BK382
      clear BK383
      clear HB
      have BK382 := n0_
      have BK383 := n1_
      have HB := n2_
      clear n0_ n1_ n2_
      (try clear hb)
      (try clear hb2)
      (try clear hk)
      (try clear hi)
      refine hK.out _ _ ⟨(bC BK382.out 0).trans rfl, (bC BK382.out 1).trans rfl, (bC BK382.out 2).trans rfl, (bC BK382.out 3).trans rfl, (bC BK382.out 4).trans rfl, (bC BK382.out 5).trans rfl, (bC BK383.out 0).trans rfl, (bC BK383.out 1).trans rfl, (bC BK383.out 2).trans rfl, (bC BK383.out 3).trans rfl, (bC BK383.out 4).trans rfl, (bC BK383.out 5).trans rfl⟩ (fun hHeld => ?_)
      clear hK K
      refine norm_ (a' := ?_) ?_ ?_
      rotate_left
      ·show Act.put _ (some 23) _ = _
       simp only [Act.put, sA1, sA2, sA3, i64_w, i32_w]
       rfl
      refine pU_ 8 24 #[YY,YY,YY,YY,YY,YY,YY,YY,YY,ZZ,ZZ,ZZ,ZZ,ZZ,ZZ,ZZ,ZZ,ZZ,ZZ,ZZ,ZZ,ZZ,ZZ,ZZ,ZZ,ZZ,ZZ,ZZ,ZZ] ?_
      refine pU_ 9 25 #[YY,YY,YY,YY,YY,YY,YY,YY,YY,YY,ZZ,ZZ,ZZ,ZZ,ZZ,ZZ,ZZ,ZZ,ZZ,ZZ,ZZ,ZZ,ZZ,ZZ,ZZ,ZZ,ZZ,ZZ,ZZ] ?_
      refine pU_ 10 26 #[YY,YY,YY,YY,YY,YY,YY,YY,YY,YY,YY,ZZ,ZZ,ZZ,ZZ,ZZ,ZZ,ZZ,ZZ,ZZ,ZZ,ZZ,ZZ,ZZ,ZZ,ZZ,ZZ,ZZ,ZZ] ?_
      refine oF_ 11 27 #[YY,YY,YY,YY,YY,YY,YY,YY,YY,YY,YY,YY,ZZ,ZZ,ZZ,ZZ,ZZ,ZZ,ZZ,ZZ,ZZ,ZZ,ZZ,ZZ,ZZ,ZZ,ZZ,ZZ,ZZ] ?_
      refine oF_ 12 28 #[YY,YY,YY,YY,YY,YY,YY,YY,YY,YY,YY,YY,YY,ZZ,ZZ,ZZ,ZZ,ZZ,ZZ,ZZ,ZZ,ZZ,ZZ,ZZ,ZZ,ZZ,ZZ,ZZ,ZZ] ?_
      refine oF_ 13 29 #[YY,YY,YY,YY,YY,YY,YY,YY,YY,YY,YY,YY,YY,YY,ZZ,ZZ,ZZ,ZZ,ZZ,ZZ,ZZ,ZZ,ZZ,ZZ,ZZ,ZZ,ZZ,ZZ,ZZ] ?_
      refine pU_ 14 30 #[YY,YY,YY,YY,YY,YY,YY,YY,YY,YY,YY,YY,YY,YY,YY,ZZ,ZZ,ZZ,ZZ,ZZ,ZZ,ZZ,ZZ,ZZ,ZZ,ZZ,ZZ,ZZ,ZZ] ?_
      refine pU_ 15 31 #[YY,YY,YY,YY,YY,YY,YY,YY,YY,YY,YY,YY,YY,YY,YY,YY,ZZ,ZZ,ZZ,ZZ,ZZ,ZZ,ZZ,ZZ,ZZ,ZZ,ZZ,ZZ,ZZ] ?_
      refine oF_ 16 32 #[YY,YY,YY,YY,YY,YY,YY,YY,YY,YY,YY,YY,YY,YY,YY,YY,YY,ZZ,ZZ,ZZ,ZZ,ZZ,ZZ,ZZ,ZZ,ZZ,ZZ,ZZ,ZZ] ?_
      refine oF_ 17 33 #[YY,YY,YY,YY,YY,YY,YY,YY,YY,YY,YY,YY,YY,YY,YY,YY,YY,YY,ZZ,ZZ,ZZ,ZZ,ZZ,ZZ,ZZ,ZZ,ZZ,ZZ,ZZ] ?_
      refine oF_ 18 34 #[YY,YY,YY,YY,YY,YY,YY,YY,YY,YY,YY,YY,YY,YY,YY,YY,YY,YY,YY,ZZ,ZZ,ZZ,ZZ,ZZ,ZZ,ZZ,ZZ,ZZ,ZZ] ?_
      refine oF_ 19 35 #[YY,YY,YY,YY,YY,YY,YY,YY,YY,YY,YY,YY,YY,YY,YY,YY,YY,YY,YY,YY,ZZ,ZZ,ZZ,ZZ,ZZ,ZZ,ZZ,ZZ,ZZ] ?_
      refine oF_ 20 36 #[YY,YY,YY,YY,YY,YY,YY,YY,YY,YY,YY,YY,YY,YY,YY,YY,YY,YY,YY,YY,YY,ZZ,ZZ,ZZ,ZZ,ZZ,ZZ,ZZ,ZZ] ?_
      refine oF_ 21 37 #[YY,YY,YY,YY,YY,YY,YY,YY,YY,YY,YY,YY,YY,YY,YY,YY,YY,YY,YY,YY,YY,YY,ZZ,ZZ,ZZ,ZZ,ZZ,ZZ,ZZ] ?_
      refine oF_ 22 38 #[YY,YY,YY,YY,YY,YY,YY,YY,YY,YY,YY,YY,YY,YY,YY,YY,YY,YY,YY,YY,YY,YY,YY,ZZ,ZZ,ZZ,ZZ,ZZ,ZZ] ?_
      refine oF_ 23 39 #[YY,YY,YY,YY,YY,YY,YY,YY,YY,YY,YY,YY,YY,YY,YY,YY,YY,YY,YY,YY,YY,YY,YY,YY,ZZ,ZZ,ZZ,ZZ,ZZ] ?_
      refine oF_ 24 40 #[YY,YY,YY,YY,YY,YY,YY,YY,YY,YY,YY,YY,YY,YY,YY,YY,YY,YY,YY,YY,YY,YY,YY,YY,YY,ZZ,ZZ,ZZ,ZZ] ?_
      refine oF_ 25 41 #[YY,YY,YY,YY,YY,YY,YY,YY,YY,YY,YY,YY,YY,YY,YY,YY,YY,YY,YY,YY,YY,YY,YY,YY,YY,YY,ZZ,ZZ,ZZ] ?_
      refine oF_ 26 42 #[YY,YY,YY,YY,YY,YY,YY,YY,YY,YY,YY,YY,YY,YY,YY,YY,YY,YY,YY,YY,YY,YY,YY,YY,YY,YY,YY,ZZ,ZZ] ?_
      refine pU_ 27 43 #[YY,YY,YY,YY,YY,YY,YY,YY,YY,YY,YY,YY,YY,YY,YY,YY,YY,YY,YY,YY,YY,YY,YY,YY,YY,YY,YY,YY,ZZ] ?_
      refine pU_ 28 4 #[YY,YY,YY,YY,YY,YY,YY,YY,YY,YY,YY,YY,YY,YY,YY,YY,YY,YY,YY,YY,YY,YY,YY,YY,YY,YY,YY,YY,YY] ?_
      refine done_ (done_of HT_.out (by kernel_rfl)) ?_
      try go_wp2
      go_ret
      exact ⟨by first | rfl | (simp [errW_none, errW_some] <;> rfl) | (simp [*, errW_none, errW_some] <;> rfl), by repeat (first | (with_reducible first | exact HB.out | apply wA | apply wN | apply w1 | refine wS ?_ GE382.out | refine wS ?_ GE383.out) | exact HB.out)⟩
    ·replace c16 := Bool.eq_false_iff.mpr c16
     subst c16
     have H1 : (some false) = some r := by rw [if_neg (show ¬ (false = true) by decide)] at H; exact H
     clear H
     have H := H1
     clear H1
     obtain rfl := Option.some.inj H
     try go_wp2
     have n0_ := Aside0.mk (bD BK382.out)
     have n1_ := Aside0.mk (bD BK383.out)
     have n2_ := Aside0.mk (w1 HB.out)
     clear BK382
     clear BK383
     clear HB
     have BK382 := n0_
     have BK383 := n1_
     have HB := n2_
     clear n0_ n1_ n2_
     refine start_ (n := 29) (S := fun w' => True) (ds := []) #[ZZ,ZZ,ZZ,ZZ,ZZ,ZZ,ZZ,ZZ,ZZ,ZZ,ZZ,ZZ,ZZ,ZZ,ZZ,ZZ,ZZ,ZZ,ZZ,ZZ,ZZ,ZZ,ZZ,ZZ,ZZ,ZZ,ZZ,ZZ,ZZ] (by kernel_rfl) rfl rfl trivial (fun hHeld => ?_); refine with_tabW catchmentlaw28_ModelSame.tab3 catchmentlaw28_ModelSame.bits3 (fun HT_ HW_ => ?_)
     generalize wc.drew = w45 at BK382 BK383 HB hHeld ⊢
     refine one_ (i := 0) (N := some 16) #[YY,ZZ,ZZ,ZZ,ZZ,ZZ,ZZ,ZZ,ZZ,ZZ,ZZ,ZZ,ZZ,ZZ,ZZ,ZZ,ZZ,ZZ,ZZ,ZZ,ZZ,ZZ,ZZ,ZZ,ZZ,ZZ,ZZ,ZZ,ZZ] rfl rfl (one_of HT_.out (by kernel_rfl)) (by decide) (fun K hK => ?_)
     refine goes_ Try.func21 (by kernel_rfl) rfl #[] (by rfl) rfl rfl mS_ ?_
     with_reducible refine (catchmentlaw28_live.calls  false _ A15.out).mono ?_
     rintro e w46 ⟨rfl, hb⟩
     refine ⟨_, rfl, ?_⟩
     have n0_ := Aside0.mk (bB (bX_ BK382.out) hb)
     have n1_ := Aside0.mk (bB (bX_ BK383.out) hb)
     have n2_ := Aside0.mk (wT (bS2_ GE382.out GE383.out) hb)
     clear BK382
     clear BK383
     clear HB
     have BK382 := n0_
     have BK383 := n1_
     have HB := n2_
     clear n0_ n1_ n2_
     (try clear hb)
     (try clear hb2)
     (try clear hk)
     (try clear hi)
     refine hK.out _ _ trivial (fun hHeld => ?_)
     clear hK K
     refine norm_ (a' := ?_) ?_ ?_
     rotate_left
     ·show Act.put _ (some 16) _ = _
      simp only [Act.put, sA1, sA2, sA3, i64_w, i32_w]
      rfl
     refine pU_ 1 17 #[YY,YY,ZZ,ZZ,ZZ,ZZ,ZZ,ZZ,ZZ,ZZ,ZZ,ZZ,ZZ,ZZ,ZZ,ZZ,ZZ,ZZ,ZZ,ZZ,ZZ,ZZ,ZZ,ZZ,ZZ,ZZ,ZZ,ZZ,ZZ] ?_
     refine oF_ 2 18 #[YY,YY,YY,ZZ,ZZ,ZZ,ZZ,ZZ,ZZ,ZZ,ZZ,ZZ,ZZ,ZZ,ZZ,ZZ,ZZ,ZZ,ZZ,ZZ,ZZ,ZZ,ZZ,ZZ,ZZ,ZZ,ZZ,ZZ,ZZ] ?_
     refine oF_ 3 19 #[YY,YY,YY,YY,ZZ,ZZ,ZZ,ZZ,ZZ,ZZ,ZZ,ZZ,ZZ,ZZ,ZZ,ZZ,ZZ,ZZ,ZZ,ZZ,ZZ,ZZ,ZZ,ZZ,ZZ,ZZ,ZZ,ZZ,ZZ] ?_
     refine oF_ 4 20 #[YY,YY,YY,YY,YY,ZZ,ZZ,ZZ,ZZ,ZZ,ZZ,ZZ,ZZ,ZZ,ZZ,ZZ,ZZ,ZZ,ZZ,ZZ,ZZ,ZZ,ZZ,ZZ,ZZ,ZZ,ZZ,ZZ,ZZ] ?_
     refine oF_ 5 21 #[YY,YY,YY,YY,YY,YY,ZZ,ZZ,ZZ,ZZ,ZZ,ZZ,ZZ,ZZ,ZZ,ZZ,ZZ,ZZ,ZZ,ZZ,ZZ,ZZ,ZZ,ZZ,ZZ,ZZ,ZZ,ZZ,ZZ] ?_
     refine oF_ 6 22 #[YY,YY,YY,YY,YY,YY,YY,ZZ,ZZ,ZZ,ZZ,ZZ,ZZ,ZZ,ZZ,ZZ,ZZ,ZZ,ZZ,ZZ,ZZ,ZZ,ZZ,ZZ,ZZ,ZZ,ZZ,ZZ,ZZ] ?_
     refine oF_ 7 23 #[YY,YY,YY,YY,YY,YY,YY,YY,ZZ,ZZ,ZZ,ZZ,ZZ,ZZ,ZZ,ZZ,ZZ,ZZ,ZZ,ZZ,ZZ,ZZ,ZZ,ZZ,ZZ,ZZ,ZZ,ZZ,ZZ] ?_
     refine oF_ 8 24 #[YY,YY,YY,YY,YY,YY,YY,YY,YY,ZZ,ZZ,ZZ,ZZ,ZZ,ZZ,ZZ,ZZ,ZZ,ZZ,ZZ,ZZ,ZZ,ZZ,ZZ,ZZ,ZZ,ZZ,ZZ,ZZ] ?_
     refine pU_ 9 25 #[YY,YY,YY,YY,YY,YY,YY,YY,YY,YY,ZZ,ZZ,ZZ,ZZ,ZZ,ZZ,ZZ,ZZ,ZZ,ZZ,ZZ,ZZ,ZZ,ZZ,ZZ,ZZ,ZZ,ZZ,ZZ] ?_
     refine pU_ 10 26 #[YY,YY,YY,YY,YY,YY,YY,YY,YY,YY,YY,ZZ,ZZ,ZZ,ZZ,ZZ,ZZ,ZZ,ZZ,ZZ,ZZ,ZZ,ZZ,ZZ,ZZ,ZZ,ZZ,ZZ,ZZ] ?_
     refine oF_ 11 27 #[YY,YY,YY,YY,YY,YY,YY,YY,YY,YY,YY,YY,ZZ,ZZ,ZZ,ZZ,ZZ,ZZ,ZZ,ZZ,ZZ,ZZ,ZZ,ZZ,ZZ,ZZ,ZZ,ZZ,ZZ] ?_
     refine oF_ 12 28 #[YY,YY,YY,YY,YY,YY,YY,YY,YY,YY,YY,YY,YY,ZZ,ZZ,ZZ,ZZ,ZZ,ZZ,ZZ,ZZ,ZZ,ZZ,ZZ,ZZ,ZZ,ZZ,ZZ,ZZ] ?_
     refine oF_ 13 29 #[YY,YY,YY,YY,YY,YY,YY,YY,YY,YY,YY,YY,YY,YY,ZZ,ZZ,ZZ,ZZ,ZZ,ZZ,ZZ,ZZ,ZZ,ZZ,ZZ,ZZ,ZZ,ZZ,ZZ] ?_
     refine pU_ 14 30 #[YY,YY,YY,YY,YY,YY,YY,YY,YY,YY,YY,YY,YY,YY,YY,ZZ,ZZ,ZZ,ZZ,ZZ,ZZ,ZZ,ZZ,ZZ,ZZ,ZZ,ZZ,ZZ,ZZ] ?_
     refine pU_ 15 31 #[YY,YY,YY,YY,YY,YY,YY,YY,YY,YY,YY,YY,YY,YY,YY,YY,ZZ,ZZ,ZZ,ZZ,ZZ,ZZ,ZZ,ZZ,ZZ,ZZ,ZZ,ZZ,ZZ] ?_
     refine oF_ 16 32 #[YY,YY,YY,YY,YY,YY,YY,YY,YY,YY,YY,YY,YY,YY,YY,YY,YY,ZZ,ZZ,ZZ,ZZ,ZZ,ZZ,ZZ,ZZ,ZZ,ZZ,ZZ,ZZ] ?_
     refine oF_ 17 33 #[YY,YY,YY,YY,YY,YY,YY,YY,YY,YY,YY,YY,YY,YY,YY,YY,YY,YY,ZZ,ZZ,ZZ,ZZ,ZZ,ZZ,ZZ,ZZ,ZZ,ZZ,ZZ] ?_
     refine oF_ 18 34 #[YY,YY,YY,YY,YY,YY,YY,YY,YY,YY,YY,YY,YY,YY,YY,YY,YY,YY,YY,ZZ,ZZ,ZZ,ZZ,ZZ,ZZ,ZZ,ZZ,ZZ,ZZ] ?_
     refine oF_ 19 35 #[YY,YY,YY,YY,YY,YY,YY,YY,YY,YY,YY,YY,YY,YY,YY,YY,YY,YY,YY,YY,ZZ,ZZ,ZZ,ZZ,ZZ,ZZ,ZZ,ZZ,ZZ] ?_
     refine oF_ 20 36 #[YY,YY,YY,YY,YY,YY,YY,YY,YY,YY,YY,YY,YY,YY,YY,YY,YY,YY,YY,YY,YY,ZZ,ZZ,ZZ,ZZ,ZZ,ZZ,ZZ,ZZ] ?_
     refine oF_ 21 37 #[YY,YY,YY,YY,YY,YY,YY,YY,YY,YY,YY,YY,YY,YY,YY,YY,YY,YY,YY,YY,YY,YY,ZZ,ZZ,ZZ,ZZ,ZZ,ZZ,ZZ] ?_
     refine oF_ 22 38 #[YY,YY,YY,YY,YY,YY,YY,YY,YY,YY,YY,YY,YY,YY,YY,YY,YY,YY,YY,YY,YY,YY,YY,ZZ,ZZ,ZZ,ZZ,ZZ,ZZ] ?_
     refine oF_ 23 39 #[YY,YY,YY,YY,YY,YY,YY,YY,YY,YY,YY,YY,YY,YY,YY,YY,YY,YY,YY,YY,YY,YY,YY,YY,ZZ,ZZ,ZZ,ZZ,ZZ] ?_
     refine oF_ 24 40 #[YY,YY,YY,YY,YY,YY,YY,YY,YY,YY,YY,YY,YY,YY,YY,YY,YY,YY,YY,YY,YY,YY,YY,YY,YY,ZZ,ZZ,ZZ,ZZ] ?_
     refine oF_ 25 41 #[YY,YY,YY,YY,YY,YY,YY,YY,YY,YY,YY,YY,YY,YY,YY,YY,YY,YY,YY,YY,YY,YY,YY,YY,YY,YY,ZZ,ZZ,ZZ] ?_
     refine oF_ 26 42 #[YY,YY,YY,YY,YY,YY,YY,YY,YY,YY,YY,YY,YY,YY,YY,YY,YY,YY,YY,YY,YY,YY,YY,YY,YY,YY,YY,ZZ,ZZ] ?_
     refine pU_ 27 43 #[YY,YY,YY,YY,YY,YY,YY,YY,YY,YY,YY,YY,YY,YY,YY,YY,YY,YY,YY,YY,YY,YY,YY,YY,YY,YY,YY,YY,ZZ] ?_
     refine pU_ 28 4 #[YY,YY,YY,YY,YY,YY,YY,YY,YY,YY,YY,YY,YY,YY,YY,YY,YY,YY,YY,YY,YY,YY,YY,YY,YY,YY,YY,YY,YY] ?_
     refine done_ (done_of HT_.out (by kernel_rfl)) ?_
     try go_wp2
     go_ret
     exact ⟨by first | rfl | (simp [errW_none, errW_some] <;> rfl) | (simp [*, errW_none, errW_some] <;> rfl), by repeat (first | (with_reducible first | exact HB.out | apply wA | apply wN | apply w1 | refine wS ?_ GE382.out | refine wS ?_ GE383.out) | exact HB.out)⟩
end Go.Proofs.Ytljnlnbopohghaa.P
end
