/- Texts of one claim (laid by shake.py). -/
import Derived.Test.YtljnlnbopohghaaZWa4
import Derived.Test.YtljnlnbopohghaaZWa5
import Derived.Test.YtljnlnbopohghaaZWa17
set_option linter.unusedVariables false
set_option linter.unusedSimpArgs false
section
namespace Go.Proofs.Ytljnlnbopohghaa.P
open Go.RowKit Go.Proofs.YtljnlnbopohghaaW.PrintWords Go.Proofs.YtljnlnbopohghaaW.PrintLast Go.Proofs.YtljnlnbopohghaaW.PrintMore Go.Proofs.Ytljnlnbopohghaa.Own
open Go.Proofs.YtljnlnbopohghaaW.PrintWords renaming blk_cell → bC, blk_frozen → bF, blk_drewN → bN, blk_alloc → bA, pw_below_drewN → wN, blk_drew → bD, below_drew1 → w1, below_set → wS, below_alloc → wA, blk_below → bB, below_step → wT, below_size → wZ, blk_far → bR, blk_put → bP
open List renaming setIfInBounds_toArray → sA1, set_cons_zero → sA2, set_cons_succ → sA3, map_toArray → mA1, map_cons → mA2, map_nil → mA3, length_take → mA4, length_drop → mA5
attribute [local go_sem] max2_str max2_int min2_int max_two min_two max_three min_three max_four min_four   -- for this text's walks alone
mutual
def catchmentref04_Check.j0 : Nat → Bool → Int → Int → ByteArray → ByteArray → ByteArray → Int → Int → Int → Int → Int → Int → Int → Int → Int → Int → Option (Int)
 | 0, _, _, _, _, _, _, _, _, _, _, _, _, _, _, _, _ => none
 | k + 1, x5, x229000, x229001, x229002, x229003, x229004, x229005, x230000, x230001, x230002, x230003, x230004, x230005, x230006, x230007, x230008 => if x5 = true then (catchmentref04_Check.j1 k true x229000 x229001 x229002 x229003 x229004 x229005 x230000 x230001 x230002 x230003 x230004 x230005 x230006 x230007 x230008) else (if x229000 = 1 then (catchmentref04_Check.j1 k false x229000 x229001 x229002 x229003 x229004 x229005 x230000 x230001 x230002 x230003 x230004 x230005 x230006 x230007 x230008) else (catchmentref04_Check.j1 k (x229004.toList != ([] : List UInt8)) x229000 x229001 x229002 x229003 x229004 x229005 x230000 x230001 x230002 x230003 x230004 x230005 x230006 x230007 x230008))
def catchmentref04_Check.j1 : Nat → Bool → Int → Int → ByteArray → ByteArray → ByteArray → Int → Int → Int → Int → Int → Int → Int → Int → Int → Int → Option (Int)
 | 0, _, _, _, _, _, _, _, _, _, _, _, _, _, _, _, _ => none
 | k + 1, x5, x229000, x229001, x229002, x229003, x229004, x229005, x230000, x230001, x230002, x230003, x230004, x230005, x230006, x230007, x230008 => if x5 = true then (catchmentref04_Check.j2 k true x229000 x229001 x229002 x229003 x229004 x229005 x230000 x230001 x230002 x230003 x230004 x230005 x230006 x230007 x230008) else (if x229000 = 3 then (catchmentref04_Check.j2 k false x229000 x229001 x229002 x229003 x229004 x229005 x230000 x230001 x230002 x230003 x230004 x230005 x230006 x230007 x230008) else (catchmentref04_Check.j2 k (x229005 != 0) x229000 x229001 x229002 x229003 x229004 x229005 x230000 x230001 x230002 x230003 x230004 x230005 x230006 x230007 x230008))
def catchmentref04_Check.j2 : Nat → Bool → Int → Int → ByteArray → ByteArray → ByteArray → Int → Int → Int → Int → Int → Int → Int → Int → Int → Int → Option (Int)
 | 0, _, _, _, _, _, _, _, _, _, _, _, _, _, _, _, _ => none
 | k + 1, x5, x229000, x229001, x229002, x229003, x229004, x229005, x230000, x230001, x230002, x230003, x230004, x230005, x230006, x230007, x230008 => if x5 = true then (catchmentref04_Check.j3 k true x229000 x229001 x229002 x229003 x229004 x229005 x230000 x230001 x230002 x230003 x230004 x230005 x230006 x230007 x230008) else (if x229000 = 4 then (catchmentref04_Check.j3 k false x229000 x229001 x229002 x229003 x229004 x229005 x230000 x230001 x230002 x230003 x230004 x230005 x230006 x230007 x230008) else (catchmentref04_Check.j3 k (x229003.toList != ([] : List UInt8)) x229000 x229001 x229002 x229003 x229004 x229005 x230000 x230001 x230002 x230003 x230004 x230005 x230006 x230007 x230008))
def catchmentref04_Check.j3 : Nat → Bool → Int → Int → ByteArray → ByteArray → ByteArray → Int → Int → Int → Int → Int → Int → Int → Int → Int → Int → Option (Int)
 | 0, _, _, _, _, _, _, _, _, _, _, _, _, _, _, _, _ => none
 | k + 1, x5, x229000, x229001, x229002, x229003, x229004, x229005, x230000, x230001, x230002, x230003, x230004, x230005, x230006, x230007, x230008 => if x5 = true then (some 3) else (if (x229002.size : Int) > x230000 then (catchmentref04_Check.j4 k true x229000 x229001 x229002 x229003 x229004 x229005) else (if (x229003.size : Int) > x230000 then (catchmentref04_Check.j4 k true x229000 x229001 x229002 x229003 x229004 x229005) else ((catchmentref04_Point.f x229000 x229001 x229002 x229003 x229004 x229005).bind fun t230 => (if t230 = true then (if x229002.toList = ([] : List UInt8) then (catchmentref04_Check.j4 k true x229000 x229001 x229002 x229003 x229004 x229005) else (if x229000 = 1 then (catchmentref04_Check.j4 k (decide ((x229004.size : Int) > x230001)) x229000 x229001 x229002 x229003 x229004 x229005) else (catchmentref04_Check.j4 k false x229000 x229001 x229002 x229003 x229004 x229005))) else (if x229000 = 1 then (catchmentref04_Check.j4 k (decide ((x229004.size : Int) > x230001)) x229000 x229001 x229002 x229003 x229004 x229005) else (catchmentref04_Check.j4 k false x229000 x229001 x229002 x229003 x229004 x229005))))))
def catchmentref04_Check.j4 : Nat → Bool → Int → Int → ByteArray → ByteArray → ByteArray → Int → Option (Int)
 | 0, _, _, _, _, _, _, _ => none
 | k + 1, x83, x229000, x229001, x229002, x229003, x229004, x229005 => if x83 = true then (some 6) else (if x229000 = 4 then (if x229003.toList = ([] : List UInt8) then (some 0) else (if ((Op.bytesLess x229002.toList x229003.toList) = true) then (some 0) else (some 7))) else (some 0))
end
def catchmentref04_Check.f (k : Nat) (a0_0 a0_1 : Int) (a0_2 a0_3 a0_4 : BA) (a0_5 a1_0 a1_1 a1_2 a1_3 a1_4 a1_5 a1_6 a1_7 a1_8 : Int) : Option (Int) := if a0_0 < 1 then (catchmentref04_Check.j0 k true a0_0 a0_1 a0_2 a0_3 a0_4 a0_5 a1_0 a1_1 a1_2 a1_3 a1_4 a1_5 a1_6 a1_7 a1_8) else (catchmentref04_Check.j0 k (decide (a0_0 > 4)) a0_0 a0_1 a0_2 a0_3 a0_4 a0_5 a1_0 a1_1 a1_2 a1_3 a1_4 a1_5 a1_6 a1_7 a1_8)
set_option maxHeartbeats 8000000 in
set_option maxRecDepth 100000 in
theorem catchmentref04_Check.calls (k : Nat) (a0_0 a0_1 : Int) (a0_2 a0_3 a0_4 : BA) (a0_5 a1_0 a1_1 a1_2 a1_3 a1_4 a1_5 a1_6 a1_7 a1_8 r : Int) (w : World) (h : catchmentref04_Check.f k a0_0 a0_1 a0_2 a0_3 a0_4 a0_5 a1_0 a1_1 a1_2 a1_3 a1_4 a1_5 a1_6 a1_7 a1_8 = some r) :
  Calls Try.prog 61 #[.agg #[.int .u8 a0_0, .int .i64 a0_1, .string a0_2, .string a0_3, .string a0_4, .int .u64 a0_5], .agg #[.int .i64 a1_0, .int .i64 a1_1, .int .i64 a1_2, .int .i64 a1_3, .int .i64 a1_4, .int .i64 a1_5, .int .i64 a1_6, .int .i64 a1_7, .int .i64 a1_8]] w fun e w' => e = .returned (.int .i64 r) ∧ Below w.heap.size w w' := by
 have hu117 := Try.underlying117
 have hu47 := Try.underlying47
 have HB := aK_ (Below.refl w.heap.size w)
 have H : (if a0_0 < 1 then (catchmentref04_Check.j0 k true a0_0 a0_1 a0_2 a0_3 a0_4 a0_5 a1_0 a1_1 a1_2 a1_3 a1_4 a1_5 a1_6 a1_7 a1_8) else (catchmentref04_Check.j0 k (decide (a0_0 > 4)) a0_0 a0_1 a0_2 a0_3 a0_4 a0_5 a1_0 a1_1 a1_2 a1_3 a1_4 a1_5 a1_6 a1_7 a1_8)) = some r := h
 clear h
 have HC3 := aK_ H
 clear H
 go_enter Try.func61, Try.ntmps61
 go_upto_region 1 with (first | ((with_reducible refine gate_dst (N := 2) rfl ?_); (try (refine gate_guard (by rfl) ?_; dsimp only)); refine bE_ 2 #[.int .u8 a0_0, .int .i64 a0_1, .string a0_2, .string a0_3, .string a0_4, .int .u64 a0_5] 117 ?_; intro gb228 hg w4 hbox hb; have BK228 := aK_ (hbox); have GW228 := aK_ (gE_ hg); replace HB := aK_ (wT bW_ hb); have GE228 := GW228; clear hb hbox hg) | ((with_reducible refine gate_dst (N := 3) rfl ?_); (try (refine gate_guard (by rfl) ?_; dsimp only)); refine bE_ 3 #[.int .i64 a1_0, .int .i64 a1_1, .int .i64 a1_2, .int .i64 a1_3, .int .i64 a1_4, .int .i64 a1_5, .int .i64 a1_6, .int .i64 a1_7, .int .i64 a1_8] 47 ?_; intro gb229 hg w5 hbox hb; have n0_ := aK_ (bB (bX_ BK228.out) hb); have n1_ := aK_ (wT (bS1_ GE228.out) hb); have n2_ := aK_ (hbox); have n3_ := aK_ ((by rw [hg]; exact (wZ (bS1_ GE228.out)) : w.heap.size ≤ gb229)); have n4_ := n3_; have n5_ := aK_ ((by rw [hg]; exact Nat.ne_of_lt (blk_lt (g := gb228) (o := .cells #[.int .u8 a0_0, .int .i64 a0_1, .string a0_2, .string a0_3, .string a0_4, .int .u64 a0_5] 117 (0, 0)) (bX_ BK228.out)) : gb228 ≠ gb229)); have n6_ := aK_ ((by rw [hg]; exact Nat.ne_of_gt (blk_lt (g := gb228) (o := .cells #[.int .u8 a0_0, .int .i64 a0_1, .string a0_2, .string a0_3, .string a0_4, .int .u64 a0_5] 117 (0, 0)) (bX_ BK228.out)) : gb229 ≠ gb228)); clear BK228; clear HB; have BK228 := n0_; have HB := n1_; have BK229 := n2_; have GW229 := n3_; have GE229 := n4_; have NB228_229 := n5_; have NB229_228 := n6_; clear n0_ n1_ n2_ n3_ n4_ n5_ n6_; clear hb hbox hg))
 (try simp only [Act.put, sA1, sA2, sA3])
 go_cut [5] (fun v5 wc => ∃ (kq : Nat) (x5_2 : Bool), v5 = .bool x5_2 ∧ Aside0 (catchmentref04_Check.j0 kq x5_2 a0_0 a0_1 a0_2 a0_3 a0_4 a0_5 a1_0 a1_1 a1_2 a1_3 a1_4 a1_5 a1_6 a1_7 a1_8 = some r) ∧ Aside0 (kq ≤ k) ∧ Aside0 (wc.heap[gb228]? = some (.cells #[.int .u8 a0_0, .int .i64 a0_1, .string a0_2, .string a0_3, .string a0_4, .int .u64 a0_5] 117 (0, 0))) ∧ Aside0 (wc.heap[gb229]? = some (.cells #[.int .i64 a1_0, .int .i64 a1_1, .int .i64 a1_2, .int .i64 a1_3, .int .i64 a1_4, .int .i64 a1_5, .int .i64 a1_6, .int .i64 a1_7, .int .i64 a1_8] 47 (0, 0))) ∧ Aside0 (Below w.heap.size w wc))
 case first =>
  have H := HC3.out
  clear HC3
  by_cases c6 : a0_0 < 1
  ·rw [if_pos c6] at H
   have c6b0 := decide_eq_true c6
   clear c6
   (first | rw [c6b0] | (simp only [i64_w, i32_w]; rw [c6b0]) | skip)
   have H' := aK_ H; clear H
   have hnb7 := NB228_229.out
   have hnc7 := NB229_228.out
   have hz8 := cq6_ BK228.out
   go_wp2
   go_meet
   case rel => exact ⟨_, (true), rZ_, H', ⟨oM_⟩, ⟨bX_ BK228.out⟩, ⟨bX_ BK229.out⟩, ⟨bS2_ GE228.out GE229.out⟩⟩
  rw [if_neg c6] at H
  have c6b0 := decide_eq_false c6
  clear c6
  (first | rw [c6b0] | (simp only [i64_w, i32_w]; rw [c6b0]) | skip)
  have H' := aK_ H; clear H
  have hnb9 := NB228_229.out
  have hnc9 := NB229_228.out
  have hz10 := cq6_ BK228.out
  go_wp2
  go_meet
  case rel => exact ⟨_, (decide (a0_0 > 4)), rZ_, H', ⟨oM_⟩, ⟨bX_ BK228.out⟩, ⟨bX_ BK229.out⟩, ⟨bS2_ GE228.out GE229.out⟩⟩
 clear HC3
 try clear p2
 try clear c6b0
 try clear c7
 try clear c9
 try clear hz10
 try clear hz8
 try clear hz10
 try clear hz8
 obtain ⟨kq, x5_2, rfl, HA, HJ2, BK228, BK229, HB⟩ := hcut
 cases kq with
 | zero => exact absurd HA.out (by simp [catchmentref04_Check.j0])
 | succ kj2 => ?_
 have H := HA.out
 clear HA
 simp only [catchmentref04_Check.j0] at H
 have HC11 := aK_ H
 clear H
 go_upto_region 2 with (fail)
 go_cut [5] (fun v5 wc => ∃ (kq : Nat) (x5_10 : Bool), v5 = .bool x5_10 ∧ Aside0 (catchmentref04_Check.j1 kq x5_10 a0_0 a0_1 a0_2 a0_3 a0_4 a0_5 a1_0 a1_1 a1_2 a1_3 a1_4 a1_5 a1_6 a1_7 a1_8 = some r) ∧ Aside0 (kq ≤ kj2) ∧ Aside0 (wc.heap[gb228]? = some (.cells #[.int .u8 a0_0, .int .i64 a0_1, .string a0_2, .string a0_3, .string a0_4, .int .u64 a0_5] 117 (0, 0))) ∧ Aside0 (wc.heap[gb229]? = some (.cells #[.int .i64 a1_0, .int .i64 a1_1, .int .i64 a1_2, .int .i64 a1_3, .int .i64 a1_4, .int .i64 a1_5, .int .i64 a1_6, .int .i64 a1_7, .int .i64 a1_8] 47 (0, 0))) ∧ Aside0 (Below w.heap.size w wc))
 case first =>
  have H := HC11.out
  clear HC11
  by_cases c12 : x5_2 = true
  ·subst c12
   have H1 : (catchmentref04_Check.j1 kj2 true a0_0 a0_1 a0_2 a0_3 a0_4 a0_5 a1_0 a1_1 a1_2 a1_3 a1_4 a1_5 a1_6 a1_7 a1_8) = some r := by rw [if_pos rfl] at H; exact H
   clear H
   have H := H1
   clear H1
   have H' := aK_ H; clear H
   go_wp2
   go_meet
   case rel => exact ⟨_, (true), rZ_, H', ⟨by have := HJ2.out; first | omega | exact Nat.le_refl _⟩, ⟨bX_ BK228.out⟩, ⟨bX_ BK229.out⟩, ⟨bS2_ GE228.out GE229.out⟩⟩
  replace c12 := Bool.eq_false_iff.mpr c12
  subst c12
  have H1 : (if a0_0 = 1 then (catchmentref04_Check.j1 kj2 false a0_0 a0_1 a0_2 a0_3 a0_4 a0_5 a1_0 a1_1 a1_2 a1_3 a1_4 a1_5 a1_6 a1_7 a1_8) else (catchmentref04_Check.j1 kj2 (a0_4.toList != ([] : List UInt8)) a0_0 a0_1 a0_2 a0_3 a0_4 a0_5 a1_0 a1_1 a1_2 a1_3 a1_4 a1_5 a1_6 a1_7 a1_8)) = some r := by rw [if_neg (show ¬ (false = true) by decide)] at H; exact H
  clear H
  have H := H1
  clear H1
  by_cases c13 : a0_0 = 1
  ·rw [if_pos c13] at H
   have c13b0 := beq_iff_eq.mpr c13
   have c13b1 := bne_eq_false_iff_eq.mpr c13
   clear c13
   (first | rw [c13b0] | (simp only [i64_w, i32_w]; rw [c13b0]) | skip)
   have H' := aK_ H; clear H
   have hnb14 := NB228_229.out
   have hnc14 := NB229_228.out
   have hz15 := cq6_ BK228.out
   go_wp2
   go_meet
   case rel => exact ⟨_, (false), rZ_, H', ⟨by have := HJ2.out; first | omega | exact Nat.le_refl _⟩, ⟨bX_ BK228.out⟩, ⟨bX_ BK229.out⟩, ⟨bS2_ GE228.out GE229.out⟩⟩
  rw [if_neg c13] at H
  have c13b0 := beq_eq_false_iff_ne.mpr c13
  have c13b1 := bne_iff_ne.mpr c13
  (first | rw [c13b0] | (simp only [i64_w, i32_w]; rw [c13b0]) | skip)
  have H' := aK_ H; clear H
  have hnb16 := NB228_229.out
  have hnc16 := NB229_228.out
  have hz17 := cq6_ BK228.out
  go_wp2
  go_meet
  case rel => exact ⟨_, ((a0_4.toList != ([] : List UInt8))), rZ_, H', ⟨by have := HJ2.out; first | omega | exact Nat.le_refl _⟩, ⟨bX_ BK228.out⟩, ⟨bX_ BK229.out⟩, ⟨bS2_ GE228.out GE229.out⟩⟩
 clear HC11
 try clear c1
 try clear p2
 try clear c6b0
 try clear c7
 try clear c9
 try clear c12
 try clear c13
 try clear c13b0
 try clear c13b1
 try clear c14
 try clear c16
 try clear hz10
 try clear hz15
 try clear hz17
 try clear hz8
 try clear hz10
 try clear hz15
 try clear hz17
 try clear hz8
 try clear p2
 obtain ⟨kq, x5_10, rfl, HA, HJ10, BK228, BK229, HB⟩ := hcut
 cases kq with
 | zero => exact absurd HA.out (by simp [catchmentref04_Check.j1])
 | succ kj10 => ?_
 have H := HA.out
 clear HA
 simp only [catchmentref04_Check.j1] at H
 have HC18 := aK_ H
 clear H
 go_upto_region 3 with (fail)
 go_cut [5] (fun v5 wc => ∃ (kq : Nat) (x5_17 : Bool), v5 = .bool x5_17 ∧ Aside0 (catchmentref04_Check.j2 kq x5_17 a0_0 a0_1 a0_2 a0_3 a0_4 a0_5 a1_0 a1_1 a1_2 a1_3 a1_4 a1_5 a1_6 a1_7 a1_8 = some r) ∧ Aside0 (kq ≤ kj10) ∧ Aside0 (wc.heap[gb228]? = some (.cells #[.int .u8 a0_0, .int .i64 a0_1, .string a0_2, .string a0_3, .string a0_4, .int .u64 a0_5] 117 (0, 0))) ∧ Aside0 (wc.heap[gb229]? = some (.cells #[.int .i64 a1_0, .int .i64 a1_1, .int .i64 a1_2, .int .i64 a1_3, .int .i64 a1_4, .int .i64 a1_5, .int .i64 a1_6, .int .i64 a1_7, .int .i64 a1_8] 47 (0, 0))) ∧ Aside0 (Below w.heap.size w wc))
 case first =>
  have H := HC18.out
  clear HC18
  by_cases c19 : x5_10 = true
  ·subst c19
   have H1 : (catchmentref04_Check.j2 kj10 true a0_0 a0_1 a0_2 a0_3 a0_4 a0_5 a1_0 a1_1 a1_2 a1_3 a1_4 a1_5 a1_6 a1_7 a1_8) = some r := by rw [if_pos rfl] at H; exact H
   clear H
   have H := H1
   clear H1
   have H' := aK_ H; clear H
   go_wp2
   go_meet
   case rel => exact ⟨_, (true), rZ_, H', ⟨by have := HJ2.out; have := HJ10.out; first | omega | exact Nat.le_refl _⟩, ⟨bX_ BK228.out⟩, ⟨bX_ BK229.out⟩, ⟨bS2_ GE228.out GE229.out⟩⟩
  replace c19 := Bool.eq_false_iff.mpr c19
  subst c19
  have H1 : (if a0_0 = 3 then (catchmentref04_Check.j2 kj10 false a0_0 a0_1 a0_2 a0_3 a0_4 a0_5 a1_0 a1_1 a1_2 a1_3 a1_4 a1_5 a1_6 a1_7 a1_8) else (catchmentref04_Check.j2 kj10 (a0_5 != 0) a0_0 a0_1 a0_2 a0_3 a0_4 a0_5 a1_0 a1_1 a1_2 a1_3 a1_4 a1_5 a1_6 a1_7 a1_8)) = some r := by rw [if_neg (show ¬ (false = true) by decide)] at H; exact H
  clear H
  have H := H1
  clear H1
  by_cases c20 : a0_0 = 3
  ·rw [if_pos c20] at H
   have c20b0 := beq_iff_eq.mpr c20
   have c20b1 := bne_eq_false_iff_eq.mpr c20
   clear c20
   (first | rw [c20b0] | (simp only [i64_w, i32_w]; rw [c20b0]) | skip)
   have H' := aK_ H; clear H
   have hnb21 := NB228_229.out
   have hnc21 := NB229_228.out
   have hz22 := cq6_ BK228.out
   go_wp2
   go_meet
   case rel => exact ⟨_, (false), rZ_, H', ⟨by have := HJ2.out; have := HJ10.out; first | omega | exact Nat.le_refl _⟩, ⟨bX_ BK228.out⟩, ⟨bX_ BK229.out⟩, ⟨bS2_ GE228.out GE229.out⟩⟩
  rw [if_neg c20] at H
  have c20b0 := beq_eq_false_iff_ne.mpr c20
  have c20b1 := bne_iff_ne.mpr c20
  (first | rw [c20b0] | (simp only [i64_w, i32_w]; rw [c20b0]) | skip)
  have H' := aK_ H; clear H
  have hnb23 := NB228_229.out
  have hnc23 := NB229_228.out
  have hz24 := cq6_ BK228.out
  go_wp2
  go_meet
  case rel => exact ⟨_, ((a0_5 != 0)), rZ_, H', ⟨by have := HJ2.out; have := HJ10.out; first | omega | exact Nat.le_refl _⟩, ⟨bX_ BK228.out⟩, ⟨bX_ BK229.out⟩, ⟨bS2_ GE228.out GE229.out⟩⟩
 clear HC18
 try clear c1
 try clear c2
 try clear p2
 try clear c6b0
 try clear c7
 try clear c9
 try clear c12
 try clear c13
 try clear c13b0
 try clear c13b1
 try clear c14
 try clear c16
 try clear c19
 try clear c20
 try clear c20b0
 try clear c20b1
 try clear c21
 try clear c23
 try clear hz10
 try clear hz15
 try clear hz17
 try clear hz22
 try clear hz24
 try clear hz8
 try clear hz10
 try clear hz15
 try clear hz17
 try clear hz22
 try clear hz24
 try clear hz8
 try clear p2
 obtain ⟨kq, x5_17, rfl, HA, HJ17, BK228, BK229, HB⟩ := hcut
 cases kq with
 | zero => exact absurd HA.out (by simp [catchmentref04_Check.j2])
 | succ kj17 => ?_
 have H := HA.out
 clear HA
 simp only [catchmentref04_Check.j2] at H
 have HC25 := aK_ H
 clear H
 go_upto_region 4 with (fail)
 go_cut [5] (fun v5 wc => ∃ (kq : Nat) (x5_24 : Bool), v5 = .bool x5_24 ∧ Aside0 (catchmentref04_Check.j3 kq x5_24 a0_0 a0_1 a0_2 a0_3 a0_4 a0_5 a1_0 a1_1 a1_2 a1_3 a1_4 a1_5 a1_6 a1_7 a1_8 = some r) ∧ Aside0 (kq ≤ kj17) ∧ Aside0 (wc.heap[gb228]? = some (.cells #[.int .u8 a0_0, .int .i64 a0_1, .string a0_2, .string a0_3, .string a0_4, .int .u64 a0_5] 117 (0, 0))) ∧ Aside0 (wc.heap[gb229]? = some (.cells #[.int .i64 a1_0, .int .i64 a1_1, .int .i64 a1_2, .int .i64 a1_3, .int .i64 a1_4, .int .i64 a1_5, .int .i64 a1_6, .int .i64 a1_7, .int .i64 a1_8] 47 (0, 0))) ∧ Aside0 (Below w.heap.size w wc))
 case first =>
  have H := HC25.out
  clear HC25
  by_cases c26 : x5_17 = true
  ·subst c26
   have H1 : (catchmentref04_Check.j3 kj17 true a0_0 a0_1 a0_2 a0_3 a0_4 a0_5 a1_0 a1_1 a1_2 a1_3 a1_4 a1_5 a1_6 a1_7 a1_8) = some r := by rw [if_pos rfl] at H; exact H
   clear H
   have H := H1
   clear H1
   have H' := aK_ H; clear H
   go_wp2
   go_meet
   case rel => exact ⟨_, (true), rZ_, H', ⟨by have := HJ2.out; have := HJ10.out; have := HJ17.out; first | omega | exact Nat.le_refl _⟩, ⟨bX_ BK228.out⟩, ⟨bX_ BK229.out⟩, ⟨bS2_ GE228.out GE229.out⟩⟩
  replace c26 := Bool.eq_false_iff.mpr c26
  subst c26
  have H1 : (if a0_0 = 4 then (catchmentref04_Check.j3 kj17 false a0_0 a0_1 a0_2 a0_3 a0_4 a0_5 a1_0 a1_1 a1_2 a1_3 a1_4 a1_5 a1_6 a1_7 a1_8) else (catchmentref04_Check.j3 kj17 (a0_3.toList != ([] : List UInt8)) a0_0 a0_1 a0_2 a0_3 a0_4 a0_5 a1_0 a1_1 a1_2 a1_3 a1_4 a1_5 a1_6 a1_7 a1_8)) = some r := by rw [if_neg (show ¬ (false = true) by decide)] at H; exact H
  clear H
  have H := H1
  clear H1
  by_cases c27 : a0_0 = 4
  ·rw [if_pos c27] at H
   have c27b0 := beq_iff_eq.mpr c27
   have c27b1 := bne_eq_false_iff_eq.mpr c27
   clear c27
   (first | rw [c27b0] | (simp only [i64_w, i32_w]; rw [c27b0]) | skip)
   have H' := aK_ H; clear H
   have hnb28 := NB228_229.out
   have hnc28 := NB229_228.out
   have hz29 := cq6_ BK228.out
   go_wp2
   go_meet
   case rel => exact ⟨_, (false), rZ_, H', ⟨by have := HJ2.out; have := HJ10.out; have := HJ17.out; first | omega | exact Nat.le_refl _⟩, ⟨bX_ BK228.out⟩, ⟨bX_ BK229.out⟩, ⟨bS2_ GE228.out GE229.out⟩⟩
  rw [if_neg c27] at H
  have c27b0 := beq_eq_false_iff_ne.mpr c27
  have c27b1 := bne_iff_ne.mpr c27
  (first | rw [c27b0] | (simp only [i64_w, i32_w]; rw [c27b0]) | skip)
  have H' := aK_ H; clear H
  have hnb30 := NB228_229.out
  have hnc30 := NB229_228.out
  have hz31 := cq6_ BK228.out
  go_wp2
  go_meet
  case rel => exact ⟨_, ((a0_3.toList != ([] : List UInt8))), rZ_, H', ⟨by have := HJ2.out; have := HJ10.out; have := HJ17.out; first | omega | exact Nat.le_refl _⟩, ⟨bX_ BK228.out⟩, ⟨bX_ BK229.out⟩, ⟨bS2_ GE228.out GE229.out⟩⟩
 clear HC25
 try clear c1
 try clear c2
 try clear p2
 try clear c3
 try clear c6b0
 try clear c7
 try clear c9
 try clear c12
 try clear c13
 try clear c13b0
 try clear c13b1
 try clear c14
 try clear c16
 try clear c19
 try clear c20
 try clear c20b0
 try clear c20b1
 try clear c21
 try clear c23
 try clear c26
 try clear c27
 try clear c27b0
 try clear c27b1
 try clear c28
 try clear c30
 try clear hz10
 try clear hz15
 try clear hz17
 try clear hz22
 try clear hz24
 try clear hz29
 try clear hz31
 try clear hz8
 try clear hz10
 try clear hz15
 try clear hz17
 try clear hz22
 try clear hz24
 try clear hz29
 try clear hz31
 try clear hz8
 try clear p2
 obtain ⟨kq, x5_24, rfl, HA, HJ24, BK228, BK229, HB⟩ := hcut
 cases kq with
 | zero => exact absurd HA.out (by simp [catchmentref04_Check.j3])
 | succ kj24 => ?_
 have H := HA.out
 clear HA
 simp only [catchmentref04_Check.j3] at H
 by_cases c32 : x5_24 = true
 ·subst c32
  have H1 : (some 3) = some r := by rw [if_pos rfl] at H; exact H
  clear H
  have H := H1
  clear H1
  obtain rfl := Option.some.inj H
  go_wp2
  go_ret
  exact ⟨eR_, bS2_ GE228.out GE229.out⟩
 replace c32 := Bool.eq_false_iff.mpr c32
 subst c32
 have H1 : (if (a0_2.size : Int) > a1_0 then (catchmentref04_Check.j4 kj24 true a0_0 a0_1 a0_2 a0_3 a0_4 a0_5) else (if (a0_3.size : Int) > a1_0 then (catchmentref04_Check.j4 kj24 true a0_0 a0_1 a0_2 a0_3 a0_4 a0_5) else ((catchmentref04_Point.f a0_0 a0_1 a0_2 a0_3 a0_4 a0_5).bind fun t230 => (if t230 = true then (if a0_2.toList = ([] : List UInt8) then (catchmentref04_Check.j4 kj24 true a0_0 a0_1 a0_2 a0_3 a0_4 a0_5) else (if a0_0 = 1 then (catchmentref04_Check.j4 kj24 (decide ((a0_4.size : Int) > a1_1)) a0_0 a0_1 a0_2 a0_3 a0_4 a0_5) else (catchmentref04_Check.j4 kj24 false a0_0 a0_1 a0_2 a0_3 a0_4 a0_5))) else (if a0_0 = 1 then (catchmentref04_Check.j4 kj24 (decide ((a0_4.size : Int) > a1_1)) a0_0 a0_1 a0_2 a0_3 a0_4 a0_5) else (catchmentref04_Check.j4 kj24 false a0_0 a0_1 a0_2 a0_3 a0_4 a0_5)))))) = some r := by rw [if_neg (show ¬ (false = true) by decide)] at H; exact H
 clear H
 have H := H1
 clear H1
 have HC33 := aK_ H
 clear H
 go_upto_region 7 with (fail)
 go_cut [83] (fun v83 wc => ∃ (kq : Nat) (x83_32 : Bool), v83 = .bool x83_32 ∧ Aside0 (catchmentref04_Check.j4 kq x83_32 a0_0 a0_1 a0_2 a0_3 a0_4 a0_5 = some r) ∧ Aside0 (kq ≤ kj24) ∧ Aside0 (wc.heap[gb228]? = some (.cells #[.int .u8 a0_0, .int .i64 a0_1, .string a0_2, .string a0_3, .string a0_4, .int .u64 a0_5] 117 (0, 0))) ∧ Aside0 (wc.heap[gb229]? = some (.cells #[.int .i64 a1_0, .int .i64 a1_1, .int .i64 a1_2, .int .i64 a1_3, .int .i64 a1_4, .int .i64 a1_5, .int .i64 a1_6, .int .i64 a1_7, .int .i64 a1_8] 47 (0, 0))) ∧ Aside0 (Below w.heap.size w wc))
 case first =>
  have H := HC33.out
  clear HC33
  by_cases c34 : (a0_2.size : Int) > a1_0
  ·rw [if_pos c34] at H
   have c34b0 : decide (a1_0 < (a0_2.size : Int)) = true := decide_eq_true c34
   clear c34
   (first | rw [c34b0] | (simp only [i64_w, i32_w]; rw [c34b0]) | skip)
   have H' := aK_ H; clear H
   have hnb35 := NB228_229.out
   have hnc35 := NB229_228.out
   have hz36 := cq6_ BK228.out
   have hz37 := cq9_ BK229.out
   go_wp2
   go_meet
   case rel => exact ⟨_, (true), rZ_, H', ⟨by have := HJ2.out; have := HJ10.out; have := HJ17.out; have := HJ24.out; first | omega | exact Nat.le_refl _⟩, ⟨bX_ BK228.out⟩, ⟨bX_ BK229.out⟩, ⟨bS2_ GE228.out GE229.out⟩⟩
  rw [if_neg c34] at H
  have c34b0 : decide (a1_0 < (a0_2.size : Int)) = false := decide_eq_false c34
  clear c34
  (first | rw [c34b0] | (simp only [i64_w, i32_w]; rw [c34b0]) | skip)
  by_cases c38 : (a0_3.size : Int) > a1_0
  ·rw [if_pos c38] at H
   have c38b0 : decide (a1_0 < (a0_3.size : Int)) = true := decide_eq_true c38
   clear c38
   have H' := aK_ H; clear H
   have hnb39 := NB228_229.out
   have hnc39 := NB229_228.out
   have hz40 := cq6_ BK228.out
   have hz41 := cq9_ BK229.out
   go_wp2
   go_meet
   case rel => exact ⟨_, (true), rZ_, H', ⟨by have := HJ2.out; have := HJ10.out; have := HJ17.out; have := HJ24.out; first | omega | exact Nat.le_refl _⟩, ⟨bX_ BK228.out⟩, ⟨bX_ BK229.out⟩, ⟨bS2_ GE228.out GE229.out⟩⟩
  rw [if_neg c38] at H
  have c38b0 : decide (a1_0 < (a0_3.size : Int)) = false := decide_eq_false c38
  clear c38
  replace H := Option.bind_eq_some_iff.mp H
  obtain ⟨t230, A420, H⟩ := H
  replace H : (if t230 = true then (if a0_2.toList = ([] : List UInt8) then (catchmentref04_Check.j4 kj24 true a0_0 a0_1 a0_2 a0_3 a0_4 a0_5) else (if a0_0 = 1 then (catchmentref04_Check.j4 kj24 (decide ((a0_4.size : Int) > a1_1)) a0_0 a0_1 a0_2 a0_3 a0_4 a0_5) else (catchmentref04_Check.j4 kj24 false a0_0 a0_1 a0_2 a0_3 a0_4 a0_5))) else (if a0_0 = 1 then (catchmentref04_Check.j4 kj24 (decide ((a0_4.size : Int) > a1_1)) a0_0 a0_1 a0_2 a0_3 a0_4 a0_5) else (catchmentref04_Check.j4 kj24 false a0_0 a0_1 a0_2 a0_3 a0_4 a0_5))) = some r := H
  have A42 := aK_ A420
  clear A420
  by_cases c43 : t230 = true
  ·subst c43
   have H1 : (if a0_2.toList = ([] : List UInt8) then (catchmentref04_Check.j4 kj24 true a0_0 a0_1 a0_2 a0_3 a0_4 a0_5) else (if a0_0 = 1 then (catchmentref04_Check.j4 kj24 (decide ((a0_4.size : Int) > a1_1)) a0_0 a0_1 a0_2 a0_3 a0_4 a0_5) else (catchmentref04_Check.j4 kj24 false a0_0 a0_1 a0_2 a0_3 a0_4 a0_5))) = some r := by rw [if_pos rfl] at H; exact H
   clear H
   have H := H1
   clear H1
   by_cases c44 : a0_2.toList = ([] : List UInt8)
   ·rw [if_pos c44] at H
    have c44b0 := beq_iff_eq.mpr c44
    have c44b1 := bne_eq_false_iff_eq.mpr c44
    clear c44
    have H' := aK_ H; clear H
    have hnb45 := NB228_229.out
    have hnc45 := NB229_228.out
    have hz46 := cq6_ BK228.out
    have hz47 := cq9_ BK229.out
    go_wp2_with (first | (go_at_call 91; (with_reducible refine (catchmentref04_Point.calls a0_0 a0_1 a0_2 a0_3 a0_4 a0_5 true _ A42.out).mono ?_); rintro e w48 ⟨rfl, hb⟩; replace BK228 := aK_ (bB (bX_ BK228.out) hb); replace BK229 := aK_ (bB (bX_ BK229.out) hb); replace HB := aK_ (wT (bS2_ GE228.out GE229.out) hb); (try clear hb); (try clear hb2); (try clear hk); (try clear hi); have hz49 := cq6_ BK228.out))
    go_meet
    case rel => exact ⟨_, (true), rZ_, H', ⟨by have := HJ2.out; have := HJ10.out; have := HJ17.out; have := HJ24.out; first | omega | exact Nat.le_refl _⟩, ⟨bX_ BK228.out⟩, ⟨bX_ BK229.out⟩, ⟨bS2_ GE228.out GE229.out⟩⟩
   rw [if_neg c44] at H
   have c44b0 := beq_eq_false_iff_ne.mpr c44
   have c44b1 := bne_iff_ne.mpr c44
   by_cases c50 : a0_0 = 1
   ·rw [if_pos c50] at H
    have c50b0 := beq_iff_eq.mpr c50
    have c50b1 := bne_eq_false_iff_eq.mpr c50
    clear c50
    have H' := aK_ H; clear H
    have hnb51 := NB228_229.out
    have hnc51 := NB229_228.out
    have hz52 := cq6_ BK228.out
    have hz53 := cq9_ BK229.out
    go_wp2_with (first | (go_at_call 91; (with_reducible refine (catchmentref04_Point.calls a0_0 a0_1 a0_2 a0_3 a0_4 a0_5 true _ A42.out).mono ?_); rintro e w54 ⟨rfl, hb⟩; replace BK228 := aK_ (bB (bX_ BK228.out) hb); replace BK229 := aK_ (bB (bX_ BK229.out) hb); replace HB := aK_ (wT (bS2_ GE228.out GE229.out) hb); (try clear hb); (try clear hb2); (try clear hk); (try clear hi); have hz55 := cq6_ BK228.out; have hz56 := cq9_ BK229.out))
    go_meet
    case rel => exact ⟨_, (decide ((a0_4.size : Int) > a1_1)), rZ_, H', ⟨by have := HJ2.out; have := HJ10.out; have := HJ17.out; have := HJ24.out; first | omega | exact Nat.le_refl _⟩, ⟨bX_ BK228.out⟩, ⟨bX_ BK229.out⟩, ⟨bS2_ GE228.out GE229.out⟩⟩
   rw [if_neg c50] at H
   have c50b0 := beq_eq_false_iff_ne.mpr c50
   have c50b1 := bne_iff_ne.mpr c50
   have H' := aK_ H; clear H
   have hnb57 := NB228_229.out
   have hnc57 := NB229_228.out
   have hz58 := cq6_ BK228.out
   have hz59 := cq9_ BK229.out
   go_wp2_with (first | (go_at_call 91; (with_reducible refine (catchmentref04_Point.calls a0_0 a0_1 a0_2 a0_3 a0_4 a0_5 true _ A42.out).mono ?_); rintro e w60 ⟨rfl, hb⟩; replace BK228 := aK_ (bB (bX_ BK228.out) hb); replace BK229 := aK_ (bB (bX_ BK229.out) hb); replace HB := aK_ (wT (bS2_ GE228.out GE229.out) hb); (try clear hb); (try clear hb2); (try clear hk); (try clear hi); have hz61 := cq6_ BK228.out))
   go_meet
   case rel => exact ⟨_, (false), rZ_, H', ⟨by have := HJ2.out; have := HJ10.out; have := HJ17.out; have := HJ24.out; first | omega | exact Nat.le_refl _⟩, ⟨bX_ BK228.out⟩, ⟨bX_ BK229.out⟩, ⟨bS2_ GE228.out GE229.out⟩⟩
  replace c43 := Bool.eq_false_iff.mpr c43
  subst c43
  have H1 : (if a0_0 = 1 then (catchmentref04_Check.j4 kj24 (decide ((a0_4.size : Int) > a1_1)) a0_0 a0_1 a0_2 a0_3 a0_4 a0_5) else (catchmentref04_Check.j4 kj24 false a0_0 a0_1 a0_2 a0_3 a0_4 a0_5)) = some r := by rw [if_neg (show ¬ (false = true) by decide)] at H; exact H
  clear H
  have H := H1
  clear H1
  by_cases c62 : a0_0 = 1
  ·rw [if_pos c62] at H
   have c62b0 := beq_iff_eq.mpr c62
   have c62b1 := bne_eq_false_iff_eq.mpr c62
   clear c62
   have H' := aK_ H; clear H
   have hnb63 := NB228_229.out
   have hnc63 := NB229_228.out
   have hz64 := cq6_ BK228.out
   have hz65 := cq9_ BK229.out
   go_wp2_with (first | (go_at_call 91; (with_reducible refine (catchmentref04_Point.calls a0_0 a0_1 a0_2 a0_3 a0_4 a0_5 false _ A42.out).mono ?_); rintro e w66 ⟨rfl, hb⟩; replace BK228 := aK_ (bB (bX_ BK228.out) hb); replace BK229 := aK_ (bB (bX_ BK229.out) hb); replace HB := aK_ (wT (bS2_ GE228.out GE229.out) hb); (try clear hb); (try clear hb2); (try clear hk); (try clear hi); have hz67 := cq6_ BK228.out; have hz68 := cq9_ BK229.out))
   go_meet
   case rel => exact ⟨_, (decide ((a0_4.size : Int) > a1_1)), rZ_, H', ⟨by have := HJ2.out; have := HJ10.out; have := HJ17.out; have := HJ24.out; first | omega | exact Nat.le_refl _⟩, ⟨bX_ BK228.out⟩, ⟨bX_ BK229.out⟩, ⟨bS2_ GE228.out GE229.out⟩⟩
  rw [if_neg c62] at H
  have c62b0 := beq_eq_false_iff_ne.mpr c62
  have c62b1 := bne_iff_ne.mpr c62
  have H' := aK_ H; clear H
  have hnb69 := NB228_229.out
  have hnc69 := NB229_228.out
  have hz70 := cq6_ BK228.out
  have hz71 := cq9_ BK229.out
  go_wp2_with (first | (go_at_call 91; (with_reducible refine (catchmentref04_Point.calls a0_0 a0_1 a0_2 a0_3 a0_4 a0_5 false _ A42.out).mono ?_); rintro e w72 ⟨rfl, hb⟩; replace BK228 := aK_ (bB (bX_ BK228.out) hb); replace BK229 := aK_ (bB (bX_ BK229.out) hb); replace HB := aK_ (wT (bS2_ GE228.out GE229.out) hb); (try clear hb); (try clear hb2); (try clear hk); (try clear hi); have hz73 := cq6_ BK228.out))
  go_meet
  case rel => exact ⟨_, (false), rZ_, H', ⟨by have := HJ2.out; have := HJ10.out; have := HJ17.out; have := HJ24.out; first | omega | exact Nat.le_refl _⟩, ⟨bX_ BK228.out⟩, ⟨bX_ BK229.out⟩, ⟨bS2_ GE228.out GE229.out⟩⟩
 clear HC33
 try clear c1
 try clear c2
 try clear p2
 try clear c3
 try clear c4
 try clear c5
 try clear c6b0
 try clear c7
 try clear c9
 try clear c12
 try clear c13
 try clear c13b0
 try clear c13b1
 try clear c14
 try clear c16
 try clear c19
 try clear c20
 try clear c20b0
 try clear c20b1
 try clear c21
 try clear c23
 try clear c26
 try clear c27
 try clear c27b0
 try clear c27b1
 try clear c28
 try clear c30
 try clear c32
 try clear c34b0
 try clear c35
 try clear c38b0
 try clear c39
 try clear c43
 try clear c44
 try clear c44b0
 try clear c44b1
 try clear c45
 try clear c50
 try clear c50b0
 try clear c50b1
 try clear c51
 try clear c57
 try clear c62
 try clear c62b0
 try clear c62b1
 try clear c63
 try clear c69
 try clear hz10
 try clear hz15
 try clear hz17
 try clear hz22
 try clear hz24
 try clear hz29
 try clear hz31
 try clear hz36
 try clear hz37
 try clear hz40
 try clear hz41
 try clear hz46
 try clear hz47
 try clear hz49
 try clear hz52
 try clear hz53
 try clear hz55
 try clear hz56
 try clear hz58
 try clear hz59
 try clear hz61
 try clear hz64
 try clear hz65
 try clear hz67
 try clear hz68
 try clear hz70
 try clear hz71
 try clear hz73
 try clear hz8
 try clear hz10
 try clear hz15
 try clear hz17
 try clear hz22
 try clear hz24
 try clear hz29
 try clear hz31
 try clear hz36
 try clear hz37
 try clear hz40
 try clear hz41
 try clear hz46
 try clear hz47
 try clear hz49
 try clear hz52
 try clear hz53
 try clear hz55
 try clear hz56
 try clear hz58
 try clear hz59
 try clear hz61
 try clear hz64
 try clear hz65
 try clear hz67
 try clear hz68
 try clear hz70
 try clear hz71
 try clear hz73
 try clear hz8
 try clear p2
 obtain ⟨kq, x83_32, rfl, HA, HJ32, BK228, BK229, HB⟩ := hcut
 cases kq with
 | zero => exact absurd HA.out (by simp [catchmentref04_Check.j4])
 | succ kj32 => ?_
 have H := HA.out
 clear HA
 simp only [catchmentref04_Check.j4] at H
 by_cases c74 : x83_32 = true
 ·subst c74
  have H1 : (some 6) = some r := by rw [if_pos rfl] at H; exact H
  clear H
  have H := H1
  clear H1
  obtain rfl := Option.some.inj H
  go_wp2
  go_ret
  exact ⟨eR_, bS2_ GE228.out GE229.out⟩
 replace c74 := Bool.eq_false_iff.mpr c74
 subst c74
 have H1 : (if a0_0 = 4 then (if a0_3.toList = ([] : List UInt8) then (some 0) else (if ((Op.bytesLess a0_2.toList a0_3.toList) = true) then (some 0) else (some 7))) else (some 0)) = some r := by rw [if_neg (show ¬ (false = true) by decide)] at H; exact H
 clear H
 have H := H1
 clear H1
 by_cases c75 : a0_0 = 4
 ·rw [if_pos c75] at H
  have c75b0 := beq_iff_eq.mpr c75
  have c75b1 := bne_eq_false_iff_eq.mpr c75
  clear c75
  by_cases c76 : a0_3.toList = ([] : List UInt8)
  ·rw [if_pos c76] at H
   have c76b0 := beq_iff_eq.mpr c76
   have c76b1 := bne_eq_false_iff_eq.mpr c76
   clear c76
   obtain rfl := Option.some.inj H
   have hnb77 := NB228_229.out
   have hnc77 := NB229_228.out
   have hz78 := cq6_ BK228.out
   go_wp2
   go_ret
   exact ⟨eR_, bS2_ GE228.out GE229.out⟩
  rw [if_neg c76] at H
  have c76b0 := beq_eq_false_iff_ne.mpr c76
  have c76b1 := bne_iff_ne.mpr c76
  by_cases c79 : ((Op.bytesLess a0_2.toList a0_3.toList) = true)
  ·rw [if_pos c79] at H
   have c79b0 : (Op.bytesLess a0_2.toList a0_3.toList) = true := c79
   clear c79
   obtain rfl := Option.some.inj H
   have hnb80 := NB228_229.out
   have hnc80 := NB229_228.out
   have hz81 := cq6_ BK228.out
   go_wp2
   go_ret
   exact ⟨eR_, bS2_ GE228.out GE229.out⟩
  rw [if_neg c79] at H
  have c79b0 : (Op.bytesLess a0_2.toList a0_3.toList) = false := by simpa using c79
  clear c79
  obtain rfl := Option.some.inj H
  have hnb82 := NB228_229.out
  have hnc82 := NB229_228.out
  have hz83 := cq6_ BK228.out
  go_wp2
  go_ret
  exact ⟨eR_, bS2_ GE228.out GE229.out⟩
 rw [if_neg c75] at H
 have c75b0 := beq_eq_false_iff_ne.mpr c75
 have c75b1 := bne_iff_ne.mpr c75
 obtain rfl := Option.some.inj H
 have hnb84 := NB228_229.out
 have hnc84 := NB229_228.out
 have hz85 := cq6_ BK228.out
 go_wp2
 go_ret
 exact ⟨eR_, bS2_ GE228.out GE229.out⟩
mutual
def room_batch.l0 : Nat → List (S117) → List (S117) → Int → Int → Int → Int → Int → Int → Int → Int → Int → Int → Int → Option (Int)
 | 0, _, _, _, _, _, _, _, _, _, _, _, _, _ => none
 | k + 1, x0, x13, x14, x15, x187000, x187001, x187002, x187003, x187004, x187005, x187006, x187007, x187008 => if x15 < x14 then (if 0 ≤ x15 then (if x15 < (x13.length : Int) then (if ((rd_T117 x13 x15).f1) = 0 then (room_batch.l0 k x0 x13 x14 (wrap64 (x15 + 1)) x187000 x187001 x187002 x187003 x187004 x187005 x187006 x187007 x187008) else (some 3)) else (none)) else (none)) else (room_batch.l1 k x0 (x0.length : Int) 0 x187000 x187001 x187002 x187003 x187004 x187005 x187006 x187007 x187008)
def room_batch.l1 : Nat → List (S117) → Int → Int → Int → Int → Int → Int → Int → Int → Int → Int → Int → Option (Int)
 | 0, _, _, _, _, _, _, _, _, _, _, _, _ => none
 | k + 1, x23, x24, x25, x187000, x187001, x187002, x187003, x187004, x187005, x187006, x187007, x187008 => if x25 < x24 then (if 0 ≤ x25 then (if x25 < (x23.length : Int) then ((msg_Check.f k ((rd_T117 x23 x25).f0) ((rd_T117 x23 x25).f1) ((rd_T117 x23 x25).f2) ((rd_T117 x23 x25).f3) ((rd_T117 x23 x25).f4) ((rd_T117 x23 x25).f5) x187000 x187001 x187002 x187003 x187004 x187005 x187006 x187007 x187008).bind fun t191 => (if t191 = 0 then (room_batch.l1 k x23 x24 (wrap64 (x25 + 1)) x187000 x187001 x187002 x187003 x187004 x187005 x187006 x187007 x187008) else (some t191))) else (none)) else (none)) else (some 0)
end
def room_batch.f (k : Nat) (l0 : List (S117)) (a1_0 a1_1 a1_2 a1_3 a1_4 a1_5 a1_6 a1_7 a1_8 : Int) : Option (Int) := if (l0.length : Int) > 1024 then (some 8) else (room_batch.l0 k l0 l0 (l0.length : Int) 0 a1_0 a1_1 a1_2 a1_3 a1_4 a1_5 a1_6 a1_7 a1_8)
set_option maxHeartbeats 8000000 in
set_option maxRecDepth 100000 in
theorem room_batch.calls (k : Nat) (A0 : Option Addr) (c0 : Nat) (l0 : List (S117)) (a1_0 a1_1 a1_2 a1_3 a1_4 a1_5 a1_6 a1_7 a1_8 r : Int) (w : World) (hr0 : Kd.C k117 w A0 l0.length l0) (hc0 : l0.length ≤ c0) (h : room_batch.f k l0 a1_0 a1_1 a1_2 a1_3 a1_4 a1_5 a1_6 a1_7 a1_8 = some r) :
  Calls Try.prog 85 #[.slice A0 l0.length c0, .agg #[.int .i64 a1_0, .int .i64 a1_1, .int .i64 a1_2, .int .i64 a1_3, .int .i64 a1_4, .int .i64 a1_5, .int .i64 a1_6, .int .i64 a1_7, .int .i64 a1_8]] w fun e w' => e = .returned (.int .i64 r) ∧ Below w.heap.size w w' := by
 have hu47 := Try.underlying47
 have hu117 := Try.underlying117
 have HR0 := aK_ hr0
 have HC0 := aK_ hc0
 clear hr0 hc0
 have HB := aK_ (Below.refl w.heap.size w)
 have H : (if (l0.length : Int) > 1024 then (some 8) else (room_batch.l0 k l0 l0 (l0.length : Int) 0 a1_0 a1_1 a1_2 a1_3 a1_4 a1_5 a1_6 a1_7 a1_8)) = some r := h
 clear h
 by_cases c3 : (l0.length : Int) > 1024
 ·rw [if_pos c3] at H
  have c3b0 : decide (1024 < (l0.length : Int)) = true := decide_eq_true c3
  have c3b1 : decide (1024 < l0.length) = true := decide_eq_true (by omega)
  clear c3
  obtain rfl := Option.some.inj H
  go_enter Try.func85, Try.ntmps85
  go_wp2_with (first | ((with_reducible refine gate_dst (N := 3) rfl ?_); refine bE_ 3 #[.int .i64 a1_0, .int .i64 a1_1, .int .i64 a1_2, .int .i64 a1_3, .int .i64 a1_4, .int .i64 a1_5, .int .i64 a1_6, .int .i64 a1_7, .int .i64 a1_8] 47 ?_; intro gb186 hg w4 hbox hb; have BK186 := aK_ (hbox); have GW186 := aK_ (gE_ hg); replace HB := aK_ (wT bW_ hb); have GE186 := GW186; clear hb hbox hg))
  go_ret
  exact ⟨eR_, bS1_ GE186.out⟩
 rw [if_neg c3] at H
 have c3b0 : decide (1024 < (l0.length : Int)) = false := decide_eq_false c3
 have c3b1 : decide (1024 < l0.length) = false := decide_eq_false (by omega)
 clear c3
 have H' := aK_ H; clear H
 go_enter Try.func85, Try.ntmps85
 go_wp2_with (first | ((with_reducible refine gate_dst (N := 3) rfl ?_); refine bE_ 3 #[.int .i64 a1_0, .int .i64 a1_1, .int .i64 a1_2, .int .i64 a1_3, .int .i64 a1_4, .int .i64 a1_5, .int .i64 a1_6, .int .i64 a1_7, .int .i64 a1_8] 47 ?_; intro gb186 hg w5 hbox hb; have BK186 := aK_ (hbox); have GW186 := aK_ (gE_ hg); replace HB := aK_ (wT bW_ hb); have GE186 := GW186; clear hb hbox hg))
 go_loopg [15] k (fun kq v15 w' => ∃ (x15_1 : Int), v15 = .int .i64 x15_1 ∧ Aside0 (room_batch.l0 kq l0 l0 (l0.length : Int) x15_1 a1_0 a1_1 a1_2 a1_3 a1_4 a1_5 a1_6 a1_7 a1_8 = some r) ∧ Aside0 (kq ≤ k) ∧ Aside0 (w'.heap[gb186]? = some (.cells #[.int .i64 a1_0, .int .i64 a1_1, .int .i64 a1_2, .int .i64 a1_3, .int .i64 a1_4, .int .i64 a1_5, .int .i64 a1_6, .int .i64 a1_7, .int .i64 a1_8] 47 (0, 0))) ∧ Aside0 (Below w.heap.size w w'))
 case atStart => exact ⟨(0), rZ_, H', ⟨Nat.le_refl _⟩, ⟨bX_ BK186.out⟩, ⟨bS1_ GE186.out⟩⟩
 clear H'
 try clear p2
 try clear c3b0
 try clear c3b1
 obtain ⟨x15_1, rfl, HA, HK1, BK186, HB⟩ := hrel
 cases gk with
 | zero => exact absurd HA.out (by simp [room_batch.l0])
 | succ k1 => ?_
 have H := HA.out
 clear HA
 simp only [room_batch.l0] at H
 by_cases c6 : x15_1 < (l0.length : Int)
 ·rw [if_pos c6] at H
  have c6b0 := decide_eq_true c6
  clear c6
  by_cases c7 : 0 ≤ x15_1
  ·rw [if_pos c7] at H
   have c7b0 := decide_eq_true c7
   clear c7
   by_cases c8 : x15_1 < (l0.length : Int)
   ·rw [if_pos c8] at H
    have c8b0 := decide_eq_true c8
    clear c8
    by_cases c9 : ((rd_T117 l0 x15_1).f1) = 0
    ·rw [if_pos c9] at H
     have c9b0 := beq_iff_eq.mpr c9
     have c9b1 := bne_eq_false_iff_eq.mpr c9
     clear c9
     have H' := aK_ H; clear H
     have p187 : 0 ≤ (x15_1 : Int) := pD_
     have q187 : x15_1 < (l0.length : Int) := pD_
     obtain ⟨ad187, e187, hx187_0, hx187_1, hx187_2, hx187_3, hx187_4, hx187_5⟩ := at_T117 HR0.out x15_1 p187 q187
     cases e187
     replace hx187_0 := cB_ hx187_0
     replace hx187_1 := cB_ hx187_1
     replace hx187_2 := cB_ hx187_2
     replace hx187_3 := cB_ hx187_3
     replace hx187_4 := cB_ hx187_4
     replace hx187_5 := cB_ hx187_5
     replace p187 := eq_true p187
     replace q187 := eq_true q187
     go_wp2_with (first | ((with_reducible refine gate_dst (N := 6) rfl ?_); refine bE_ 6 #[.int .u8 0, .int .i64 0, .string (⟨#[]⟩ : BA), .string (⟨#[]⟩ : BA), .string (⟨#[]⟩ : BA), .int .u64 0] 117 ?_; intro gb188 hg w10 hbox hb; have n0_ := aK_ (bB (bX_ BK186.out) hb); have n1_ := aK_ (wT (bS1_ GE186.out) hb); have n2_ := aK_ (hbox); have n3_ := aK_ ((by rw [hg]; exact (wZ (bS1_ GE186.out)) : w.heap.size ≤ gb188)); have n4_ := n3_; have n5_ := aK_ ((by rw [hg]; exact Nat.ne_of_lt (blk_lt (g := gb186) (o := .cells #[.int .i64 a1_0, .int .i64 a1_1, .int .i64 a1_2, .int .i64 a1_3, .int .i64 a1_4, .int .i64 a1_5, .int .i64 a1_6, .int .i64 a1_7, .int .i64 a1_8] 47 (0, 0)) (bX_ BK186.out)) : gb186 ≠ gb188)); have n6_ := aK_ ((by rw [hg]; exact Nat.ne_of_gt (blk_lt (g := gb186) (o := .cells #[.int .i64 a1_0, .int .i64 a1_1, .int .i64 a1_2, .int .i64 a1_3, .int .i64 a1_4, .int .i64 a1_5, .int .i64 a1_6, .int .i64 a1_7, .int .i64 a1_8] 47 (0, 0)) (bX_ BK186.out)) : gb188 ≠ gb186)); clear BK186; clear HB; have BK186 := n0_; have HB := n1_; have BK188 := n2_; have GW188 := n3_; have GE188 := n4_; have NB186_188 := n5_; have NB188_186 := n6_; clear n0_ n1_ n2_ n3_ n4_ n5_ n6_; clear hb hbox hg; have hnb11 := NB188_186.out; have hnc11 := NB186_188.out; have hz12 := cq6_ BK188.out))
     go_roundg k1
     case measure => have := HK1.out; omega
     case rel => exact ⟨(wrap64 (x15_1 + 1)), rZ_, H', ⟨by have := HK1.out; omega⟩, ⟨by (with_reducible repeat (first | refine bN ?_ _ | refine bD ?_ | refine bA ?_ _)); refine bR ?_ NB186_188.out _; (with_reducible repeat (first | refine bN ?_ _ | refine bD ?_ | refine bA ?_ _)); refine bR ?_ NB186_188.out _; (with_reducible repeat (first | refine bN ?_ _ | refine bD ?_ | refine bA ?_ _)); refine bR ?_ NB186_188.out _; (with_reducible repeat (first | refine bN ?_ _ | refine bD ?_ | refine bA ?_ _)); refine bR ?_ NB186_188.out _; (with_reducible repeat (first | refine bN ?_ _ | refine bD ?_ | refine bA ?_ _)); refine bR ?_ NB186_188.out _; (with_reducible repeat (first | refine bN ?_ _ | refine bD ?_ | refine bA ?_ _)); refine bR ?_ NB186_188.out _; (with_reducible repeat (first | refine bN ?_ _ | refine bD ?_ | refine bA ?_ _)); exact BK186.out⟩, ⟨bS2_ GE186.out GE188.out⟩⟩
    rw [if_neg c9] at H
    have c9b0 := beq_eq_false_iff_ne.mpr c9
    have c9b1 := bne_iff_ne.mpr c9
    obtain rfl := Option.some.inj H
    have p187 : 0 ≤ (x15_1 : Int) := pD_
    have q187 : x15_1 < (l0.length : Int) := pD_
    obtain ⟨ad187, e187, hx187_0, hx187_1, hx187_2, hx187_3, hx187_4, hx187_5⟩ := at_T117 HR0.out x15_1 p187 q187
    cases e187
    replace hx187_0 := cB_ hx187_0
    replace hx187_1 := cB_ hx187_1
    replace hx187_2 := cB_ hx187_2
    replace hx187_3 := cB_ hx187_3
    replace hx187_4 := cB_ hx187_4
    replace hx187_5 := cB_ hx187_5
    replace p187 := eq_true p187
    replace q187 := eq_true q187
    go_wp2_with (first | ((with_reducible refine gate_dst (N := 6) rfl ?_); refine bE_ 6 #[.int .u8 0, .int .i64 0, .string (⟨#[]⟩ : BA), .string (⟨#[]⟩ : BA), .string (⟨#[]⟩ : BA), .int .u64 0] 117 ?_; intro gb188 hg w13 hbox hb; have n0_ := aK_ (bB (bX_ BK186.out) hb); have n1_ := aK_ (wT (bS1_ GE186.out) hb); have n2_ := aK_ (hbox); have n3_ := aK_ ((by rw [hg]; exact (wZ (bS1_ GE186.out)) : w.heap.size ≤ gb188)); have n4_ := n3_; have n5_ := aK_ ((by rw [hg]; exact Nat.ne_of_lt (blk_lt (g := gb186) (o := .cells #[.int .i64 a1_0, .int .i64 a1_1, .int .i64 a1_2, .int .i64 a1_3, .int .i64 a1_4, .int .i64 a1_5, .int .i64 a1_6, .int .i64 a1_7, .int .i64 a1_8] 47 (0, 0)) (bX_ BK186.out)) : gb186 ≠ gb188)); have n6_ := aK_ ((by rw [hg]; exact Nat.ne_of_gt (blk_lt (g := gb186) (o := .cells #[.int .i64 a1_0, .int .i64 a1_1, .int .i64 a1_2, .int .i64 a1_3, .int .i64 a1_4, .int .i64 a1_5, .int .i64 a1_6, .int .i64 a1_7, .int .i64 a1_8] 47 (0, 0)) (bX_ BK186.out)) : gb188 ≠ gb186)); clear BK186; clear HB; have BK186 := n0_; have HB := n1_; have BK188 := n2_; have GW188 := n3_; have GE188 := n4_; have NB186_188 := n5_; have NB188_186 := n6_; clear n0_ n1_ n2_ n3_ n4_ n5_ n6_; clear hb hbox hg; have hnb14 := NB188_186.out; have hnc14 := NB186_188.out; have hz15 := cq6_ BK188.out))
    go_ret
    exact ⟨eR_, bS2_ GE186.out GE188.out⟩
   rw [if_neg c8] at H
   exact absurd H (by simp)
  rw [if_neg c7] at H
  exact absurd H (by simp)
 rw [if_neg c6] at H
 have c6b0 := decide_eq_false c6
 clear c6
 have H' := aK_ H; clear H
 go_wp2
 go_loopg [25] k1 (fun kq v25 w' => ∃ (x25_2 : Int), v25 = .int .i64 x25_2 ∧ Aside0 (room_batch.l1 kq l0 (l0.length : Int) x25_2 a1_0 a1_1 a1_2 a1_3 a1_4 a1_5 a1_6 a1_7 a1_8 = some r) ∧ Aside0 (kq ≤ k1) ∧ Aside0 (w'.heap[gb186]? = some (.cells #[.int .i64 a1_0, .int .i64 a1_1, .int .i64 a1_2, .int .i64 a1_3, .int .i64 a1_4, .int .i64 a1_5, .int .i64 a1_6, .int .i64 a1_7, .int .i64 a1_8] 47 (0, 0))) ∧ Aside0 (Below w.heap.size w w'))
 case atStart => exact ⟨(0), rZ_, H', ⟨Nat.le_refl _⟩, ⟨bX_ BK186.out⟩, ⟨bS1_ GE186.out⟩⟩
 clear H'
 try clear c1
 try clear p1
 try clear q1
 try clear hx1
 try clear p2
 try clear c3b0
 try clear c3b1
 try clear c6b0
 try clear p6
 try clear c7
 try clear c7b0
 try clear c8
 try clear c8b0
 try clear c9
 try clear c9b0
 try clear c9b1
 try clear c11
 try clear c14
 try clear hz12
 try clear hz15
 try clear hz12
 try clear hz15
 try clear hx187_0
 try clear hx187_1
 try clear hx187_2
 try clear hx187_3
 try clear hx187_4
 try clear hx187_5
 try clear p187
 try clear p2
 try clear q187
 obtain ⟨x25_2, rfl, HA, HK2, BK186, HB⟩ := hrel
 cases gk with
 | zero => exact absurd HA.out (by simp [room_batch.l1])
 | succ k2 => ?_
 have H := HA.out
 clear HA
 simp only [room_batch.l1] at H
 by_cases c16 : x25_2 < (l0.length : Int)
 ·rw [if_pos c16] at H
  have c16b0 := decide_eq_true c16
  clear c16
  by_cases c17 : 0 ≤ x25_2
  ·rw [if_pos c17] at H
   have c17b0 := decide_eq_true c17
   clear c17
   by_cases c18 : x25_2 < (l0.length : Int)
   ·rw [if_pos c18] at H
    have c18b0 := decide_eq_true c18
    clear c18
    replace H := Option.bind_eq_some_iff.mp H
    obtain ⟨t191, A190, H⟩ := H
    replace H : (if t191 = 0 then (room_batch.l1 k2 l0 (l0.length : Int) (wrap64 (x25_2 + 1)) a1_0 a1_1 a1_2 a1_3 a1_4 a1_5 a1_6 a1_7 a1_8) else (some t191)) = some r := H
    have A19 := aK_ A190
    clear A190
    by_cases c20 : t191 = 0
    ·rw [if_pos c20] at H
     have c20b0 := beq_iff_eq.mpr c20
     have c20b1 := bne_eq_false_iff_eq.mpr c20
     clear c20
     have H' := aK_ H; clear H
     have p189 : 0 ≤ (x25_2 : Int) := pD_
     have q189 : x25_2 < (l0.length : Int) := pD_
     obtain ⟨ad189, e189, hx189_0, hx189_1, hx189_2, hx189_3, hx189_4, hx189_5⟩ := at_T117 HR0.out x25_2 p189 q189
     cases e189
     replace hx189_0 := cB_ hx189_0
     replace hx189_1 := cB_ hx189_1
     replace hx189_2 := cB_ hx189_2
     replace hx189_3 := cB_ hx189_3
     replace hx189_4 := cB_ hx189_4
     replace hx189_5 := cB_ hx189_5
     replace p189 := eq_true p189
     replace q189 := eq_true q189
     go_wp2_with (first | ((with_reducible refine gate_dst (N := 8) rfl ?_); refine bE_ 8 #[.int .u8 0, .int .i64 0, .string (⟨#[]⟩ : BA), .string (⟨#[]⟩ : BA), .string (⟨#[]⟩ : BA), .int .u64 0] 117 ?_; intro gb190 hg w21 hbox hb; have n0_ := aK_ (bB (bX_ BK186.out) hb); have n1_ := aK_ (wT (bS1_ GE186.out) hb); have n2_ := aK_ (hbox); have n3_ := aK_ ((by rw [hg]; exact (wZ (bS1_ GE186.out)) : w.heap.size ≤ gb190)); have n4_ := n3_; have n5_ := aK_ ((by rw [hg]; exact Nat.ne_of_lt (blk_lt (g := gb186) (o := .cells #[.int .i64 a1_0, .int .i64 a1_1, .int .i64 a1_2, .int .i64 a1_3, .int .i64 a1_4, .int .i64 a1_5, .int .i64 a1_6, .int .i64 a1_7, .int .i64 a1_8] 47 (0, 0)) (bX_ BK186.out)) : gb186 ≠ gb190)); have n6_ := aK_ ((by rw [hg]; exact Nat.ne_of_gt (blk_lt (g := gb186) (o := .cells #[.int .i64 a1_0, .int .i64 a1_1, .int .i64 a1_2, .int .i64 a1_3, .int .i64 a1_4, .int .i64 a1_5, .int .i64 a1_6, .int .i64 a1_7, .int .i64 a1_8] 47 (0, 0)) (bX_ BK186.out)) : gb190 ≠ gb186)); clear BK186; clear HB; have BK186 := n0_; have HB := n1_; have BK190 := n2_; have GW190 := n3_; have GE190 := n4_; have NB186_190 := n5_; have NB190_186 := n6_; clear n0_ n1_ n2_ n3_ n4_ n5_ n6_; clear hb hbox hg; have hnb22 := NB190_186.out; have hnc22 := NB186_190.out; have hz23 := cq6_ BK190.out; have hz24 := cq9_ BK186.out) | ((with_reducible refine gate_callee (f := 101) rfl ?_); refine goesL_ (some 31) rfl rfl Try.func101 (by kernel_rfl) rfl #[.agg #[.int .u8 ((rd_T117 l0 x25_2).f0), .int .i64 ((rd_T117 l0 x25_2).f1), .string ((rd_T117 l0 x25_2).f2), .string ((rd_T117 l0 x25_2).f3), .string ((rd_T117 l0 x25_2).f4), .int .u64 ((rd_T117 l0 x25_2).f5)], .agg #[.int .i64 a1_0, .int .i64 a1_1, .int .i64 a1_2, .int .i64 a1_3, .int .i64 a1_4, .int .i64 a1_5, .int .i64 a1_6, .int .i64 a1_7, .int .i64 a1_8]] rfl mS_ ?_; (with_reducible refine (msg_Check.calls k2 ((rd_T117 l0 x25_2).f0) ((rd_T117 l0 x25_2).f1) ((rd_T117 l0 x25_2).f2) ((rd_T117 l0 x25_2).f3) ((rd_T117 l0 x25_2).f4) ((rd_T117 l0 x25_2).f5) a1_0 a1_1 a1_2 a1_3 a1_4 a1_5 a1_6 a1_7 a1_8 t191 _ A19.out).mono ?_); rintro e w25 ⟨rfl, hb⟩; refine ⟨_, rfl, ?_⟩; have n0_ := aK_ (bB (g := gb186) (o := .cells #[.int .i64 a1_0, .int .i64 a1_1, .int .i64 a1_2, .int .i64 a1_3, .int .i64 a1_4, .int .i64 a1_5, .int .i64 a1_6, .int .i64 a1_7, .int .i64 a1_8] 47 (0, 0)) (by (with_reducible repeat (first | refine bN ?_ _ | refine bD ?_ | refine bA ?_ _)); refine bR ?_ NB186_190.out _; (with_reducible repeat (first | refine bN ?_ _ | refine bD ?_ | refine bA ?_ _)); refine bR ?_ NB186_190.out _; (with_reducible repeat (first | refine bN ?_ _ | refine bD ?_ | refine bA ?_ _)); refine bR ?_ NB186_190.out _; (with_reducible repeat (first | refine bN ?_ _ | refine bD ?_ | refine bA ?_ _)); refine bR ?_ NB186_190.out _; (with_reducible repeat (first | refine bN ?_ _ | refine bD ?_ | refine bA ?_ _)); refine bR ?_ NB186_190.out _; (with_reducible repeat (first | refine bN ?_ _ | refine bD ?_ | refine bA ?_ _)); refine bR ?_ NB186_190.out _; (with_reducible repeat (first | refine bN ?_ _ | refine bD ?_ | refine bA ?_ _)); exact BK186.out) hb); have n1_ := aK_ (bB (g := gb190) (o := .cells #[.int .u8 ((rd_T117 l0 x25_2).f0), .int .i64 ((rd_T117 l0 x25_2).f1), .string ((rd_T117 l0 x25_2).f2), .string ((rd_T117 l0 x25_2).f3), .string ((rd_T117 l0 x25_2).f4), .int .u64 ((rd_T117 l0 x25_2).f5)] 117 (0, 0)) (by (with_reducible repeat (first | refine bN ?_ _ | refine bD ?_ | refine bA ?_ _)); refine bP (cs := #[.int .u8 ((rd_T117 l0 x25_2).f0), .int .i64 ((rd_T117 l0 x25_2).f1), .string ((rd_T117 l0 x25_2).f2), .string ((rd_T117 l0 x25_2).f3), .string ((rd_T117 l0 x25_2).f4), .int .u64 0]) ?_ 5 _ rfl; (with_reducible repeat (first | refine bN ?_ _ | refine bD ?_ | refine bA ?_ _)); refine bP (cs := #[.int .u8 ((rd_T117 l0 x25_2).f0), .int .i64 ((rd_T117 l0 x25_2).f1), .string ((rd_T117 l0 x25_2).f2), .string ((rd_T117 l0 x25_2).f3), .string (⟨#[]⟩ : BA), .int .u64 0]) ?_ 4 _ rfl; (with_reducible repeat (first | refine bN ?_ _ | refine bD ?_ | refine bA ?_ _)); refine bP (cs := #[.int .u8 ((rd_T117 l0 x25_2).f0), .int .i64 ((rd_T117 l0 x25_2).f1), .string ((rd_T117 l0 x25_2).f2), .string (⟨#[]⟩ : BA), .string (⟨#[]⟩ : BA), .int .u64 0]) ?_ 3 _ rfl; (with_reducible repeat (first | refine bN ?_ _ | refine bD ?_ | refine bA ?_ _)); refine bP (cs := #[.int .u8 ((rd_T117 l0 x25_2).f0), .int .i64 ((rd_T117 l0 x25_2).f1), .string (⟨#[]⟩ : BA), .string (⟨#[]⟩ : BA), .string (⟨#[]⟩ : BA), .int .u64 0]) ?_ 2 _ rfl; (with_reducible repeat (first | refine bN ?_ _ | refine bD ?_ | refine bA ?_ _)); refine bP (cs := #[.int .u8 ((rd_T117 l0 x25_2).f0), .int .i64 0, .string (⟨#[]⟩ : BA), .string (⟨#[]⟩ : BA), .string (⟨#[]⟩ : BA), .int .u64 0]) ?_ 1 _ rfl; (with_reducible repeat (first | refine bN ?_ _ | refine bD ?_ | refine bA ?_ _)); refine bP (cs := #[.int .u8 0, .int .i64 0, .string (⟨#[]⟩ : BA), .string (⟨#[]⟩ : BA), .string (⟨#[]⟩ : BA), .int .u64 0]) ?_ 0 _ rfl; (with_reducible repeat (first | refine bN ?_ _ | refine bD ?_ | refine bA ?_ _)); exact BK190.out) hb); have n2_ := aK_ (wT (bS2_ GE186.out GE190.out) hb); clear BK186; clear BK190; clear HB; have BK186 := n0_; have BK190 := n1_; have HB := n2_; clear n0_ n1_ n2_; (try clear hb); (try clear hb2); (try clear hk); (try clear hi)))
     go_roundg k2
     case measure => have := HK1.out; have := HK2.out; omega
     case rel => exact ⟨(wrap64 (x25_2 + 1)), rZ_, H', ⟨by have := HK1.out; have := HK2.out; omega⟩, ⟨bX_ BK186.out⟩, ⟨bS2_ GE186.out GE190.out⟩⟩
    rw [if_neg c20] at H
    have c20b0 := beq_eq_false_iff_ne.mpr c20
    have c20b1 := bne_iff_ne.mpr c20
    obtain rfl := Option.some.inj H
    have p189 : 0 ≤ (x25_2 : Int) := pD_
    have q189 : x25_2 < (l0.length : Int) := pD_
    obtain ⟨ad189, e189, hx189_0, hx189_1, hx189_2, hx189_3, hx189_4, hx189_5⟩ := at_T117 HR0.out x25_2 p189 q189
    cases e189
    replace hx189_0 := cB_ hx189_0
    replace hx189_1 := cB_ hx189_1
    replace hx189_2 := cB_ hx189_2
    replace hx189_3 := cB_ hx189_3
    replace hx189_4 := cB_ hx189_4
    replace hx189_5 := cB_ hx189_5
    replace p189 := eq_true p189
    replace q189 := eq_true q189
    go_wp2_with (first | ((with_reducible refine gate_dst (N := 8) rfl ?_); refine bE_ 8 #[.int .u8 0, .int .i64 0, .string (⟨#[]⟩ : BA), .string (⟨#[]⟩ : BA), .string (⟨#[]⟩ : BA), .int .u64 0] 117 ?_; intro gb190 hg w26 hbox hb; have n0_ := aK_ (bB (bX_ BK186.out) hb); have n1_ := aK_ (wT (bS1_ GE186.out) hb); have n2_ := aK_ (hbox); have n3_ := aK_ ((by rw [hg]; exact (wZ (bS1_ GE186.out)) : w.heap.size ≤ gb190)); have n4_ := n3_; have n5_ := aK_ ((by rw [hg]; exact Nat.ne_of_lt (blk_lt (g := gb186) (o := .cells #[.int .i64 a1_0, .int .i64 a1_1, .int .i64 a1_2, .int .i64 a1_3, .int .i64 a1_4, .int .i64 a1_5, .int .i64 a1_6, .int .i64 a1_7, .int .i64 a1_8] 47 (0, 0)) (bX_ BK186.out)) : gb186 ≠ gb190)); have n6_ := aK_ ((by rw [hg]; exact Nat.ne_of_gt (blk_lt (g := gb186) (o := .cells #[.int .i64 a1_0, .int .i64 a1_1, .int .i64 a1_2, .int .i64 a1_3, .int .i64 a1_4, .int .i64 a1_5, .int .i64 a1_6, .int .i64 a1_7, .int .i64 a1_8] 47 (0, 0)) (bX_ BK186.out)) : gb190 ≠ gb186)); clear BK186; clear HB; have BK186 := n0_; have HB := n1_; have BK190 := n2_; have GW190 := n3_; have GE190 := n4_; have NB186_190 := n5_; have NB190_186 := n6_; clear n0_ n1_ n2_ n3_ n4_ n5_ n6_; clear hb hbox hg; have hnb27 := NB190_186.out; have hnc27 := NB186_190.out; have hz28 := cq6_ BK190.out; have hz29 := cq9_ BK186.out) | ((with_reducible refine gate_callee (f := 101) rfl ?_); refine goesL_ (some 31) rfl rfl Try.func101 (by kernel_rfl) rfl #[.agg #[.int .u8 ((rd_T117 l0 x25_2).f0), .int .i64 ((rd_T117 l0 x25_2).f1), .string ((rd_T117 l0 x25_2).f2), .string ((rd_T117 l0 x25_2).f3), .string ((rd_T117 l0 x25_2).f4), .int .u64 ((rd_T117 l0 x25_2).f5)], .agg #[.int .i64 a1_0, .int .i64 a1_1, .int .i64 a1_2, .int .i64 a1_3, .int .i64 a1_4, .int .i64 a1_5, .int .i64 a1_6, .int .i64 a1_7, .int .i64 a1_8]] rfl mS_ ?_; (with_reducible refine (msg_Check.calls k2 ((rd_T117 l0 x25_2).f0) ((rd_T117 l0 x25_2).f1) ((rd_T117 l0 x25_2).f2) ((rd_T117 l0 x25_2).f3) ((rd_T117 l0 x25_2).f4) ((rd_T117 l0 x25_2).f5) a1_0 a1_1 a1_2 a1_3 a1_4 a1_5 a1_6 a1_7 a1_8 t191 _ A19.out).mono ?_); rintro e w30 ⟨rfl, hb⟩; refine ⟨_, rfl, ?_⟩; have n0_ := aK_ (bB (g := gb186) (o := .cells #[.int .i64 a1_0, .int .i64 a1_1, .int .i64 a1_2, .int .i64 a1_3, .int .i64 a1_4, .int .i64 a1_5, .int .i64 a1_6, .int .i64 a1_7, .int .i64 a1_8] 47 (0, 0)) (by (with_reducible repeat (first | refine bN ?_ _ | refine bD ?_ | refine bA ?_ _)); refine bR ?_ NB186_190.out _; (with_reducible repeat (first | refine bN ?_ _ | refine bD ?_ | refine bA ?_ _)); refine bR ?_ NB186_190.out _; (with_reducible repeat (first | refine bN ?_ _ | refine bD ?_ | refine bA ?_ _)); refine bR ?_ NB186_190.out _; (with_reducible repeat (first | refine bN ?_ _ | refine bD ?_ | refine bA ?_ _)); refine bR ?_ NB186_190.out _; (with_reducible repeat (first | refine bN ?_ _ | refine bD ?_ | refine bA ?_ _)); refine bR ?_ NB186_190.out _; (with_reducible repeat (first | refine bN ?_ _ | refine bD ?_ | refine bA ?_ _)); refine bR ?_ NB186_190.out _; (with_reducible repeat (first | refine bN ?_ _ | refine bD ?_ | refine bA ?_ _)); exact BK186.out) hb); have n1_ := aK_ (bB (g := gb190) (o := .cells #[.int .u8 ((rd_T117 l0 x25_2).f0), .int .i64 ((rd_T117 l0 x25_2).f1), .string ((rd_T117 l0 x25_2).f2), .string ((rd_T117 l0 x25_2).f3), .string ((rd_T117 l0 x25_2).f4), .int .u64 ((rd_T117 l0 x25_2).f5)] 117 (0, 0)) (by (with_reducible repeat (first | refine bN ?_ _ | refine bD ?_ | refine bA ?_ _)); refine bP (cs := #[.int .u8 ((rd_T117 l0 x25_2).f0), .int .i64 ((rd_T117 l0 x25_2).f1), .string ((rd_T117 l0 x25_2).f2), .string ((rd_T117 l0 x25_2).f3), .string ((rd_T117 l0 x25_2).f4), .int .u64 0]) ?_ 5 _ rfl; (with_reducible repeat (first | refine bN ?_ _ | refine bD ?_ | refine bA ?_ _)); refine bP (cs := #[.int .u8 ((rd_T117 l0 x25_2).f0), .int .i64 ((rd_T117 l0 x25_2).f1), .string ((rd_T117 l0 x25_2).f2), .string ((rd_T117 l0 x25_2).f3), .string (⟨#[]⟩ : BA), .int .u64 0]) ?_ 4 _ rfl; (with_reducible repeat (first | refine bN ?_ _ | refine bD ?_ | refine bA ?_ _)); refine bP (cs := #[.int .u8 ((rd_T117 l0 x25_2).f0), .int .i64 ((rd_T117 l0 x25_2).f1), .string ((rd_T117 l0 x25_2).f2), .string (⟨#[]⟩ : BA), .string (⟨#[]⟩ : BA), .int .u64 0]) ?_ 3 _ rfl; (with_reducible repeat (first | refine bN ?_ _ | refine bD ?_ | refine bA ?_ _)); refine bP (cs := #[.int .u8 ((rd_T117 l0 x25_2).f0), .int .i64 ((rd_T117 l0 x25_2).f1), .string (⟨#[]⟩ : BA), .string (⟨#[]⟩ : BA), .string (⟨#[]⟩ : BA), .int .u64 0]) ?_ 2 _ rfl; (with_reducible repeat (first | refine bN ?_ _ | refine bD ?_ | refine bA ?_ _)); refine bP (cs := #[.int .u8 ((rd_T117 l0 x25_2).f0), .int .i64 0, .string (⟨#[]⟩ : BA), .string (⟨#[]⟩ : BA), .string (⟨#[]⟩ : BA), .int .u64 0]) ?_ 1 _ rfl; (with_reducible repeat (first | refine bN ?_ _ | refine bD ?_ | refine bA ?_ _)); refine bP (cs := #[.int .u8 0, .int .i64 0, .string (⟨#[]⟩ : BA), .string (⟨#[]⟩ : BA), .string (⟨#[]⟩ : BA), .int .u64 0]) ?_ 0 _ rfl; (with_reducible repeat (first | refine bN ?_ _ | refine bD ?_ | refine bA ?_ _)); exact BK190.out) hb); have n2_ := aK_ (wT (bS2_ GE186.out GE190.out) hb); clear BK186; clear BK190; clear HB; have BK186 := n0_; have BK190 := n1_; have HB := n2_; clear n0_ n1_ n2_; (try clear hb); (try clear hb2); (try clear hk); (try clear hi)))
    go_ret
    exact ⟨eR_, bS2_ GE186.out GE190.out⟩
   rw [if_neg c18] at H
   exact absurd H (by simp)
  rw [if_neg c17] at H
  exact absurd H (by simp)
 rw [if_neg c16] at H
 have c16b0 := decide_eq_false c16
 clear c16
 obtain rfl := Option.some.inj H
 go_wp2
 go_ret
 exact ⟨eR_, bS1_ GE186.out⟩
end Go.Proofs.Ytljnlnbopohghaa.P
end
