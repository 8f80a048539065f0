/- Texts of one claim (laid by shake.py). -/
import Derived.Test.YtljnlnbopohghaaZPl4
import Derived.Test.YtljnlnbopohghaaZPl9
set_option linter.unusedVariables false
set_option linter.unusedSimpArgs false
section
namespace Go.Proofs.Ytljnlnbopohghaa.P
open Go.RowKit Go.Proofs.YtljnlnbopohghaaW.PrintWords Go.Proofs.YtljnlnbopohghaaW.PrintLast Go.Proofs.YtljnlnbopohghaaW.PrintMore Go.Proofs.Ytljnlnbopohghaa.Own
open Go.Proofs.YtljnlnbopohghaaW.PrintWords renaming blk_cell → bC, blk_frozen → bF, blk_drewN → bN, blk_alloc → bA, pw_below_drewN → wN, blk_drew → bD, below_drew1 → w1, below_set → wS, below_alloc → wA, blk_below → bB, below_step → wT, below_size → wZ
open List renaming setIfInBounds_toArray → sA1, set_cons_zero → sA2, set_cons_succ → sA3
attribute [local go_sem] max2_str max2_int min2_int max_two min_two max_three min_three max_four min_four   -- for this text's walks alone
attribute [local go_sem high] eqA103
mutual
def catchmentref24_Same.j0 : Nat → Bool → Int → Bool → ByteArray → List (S103) → Int → Bool → Int → Bool → ByteArray → List (S103) → Int → Bool → Option (Bool)
 | 0, _, _, _, _, _, _, _, _, _, _, _, _, _ => none
 | k + 1, x47, x378000, x378001, x378002, x378003, x378004, x378005, x379000, x379001, x379002, x379003, x379004, x379005 => if x47 = true then (some false) else (catchmentref24_Same.l0 k 0 x378000 x378001 x378002 x378003 x378004 x378005 x379000 x379001 x379002 x379003 x379004 x379005)
def catchmentref24_Same.l0 : Nat → Int → Int → Bool → ByteArray → List (S103) → Int → Bool → Int → Bool → ByteArray → List (S103) → Int → Bool → Option (Bool)
 | 0, _, _, _, _, _, _, _, _, _, _, _, _, _ => none
 | k + 1, x5, x378000, x378001, x378002, x378003, x378004, x378005, x379000, x379001, x379002, x379003, x379004, x379005 => if x5 < (x378003.length : Int) then (if 0 ≤ x5 then (if x5 < (x379003.length : Int) then (if (!((((rd_T103 x378003 x5).f0).toList) == (((rd_T103 x379003 x5).f0).toList)) || (!((((rd_T103 x378003 x5).f1).toList) == (((rd_T103 x379003 x5).f1).toList)))) = true then (some false) else (catchmentref24_Same.l0 k (wrap64 (x5 + 1)) x378000 x378001 x378002 x378003 x378004 x378005 x379000 x379001 x379002 x379003 x379004 x379005)) else (none)) else (none)) else (some true)
end
def catchmentref24_Same.f (k : Nat) (a0_0 : Int) (a0_1 : Bool) (a0_2 : BA) (l0_3 : List (S103)) (a0_4 : Int) (a0_5 : Bool) (a1_0 : Int) (a1_1 : Bool) (a1_2 : BA) (l1_3 : List (S103)) (a1_4 : Int) (a1_5 : Bool) : Option (Bool) := if a0_0 = a1_0 then (if (a0_1 != a1_1) = true then (catchmentref24_Same.j0 k true a0_0 a0_1 a0_2 l0_3 a0_4 a0_5 a1_0 a1_1 a1_2 l1_3 a1_4 a1_5) else (if a0_2.toList = a1_2.toList then (if a0_4 = a1_4 then (if (a0_5 != a1_5) = true then (catchmentref24_Same.j0 k true a0_0 a0_1 a0_2 l0_3 a0_4 a0_5 a1_0 a1_1 a1_2 l1_3 a1_4 a1_5) else (catchmentref24_Same.j0 k ((l0_3.length : Int) != (l1_3.length : Int)) a0_0 a0_1 a0_2 l0_3 a0_4 a0_5 a1_0 a1_1 a1_2 l1_3 a1_4 a1_5)) else (catchmentref24_Same.j0 k true a0_0 a0_1 a0_2 l0_3 a0_4 a0_5 a1_0 a1_1 a1_2 l1_3 a1_4 a1_5)) else (catchmentref24_Same.j0 k true a0_0 a0_1 a0_2 l0_3 a0_4 a0_5 a1_0 a1_1 a1_2 l1_3 a1_4 a1_5))) else (catchmentref24_Same.j0 k true a0_0 a0_1 a0_2 l0_3 a0_4 a0_5 a1_0 a1_1 a1_2 l1_3 a1_4 a1_5)
set_option maxHeartbeats 8000000 in
set_option maxRecDepth 100000 in
theorem catchmentref24_Same.calls (k : Nat) (a0_0 : Int) (a0_1 : Bool) (a0_2 : BA) (A0_3 : Option Addr) (c0_3 : Nat) (l0_3 : List (S103)) (a0_4 : Int) (a0_5 : Bool) (a1_0 : Int) (a1_1 : Bool) (a1_2 : BA) (A1_3 : Option Addr) (c1_3 : Nat) (l1_3 : List (S103)) (a1_4 : Int) (a1_5 r : Bool) (w : World) (hr0_3 : Kd.C k103 w A0_3 l0_3.length l0_3) (hc0_3 : l0_3.length ≤ c0_3) (hr1_3 : Kd.C k103 w A1_3 l1_3.length l1_3) (hc1_3 : l1_3.length ≤ c1_3) (h : catchmentref24_Same.f k a0_0 a0_1 a0_2 l0_3 a0_4 a0_5 a1_0 a1_1 a1_2 l1_3 a1_4 a1_5 = some r) :
  Calls Try.prog 32 #[.agg #[.int .i64 a0_0, .bool a0_1, .string a0_2, .slice A0_3 l0_3.length c0_3, .int .i64 a0_4, .bool a0_5], .agg #[.int .i64 a1_0, .bool a1_1, .string a1_2, .slice A1_3 l1_3.length c1_3, .int .i64 a1_4, .bool a1_5]] w fun e w' => e = .returned (.bool r) ∧ Below w.heap.size w w' := by
 have hu59 := Try.underlying59
 have hu103 := Try.underlying103
 have HR0_3 := aK_ hr0_3
 have HC0_3 := aK_ hc0_3
 clear hr0_3 hc0_3
 have HR1_3 := aK_ hr1_3
 have HC1_3 := aK_ hc1_3
 clear hr1_3 hc1_3
 have HB := aK_ (Below.refl w.heap.size w)
 have H : (if a0_0 = a1_0 then (if (a0_1 != a1_1) = true then (catchmentref24_Same.j0 k true a0_0 a0_1 a0_2 l0_3 a0_4 a0_5 a1_0 a1_1 a1_2 l1_3 a1_4 a1_5) else (if a0_2.toList = a1_2.toList then (if a0_4 = a1_4 then (if (a0_5 != a1_5) = true then (catchmentref24_Same.j0 k true a0_0 a0_1 a0_2 l0_3 a0_4 a0_5 a1_0 a1_1 a1_2 l1_3 a1_4 a1_5) else (catchmentref24_Same.j0 k ((l0_3.length : Int) != (l1_3.length : Int)) a0_0 a0_1 a0_2 l0_3 a0_4 a0_5 a1_0 a1_1 a1_2 l1_3 a1_4 a1_5)) else (catchmentref24_Same.j0 k true a0_0 a0_1 a0_2 l0_3 a0_4 a0_5 a1_0 a1_1 a1_2 l1_3 a1_4 a1_5)) else (catchmentref24_Same.j0 k true a0_0 a0_1 a0_2 l0_3 a0_4 a0_5 a1_0 a1_1 a1_2 l1_3 a1_4 a1_5))) else (catchmentref24_Same.j0 k true a0_0 a0_1 a0_2 l0_3 a0_4 a0_5 a1_0 a1_1 a1_2 l1_3 a1_4 a1_5)) = some r := h
 clear h
 have HC3 := aK_ H
 clear H
 go_enter Try.func32, Try.ntmps32
 go_upto_region 1 with (first | ((with_reducible refine gate_dst (N := 2) rfl ?_); (try (refine gate_guard (by rfl) ?_; dsimp only)); refine bE_ 2 #[.int .i64 a0_0, .bool a0_1, .string a0_2, .slice A0_3 l0_3.length c0_3, .int .i64 a0_4, .bool a0_5] 59 ?_; intro gb377 hg w4 hbox hb; have BK377 := aK_ (hbox); have GW377 := aK_ (gE_ hg); replace HB := aK_ (wT bW_ hb); have GE377 := GW377; clear hb hbox hg) | ((with_reducible refine gate_dst (N := 3) rfl ?_); (try (refine gate_guard (by rfl) ?_; dsimp only)); refine bE_ 3 #[.int .i64 a1_0, .bool a1_1, .string a1_2, .slice A1_3 l1_3.length c1_3, .int .i64 a1_4, .bool a1_5] 59 ?_; intro gb378 hg w5 hbox hb; have n0_ := aK_ (bB (bX_ BK377.out) hb); have n1_ := aK_ (wT (bS1_ GE377.out) hb); have n2_ := aK_ (hbox); have n3_ := aK_ ((by rw [hg]; exact (wZ (bS1_ GE377.out)) : w.heap.size ≤ gb378)); have n4_ := n3_; have n5_ := aK_ ((by rw [hg]; exact Nat.ne_of_lt (blk_lt (g := gb377) (o := .cells #[.int .i64 a0_0, .bool a0_1, .string a0_2, .slice A0_3 l0_3.length c0_3, .int .i64 a0_4, .bool a0_5] 59 (0, 0)) (bX_ BK377.out)) : gb377 ≠ gb378)); have n6_ := aK_ ((by rw [hg]; exact Nat.ne_of_gt (blk_lt (g := gb377) (o := .cells #[.int .i64 a0_0, .bool a0_1, .string a0_2, .slice A0_3 l0_3.length c0_3, .int .i64 a0_4, .bool a0_5] 59 (0, 0)) (bX_ BK377.out)) : gb378 ≠ gb377)); clear BK377; clear HB; have BK377 := n0_; have HB := n1_; have BK378 := n2_; have GW378 := n3_; have GE378 := n4_; have NB377_378 := n5_; have NB378_377 := n6_; clear n0_ n1_ n2_ n3_ n4_ n5_ n6_; clear hb hbox hg))
 repeat (go_quiet (first | ((with_reducible refine gate_dst (N := 2) rfl ?_); (try (refine gate_guard (by rfl) ?_; dsimp only)); refine bE_ 2 #[.int .i64 a0_0, .bool a0_1, .string a0_2, .slice A0_3 l0_3.length c0_3, .int .i64 a0_4, .bool a0_5] 59 ?_; intro gb377 hg w4 hbox hb; have BK377 := aK_ (hbox); have GW377 := aK_ (gE_ hg); replace HB := aK_ (wT bW_ hb); have GE377 := GW377; clear hb hbox hg) | ((with_reducible refine gate_dst (N := 3) rfl ?_); (try (refine gate_guard (by rfl) ?_; dsimp only)); refine bE_ 3 #[.int .i64 a1_0, .bool a1_1, .string a1_2, .slice A1_3 l1_3.length c1_3, .int .i64 a1_4, .bool a1_5] 59 ?_; intro gb378 hg w5 hbox hb; have n0_ := aK_ (bB (bX_ BK377.out) hb); have n1_ := aK_ (wT (bS1_ GE377.out) hb); have n2_ := aK_ (hbox); have n3_ := aK_ ((by rw [hg]; exact (wZ (bS1_ GE377.out)) : w.heap.size ≤ gb378)); have n4_ := n3_; have n5_ := aK_ ((by rw [hg]; exact Nat.ne_of_lt (blk_lt (g := gb377) (o := .cells #[.int .i64 a0_0, .bool a0_1, .string a0_2, .slice A0_3 l0_3.length c0_3, .int .i64 a0_4, .bool a0_5] 59 (0, 0)) (bX_ BK377.out)) : gb377 ≠ gb378)); have n6_ := aK_ ((by rw [hg]; exact Nat.ne_of_gt (blk_lt (g := gb377) (o := .cells #[.int .i64 a0_0, .bool a0_1, .string a0_2, .slice A0_3 l0_3.length c0_3, .int .i64 a0_4, .bool a0_5] 59 (0, 0)) (bX_ BK377.out)) : gb378 ≠ gb377)); clear BK377; clear HB; have BK377 := n0_; have HB := n1_; have BK378 := n2_; have GW378 := n3_; have GE378 := n4_; have NB377_378 := n5_; have NB378_377 := n6_; clear n0_ n1_ n2_ n3_ n4_ n5_ n6_; clear hb hbox hg)); go_upto_region 1 with (first | ((with_reducible refine gate_dst (N := 2) rfl ?_); (try (refine gate_guard (by rfl) ?_; dsimp only)); refine bE_ 2 #[.int .i64 a0_0, .bool a0_1, .string a0_2, .slice A0_3 l0_3.length c0_3, .int .i64 a0_4, .bool a0_5] 59 ?_; intro gb377 hg w4 hbox hb; have BK377 := aK_ (hbox); have GW377 := aK_ (gE_ hg); replace HB := aK_ (wT bW_ hb); have GE377 := GW377; clear hb hbox hg) | ((with_reducible refine gate_dst (N := 3) rfl ?_); (try (refine gate_guard (by rfl) ?_; dsimp only)); refine bE_ 3 #[.int .i64 a1_0, .bool a1_1, .string a1_2, .slice A1_3 l1_3.length c1_3, .int .i64 a1_4, .bool a1_5] 59 ?_; intro gb378 hg w5 hbox hb; have n0_ := aK_ (bB (bX_ BK377.out) hb); have n1_ := aK_ (wT (bS1_ GE377.out) hb); have n2_ := aK_ (hbox); have n3_ := aK_ ((by rw [hg]; exact (wZ (bS1_ GE377.out)) : w.heap.size ≤ gb378)); have n4_ := n3_; have n5_ := aK_ ((by rw [hg]; exact Nat.ne_of_lt (blk_lt (g := gb377) (o := .cells #[.int .i64 a0_0, .bool a0_1, .string a0_2, .slice A0_3 l0_3.length c0_3, .int .i64 a0_4, .bool a0_5] 59 (0, 0)) (bX_ BK377.out)) : gb377 ≠ gb378)); have n6_ := aK_ ((by rw [hg]; exact Nat.ne_of_gt (blk_lt (g := gb377) (o := .cells #[.int .i64 a0_0, .bool a0_1, .string a0_2, .slice A0_3 l0_3.length c0_3, .int .i64 a0_4, .bool a0_5] 59 (0, 0)) (bX_ BK377.out)) : gb378 ≠ gb377)); clear BK377; clear HB; have BK377 := n0_; have HB := n1_; have BK378 := n2_; have GW378 := n3_; have GE378 := n4_; have NB377_378 := n5_; have NB378_377 := n6_; clear n0_ n1_ n2_ n3_ n4_ n5_ n6_; clear hb hbox hg)))
 (try simp only [Act.put, sA1, sA2, sA3])
 go_cut [47] (fun v47 wc => ∃ (kq : Nat) (x47_2 : Bool), v47 = .bool x47_2 ∧ Aside0 (catchmentref24_Same.j0 kq x47_2 a0_0 a0_1 a0_2 l0_3 a0_4 a0_5 a1_0 a1_1 a1_2 l1_3 a1_4 a1_5 = some r) ∧ Aside0 (kq ≤ k) ∧ Aside0 (wc.heap[gb377]? = some (.cells #[.int .i64 a0_0, .bool a0_1, .string a0_2, (.slice A0_3 l0_3.length c0_3), .int .i64 a0_4, .bool a0_5] 59 (0, 0))) ∧ Aside0 (wc.heap[gb378]? = some (.cells #[.int .i64 a1_0, .bool a1_1, .string a1_2, (.slice A1_3 l1_3.length c1_3), .int .i64 a1_4, .bool a1_5] 59 (0, 0))) ∧ Aside0 (Below w.heap.size w wc))
 case first =>
  have H := HC3.out
  clear HC3
  by_cases c6 : a0_0 = a1_0
  ·rw [if_pos c6] at H
   have c6b0 := beq_iff_eq.mpr c6
   have c6b1 := bne_eq_false_iff_eq.mpr c6
   clear c6
   (first | rw [c6b0] | (simp only [i64_w, i32_w]; rw [c6b0]) | skip)
   by_cases c7 : (a0_1 != a1_1) = true
   ·rw [if_pos c7] at H
    have c7b0 : (a0_1 != a1_1) = true := c7
    (try (have c7b1 : decide (a0_1 = a1_1) = false := by simpa using c7))
    (try (have c7b2 : (a0_1 == a1_1) = false := by simpa using c7))
    (try (have c7b3 : ¬ (a0_1 = a1_1) := by simpa using c7))
    clear c7
    have H' := aK_ H; clear H
    have hnb8 := NB377_378.out
    have hnc8 := NB378_377.out
    have hz9 := cq6_ BK377.out
    have hz10 := cq6_ BK378.out
    go_wp2
    repeat (go_quiet (fail); try go_wp2)
    go_meet
    case rel => exact ⟨_, (true), rZ_, H', ⟨oM_⟩, ⟨bX_ BK377.out⟩, ⟨bX_ BK378.out⟩, ⟨bS2_ GE377.out GE378.out⟩⟩
   rw [if_neg c7] at H
   have c7b0 : (a0_1 != a1_1) = false := by simpa using c7
   (try (have c7b1 : decide (a0_1 = a1_1) = true := by simpa using c7))
   (try (have c7b2 : (a0_1 == a1_1) = true := by simpa using c7))
   clear c7
   by_cases c11 : a0_2.toList = a1_2.toList
   ·rw [if_pos c11] at H
    have c11b0 := beq_iff_eq.mpr c11
    have c11b1 := bne_eq_false_iff_eq.mpr c11
    clear c11
    by_cases c12 : a0_4 = a1_4
    ·rw [if_pos c12] at H
     have c12b0 := beq_iff_eq.mpr c12
     have c12b1 := bne_eq_false_iff_eq.mpr c12
     clear c12
     by_cases c13 : (a0_5 != a1_5) = true
     ·rw [if_pos c13] at H
      have c13b0 : (a0_5 != a1_5) = true := c13
      (try (have c13b1 : decide (a0_5 = a1_5) = false := by simpa using c13))
      (try (have c13b2 : (a0_5 == a1_5) = false := by simpa using c13))
      (try (have c13b3 : ¬ (a0_5 = a1_5) := by simpa using c13))
      clear c13
      have H' := aK_ H; clear H
      have hnb14 := NB377_378.out
      have hnc14 := NB378_377.out
      have hz15 := cq6_ BK377.out
      have hz16 := cq6_ BK378.out
      go_wp2
      repeat (go_quiet (fail); try go_wp2)
      go_meet
      case rel => exact ⟨_, (true), rZ_, H', ⟨oM_⟩, ⟨bX_ BK377.out⟩, ⟨bX_ BK378.out⟩, ⟨bS2_ GE377.out GE378.out⟩⟩
     rw [if_neg c13] at H
     have c13b0 : (a0_5 != a1_5) = false := by simpa using c13
     (try (have c13b1 : decide (a0_5 = a1_5) = true := by simpa using c13))
     (try (have c13b2 : (a0_5 == a1_5) = true := by simpa using c13))
     clear c13
     have H' := aK_ H; clear H
     have hnb17 := NB377_378.out
     have hnc17 := NB378_377.out
     have hz18 := cq6_ BK377.out
     have hz19 := cq6_ BK378.out
     go_wp2
     repeat (go_quiet (fail); try go_wp2)
     go_meet
     case rel => exact ⟨_, (((l0_3.length : Int) != (l1_3.length : Int))), rZ_, H', ⟨oM_⟩, ⟨bX_ BK377.out⟩, ⟨bX_ BK378.out⟩, ⟨bS2_ GE377.out GE378.out⟩⟩
    rw [if_neg c12] at H
    have c12b0 := beq_eq_false_iff_ne.mpr c12
    have c12b1 := bne_iff_ne.mpr c12
    have H' := aK_ H; clear H
    have hnb20 := NB377_378.out
    have hnc20 := NB378_377.out
    have hz21 := cq6_ BK377.out
    have hz22 := cq6_ BK378.out
    go_wp2
    repeat (go_quiet (fail); try go_wp2)
    go_meet
    case rel => exact ⟨_, (true), rZ_, H', ⟨oM_⟩, ⟨bX_ BK377.out⟩, ⟨bX_ BK378.out⟩, ⟨bS2_ GE377.out GE378.out⟩⟩
   rw [if_neg c11] at H
   have c11b0 := beq_eq_false_iff_ne.mpr c11
   have c11b1 := bne_iff_ne.mpr c11
   have H' := aK_ H; clear H
   have hnb23 := NB377_378.out
   have hnc23 := NB378_377.out
   have hz24 := cq6_ BK377.out
   have hz25 := cq6_ BK378.out
   go_wp2
   repeat (go_quiet (fail); try go_wp2)
   go_meet
   case rel => exact ⟨_, (true), rZ_, H', ⟨oM_⟩, ⟨bX_ BK377.out⟩, ⟨bX_ BK378.out⟩, ⟨bS2_ GE377.out GE378.out⟩⟩
  rw [if_neg c6] at H
  have c6b0 := beq_eq_false_iff_ne.mpr c6
  have c6b1 := bne_iff_ne.mpr c6
  (first | rw [c6b0] | (simp only [i64_w, i32_w]; rw [c6b0]) | skip)
  have H' := aK_ H; clear H
  have hnb26 := NB377_378.out
  have hnc26 := NB378_377.out
  have hz27 := cq6_ BK377.out
  have hz28 := cq6_ BK378.out
  go_wp2
  repeat (go_quiet (fail); try go_wp2)
  go_meet
  case rel => exact ⟨_, (true), rZ_, H', ⟨oM_⟩, ⟨bX_ BK377.out⟩, ⟨bX_ BK378.out⟩, ⟨bS2_ GE377.out GE378.out⟩⟩
 clear HC3
 try clear c1
 try clear c2
 try clear p2
 try clear c3
 try clear c6
 try clear c6b0
 try clear c6b1
 try clear c7b0
 try clear c7b1
 try clear c7b2
 try clear c8
 try clear c11
 try clear c11b0
 try clear c11b1
 try clear c12
 try clear c12b0
 try clear c12b1
 try clear c13b0
 try clear c13b1
 try clear c13b2
 try clear c14
 try clear c17
 try clear c20
 try clear c23
 try clear c26
 try clear hz10
 try clear hz15
 try clear hz16
 try clear hz18
 try clear hz19
 try clear hz21
 try clear hz22
 try clear hz24
 try clear hz25
 try clear hz27
 try clear hz28
 try clear hz9
 try clear hz10
 try clear hz15
 try clear hz16
 try clear hz18
 try clear hz19
 try clear hz21
 try clear hz22
 try clear hz24
 try clear hz25
 try clear hz27
 try clear hz28
 try clear hz9
 obtain ⟨kq, x47_2, rfl, HA, HJ2, BK377, BK378, HB⟩ := hcut
 cases kq with
 | zero => exact absurd HA.out (by simp [catchmentref24_Same.j0])
 | succ kj2 => ?_
 have H := HA.out
 clear HA
 simp only [catchmentref24_Same.j0] at H
 by_cases c29 : x47_2 = true
 ·subst c29
  have H1 : (some false) = some r := by rw [if_pos rfl] at H; exact H
  clear H
  have H := H1
  clear H1
  obtain rfl := Option.some.inj H
  go_wp2
  repeat (go_quiet (fail); try go_wp2)
  go_ret
  exact ⟨eR_, bS2_ GE377.out GE378.out⟩
 replace c29 := Bool.eq_false_iff.mpr c29
 subst c29
 have H1 : (catchmentref24_Same.l0 kj2 0 a0_0 a0_1 a0_2 l0_3 a0_4 a0_5 a1_0 a1_1 a1_2 l1_3 a1_4 a1_5) = some r := by rw [if_neg (show ¬ (false = true) by decide)] at H; exact H
 clear H
 have H := H1
 clear H1
 have H' := aK_ H; clear H
 go_wp2
 repeat (go_quiet (fail); try go_wp2)
 go_loopg [5] kj2 (fun kq v5 w' => ∃ (x5_2 : Int), v5 = .int .i64 x5_2 ∧ Aside0 (catchmentref24_Same.l0 kq x5_2 a0_0 a0_1 a0_2 l0_3 a0_4 a0_5 a1_0 a1_1 a1_2 l1_3 a1_4 a1_5 = some r) ∧ Aside0 (kq ≤ kj2) ∧ Aside0 (w'.heap[gb377]? = some (.cells #[.int .i64 a0_0, .bool a0_1, .string a0_2, (.slice A0_3 l0_3.length c0_3), .int .i64 a0_4, .bool a0_5] 59 (0, 0))) ∧ Aside0 (w'.heap[gb378]? = some (.cells #[.int .i64 a1_0, .bool a1_1, .string a1_2, (.slice A1_3 l1_3.length c1_3), .int .i64 a1_4, .bool a1_5] 59 (0, 0))) ∧ Aside0 (Below w.heap.size w w'))
 case atStart => exact ⟨(0), rZ_, H', ⟨Nat.le_refl _⟩, ⟨bX_ BK377.out⟩, ⟨bX_ BK378.out⟩, ⟨bS2_ GE377.out GE378.out⟩⟩
 clear H'
 try clear c1
 try clear c2
 try clear p2
 try clear c3
 try clear c6
 try clear c6b0
 try clear c6b1
 try clear c7b0
 try clear c7b1
 try clear c7b2
 try clear c8
 try clear c11
 try clear c11b0
 try clear c11b1
 try clear c12
 try clear c12b0
 try clear c12b1
 try clear c13b0
 try clear c13b1
 try clear c13b2
 try clear c14
 try clear c17
 try clear c20
 try clear c23
 try clear c26
 try clear c29
 try clear hz10
 try clear hz15
 try clear hz16
 try clear hz18
 try clear hz19
 try clear hz21
 try clear hz22
 try clear hz24
 try clear hz25
 try clear hz27
 try clear hz28
 try clear hz9
 try clear hz10
 try clear hz15
 try clear hz16
 try clear hz18
 try clear hz19
 try clear hz21
 try clear hz22
 try clear hz24
 try clear hz25
 try clear hz27
 try clear hz28
 try clear hz9
 try clear p2
 obtain ⟨x5_2, rfl, HA, HK2, BK377, BK378, HB⟩ := hrel
 cases gk with
 | zero => exact absurd HA.out (by simp [catchmentref24_Same.l0])
 | succ k2 => ?_
 have H := HA.out
 clear HA
 simp only [catchmentref24_Same.l0] at H
 by_cases c30 : x5_2 < (l0_3.length : Int)
 ·rw [if_pos c30] at H
  have c30b0 := decide_eq_true c30
  clear c30
  by_cases c31 : 0 ≤ x5_2
  ·rw [if_pos c31] at H
   have c31b0 := decide_eq_true c31
   clear c31
   by_cases c32 : x5_2 < (l1_3.length : Int)
   ·rw [if_pos c32] at H
    have c32b0 := decide_eq_true c32
    clear c32
    by_cases c33 : (!((((rd_T103 l0_3 x5_2).f0).toList) == (((rd_T103 l1_3 x5_2).f0).toList)) || (!((((rd_T103 l0_3 x5_2).f1).toList) == (((rd_T103 l1_3 x5_2).f1).toList)))) = true
    ·rw [if_pos c33] at H
     have c33b0 : (!((((rd_T103 l0_3 x5_2).f0).toList) == (((rd_T103 l1_3 x5_2).f0).toList)) || (!((((rd_T103 l0_3 x5_2).f1).toList) == (((rd_T103 l1_3 x5_2).f1).toList)))) = true := c33
     clear c33
     obtain rfl := Option.some.inj H
     have hnb34 := NB377_378.out
     have hnc34 := NB378_377.out
     have hz35 := cq6_ BK377.out
     have p379 : 0 ≤ (x5_2 : Int) := pD_
     have q379 : x5_2 < (l0_3.length : Int) := pD_
     obtain ⟨ad379, e379, hx379_0, hx379_1⟩ := at_T103 HR0_3.out x5_2 p379 q379
     cases e379
     replace hx379_0 := cB_ hx379_0
     replace hx379_1 := cB_ hx379_1
     replace p379 := eq_true p379
     replace q379 := eq_true q379
     have hz36 := cq6_ BK378.out
     have p380 : 0 ≤ (x5_2 : Int) := pD_
     have q380 : x5_2 < (l1_3.length : Int) := pD_
     obtain ⟨ad380, e380, hx380_0, hx380_1⟩ := at_T103 HR1_3.out x5_2 p380 q380
     cases e380
     replace hx380_0 := cB_ hx380_0
     replace hx380_1 := cB_ hx380_1
     replace p380 := eq_true p380
     replace q380 := eq_true q380
     go_wp2
     repeat (go_quiet (fail); try go_wp2)
     go_ret
     exact ⟨eR_, bS2_ GE377.out GE378.out⟩
    rw [if_neg c33] at H
    have c33b0 : (!((((rd_T103 l0_3 x5_2).f0).toList) == (((rd_T103 l1_3 x5_2).f0).toList)) || (!((((rd_T103 l0_3 x5_2).f1).toList) == (((rd_T103 l1_3 x5_2).f1).toList)))) = false := by simpa using c33
    clear c33
    have H' := aK_ H; clear H
    have hnb37 := NB377_378.out
    have hnc37 := NB378_377.out
    have hz38 := cq6_ BK377.out
    have p379 : 0 ≤ (x5_2 : Int) := pD_
    have q379 : x5_2 < (l0_3.length : Int) := pD_
    obtain ⟨ad379, e379, hx379_0, hx379_1⟩ := at_T103 HR0_3.out x5_2 p379 q379
    cases e379
    replace hx379_0 := cB_ hx379_0
    replace hx379_1 := cB_ hx379_1
    replace p379 := eq_true p379
    replace q379 := eq_true q379
    have hz39 := cq6_ BK378.out
    have p380 : 0 ≤ (x5_2 : Int) := pD_
    have q380 : x5_2 < (l1_3.length : Int) := pD_
    obtain ⟨ad380, e380, hx380_0, hx380_1⟩ := at_T103 HR1_3.out x5_2 p380 q380
    cases e380
    replace hx380_0 := cB_ hx380_0
    replace hx380_1 := cB_ hx380_1
    replace p380 := eq_true p380
    replace q380 := eq_true q380
    go_wp2
    repeat (go_quiet (fail); try go_wp2)
    go_roundg k2
    case measure => have := HJ2.out; have := HK2.out; omega
    case rel => exact ⟨(wrap64 (x5_2 + 1)), rZ_, H', ⟨by have := HJ2.out; have := HK2.out; omega⟩, ⟨bX_ BK377.out⟩, ⟨bX_ BK378.out⟩, ⟨bS2_ GE377.out GE378.out⟩⟩
   rw [if_neg c32] at H
   exact absurd H (by simp)
  rw [if_neg c31] at H
  exact absurd H (by simp)
 rw [if_neg c30] at H
 have c30b0 := decide_eq_false c30
 clear c30
 obtain rfl := Option.some.inj H
 have hnb40 := NB377_378.out
 have hnc40 := NB378_377.out
 have hz41 := cq6_ BK377.out
 go_wp2
 repeat (go_quiet (fail); try go_wp2)
 go_ret
 exact ⟨eR_, bS2_ GE377.out GE378.out⟩
end Go.Proofs.Ytljnlnbopohghaa.P
end
