/- Texts of one claim (laid by shake.py). -/
import Derived.Test.YtljnlnbopohghaaZs3
import Derived.Test.YtljnlnbopohghaaZs4
set_option linter.unusedVariables false
set_option linter.unusedSimpArgs false
section
namespace Go.Proofs.Ytljnlnbopohghaa.P
open Go.RowKit Go.Proofs.YtljnlnbopohghaaW.PrintWords Go.Proofs.YtljnlnbopohghaaW.PrintLast Go.Proofs.YtljnlnbopohghaaW.PrintMore Go.Proofs.Ytljnlnbopohghaa.Own
open Go.Proofs.YtljnlnbopohghaaW.PrintWords renaming blk_cell → bC, blk_frozen → bF, blk_drewN → bN, blk_alloc → bA, pw_below_drewN → wN, blk_drew → bD, below_drew1 → w1, below_set → wS, below_alloc → wA, blk_below → bB, below_step → wT, below_size → wZ
open List renaming setIfInBounds_toArray → sA1, set_cons_zero → sA2, set_cons_succ → sA3
attribute [local go_sem] max2_str max2_int min2_int max_two min_two max_three min_three max_four min_four   -- for this text's walks alone
attribute [local go_sem high] eqA103
mutual
def catchmentref24_Same.j0 : Nat → Bool → Int → Bool → ByteArray → List (S103) → Int → Bool → Int → Bool → ByteArray → List (S103) → Int → Bool → Option (Bool)
 | 0, _, _, _, _, _, _, _, _, _, _, _, _, _ => none
 | k + 1, x47, x378000, x378001, x378002, x378003, x378004, x378005, x379000, x379001, x379002, x379003, x379004, x379005 => if x47 = true then (some false) else (catchmentref24_Same.l0 k 0 x378000 x378001 x378002 x378003 x378004 x378005 x379000 x379001 x379002 x379003 x379004 x379005)
def catchmentref24_Same.l0 : Nat → Int → Int → Bool → ByteArray → List (S103) → Int → Bool → Int → Bool → ByteArray → List (S103) → Int → Bool → Option (Bool)
 | 0, _, _, _, _, _, _, _, _, _, _, _, _, _ => none
 | k + 1, x5, x378000, x378001, x378002, x378003, x378004, x378005, x379000, x379001, x379002, x379003, x379004, x379005 => if x5 < (x378003.length : Int) then (if 0 ≤ x5 then (if x5 < (x379003.length : Int) then (if (!((((rd_T103 x378003 x5).f0).toList) == (((rd_T103 x379003 x5).f0).toList)) || (!((((rd_T103 x378003 x5).f1).toList) == (((rd_T103 x379003 x5).f1).toList)))) = true then (some false) else (catchmentref24_Same.l0 k (wrap64 (x5 + 1)) x378000 x378001 x378002 x378003 x378004 x378005 x379000 x379001 x379002 x379003 x379004 x379005)) else (none)) else (none)) else (some true)
end
def catchmentref24_Same.f (k : Nat) (a0_0 : Int) (a0_1 : Bool) (a0_2 : BA) (l0_3 : List (S103)) (a0_4 : Int) (a0_5 : Bool) (a1_0 : Int) (a1_1 : Bool) (a1_2 : BA) (l1_3 : List (S103)) (a1_4 : Int) (a1_5 : Bool) : Option (Bool) := if a0_0 = a1_0 then (if (a0_1 != a1_1) = true then (catchmentref24_Same.j0 k true a0_0 a0_1 a0_2 l0_3 a0_4 a0_5 a1_0 a1_1 a1_2 l1_3 a1_4 a1_5) else (if a0_2.toList = a1_2.toList then (if a0_4 = a1_4 then (if (a0_5 != a1_5) = true then (catchmentref24_Same.j0 k true a0_0 a0_1 a0_2 l0_3 a0_4 a0_5 a1_0 a1_1 a1_2 l1_3 a1_4 a1_5) else (catchmentref24_Same.j0 k ((l0_3.length : Int) != (l1_3.length : Int)) a0_0 a0_1 a0_2 l0_3 a0_4 a0_5 a1_0 a1_1 a1_2 l1_3 a1_4 a1_5)) else (catchmentref24_Same.j0 k true a0_0 a0_1 a0_2 l0_3 a0_4 a0_5 a1_0 a1_1 a1_2 l1_3 a1_4 a1_5)) else (catchmentref24_Same.j0 k true a0_0 a0_1 a0_2 l0_3 a0_4 a0_5 a1_0 a1_1 a1_2 l1_3 a1_4 a1_5))) else (catchmentref24_Same.j0 k true a0_0 a0_1 a0_2 l0_3 a0_4 a0_5 a1_0 a1_1 a1_2 l1_3 a1_4 a1_5)
set_option maxHeartbeats 8000000 in
set_option maxRecDepth 100000 in
theorem catchmentref24_Same.calls (k : Nat) (a0_0 : Int) (a0_1 : Bool) (a0_2 : BA) (A0_3 : Option Addr) (c0_3 : Nat) (l0_3 : List (S103)) (a0_4 : Int) (a0_5 : Bool) (a1_0 : Int) (a1_1 : Bool) (a1_2 : BA) (A1_3 : Option Addr) (c1_3 : Nat) (l1_3 : List (S103)) (a1_4 : Int) (a1_5 : Bool) (r : Bool) (w : World) (hr0_3 : Kd.C k103 w A0_3 l0_3.length l0_3) (hc0_3 : l0_3.length ≤ c0_3) (hr1_3 : Kd.C k103 w A1_3 l1_3.length l1_3) (hc1_3 : l1_3.length ≤ c1_3) (h : catchmentref24_Same.f k a0_0 a0_1 a0_2 l0_3 a0_4 a0_5 a1_0 a1_1 a1_2 l1_3 a1_4 a1_5 = some r) :
  Calls Try.prog 32 #[.agg #[.int .i64 a0_0, .bool a0_1, .string a0_2, .slice A0_3 l0_3.length c0_3, .int .i64 a0_4, .bool a0_5], .agg #[.int .i64 a1_0, .bool a1_1, .string a1_2, .slice A1_3 l1_3.length c1_3, .int .i64 a1_4, .bool a1_5]] w fun e w' => e = .returned (.bool r) ∧ Below w.heap.size w w' := by
 have hu59 := Try.underlying59
 have hu103 := Try.underlying103
 have HR0_3 := Aside0.mk hr0_3
 have HC0_3 := Aside0.mk hc0_3
 clear hr0_3 hc0_3
 have HR1_3 := Aside0.mk hr1_3
 have HC1_3 := Aside0.mk hc1_3
 clear hr1_3 hc1_3
 have HB := Aside0.mk (Below.refl w.heap.size w)
 have H : (if a0_0 = a1_0 then (if (a0_1 != a1_1) = true then (catchmentref24_Same.j0 k true a0_0 a0_1 a0_2 l0_3 a0_4 a0_5 a1_0 a1_1 a1_2 l1_3 a1_4 a1_5) else (if a0_2.toList = a1_2.toList then (if a0_4 = a1_4 then (if (a0_5 != a1_5) = true then (catchmentref24_Same.j0 k true a0_0 a0_1 a0_2 l0_3 a0_4 a0_5 a1_0 a1_1 a1_2 l1_3 a1_4 a1_5) else (catchmentref24_Same.j0 k ((l0_3.length : Int) != (l1_3.length : Int)) a0_0 a0_1 a0_2 l0_3 a0_4 a0_5 a1_0 a1_1 a1_2 l1_3 a1_4 a1_5)) else (catchmentref24_Same.j0 k true a0_0 a0_1 a0_2 l0_3 a0_4 a0_5 a1_0 a1_1 a1_2 l1_3 a1_4 a1_5)) else (catchmentref24_Same.j0 k true a0_0 a0_1 a0_2 l0_3 a0_4 a0_5 a1_0 a1_1 a1_2 l1_3 a1_4 a1_5))) else (catchmentref24_Same.j0 k true a0_0 a0_1 a0_2 l0_3 a0_4 a0_5 a1_0 a1_1 a1_2 l1_3 a1_4 a1_5)) = some r := h
 clear h
 have HC3 := Aside0.mk H
 clear H
 go_enter Try.func32, Try.ntmps32
 go_upto_region 1 with (first | ((with_reducible refine gate_dst (N := 2) rfl ?_); (try (refine gate_guard (by rfl) ?_; dsimp only)); refine box_event ?hg (N := 2) ?hd (cs := #[.int .i64 a0_0, .bool a0_1, .string a0_2, .slice A0_3 l0_3.length c0_3, .int .i64 a0_4, .bool a0_5]) (t := 59) ?hr ?_; (case hd => rfl); (case hg => rfl); (case hr => first | (go_simp; done) | (go_simp; rfl)); intro gb377 hg w4 hbox hb; have n0_ := Aside0.mk (wT bW_ hb); have n1_ := Aside0.mk (hbox); have n2_ := Aside0.mk ((by rw [hg]; exact (wZ bW_) : w.heap.size ≤ gb377)); have n3_ := n2_; clear HB; have HB := n0_; have BK377 := n1_; have GW377 := n2_; have GE377 := n3_; clear n0_ n1_ n2_ n3_; clear hb hbox hg) | ((with_reducible refine gate_dst (N := 3) rfl ?_); (try (refine gate_guard (by rfl) ?_; dsimp only)); refine box_event ?hg (N := 3) ?hd (cs := #[.int .i64 a1_0, .bool a1_1, .string a1_2, .slice A1_3 l1_3.length c1_3, .int .i64 a1_4, .bool a1_5]) (t := 59) ?hr ?_; (case hd => rfl); (case hg => rfl); (case hr => first | (go_simp; done) | (go_simp; rfl)); intro gb378 hg w5 hbox hb; have n0_ := Aside0.mk (bB (bX_ BK377.out) hb); have n1_ := Aside0.mk (wT (bS1_ GE377.out) hb); have n2_ := Aside0.mk (hbox); have n3_ := Aside0.mk ((by rw [hg]; exact (wZ (bS1_ GE377.out)) : w.heap.size ≤ gb378)); have n4_ := n3_; have n5_ := Aside0.mk ((by rw [hg]; exact Nat.ne_of_lt (blk_lt (g := gb377) (o := .cells #[.int .i64 a0_0, .bool a0_1, .string a0_2, .slice A0_3 l0_3.length c0_3, .int .i64 a0_4, .bool a0_5] 59 (0, 0)) (bX_ BK377.out)) : gb377 ≠ gb378)); have n6_ := Aside0.mk ((by rw [hg]; exact Nat.ne_of_gt (blk_lt (g := gb377) (o := .cells #[.int .i64 a0_0, .bool a0_1, .string a0_2, .slice A0_3 l0_3.length c0_3, .int .i64 a0_4, .bool a0_5] 59 (0, 0)) (bX_ BK377.out)) : gb378 ≠ gb377)); clear BK377; clear HB; have BK377 := n0_; have HB := n1_; have BK378 := n2_; have GW378 := n3_; have GE378 := n4_; have NB377_378 := n5_; have NB378_377 := n6_; clear n0_ n1_ n2_ n3_ n4_ n5_ n6_; clear hb hbox hg))
 repeat (go_quiet (first | ((with_reducible refine gate_dst (N := 2) rfl ?_); (try (refine gate_guard (by rfl) ?_; dsimp only)); refine box_event ?hg (N := 2) ?hd (cs := #[.int .i64 a0_0, .bool a0_1, .string a0_2, .slice A0_3 l0_3.length c0_3, .int .i64 a0_4, .bool a0_5]) (t := 59) ?hr ?_; (case hd => rfl); (case hg => rfl); (case hr => first | (go_simp; done) | (go_simp; rfl)); intro gb377 hg w4 hbox hb; have n0_ := Aside0.mk (wT bW_ hb); have n1_ := Aside0.mk (hbox); have n2_ := Aside0.mk ((by rw [hg]; exact (wZ bW_) : w.heap.size ≤ gb377)); have n3_ := n2_; clear HB; have HB := n0_; have BK377 := n1_; have GW377 := n2_; have GE377 := n3_; clear n0_ n1_ n2_ n3_; clear hb hbox hg) | ((with_reducible refine gate_dst (N := 3) rfl ?_); (try (refine gate_guard (by rfl) ?_; dsimp only)); refine box_event ?hg (N := 3) ?hd (cs := #[.int .i64 a1_0, .bool a1_1, .string a1_2, .slice A1_3 l1_3.length c1_3, .int .i64 a1_4, .bool a1_5]) (t := 59) ?hr ?_; (case hd => rfl); (case hg => rfl); (case hr => first | (go_simp; done) | (go_simp; rfl)); intro gb378 hg w5 hbox hb; have n0_ := Aside0.mk (bB (bX_ BK377.out) hb); have n1_ := Aside0.mk (wT (bS1_ GE377.out) hb); have n2_ := Aside0.mk (hbox); have n3_ := Aside0.mk ((by rw [hg]; exact (wZ (bS1_ GE377.out)) : w.heap.size ≤ gb378)); have n4_ := n3_; have n5_ := Aside0.mk ((by rw [hg]; exact Nat.ne_of_lt (blk_lt (g := gb377) (o := .cells #[.int .i64 a0_0, .bool a0_1, .string a0_2, .slice A0_3 l0_3.length c0_3, .int .i64 a0_4, .bool a0_5] 59 (0, 0)) (bX_ BK377.out)) : gb377 ≠ gb378)); have n6_ := Aside0.mk ((by rw [hg]; exact Nat.ne_of_gt (blk_lt (g := gb377) (o := .cells #[.int .i64 a0_0, .bool a0_1, .string a0_2, .slice A0_3 l0_3.length c0_3, .int .i64 a0_4, .bool a0_5] 59 (0, 0)) (bX_ BK377.out)) : gb378 ≠ gb377)); clear BK377; clear HB; have BK377 := n0_; have HB := n1_; have BK378 := n2_; have GW378 := n3_; have GE378 := n4_; have NB377_378 := n5_; have NB378_377 := n6_; clear n0_ n1_ n2_ n3_ n4_ n5_ n6_; clear hb hbox hg)); go_upto_region 1 with (first | ((with_reducible refine gate_dst (N := 2) rfl ?_); (try (refine gate_guard (by rfl) ?_; dsimp only)); refine box_event ?hg (N := 2) ?hd (cs := #[.int .i64 a0_0, .bool a0_1, .string a0_2, .slice A0_3 l0_3.length c0_3, .int .i64 a0_4, .bool a0_5]) (t := 59) ?hr ?_; (case hd => rfl); (case hg => rfl); (case hr => first | (go_simp; done) | (go_simp; rfl)); intro gb377 hg w4 hbox hb; have n0_ := Aside0.mk (wT bW_ hb); have n1_ := Aside0.mk (hbox); have n2_ := Aside0.mk ((by rw [hg]; exact (wZ bW_) : w.heap.size ≤ gb377)); have n3_ := n2_; clear HB; have HB := n0_; have BK377 := n1_; have GW377 := n2_; have GE377 := n3_; clear n0_ n1_ n2_ n3_; clear hb hbox hg) | ((with_reducible refine gate_dst (N := 3) rfl ?_); (try (refine gate_guard (by rfl) ?_; dsimp only)); refine box_event ?hg (N := 3) ?hd (cs := #[.int .i64 a1_0, .bool a1_1, .string a1_2, .slice A1_3 l1_3.length c1_3, .int .i64 a1_4, .bool a1_5]) (t := 59) ?hr ?_; (case hd => rfl); (case hg => rfl); (case hr => first | (go_simp; done) | (go_simp; rfl)); intro gb378 hg w5 hbox hb; have n0_ := Aside0.mk (bB (bX_ BK377.out) hb); have n1_ := Aside0.mk (wT (bS1_ GE377.out) hb); have n2_ := Aside0.mk (hbox); have n3_ := Aside0.mk ((by rw [hg]; exact (wZ (bS1_ GE377.out)) : w.heap.size ≤ gb378)); have n4_ := n3_; have n5_ := Aside0.mk ((by rw [hg]; exact Nat.ne_of_lt (blk_lt (g := gb377) (o := .cells #[.int .i64 a0_0, .bool a0_1, .string a0_2, .slice A0_3 l0_3.length c0_3, .int .i64 a0_4, .bool a0_5] 59 (0, 0)) (bX_ BK377.out)) : gb377 ≠ gb378)); have n6_ := Aside0.mk ((by rw [hg]; exact Nat.ne_of_gt (blk_lt (g := gb377) (o := .cells #[.int .i64 a0_0, .bool a0_1, .string a0_2, .slice A0_3 l0_3.length c0_3, .int .i64 a0_4, .bool a0_5] 59 (0, 0)) (bX_ BK377.out)) : gb378 ≠ gb377)); clear BK377; clear HB; have BK377 := n0_; have HB := n1_; have BK378 := n2_; have GW378 := n3_; have GE378 := n4_; have NB377_378 := n5_; have NB378_377 := n6_; clear n0_ n1_ n2_ n3_ n4_ n5_ n6_; clear hb hbox hg)))
 (try simp only [Act.put, sA1, sA2, sA3])
 go_cut [47] (fun v47 wc => ∃ (kq : Nat) (x47_2 : Bool), v47 = .bool x47_2 ∧ Aside0 (catchmentref24_Same.j0 kq x47_2 a0_0 a0_1 a0_2 l0_3 a0_4 a0_5 a1_0 a1_1 a1_2 l1_3 a1_4 a1_5 = some r) ∧ Aside0 (kq ≤ k) ∧ Aside0 (wc.heap[gb377]? = some (.cells #[.int .i64 a0_0, .bool a0_1, .string a0_2, (.slice A0_3 l0_3.length c0_3), .int .i64 a0_4, .bool a0_5] 59 (0, 0))) ∧ Aside0 (wc.heap[gb378]? = some (.cells #[.int .i64 a1_0, .bool a1_1, .string a1_2, (.slice A1_3 l1_3.length c1_3), .int .i64 a1_4, .bool a1_5] 59 (0, 0))) ∧ Aside0 (Below w.heap.size w wc))
 case first =>
  have H := HC3.out
  clear HC3
  by_cases c6 : a0_0 = a1_0
  ·rw [if_pos c6] at H
   have c6b0 : (a0_0 == a1_0) = true := beq_iff_eq.mpr c6
   have c6b1 : (a0_0 != a1_0) = false := bne_eq_false_iff_eq.mpr c6
   clear c6
   (first | rw [c6b0] | (simp only [i64_w, i32_w]; rw [c6b0]) | skip)
   by_cases c7 : (a0_1 != a1_1) = true
   ·rw [if_pos c7] at H
    have c7b0 : (a0_1 != a1_1) = true := c7
    (try (have c7b1 : decide (a0_1 = a1_1) = false := by simpa using c7))
    (try (have c7b2 : (a0_1 == a1_1) = false := by simpa using c7))
    (try (have c7b3 : ¬ (a0_1 = a1_1) := by simpa using c7))
    clear c7
    have H' := Aside0.mk H
    clear H
    have hnb8 := NB377_378.out
    have hnc8 := NB378_377.out
    have hcz9_0 := cz_ BK377.out 0
    have hcz9_1 := cz_ BK377.out 1
    have hcz9_2 := cz_ BK377.out 2
    have hcz9_3 := cz_ BK377.out 3
    have hcz9_4 := cz_ BK377.out 4
    have hcz9_5 := cz_ BK377.out 5
    have hfz9_0 := bF BK377.out 0
    have hfz9_1 := bF BK377.out 1
    have hfz9_2 := bF BK377.out 2
    have hfz9_3 := bF BK377.out 3
    have hfz9_4 := bF BK377.out 4
    have hfz9_5 := bF BK377.out 5
    have hcz10_0 := cz_ BK378.out 0
    have hcz10_1 := cz_ BK378.out 1
    have hcz10_2 := cz_ BK378.out 2
    have hcz10_3 := cz_ BK378.out 3
    have hcz10_4 := cz_ BK378.out 4
    have hcz10_5 := cz_ BK378.out 5
    have hfz10_0 := bF BK378.out 0
    have hfz10_1 := bF BK378.out 1
    have hfz10_2 := bF BK378.out 2
    have hfz10_3 := bF BK378.out 3
    have hfz10_4 := bF BK378.out 4
    have hfz10_5 := bF BK378.out 5
    go_wp2
    repeat (go_quiet (fail); try go_wp2)
    go_meet
    case rel => exact ⟨_, (true), (by first | rfl | (simp; done) | (simp [*]; done)), H', ⟨by first | omega | exact Nat.le_refl _⟩, ⟨by (with_reducible repeat (first | refine bN ?_ _ | refine bD ?_ | refine bA ?_ _)); exact BK377.out⟩, ⟨by (with_reducible repeat (first | refine bN ?_ _ | refine bD ?_ | refine bA ?_ _)); exact BK378.out⟩, ⟨by repeat (first | (with_reducible first | exact HB.out | apply wA | apply wN | apply w1 | refine wS ?_ GE377.out | refine wS ?_ GE378.out) | exact HB.out)⟩⟩
   ·rw [if_neg c7] at H
    have c7b0 : (a0_1 != a1_1) = false := by simpa using c7
    (try (have c7b1 : decide (a0_1 = a1_1) = true := by simpa using c7))
    (try (have c7b2 : (a0_1 == a1_1) = true := by simpa using c7))
    clear c7
    by_cases c11 : a0_2.toList = a1_2.toList
    ·rw [if_pos c11] at H
     have c11b0 : (a0_2.toList == a1_2.toList) = true := beq_iff_eq.mpr c11
     have c11b1 : (a0_2.toList != a1_2.toList) = false := bne_eq_false_iff_eq.mpr c11
     clear c11
     by_cases c12 : a0_4 = a1_4
     ·rw [if_pos c12] at H
      have c12b0 : (a0_4 == a1_4) = true := beq_iff_eq.mpr c12
      have c12b1 : (a0_4 != a1_4) = false := bne_eq_false_iff_eq.mpr c12
      clear c12
      by_cases c13 : (a0_5 != a1_5) = true
      ·rw [if_pos c13] at H
       have c13b0 : (a0_5 != a1_5) = true := c13
       (try (have c13b1 : decide (a0_5 = a1_5) = false := by simpa using c13))
       (try (have c13b2 : (a0_5 == a1_5) = false := by simpa using c13))
       (try (have c13b3 : ¬ (a0_5 = a1_5) := by simpa using c13))
       clear c13
       have H' := Aside0.mk H
       clear H
       have hnb14 := NB377_378.out
       have hnc14 := NB378_377.out
       have hcz15_0 := cz_ BK377.out 0
       have hcz15_1 := cz_ BK377.out 1
       have hcz15_2 := cz_ BK377.out 2
       have hcz15_3 := cz_ BK377.out 3
       have hcz15_4 := cz_ BK377.out 4
       have hcz15_5 := cz_ BK377.out 5
       have hfz15_0 := bF BK377.out 0
       have hfz15_1 := bF BK377.out 1
       have hfz15_2 := bF BK377.out 2
       have hfz15_3 := bF BK377.out 3
       have hfz15_4 := bF BK377.out 4
       have hfz15_5 := bF BK377.out 5
       have hcz16_0 := cz_ BK378.out 0
       have hcz16_1 := cz_ BK378.out 1
       have hcz16_2 := cz_ BK378.out 2
       have hcz16_3 := cz_ BK378.out 3
       have hcz16_4 := cz_ BK378.out 4
       have hcz16_5 := cz_ BK378.out 5
       have hfz16_0 := bF BK378.out 0
       have hfz16_1 := bF BK378.out 1
       have hfz16_2 := bF BK378.out 2
       have hfz16_3 := bF BK378.out 3
       have hfz16_4 := bF BK378.out 4
       have hfz16_5 := bF BK378.out 5
       go_wp2
       repeat (go_quiet (fail); try go_wp2)
       go_meet
       case rel => exact ⟨_, (true), (by first | rfl | (simp; done) | (simp [*]; done)), H', ⟨by first | omega | exact Nat.le_refl _⟩, ⟨by (with_reducible repeat (first | refine bN ?_ _ | refine bD ?_ | refine bA ?_ _)); exact BK377.out⟩, ⟨by (with_reducible repeat (first | refine bN ?_ _ | refine bD ?_ | refine bA ?_ _)); exact BK378.out⟩, ⟨by repeat (first | (with_reducible first | exact HB.out | apply wA | apply wN | apply w1 | refine wS ?_ GE377.out | refine wS ?_ GE378.out) | exact HB.out)⟩⟩
      ·rw [if_neg c13] at H
       have c13b0 : (a0_5 != a1_5) = false := by simpa using c13
       (try (have c13b1 : decide (a0_5 = a1_5) = true := by simpa using c13))
       (try (have c13b2 : (a0_5 == a1_5) = true := by simpa using c13))
       clear c13
       have H' := Aside0.mk H
       clear H
       have hnb17 := NB377_378.out
       have hnc17 := NB378_377.out
       have hcz18_0 := cz_ BK377.out 0
       have hcz18_1 := cz_ BK377.out 1
       have hcz18_2 := cz_ BK377.out 2
       have hcz18_3 := cz_ BK377.out 3
       have hcz18_4 := cz_ BK377.out 4
       have hcz18_5 := cz_ BK377.out 5
       have hfz18_0 := bF BK377.out 0
       have hfz18_1 := bF BK377.out 1
       have hfz18_2 := bF BK377.out 2
       have hfz18_3 := bF BK377.out 3
       have hfz18_4 := bF BK377.out 4
       have hfz18_5 := bF BK377.out 5
       have hcz19_0 := cz_ BK378.out 0
       have hcz19_1 := cz_ BK378.out 1
       have hcz19_2 := cz_ BK378.out 2
       have hcz19_3 := cz_ BK378.out 3
       have hcz19_4 := cz_ BK378.out 4
       have hcz19_5 := cz_ BK378.out 5
       have hfz19_0 := bF BK378.out 0
       have hfz19_1 := bF BK378.out 1
       have hfz19_2 := bF BK378.out 2
       have hfz19_3 := bF BK378.out 3
       have hfz19_4 := bF BK378.out 4
       have hfz19_5 := bF BK378.out 5
       go_wp2
       repeat (go_quiet (fail); try go_wp2)
       go_meet
       case rel => exact ⟨_, (((l0_3.length : Int) != (l1_3.length : Int))), (by first | rfl | (simp; done) | (simp [*]; done)), H', ⟨by first | omega | exact Nat.le_refl _⟩, ⟨by (with_reducible repeat (first | refine bN ?_ _ | refine bD ?_ | refine bA ?_ _)); exact BK377.out⟩, ⟨by (with_reducible repeat (first | refine bN ?_ _ | refine bD ?_ | refine bA ?_ _)); exact BK378.out⟩, ⟨by repeat (first | (with_reducible first | exact HB.out | apply wA | apply wN | apply w1 | refine wS ?_ GE377.out | refine wS ?_ GE378.out) | exact HB.out)⟩⟩
     ·rw [if_neg c12] at H
      have c12b0 : (a0_4 == a1_4) = false := beq_eq_false_iff_ne.mpr c12
      have c12b1 : (a0_4 != a1_4) = true := bne_iff_ne.mpr c12
      have H' := Aside0.mk H
      clear H
      have hnb20 := NB377_378.out
      have hnc20 := NB378_377.out
      have hcz21_0 := cz_ BK377.out 0
      have hcz21_1 := cz_ BK377.out 1
      have hcz21_2 := cz_ BK377.out 2
      have hcz21_3 := cz_ BK377.out 3
      have hcz21_4 := cz_ BK377.out 4
      have hcz21_5 := cz_ BK377.out 5
      have hfz21_0 := bF BK377.out 0
      have hfz21_1 := bF BK377.out 1
      have hfz21_2 := bF BK377.out 2
      have hfz21_3 := bF BK377.out 3
      have hfz21_4 := bF BK377.out 4
      have hfz21_5 := bF BK377.out 5
      have hcz22_0 := cz_ BK378.out 0
      have hcz22_1 := cz_ BK378.out 1
      have hcz22_2 := cz_ BK378.out 2
      have hcz22_3 := cz_ BK378.out 3
      have hcz22_4 := cz_ BK378.out 4
      have hcz22_5 := cz_ BK378.out 5
      have hfz22_0 := bF BK378.out 0
      have hfz22_1 := bF BK378.out 1
      have hfz22_2 := bF BK378.out 2
      have hfz22_3 := bF BK378.out 3
      have hfz22_4 := bF BK378.out 4
      have hfz22_5 := bF BK378.out 5
      go_wp2
      repeat (go_quiet (fail); try go_wp2)
      go_meet
      case rel => exact ⟨_, (true), (by first | rfl | (simp; done) | (simp [*]; done)), H', ⟨by first | omega | exact Nat.le_refl _⟩, ⟨by (with_reducible repeat (first | refine bN ?_ _ | refine bD ?_ | refine bA ?_ _)); exact BK377.out⟩, ⟨by (with_reducible repeat (first | refine bN ?_ _ | refine bD ?_ | refine bA ?_ _)); exact BK378.out⟩, ⟨by repeat (first | (with_reducible first | exact HB.out | apply wA | apply wN | apply w1 | refine wS ?_ GE377.out | refine wS ?_ GE378.out) | exact HB.out)⟩⟩
    ·rw [if_neg c11] at H
     have c11b0 : (a0_2.toList == a1_2.toList) = false := beq_eq_false_iff_ne.mpr c11
     have c11b1 : (a0_2.toList != a1_2.toList) = true := bne_iff_ne.mpr c11
     have H' := Aside0.mk H
     clear H
     have hnb23 := NB377_378.out
     have hnc23 := NB378_377.out
     have hcz24_0 := cz_ BK377.out 0
     have hcz24_1 := cz_ BK377.out 1
     have hcz24_2 := cz_ BK377.out 2
     have hcz24_3 := cz_ BK377.out 3
     have hcz24_4 := cz_ BK377.out 4
     have hcz24_5 := cz_ BK377.out 5
     have hfz24_0 := bF BK377.out 0
     have hfz24_1 := bF BK377.out 1
     have hfz24_2 := bF BK377.out 2
     have hfz24_3 := bF BK377.out 3
     have hfz24_4 := bF BK377.out 4
     have hfz24_5 := bF BK377.out 5
     have hcz25_0 := cz_ BK378.out 0
     have hcz25_1 := cz_ BK378.out 1
     have hcz25_2 := cz_ BK378.out 2
     have hcz25_3 := cz_ BK378.out 3
     have hcz25_4 := cz_ BK378.out 4
     have hcz25_5 := cz_ BK378.out 5
     have hfz25_0 := bF BK378.out 0
     have hfz25_1 := bF BK378.out 1
     have hfz25_2 := bF BK378.out 2
     have hfz25_3 := bF BK378.out 3
     have hfz25_4 := bF BK378.out 4
     have hfz25_5 := bF BK378.out 5
     go_wp2
     repeat (go_quiet (fail); try go_wp2)
     go_meet
     case rel => exact ⟨_, (true), (by first | rfl | (simp; done) | (simp [*]; done)), H', ⟨by first | omega | exact Nat.le_refl _⟩, ⟨by (with_reducible repeat (first | refine bN ?_ _ | refine bD ?_ | refine bA ?_ _)); exact BK377.out⟩, ⟨by (with_reducible repeat (first | refine bN ?_ _ | refine bD ?_ | refine bA ?_ _)); exact BK378.out⟩, ⟨by repeat (first | (with_reducible first | exact HB.out | apply wA | apply wN | apply w1 | refine wS ?_ GE377.out | refine wS ?_ GE378.out) | exact HB.out)⟩⟩
  ·rw [if_neg c6] at H
   have c6b0 : (a0_0 == a1_0) = false := beq_eq_false_iff_ne.mpr c6
   have c6b1 : (a0_0 != a1_0) = true := bne_iff_ne.mpr c6
   (first | rw [c6b0] | (simp only [i64_w, i32_w]; rw [c6b0]) | skip)
   have H' := Aside0.mk H
   clear H
   have hnb26 := NB377_378.out
   have hnc26 := NB378_377.out
   have hcz27_0 := cz_ BK377.out 0
   have hcz27_1 := cz_ BK377.out 1
   have hcz27_2 := cz_ BK377.out 2
   have hcz27_3 := cz_ BK377.out 3
   have hcz27_4 := cz_ BK377.out 4
   have hcz27_5 := cz_ BK377.out 5
   have hfz27_0 := bF BK377.out 0
   have hfz27_1 := bF BK377.out 1
   have hfz27_2 := bF BK377.out 2
   have hfz27_3 := bF BK377.out 3
   have hfz27_4 := bF BK377.out 4
   have hfz27_5 := bF BK377.out 5
   have hcz28_0 := cz_ BK378.out 0
   have hcz28_1 := cz_ BK378.out 1
   have hcz28_2 := cz_ BK378.out 2
   have hcz28_3 := cz_ BK378.out 3
   have hcz28_4 := cz_ BK378.out 4
   have hcz28_5 := cz_ BK378.out 5
   have hfz28_0 := bF BK378.out 0
   have hfz28_1 := bF BK378.out 1
   have hfz28_2 := bF BK378.out 2
   have hfz28_3 := bF BK378.out 3
   have hfz28_4 := bF BK378.out 4
   have hfz28_5 := bF BK378.out 5
   go_wp2
   repeat (go_quiet (fail); try go_wp2)
   go_meet
   case rel => exact ⟨_, (true), (by first | rfl | (simp; done) | (simp [*]; done)), H', ⟨by first | omega | exact Nat.le_refl _⟩, ⟨by (with_reducible repeat (first | refine bN ?_ _ | refine bD ?_ | refine bA ?_ _)); exact BK377.out⟩, ⟨by (with_reducible repeat (first | refine bN ?_ _ | refine bD ?_ | refine bA ?_ _)); exact BK378.out⟩, ⟨by repeat (first | (with_reducible first | exact HB.out | apply wA | apply wN | apply w1 | refine wS ?_ GE377.out | refine wS ?_ GE378.out) | exact HB.out)⟩⟩
 case rest =>
  clear HC3
  try clear c1
  try clear c2
  try clear p2
  try clear c3
  try clear c6
  try clear c6b0
  try clear c6b1
  try clear c7
  try clear c7b0
  try clear c7b1
  try clear c7b2
  try clear c8
  try clear c11
  try clear c11b0
  try clear c11b1
  try clear c12
  try clear c12b0
  try clear c12b1
  try clear c13
  try clear c13b0
  try clear c13b1
  try clear c13b2
  try clear c14
  try clear c17
  try clear c20
  try clear c23
  try clear c26
  try clear hcz10_0
  try clear hcz10_1
  try clear hcz10_2
  try clear hcz10_3
  try clear hcz10_4
  try clear hcz10_5
  try clear hcz15_0
  try clear hcz15_1
  try clear hcz15_2
  try clear hcz15_3
  try clear hcz15_4
  try clear hcz15_5
  try clear hcz16_0
  try clear hcz16_1
  try clear hcz16_2
  try clear hcz16_3
  try clear hcz16_4
  try clear hcz16_5
  try clear hcz18_0
  try clear hcz18_1
  try clear hcz18_2
  try clear hcz18_3
  try clear hcz18_4
  try clear hcz18_5
  try clear hcz19_0
  try clear hcz19_1
  try clear hcz19_2
  try clear hcz19_3
  try clear hcz19_4
  try clear hcz19_5
  try clear hcz21_0
  try clear hcz21_1
  try clear hcz21_2
  try clear hcz21_3
  try clear hcz21_4
  try clear hcz21_5
  try clear hcz22_0
  try clear hcz22_1
  try clear hcz22_2
  try clear hcz22_3
  try clear hcz22_4
  try clear hcz22_5
  try clear hcz24_0
  try clear hcz24_1
  try clear hcz24_2
  try clear hcz24_3
  try clear hcz24_4
  try clear hcz24_5
  try clear hcz25_0
  try clear hcz25_1
  try clear hcz25_2
  try clear hcz25_3
  try clear hcz25_4
  try clear hcz25_5
  try clear hcz27_0
  try clear hcz27_1
  try clear hcz27_2
  try clear hcz27_3
  try clear hcz27_4
  try clear hcz27_5
  try clear hcz28_0
  try clear hcz28_1
  try clear hcz28_2
  try clear hcz28_3
  try clear hcz28_4
  try clear hcz28_5
  try clear hcz9_0
  try clear hcz9_1
  try clear hcz9_2
  try clear hcz9_3
  try clear hcz9_4
  try clear hcz9_5
  try clear hfz10_0
  try clear hfz10_1
  try clear hfz10_2
  try clear hfz10_3
  try clear hfz10_4
  try clear hfz10_5
  try clear hfz15_0
  try clear hfz15_1
  try clear hfz15_2
  try clear hfz15_3
  try clear hfz15_4
  try clear hfz15_5
  try clear hfz16_0
  try clear hfz16_1
  try clear hfz16_2
  try clear hfz16_3
  try clear hfz16_4
  try clear hfz16_5
  try clear hfz18_0
  try clear hfz18_1
  try clear hfz18_2
  try clear hfz18_3
  try clear hfz18_4
  try clear hfz18_5
  try clear hfz19_0
  try clear hfz19_1
  try clear hfz19_2
  try clear hfz19_3
  try clear hfz19_4
  try clear hfz19_5
  try clear hfz21_0
  try clear hfz21_1
  try clear hfz21_2
  try clear hfz21_3
  try clear hfz21_4
  try clear hfz21_5
  try clear hfz22_0
  try clear hfz22_1
  try clear hfz22_2
  try clear hfz22_3
  try clear hfz22_4
  try clear hfz22_5
  try clear hfz24_0
  try clear hfz24_1
  try clear hfz24_2
  try clear hfz24_3
  try clear hfz24_4
  try clear hfz24_5
  try clear hfz25_0
  try clear hfz25_1
  try clear hfz25_2
  try clear hfz25_3
  try clear hfz25_4
  try clear hfz25_5
  try clear hfz27_0
  try clear hfz27_1
  try clear hfz27_2
  try clear hfz27_3
  try clear hfz27_4
  try clear hfz27_5
  try clear hfz28_0
  try clear hfz28_1
  try clear hfz28_2
  try clear hfz28_3
  try clear hfz28_4
  try clear hfz28_5
  try clear hfz9_0
  try clear hfz9_1
  try clear hfz9_2
  try clear hfz9_3
  try clear hfz9_4
  try clear hfz9_5
  obtain ⟨kq, x47_2, rfl, HA, HJ2, BK377, BK378, HB⟩ := hcut
  cases kq with
  | zero => exact absurd HA.out (by simp [catchmentref24_Same.j0])
  | succ kj2 =>
   have H := HA.out
   clear HA
   simp only [catchmentref24_Same.j0] at H
   by_cases c29 : x47_2 = true
   ·subst c29
    have H1 : (some false) = some r := by rw [if_pos rfl] at H; exact H
    clear H
    have H := H1
    clear H1
    obtain rfl := Option.some.inj H
    go_wp2
    repeat (go_quiet (fail); try go_wp2)
    go_ret
    exact ⟨by first | rfl | (simp [errW_none, errW_some] <;> rfl) | (simp [*, errW_none, errW_some] <;> rfl), by repeat (first | (with_reducible first | exact HB.out | apply wA | apply wN | apply w1 | refine wS ?_ GE377.out | refine wS ?_ GE378.out) | exact HB.out)⟩
   ·replace c29 := Bool.eq_false_iff.mpr c29
    subst c29
    have H1 : (catchmentref24_Same.l0 kj2 0 a0_0 a0_1 a0_2 l0_3 a0_4 a0_5 a1_0 a1_1 a1_2 l1_3 a1_4 a1_5) = some r := by rw [if_neg (show ¬ (false = true) by decide)] at H; exact H
    clear H
    have H := H1
    clear H1
    have H' := Aside0.mk H
    clear H
    go_wp2
    repeat (go_quiet (fail); try go_wp2)
    go_loopg [5] kj2 (fun kq v5 w' => ∃ (x5_2 : Int), v5 = .int .i64 x5_2 ∧ Aside0 (catchmentref24_Same.l0 kq x5_2 a0_0 a0_1 a0_2 l0_3 a0_4 a0_5 a1_0 a1_1 a1_2 l1_3 a1_4 a1_5 = some r) ∧ Aside0 (kq ≤ kj2) ∧ Aside0 (w'.heap[gb377]? = some (.cells #[.int .i64 a0_0, .bool a0_1, .string a0_2, (.slice A0_3 l0_3.length c0_3), .int .i64 a0_4, .bool a0_5] 59 (0, 0))) ∧ Aside0 (w'.heap[gb378]? = some (.cells #[.int .i64 a1_0, .bool a1_1, .string a1_2, (.slice A1_3 l1_3.length c1_3), .int .i64 a1_4, .bool a1_5] 59 (0, 0))) ∧ Aside0 (Below w.heap.size w w'))
    case atStart => exact ⟨(0), (by first | rfl | (simp; done) | (simp [*]; done)), H', ⟨Nat.le_refl _⟩, ⟨by (with_reducible repeat (first | refine bN ?_ _ | refine bD ?_ | refine bA ?_ _)); exact BK377.out⟩, ⟨by (with_reducible repeat (first | refine bN ?_ _ | refine bD ?_ | refine bA ?_ _)); exact BK378.out⟩, ⟨by repeat (first | (with_reducible first | exact HB.out | apply wA | apply wN | apply w1 | refine wS ?_ GE377.out | refine wS ?_ GE378.out) | exact HB.out)⟩⟩
    case round =>
     clear H'
     try clear c1
     try clear c2
     try clear p2
     try clear c3
     try clear c6
     try clear c6b0
     try clear c6b1
     try clear c7
     try clear c7b0
     try clear c7b1
     try clear c7b2
     try clear c8
     try clear c11
     try clear c11b0
     try clear c11b1
     try clear c12
     try clear c12b0
     try clear c12b1
     try clear c13
     try clear c13b0
     try clear c13b1
     try clear c13b2
     try clear c14
     try clear c17
     try clear c20
     try clear c23
     try clear c26
     try clear c29
     try clear hcz10_0
     try clear hcz10_1
     try clear hcz10_2
     try clear hcz10_3
     try clear hcz10_4
     try clear hcz10_5
     try clear hcz15_0
     try clear hcz15_1
     try clear hcz15_2
     try clear hcz15_3
     try clear hcz15_4
     try clear hcz15_5
     try clear hcz16_0
     try clear hcz16_1
     try clear hcz16_2
     try clear hcz16_3
     try clear hcz16_4
     try clear hcz16_5
     try clear hcz18_0
     try clear hcz18_1
     try clear hcz18_2
     try clear hcz18_3
     try clear hcz18_4
     try clear hcz18_5
     try clear hcz19_0
     try clear hcz19_1
     try clear hcz19_2
     try clear hcz19_3
     try clear hcz19_4
     try clear hcz19_5
     try clear hcz21_0
     try clear hcz21_1
     try clear hcz21_2
     try clear hcz21_3
     try clear hcz21_4
     try clear hcz21_5
     try clear hcz22_0
     try clear hcz22_1
     try clear hcz22_2
     try clear hcz22_3
     try clear hcz22_4
     try clear hcz22_5
     try clear hcz24_0
     try clear hcz24_1
     try clear hcz24_2
     try clear hcz24_3
     try clear hcz24_4
     try clear hcz24_5
     try clear hcz25_0
     try clear hcz25_1
     try clear hcz25_2
     try clear hcz25_3
     try clear hcz25_4
     try clear hcz25_5
     try clear hcz27_0
     try clear hcz27_1
     try clear hcz27_2
     try clear hcz27_3
     try clear hcz27_4
     try clear hcz27_5
     try clear hcz28_0
     try clear hcz28_1
     try clear hcz28_2
     try clear hcz28_3
     try clear hcz28_4
     try clear hcz28_5
     try clear hcz9_0
     try clear hcz9_1
     try clear hcz9_2
     try clear hcz9_3
     try clear hcz9_4
     try clear hcz9_5
     try clear hfz10_0
     try clear hfz10_1
     try clear hfz10_2
     try clear hfz10_3
     try clear hfz10_4
     try clear hfz10_5
     try clear hfz15_0
     try clear hfz15_1
     try clear hfz15_2
     try clear hfz15_3
     try clear hfz15_4
     try clear hfz15_5
     try clear hfz16_0
     try clear hfz16_1
     try clear hfz16_2
     try clear hfz16_3
     try clear hfz16_4
     try clear hfz16_5
     try clear hfz18_0
     try clear hfz18_1
     try clear hfz18_2
     try clear hfz18_3
     try clear hfz18_4
     try clear hfz18_5
     try clear hfz19_0
     try clear hfz19_1
     try clear hfz19_2
     try clear hfz19_3
     try clear hfz19_4
     try clear hfz19_5
     try clear hfz21_0
     try clear hfz21_1
     try clear hfz21_2
     try clear hfz21_3
     try clear hfz21_4
     try clear hfz21_5
     try clear hfz22_0
     try clear hfz22_1
     try clear hfz22_2
     try clear hfz22_3
     try clear hfz22_4
     try clear hfz22_5
     try clear hfz24_0
     try clear hfz24_1
     try clear hfz24_2
     try clear hfz24_3
     try clear hfz24_4
     try clear hfz24_5
     try clear hfz25_0
     try clear hfz25_1
     try clear hfz25_2
     try clear hfz25_3
     try clear hfz25_4
     try clear hfz25_5
     try clear hfz27_0
     try clear hfz27_1
     try clear hfz27_2
     try clear hfz27_3
     try clear hfz27_4
     try clear hfz27_5
     try clear hfz28_0
     try clear hfz28_1
     try clear hfz28_2
     try clear hfz28_3
     try clear hfz28_4
     try clear hfz28_5
     try clear hfz9_0
     try clear hfz9_1
     try clear hfz9_2
     try clear hfz9_3
     try clear hfz9_4
     try clear hfz9_5
     try clear p2
     obtain ⟨x5_2, rfl, HA, HK2, BK377, BK378, HB⟩ := hrel
     cases gk with
     | zero => exact absurd HA.out (by simp [catchmentref24_Same.l0])
     | succ k2 =>
      have H := HA.out
      clear HA
      simp only [catchmentref24_Same.l0] at H
      by_cases c30 : x5_2 < (l0_3.length : Int)
      ·rw [if_pos c30] at H
       have c30b0 : decide (x5_2 < (l0_3.length : Int)) = true := decide_eq_true c30
       clear c30
       by_cases c31 : 0 ≤ x5_2
       ·rw [if_pos c31] at H
        have c31b0 : decide (0 ≤ x5_2) = true := decide_eq_true c31
        clear c31
        by_cases c32 : x5_2 < (l1_3.length : Int)
        ·rw [if_pos c32] at H
         have c32b0 : decide (x5_2 < (l1_3.length : Int)) = true := decide_eq_true c32
         clear c32
         by_cases c33 : (!((((rd_T103 l0_3 x5_2).f0).toList) == (((rd_T103 l1_3 x5_2).f0).toList)) || (!((((rd_T103 l0_3 x5_2).f1).toList) == (((rd_T103 l1_3 x5_2).f1).toList)))) = true
         ·rw [if_pos c33] at H
          have c33b0 : (!((((rd_T103 l0_3 x5_2).f0).toList) == (((rd_T103 l1_3 x5_2).f0).toList)) || (!((((rd_T103 l0_3 x5_2).f1).toList) == (((rd_T103 l1_3 x5_2).f1).toList)))) = true := c33
          clear c33
          obtain rfl := Option.some.inj H
          have hnb34 := NB377_378.out
          have hnc34 := NB378_377.out
          have hcz35_0 := cz_ BK377.out 0
          have hcz35_1 := cz_ BK377.out 1
          have hcz35_2 := cz_ BK377.out 2
          have hcz35_3 := cz_ BK377.out 3
          have hcz35_4 := cz_ BK377.out 4
          have hcz35_5 := cz_ BK377.out 5
          have hfz35_0 := bF BK377.out 0
          have hfz35_1 := bF BK377.out 1
          have hfz35_2 := bF BK377.out 2
          have hfz35_3 := bF BK377.out 3
          have hfz35_4 := bF BK377.out 4
          have hfz35_5 := bF BK377.out 5
          have p379 : 0 ≤ (x5_2 : Int) := of_decide_eq_true (by first | (with_reducible assumption) | assumption)
          have q379 : x5_2 < (l0_3.length : Int) := of_decide_eq_true (by first | (with_reducible assumption) | assumption)
          obtain ⟨ad379, e379, hx379_0, hx379_1⟩ := at_T103 HR0_3.out x5_2 p379 q379
          cases e379
          replace hx379_0 := (HB.out.cell (World.block_lt_of_cell? w _ hx379_0)).trans hx379_0
          replace hx379_1 := (HB.out.cell (World.block_lt_of_cell? w _ hx379_1)).trans hx379_1
          replace p379 := eq_true p379
          replace q379 := eq_true q379
          have hcz36_0 := cz_ BK378.out 0
          have hcz36_1 := cz_ BK378.out 1
          have hcz36_2 := cz_ BK378.out 2
          have hcz36_3 := cz_ BK378.out 3
          have hcz36_4 := cz_ BK378.out 4
          have hcz36_5 := cz_ BK378.out 5
          have hfz36_0 := bF BK378.out 0
          have hfz36_1 := bF BK378.out 1
          have hfz36_2 := bF BK378.out 2
          have hfz36_3 := bF BK378.out 3
          have hfz36_4 := bF BK378.out 4
          have hfz36_5 := bF BK378.out 5
          have p380 : 0 ≤ (x5_2 : Int) := of_decide_eq_true (by first | (with_reducible assumption) | assumption)
          have q380 : x5_2 < (l1_3.length : Int) := of_decide_eq_true (by first | (with_reducible assumption) | assumption)
          obtain ⟨ad380, e380, hx380_0, hx380_1⟩ := at_T103 HR1_3.out x5_2 p380 q380
          cases e380
          replace hx380_0 := (HB.out.cell (World.block_lt_of_cell? w _ hx380_0)).trans hx380_0
          replace hx380_1 := (HB.out.cell (World.block_lt_of_cell? w _ hx380_1)).trans hx380_1
          replace p380 := eq_true p380
          replace q380 := eq_true q380
          go_wp2
          repeat (go_quiet (fail); try go_wp2)
          go_ret
          exact ⟨by first | rfl | (simp [errW_none, errW_some] <;> rfl) | (simp [*, errW_none, errW_some] <;> rfl), by repeat (first | (with_reducible first | exact HB.out | apply wA | apply wN | apply w1 | refine wS ?_ GE377.out | refine wS ?_ GE378.out) | exact HB.out)⟩
         ·rw [if_neg c33] at H
          have c33b0 : (!((((rd_T103 l0_3 x5_2).f0).toList) == (((rd_T103 l1_3 x5_2).f0).toList)) || (!((((rd_T103 l0_3 x5_2).f1).toList) == (((rd_T103 l1_3 x5_2).f1).toList)))) = false := by simpa using c33
          clear c33
          have H' := Aside0.mk H
          clear H
          have hnb37 := NB377_378.out
          have hnc37 := NB378_377.out
          have hcz38_0 := cz_ BK377.out 0
          have hcz38_1 := cz_ BK377.out 1
          have hcz38_2 := cz_ BK377.out 2
          have hcz38_3 := cz_ BK377.out 3
          have hcz38_4 := cz_ BK377.out 4
          have hcz38_5 := cz_ BK377.out 5
          have hfz38_0 := bF BK377.out 0
          have hfz38_1 := bF BK377.out 1
          have hfz38_2 := bF BK377.out 2
          have hfz38_3 := bF BK377.out 3
          have hfz38_4 := bF BK377.out 4
          have hfz38_5 := bF BK377.out 5
          have p379 : 0 ≤ (x5_2 : Int) := of_decide_eq_true (by first | (with_reducible assumption) | assumption)
          have q379 : x5_2 < (l0_3.length : Int) := of_decide_eq_true (by first | (with_reducible assumption) | assumption)
          obtain ⟨ad379, e379, hx379_0, hx379_1⟩ := at_T103 HR0_3.out x5_2 p379 q379
          cases e379
          replace hx379_0 := (HB.out.cell (World.block_lt_of_cell? w _ hx379_0)).trans hx379_0
          replace hx379_1 := (HB.out.cell (World.block_lt_of_cell? w _ hx379_1)).trans hx379_1
          replace p379 := eq_true p379
          replace q379 := eq_true q379
          have hcz39_0 := cz_ BK378.out 0
          have hcz39_1 := cz_ BK378.out 1
          have hcz39_2 := cz_ BK378.out 2
          have hcz39_3 := cz_ BK378.out 3
          have hcz39_4 := cz_ BK378.out 4
          have hcz39_5 := cz_ BK378.out 5
          have hfz39_0 := bF BK378.out 0
          have hfz39_1 := bF BK378.out 1
          have hfz39_2 := bF BK378.out 2
          have hfz39_3 := bF BK378.out 3
          have hfz39_4 := bF BK378.out 4
          have hfz39_5 := bF BK378.out 5
          have p380 : 0 ≤ (x5_2 : Int) := of_decide_eq_true (by first | (with_reducible assumption) | assumption)
          have q380 : x5_2 < (l1_3.length : Int) := of_decide_eq_true (by first | (with_reducible assumption) | assumption)
          obtain ⟨ad380, e380, hx380_0, hx380_1⟩ := at_T103 HR1_3.out x5_2 p380 q380
          cases e380
          replace hx380_0 := (HB.out.cell (World.block_lt_of_cell? w _ hx380_0)).trans hx380_0
          replace hx380_1 := (HB.out.cell (World.block_lt_of_cell? w _ hx380_1)).trans hx380_1
          replace p380 := eq_true p380
          replace q380 := eq_true q380
          go_wp2
          repeat (go_quiet (fail); try go_wp2)
          go_roundg k2
          case measure => have := HJ2.out; have := HK2.out; omega
          case rel => exact ⟨(wrap64 (x5_2 + 1)), (by first | rfl | (simp; done) | (simp [*]; done)), H', ⟨by have := HJ2.out; have := HK2.out; omega⟩, ⟨by (with_reducible repeat (first | refine bN ?_ _ | refine bD ?_ | refine bA ?_ _)); exact BK377.out⟩, ⟨by (with_reducible repeat (first | refine bN ?_ _ | refine bD ?_ | refine bA ?_ _)); exact BK378.out⟩, ⟨by repeat (first | (with_reducible first | exact HB.out | apply wA | apply wN | apply w1 | refine wS ?_ GE377.out | refine wS ?_ GE378.out) | exact HB.out)⟩⟩
        ·rw [if_neg c32] at H
         exact absurd H (by simp)
       ·rw [if_neg c31] at H
        exact absurd H (by simp)
      ·rw [if_neg c30] at H
       have c30b0 : decide (x5_2 < (l0_3.length : Int)) = false := decide_eq_false c30
       clear c30
       obtain rfl := Option.some.inj H
       have hnb40 := NB377_378.out
       have hnc40 := NB378_377.out
       have hcz41_0 := cz_ BK377.out 0
       have hcz41_1 := cz_ BK377.out 1
       have hcz41_2 := cz_ BK377.out 2
       have hcz41_3 := cz_ BK377.out 3
       have hcz41_4 := cz_ BK377.out 4
       have hcz41_5 := cz_ BK377.out 5
       have hfz41_0 := bF BK377.out 0
       have hfz41_1 := bF BK377.out 1
       have hfz41_2 := bF BK377.out 2
       have hfz41_3 := bF BK377.out 3
       have hfz41_4 := bF BK377.out 4
       have hfz41_5 := bF BK377.out 5
       go_wp2
       repeat (go_quiet (fail); try go_wp2)
       go_ret
       exact ⟨by first | rfl | (simp [errW_none, errW_some] <;> rfl) | (simp [*, errW_none, errW_some] <;> rfl), by repeat (first | (with_reducible first | exact HB.out | apply wA | apply wN | apply w1 | refine wS ?_ GE377.out | refine wS ?_ GE378.out) | exact HB.out)⟩
def model_Refused.f (a0_0 : Int) (a0_1 : Bool) (a0_2 : BA) (l0_3 : List (S103)) (a0_4 : Int) (a0_5 : Bool) : Option (Bool) := if a0_0 = 10 then (some true) else (some (a0_0 == 9))
set_option maxHeartbeats 8000000 in
set_option maxRecDepth 100000 in
theorem model_Refused.calls (a0_0 : Int) (a0_1 : Bool) (a0_2 : BA) (A0_3 : Option Addr) (c0_3 : Nat) (l0_3 : List (S103)) (a0_4 : Int) (a0_5 : Bool) (r : Bool) (w : World) (hr0_3 : Kd.C k103 w A0_3 l0_3.length l0_3) (hc0_3 : l0_3.length ≤ c0_3) (h : model_Refused.f a0_0 a0_1 a0_2 l0_3 a0_4 a0_5 = some r) :
  Calls Try.prog 33 #[.agg #[.int .i64 a0_0, .bool a0_1, .string a0_2, .slice A0_3 l0_3.length c0_3, .int .i64 a0_4, .bool a0_5]] w fun e w' => e = .returned (.bool r) ∧ Below w.heap.size w w' := by
 have hu59 := Try.underlying59
 have HR0_3 := Aside0.mk hr0_3
 have HC0_3 := Aside0.mk hc0_3
 clear hr0_3 hc0_3
 have HB := Aside0.mk (Below.refl w.heap.size w)
 have H : (if a0_0 = 10 then (some true) else (some (a0_0 == 9))) = some r := h
 clear h
 by_cases c2 : a0_0 = 10
 ·rw [if_pos c2] at H
  have c2b0 : (a0_0 == 10) = true := beq_iff_eq.mpr c2
  have c2b1 : (a0_0 != 10) = false := bne_eq_false_iff_eq.mpr c2
  clear c2
  obtain rfl := Option.some.inj H
  go_enter Try.func33, Try.ntmps33
  go_wp2_with (first | ((with_reducible refine gate_dst (N := 1) rfl ?_); refine box_event ?hg (N := 1) ?hd (cs := #[.int .i64 a0_0, .bool a0_1, .string a0_2, .slice A0_3 l0_3.length c0_3, .int .i64 a0_4, .bool a0_5]) (t := 59) ?hr ?_; (case hd => rfl); (case hg => rfl); (case hr => first | (go_simp; done) | (go_simp; rfl)); intro gb381 hg w3 hbox hb; have n0_ := Aside0.mk (wT bW_ hb); have n1_ := Aside0.mk (hbox); have n2_ := Aside0.mk ((by rw [hg]; exact (wZ bW_) : w.heap.size ≤ gb381)); have n3_ := n2_; clear HB; have HB := n0_; have BK381 := n1_; have GW381 := n2_; have GE381 := n3_; clear n0_ n1_ n2_ n3_; clear hb hbox hg; have hcz4_0 := cz_ BK381.out 0; have hcz4_1 := cz_ BK381.out 1; have hcz4_2 := cz_ BK381.out 2; have hcz4_3 := cz_ BK381.out 3; have hcz4_4 := cz_ BK381.out 4; have hcz4_5 := cz_ BK381.out 5; have hfz4_0 := bF BK381.out 0; have hfz4_1 := bF BK381.out 1; have hfz4_2 := bF BK381.out 2; have hfz4_3 := bF BK381.out 3; have hfz4_4 := bF BK381.out 4; have hfz4_5 := bF BK381.out 5))
  go_ret
  exact ⟨by first | rfl | (simp [errW_none, errW_some] <;> rfl) | (simp [*, errW_none, errW_some] <;> rfl), by repeat (first | (with_reducible first | exact HB.out | apply wA | apply wN | apply w1 | refine wS ?_ GE381.out) | exact HB.out)⟩
 ·rw [if_neg c2] at H
  have c2b0 : (a0_0 == 10) = false := beq_eq_false_iff_ne.mpr c2
  have c2b1 : (a0_0 != 10) = true := bne_iff_ne.mpr c2
  obtain rfl := Option.some.inj H
  go_enter Try.func33, Try.ntmps33
  go_wp2_with (first | ((with_reducible refine gate_dst (N := 1) rfl ?_); refine box_event ?hg (N := 1) ?hd (cs := #[.int .i64 a0_0, .bool a0_1, .string a0_2, .slice A0_3 l0_3.length c0_3, .int .i64 a0_4, .bool a0_5]) (t := 59) ?hr ?_; (case hd => rfl); (case hg => rfl); (case hr => first | (go_simp; done) | (go_simp; rfl)); intro gb381 hg w5 hbox hb; have n0_ := Aside0.mk (wT bW_ hb); have n1_ := Aside0.mk (hbox); have n2_ := Aside0.mk ((by rw [hg]; exact (wZ bW_) : w.heap.size ≤ gb381)); have n3_ := n2_; clear HB; have HB := n0_; have BK381 := n1_; have GW381 := n2_; have GE381 := n3_; clear n0_ n1_ n2_ n3_; clear hb hbox hg; have hcz6_0 := cz_ BK381.out 0; have hcz6_1 := cz_ BK381.out 1; have hcz6_2 := cz_ BK381.out 2; have hcz6_3 := cz_ BK381.out 3; have hcz6_4 := cz_ BK381.out 4; have hcz6_5 := cz_ BK381.out 5; have hfz6_0 := bF BK381.out 0; have hfz6_1 := bF BK381.out 1; have hfz6_2 := bF BK381.out 2; have hfz6_3 := bF BK381.out 3; have hfz6_4 := bF BK381.out 4; have hfz6_5 := bF BK381.out 5))
  go_ret
  exact ⟨by first | rfl | (simp [errW_none, errW_some] <;> rfl) | (simp [*, errW_none, errW_some] <;> rfl), by repeat (first | (with_reducible first | exact HB.out | apply wA | apply wN | apply w1 | refine wS ?_ GE381.out) | exact HB.out)⟩
end Go.Proofs.Ytljnlnbopohghaa.P
end
