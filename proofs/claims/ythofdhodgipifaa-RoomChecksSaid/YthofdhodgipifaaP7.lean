-- Laid for this claim by a program of this seat's own (wip/tools/pp.py) out of the translation's print. Lean checks it.
import Derived.Test.YthofdhodgipifaaP0
namespace Go.Proofs.Ythofdhodgipifaa.P
open Go.RowKit Go.Proofs.YthofdhodgipifaaW.PrintWords Go.Proofs.YthofdhodgipifaaW.PrintLast Go.Proofs.YthofdhodgipifaaW.PrintMore Go.Proofs.Ythofdhodgipifaa.Own
open Go.Proofs.YthofdhodgipifaaW.PrintWords renaming blk_cell → bC, blk_frozen → bF, blk_drewN → bN, blk_alloc → bA, pw_below_drewN → wN, blk_drew → bD, below_drew1 → w1, below_set → wS, below_alloc → wA, below_step → wT, below_size → wZ
open List renaming setIfInBounds_toArray → sA1, set_cons_zero → sA2, set_cons_succ → sA3
attribute [local go_sem] max2_str max2_int min2_int max_two min_two max_three min_three max_four min_four   -- for this text's walks alone
set_option linter.unusedVariables false
set_option linter.unusedSimpArgs false

/-! ### catchmentref21_Check: function 8 -/
mutual
def catchmentref21_Check.j0 : Nat → Bool → Int → Int → Int → Int → Int → Int → Int → Int → Int → Option (Int)
 | 0, _, _, _, _, _, _, _, _, _, _ => none
 | k + 1, x20, x186000, x186001, x186002, x186003, x186004, x186005, x186006, x186007, x186008 => if x20 = true then (some 2) else (if x186002 < 4 then (catchmentref21_Check.j1 k true x186000 x186001 x186002 x186003 x186004 x186005 x186006 x186007 x186008) else (if x186002 > 64 then (catchmentref21_Check.j1 k true x186000 x186001 x186002 x186003 x186004 x186005 x186006 x186007 x186008) else (if x186003 < 0 then (catchmentref21_Check.j1 k true x186000 x186001 x186002 x186003 x186004 x186005 x186006 x186007 x186008) else (catchmentref21_Check.j1 k (decide (x186003 > 1048576)) x186000 x186001 x186002 x186003 x186004 x186005 x186006 x186007 x186008))))
def catchmentref21_Check.j1 : Nat → Bool → Int → Int → Int → Int → Int → Int → Int → Int → Int → Option (Int)
 | 0, _, _, _, _, _, _, _, _, _, _ => none
 | k + 1, x38, x186000, x186001, x186002, x186003, x186004, x186005, x186006, x186007, x186008 => if x38 = true then (some 2) else (if x186004 < 4 then (catchmentref21_Check.j2 k true x186000 x186001 x186002 x186003 x186004 x186005 x186006 x186007 x186008) else (if x186004 > 256 then (catchmentref21_Check.j2 k true x186000 x186001 x186002 x186003 x186004 x186005 x186006 x186007 x186008) else (if x186005 < 2 then (catchmentref21_Check.j2 k true x186000 x186001 x186002 x186003 x186004 x186005 x186006 x186007 x186008) else (catchmentref21_Check.j2 k (decide (x186005 > x186004)) x186000 x186001 x186002 x186003 x186004 x186005 x186006 x186007 x186008))))
def catchmentref21_Check.j2 : Nat → Bool → Int → Int → Int → Int → Int → Int → Int → Int → Int → Option (Int)
 | 0, _, _, _, _, _, _, _, _, _, _ => none
 | k + 1, x58, x186000, x186001, x186002, x186003, x186004, x186005, x186006, x186007, x186008 => if x58 = true then (some 2) else (if x186006 < 2 then (some 2) else (if x186006 > 4096 then (some 2) else (if x186007 < 0 then (some 2) else (if x186007 > 1000 then (some 2) else (if x186008 < 1 then (some 2) else (if x186008 > 1024 then (some 2) else (some 0)))))))
end
def catchmentref21_Check.f (k : Nat) (a0_0 : Int) (a0_1 : Int) (a0_2 : Int) (a0_3 : Int) (a0_4 : Int) (a0_5 : Int) (a0_6 : Int) (a0_7 : Int) (a0_8 : Int) : Option (Int) := if a0_0 < 1 then (catchmentref21_Check.j0 k true a0_0 a0_1 a0_2 a0_3 a0_4 a0_5 a0_6 a0_7 a0_8) else (if a0_0 > 256 then (catchmentref21_Check.j0 k true a0_0 a0_1 a0_2 a0_3 a0_4 a0_5 a0_6 a0_7 a0_8) else (if a0_1 < 8 then (catchmentref21_Check.j0 k true a0_0 a0_1 a0_2 a0_3 a0_4 a0_5 a0_6 a0_7 a0_8) else (catchmentref21_Check.j0 k (decide (a0_1 > 4096)) a0_0 a0_1 a0_2 a0_3 a0_4 a0_5 a0_6 a0_7 a0_8)))
set_option maxHeartbeats 8000000 in
set_option maxRecDepth 100000 in
theorem catchmentref21_Check.calls (k : Nat) (a0_0 : Int) (a0_1 : Int) (a0_2 : Int) (a0_3 : Int) (a0_4 : Int) (a0_5 : Int) (a0_6 : Int) (a0_7 : Int) (a0_8 : Int) (r : Int) (w : World) (h : catchmentref21_Check.f k a0_0 a0_1 a0_2 a0_3 a0_4 a0_5 a0_6 a0_7 a0_8 = some r) :
  Calls Try.prog 8 #[.agg #[.int .i64 a0_0, .int .i64 a0_1, .int .i64 a0_2, .int .i64 a0_3, .int .i64 a0_4, .int .i64 a0_5, .int .i64 a0_6, .int .i64 a0_7, .int .i64 a0_8]] w fun e w' => e = .returned (.int .i64 r) ∧ Below w.heap.size w w' := by
 have hu23 := Try.underlying23
 have HB := Aside0.mk (Below.refl w.heap.size w)
 have H : (if a0_0 < 1 then (catchmentref21_Check.j0 k true a0_0 a0_1 a0_2 a0_3 a0_4 a0_5 a0_6 a0_7 a0_8) else (if a0_0 > 256 then (catchmentref21_Check.j0 k true a0_0 a0_1 a0_2 a0_3 a0_4 a0_5 a0_6 a0_7 a0_8) else (if a0_1 < 8 then (catchmentref21_Check.j0 k true a0_0 a0_1 a0_2 a0_3 a0_4 a0_5 a0_6 a0_7 a0_8) else (catchmentref21_Check.j0 k (decide (a0_1 > 4096)) a0_0 a0_1 a0_2 a0_3 a0_4 a0_5 a0_6 a0_7 a0_8)))) = some r := h
 clear h
 have HC2 := Aside0.mk H
 clear H
 go_enter Try.func8, Try.ntmps8
 go_upto_region 1 with (first | ((with_reducible refine gate_dst (N := 1) rfl ?_); refine box_event ?hg (N := 1) ?hd (cs := #[.int .i64 a0_0, .int .i64 a0_1, .int .i64 a0_2, .int .i64 a0_3, .int .i64 a0_4, .int .i64 a0_5, .int .i64 a0_6, .int .i64 a0_7, .int .i64 a0_8]) (t := 23) ?hr ?_; (case hd => rfl); (case hg => rfl); (case hr => first | (go_simp; done) | (go_simp; rfl)); intro gb185 hg w3 hbox hb; have n0_ := Aside0.mk (wT (by repeat (first | (with_reducible first | exact HB.out | apply wA | apply wN | apply w1) | exact HB.out)) hb); have n1_ := Aside0.mk (hbox); have n2_ := Aside0.mk ((by rw [hg]; exact (wZ (by repeat (first | (with_reducible first | exact HB.out | apply wA | apply wN | apply w1) | exact HB.out))) : w.heap.size ≤ gb185)); have n3_ := Aside0.mk ((by rw [hg]; exact (wZ (by repeat (first | (with_reducible first | exact HB.out | apply wA | apply wN | apply w1) | exact HB.out))) : w.heap.size ≤ gb185)); clear HB; have HB := n0_; have BK185 := n1_; have GW185 := n2_; have GE185 := n3_; clear n0_ n1_ n2_ n3_; clear hb hbox hg))
 (try simp only [Act.put, sA1, sA2, sA3])
 go_cut [20] (fun v20 wc => ∃ (kq : Nat) (x20_1 : Bool), v20 = .bool x20_1 ∧ Aside0 (catchmentref21_Check.j0 kq x20_1 a0_0 a0_1 a0_2 a0_3 a0_4 a0_5 a0_6 a0_7 a0_8 = some r) ∧ Aside0 (kq ≤ k) ∧ Aside0 (wc.heap[gb185]? = some (.cells #[.int .i64 a0_0, .int .i64 a0_1, .int .i64 a0_2, .int .i64 a0_3, .int .i64 a0_4, .int .i64 a0_5, .int .i64 a0_6, .int .i64 a0_7, .int .i64 a0_8] 23 (0, 0))) ∧ Aside0 (Below w.heap.size w wc))
 case first =>
  have H := HC2.out
  clear HC2
  by_cases c4 : a0_0 < 1
  ·rw [if_pos c4] at H
   have c4b0 : decide (a0_0 < 1) = true := decide_eq_true c4
   clear c4
   (first | rw [c4b0] | (simp only [i64_w, i32_w]; rw [c4b0]) | skip)
   have H' := Aside0.mk H
   clear H
   have hcz5_0 : w3.cell? ⟨gb185, 0, none⟩ = some (.int .i64 a0_0) := (bC BK185.out 0).trans rfl
   have hcz5_1 : w3.cell? ⟨gb185, 1, none⟩ = some (.int .i64 a0_1) := (bC BK185.out 1).trans rfl
   have hcz5_2 : w3.cell? ⟨gb185, 2, none⟩ = some (.int .i64 a0_2) := (bC BK185.out 2).trans rfl
   have hcz5_3 : w3.cell? ⟨gb185, 3, none⟩ = some (.int .i64 a0_3) := (bC BK185.out 3).trans rfl
   have hcz5_4 : w3.cell? ⟨gb185, 4, none⟩ = some (.int .i64 a0_4) := (bC BK185.out 4).trans rfl
   have hcz5_5 : w3.cell? ⟨gb185, 5, none⟩ = some (.int .i64 a0_5) := (bC BK185.out 5).trans rfl
   have hcz5_6 : w3.cell? ⟨gb185, 6, none⟩ = some (.int .i64 a0_6) := (bC BK185.out 6).trans rfl
   have hcz5_7 : w3.cell? ⟨gb185, 7, none⟩ = some (.int .i64 a0_7) := (bC BK185.out 7).trans rfl
   have hcz5_8 : w3.cell? ⟨gb185, 8, none⟩ = some (.int .i64 a0_8) := (bC BK185.out 8).trans rfl
   have hfz5_0 := bF BK185.out 0
   have hfz5_1 := bF BK185.out 1
   have hfz5_2 := bF BK185.out 2
   have hfz5_3 := bF BK185.out 3
   have hfz5_4 := bF BK185.out 4
   have hfz5_5 := bF BK185.out 5
   have hfz5_6 := bF BK185.out 6
   have hfz5_7 := bF BK185.out 7
   have hfz5_8 := bF BK185.out 8
   go_wp2
   go_meet
   case rel => exact ⟨_, (true), (by first | rfl | (simp; done) | (simp [*]; done)), H', ⟨by first | omega | exact Nat.le_refl _⟩, ⟨by (with_reducible repeat (first | refine bN ?_ _ | refine bD ?_ | refine bA ?_ _)); exact BK185.out⟩, ⟨by repeat (first | (with_reducible first | exact HB.out | apply wA | apply wN | apply w1 | refine wS ?_ GE185.out) | exact HB.out)⟩⟩
  ·rw [if_neg c4] at H
   have c4b0 : decide (a0_0 < 1) = false := decide_eq_false c4
   clear c4
   (first | rw [c4b0] | (simp only [i64_w, i32_w]; rw [c4b0]) | skip)
   by_cases c6 : a0_0 > 256
   ·rw [if_pos c6] at H
    have c6b0 : decide (256 < a0_0) = true := decide_eq_true c6
    clear c6
    have H' := Aside0.mk H
    clear H
    have hcz7_0 : w3.cell? ⟨gb185, 0, none⟩ = some (.int .i64 a0_0) := (bC BK185.out 0).trans rfl
    have hcz7_1 : w3.cell? ⟨gb185, 1, none⟩ = some (.int .i64 a0_1) := (bC BK185.out 1).trans rfl
    have hcz7_2 : w3.cell? ⟨gb185, 2, none⟩ = some (.int .i64 a0_2) := (bC BK185.out 2).trans rfl
    have hcz7_3 : w3.cell? ⟨gb185, 3, none⟩ = some (.int .i64 a0_3) := (bC BK185.out 3).trans rfl
    have hcz7_4 : w3.cell? ⟨gb185, 4, none⟩ = some (.int .i64 a0_4) := (bC BK185.out 4).trans rfl
    have hcz7_5 : w3.cell? ⟨gb185, 5, none⟩ = some (.int .i64 a0_5) := (bC BK185.out 5).trans rfl
    have hcz7_6 : w3.cell? ⟨gb185, 6, none⟩ = some (.int .i64 a0_6) := (bC BK185.out 6).trans rfl
    have hcz7_7 : w3.cell? ⟨gb185, 7, none⟩ = some (.int .i64 a0_7) := (bC BK185.out 7).trans rfl
    have hcz7_8 : w3.cell? ⟨gb185, 8, none⟩ = some (.int .i64 a0_8) := (bC BK185.out 8).trans rfl
    have hfz7_0 := bF BK185.out 0
    have hfz7_1 := bF BK185.out 1
    have hfz7_2 := bF BK185.out 2
    have hfz7_3 := bF BK185.out 3
    have hfz7_4 := bF BK185.out 4
    have hfz7_5 := bF BK185.out 5
    have hfz7_6 := bF BK185.out 6
    have hfz7_7 := bF BK185.out 7
    have hfz7_8 := bF BK185.out 8
    go_wp2
    go_meet
    case rel => exact ⟨_, (true), (by first | rfl | (simp; done) | (simp [*]; done)), H', ⟨by first | omega | exact Nat.le_refl _⟩, ⟨by (with_reducible repeat (first | refine bN ?_ _ | refine bD ?_ | refine bA ?_ _)); exact BK185.out⟩, ⟨by repeat (first | (with_reducible first | exact HB.out | apply wA | apply wN | apply w1 | refine wS ?_ GE185.out) | exact HB.out)⟩⟩
   ·rw [if_neg c6] at H
    have c6b0 : decide (256 < a0_0) = false := decide_eq_false c6
    clear c6
    by_cases c8 : a0_1 < 8
    ·rw [if_pos c8] at H
     have c8b0 : decide (a0_1 < 8) = true := decide_eq_true c8
     clear c8
     have H' := Aside0.mk H
     clear H
     have hcz9_0 : w3.cell? ⟨gb185, 0, none⟩ = some (.int .i64 a0_0) := (bC BK185.out 0).trans rfl
     have hcz9_1 : w3.cell? ⟨gb185, 1, none⟩ = some (.int .i64 a0_1) := (bC BK185.out 1).trans rfl
     have hcz9_2 : w3.cell? ⟨gb185, 2, none⟩ = some (.int .i64 a0_2) := (bC BK185.out 2).trans rfl
     have hcz9_3 : w3.cell? ⟨gb185, 3, none⟩ = some (.int .i64 a0_3) := (bC BK185.out 3).trans rfl
     have hcz9_4 : w3.cell? ⟨gb185, 4, none⟩ = some (.int .i64 a0_4) := (bC BK185.out 4).trans rfl
     have hcz9_5 : w3.cell? ⟨gb185, 5, none⟩ = some (.int .i64 a0_5) := (bC BK185.out 5).trans rfl
     have hcz9_6 : w3.cell? ⟨gb185, 6, none⟩ = some (.int .i64 a0_6) := (bC BK185.out 6).trans rfl
     have hcz9_7 : w3.cell? ⟨gb185, 7, none⟩ = some (.int .i64 a0_7) := (bC BK185.out 7).trans rfl
     have hcz9_8 : w3.cell? ⟨gb185, 8, none⟩ = some (.int .i64 a0_8) := (bC BK185.out 8).trans rfl
     have hfz9_0 := bF BK185.out 0
     have hfz9_1 := bF BK185.out 1
     have hfz9_2 := bF BK185.out 2
     have hfz9_3 := bF BK185.out 3
     have hfz9_4 := bF BK185.out 4
     have hfz9_5 := bF BK185.out 5
     have hfz9_6 := bF BK185.out 6
     have hfz9_7 := bF BK185.out 7
     have hfz9_8 := bF BK185.out 8
     go_wp2
     go_meet
     case rel => exact ⟨_, (true), (by first | rfl | (simp; done) | (simp [*]; done)), H', ⟨by first | omega | exact Nat.le_refl _⟩, ⟨by (with_reducible repeat (first | refine bN ?_ _ | refine bD ?_ | refine bA ?_ _)); exact BK185.out⟩, ⟨by repeat (first | (with_reducible first | exact HB.out | apply wA | apply wN | apply w1 | refine wS ?_ GE185.out) | exact HB.out)⟩⟩
    ·rw [if_neg c8] at H
     have c8b0 : decide (a0_1 < 8) = false := decide_eq_false c8
     clear c8
     have H' := Aside0.mk H
     clear H
     have hcz10_0 : w3.cell? ⟨gb185, 0, none⟩ = some (.int .i64 a0_0) := (bC BK185.out 0).trans rfl
     have hcz10_1 : w3.cell? ⟨gb185, 1, none⟩ = some (.int .i64 a0_1) := (bC BK185.out 1).trans rfl
     have hcz10_2 : w3.cell? ⟨gb185, 2, none⟩ = some (.int .i64 a0_2) := (bC BK185.out 2).trans rfl
     have hcz10_3 : w3.cell? ⟨gb185, 3, none⟩ = some (.int .i64 a0_3) := (bC BK185.out 3).trans rfl
     have hcz10_4 : w3.cell? ⟨gb185, 4, none⟩ = some (.int .i64 a0_4) := (bC BK185.out 4).trans rfl
     have hcz10_5 : w3.cell? ⟨gb185, 5, none⟩ = some (.int .i64 a0_5) := (bC BK185.out 5).trans rfl
     have hcz10_6 : w3.cell? ⟨gb185, 6, none⟩ = some (.int .i64 a0_6) := (bC BK185.out 6).trans rfl
     have hcz10_7 : w3.cell? ⟨gb185, 7, none⟩ = some (.int .i64 a0_7) := (bC BK185.out 7).trans rfl
     have hcz10_8 : w3.cell? ⟨gb185, 8, none⟩ = some (.int .i64 a0_8) := (bC BK185.out 8).trans rfl
     have hfz10_0 := bF BK185.out 0
     have hfz10_1 := bF BK185.out 1
     have hfz10_2 := bF BK185.out 2
     have hfz10_3 := bF BK185.out 3
     have hfz10_4 := bF BK185.out 4
     have hfz10_5 := bF BK185.out 5
     have hfz10_6 := bF BK185.out 6
     have hfz10_7 := bF BK185.out 7
     have hfz10_8 := bF BK185.out 8
     go_wp2
     go_meet
     case rel => exact ⟨_, (decide (a0_1 > 4096)), (by first | rfl | (simp; done) | (simp [*]; done)), H', ⟨by first | omega | exact Nat.le_refl _⟩, ⟨by (with_reducible repeat (first | refine bN ?_ _ | refine bD ?_ | refine bA ?_ _)); exact BK185.out⟩, ⟨by repeat (first | (with_reducible first | exact HB.out | apply wA | apply wN | apply w1 | refine wS ?_ GE185.out) | exact HB.out)⟩⟩
 case rest =>
  clear HC2
  try clear p2
  try clear c4
  try clear c4b0
  try clear c6
  try clear c6b0
  try clear c8
  try clear c8b0
  try clear hcz10_0
  try clear hcz10_1
  try clear hcz10_2
  try clear hcz10_3
  try clear hcz10_4
  try clear hcz10_5
  try clear hcz10_6
  try clear hcz10_7
  try clear hcz10_8
  try clear hcz5_0
  try clear hcz5_1
  try clear hcz5_2
  try clear hcz5_3
  try clear hcz5_4
  try clear hcz5_5
  try clear hcz5_6
  try clear hcz5_7
  try clear hcz5_8
  try clear hcz7_0
  try clear hcz7_1
  try clear hcz7_2
  try clear hcz7_3
  try clear hcz7_4
  try clear hcz7_5
  try clear hcz7_6
  try clear hcz7_7
  try clear hcz7_8
  try clear hcz9_0
  try clear hcz9_1
  try clear hcz9_2
  try clear hcz9_3
  try clear hcz9_4
  try clear hcz9_5
  try clear hcz9_6
  try clear hcz9_7
  try clear hcz9_8
  try clear hfz10_0
  try clear hfz10_1
  try clear hfz10_2
  try clear hfz10_3
  try clear hfz10_4
  try clear hfz10_5
  try clear hfz10_6
  try clear hfz10_7
  try clear hfz10_8
  try clear hfz5_0
  try clear hfz5_1
  try clear hfz5_2
  try clear hfz5_3
  try clear hfz5_4
  try clear hfz5_5
  try clear hfz5_6
  try clear hfz5_7
  try clear hfz5_8
  try clear hfz7_0
  try clear hfz7_1
  try clear hfz7_2
  try clear hfz7_3
  try clear hfz7_4
  try clear hfz7_5
  try clear hfz7_6
  try clear hfz7_7
  try clear hfz7_8
  try clear hfz9_0
  try clear hfz9_1
  try clear hfz9_2
  try clear hfz9_3
  try clear hfz9_4
  try clear hfz9_5
  try clear hfz9_6
  try clear hfz9_7
  try clear hfz9_8
  obtain ⟨kq, x20_1, rfl, HA, HJ1, BK185, HB⟩ := hcut
  cases kq with
  | zero => exact absurd HA.out (by simp [catchmentref21_Check.j0])
  | succ kj1 =>
   have H := HA.out
   clear HA
   simp only [catchmentref21_Check.j0] at H
   by_cases c11 : x20_1 = true
   ·subst c11
    have H1 : (some 2) = some r := by rw [if_pos rfl] at H; exact H
    clear H
    have H := H1
    clear H1
    obtain rfl := Option.some.inj H
    go_wp2
    go_ret
    exact ⟨by first | rfl | (simp [errW_none, errW_some] <;> rfl) | (simp [*, errW_none, errW_some] <;> rfl), by repeat (first | (with_reducible first | exact HB.out | apply wA | apply wN | apply w1 | refine wS ?_ GE185.out) | exact HB.out)⟩
   ·replace c11 := Bool.eq_false_iff.mpr c11
    subst c11
    have H1 : (if a0_2 < 4 then (catchmentref21_Check.j1 kj1 true a0_0 a0_1 a0_2 a0_3 a0_4 a0_5 a0_6 a0_7 a0_8) else (if a0_2 > 64 then (catchmentref21_Check.j1 kj1 true a0_0 a0_1 a0_2 a0_3 a0_4 a0_5 a0_6 a0_7 a0_8) else (if a0_3 < 0 then (catchmentref21_Check.j1 kj1 true a0_0 a0_1 a0_2 a0_3 a0_4 a0_5 a0_6 a0_7 a0_8) else (catchmentref21_Check.j1 kj1 (decide (a0_3 > 1048576)) a0_0 a0_1 a0_2 a0_3 a0_4 a0_5 a0_6 a0_7 a0_8)))) = some r := by rw [if_neg (show ¬ (false = true) by decide)] at H; exact H
    clear H
    have H := H1
    clear H1
    have HC12 := Aside0.mk H
    clear H
    go_upto_region 3 with (fail)
    go_cut [38] (fun v38 wc => ∃ (kq : Nat) (x38_11 : Bool), v38 = .bool x38_11 ∧ Aside0 (catchmentref21_Check.j1 kq x38_11 a0_0 a0_1 a0_2 a0_3 a0_4 a0_5 a0_6 a0_7 a0_8 = some r) ∧ Aside0 (kq ≤ kj1) ∧ Aside0 (wc.heap[gb185]? = some (.cells #[.int .i64 a0_0, .int .i64 a0_1, .int .i64 a0_2, .int .i64 a0_3, .int .i64 a0_4, .int .i64 a0_5, .int .i64 a0_6, .int .i64 a0_7, .int .i64 a0_8] 23 (0, 0))) ∧ Aside0 (Below w.heap.size w wc))
    case first =>
     have H := HC12.out
     clear HC12
     by_cases c13 : a0_2 < 4
     ·rw [if_pos c13] at H
      have c13b0 : decide (a0_2 < 4) = true := decide_eq_true c13
      clear c13
      (first | rw [c13b0] | (simp only [i64_w, i32_w]; rw [c13b0]) | skip)
      have H' := Aside0.mk H
      clear H
      have hcz14_0 : wc.cell? ⟨gb185, 0, none⟩ = some (.int .i64 a0_0) := (bC BK185.out 0).trans rfl
      have hcz14_1 : wc.cell? ⟨gb185, 1, none⟩ = some (.int .i64 a0_1) := (bC BK185.out 1).trans rfl
      have hcz14_2 : wc.cell? ⟨gb185, 2, none⟩ = some (.int .i64 a0_2) := (bC BK185.out 2).trans rfl
      have hcz14_3 : wc.cell? ⟨gb185, 3, none⟩ = some (.int .i64 a0_3) := (bC BK185.out 3).trans rfl
      have hcz14_4 : wc.cell? ⟨gb185, 4, none⟩ = some (.int .i64 a0_4) := (bC BK185.out 4).trans rfl
      have hcz14_5 : wc.cell? ⟨gb185, 5, none⟩ = some (.int .i64 a0_5) := (bC BK185.out 5).trans rfl
      have hcz14_6 : wc.cell? ⟨gb185, 6, none⟩ = some (.int .i64 a0_6) := (bC BK185.out 6).trans rfl
      have hcz14_7 : wc.cell? ⟨gb185, 7, none⟩ = some (.int .i64 a0_7) := (bC BK185.out 7).trans rfl
      have hcz14_8 : wc.cell? ⟨gb185, 8, none⟩ = some (.int .i64 a0_8) := (bC BK185.out 8).trans rfl
      have hfz14_0 := bF BK185.out 0
      have hfz14_1 := bF BK185.out 1
      have hfz14_2 := bF BK185.out 2
      have hfz14_3 := bF BK185.out 3
      have hfz14_4 := bF BK185.out 4
      have hfz14_5 := bF BK185.out 5
      have hfz14_6 := bF BK185.out 6
      have hfz14_7 := bF BK185.out 7
      have hfz14_8 := bF BK185.out 8
      go_wp2
      go_meet
      case rel => exact ⟨_, (true), (by first | rfl | (simp; done) | (simp [*]; done)), H', ⟨by have := HJ1.out; first | omega | exact Nat.le_refl _⟩, ⟨by (with_reducible repeat (first | refine bN ?_ _ | refine bD ?_ | refine bA ?_ _)); exact BK185.out⟩, ⟨by repeat (first | (with_reducible first | exact HB.out | apply wA | apply wN | apply w1 | refine wS ?_ GE185.out) | exact HB.out)⟩⟩
     ·rw [if_neg c13] at H
      have c13b0 : decide (a0_2 < 4) = false := decide_eq_false c13
      clear c13
      (first | rw [c13b0] | (simp only [i64_w, i32_w]; rw [c13b0]) | skip)
      by_cases c15 : a0_2 > 64
      ·rw [if_pos c15] at H
       have c15b0 : decide (64 < a0_2) = true := decide_eq_true c15
       clear c15
       have H' := Aside0.mk H
       clear H
       have hcz16_0 : wc.cell? ⟨gb185, 0, none⟩ = some (.int .i64 a0_0) := (bC BK185.out 0).trans rfl
       have hcz16_1 : wc.cell? ⟨gb185, 1, none⟩ = some (.int .i64 a0_1) := (bC BK185.out 1).trans rfl
       have hcz16_2 : wc.cell? ⟨gb185, 2, none⟩ = some (.int .i64 a0_2) := (bC BK185.out 2).trans rfl
       have hcz16_3 : wc.cell? ⟨gb185, 3, none⟩ = some (.int .i64 a0_3) := (bC BK185.out 3).trans rfl
       have hcz16_4 : wc.cell? ⟨gb185, 4, none⟩ = some (.int .i64 a0_4) := (bC BK185.out 4).trans rfl
       have hcz16_5 : wc.cell? ⟨gb185, 5, none⟩ = some (.int .i64 a0_5) := (bC BK185.out 5).trans rfl
       have hcz16_6 : wc.cell? ⟨gb185, 6, none⟩ = some (.int .i64 a0_6) := (bC BK185.out 6).trans rfl
       have hcz16_7 : wc.cell? ⟨gb185, 7, none⟩ = some (.int .i64 a0_7) := (bC BK185.out 7).trans rfl
       have hcz16_8 : wc.cell? ⟨gb185, 8, none⟩ = some (.int .i64 a0_8) := (bC BK185.out 8).trans rfl
       have hfz16_0 := bF BK185.out 0
       have hfz16_1 := bF BK185.out 1
       have hfz16_2 := bF BK185.out 2
       have hfz16_3 := bF BK185.out 3
       have hfz16_4 := bF BK185.out 4
       have hfz16_5 := bF BK185.out 5
       have hfz16_6 := bF BK185.out 6
       have hfz16_7 := bF BK185.out 7
       have hfz16_8 := bF BK185.out 8
       go_wp2
       go_meet
       case rel => exact ⟨_, (true), (by first | rfl | (simp; done) | (simp [*]; done)), H', ⟨by have := HJ1.out; first | omega | exact Nat.le_refl _⟩, ⟨by (with_reducible repeat (first | refine bN ?_ _ | refine bD ?_ | refine bA ?_ _)); exact BK185.out⟩, ⟨by repeat (first | (with_reducible first | exact HB.out | apply wA | apply wN | apply w1 | refine wS ?_ GE185.out) | exact HB.out)⟩⟩
      ·rw [if_neg c15] at H
       have c15b0 : decide (64 < a0_2) = false := decide_eq_false c15
       clear c15
       by_cases c17 : a0_3 < 0
       ·rw [if_pos c17] at H
        have c17b0 : decide (a0_3 < 0) = true := decide_eq_true c17
        clear c17
        have H' := Aside0.mk H
        clear H
        have hcz18_0 : wc.cell? ⟨gb185, 0, none⟩ = some (.int .i64 a0_0) := (bC BK185.out 0).trans rfl
        have hcz18_1 : wc.cell? ⟨gb185, 1, none⟩ = some (.int .i64 a0_1) := (bC BK185.out 1).trans rfl
        have hcz18_2 : wc.cell? ⟨gb185, 2, none⟩ = some (.int .i64 a0_2) := (bC BK185.out 2).trans rfl
        have hcz18_3 : wc.cell? ⟨gb185, 3, none⟩ = some (.int .i64 a0_3) := (bC BK185.out 3).trans rfl
        have hcz18_4 : wc.cell? ⟨gb185, 4, none⟩ = some (.int .i64 a0_4) := (bC BK185.out 4).trans rfl
        have hcz18_5 : wc.cell? ⟨gb185, 5, none⟩ = some (.int .i64 a0_5) := (bC BK185.out 5).trans rfl
        have hcz18_6 : wc.cell? ⟨gb185, 6, none⟩ = some (.int .i64 a0_6) := (bC BK185.out 6).trans rfl
        have hcz18_7 : wc.cell? ⟨gb185, 7, none⟩ = some (.int .i64 a0_7) := (bC BK185.out 7).trans rfl
        have hcz18_8 : wc.cell? ⟨gb185, 8, none⟩ = some (.int .i64 a0_8) := (bC BK185.out 8).trans rfl
        have hfz18_0 := bF BK185.out 0
        have hfz18_1 := bF BK185.out 1
        have hfz18_2 := bF BK185.out 2
        have hfz18_3 := bF BK185.out 3
        have hfz18_4 := bF BK185.out 4
        have hfz18_5 := bF BK185.out 5
        have hfz18_6 := bF BK185.out 6
        have hfz18_7 := bF BK185.out 7
        have hfz18_8 := bF BK185.out 8
        go_wp2
        go_meet
        case rel => exact ⟨_, (true), (by first | rfl | (simp; done) | (simp [*]; done)), H', ⟨by have := HJ1.out; first | omega | exact Nat.le_refl _⟩, ⟨by (with_reducible repeat (first | refine bN ?_ _ | refine bD ?_ | refine bA ?_ _)); exact BK185.out⟩, ⟨by repeat (first | (with_reducible first | exact HB.out | apply wA | apply wN | apply w1 | refine wS ?_ GE185.out) | exact HB.out)⟩⟩
       ·rw [if_neg c17] at H
        have c17b0 : decide (a0_3 < 0) = false := decide_eq_false c17
        clear c17
        have H' := Aside0.mk H
        clear H
        have hcz19_0 : wc.cell? ⟨gb185, 0, none⟩ = some (.int .i64 a0_0) := (bC BK185.out 0).trans rfl
        have hcz19_1 : wc.cell? ⟨gb185, 1, none⟩ = some (.int .i64 a0_1) := (bC BK185.out 1).trans rfl
        have hcz19_2 : wc.cell? ⟨gb185, 2, none⟩ = some (.int .i64 a0_2) := (bC BK185.out 2).trans rfl
        have hcz19_3 : wc.cell? ⟨gb185, 3, none⟩ = some (.int .i64 a0_3) := (bC BK185.out 3).trans rfl
        have hcz19_4 : wc.cell? ⟨gb185, 4, none⟩ = some (.int .i64 a0_4) := (bC BK185.out 4).trans rfl
        have hcz19_5 : wc.cell? ⟨gb185, 5, none⟩ = some (.int .i64 a0_5) := (bC BK185.out 5).trans rfl
        have hcz19_6 : wc.cell? ⟨gb185, 6, none⟩ = some (.int .i64 a0_6) := (bC BK185.out 6).trans rfl
        have hcz19_7 : wc.cell? ⟨gb185, 7, none⟩ = some (.int .i64 a0_7) := (bC BK185.out 7).trans rfl
        have hcz19_8 : wc.cell? ⟨gb185, 8, none⟩ = some (.int .i64 a0_8) := (bC BK185.out 8).trans rfl
        have hfz19_0 := bF BK185.out 0
        have hfz19_1 := bF BK185.out 1
        have hfz19_2 := bF BK185.out 2
        have hfz19_3 := bF BK185.out 3
        have hfz19_4 := bF BK185.out 4
        have hfz19_5 := bF BK185.out 5
        have hfz19_6 := bF BK185.out 6
        have hfz19_7 := bF BK185.out 7
        have hfz19_8 := bF BK185.out 8
        go_wp2
        go_meet
        case rel => exact ⟨_, (decide (a0_3 > 1048576)), (by first | rfl | (simp; done) | (simp [*]; done)), H', ⟨by have := HJ1.out; first | omega | exact Nat.le_refl _⟩, ⟨by (with_reducible repeat (first | refine bN ?_ _ | refine bD ?_ | refine bA ?_ _)); exact BK185.out⟩, ⟨by repeat (first | (with_reducible first | exact HB.out | apply wA | apply wN | apply w1 | refine wS ?_ GE185.out) | exact HB.out)⟩⟩
    case rest =>
     clear HC12
     try clear c1
     try clear p2
     try clear c4
     try clear c4b0
     try clear c6
     try clear c6b0
     try clear c8
     try clear c8b0
     try clear c11
     try clear c13
     try clear c13b0
     try clear c15
     try clear c15b0
     try clear c17
     try clear c17b0
     try clear hcz10_0
     try clear hcz10_1
     try clear hcz10_2
     try clear hcz10_3
     try clear hcz10_4
     try clear hcz10_5
     try clear hcz10_6
     try clear hcz10_7
     try clear hcz10_8
     try clear hcz14_0
     try clear hcz14_1
     try clear hcz14_2
     try clear hcz14_3
     try clear hcz14_4
     try clear hcz14_5
     try clear hcz14_6
     try clear hcz14_7
     try clear hcz14_8
     try clear hcz16_0
     try clear hcz16_1
     try clear hcz16_2
     try clear hcz16_3
     try clear hcz16_4
     try clear hcz16_5
     try clear hcz16_6
     try clear hcz16_7
     try clear hcz16_8
     try clear hcz18_0
     try clear hcz18_1
     try clear hcz18_2
     try clear hcz18_3
     try clear hcz18_4
     try clear hcz18_5
     try clear hcz18_6
     try clear hcz18_7
     try clear hcz18_8
     try clear hcz19_0
     try clear hcz19_1
     try clear hcz19_2
     try clear hcz19_3
     try clear hcz19_4
     try clear hcz19_5
     try clear hcz19_6
     try clear hcz19_7
     try clear hcz19_8
     try clear hcz5_0
     try clear hcz5_1
     try clear hcz5_2
     try clear hcz5_3
     try clear hcz5_4
     try clear hcz5_5
     try clear hcz5_6
     try clear hcz5_7
     try clear hcz5_8
     try clear hcz7_0
     try clear hcz7_1
     try clear hcz7_2
     try clear hcz7_3
     try clear hcz7_4
     try clear hcz7_5
     try clear hcz7_6
     try clear hcz7_7
     try clear hcz7_8
     try clear hcz9_0
     try clear hcz9_1
     try clear hcz9_2
     try clear hcz9_3
     try clear hcz9_4
     try clear hcz9_5
     try clear hcz9_6
     try clear hcz9_7
     try clear hcz9_8
     try clear hfz10_0
     try clear hfz10_1
     try clear hfz10_2
     try clear hfz10_3
     try clear hfz10_4
     try clear hfz10_5
     try clear hfz10_6
     try clear hfz10_7
     try clear hfz10_8
     try clear hfz14_0
     try clear hfz14_1
     try clear hfz14_2
     try clear hfz14_3
     try clear hfz14_4
     try clear hfz14_5
     try clear hfz14_6
     try clear hfz14_7
     try clear hfz14_8
     try clear hfz16_0
     try clear hfz16_1
     try clear hfz16_2
     try clear hfz16_3
     try clear hfz16_4
     try clear hfz16_5
     try clear hfz16_6
     try clear hfz16_7
     try clear hfz16_8
     try clear hfz18_0
     try clear hfz18_1
     try clear hfz18_2
     try clear hfz18_3
     try clear hfz18_4
     try clear hfz18_5
     try clear hfz18_6
     try clear hfz18_7
     try clear hfz18_8
     try clear hfz19_0
     try clear hfz19_1
     try clear hfz19_2
     try clear hfz19_3
     try clear hfz19_4
     try clear hfz19_5
     try clear hfz19_6
     try clear hfz19_7
     try clear hfz19_8
     try clear hfz5_0
     try clear hfz5_1
     try clear hfz5_2
     try clear hfz5_3
     try clear hfz5_4
     try clear hfz5_5
     try clear hfz5_6
     try clear hfz5_7
     try clear hfz5_8
     try clear hfz7_0
     try clear hfz7_1
     try clear hfz7_2
     try clear hfz7_3
     try clear hfz7_4
     try clear hfz7_5
     try clear hfz7_6
     try clear hfz7_7
     try clear hfz7_8
     try clear hfz9_0
     try clear hfz9_1
     try clear hfz9_2
     try clear hfz9_3
     try clear hfz9_4
     try clear hfz9_5
     try clear hfz9_6
     try clear hfz9_7
     try clear hfz9_8
     try clear p2
     obtain ⟨kq, x38_11, rfl, HA, HJ11, BK185, HB⟩ := hcut
     cases kq with
     | zero => exact absurd HA.out (by simp [catchmentref21_Check.j1])
     | succ kj11 =>
      have H := HA.out
      clear HA
      simp only [catchmentref21_Check.j1] at H
      by_cases c20 : x38_11 = true
      ·subst c20
       have H1 : (some 2) = some r := by rw [if_pos rfl] at H; exact H
       clear H
       have H := H1
       clear H1
       obtain rfl := Option.some.inj H
       go_wp2
       go_ret
       exact ⟨by first | rfl | (simp [errW_none, errW_some] <;> rfl) | (simp [*, errW_none, errW_some] <;> rfl), by repeat (first | (with_reducible first | exact HB.out | apply wA | apply wN | apply w1 | refine wS ?_ GE185.out) | exact HB.out)⟩
      ·replace c20 := Bool.eq_false_iff.mpr c20
       subst c20
       have H1 : (if a0_4 < 4 then (catchmentref21_Check.j2 kj11 true a0_0 a0_1 a0_2 a0_3 a0_4 a0_5 a0_6 a0_7 a0_8) else (if a0_4 > 256 then (catchmentref21_Check.j2 kj11 true a0_0 a0_1 a0_2 a0_3 a0_4 a0_5 a0_6 a0_7 a0_8) else (if a0_5 < 2 then (catchmentref21_Check.j2 kj11 true a0_0 a0_1 a0_2 a0_3 a0_4 a0_5 a0_6 a0_7 a0_8) else (catchmentref21_Check.j2 kj11 (decide (a0_5 > a0_4)) a0_0 a0_1 a0_2 a0_3 a0_4 a0_5 a0_6 a0_7 a0_8)))) = some r := by rw [if_neg (show ¬ (false = true) by decide)] at H; exact H
       clear H
       have H := H1
       clear H1
       have HC21 := Aside0.mk H
       clear H
       go_upto_region 5 with (fail)
       go_cut [58] (fun v58 wc => ∃ (kq : Nat) (x58_20 : Bool), v58 = .bool x58_20 ∧ Aside0 (catchmentref21_Check.j2 kq x58_20 a0_0 a0_1 a0_2 a0_3 a0_4 a0_5 a0_6 a0_7 a0_8 = some r) ∧ Aside0 (kq ≤ kj11) ∧ Aside0 (wc.heap[gb185]? = some (.cells #[.int .i64 a0_0, .int .i64 a0_1, .int .i64 a0_2, .int .i64 a0_3, .int .i64 a0_4, .int .i64 a0_5, .int .i64 a0_6, .int .i64 a0_7, .int .i64 a0_8] 23 (0, 0))) ∧ Aside0 (Below w.heap.size w wc))
       case first =>
        have H := HC21.out
        clear HC21
        by_cases c22 : a0_4 < 4
        ·rw [if_pos c22] at H
         have c22b0 : decide (a0_4 < 4) = true := decide_eq_true c22
         clear c22
         (first | rw [c22b0] | (simp only [i64_w, i32_w]; rw [c22b0]) | skip)
         have H' := Aside0.mk H
         clear H
         have hcz23_0 : wc.cell? ⟨gb185, 0, none⟩ = some (.int .i64 a0_0) := (bC BK185.out 0).trans rfl
         have hcz23_1 : wc.cell? ⟨gb185, 1, none⟩ = some (.int .i64 a0_1) := (bC BK185.out 1).trans rfl
         have hcz23_2 : wc.cell? ⟨gb185, 2, none⟩ = some (.int .i64 a0_2) := (bC BK185.out 2).trans rfl
         have hcz23_3 : wc.cell? ⟨gb185, 3, none⟩ = some (.int .i64 a0_3) := (bC BK185.out 3).trans rfl
         have hcz23_4 : wc.cell? ⟨gb185, 4, none⟩ = some (.int .i64 a0_4) := (bC BK185.out 4).trans rfl
         have hcz23_5 : wc.cell? ⟨gb185, 5, none⟩ = some (.int .i64 a0_5) := (bC BK185.out 5).trans rfl
         have hcz23_6 : wc.cell? ⟨gb185, 6, none⟩ = some (.int .i64 a0_6) := (bC BK185.out 6).trans rfl
         have hcz23_7 : wc.cell? ⟨gb185, 7, none⟩ = some (.int .i64 a0_7) := (bC BK185.out 7).trans rfl
         have hcz23_8 : wc.cell? ⟨gb185, 8, none⟩ = some (.int .i64 a0_8) := (bC BK185.out 8).trans rfl
         have hfz23_0 := bF BK185.out 0
         have hfz23_1 := bF BK185.out 1
         have hfz23_2 := bF BK185.out 2
         have hfz23_3 := bF BK185.out 3
         have hfz23_4 := bF BK185.out 4
         have hfz23_5 := bF BK185.out 5
         have hfz23_6 := bF BK185.out 6
         have hfz23_7 := bF BK185.out 7
         have hfz23_8 := bF BK185.out 8
         go_wp2
         go_meet
         case rel => exact ⟨_, (true), (by first | rfl | (simp; done) | (simp [*]; done)), H', ⟨by have := HJ1.out; have := HJ11.out; first | omega | exact Nat.le_refl _⟩, ⟨by (with_reducible repeat (first | refine bN ?_ _ | refine bD ?_ | refine bA ?_ _)); exact BK185.out⟩, ⟨by repeat (first | (with_reducible first | exact HB.out | apply wA | apply wN | apply w1 | refine wS ?_ GE185.out) | exact HB.out)⟩⟩
        ·rw [if_neg c22] at H
         have c22b0 : decide (a0_4 < 4) = false := decide_eq_false c22
         clear c22
         (first | rw [c22b0] | (simp only [i64_w, i32_w]; rw [c22b0]) | skip)
         by_cases c24 : a0_4 > 256
         ·rw [if_pos c24] at H
          have c24b0 : decide (256 < a0_4) = true := decide_eq_true c24
          clear c24
          have H' := Aside0.mk H
          clear H
          have hcz25_0 : wc.cell? ⟨gb185, 0, none⟩ = some (.int .i64 a0_0) := (bC BK185.out 0).trans rfl
          have hcz25_1 : wc.cell? ⟨gb185, 1, none⟩ = some (.int .i64 a0_1) := (bC BK185.out 1).trans rfl
          have hcz25_2 : wc.cell? ⟨gb185, 2, none⟩ = some (.int .i64 a0_2) := (bC BK185.out 2).trans rfl
          have hcz25_3 : wc.cell? ⟨gb185, 3, none⟩ = some (.int .i64 a0_3) := (bC BK185.out 3).trans rfl
          have hcz25_4 : wc.cell? ⟨gb185, 4, none⟩ = some (.int .i64 a0_4) := (bC BK185.out 4).trans rfl
          have hcz25_5 : wc.cell? ⟨gb185, 5, none⟩ = some (.int .i64 a0_5) := (bC BK185.out 5).trans rfl
          have hcz25_6 : wc.cell? ⟨gb185, 6, none⟩ = some (.int .i64 a0_6) := (bC BK185.out 6).trans rfl
          have hcz25_7 : wc.cell? ⟨gb185, 7, none⟩ = some (.int .i64 a0_7) := (bC BK185.out 7).trans rfl
          have hcz25_8 : wc.cell? ⟨gb185, 8, none⟩ = some (.int .i64 a0_8) := (bC BK185.out 8).trans rfl
          have hfz25_0 := bF BK185.out 0
          have hfz25_1 := bF BK185.out 1
          have hfz25_2 := bF BK185.out 2
          have hfz25_3 := bF BK185.out 3
          have hfz25_4 := bF BK185.out 4
          have hfz25_5 := bF BK185.out 5
          have hfz25_6 := bF BK185.out 6
          have hfz25_7 := bF BK185.out 7
          have hfz25_8 := bF BK185.out 8
          go_wp2
          go_meet
          case rel => exact ⟨_, (true), (by first | rfl | (simp; done) | (simp [*]; done)), H', ⟨by have := HJ1.out; have := HJ11.out; first | omega | exact Nat.le_refl _⟩, ⟨by (with_reducible repeat (first | refine bN ?_ _ | refine bD ?_ | refine bA ?_ _)); exact BK185.out⟩, ⟨by repeat (first | (with_reducible first | exact HB.out | apply wA | apply wN | apply w1 | refine wS ?_ GE185.out) | exact HB.out)⟩⟩
         ·rw [if_neg c24] at H
          have c24b0 : decide (256 < a0_4) = false := decide_eq_false c24
          clear c24
          by_cases c26 : a0_5 < 2
          ·rw [if_pos c26] at H
           have c26b0 : decide (a0_5 < 2) = true := decide_eq_true c26
           clear c26
           have H' := Aside0.mk H
           clear H
           have hcz27_0 : wc.cell? ⟨gb185, 0, none⟩ = some (.int .i64 a0_0) := (bC BK185.out 0).trans rfl
           have hcz27_1 : wc.cell? ⟨gb185, 1, none⟩ = some (.int .i64 a0_1) := (bC BK185.out 1).trans rfl
           have hcz27_2 : wc.cell? ⟨gb185, 2, none⟩ = some (.int .i64 a0_2) := (bC BK185.out 2).trans rfl
           have hcz27_3 : wc.cell? ⟨gb185, 3, none⟩ = some (.int .i64 a0_3) := (bC BK185.out 3).trans rfl
           have hcz27_4 : wc.cell? ⟨gb185, 4, none⟩ = some (.int .i64 a0_4) := (bC BK185.out 4).trans rfl
           have hcz27_5 : wc.cell? ⟨gb185, 5, none⟩ = some (.int .i64 a0_5) := (bC BK185.out 5).trans rfl
           have hcz27_6 : wc.cell? ⟨gb185, 6, none⟩ = some (.int .i64 a0_6) := (bC BK185.out 6).trans rfl
           have hcz27_7 : wc.cell? ⟨gb185, 7, none⟩ = some (.int .i64 a0_7) := (bC BK185.out 7).trans rfl
           have hcz27_8 : wc.cell? ⟨gb185, 8, none⟩ = some (.int .i64 a0_8) := (bC BK185.out 8).trans rfl
           have hfz27_0 := bF BK185.out 0
           have hfz27_1 := bF BK185.out 1
           have hfz27_2 := bF BK185.out 2
           have hfz27_3 := bF BK185.out 3
           have hfz27_4 := bF BK185.out 4
           have hfz27_5 := bF BK185.out 5
           have hfz27_6 := bF BK185.out 6
           have hfz27_7 := bF BK185.out 7
           have hfz27_8 := bF BK185.out 8
           go_wp2
           go_meet
           case rel => exact ⟨_, (true), (by first | rfl | (simp; done) | (simp [*]; done)), H', ⟨by have := HJ1.out; have := HJ11.out; first | omega | exact Nat.le_refl _⟩, ⟨by (with_reducible repeat (first | refine bN ?_ _ | refine bD ?_ | refine bA ?_ _)); exact BK185.out⟩, ⟨by repeat (first | (with_reducible first | exact HB.out | apply wA | apply wN | apply w1 | refine wS ?_ GE185.out) | exact HB.out)⟩⟩
          ·rw [if_neg c26] at H
           have c26b0 : decide (a0_5 < 2) = false := decide_eq_false c26
           clear c26
           have H' := Aside0.mk H
           clear H
           have hcz28_0 : wc.cell? ⟨gb185, 0, none⟩ = some (.int .i64 a0_0) := (bC BK185.out 0).trans rfl
           have hcz28_1 : wc.cell? ⟨gb185, 1, none⟩ = some (.int .i64 a0_1) := (bC BK185.out 1).trans rfl
           have hcz28_2 : wc.cell? ⟨gb185, 2, none⟩ = some (.int .i64 a0_2) := (bC BK185.out 2).trans rfl
           have hcz28_3 : wc.cell? ⟨gb185, 3, none⟩ = some (.int .i64 a0_3) := (bC BK185.out 3).trans rfl
           have hcz28_4 : wc.cell? ⟨gb185, 4, none⟩ = some (.int .i64 a0_4) := (bC BK185.out 4).trans rfl
           have hcz28_5 : wc.cell? ⟨gb185, 5, none⟩ = some (.int .i64 a0_5) := (bC BK185.out 5).trans rfl
           have hcz28_6 : wc.cell? ⟨gb185, 6, none⟩ = some (.int .i64 a0_6) := (bC BK185.out 6).trans rfl
           have hcz28_7 : wc.cell? ⟨gb185, 7, none⟩ = some (.int .i64 a0_7) := (bC BK185.out 7).trans rfl
           have hcz28_8 : wc.cell? ⟨gb185, 8, none⟩ = some (.int .i64 a0_8) := (bC BK185.out 8).trans rfl
           have hfz28_0 := bF BK185.out 0
           have hfz28_1 := bF BK185.out 1
           have hfz28_2 := bF BK185.out 2
           have hfz28_3 := bF BK185.out 3
           have hfz28_4 := bF BK185.out 4
           have hfz28_5 := bF BK185.out 5
           have hfz28_6 := bF BK185.out 6
           have hfz28_7 := bF BK185.out 7
           have hfz28_8 := bF BK185.out 8
           go_wp2
           go_meet
           case rel => exact ⟨_, (decide (a0_5 > a0_4)), (by first | rfl | (simp; done) | (simp [*]; done)), H', ⟨by have := HJ1.out; have := HJ11.out; first | omega | exact Nat.le_refl _⟩, ⟨by (with_reducible repeat (first | refine bN ?_ _ | refine bD ?_ | refine bA ?_ _)); exact BK185.out⟩, ⟨by repeat (first | (with_reducible first | exact HB.out | apply wA | apply wN | apply w1 | refine wS ?_ GE185.out) | exact HB.out)⟩⟩
       case rest =>
        clear HC21
        try clear c1
        try clear c2
        try clear p2
        try clear c4
        try clear c4b0
        try clear c6
        try clear c6b0
        try clear c8
        try clear c8b0
        try clear c11
        try clear c13
        try clear c13b0
        try clear c15
        try clear c15b0
        try clear c17
        try clear c17b0
        try clear c20
        try clear c22
        try clear c22b0
        try clear c24
        try clear c24b0
        try clear c26
        try clear c26b0
        try clear hcz10_0
        try clear hcz10_1
        try clear hcz10_2
        try clear hcz10_3
        try clear hcz10_4
        try clear hcz10_5
        try clear hcz10_6
        try clear hcz10_7
        try clear hcz10_8
        try clear hcz14_0
        try clear hcz14_1
        try clear hcz14_2
        try clear hcz14_3
        try clear hcz14_4
        try clear hcz14_5
        try clear hcz14_6
        try clear hcz14_7
        try clear hcz14_8
        try clear hcz16_0
        try clear hcz16_1
        try clear hcz16_2
        try clear hcz16_3
        try clear hcz16_4
        try clear hcz16_5
        try clear hcz16_6
        try clear hcz16_7
        try clear hcz16_8
        try clear hcz18_0
        try clear hcz18_1
        try clear hcz18_2
        try clear hcz18_3
        try clear hcz18_4
        try clear hcz18_5
        try clear hcz18_6
        try clear hcz18_7
        try clear hcz18_8
        try clear hcz19_0
        try clear hcz19_1
        try clear hcz19_2
        try clear hcz19_3
        try clear hcz19_4
        try clear hcz19_5
        try clear hcz19_6
        try clear hcz19_7
        try clear hcz19_8
        try clear hcz23_0
        try clear hcz23_1
        try clear hcz23_2
        try clear hcz23_3
        try clear hcz23_4
        try clear hcz23_5
        try clear hcz23_6
        try clear hcz23_7
        try clear hcz23_8
        try clear hcz25_0
        try clear hcz25_1
        try clear hcz25_2
        try clear hcz25_3
        try clear hcz25_4
        try clear hcz25_5
        try clear hcz25_6
        try clear hcz25_7
        try clear hcz25_8
        try clear hcz27_0
        try clear hcz27_1
        try clear hcz27_2
        try clear hcz27_3
        try clear hcz27_4
        try clear hcz27_5
        try clear hcz27_6
        try clear hcz27_7
        try clear hcz27_8
        try clear hcz28_0
        try clear hcz28_1
        try clear hcz28_2
        try clear hcz28_3
        try clear hcz28_4
        try clear hcz28_5
        try clear hcz28_6
        try clear hcz28_7
        try clear hcz28_8
        try clear hcz5_0
        try clear hcz5_1
        try clear hcz5_2
        try clear hcz5_3
        try clear hcz5_4
        try clear hcz5_5
        try clear hcz5_6
        try clear hcz5_7
        try clear hcz5_8
        try clear hcz7_0
        try clear hcz7_1
        try clear hcz7_2
        try clear hcz7_3
        try clear hcz7_4
        try clear hcz7_5
        try clear hcz7_6
        try clear hcz7_7
        try clear hcz7_8
        try clear hcz9_0
        try clear hcz9_1
        try clear hcz9_2
        try clear hcz9_3
        try clear hcz9_4
        try clear hcz9_5
        try clear hcz9_6
        try clear hcz9_7
        try clear hcz9_8
        try clear hfz10_0
        try clear hfz10_1
        try clear hfz10_2
        try clear hfz10_3
        try clear hfz10_4
        try clear hfz10_5
        try clear hfz10_6
        try clear hfz10_7
        try clear hfz10_8
        try clear hfz14_0
        try clear hfz14_1
        try clear hfz14_2
        try clear hfz14_3
        try clear hfz14_4
        try clear hfz14_5
        try clear hfz14_6
        try clear hfz14_7
        try clear hfz14_8
        try clear hfz16_0
        try clear hfz16_1
        try clear hfz16_2
        try clear hfz16_3
        try clear hfz16_4
        try clear hfz16_5
        try clear hfz16_6
        try clear hfz16_7
        try clear hfz16_8
        try clear hfz18_0
        try clear hfz18_1
        try clear hfz18_2
        try clear hfz18_3
        try clear hfz18_4
        try clear hfz18_5
        try clear hfz18_6
        try clear hfz18_7
        try clear hfz18_8
        try clear hfz19_0
        try clear hfz19_1
        try clear hfz19_2
        try clear hfz19_3
        try clear hfz19_4
        try clear hfz19_5
        try clear hfz19_6
        try clear hfz19_7
        try clear hfz19_8
        try clear hfz23_0
        try clear hfz23_1
        try clear hfz23_2
        try clear hfz23_3
        try clear hfz23_4
        try clear hfz23_5
        try clear hfz23_6
        try clear hfz23_7
        try clear hfz23_8
        try clear hfz25_0
        try clear hfz25_1
        try clear hfz25_2
        try clear hfz25_3
        try clear hfz25_4
        try clear hfz25_5
        try clear hfz25_6
        try clear hfz25_7
        try clear hfz25_8
        try clear hfz27_0
        try clear hfz27_1
        try clear hfz27_2
        try clear hfz27_3
        try clear hfz27_4
        try clear hfz27_5
        try clear hfz27_6
        try clear hfz27_7
        try clear hfz27_8
        try clear hfz28_0
        try clear hfz28_1
        try clear hfz28_2
        try clear hfz28_3
        try clear hfz28_4
        try clear hfz28_5
        try clear hfz28_6
        try clear hfz28_7
        try clear hfz28_8
        try clear hfz5_0
        try clear hfz5_1
        try clear hfz5_2
        try clear hfz5_3
        try clear hfz5_4
        try clear hfz5_5
        try clear hfz5_6
        try clear hfz5_7
        try clear hfz5_8
        try clear hfz7_0
        try clear hfz7_1
        try clear hfz7_2
        try clear hfz7_3
        try clear hfz7_4
        try clear hfz7_5
        try clear hfz7_6
        try clear hfz7_7
        try clear hfz7_8
        try clear hfz9_0
        try clear hfz9_1
        try clear hfz9_2
        try clear hfz9_3
        try clear hfz9_4
        try clear hfz9_5
        try clear hfz9_6
        try clear hfz9_7
        try clear hfz9_8
        try clear p2
        obtain ⟨kq, x58_20, rfl, HA, HJ20, BK185, HB⟩ := hcut
        cases kq with
        | zero => exact absurd HA.out (by simp [catchmentref21_Check.j2])
        | succ kj20 =>
         have H := HA.out
         clear HA
         simp only [catchmentref21_Check.j2] at H
         by_cases c29 : x58_20 = true
         ·subst c29
          have H1 : (some 2) = some r := by rw [if_pos rfl] at H; exact H
          clear H
          have H := H1
          clear H1
          obtain rfl := Option.some.inj H
          go_wp2
          go_ret
          exact ⟨by first | rfl | (simp [errW_none, errW_some] <;> rfl) | (simp [*, errW_none, errW_some] <;> rfl), by repeat (first | (with_reducible first | exact HB.out | apply wA | apply wN | apply w1 | refine wS ?_ GE185.out) | exact HB.out)⟩
         ·replace c29 := Bool.eq_false_iff.mpr c29
          subst c29
          have H1 : (if a0_6 < 2 then (some 2) else (if a0_6 > 4096 then (some 2) else (if a0_7 < 0 then (some 2) else (if a0_7 > 1000 then (some 2) else (if a0_8 < 1 then (some 2) else (if a0_8 > 1024 then (some 2) else (some 0))))))) = some r := by rw [if_neg (show ¬ (false = true) by decide)] at H; exact H
          clear H
          have H := H1
          clear H1
          by_cases c30 : a0_6 < 2
          ·rw [if_pos c30] at H
           have c30b0 : decide (a0_6 < 2) = true := decide_eq_true c30
           clear c30
           obtain rfl := Option.some.inj H
           have hcz31_0 : wc.cell? ⟨gb185, 0, none⟩ = some (.int .i64 a0_0) := (bC BK185.out 0).trans rfl
           have hcz31_1 : wc.cell? ⟨gb185, 1, none⟩ = some (.int .i64 a0_1) := (bC BK185.out 1).trans rfl
           have hcz31_2 : wc.cell? ⟨gb185, 2, none⟩ = some (.int .i64 a0_2) := (bC BK185.out 2).trans rfl
           have hcz31_3 : wc.cell? ⟨gb185, 3, none⟩ = some (.int .i64 a0_3) := (bC BK185.out 3).trans rfl
           have hcz31_4 : wc.cell? ⟨gb185, 4, none⟩ = some (.int .i64 a0_4) := (bC BK185.out 4).trans rfl
           have hcz31_5 : wc.cell? ⟨gb185, 5, none⟩ = some (.int .i64 a0_5) := (bC BK185.out 5).trans rfl
           have hcz31_6 : wc.cell? ⟨gb185, 6, none⟩ = some (.int .i64 a0_6) := (bC BK185.out 6).trans rfl
           have hcz31_7 : wc.cell? ⟨gb185, 7, none⟩ = some (.int .i64 a0_7) := (bC BK185.out 7).trans rfl
           have hcz31_8 : wc.cell? ⟨gb185, 8, none⟩ = some (.int .i64 a0_8) := (bC BK185.out 8).trans rfl
           have hfz31_0 := bF BK185.out 0
           have hfz31_1 := bF BK185.out 1
           have hfz31_2 := bF BK185.out 2
           have hfz31_3 := bF BK185.out 3
           have hfz31_4 := bF BK185.out 4
           have hfz31_5 := bF BK185.out 5
           have hfz31_6 := bF BK185.out 6
           have hfz31_7 := bF BK185.out 7
           have hfz31_8 := bF BK185.out 8
           go_wp2
           go_ret
           exact ⟨by first | rfl | (simp [errW_none, errW_some] <;> rfl) | (simp [*, errW_none, errW_some] <;> rfl), by repeat (first | (with_reducible first | exact HB.out | apply wA | apply wN | apply w1 | refine wS ?_ GE185.out) | exact HB.out)⟩
          ·rw [if_neg c30] at H
           have c30b0 : decide (a0_6 < 2) = false := decide_eq_false c30
           clear c30
           by_cases c32 : a0_6 > 4096
           ·rw [if_pos c32] at H
            have c32b0 : decide (4096 < a0_6) = true := decide_eq_true c32
            clear c32
            obtain rfl := Option.some.inj H
            have hcz33_0 : wc.cell? ⟨gb185, 0, none⟩ = some (.int .i64 a0_0) := (bC BK185.out 0).trans rfl
            have hcz33_1 : wc.cell? ⟨gb185, 1, none⟩ = some (.int .i64 a0_1) := (bC BK185.out 1).trans rfl
            have hcz33_2 : wc.cell? ⟨gb185, 2, none⟩ = some (.int .i64 a0_2) := (bC BK185.out 2).trans rfl
            have hcz33_3 : wc.cell? ⟨gb185, 3, none⟩ = some (.int .i64 a0_3) := (bC BK185.out 3).trans rfl
            have hcz33_4 : wc.cell? ⟨gb185, 4, none⟩ = some (.int .i64 a0_4) := (bC BK185.out 4).trans rfl
            have hcz33_5 : wc.cell? ⟨gb185, 5, none⟩ = some (.int .i64 a0_5) := (bC BK185.out 5).trans rfl
            have hcz33_6 : wc.cell? ⟨gb185, 6, none⟩ = some (.int .i64 a0_6) := (bC BK185.out 6).trans rfl
            have hcz33_7 : wc.cell? ⟨gb185, 7, none⟩ = some (.int .i64 a0_7) := (bC BK185.out 7).trans rfl
            have hcz33_8 : wc.cell? ⟨gb185, 8, none⟩ = some (.int .i64 a0_8) := (bC BK185.out 8).trans rfl
            have hfz33_0 := bF BK185.out 0
            have hfz33_1 := bF BK185.out 1
            have hfz33_2 := bF BK185.out 2
            have hfz33_3 := bF BK185.out 3
            have hfz33_4 := bF BK185.out 4
            have hfz33_5 := bF BK185.out 5
            have hfz33_6 := bF BK185.out 6
            have hfz33_7 := bF BK185.out 7
            have hfz33_8 := bF BK185.out 8
            go_wp2
            go_ret
            exact ⟨by first | rfl | (simp [errW_none, errW_some] <;> rfl) | (simp [*, errW_none, errW_some] <;> rfl), by repeat (first | (with_reducible first | exact HB.out | apply wA | apply wN | apply w1 | refine wS ?_ GE185.out) | exact HB.out)⟩
           ·rw [if_neg c32] at H
            have c32b0 : decide (4096 < a0_6) = false := decide_eq_false c32
            clear c32
            by_cases c34 : a0_7 < 0
            ·rw [if_pos c34] at H
             have c34b0 : decide (a0_7 < 0) = true := decide_eq_true c34
             clear c34
             obtain rfl := Option.some.inj H
             have hcz35_0 : wc.cell? ⟨gb185, 0, none⟩ = some (.int .i64 a0_0) := (bC BK185.out 0).trans rfl
             have hcz35_1 : wc.cell? ⟨gb185, 1, none⟩ = some (.int .i64 a0_1) := (bC BK185.out 1).trans rfl
             have hcz35_2 : wc.cell? ⟨gb185, 2, none⟩ = some (.int .i64 a0_2) := (bC BK185.out 2).trans rfl
             have hcz35_3 : wc.cell? ⟨gb185, 3, none⟩ = some (.int .i64 a0_3) := (bC BK185.out 3).trans rfl
             have hcz35_4 : wc.cell? ⟨gb185, 4, none⟩ = some (.int .i64 a0_4) := (bC BK185.out 4).trans rfl
             have hcz35_5 : wc.cell? ⟨gb185, 5, none⟩ = some (.int .i64 a0_5) := (bC BK185.out 5).trans rfl
             have hcz35_6 : wc.cell? ⟨gb185, 6, none⟩ = some (.int .i64 a0_6) := (bC BK185.out 6).trans rfl
             have hcz35_7 : wc.cell? ⟨gb185, 7, none⟩ = some (.int .i64 a0_7) := (bC BK185.out 7).trans rfl
             have hcz35_8 : wc.cell? ⟨gb185, 8, none⟩ = some (.int .i64 a0_8) := (bC BK185.out 8).trans rfl
             have hfz35_0 := bF BK185.out 0
             have hfz35_1 := bF BK185.out 1
             have hfz35_2 := bF BK185.out 2
             have hfz35_3 := bF BK185.out 3
             have hfz35_4 := bF BK185.out 4
             have hfz35_5 := bF BK185.out 5
             have hfz35_6 := bF BK185.out 6
             have hfz35_7 := bF BK185.out 7
             have hfz35_8 := bF BK185.out 8
             go_wp2
             go_ret
             exact ⟨by first | rfl | (simp [errW_none, errW_some] <;> rfl) | (simp [*, errW_none, errW_some] <;> rfl), by repeat (first | (with_reducible first | exact HB.out | apply wA | apply wN | apply w1 | refine wS ?_ GE185.out) | exact HB.out)⟩
            ·rw [if_neg c34] at H
             have c34b0 : decide (a0_7 < 0) = false := decide_eq_false c34
             clear c34
             by_cases c36 : a0_7 > 1000
             ·rw [if_pos c36] at H
              have c36b0 : decide (1000 < a0_7) = true := decide_eq_true c36
              clear c36
              obtain rfl := Option.some.inj H
              have hcz37_0 : wc.cell? ⟨gb185, 0, none⟩ = some (.int .i64 a0_0) := (bC BK185.out 0).trans rfl
              have hcz37_1 : wc.cell? ⟨gb185, 1, none⟩ = some (.int .i64 a0_1) := (bC BK185.out 1).trans rfl
              have hcz37_2 : wc.cell? ⟨gb185, 2, none⟩ = some (.int .i64 a0_2) := (bC BK185.out 2).trans rfl
              have hcz37_3 : wc.cell? ⟨gb185, 3, none⟩ = some (.int .i64 a0_3) := (bC BK185.out 3).trans rfl
              have hcz37_4 : wc.cell? ⟨gb185, 4, none⟩ = some (.int .i64 a0_4) := (bC BK185.out 4).trans rfl
              have hcz37_5 : wc.cell? ⟨gb185, 5, none⟩ = some (.int .i64 a0_5) := (bC BK185.out 5).trans rfl
              have hcz37_6 : wc.cell? ⟨gb185, 6, none⟩ = some (.int .i64 a0_6) := (bC BK185.out 6).trans rfl
              have hcz37_7 : wc.cell? ⟨gb185, 7, none⟩ = some (.int .i64 a0_7) := (bC BK185.out 7).trans rfl
              have hcz37_8 : wc.cell? ⟨gb185, 8, none⟩ = some (.int .i64 a0_8) := (bC BK185.out 8).trans rfl
              have hfz37_0 := bF BK185.out 0
              have hfz37_1 := bF BK185.out 1
              have hfz37_2 := bF BK185.out 2
              have hfz37_3 := bF BK185.out 3
              have hfz37_4 := bF BK185.out 4
              have hfz37_5 := bF BK185.out 5
              have hfz37_6 := bF BK185.out 6
              have hfz37_7 := bF BK185.out 7
              have hfz37_8 := bF BK185.out 8
              go_wp2
              go_ret
              exact ⟨by first | rfl | (simp [errW_none, errW_some] <;> rfl) | (simp [*, errW_none, errW_some] <;> rfl), by repeat (first | (with_reducible first | exact HB.out | apply wA | apply wN | apply w1 | refine wS ?_ GE185.out) | exact HB.out)⟩
             ·rw [if_neg c36] at H
              have c36b0 : decide (1000 < a0_7) = false := decide_eq_false c36
              clear c36
              by_cases c38 : a0_8 < 1
              ·rw [if_pos c38] at H
               have c38b0 : decide (a0_8 < 1) = true := decide_eq_true c38
               clear c38
               obtain rfl := Option.some.inj H
               have hcz39_0 : wc.cell? ⟨gb185, 0, none⟩ = some (.int .i64 a0_0) := (bC BK185.out 0).trans rfl
               have hcz39_1 : wc.cell? ⟨gb185, 1, none⟩ = some (.int .i64 a0_1) := (bC BK185.out 1).trans rfl
               have hcz39_2 : wc.cell? ⟨gb185, 2, none⟩ = some (.int .i64 a0_2) := (bC BK185.out 2).trans rfl
               have hcz39_3 : wc.cell? ⟨gb185, 3, none⟩ = some (.int .i64 a0_3) := (bC BK185.out 3).trans rfl
               have hcz39_4 : wc.cell? ⟨gb185, 4, none⟩ = some (.int .i64 a0_4) := (bC BK185.out 4).trans rfl
               have hcz39_5 : wc.cell? ⟨gb185, 5, none⟩ = some (.int .i64 a0_5) := (bC BK185.out 5).trans rfl
               have hcz39_6 : wc.cell? ⟨gb185, 6, none⟩ = some (.int .i64 a0_6) := (bC BK185.out 6).trans rfl
               have hcz39_7 : wc.cell? ⟨gb185, 7, none⟩ = some (.int .i64 a0_7) := (bC BK185.out 7).trans rfl
               have hcz39_8 : wc.cell? ⟨gb185, 8, none⟩ = some (.int .i64 a0_8) := (bC BK185.out 8).trans rfl
               have hfz39_0 := bF BK185.out 0
               have hfz39_1 := bF BK185.out 1
               have hfz39_2 := bF BK185.out 2
               have hfz39_3 := bF BK185.out 3
               have hfz39_4 := bF BK185.out 4
               have hfz39_5 := bF BK185.out 5
               have hfz39_6 := bF BK185.out 6
               have hfz39_7 := bF BK185.out 7
               have hfz39_8 := bF BK185.out 8
               go_wp2
               go_ret
               exact ⟨by first | rfl | (simp [errW_none, errW_some] <;> rfl) | (simp [*, errW_none, errW_some] <;> rfl), by repeat (first | (with_reducible first | exact HB.out | apply wA | apply wN | apply w1 | refine wS ?_ GE185.out) | exact HB.out)⟩
              ·rw [if_neg c38] at H
               have c38b0 : decide (a0_8 < 1) = false := decide_eq_false c38
               clear c38
               by_cases c40 : a0_8 > 1024
               ·rw [if_pos c40] at H
                have c40b0 : decide (1024 < a0_8) = true := decide_eq_true c40
                clear c40
                obtain rfl := Option.some.inj H
                have hcz41_0 : wc.cell? ⟨gb185, 0, none⟩ = some (.int .i64 a0_0) := (bC BK185.out 0).trans rfl
                have hcz41_1 : wc.cell? ⟨gb185, 1, none⟩ = some (.int .i64 a0_1) := (bC BK185.out 1).trans rfl
                have hcz41_2 : wc.cell? ⟨gb185, 2, none⟩ = some (.int .i64 a0_2) := (bC BK185.out 2).trans rfl
                have hcz41_3 : wc.cell? ⟨gb185, 3, none⟩ = some (.int .i64 a0_3) := (bC BK185.out 3).trans rfl
                have hcz41_4 : wc.cell? ⟨gb185, 4, none⟩ = some (.int .i64 a0_4) := (bC BK185.out 4).trans rfl
                have hcz41_5 : wc.cell? ⟨gb185, 5, none⟩ = some (.int .i64 a0_5) := (bC BK185.out 5).trans rfl
                have hcz41_6 : wc.cell? ⟨gb185, 6, none⟩ = some (.int .i64 a0_6) := (bC BK185.out 6).trans rfl
                have hcz41_7 : wc.cell? ⟨gb185, 7, none⟩ = some (.int .i64 a0_7) := (bC BK185.out 7).trans rfl
                have hcz41_8 : wc.cell? ⟨gb185, 8, none⟩ = some (.int .i64 a0_8) := (bC BK185.out 8).trans rfl
                have hfz41_0 := bF BK185.out 0
                have hfz41_1 := bF BK185.out 1
                have hfz41_2 := bF BK185.out 2
                have hfz41_3 := bF BK185.out 3
                have hfz41_4 := bF BK185.out 4
                have hfz41_5 := bF BK185.out 5
                have hfz41_6 := bF BK185.out 6
                have hfz41_7 := bF BK185.out 7
                have hfz41_8 := bF BK185.out 8
                go_wp2
                go_ret
                exact ⟨by first | rfl | (simp [errW_none, errW_some] <;> rfl) | (simp [*, errW_none, errW_some] <;> rfl), by repeat (first | (with_reducible first | exact HB.out | apply wA | apply wN | apply w1 | refine wS ?_ GE185.out) | exact HB.out)⟩
               ·rw [if_neg c40] at H
                have c40b0 : decide (1024 < a0_8) = false := decide_eq_false c40
                clear c40
                obtain rfl := Option.some.inj H
                have hcz42_0 : wc.cell? ⟨gb185, 0, none⟩ = some (.int .i64 a0_0) := (bC BK185.out 0).trans rfl
                have hcz42_1 : wc.cell? ⟨gb185, 1, none⟩ = some (.int .i64 a0_1) := (bC BK185.out 1).trans rfl
                have hcz42_2 : wc.cell? ⟨gb185, 2, none⟩ = some (.int .i64 a0_2) := (bC BK185.out 2).trans rfl
                have hcz42_3 : wc.cell? ⟨gb185, 3, none⟩ = some (.int .i64 a0_3) := (bC BK185.out 3).trans rfl
                have hcz42_4 : wc.cell? ⟨gb185, 4, none⟩ = some (.int .i64 a0_4) := (bC BK185.out 4).trans rfl
                have hcz42_5 : wc.cell? ⟨gb185, 5, none⟩ = some (.int .i64 a0_5) := (bC BK185.out 5).trans rfl
                have hcz42_6 : wc.cell? ⟨gb185, 6, none⟩ = some (.int .i64 a0_6) := (bC BK185.out 6).trans rfl
                have hcz42_7 : wc.cell? ⟨gb185, 7, none⟩ = some (.int .i64 a0_7) := (bC BK185.out 7).trans rfl
                have hcz42_8 : wc.cell? ⟨gb185, 8, none⟩ = some (.int .i64 a0_8) := (bC BK185.out 8).trans rfl
                have hfz42_0 := bF BK185.out 0
                have hfz42_1 := bF BK185.out 1
                have hfz42_2 := bF BK185.out 2
                have hfz42_3 := bF BK185.out 3
                have hfz42_4 := bF BK185.out 4
                have hfz42_5 := bF BK185.out 5
                have hfz42_6 := bF BK185.out 6
                have hfz42_7 := bF BK185.out 7
                have hfz42_8 := bF BK185.out 8
                go_wp2
                go_ret
                exact ⟨by first | rfl | (simp [errW_none, errW_some] <;> rfl) | (simp [*, errW_none, errW_some] <;> rfl), by repeat (first | (with_reducible first | exact HB.out | apply wA | apply wN | apply w1 | refine wS ?_ GE185.out) | exact HB.out)⟩

end Go.Proofs.Ythofdhodgipifaa.P
