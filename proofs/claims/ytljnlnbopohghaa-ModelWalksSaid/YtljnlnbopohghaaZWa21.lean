/- Texts of one claim (laid by shake.py). -/
import Derived.Test.YtljnlnbopohghaaZWa4
set_option linter.unusedVariables false
set_option linter.unusedSimpArgs false
section
namespace Go.Proofs.Ytljnlnbopohghaa.P
open Go.RowKit Go.Proofs.YtljnlnbopohghaaW.PrintWords Go.Proofs.YtljnlnbopohghaaW.PrintLast Go.Proofs.YtljnlnbopohghaaW.PrintMore Go.Proofs.Ytljnlnbopohghaa.Own
open Go.Proofs.YtljnlnbopohghaaW.PrintWords renaming blk_cell → bC, blk_frozen → bF, blk_drewN → bN, blk_alloc → bA, pw_below_drewN → wN, blk_drew → bD, below_drew1 → w1, below_set → wS, below_alloc → wA, below_step → wT, below_size → wZ
open List renaming setIfInBounds_toArray → sA1, set_cons_zero → sA2, set_cons_succ → sA3
attribute [local go_sem] max2_str max2_int min2_int max_two min_two max_three min_three max_four min_four   -- for this text's walks alone
mutual
def catchmentref21_Check.j0 : Nat → Bool → Int → Int → Int → Int → Int → Int → Int → Int → Int → Option (Int)
 | 0, _, _, _, _, _, _, _, _, _, _ => none
 | k + 1, x20, x225000, x225001, x225002, x225003, x225004, x225005, x225006, x225007, x225008 => if x20 = true then (some 2) else (if x225002 < 4 then (catchmentref21_Check.j1 k true x225000 x225001 x225002 x225003 x225004 x225005 x225006 x225007 x225008) else (if x225002 > 64 then (catchmentref21_Check.j1 k true x225000 x225001 x225002 x225003 x225004 x225005 x225006 x225007 x225008) else (if x225003 < 0 then (catchmentref21_Check.j1 k true x225000 x225001 x225002 x225003 x225004 x225005 x225006 x225007 x225008) else (catchmentref21_Check.j1 k (decide (x225003 > 1048576)) x225000 x225001 x225002 x225003 x225004 x225005 x225006 x225007 x225008))))
def catchmentref21_Check.j1 : Nat → Bool → Int → Int → Int → Int → Int → Int → Int → Int → Int → Option (Int)
 | 0, _, _, _, _, _, _, _, _, _, _ => none
 | k + 1, x38, x225000, x225001, x225002, x225003, x225004, x225005, x225006, x225007, x225008 => if x38 = true then (some 2) else (if x225004 < 4 then (catchmentref21_Check.j2 k true x225000 x225001 x225002 x225003 x225004 x225005 x225006 x225007 x225008) else (if x225004 > 256 then (catchmentref21_Check.j2 k true x225000 x225001 x225002 x225003 x225004 x225005 x225006 x225007 x225008) else (if x225005 < 2 then (catchmentref21_Check.j2 k true x225000 x225001 x225002 x225003 x225004 x225005 x225006 x225007 x225008) else (catchmentref21_Check.j2 k (decide (x225005 > x225004)) x225000 x225001 x225002 x225003 x225004 x225005 x225006 x225007 x225008))))
def catchmentref21_Check.j2 : Nat → Bool → Int → Int → Int → Int → Int → Int → Int → Int → Int → Option (Int)
 | 0, _, _, _, _, _, _, _, _, _, _ => none
 | k + 1, x58, x225000, x225001, x225002, x225003, x225004, x225005, x225006, x225007, x225008 => if x58 = true then (some 2) else (if x225006 < 2 then (some 2) else (if x225006 > 4096 then (some 2) else (if x225007 < 0 then (some 2) else (if x225007 > 1000 then (some 2) else (if x225008 < 1 then (some 2) else (if x225008 > 1024 then (some 2) else (some 0)))))))
end
def catchmentref21_Check.f (k : Nat) (a0_0 a0_1 a0_2 a0_3 a0_4 a0_5 a0_6 a0_7 a0_8 : Int) : Option (Int) := if a0_0 < 1 then (catchmentref21_Check.j0 k true a0_0 a0_1 a0_2 a0_3 a0_4 a0_5 a0_6 a0_7 a0_8) else (if a0_0 > 256 then (catchmentref21_Check.j0 k true a0_0 a0_1 a0_2 a0_3 a0_4 a0_5 a0_6 a0_7 a0_8) else (if a0_1 < 8 then (catchmentref21_Check.j0 k true a0_0 a0_1 a0_2 a0_3 a0_4 a0_5 a0_6 a0_7 a0_8) else (catchmentref21_Check.j0 k (decide (a0_1 > 4096)) a0_0 a0_1 a0_2 a0_3 a0_4 a0_5 a0_6 a0_7 a0_8)))
set_option maxHeartbeats 8000000 in
set_option maxRecDepth 100000 in
theorem catchmentref21_Check.calls (k : Nat) (a0_0 a0_1 a0_2 a0_3 a0_4 a0_5 a0_6 a0_7 a0_8 r : Int) (w : World) (h : catchmentref21_Check.f k a0_0 a0_1 a0_2 a0_3 a0_4 a0_5 a0_6 a0_7 a0_8 = some r) :
  Calls Try.prog 69 #[.agg #[.int .i64 a0_0, .int .i64 a0_1, .int .i64 a0_2, .int .i64 a0_3, .int .i64 a0_4, .int .i64 a0_5, .int .i64 a0_6, .int .i64 a0_7, .int .i64 a0_8]] w fun e w' => e = .returned (.int .i64 r) ∧ Below w.heap.size w w' := by
 have hu := Try.underlying47
 have key : r = (if (1 ≤ a0_0 ∧ a0_0 ≤ 256) ∧ (8 ≤ a0_1 ∧ a0_1 ≤ 4096) ∧ (4 ≤ a0_2 ∧ a0_2 ≤ 64) ∧ (0 ≤ a0_3 ∧ a0_3 ≤ 1048576) ∧ (4 ≤ a0_4 ∧ a0_4 ≤ 256) ∧ (2 ≤ a0_5 ∧ a0_5 ≤ a0_4) ∧ (2 ≤ a0_6 ∧ a0_6 ≤ 4096) ∧ (0 ≤ a0_7 ∧ a0_7 ≤ 1000) ∧ (1 ≤ a0_8 ∧ a0_8 ≤ 1024) then 0 else 2) := by
  unfold catchmentref21_Check.f at h
  rcases k with _ | _ | _ | k <;> simp only [catchmentref21_Check.j0, catchmentref21_Check.j1, catchmentref21_Check.j2, if_true, decide_eq_true_eq, ite_self] at h <;> clear hu <;> grind (splits := 60)
 have hA := aK_ key
 clear h key
 go_enter Try.func69, Try.ntmps69
 go_wp2
 all_goals
  go_ret
  simp only [Bool.not_eq_true', Bool.not_eq_false', decide_eq_false_iff_not, decide_eq_true_eq, Bool.or_eq_true, Bool.or_eq_false_iff, Bool.and_eq_true] at *
  refine ⟨?_, below_alloc (Below.refl _ _) _⟩
  rw [hA.out]
  first | (rw [if_pos (by omega)] <;> rfl) | (rw [if_neg (by omega)] <;> rfl)
end Go.Proofs.Ytljnlnbopohghaa.P
end
