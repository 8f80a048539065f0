/- Texts of one claim (laid by shake.py). -/
import Derived.Test.YtljnlnbopohghaaZCf4
import Derived.Test.YtljnlnbopohghaaZCf5
set_option linter.unusedVariables false
set_option linter.unusedSimpArgs false
section
namespace Go.Proofs.Ytljnlnbopohghaa.P
open Go.RowKit Go.Proofs.YtljnlnbopohghaaW.PrintWords Go.Proofs.YtljnlnbopohghaaW.PrintLast Go.Proofs.YtljnlnbopohghaaW.PrintMore Go.Proofs.Ytljnlnbopohghaa.Own
open Bool renaming true → YY, false → ZZ
open Go.Proofs.YtljnlnbopohghaaW.PrintWords renaming blk_cell → bC, blk_frozen → bF, blk_drewN → bN, blk_alloc → bA, pw_below_drewN → wN, blk_drew → bD, below_drew1 → w1, below_set → wS, below_alloc → wA, blk_below → bB, below_step → wT, below_size → wZ, cell_far → cF, blk_far → bR, blk_put → bP
open List renaming setIfInBounds_toArray → sA1, set_cons_zero → sA2, set_cons_succ → sA3, map_toArray → mA1, map_cons → mA2, map_nil → mA3, length_take → mA4, length_drop → mA5
attribute [local go_sem] max2_str max2_int min2_int max_two min_two max_three min_three max_four min_four   -- for this text's walks alone
mutual
def catchmentref27_Took.j0 : Nat → List (S97) → Int → List (S103) → Int → Bool → ByteArray → ByteArray → Bool → Bool → Option ((List (S97)) × Bool × Int)
 | 0, _, _, _, _, _, _, _, _, _ => none
 | k + 1, x0, x1, x2, x3, x30, x143000, x143001, x143002, x143003 => if x30 = true then (some (x0, false, 15)) else (if x3 < 1 then (some (x0, false, 2)) else (if (x2.length : Int) > x3 then (some (x0, false, 4)) else (catchmentref27_Took.l0 k x0 x1 x2 x3 0 x143000 x143001 x143002 x143003)))
def catchmentref27_Took.l0 : Nat → List (S97) → Int → List (S103) → Int → Int → ByteArray → ByteArray → Bool → Bool → Option ((List (S97)) × Bool × Int)
 | 0, _, _, _, _, _, _, _, _, _ => none
 | k + 1, x0, x1, x2, x3, x12, x143000, x143001, x143002, x143003 => if x12 < (x2.length : Int) then (if 0 ≤ x12 then ((catchmentref02_Holds.f x143000 x143001 ((rd_T103 x2 x12).f0)).bind fun t144 => (if t144 = true then (catchmentref27_Took.l0 k x0 x1 x2 x3 (wrap64 (x12 + 1)) x143000 x143001 x143002 x143003) else (some (x0, false, 16)))) else (none)) else ((catchmentref05_Rises.f k x2).bind fun t145 => (if t145 = true then (if x143002 = true then (catchmentref27_Took.j2 k x0 x1 x2 true x143000 x143001 x143002 x143003) else (catchmentref27_Took.j2 k x0 x1 x2 (decide ((x2.length : Int) < x3)) x143000 x143001 x143002 x143003)) else (some (x0, false, 16))))
def catchmentref27_Took.j2 : Nat → List (S97) → Int → List (S103) → Bool → ByteArray → ByteArray → Bool → Bool → Option ((List (S97)) × Bool × Int)
 | 0, _, _, _, _, _, _, _, _ => none
 | k + 1, x0, x1, x2, x67, x143000, x143001, x143002, x143003 => if x67 = true then ((catchmentref27_With.f x0 x1 (⟨#[]⟩ : BA) (⟨#[]⟩ : BA) true false).bind fun t146 => (some (t146, true, 0))) else (if 0 ≤ (wrap64 ((x2.length : Int) - 1)) then (if (wrap64 ((x2.length : Int) - 1)) < (x2.length : Int) then (if ((rd_T103 x2 (wrap64 ((x2.length : Int) - 1))).f0).size + 1 ≤ 9223372036854775807 then ((catchmentref02_Right.f (((rd_T103 x2 (wrap64 ((x2.length : Int) - 1))).f0) ++ (⟨#[0]⟩ : BA)) x143001).bind fun t151 => (if t151 = true then ((catchmentref27_With.f x0 x1 (((rd_T103 x2 (wrap64 ((x2.length : Int) - 1))).f0) ++ (⟨#[0]⟩ : BA)) x143001 false false).bind fun t152 => (some (t152, false, 0))) else ((catchmentref27_With.f x0 x1 (⟨#[]⟩ : BA) (⟨#[]⟩ : BA) true false).bind fun t155 => (some (t155, true, 0))))) else (none)) else (none)) else (none))
end
def catchmentref27_Took.f (k : Nat) (l0 : List (S97)) (a1 : Int) (l2 : List (S103)) (a3 : Int) : Option ((List (S97)) × Bool × Int) := (catchmentref27_Is.f l0 a1).bind fun t140 => (if t140 = true then (if 0 ≤ (wrap64 (a1 - 1)) then (if (wrap64 (a1 - 1)) < (l0.length : Int) then (if (rd_T97 l0 (wrap64 (a1 - 1))).f1 = true then (catchmentref27_Took.j0 k l0 a1 l2 a3 (decide ((l2.length : Int) > 0)) ((rd_T97 l0 (wrap64 (a1 - 1))).f0.f0) ((rd_T97 l0 (wrap64 (a1 - 1))).f0.f1) ((rd_T97 l0 (wrap64 (a1 - 1))).f1) ((rd_T97 l0 (wrap64 (a1 - 1))).f2)) else (catchmentref27_Took.j0 k l0 a1 l2 a3 false ((rd_T97 l0 (wrap64 (a1 - 1))).f0.f0) ((rd_T97 l0 (wrap64 (a1 - 1))).f0.f1) ((rd_T97 l0 (wrap64 (a1 - 1))).f1) ((rd_T97 l0 (wrap64 (a1 - 1))).f2))) else (none)) else (none)) else (some (l0, false, 11)))
def catchmentref27_Took.T13 : Bool × List (List Nat × List Nat) := (true, [([], []), ([0], [0]), ([], []), ([], []), ([2, 3], [2, 3]), ([4], [4]), ([5], [5]), ([1, 6], [1, 6]), ([7], [7])])
def catchmentref27_Took.B13 : List Nat := [0, 1, 0, 0, 12, 28, 60, 127, 255]
theorem catchmentref27_Took.tab13 : rtab .any (opsOf Try.f41 13) = catchmentref27_Took.T13 := by kernel_rfl
theorem catchmentref27_Took.bits13 : waitsOk catchmentref27_Took.T13.2 catchmentref27_Took.B13 = true := by kernel_rfl
def catchmentref27_Took.T19 : Bool × List (List Nat × List Nat) := (true, [([], []), ([], []), ([1], [1]), ([2], [2]), ([0, 3], [0, 3]), ([4], [4]), ([5], [5]), ([6], [6]), ([], []), ([8], [8]), ([9], [9]), ([7, 10], [7, 10]), ([], []), ([12, 11, 0, 1, 2, 3, 4, 5, 6, 7, 8, 9, 10, 11, 12], [11, 12])])
def catchmentref27_Took.B19 : List Nat := [0, 0, 2, 6, 15, 31, 63, 127, 0, 256, 768, 2047, 0, 8191]
theorem catchmentref27_Took.tab19 : rtab .any (opsOf Try.f41 19) = catchmentref27_Took.T19 := by kernel_rfl
theorem catchmentref27_Took.bits19 : waitsOk catchmentref27_Took.T19.2 catchmentref27_Took.B19 = true := by kernel_rfl
set_option maxHeartbeats 8000000 in
set_option maxRecDepth 100000 in
theorem catchmentref27_Took.calls (k : Nat) (P0_ : Nat → Prop) (A0 : Option Addr) (c0 : Nat) (l0 : List (S97)) (a1 : Int) (A2 : Option Addr) (c2 : Nat) (l2 : List (S103)) (a3 : Int) (r1 : List (S97)) (r2 : Bool) (r3 : Int) (w : World) (hs0 : Kd.V k97 97 w w.heap.size (fun k_ => P0_ k_) (.slice A0 l0.length c0) l0) (hr2 : Kd.C k103 w A2 l2.length l2) (hc2 : l2.length ≤ c2) (h : catchmentref27_Took.f k l0 a1 l2 a3 = some (r1, r2, r3)) :
  Calls Try.prog 41 #[.slice A0 l0.length c0, .int .i64 a1, .slice A2 l2.length c2, .int .i64 a3] w fun e w' => ∃ v0_ : Value, e = .returned (.tuple #[v0_, .bool r2, .int .i64 r3]) ∧ Kd.V k97 97 w' w.heap.size (fun k_ => (P0_ k_ ∨ w.heap.size ≤ k_)) v0_ r1 ∧ Below w.heap.size w w' := by
 have hu97 := Try.underlying97
 have hu29 := Try.underlying29
 have HO0 := aK_ (show Kd.V k97 97 w w.heap.size (fun k_ => (P0_ k_ ∨ w.heap.size ≤ k_)) (.slice A0 l0.length c0) l0 from Kd.V_mono hs0 (fun k_ hk => .inl hk))
 have HR2 := aK_ hr2
 have HC2 := aK_ hc2
 clear hr2 hc2
 have HB := aK_ (Below.refl w.heap.size w)
 have H : ((catchmentref27_Is.f l0 a1).bind fun t140 => (if t140 = true then (if 0 ≤ (wrap64 (a1 - 1)) then (if (wrap64 (a1 - 1)) < (l0.length : Int) then (if (rd_T97 l0 (wrap64 (a1 - 1))).f1 = true then (catchmentref27_Took.j0 k l0 a1 l2 a3 (decide ((l2.length : Int) > 0)) ((rd_T97 l0 (wrap64 (a1 - 1))).f0.f0) ((rd_T97 l0 (wrap64 (a1 - 1))).f0.f1) ((rd_T97 l0 (wrap64 (a1 - 1))).f1) ((rd_T97 l0 (wrap64 (a1 - 1))).f2)) else (catchmentref27_Took.j0 k l0 a1 l2 a3 false ((rd_T97 l0 (wrap64 (a1 - 1))).f0.f0) ((rd_T97 l0 (wrap64 (a1 - 1))).f0.f1) ((rd_T97 l0 (wrap64 (a1 - 1))).f1) ((rd_T97 l0 (wrap64 (a1 - 1))).f2))) else (none)) else (none)) else (some (l0, false, 11)))) = some (r1, r2, r3) := h
 clear h
 replace H := Option.bind_eq_some_iff.mp H
 obtain ⟨t140, A50, H⟩ := H
 replace H : (if t140 = true then (if 0 ≤ (wrap64 (a1 - 1)) then (if (wrap64 (a1 - 1)) < (l0.length : Int) then (if (rd_T97 l0 (wrap64 (a1 - 1))).f1 = true then (catchmentref27_Took.j0 k l0 a1 l2 a3 (decide ((l2.length : Int) > 0)) ((rd_T97 l0 (wrap64 (a1 - 1))).f0.f0) ((rd_T97 l0 (wrap64 (a1 - 1))).f0.f1) ((rd_T97 l0 (wrap64 (a1 - 1))).f1) ((rd_T97 l0 (wrap64 (a1 - 1))).f2)) else (catchmentref27_Took.j0 k l0 a1 l2 a3 false ((rd_T97 l0 (wrap64 (a1 - 1))).f0.f0) ((rd_T97 l0 (wrap64 (a1 - 1))).f0.f1) ((rd_T97 l0 (wrap64 (a1 - 1))).f1) ((rd_T97 l0 (wrap64 (a1 - 1))).f2))) else (none)) else (none)) else (some (l0, false, 11))) = some (r1, r2, r3) := H
 have A5 := aK_ A50
 clear A50
 by_cases c6 : t140 = true
 ·subst c6
  have H1 : (if 0 ≤ (wrap64 (a1 - 1)) then (if (wrap64 (a1 - 1)) < (l0.length : Int) then (if (rd_T97 l0 (wrap64 (a1 - 1))).f1 = true then (catchmentref27_Took.j0 k l0 a1 l2 a3 (decide ((l2.length : Int) > 0)) ((rd_T97 l0 (wrap64 (a1 - 1))).f0.f0) ((rd_T97 l0 (wrap64 (a1 - 1))).f0.f1) ((rd_T97 l0 (wrap64 (a1 - 1))).f1) ((rd_T97 l0 (wrap64 (a1 - 1))).f2)) else (catchmentref27_Took.j0 k l0 a1 l2 a3 false ((rd_T97 l0 (wrap64 (a1 - 1))).f0.f0) ((rd_T97 l0 (wrap64 (a1 - 1))).f0.f1) ((rd_T97 l0 (wrap64 (a1 - 1))).f1) ((rd_T97 l0 (wrap64 (a1 - 1))).f2))) else (none)) else (none)) = some (r1, r2, r3) := by rw [if_pos rfl] at H; exact H
  clear H
  have H := H1
  clear H1
  obtain ⟨ji7, hji7⟩ : ∃ j_ : Int, (wrap64 (a1 - 1)) = j_ := ⟨_, rfl⟩
  replace H : (if 0 ≤ (ji7) then (if (ji7) < (l0.length : Int) then (if (rd_T97 l0 (ji7)).f1 = true then (catchmentref27_Took.j0 k l0 a1 l2 a3 (decide ((l2.length : Int) > 0)) ((rd_T97 l0 (ji7)).f0.f0) ((rd_T97 l0 (ji7)).f0.f1) ((rd_T97 l0 (ji7)).f1) ((rd_T97 l0 (ji7)).f2)) else (catchmentref27_Took.j0 k l0 a1 l2 a3 false ((rd_T97 l0 (ji7)).f0.f0) ((rd_T97 l0 (ji7)).f0.f1) ((rd_T97 l0 (ji7)).f1) ((rd_T97 l0 (ji7)).f2))) else (none)) else (none)) = some (r1, r2, r3) := by first | (rw [hji7] at H; exact H) | (simp only [hji7] at H ⊢; exact H)
  (try rw [hji7] at A5)
  have hji7w : (IntKind.i64.wrap (a1 - 1)) = ji7 := (i64_w _).trans hji7
  by_cases c8 : 0 ≤ (ji7)
  ·rw [if_pos c8] at H
   have c8b0 := decide_eq_true c8
   clear c8
   by_cases c9 : (ji7) < (l0.length : Int)
   ·rw [if_pos c9] at H
    have c9b0 := decide_eq_true c9
    clear c9
    have HC10 := aK_ H
    clear H
    go_enter Try.func41, Try.ntmps41
    go_upto_region 4 with (first | ((with_reducible refine gate_callee (f := 42) rfl ?_); refine goesL_ (some 16) rfl rfl Try.func42 (by kernel_rfl) rfl #[.slice A0 l0.length c0, .int .i64 a1] rfl mS_ ?_; (with_reducible refine (catchmentref27_Is.calls _ _ l0 a1 true _ ?side1 ?side2 A5.out).mono ?_); (case side1 => repeat (first | exact (Kd.V_reads' HO0.out).2.2 | (with_reducible refine Kd.C_alloc ?_ _) | (with_reducible refine Kd.C_drewN ?_ _) | (with_reducible refine Kd.C_drew ?_))); (case side2 => exact (Kd.V_reads' HO0.out).2.1); rintro e w' ⟨rfl, ⟨nd, rfl⟩⟩; refine ⟨_, rfl, ?_⟩; have p141 : 0 ≤ ((ji7) : Int) := pD_; have q141 : (ji7) < (l0.length : Int) := pD_; obtain ⟨ad141, e141, hx141_0, hx141_1, hx141_2, hx141_3⟩ := at_T97 (Kd.V_reads' HO0.out).2.2 (ji7) p141 q141; cases e141; replace p141 := eq_true p141; replace q141 := eq_true q141) | ((with_reducible refine gate_dst (N := 11) rfl ?_); (try (refine gate_guard (by rfl) ?_; dsimp only)); refine bE_ 11 #[.string (⟨#[]⟩ : BA), .string (⟨#[]⟩ : BA), .bool false, .bool false] 97 ?_; intro gb142 hg w11 hbox hb; replace HO0 := aK_ (Kd.V_below (Kd.V_elderB (kV_ HO0.out) gb142 (Nat.le_of_eq hg.symm)) hb); have BK142 := aK_ (hbox); have GW142 := aK_ (gE_ hg); replace HB := aK_ (wT bW_ hb); have GE142 := GW142; clear hb hbox hg; have hz12 := cq4_ BK142.out))
    (try simp only [Act.put, sA1, sA2, sA3])
    go_cut [30] (fun v30 wc => ∃ (kq : Nat) (x30_9 : Bool), v30 = .bool x30_9 ∧ Aside0 (catchmentref27_Took.j0 kq l0 a1 l2 a3 x30_9 ((rd_T97 l0 (ji7)).f0.f0) ((rd_T97 l0 (ji7)).f0.f1) ((rd_T97 l0 (ji7)).f1) ((rd_T97 l0 (ji7)).f2) = some (r1, r2, r3)) ∧ Aside0 (kq ≤ k) ∧ Aside0 (Kd.V k97 97 wc w.heap.size (fun k_ => (P0_ k_ ∨ w.heap.size ≤ k_) ∧ k_ ≠ gb142) (.slice (some ad141) l0.length c0) l0) ∧ Aside0 (wc.heap[gb142]? = some (.cells #[.string ((rd_T97 l0 (ji7)).f0.f0), .string ((rd_T97 l0 (ji7)).f0.f1), .bool ((rd_T97 l0 (ji7)).f1), .bool ((rd_T97 l0 (ji7)).f2)] 97 (0, 0))) ∧ Aside0 (Below w.heap.size w wc))
    case first =>
     have H := HC10.out
     clear HC10
     obtain ⟨bq13, hbq13⟩ : ∃ b_ : Bool, b_ = ((rd_T97 l0 (ji7)).f1) := ⟨_, rfl⟩
     replace H : (if bq13 = true then (catchmentref27_Took.j0 k l0 a1 l2 a3 (decide ((l2.length : Int) > 0)) ((rd_T97 l0 (ji7)).f0.f0) ((rd_T97 l0 (ji7)).f0.f1) bq13 ((rd_T97 l0 (ji7)).f2)) else (catchmentref27_Took.j0 k l0 a1 l2 a3 false ((rd_T97 l0 (ji7)).f0.f0) ((rd_T97 l0 (ji7)).f0.f1) bq13 ((rd_T97 l0 (ji7)).f2))) = some (r1, r2, r3) := by rw [← hbq13] at H; exact H
     have Nbq13 := aK_ hbq13
     clear hbq13
     (try rw [← Nbq13.out])
     by_cases c14 : bq13 = true
     ·subst c14
      have H1 : (catchmentref27_Took.j0 k l0 a1 l2 a3 (decide ((l2.length : Int) > 0)) ((rd_T97 l0 (ji7)).f0.f0) ((rd_T97 l0 (ji7)).f0.f1) true ((rd_T97 l0 (ji7)).f2)) = some (r1, r2, r3) := by rw [if_pos rfl] at H; exact H
      clear H
      have H := H1
      clear H1
      have H' := aK_ H; clear H
      have hz15 := cq4_ BK142.out
      go_wp2
      go_meet
      case rel => (try rw [← Nbq13.out]); exact ⟨_, (decide ((l2.length : Int) > 0)), rZ_, H', ⟨oM_⟩, ⟨by (with_reducible repeat (first | apply Kd.V_alloc | apply Kd.V_drewN | apply Kd.V_drew)); exact Kd.V_mono (Kd.V_far (p := ⟨gb142, 3, none⟩) (Kd.V_far (p := ⟨gb142, 2, none⟩) (Kd.V_far (p := ⟨gb142, 1, none⟩) (Kd.V_far (p := ⟨gb142, 0, none⟩) (Kd.V_mono HO0.out (fun k_ hk => (⟨hk, hk.2⟩ : _ ∧ k_ ≠ gb142))) (fun _ hk => hk.2) (.string ((rd_T97 l0 (ji7)).f0.f0))) (fun _ hk => hk.2) (.string ((rd_T97 l0 (ji7)).f0.f1))) (fun _ hk => hk.2) (.bool (true))) (fun _ hk => hk.2) (.bool ((rd_T97 l0 (ji7)).f2))) (fun _ hk => ⟨hk.1.1, hk.1.2⟩)⟩, ⟨by (with_reducible repeat (first | refine bN ?_ _ | refine bD ?_ | refine bA ?_ _)); refine bP (cs := #[.string ((rd_T97 l0 (ji7)).f0.f0), .string ((rd_T97 l0 (ji7)).f0.f1), .bool (true), .bool false]) ?_ 3 _ rfl; (with_reducible repeat (first | refine bN ?_ _ | refine bD ?_ | refine bA ?_ _)); refine bP (cs := #[.string ((rd_T97 l0 (ji7)).f0.f0), .string ((rd_T97 l0 (ji7)).f0.f1), .bool false, .bool false]) ?_ 2 _ rfl; (with_reducible repeat (first | refine bN ?_ _ | refine bD ?_ | refine bA ?_ _)); refine bP (cs := #[.string ((rd_T97 l0 (ji7)).f0.f0), .string (⟨#[]⟩ : BA), .bool false, .bool false]) ?_ 1 _ rfl; (with_reducible repeat (first | refine bN ?_ _ | refine bD ?_ | refine bA ?_ _)); refine bP (cs := #[.string (⟨#[]⟩ : BA), .string (⟨#[]⟩ : BA), .bool false, .bool false]) ?_ 0 _ rfl; (with_reducible repeat (first | refine bN ?_ _ | refine bD ?_ | refine bA ?_ _)); exact BK142.out⟩, ⟨bS1_ GE142.out⟩⟩
     replace c14 := Bool.eq_false_iff.mpr c14
     subst c14
     have H1 : (catchmentref27_Took.j0 k l0 a1 l2 a3 false ((rd_T97 l0 (ji7)).f0.f0) ((rd_T97 l0 (ji7)).f0.f1) false ((rd_T97 l0 (ji7)).f2)) = some (r1, r2, r3) := by rw [if_neg (show ¬ (false = true) by decide)] at H; exact H
     clear H
     have H := H1
     clear H1
     have H' := aK_ H; clear H
     have hz16 := cq4_ BK142.out
     go_wp2
     go_meet
     case rel => (try rw [← Nbq13.out]); exact ⟨_, (false), rZ_, H', ⟨oM_⟩, ⟨by (with_reducible repeat (first | apply Kd.V_alloc | apply Kd.V_drewN | apply Kd.V_drew)); exact Kd.V_mono (Kd.V_far (p := ⟨gb142, 3, none⟩) (Kd.V_far (p := ⟨gb142, 2, none⟩) (Kd.V_far (p := ⟨gb142, 1, none⟩) (Kd.V_far (p := ⟨gb142, 0, none⟩) (Kd.V_mono HO0.out (fun k_ hk => (⟨hk, hk.2⟩ : _ ∧ k_ ≠ gb142))) (fun _ hk => hk.2) (.string ((rd_T97 l0 (ji7)).f0.f0))) (fun _ hk => hk.2) (.string ((rd_T97 l0 (ji7)).f0.f1))) (fun _ hk => hk.2) (.bool (false))) (fun _ hk => hk.2) (.bool ((rd_T97 l0 (ji7)).f2))) (fun _ hk => ⟨hk.1.1, hk.1.2⟩)⟩, ⟨by (with_reducible repeat (first | refine bN ?_ _ | refine bD ?_ | refine bA ?_ _)); refine bP (cs := #[.string ((rd_T97 l0 (ji7)).f0.f0), .string ((rd_T97 l0 (ji7)).f0.f1), .bool (false), .bool false]) ?_ 3 _ rfl; (with_reducible repeat (first | refine bN ?_ _ | refine bD ?_ | refine bA ?_ _)); refine bP (cs := #[.string ((rd_T97 l0 (ji7)).f0.f0), .string ((rd_T97 l0 (ji7)).f0.f1), .bool false, .bool false]) ?_ 2 _ rfl; (with_reducible repeat (first | refine bN ?_ _ | refine bD ?_ | refine bA ?_ _)); refine bP (cs := #[.string ((rd_T97 l0 (ji7)).f0.f0), .string (⟨#[]⟩ : BA), .bool false, .bool false]) ?_ 1 _ rfl; (with_reducible repeat (first | refine bN ?_ _ | refine bD ?_ | refine bA ?_ _)); refine bP (cs := #[.string (⟨#[]⟩ : BA), .string (⟨#[]⟩ : BA), .bool false, .bool false]) ?_ 0 _ rfl; (with_reducible repeat (first | refine bN ?_ _ | refine bD ?_ | refine bA ?_ _)); exact BK142.out⟩, ⟨bS1_ GE142.out⟩⟩
    clear HC10
    try clear c1
    try clear p1
    try clear q1
    try clear hx1
    try clear c2
    try clear p2
    try clear c4
    try clear c6
    try clear p6
    try clear c8
    try clear c8b0
    try clear c9
    try clear c9b0
    try clear q13
    try clear c14
    try clear p14
    try clear q14
    try clear hx14
    try clear hz12
    try clear hz15
    try clear hz16
    try clear hz12
    try clear hz15
    try clear hz16
    try clear hx141_0
    try clear hx141_1
    try clear hx141_2
    try clear hx141_3
    try clear p141
    try clear q141
    obtain ⟨kq, x30_9, rfl, HA, HJ9, HO_0, BK142, HB⟩ := hcut
    cases kq with
    | zero => exact absurd HA.out (by simp [catchmentref27_Took.j0])
    | succ kj9 => ?_
    have H := HA.out
    clear HA
    simp only [catchmentref27_Took.j0] at H
    by_cases c17 : x30_9 = true
    ·subst c17
     have H1 : (some (l0, false, 15)) = some (r1, r2, r3) := by rw [if_pos rfl] at H; exact H
     clear H
     have H := H1
     clear H1
     simp only [Option.some.injEq, Prod.mk.injEq] at H
     obtain ⟨rfl, rfl, rfl⟩ := H
     go_wp2
     go_ret3
     exact ⟨_, by first | rfl | (simp [errW_none, errW_some] <;> rfl) | (simp only [← hji7]; first | rfl | (simp [errW_none, errW_some] <;> rfl)) | (simp [*, errW_none, errW_some] <;> rfl), by (with_reducible repeat (first | apply Kd.V_alloc | apply Kd.V_drewN | apply Kd.V_drew)); exact Kd.V_mono HO_0.out (fun _ hk => hk.1), bS1_ GE142.out⟩
    replace c17 := Bool.eq_false_iff.mpr c17
    subst c17
    have H1 : (if a3 < 1 then (some (l0, false, 2)) else (if (l2.length : Int) > a3 then (some (l0, false, 4)) else (catchmentref27_Took.l0 kj9 l0 a1 l2 a3 0 ((rd_T97 l0 (ji7)).f0.f0) ((rd_T97 l0 (ji7)).f0.f1) ((rd_T97 l0 (ji7)).f1) ((rd_T97 l0 (ji7)).f2)))) = some (r1, r2, r3) := by rw [if_neg (show ¬ (false = true) by decide)] at H; exact H
    clear H
    have H := H1
    clear H1
    by_cases c18 : a3 < 1
    ·rw [if_pos c18] at H
     have c18b0 := decide_eq_true c18
     clear c18
     simp only [Option.some.injEq, Prod.mk.injEq] at H
     obtain ⟨rfl, rfl, rfl⟩ := H
     go_wp2
     go_ret3
     exact ⟨_, by first | rfl | (simp [errW_none, errW_some] <;> rfl) | (simp only [← hji7]; first | rfl | (simp [errW_none, errW_some] <;> rfl)) | (simp [*, errW_none, errW_some] <;> rfl), by (with_reducible repeat (first | apply Kd.V_alloc | apply Kd.V_drewN | apply Kd.V_drew)); exact Kd.V_mono HO_0.out (fun _ hk => hk.1), bS1_ GE142.out⟩
    rw [if_neg c18] at H
    have c18b0 := decide_eq_false c18
    clear c18
    by_cases c19 : (l2.length : Int) > a3
    ·rw [if_pos c19] at H
     have c19b0 : decide (a3 < (l2.length : Int)) = true := decide_eq_true c19
     clear c19
     simp only [Option.some.injEq, Prod.mk.injEq] at H
     obtain ⟨rfl, rfl, rfl⟩ := H
     go_wp2
     go_ret3
     exact ⟨_, by first | rfl | (simp [errW_none, errW_some] <;> rfl) | (simp only [← hji7]; first | rfl | (simp [errW_none, errW_some] <;> rfl)) | (simp [*, errW_none, errW_some] <;> rfl), by (with_reducible repeat (first | apply Kd.V_alloc | apply Kd.V_drewN | apply Kd.V_drew)); exact Kd.V_mono HO_0.out (fun _ hk => hk.1), bS1_ GE142.out⟩
    rw [if_neg c19] at H
    have c19b0 : decide (a3 < (l2.length : Int)) = false := decide_eq_false c19
    clear c19
    have H' := aK_ H; clear H
    go_wp2
    go_loopg [12] kj9 (fun kq v12 w' => ∃ (x12_2 : Int), v12 = .int .i64 x12_2 ∧ Aside0 (catchmentref27_Took.l0 kq l0 a1 l2 a3 x12_2 ((rd_T97 l0 (ji7)).f0.f0) ((rd_T97 l0 (ji7)).f0.f1) ((rd_T97 l0 (ji7)).f1) ((rd_T97 l0 (ji7)).f2) = some (r1, r2, r3)) ∧ Aside0 (kq ≤ kj9) ∧ Aside0 (Kd.V k97 97 w' w.heap.size (fun k_ => (P0_ k_ ∨ w.heap.size ≤ k_) ∧ k_ ≠ gb142) (.slice (some ad141) l0.length c0) l0) ∧ Aside0 (w'.heap[gb142]? = some (.cells #[.string ((rd_T97 l0 (ji7)).f0.f0), .string ((rd_T97 l0 (ji7)).f0.f1), .bool ((rd_T97 l0 (ji7)).f1), .bool ((rd_T97 l0 (ji7)).f2)] 97 (0, 0))) ∧ Aside0 (Below w.heap.size w w'))
    case atStart => exact ⟨(0), rZ_, H', ⟨Nat.le_refl _⟩, ⟨kV_ HO_0.out⟩, ⟨bX_ BK142.out⟩, ⟨bS1_ GE142.out⟩⟩
    clear H'
    try clear c1
    try clear p1
    try clear q1
    try clear hx1
    try clear c2
    try clear p2
    try clear c4
    try clear c6
    try clear p6
    try clear c8
    try clear c8b0
    try clear c9
    try clear c9b0
    try clear q13
    try clear c14
    try clear p14
    try clear q14
    try clear hx14
    try clear c17
    try clear c18b0
    try clear c19b0
    try clear hz12
    try clear hz15
    try clear hz16
    try clear hz12
    try clear hz15
    try clear hz16
    try clear hx141_0
    try clear hx141_1
    try clear hx141_2
    try clear hx141_3
    try clear p1
    try clear p14
    try clear p141
    try clear p2
    try clear p6
    try clear q1
    try clear q13
    try clear q14
    try clear q141
    obtain ⟨x12_2, rfl, HA, HK2, HO_0, BK142, HB⟩ := hrel
    cases gk with
    | zero => exact absurd HA.out (by simp [catchmentref27_Took.l0])
    | succ k2 => ?_
    have H := HA.out
    clear HA
    simp only [catchmentref27_Took.l0] at H
    by_cases c20 : x12_2 < (l2.length : Int)
    ·rw [if_pos c20] at H
     have c20b0 := decide_eq_true c20
     clear c20
     by_cases c21 : 0 ≤ x12_2
     ·rw [if_pos c21] at H
      have c21b0 := decide_eq_true c21
      clear c21
      replace H := Option.bind_eq_some_iff.mp H
      obtain ⟨t144, A220, H⟩ := H
      replace H : (if t144 = true then (catchmentref27_Took.l0 k2 l0 a1 l2 a3 (wrap64 (x12_2 + 1)) ((rd_T97 l0 (ji7)).f0.f0) ((rd_T97 l0 (ji7)).f0.f1) ((rd_T97 l0 (ji7)).f1) ((rd_T97 l0 (ji7)).f2)) else (some (l0, false, 16))) = some (r1, r2, r3) := H
      have A22 := aK_ A220
      clear A220
      by_cases c23 : t144 = true
      ·subst c23
       have H1 : (catchmentref27_Took.l0 k2 l0 a1 l2 a3 (wrap64 (x12_2 + 1)) ((rd_T97 l0 (ji7)).f0.f0) ((rd_T97 l0 (ji7)).f0.f1) ((rd_T97 l0 (ji7)).f1) ((rd_T97 l0 (ji7)).f2)) = some (r1, r2, r3) := by rw [if_pos rfl] at H; exact H
       clear H
       have H := H1
       clear H1
       have H' := aK_ H; clear H
       try go_wp2
       have n0_ := aK_ (Kd.V_drew HO_0.out)
       have n1_ := aK_ (bD BK142.out)
       have n2_ := aK_ (w1 HB.out)
       clear HO_0
       clear BK142
       clear HB
       have HO_0 := n0_
       have BK142 := n1_
       have HB := n2_
       clear n0_ n1_ n2_
       have p143 : 0 ≤ (x12_2 : Int) := pD_
       have q143 : x12_2 < (l2.length : Int) := pD_
       obtain ⟨ad143, e143, hx143_0, hx143_1⟩ := at_T103 HR2.out x12_2 p143 q143
       have hw143_1 := hx143_1
       have hw143_0 := hx143_0
       cases e143
       replace hx143_0 := cB_ hx143_0
       replace hx143_1 := cB_ hx143_1
       replace p143 := eq_true p143
       replace q143 := eq_true q143
       refine start_ (n := 9) (S := fun w' => w'.cell? ⟨gb142, 0, none⟩ = some (.string ((rd_T97 l0 (ji7)).f0.f0)) ∧ w'.cell? ⟨gb142, 1, none⟩ = some (.string ((rd_T97 l0 (ji7)).f0.f1)) ∧ w'.cell? ⟨gb142, 2, none⟩ = some (.bool ((rd_T97 l0 (ji7)).f1)) ∧ w'.cell? ⟨gb142, 3, none⟩ = some (.bool ((rd_T97 l0 (ji7)).f2)) ∧ w'.cell? (ad143.add ((x12_2).toNat * 2)) = some (.string ((rd_T103 l2 x12_2).f0)) ∧ w'.cell? ⟨(ad143.add ((x12_2).toNat * 2)).block, (ad143.add ((x12_2).toNat * 2)).off + 1, none⟩ = some (.string ((rd_T103 l2 x12_2).f1))) (ds := []) #[ZZ,ZZ,ZZ,ZZ,ZZ,ZZ,ZZ,ZZ,ZZ] (by kernel_rfl) rfl rfl ⟨(bC BK142.out 0).trans rfl, (bC BK142.out 1).trans rfl, (bC BK142.out 2).trans rfl, (bC BK142.out 3).trans rfl, ((HB.out.cell (World.block_lt_of_cell? w _ hw143_0)).trans hw143_0), ((HB.out.cell (World.block_lt_of_cell? w _ hw143_1)).trans hw143_1)⟩ (fun hHeld => ?_); refine with_tabW catchmentref27_Took.tab13 catchmentref27_Took.bits13 (fun HT_ HW_ => ?_)
       generalize wr.drew = w24 at HO_0 BK142 HB hx143_0 hx143_1 hHeld ⊢
       refine pU_ 0 46 #[YY,ZZ,ZZ,ZZ,ZZ,ZZ,ZZ,ZZ,ZZ] ?_
       refine pU_ 2 48 #[YY,ZZ,YY,ZZ,ZZ,ZZ,ZZ,ZZ,ZZ] ?_
       refine pU_ 3 49 #[YY,ZZ,YY,YY,ZZ,ZZ,ZZ,ZZ,ZZ] ?_
       refine pU_ 4 50 #[YY,ZZ,YY,YY,YY,ZZ,ZZ,ZZ,ZZ] ?_
       refine pU_ 5 51 #[YY,ZZ,YY,YY,YY,YY,ZZ,ZZ,ZZ] ?_
       refine take_ (i := 1) (N := some 47) (v := ?_) (a' := ?_) #[YY,YY,YY,YY,YY,YY,ZZ,ZZ,ZZ] rfl rfl (take_ofW HT_.out HW_.out (by kernel_rfl)) (fun _ _ _ h => h) (Or.inl ⟨by rfl, ?_⟩) hHeld ?_ ?_
       rotate_left
       ·rintro w' ⟨s0, s1, s2, s3, s4, s5⟩
        go_simp
        with_reducible rfl
       rotate_left
       ·simp only [Act.put, sA1, sA2, sA3, i64_w, i32_w]
        rfl
       refine take_ (i := 6) (N := some 52) (v := ?_) (a' := ?_) #[YY,YY,YY,YY,YY,YY,YY,ZZ,ZZ] rfl rfl (take_ofW HT_.out HW_.out (by kernel_rfl)) (fun _ _ _ h => h) (Or.inl ⟨by rfl, ?_⟩) hHeld ?_ ?_
       rotate_left
       ·rintro w' ⟨s0, s1, s2, s3, s4, s5⟩
        go_simp
        with_reducible rfl
       rotate_left
       ·simp only [Act.put, sA1, sA2, sA3, i64_w, i32_w]
        rfl
       refine one_ (i := 7) (N := some 53) #[YY,YY,YY,YY,YY,YY,YY,YY,ZZ] rfl rfl (one_of HT_.out (by kernel_rfl)) (by decide) (fun K hK => ?_)
       refine goes_ Try.func65 (by kernel_rfl) rfl #[.agg #[.string ((rd_T97 l0 (ji7)).f0.f0), .string ((rd_T97 l0 (ji7)).f0.f1)], .string ((rd_T103 l2 x12_2).f0)] (by rfl) rfl rfl (by (try simp only [mA1, mA2, mA3]); first | done | (simp only [hji7]; rfl) | rfl | (simp only [mA5, mA4]; rfl)) ?_
       with_reducible refine (catchmentref02_Holds.calls ((rd_T97 l0 (ji7)).f0.f0) ((rd_T97 l0 (ji7)).f0.f1) ((rd_T103 l2 x12_2).f0) true _ A22.out).mono ?_
       rintro e w25 ⟨rfl, hb⟩
       refine ⟨_, rfl, ?_⟩
       have n0_ := aK_ (Kd.V_below (kV_ HO_0.out) hb)
       have n1_ := aK_ (bB (g := gb142) (o := .cells #[.string ((rd_T97 l0 (ji7)).f0.f0), .string ((rd_T97 l0 (ji7)).f0.f1), .bool ((rd_T97 l0 (ji7)).f1), .bool ((rd_T97 l0 (ji7)).f2)] 97 (0, 0)) (bX_ BK142.out) hb)
       have n2_ := aK_ (wT (bS1_ GE142.out) hb)
       clear HO_0
       clear BK142
       clear HB
       have HO_0 := n0_
       have BK142 := n1_
       have HB := n2_
       clear n0_ n1_ n2_
       (try clear hb)
       (try clear hb2)
       (try clear hk)
       (try clear hi)
       refine hK.out _ _ ⟨(bC BK142.out 0).trans rfl, (bC BK142.out 1).trans rfl, (bC BK142.out 2).trans rfl, (bC BK142.out 3).trans rfl, ((HB.out.cell (World.block_lt_of_cell? w _ hw143_0)).trans hw143_0), ((HB.out.cell (World.block_lt_of_cell? w _ hw143_1)).trans hw143_1)⟩ (fun hHeld => ?_)
       clear hK K
       refine norm_ (a' := ?_) ?_ ?_
       rotate_left
       ·show Act.put _ (some 53) _ = _
        simp only [Act.put, sA1, sA2, sA3, i64_w, i32_w]
        rfl
       refine pU_ 8 54 #[YY,YY,YY,YY,YY,YY,YY,YY,YY] ?_
       refine done_ (done_of HT_.out (by kernel_rfl)) ?_
       try go_wp2
       go_roundg k2
       case measure => have := HJ9.out; have := HK2.out; omega
       case rel => exact ⟨(wrap64 (x12_2 + 1)), rZ_, H', ⟨by have := HJ9.out; have := HK2.out; omega⟩, ⟨kV_ HO_0.out⟩, ⟨bX_ BK142.out⟩, ⟨bS1_ GE142.out⟩⟩
      replace c23 := Bool.eq_false_iff.mpr c23
      subst c23
      have H1 : (some (l0, false, 16)) = some (r1, r2, r3) := by rw [if_neg (show ¬ (false = true) by decide)] at H; exact H
      clear H
      have H := H1
      clear H1
      simp only [Option.some.injEq, Prod.mk.injEq] at H
      obtain ⟨rfl, rfl, rfl⟩ := H
      try go_wp2
      have n0_ := aK_ (Kd.V_drew HO_0.out)
      have n1_ := aK_ (bD BK142.out)
      have n2_ := aK_ (w1 HB.out)
      clear HO_0
      clear BK142
      clear HB
      have HO_0 := n0_
      have BK142 := n1_
      have HB := n2_
      clear n0_ n1_ n2_
      have p143 : 0 ≤ (x12_2 : Int) := pD_
      have q143 : x12_2 < (l2.length : Int) := pD_
      obtain ⟨ad143, e143, hx143_0, hx143_1⟩ := at_T103 HR2.out x12_2 p143 q143
      have hw143_1 := hx143_1
      have hw143_0 := hx143_0
      cases e143
      replace hx143_0 := cB_ hx143_0
      replace hx143_1 := cB_ hx143_1
      replace p143 := eq_true p143
      replace q143 := eq_true q143
      refine start_ (n := 9) (S := fun w' => w'.cell? ⟨gb142, 0, none⟩ = some (.string ((rd_T97 l0 (ji7)).f0.f0)) ∧ w'.cell? ⟨gb142, 1, none⟩ = some (.string ((rd_T97 l0 (ji7)).f0.f1)) ∧ w'.cell? ⟨gb142, 2, none⟩ = some (.bool ((rd_T97 l0 (ji7)).f1)) ∧ w'.cell? ⟨gb142, 3, none⟩ = some (.bool ((rd_T97 l0 (ji7)).f2)) ∧ w'.cell? (ad143.add ((x12_2).toNat * 2)) = some (.string ((rd_T103 l2 x12_2).f0)) ∧ w'.cell? ⟨(ad143.add ((x12_2).toNat * 2)).block, (ad143.add ((x12_2).toNat * 2)).off + 1, none⟩ = some (.string ((rd_T103 l2 x12_2).f1))) (ds := []) #[ZZ,ZZ,ZZ,ZZ,ZZ,ZZ,ZZ,ZZ,ZZ] (by kernel_rfl) rfl rfl ⟨(bC BK142.out 0).trans rfl, (bC BK142.out 1).trans rfl, (bC BK142.out 2).trans rfl, (bC BK142.out 3).trans rfl, ((HB.out.cell (World.block_lt_of_cell? w _ hw143_0)).trans hw143_0), ((HB.out.cell (World.block_lt_of_cell? w _ hw143_1)).trans hw143_1)⟩ (fun hHeld => ?_); refine with_tabW catchmentref27_Took.tab13 catchmentref27_Took.bits13 (fun HT_ HW_ => ?_)
      generalize wr.drew = w26 at HO_0 BK142 HB hx143_0 hx143_1 hHeld ⊢
      refine pU_ 0 46 #[YY,ZZ,ZZ,ZZ,ZZ,ZZ,ZZ,ZZ,ZZ] ?_
      refine pU_ 2 48 #[YY,ZZ,YY,ZZ,ZZ,ZZ,ZZ,ZZ,ZZ] ?_
      refine pU_ 3 49 #[YY,ZZ,YY,YY,ZZ,ZZ,ZZ,ZZ,ZZ] ?_
      refine pU_ 4 50 #[YY,ZZ,YY,YY,YY,ZZ,ZZ,ZZ,ZZ] ?_
      refine pU_ 5 51 #[YY,ZZ,YY,YY,YY,YY,ZZ,ZZ,ZZ] ?_
      refine take_ (i := 1) (N := some 47) (v := ?_) (a' := ?_) #[YY,YY,YY,YY,YY,YY,ZZ,ZZ,ZZ] rfl rfl (take_ofW HT_.out HW_.out (by kernel_rfl)) (fun _ _ _ h => h) (Or.inl ⟨by rfl, ?_⟩) hHeld ?_ ?_
      rotate_left
      ·rintro w' ⟨s0, s1, s2, s3, s4, s5⟩
       go_simp
       with_reducible rfl
      rotate_left
      ·simp only [Act.put, sA1, sA2, sA3, i64_w, i32_w]
       rfl
      refine take_ (i := 6) (N := some 52) (v := ?_) (a' := ?_) #[YY,YY,YY,YY,YY,YY,YY,ZZ,ZZ] rfl rfl (take_ofW HT_.out HW_.out (by kernel_rfl)) (fun _ _ _ h => h) (Or.inl ⟨by rfl, ?_⟩) hHeld ?_ ?_
      rotate_left
      ·rintro w' ⟨s0, s1, s2, s3, s4, s5⟩
       go_simp
       with_reducible rfl
      rotate_left
      ·simp only [Act.put, sA1, sA2, sA3, i64_w, i32_w]
       rfl
      refine one_ (i := 7) (N := some 53) #[YY,YY,YY,YY,YY,YY,YY,YY,ZZ] rfl rfl (one_of HT_.out (by kernel_rfl)) (by decide) (fun K hK => ?_)
      refine goes_ Try.func65 (by kernel_rfl) rfl #[.agg #[.string ((rd_T97 l0 (ji7)).f0.f0), .string ((rd_T97 l0 (ji7)).f0.f1)], .string ((rd_T103 l2 x12_2).f0)] (by rfl) rfl rfl (by (try simp only [mA1, mA2, mA3]); first | done | (simp only [hji7]; rfl) | rfl | (simp only [mA5, mA4]; rfl)) ?_
      with_reducible refine (catchmentref02_Holds.calls ((rd_T97 l0 (ji7)).f0.f0) ((rd_T97 l0 (ji7)).f0.f1) ((rd_T103 l2 x12_2).f0) false _ A22.out).mono ?_
      rintro e w27 ⟨rfl, hb⟩
      refine ⟨_, rfl, ?_⟩
      have n0_ := aK_ (Kd.V_below (kV_ HO_0.out) hb)
      have n1_ := aK_ (bB (g := gb142) (o := .cells #[.string ((rd_T97 l0 (ji7)).f0.f0), .string ((rd_T97 l0 (ji7)).f0.f1), .bool ((rd_T97 l0 (ji7)).f1), .bool ((rd_T97 l0 (ji7)).f2)] 97 (0, 0)) (bX_ BK142.out) hb)
      have n2_ := aK_ (wT (bS1_ GE142.out) hb)
      clear HO_0
      clear BK142
      clear HB
      have HO_0 := n0_
      have BK142 := n1_
      have HB := n2_
      clear n0_ n1_ n2_
      (try clear hb)
      (try clear hb2)
      (try clear hk)
      (try clear hi)
      refine hK.out _ _ ⟨(bC BK142.out 0).trans rfl, (bC BK142.out 1).trans rfl, (bC BK142.out 2).trans rfl, (bC BK142.out 3).trans rfl, ((HB.out.cell (World.block_lt_of_cell? w _ hw143_0)).trans hw143_0), ((HB.out.cell (World.block_lt_of_cell? w _ hw143_1)).trans hw143_1)⟩ (fun hHeld => ?_)
      clear hK K
      refine norm_ (a' := ?_) ?_ ?_
      rotate_left
      ·show Act.put _ (some 53) _ = _
       simp only [Act.put, sA1, sA2, sA3, i64_w, i32_w]
       rfl
      refine pU_ 8 54 #[YY,YY,YY,YY,YY,YY,YY,YY,YY] ?_
      refine done_ (done_of HT_.out (by kernel_rfl)) ?_
      try go_wp2
      go_ret3
      exact ⟨_, by first | rfl | (simp [errW_none, errW_some] <;> rfl) | (simp only [← hji7]; first | rfl | (simp [errW_none, errW_some] <;> rfl)) | (simp [*, errW_none, errW_some] <;> rfl), by (with_reducible repeat (first | apply Kd.V_alloc | apply Kd.V_drewN | apply Kd.V_drew)); exact Kd.V_mono HO_0.out (fun _ hk => hk.1), bS1_ GE142.out⟩
     rw [if_neg c21] at H
     exact absurd H (by simp)
    rw [if_neg c20] at H
    have c20b0 := decide_eq_false c20
    clear c20
    replace H := Option.bind_eq_some_iff.mp H
    obtain ⟨t145, A280, H⟩ := H
    replace H : (if t145 = true then (if ((rd_T97 l0 (ji7)).f1) = true then (catchmentref27_Took.j2 k2 l0 a1 l2 true ((rd_T97 l0 (ji7)).f0.f0) ((rd_T97 l0 (ji7)).f0.f1) ((rd_T97 l0 (ji7)).f1) ((rd_T97 l0 (ji7)).f2)) else (catchmentref27_Took.j2 k2 l0 a1 l2 (decide ((l2.length : Int) < a3)) ((rd_T97 l0 (ji7)).f0.f0) ((rd_T97 l0 (ji7)).f0.f1) ((rd_T97 l0 (ji7)).f1) ((rd_T97 l0 (ji7)).f2))) else (some (l0, false, 16))) = some (r1, r2, r3) := H
    have A28 := aK_ A280
    clear A280
    by_cases c29 : t145 = true
    ·subst c29
     have H1 : (if ((rd_T97 l0 (ji7)).f1) = true then (catchmentref27_Took.j2 k2 l0 a1 l2 true ((rd_T97 l0 (ji7)).f0.f0) ((rd_T97 l0 (ji7)).f0.f1) ((rd_T97 l0 (ji7)).f1) ((rd_T97 l0 (ji7)).f2)) else (catchmentref27_Took.j2 k2 l0 a1 l2 (decide ((l2.length : Int) < a3)) ((rd_T97 l0 (ji7)).f0.f0) ((rd_T97 l0 (ji7)).f0.f1) ((rd_T97 l0 (ji7)).f1) ((rd_T97 l0 (ji7)).f2))) = some (r1, r2, r3) := by rw [if_pos rfl] at H; exact H
     clear H
     have H := H1
     clear H1
     have HC30 := aK_ H
     clear H
     go_upto_region 17 with (first | ((with_reducible refine gate_callee (f := 29) rfl ?_); refine goesL_ (some 57) rfl rfl Try.func29 (by kernel_rfl) rfl #[.slice A2 l2.length c2] rfl mS_ ?_; (with_reducible refine (catchmentref05_Rises.calls k2 _ _ l2 true _ ?side1 ?side2 A28.out).mono ?_); (case side1 => repeat (first | exact (Kd.C_below HR2.out HB.out) | (with_reducible refine Kd.C_alloc ?_ _) | (with_reducible refine Kd.C_drewN ?_ _) | (with_reducible refine Kd.C_drew ?_))); (case side2 => exact HC2.out); rintro e w' ⟨rfl, ⟨nd, rfl⟩⟩; refine ⟨_, rfl, ?_⟩))
     (try simp only [Act.put, sA1, sA2, sA3])
     go_cut [67] (fun v67 wc => ∃ (kq : Nat) (x67_29 : Bool), v67 = .bool x67_29 ∧ Aside0 (catchmentref27_Took.j2 kq l0 a1 l2 x67_29 ((rd_T97 l0 (ji7)).f0.f0) ((rd_T97 l0 (ji7)).f0.f1) ((rd_T97 l0 (ji7)).f1) ((rd_T97 l0 (ji7)).f2) = some (r1, r2, r3)) ∧ Aside0 (kq ≤ k2) ∧ Aside0 (Kd.V k97 97 wc w.heap.size (fun k_ => (P0_ k_ ∨ w.heap.size ≤ k_) ∧ k_ ≠ gb142) (.slice (some ad141) l0.length c0) l0) ∧ Aside0 (wc.heap[gb142]? = some (.cells #[.string ((rd_T97 l0 (ji7)).f0.f0), .string ((rd_T97 l0 (ji7)).f0.f1), .bool ((rd_T97 l0 (ji7)).f1), .bool ((rd_T97 l0 (ji7)).f2)] 97 (0, 0))) ∧ Aside0 (Below w.heap.size w wc))
     case first =>
      have H := HC30.out
      clear HC30
      by_cases c31 : ((rd_T97 l0 (ji7)).f1) = true
      ·rw [if_pos c31] at H
       have c31b0 : ((rd_T97 l0 (ji7)).f1) = true := c31
       clear c31
       (first | rw [c31b0] | (simp only [i64_w, i32_w]; rw [c31b0]) | skip)
       have H' := aK_ H; clear H
       have hz32 := cq4_ BK142.out
       go_wp2
       go_meet
       case rel => exact ⟨_, (true), rZ_, H', ⟨by have := HJ9.out; have := HK2.out; first | omega | exact Nat.le_refl _⟩, ⟨kV_ HO_0.out⟩, ⟨bX_ BK142.out⟩, ⟨bS1_ GE142.out⟩⟩
      rw [if_neg c31] at H
      have c31b0 : ((rd_T97 l0 (ji7)).f1) = false := by simpa using c31
      clear c31
      (first | rw [c31b0] | (simp only [i64_w, i32_w]; rw [c31b0]) | skip)
      have H' := aK_ H; clear H
      have hz33 := cq4_ BK142.out
      go_wp2
      go_meet
      case rel => exact ⟨_, (decide ((l2.length : Int) < a3)), rZ_, H', ⟨by have := HJ9.out; have := HK2.out; first | omega | exact Nat.le_refl _⟩, ⟨kV_ HO_0.out⟩, ⟨bX_ BK142.out⟩, ⟨bS1_ GE142.out⟩⟩
     clear HC30
     try clear c1
     try clear p1
     try clear q1
     try clear hx1
     try clear c2
     try clear p2
     try clear c3
     try clear c4
     try clear c6
     try clear p6
     try clear c8
     try clear c8b0
     try clear c9
     try clear c9b0
     try clear q13
     try clear c14
     try clear p14
     try clear q14
     try clear hx14
     try clear c17
     try clear c18b0
     try clear c19b0
     try clear c20b0
     try clear c21
     try clear c21b0
     try clear c23
     try clear c29
     try clear c31b0
     try clear hz12
     try clear hz15
     try clear hz16
     try clear hz32
     try clear hz33
     try clear hz12
     try clear hz15
     try clear hz16
     try clear hz32
     try clear hz33
     try clear hx141_0
     try clear hx141_1
     try clear hx141_2
     try clear hx141_3
     try clear hx143_0
     try clear hx143_1
     try clear p1
     try clear p14
     try clear p141
     try clear p143
     try clear p2
     try clear p6
     try clear q1
     try clear q13
     try clear q14
     try clear q141
     try clear q143
     obtain ⟨kq, x67_29, rfl, HA, HJ29, HO_0, BK142, HB⟩ := hcut
     cases kq with
     | zero => exact absurd HA.out (by simp [catchmentref27_Took.j2])
     | succ kj29 => ?_
     have H := HA.out
     clear HA
     simp only [catchmentref27_Took.j2] at H
     by_cases c34 : x67_29 = true
     ·subst c34
      have H1 : ((catchmentref27_With.f l0 a1 (⟨#[]⟩ : BA) (⟨#[]⟩ : BA) true false).bind fun t146 => (some (t146, true, 0))) = some (r1, r2, r3) := by rw [if_pos rfl] at H; exact H
      clear H
      have H := H1
      clear H1
      replace H := Option.bind_eq_some_iff.mp H
      obtain ⟨t146, A350, H⟩ := H
      replace H : (some (t146, true, 0)) = some (r1, r2, r3) := H
      have A35 := aK_ A350
      clear A350
      simp only [Option.some.injEq, Prod.mk.injEq] at H
      obtain ⟨rfl, rfl, rfl⟩ := H
      go_wp2_with (first | ((with_reducible refine gate_callee (f := 73) rfl ?_); refine goesL_ (some 71) rfl rfl Try.func73 (by kernel_rfl) rfl #[.slice (some ad141) l0.length c0, .int .i64 a1, .agg #[.string (⟨#[]⟩ : BA), .string (⟨#[]⟩ : BA), .bool true, .bool false]] rfl mS_ ?_; (with_reducible refine (catchmentref27_With.calls _ _ l0 a1 (⟨#[]⟩ : BA) (⟨#[]⟩ : BA) true false t146 _ ?side1 ?side2 A35.out).mono ?_); (case side1 => repeat (first | exact (Kd.V_reads' HO_0.out).2.2 | (with_reducible refine Kd.C_alloc ?_ _) | (with_reducible refine Kd.C_drewN ?_ _) | (with_reducible refine Kd.C_drew ?_))); (case side2 => exact (Kd.V_reads' HO_0.out).2.1); rintro e w36 ⟨v147, rfl, ho0, hb⟩; refine ⟨_, rfl, ?_⟩; replace HO_0 := aK_ (Kd.V_elder' (kV_ HO_0.out) (Kd.R_base ho0) hb); have HO148 := aK_ (Kd.R_lower (Kd.R_newB (Kd.R_newM (M := fun k_ => (w.heap.size ≤ k_)) ho0 (wZ (bS1_ GE142.out)) (fun k_ h_ => h_)) (g := gb142) (o := .cells #[.string ((rd_T97 l0 (ji7)).f0.f0), .string ((rd_T97 l0 (ji7)).f0.f1), .bool ((rd_T97 l0 (ji7)).f1), .bool ((rd_T97 l0 (ji7)).f2)] 97 (0, 0)) (bX_ BK142.out)) (wZ (bS1_ GE142.out))); replace BK142 := aK_ (bB (g := gb142) (o := .cells #[.string ((rd_T97 l0 (ji7)).f0.f0), .string ((rd_T97 l0 (ji7)).f0.f1), .bool ((rd_T97 l0 (ji7)).f1), .bool ((rd_T97 l0 (ji7)).f2)] 97 (0, 0)) (bX_ BK142.out) hb); replace HB := aK_ (wT (bS1_ GE142.out) hb); (try clear hb); (try clear hb2); (try clear hk); (try clear hi); (try clear ho0)))
      go_ret3
      exact ⟨_, by first | rfl | (simp [errW_none, errW_some] <;> rfl) | (simp only [← hji7]; first | rfl | (simp [errW_none, errW_some] <;> rfl)) | (simp [*, errW_none, errW_some] <;> rfl), Kd.V_mono (Kd.R_V (by (with_reducible repeat (first | apply Kd.R_alloc | apply Kd.R_drewN | apply Kd.R_drew)); exact Kd.R_mono HO148.out (fun _ hk => hk.1.1))) (fun k_ hk => by first | exact ⟨(.inr (hk.1)), hk.2⟩ | exact (.inr (hk))), bS1_ GE142.out⟩
     replace c34 := Bool.eq_false_iff.mpr c34
     subst c34
     have H1 : (if 0 ≤ (wrap64 ((l2.length : Int) - 1)) then (if (wrap64 ((l2.length : Int) - 1)) < (l2.length : Int) then (if ((rd_T103 l2 (wrap64 ((l2.length : Int) - 1))).f0).size + 1 ≤ 9223372036854775807 then ((catchmentref02_Right.f (((rd_T103 l2 (wrap64 ((l2.length : Int) - 1))).f0) ++ (⟨#[0]⟩ : BA)) ((rd_T97 l0 (ji7)).f0.f1)).bind fun t151 => (if t151 = true then ((catchmentref27_With.f l0 a1 (((rd_T103 l2 (wrap64 ((l2.length : Int) - 1))).f0) ++ (⟨#[0]⟩ : BA)) ((rd_T97 l0 (ji7)).f0.f1) false false).bind fun t152 => (some (t152, false, 0))) else ((catchmentref27_With.f l0 a1 (⟨#[]⟩ : BA) (⟨#[]⟩ : BA) true false).bind fun t155 => (some (t155, true, 0))))) else (none)) else (none)) else (none)) = some (r1, r2, r3) := by rw [if_neg (show ¬ (false = true) by decide)] at H; exact H
     clear H
     have H := H1
     clear H1
     obtain ⟨ji37, hji37⟩ : ∃ j_ : Int, (wrap64 ((l2.length : Int) - 1)) = j_ := ⟨_, rfl⟩
     replace H : (if 0 ≤ (ji37) then (if (ji37) < (l2.length : Int) then (if ((rd_T103 l2 (ji37)).f0).size + 1 ≤ 9223372036854775807 then ((catchmentref02_Right.f (((rd_T103 l2 (ji37)).f0) ++ (⟨#[0]⟩ : BA)) ((rd_T97 l0 (ji7)).f0.f1)).bind fun t151 => (if t151 = true then ((catchmentref27_With.f l0 a1 (((rd_T103 l2 (ji37)).f0) ++ (⟨#[0]⟩ : BA)) ((rd_T97 l0 (ji7)).f0.f1) false false).bind fun t152 => (some (t152, false, 0))) else ((catchmentref27_With.f l0 a1 (⟨#[]⟩ : BA) (⟨#[]⟩ : BA) true false).bind fun t155 => (some (t155, true, 0))))) else (none)) else (none)) else (none)) = some (r1, r2, r3) := by first | (rw [hji37] at H; exact H) | (simp only [hji37] at H ⊢; exact H)
     have hji37w : (IntKind.i64.wrap ((l2.length : Int) - 1)) = ji37 := (i64_w _).trans hji37
     by_cases c38 : 0 ≤ (ji37)
     ·rw [if_pos c38] at H
      have c38b0 := decide_eq_true c38
      clear c38
      by_cases c39 : (ji37) < (l2.length : Int)
      ·rw [if_pos c39] at H
       have c39b0 := decide_eq_true c39
       clear c39
       by_cases c40 : ((rd_T103 l2 (ji37)).f0).size + 1 ≤ 9223372036854775807
       ·rw [if_pos c40] at H
        have c40b0 := eq_true c40
        have c40b1 := decide_eq_true c40
        try have c40b2 : (9223372036854775807 < ((rd_T103 l2 (ji37)).f0).size + 1) = False := eq_false (Nat.not_lt.2 c40)
        replace H := Option.bind_eq_some_iff.mp H
        obtain ⟨t151, A410, H⟩ := H
        replace H : (if t151 = true then ((catchmentref27_With.f l0 a1 (((rd_T103 l2 (ji37)).f0) ++ (⟨#[0]⟩ : BA)) ((rd_T97 l0 (ji7)).f0.f1) false false).bind fun t152 => (some (t152, false, 0))) else ((catchmentref27_With.f l0 a1 (⟨#[]⟩ : BA) (⟨#[]⟩ : BA) true false).bind fun t155 => (some (t155, true, 0)))) = some (r1, r2, r3) := H
        have A41 := aK_ A410
        clear A410
        by_cases c42 : t151 = true
        ·subst c42
         have H1 : ((catchmentref27_With.f l0 a1 (((rd_T103 l2 (ji37)).f0) ++ (⟨#[0]⟩ : BA)) ((rd_T97 l0 (ji7)).f0.f1) false false).bind fun t152 => (some (t152, false, 0))) = some (r1, r2, r3) := by rw [if_pos rfl] at H; exact H
         clear H
         have H := H1
         clear H1
         replace H := Option.bind_eq_some_iff.mp H
         obtain ⟨t152, A430, H⟩ := H
         replace H : (some (t152, false, 0)) = some (r1, r2, r3) := H
         have A43 := aK_ A430
         clear A430
         simp only [Option.some.injEq, Prod.mk.injEq] at H
         obtain ⟨rfl, rfl, rfl⟩ := H
         try go_wp2
         have n0_ := aK_ (Kd.V_drew HO_0.out)
         have n1_ := aK_ (bD BK142.out)
         have n2_ := aK_ (w1 HB.out)
         clear HO_0
         clear BK142
         clear HB
         have HO_0 := n0_
         have BK142 := n1_
         have HB := n2_
         clear n0_ n1_ n2_
         have p149 : 0 ≤ ((ji37) : Int) := pD_
         have q149 : (ji37) < (l2.length : Int) := pD_
         obtain ⟨ad149, e149, hx149_0, hx149_1⟩ := at_T103 HR2.out (ji37) p149 q149
         have hw149_1 := hx149_1
         have hw149_0 := hx149_0
         cases e149
         replace hx149_0 := cB_ hx149_0
         replace hx149_1 := cB_ hx149_1
         replace p149 := eq_true p149
         replace q149 := eq_true q149
         refine start_ (n := 14) (S := fun w' => w'.cell? ⟨gb142, 0, none⟩ = some (.string ((rd_T97 l0 (ji7)).f0.f0)) ∧ w'.cell? ⟨gb142, 1, none⟩ = some (.string ((rd_T97 l0 (ji7)).f0.f1)) ∧ w'.cell? ⟨gb142, 2, none⟩ = some (.bool ((rd_T97 l0 (ji7)).f1)) ∧ w'.cell? ⟨gb142, 3, none⟩ = some (.bool ((rd_T97 l0 (ji7)).f2)) ∧ w'.cell? (ad149.add (((ji37)).toNat * 2)) = some (.string ((rd_T103 l2 (ji37)).f0)) ∧ w'.cell? ⟨(ad149.add (((ji37)).toNat * 2)).block, (ad149.add (((ji37)).toNat * 2)).off + 1, none⟩ = some (.string ((rd_T103 l2 (ji37)).f1))) (ds := []) #[ZZ,ZZ,ZZ,ZZ,ZZ,ZZ,ZZ,ZZ,ZZ,ZZ,ZZ,ZZ,ZZ,ZZ] (by kernel_rfl) rfl rfl ⟨(bC BK142.out 0).trans rfl, (bC BK142.out 1).trans rfl, (bC BK142.out 2).trans rfl, (bC BK142.out 3).trans rfl, ((HB.out.cell (World.block_lt_of_cell? w _ hw149_0)).trans hw149_0), ((HB.out.cell (World.block_lt_of_cell? w _ hw149_1)).trans hw149_1)⟩ (fun hHeld => ?_); refine with_tabW catchmentref27_Took.tab19 catchmentref27_Took.bits19 (fun HT_ HW_ => ?_)
         generalize wc.drew = w44 at HO_0 BK142 HB hx149_0 hx149_1 hHeld ⊢
         refine pU_ 0 72 #[YY,ZZ,ZZ,ZZ,ZZ,ZZ,ZZ,ZZ,ZZ,ZZ,ZZ,ZZ,ZZ,ZZ] ?_
         refine pU_ 1 73 #[YY,YY,ZZ,ZZ,ZZ,ZZ,ZZ,ZZ,ZZ,ZZ,ZZ,ZZ,ZZ,ZZ] ?_
         refine pU_ 2 74 #[YY,YY,YY,ZZ,ZZ,ZZ,ZZ,ZZ,ZZ,ZZ,ZZ,ZZ,ZZ,ZZ] ?_
         refine pU_ 3 75 #[YY,YY,YY,YY,ZZ,ZZ,ZZ,ZZ,ZZ,ZZ,ZZ,ZZ,ZZ,ZZ] ?_
         refine pU_ 4 76 #[YY,YY,YY,YY,YY,ZZ,ZZ,ZZ,ZZ,ZZ,ZZ,ZZ,ZZ,ZZ] ?_
         refine pU_ 5 77 #[YY,YY,YY,YY,YY,YY,ZZ,ZZ,ZZ,ZZ,ZZ,ZZ,ZZ,ZZ] ?_
         refine pU_ 8 80 #[YY,YY,YY,YY,YY,YY,ZZ,ZZ,YY,ZZ,ZZ,ZZ,ZZ,ZZ] ?_
         refine pU_ 9 81 #[YY,YY,YY,YY,YY,YY,ZZ,ZZ,YY,YY,ZZ,ZZ,ZZ,ZZ] ?_
         refine take_ (i := 6) (N := some 78) (v := ?_) (a' := ?_) #[YY,YY,YY,YY,YY,YY,YY,ZZ,YY,YY,ZZ,ZZ,ZZ,ZZ] rfl rfl (take_ofW HT_.out HW_.out (by kernel_rfl)) (fun _ _ _ h => h) (Or.inl ⟨by rfl, ?_⟩) hHeld ?_ ?_
         rotate_left
         ·rintro w' ⟨s0, s1, s2, s3, s4, s5⟩
          go_simp
          with_reducible rfl
         rotate_left
         ·simp only [Act.put, sA1, sA2, sA3, i64_w, i32_w]
          rfl
         refine pU_ 7 79 #[YY,YY,YY,YY,YY,YY,YY,YY,YY,YY,ZZ,ZZ,ZZ,ZZ] ?_
         refine take_ (i := 10) (N := some 82) (v := ?_) (a' := ?_) #[YY,YY,YY,YY,YY,YY,YY,YY,YY,YY,YY,ZZ,ZZ,ZZ] rfl rfl (take_ofW HT_.out HW_.out (by kernel_rfl)) (fun _ _ _ h => h) (Or.inl ⟨by rfl, ?_⟩) hHeld ?_ ?_
         rotate_left
         ·rintro w' ⟨s0, s1, s2, s3, s4, s5⟩
          go_simp
          with_reducible rfl
         rotate_left
         ·simp only [Act.put, sA1, sA2, sA3, i64_w, i32_w]
          rfl
         refine pU_ 11 83 #[YY,YY,YY,YY,YY,YY,YY,YY,YY,YY,YY,YY,ZZ,ZZ] ?_
         refine one_ (i := 12) (N := some 13) #[YY,YY,YY,YY,YY,YY,YY,YY,YY,YY,YY,YY,YY,ZZ] rfl rfl (one_of HT_.out (by kernel_rfl)) (by decide) (fun K hK => ?_)
         refine box_step ?hg (N := 13) ?hd (cs := #[.string (⟨#[]⟩ : BA), .string (⟨#[]⟩ : BA)]) (t := 29) ?hr ?_; (case hd => rfl); (case hg => rfl); (case hr => first | (go_simp; done) | (go_simp; rfl))
         intro gb150 hg w45 hbox hb
         have n0_ := aK_ (Kd.V_below (Kd.V_elderB (kV_ HO_0.out) gb150 (Nat.le_of_eq hg.symm)) hb)
         have n1_ := aK_ (bB (g := gb142) (o := .cells #[.string ((rd_T97 l0 (ji7)).f0.f0), .string ((rd_T97 l0 (ji7)).f0.f1), .bool ((rd_T97 l0 (ji7)).f1), .bool ((rd_T97 l0 (ji7)).f2)] 97 (0, 0)) (bX_ BK142.out) hb)
         have n2_ := aK_ (wT (bS1_ GE142.out) hb)
         have n3_ := aK_ (hbox)
         have n4_ := aK_ ((by rw [hg]; exact (wZ (bS1_ GE142.out)) : w.heap.size ≤ gb150))
         have n5_ := aK_ ((by rw [hg]; exact (wZ (bS1_ GE142.out)) : w.heap.size ≤ gb150))
         have n6_ := aK_ ((by rw [hg]; exact Nat.ne_of_lt (blk_lt (g := gb142) (o := .cells #[.string ((rd_T97 l0 (ji7)).f0.f0), .string ((rd_T97 l0 (ji7)).f0.f1), .bool ((rd_T97 l0 (ji7)).f1), .bool ((rd_T97 l0 (ji7)).f2)] 97 (0, 0)) (bX_ BK142.out)) : gb142 ≠ gb150))
         have n7_ := aK_ ((by rw [hg]; exact Nat.ne_of_gt (blk_lt (g := gb142) (o := .cells #[.string ((rd_T97 l0 (ji7)).f0.f0), .string ((rd_T97 l0 (ji7)).f0.f1), .bool ((rd_T97 l0 (ji7)).f1), .bool ((rd_T97 l0 (ji7)).f2)] 97 (0, 0)) (bX_ BK142.out)) : gb150 ≠ gb142))
         clear HO_0
         clear BK142
         clear HB
         have HO_0 := n0_
         have BK142 := n1_
         have HB := n2_
         have BK150 := n3_
         have GW150 := n4_
         have GE150 := n5_
         have NB142_150 := n6_
         have NB150_142 := n7_
         clear n0_ n1_ n2_ n3_ n4_ n5_ n6_ n7_
         clear hb hbox hg
         refine hK.out _ _ ⟨(bC BK142.out 0).trans rfl, (bC BK142.out 1).trans rfl, (bC BK142.out 2).trans rfl, (bC BK142.out 3).trans rfl, ((HB.out.cell (World.block_lt_of_cell? w _ hw149_0)).trans hw149_0), ((HB.out.cell (World.block_lt_of_cell? w _ hw149_1)).trans hw149_1)⟩ (fun hHeld => ?_)
         clear hK K
         refine norm_ (a' := ?_) ?_ ?_
         rotate_left
         ·show Act.put _ (some 13) _ = _
          simp only [Act.put, sA1, sA2, sA3, i64_w, i32_w]
          rfl
         refine one_ (i := 13) (N := none) #[YY,YY,YY,YY,YY,YY,YY,YY,YY,YY,YY,YY,YY,YY] rfl rfl (one_of HT_.out (by kernel_rfl)) (by decide) (fun K hK => ?_)
         have hs46 : w45.cell? ⟨gb150, 0, none⟩ = some (.string (⟨#[]⟩ : BA)) := (bC BK150.out 0).trans rfl
         have hfs46 := bF BK150.out 0
         have hns46_0 := NB142_150.out
         have hms46_0 := NB150_142.out
         have hs47 : w45.cell? ⟨gb150, 1, none⟩ = some (.string (⟨#[]⟩ : BA)) := (bC BK150.out 1).trans rfl
         have hfs47 := bF BK150.out 1
         have hns47_0 := NB142_150.out
         have hms47_0 := NB150_142.out
         refine skip_ (w1 := ?_) (by rfl) rfl ?_ ?_
         rotate_left
         ·go_simp
          rfl
         refine hK.out _ _ ⟨((cF (p := ⟨gb150, _, none⟩) NB142_150.out _).trans (((cF (p := ⟨gb150, _, none⟩) NB142_150.out _).trans (hHeld.1)))), ((cF (p := ⟨gb150, _, none⟩) NB142_150.out _).trans (((cF (p := ⟨gb150, _, none⟩) NB142_150.out _).trans (hHeld.2.1)))), ((cF (p := ⟨gb150, _, none⟩) NB142_150.out _).trans (((cF (p := ⟨gb150, _, none⟩) NB142_150.out _).trans (hHeld.2.2.1)))), ((cF (p := ⟨gb150, _, none⟩) NB142_150.out _).trans (((cF (p := ⟨gb150, _, none⟩) NB142_150.out _).trans (hHeld.2.2.2.1)))), ((cF (p := ⟨gb150, _, none⟩) (nB_ hw149_0 GW150.out) _).trans (((cF (p := ⟨gb150, _, none⟩) (nB_ hw149_0 GW150.out) _).trans (hHeld.2.2.2.2.1)))), ((cF (p := ⟨gb150, _, none⟩) (nB_ hw149_1 GW150.out) _).trans (((cF (p := ⟨gb150, _, none⟩) (nB_ hw149_1 GW150.out) _).trans (hHeld.2.2.2.2.2))))⟩ (fun hHeld => ?_)
         clear hK K
         refine done_ (done_of HT_.out (by kernel_rfl)) ?_
         have hnb48 := NB150_142.out
         have hnc48 := NB142_150.out
         have hz49 := cq2_ BK150.out
         try go_wp2_with (first | ((with_reducible refine gate_callee (f := 64) rfl ?_); refine goesL_ (some 85) rfl rfl Try.func64 (by kernel_rfl) rfl #[.agg #[.string (((rd_T103 l2 (ji37)).f0) ++ (⟨#[0]⟩ : BA)), .string ((rd_T97 l0 (ji7)).f0.f1)]] rfl (by (try simp only [mA1, mA2, mA3]); first | done | (simp only [hji37, hji7]; rfl) | rfl | (simp only [mA5, mA4]; rfl)) ?_; (with_reducible refine (catchmentref02_Right.calls (((rd_T103 l2 (ji37)).f0) ++ (⟨#[0]⟩ : BA)) ((rd_T97 l0 (ji7)).f0.f1) true _ A41.out).mono ?_); rintro e w50 ⟨rfl, hb⟩; refine ⟨_, rfl, ?_⟩; have n0_ := aK_ (Kd.V_below (by (with_reducible repeat (first | apply Kd.V_alloc | apply Kd.V_drewN | apply Kd.V_drew)); exact (Kd.V_mono (Kd.V_far (p := ⟨gb150, 1, none⟩) (Kd.V_far (p := ⟨gb150, 0, none⟩) (Kd.V_mono HO_0.out (fun k_ hk => (⟨hk, hk.2⟩ : _ ∧ k_ ≠ gb150))) (fun _ hk => hk.2) (.string (((rd_T103 l2 (ji37)).f0) ++ (⟨#[0]⟩ : BA)))) (fun _ hk => hk.2) (.string ((rd_T97 l0 (ji7)).f0.f1))) (fun _ h_ => h_.1))) hb); have n1_ := aK_ (bB (g := gb142) (o := .cells #[.string ((rd_T97 l0 (ji7)).f0.f0), .string ((rd_T97 l0 (ji7)).f0.f1), .bool ((rd_T97 l0 (ji7)).f1), .bool ((rd_T97 l0 (ji7)).f2)] 97 (0, 0)) (by (with_reducible repeat (first | refine bN ?_ _ | refine bD ?_ | refine bA ?_ _)); refine bR ?_ NB142_150.out _; (with_reducible repeat (first | refine bN ?_ _ | refine bD ?_ | refine bA ?_ _)); refine bR ?_ NB142_150.out _; (with_reducible repeat (first | refine bN ?_ _ | refine bD ?_ | refine bA ?_ _)); exact BK142.out) hb); have n2_ := aK_ (bB (g := gb150) (o := .cells #[.string (((rd_T103 l2 (ji37)).f0) ++ (⟨#[0]⟩ : BA)), .string ((rd_T97 l0 (ji7)).f0.f1)] 29 (0, 0)) (by (with_reducible repeat (first | refine bN ?_ _ | refine bD ?_ | refine bA ?_ _)); refine bP (cs := #[.string (((rd_T103 l2 (ji37)).f0) ++ (⟨#[0]⟩ : BA)), .string (⟨#[]⟩ : BA)]) ?_ 1 _ rfl; (with_reducible repeat (first | refine bN ?_ _ | refine bD ?_ | refine bA ?_ _)); refine bP (cs := #[.string (⟨#[]⟩ : BA), .string (⟨#[]⟩ : BA)]) ?_ 0 _ rfl; (with_reducible repeat (first | refine bN ?_ _ | refine bD ?_ | refine bA ?_ _)); exact BK150.out) hb); have n3_ := aK_ (wT (bS2_ GE142.out GE150.out) hb); clear HO_0; clear BK142; clear BK150; clear HB; have HO_0 := n0_; have BK142 := n1_; have BK150 := n2_; have HB := n3_; clear n0_ n1_ n2_ n3_; (try clear hb); (try clear hb2); (try clear hk); (try clear hi); have hz51 := cq2_ BK150.out) | ((with_reducible refine gate_callee (f := 73) rfl ?_); refine goesL_ (some 95) rfl rfl Try.func73 (by kernel_rfl) rfl #[.slice (some ad141) l0.length c0, .int .i64 a1, .agg #[.string (((rd_T103 l2 (ji37)).f0) ++ (⟨#[0]⟩ : BA)), .string ((rd_T97 l0 (ji7)).f0.f1), .bool false, .bool false]] rfl (by (try simp only [mA1, mA2, mA3]); first | done | (simp only [hji37, hji7]; rfl) | rfl | (simp only [mA5, mA4]; rfl)) ?_; (with_reducible refine (catchmentref27_With.calls _ _ l0 a1 (((rd_T103 l2 (ji37)).f0) ++ (⟨#[0]⟩ : BA)) ((rd_T97 l0 (ji7)).f0.f1) false false t152 _ ?side1 ?side2 A43.out).mono ?_); (case side1 => repeat (first | exact (Kd.V_reads' HO_0.out).2.2 | (with_reducible refine Kd.C_alloc ?_ _) | (with_reducible refine Kd.C_drewN ?_ _) | (with_reducible refine Kd.C_drew ?_))); (case side2 => exact (Kd.V_reads' HO_0.out).2.1); rintro e w52 ⟨v153, rfl, ho0, hb⟩; refine ⟨_, rfl, ?_⟩; replace HO_0 := aK_ (Kd.V_elder' (kV_ HO_0.out) (Kd.R_base ho0) hb); have HO154 := aK_ (Kd.R_lower (Kd.R_newB (Kd.R_newM (M := fun k_ => (w.heap.size ≤ k_)) ho0 (wZ (bS2_ GE142.out GE150.out)) (fun k_ h_ => h_)) (g := gb142) (o := .cells #[.string ((rd_T97 l0 (ji7)).f0.f0), .string ((rd_T97 l0 (ji7)).f0.f1), .bool ((rd_T97 l0 (ji7)).f1), .bool ((rd_T97 l0 (ji7)).f2)] 97 (0, 0)) (bX_ BK142.out)) (wZ (bS2_ GE142.out GE150.out))); replace BK142 := aK_ (bB (g := gb142) (o := .cells #[.string ((rd_T97 l0 (ji7)).f0.f0), .string ((rd_T97 l0 (ji7)).f0.f1), .bool ((rd_T97 l0 (ji7)).f1), .bool ((rd_T97 l0 (ji7)).f2)] 97 (0, 0)) (bX_ BK142.out) hb); replace BK150 := aK_ (bB (g := gb150) (o := .cells #[.string (((rd_T103 l2 (ji37)).f0) ++ (⟨#[0]⟩ : BA)), .string ((rd_T97 l0 (ji7)).f0.f1)] 29 (0, 0)) (bX_ BK150.out) hb); replace HB := aK_ (wT (bS2_ GE142.out GE150.out) hb); (try clear hb); (try clear hb2); (try clear hk); (try clear hi); (try clear ho0)))
         go_ret3
         exact ⟨_, by first | rfl | (simp [errW_none, errW_some] <;> rfl) | (simp only [← hji7, ← hji37]; first | rfl | (simp [errW_none, errW_some] <;> rfl)) | (simp [*, errW_none, errW_some] <;> rfl), Kd.V_mono (Kd.R_V (by (with_reducible repeat (first | apply Kd.R_alloc | apply Kd.R_drewN | apply Kd.R_drew)); exact Kd.R_mono HO154.out (fun _ hk => hk.1.1))) (fun k_ hk => by first | exact ⟨(.inr (hk.1)), hk.2⟩ | exact (.inr (hk))), bS2_ GE142.out GE150.out⟩
        replace c42 := Bool.eq_false_iff.mpr c42
        subst c42
        have H1 : ((catchmentref27_With.f l0 a1 (⟨#[]⟩ : BA) (⟨#[]⟩ : BA) true false).bind fun t155 => (some (t155, true, 0))) = some (r1, r2, r3) := by rw [if_neg (show ¬ (false = true) by decide)] at H; exact H
        clear H
        have H := H1
        clear H1
        replace H := Option.bind_eq_some_iff.mp H
        obtain ⟨t155, A530, H⟩ := H
        replace H : (some (t155, true, 0)) = some (r1, r2, r3) := H
        have A53 := aK_ A530
        clear A530
        simp only [Option.some.injEq, Prod.mk.injEq] at H
        obtain ⟨rfl, rfl, rfl⟩ := H
        try go_wp2
        have n0_ := aK_ (Kd.V_drew HO_0.out)
        have n1_ := aK_ (bD BK142.out)
        have n2_ := aK_ (w1 HB.out)
        clear HO_0
        clear BK142
        clear HB
        have HO_0 := n0_
        have BK142 := n1_
        have HB := n2_
        clear n0_ n1_ n2_
        have p149 : 0 ≤ ((ji37) : Int) := pD_
        have q149 : (ji37) < (l2.length : Int) := pD_
        obtain ⟨ad149, e149, hx149_0, hx149_1⟩ := at_T103 HR2.out (ji37) p149 q149
        have hw149_1 := hx149_1
        have hw149_0 := hx149_0
        cases e149
        replace hx149_0 := cB_ hx149_0
        replace hx149_1 := cB_ hx149_1
        replace p149 := eq_true p149
        replace q149 := eq_true q149
        refine start_ (n := 14) (S := fun w' => w'.cell? ⟨gb142, 0, none⟩ = some (.string ((rd_T97 l0 (ji7)).f0.f0)) ∧ w'.cell? ⟨gb142, 1, none⟩ = some (.string ((rd_T97 l0 (ji7)).f0.f1)) ∧ w'.cell? ⟨gb142, 2, none⟩ = some (.bool ((rd_T97 l0 (ji7)).f1)) ∧ w'.cell? ⟨gb142, 3, none⟩ = some (.bool ((rd_T97 l0 (ji7)).f2)) ∧ w'.cell? (ad149.add (((ji37)).toNat * 2)) = some (.string ((rd_T103 l2 (ji37)).f0)) ∧ w'.cell? ⟨(ad149.add (((ji37)).toNat * 2)).block, (ad149.add (((ji37)).toNat * 2)).off + 1, none⟩ = some (.string ((rd_T103 l2 (ji37)).f1))) (ds := []) #[ZZ,ZZ,ZZ,ZZ,ZZ,ZZ,ZZ,ZZ,ZZ,ZZ,ZZ,ZZ,ZZ,ZZ] (by kernel_rfl) rfl rfl ⟨(bC BK142.out 0).trans rfl, (bC BK142.out 1).trans rfl, (bC BK142.out 2).trans rfl, (bC BK142.out 3).trans rfl, ((HB.out.cell (World.block_lt_of_cell? w _ hw149_0)).trans hw149_0), ((HB.out.cell (World.block_lt_of_cell? w _ hw149_1)).trans hw149_1)⟩ (fun hHeld => ?_); refine with_tabW catchmentref27_Took.tab19 catchmentref27_Took.bits19 (fun HT_ HW_ => ?_)
        generalize wc.drew = w54 at HO_0 BK142 HB hx149_0 hx149_1 hHeld ⊢
        refine pU_ 0 72 #[YY,ZZ,ZZ,ZZ,ZZ,ZZ,ZZ,ZZ,ZZ,ZZ,ZZ,ZZ,ZZ,ZZ] ?_
        refine pU_ 1 73 #[YY,YY,ZZ,ZZ,ZZ,ZZ,ZZ,ZZ,ZZ,ZZ,ZZ,ZZ,ZZ,ZZ] ?_
        refine pU_ 2 74 #[YY,YY,YY,ZZ,ZZ,ZZ,ZZ,ZZ,ZZ,ZZ,ZZ,ZZ,ZZ,ZZ] ?_
        refine pU_ 3 75 #[YY,YY,YY,YY,ZZ,ZZ,ZZ,ZZ,ZZ,ZZ,ZZ,ZZ,ZZ,ZZ] ?_
        refine pU_ 4 76 #[YY,YY,YY,YY,YY,ZZ,ZZ,ZZ,ZZ,ZZ,ZZ,ZZ,ZZ,ZZ] ?_
        refine pU_ 5 77 #[YY,YY,YY,YY,YY,YY,ZZ,ZZ,ZZ,ZZ,ZZ,ZZ,ZZ,ZZ] ?_
        refine pU_ 8 80 #[YY,YY,YY,YY,YY,YY,ZZ,ZZ,YY,ZZ,ZZ,ZZ,ZZ,ZZ] ?_
        refine pU_ 9 81 #[YY,YY,YY,YY,YY,YY,ZZ,ZZ,YY,YY,ZZ,ZZ,ZZ,ZZ] ?_
        refine take_ (i := 6) (N := some 78) (v := ?_) (a' := ?_) #[YY,YY,YY,YY,YY,YY,YY,ZZ,YY,YY,ZZ,ZZ,ZZ,ZZ] rfl rfl (take_ofW HT_.out HW_.out (by kernel_rfl)) (fun _ _ _ h => h) (Or.inl ⟨by rfl, ?_⟩) hHeld ?_ ?_
        rotate_left
        ·rintro w' ⟨s0, s1, s2, s3, s4, s5⟩
         go_simp
         with_reducible rfl
        rotate_left
        ·simp only [Act.put, sA1, sA2, sA3, i64_w, i32_w]
         rfl
        refine pU_ 7 79 #[YY,YY,YY,YY,YY,YY,YY,YY,YY,YY,ZZ,ZZ,ZZ,ZZ] ?_
        refine take_ (i := 10) (N := some 82) (v := ?_) (a' := ?_) #[YY,YY,YY,YY,YY,YY,YY,YY,YY,YY,YY,ZZ,ZZ,ZZ] rfl rfl (take_ofW HT_.out HW_.out (by kernel_rfl)) (fun _ _ _ h => h) (Or.inl ⟨by rfl, ?_⟩) hHeld ?_ ?_
        rotate_left
        ·rintro w' ⟨s0, s1, s2, s3, s4, s5⟩
         go_simp
         with_reducible rfl
        rotate_left
        ·simp only [Act.put, sA1, sA2, sA3, i64_w, i32_w]
         rfl
        refine pU_ 11 83 #[YY,YY,YY,YY,YY,YY,YY,YY,YY,YY,YY,YY,ZZ,ZZ] ?_
        refine one_ (i := 12) (N := some 13) #[YY,YY,YY,YY,YY,YY,YY,YY,YY,YY,YY,YY,YY,ZZ] rfl rfl (one_of HT_.out (by kernel_rfl)) (by decide) (fun K hK => ?_)
        refine box_step ?hg (N := 13) ?hd (cs := #[.string (⟨#[]⟩ : BA), .string (⟨#[]⟩ : BA)]) (t := 29) ?hr ?_; (case hd => rfl); (case hg => rfl); (case hr => first | (go_simp; done) | (go_simp; rfl))
        intro gb150 hg w55 hbox hb
        have n0_ := aK_ (Kd.V_below (Kd.V_elderB (kV_ HO_0.out) gb150 (Nat.le_of_eq hg.symm)) hb)
        have n1_ := aK_ (bB (g := gb142) (o := .cells #[.string ((rd_T97 l0 (ji7)).f0.f0), .string ((rd_T97 l0 (ji7)).f0.f1), .bool ((rd_T97 l0 (ji7)).f1), .bool ((rd_T97 l0 (ji7)).f2)] 97 (0, 0)) (bX_ BK142.out) hb)
        have n2_ := aK_ (wT (bS1_ GE142.out) hb)
        have n3_ := aK_ (hbox)
        have n4_ := aK_ ((by rw [hg]; exact (wZ (bS1_ GE142.out)) : w.heap.size ≤ gb150))
        have n5_ := aK_ ((by rw [hg]; exact (wZ (bS1_ GE142.out)) : w.heap.size ≤ gb150))
        have n6_ := aK_ ((by rw [hg]; exact Nat.ne_of_lt (blk_lt (g := gb142) (o := .cells #[.string ((rd_T97 l0 (ji7)).f0.f0), .string ((rd_T97 l0 (ji7)).f0.f1), .bool ((rd_T97 l0 (ji7)).f1), .bool ((rd_T97 l0 (ji7)).f2)] 97 (0, 0)) (bX_ BK142.out)) : gb142 ≠ gb150))
        have n7_ := aK_ ((by rw [hg]; exact Nat.ne_of_gt (blk_lt (g := gb142) (o := .cells #[.string ((rd_T97 l0 (ji7)).f0.f0), .string ((rd_T97 l0 (ji7)).f0.f1), .bool ((rd_T97 l0 (ji7)).f1), .bool ((rd_T97 l0 (ji7)).f2)] 97 (0, 0)) (bX_ BK142.out)) : gb150 ≠ gb142))
        clear HO_0
        clear BK142
        clear HB
        have HO_0 := n0_
        have BK142 := n1_
        have HB := n2_
        have BK150 := n3_
        have GW150 := n4_
        have GE150 := n5_
        have NB142_150 := n6_
        have NB150_142 := n7_
        clear n0_ n1_ n2_ n3_ n4_ n5_ n6_ n7_
        clear hb hbox hg
        refine hK.out _ _ ⟨(bC BK142.out 0).trans rfl, (bC BK142.out 1).trans rfl, (bC BK142.out 2).trans rfl, (bC BK142.out 3).trans rfl, ((HB.out.cell (World.block_lt_of_cell? w _ hw149_0)).trans hw149_0), ((HB.out.cell (World.block_lt_of_cell? w _ hw149_1)).trans hw149_1)⟩ (fun hHeld => ?_)
        clear hK K
        refine norm_ (a' := ?_) ?_ ?_
        rotate_left
        ·show Act.put _ (some 13) _ = _
         simp only [Act.put, sA1, sA2, sA3, i64_w, i32_w]
         rfl
        refine one_ (i := 13) (N := none) #[YY,YY,YY,YY,YY,YY,YY,YY,YY,YY,YY,YY,YY,YY] rfl rfl (one_of HT_.out (by kernel_rfl)) (by decide) (fun K hK => ?_)
        have hs56 : w55.cell? ⟨gb150, 0, none⟩ = some (.string (⟨#[]⟩ : BA)) := (bC BK150.out 0).trans rfl
        have hfs56 := bF BK150.out 0
        have hns56_0 := NB142_150.out
        have hms56_0 := NB150_142.out
        have hs57 : w55.cell? ⟨gb150, 1, none⟩ = some (.string (⟨#[]⟩ : BA)) := (bC BK150.out 1).trans rfl
        have hfs57 := bF BK150.out 1
        have hns57_0 := NB142_150.out
        have hms57_0 := NB150_142.out
        refine skip_ (w1 := ?_) (by rfl) rfl ?_ ?_
        rotate_left
        ·go_simp
         rfl
        refine hK.out _ _ ⟨((cF (p := ⟨gb150, _, none⟩) NB142_150.out _).trans (((cF (p := ⟨gb150, _, none⟩) NB142_150.out _).trans (hHeld.1)))), ((cF (p := ⟨gb150, _, none⟩) NB142_150.out _).trans (((cF (p := ⟨gb150, _, none⟩) NB142_150.out _).trans (hHeld.2.1)))), ((cF (p := ⟨gb150, _, none⟩) NB142_150.out _).trans (((cF (p := ⟨gb150, _, none⟩) NB142_150.out _).trans (hHeld.2.2.1)))), ((cF (p := ⟨gb150, _, none⟩) NB142_150.out _).trans (((cF (p := ⟨gb150, _, none⟩) NB142_150.out _).trans (hHeld.2.2.2.1)))), ((cF (p := ⟨gb150, _, none⟩) (nB_ hw149_0 GW150.out) _).trans (((cF (p := ⟨gb150, _, none⟩) (nB_ hw149_0 GW150.out) _).trans (hHeld.2.2.2.2.1)))), ((cF (p := ⟨gb150, _, none⟩) (nB_ hw149_1 GW150.out) _).trans (((cF (p := ⟨gb150, _, none⟩) (nB_ hw149_1 GW150.out) _).trans (hHeld.2.2.2.2.2))))⟩ (fun hHeld => ?_)
        clear hK K
        refine done_ (done_of HT_.out (by kernel_rfl)) ?_
        have hnb58 := NB150_142.out
        have hnc58 := NB142_150.out
        have hz59 := cq2_ BK150.out
        try go_wp2_with (first | ((with_reducible refine gate_callee (f := 64) rfl ?_); refine goesL_ (some 85) rfl rfl Try.func64 (by kernel_rfl) rfl #[.agg #[.string (((rd_T103 l2 (ji37)).f0) ++ (⟨#[0]⟩ : BA)), .string ((rd_T97 l0 (ji7)).f0.f1)]] rfl (by (try simp only [mA1, mA2, mA3]); first | done | (simp only [hji37, hji7]; rfl) | rfl | (simp only [mA5, mA4]; rfl)) ?_; (with_reducible refine (catchmentref02_Right.calls (((rd_T103 l2 (ji37)).f0) ++ (⟨#[0]⟩ : BA)) ((rd_T97 l0 (ji7)).f0.f1) false _ A41.out).mono ?_); rintro e w60 ⟨rfl, hb⟩; refine ⟨_, rfl, ?_⟩; have n0_ := aK_ (Kd.V_below (by (with_reducible repeat (first | apply Kd.V_alloc | apply Kd.V_drewN | apply Kd.V_drew)); exact (Kd.V_mono (Kd.V_far (p := ⟨gb150, 1, none⟩) (Kd.V_far (p := ⟨gb150, 0, none⟩) (Kd.V_mono HO_0.out (fun k_ hk => (⟨hk, hk.2⟩ : _ ∧ k_ ≠ gb150))) (fun _ hk => hk.2) (.string (((rd_T103 l2 (ji37)).f0) ++ (⟨#[0]⟩ : BA)))) (fun _ hk => hk.2) (.string ((rd_T97 l0 (ji7)).f0.f1))) (fun _ h_ => h_.1))) hb); have n1_ := aK_ (bB (g := gb142) (o := .cells #[.string ((rd_T97 l0 (ji7)).f0.f0), .string ((rd_T97 l0 (ji7)).f0.f1), .bool ((rd_T97 l0 (ji7)).f1), .bool ((rd_T97 l0 (ji7)).f2)] 97 (0, 0)) (by (with_reducible repeat (first | refine bN ?_ _ | refine bD ?_ | refine bA ?_ _)); refine bR ?_ NB142_150.out _; (with_reducible repeat (first | refine bN ?_ _ | refine bD ?_ | refine bA ?_ _)); refine bR ?_ NB142_150.out _; (with_reducible repeat (first | refine bN ?_ _ | refine bD ?_ | refine bA ?_ _)); exact BK142.out) hb); have n2_ := aK_ (bB (g := gb150) (o := .cells #[.string (((rd_T103 l2 (ji37)).f0) ++ (⟨#[0]⟩ : BA)), .string ((rd_T97 l0 (ji7)).f0.f1)] 29 (0, 0)) (by (with_reducible repeat (first | refine bN ?_ _ | refine bD ?_ | refine bA ?_ _)); refine bP (cs := #[.string (((rd_T103 l2 (ji37)).f0) ++ (⟨#[0]⟩ : BA)), .string (⟨#[]⟩ : BA)]) ?_ 1 _ rfl; (with_reducible repeat (first | refine bN ?_ _ | refine bD ?_ | refine bA ?_ _)); refine bP (cs := #[.string (⟨#[]⟩ : BA), .string (⟨#[]⟩ : BA)]) ?_ 0 _ rfl; (with_reducible repeat (first | refine bN ?_ _ | refine bD ?_ | refine bA ?_ _)); exact BK150.out) hb); have n3_ := aK_ (wT (bS2_ GE142.out GE150.out) hb); clear HO_0; clear BK142; clear BK150; clear HB; have HO_0 := n0_; have BK142 := n1_; have BK150 := n2_; have HB := n3_; clear n0_ n1_ n2_ n3_; (try clear hb); (try clear hb2); (try clear hk); (try clear hi)) | ((with_reducible refine gate_callee (f := 73) rfl ?_); refine goesL_ (some 90) rfl rfl Try.func73 (by kernel_rfl) rfl #[.slice (some ad141) l0.length c0, .int .i64 a1, .agg #[.string (⟨#[]⟩ : BA), .string (⟨#[]⟩ : BA), .bool true, .bool false]] rfl mS_ ?_; (with_reducible refine (catchmentref27_With.calls _ _ l0 a1 (⟨#[]⟩ : BA) (⟨#[]⟩ : BA) true false t155 _ ?side1 ?side2 A53.out).mono ?_); (case side1 => repeat (first | exact (Kd.V_reads' HO_0.out).2.2 | (with_reducible refine Kd.C_alloc ?_ _) | (with_reducible refine Kd.C_drewN ?_ _) | (with_reducible refine Kd.C_drew ?_))); (case side2 => exact (Kd.V_reads' HO_0.out).2.1); rintro e w61 ⟨v156, rfl, ho0, hb⟩; refine ⟨_, rfl, ?_⟩; replace HO_0 := aK_ (Kd.V_elder' (kV_ HO_0.out) (Kd.R_base ho0) hb); have HO157 := aK_ (Kd.R_lower (Kd.R_newB (Kd.R_newM (M := fun k_ => (w.heap.size ≤ k_)) ho0 (wZ (bS2_ GE142.out GE150.out)) (fun k_ h_ => h_)) (g := gb142) (o := .cells #[.string ((rd_T97 l0 (ji7)).f0.f0), .string ((rd_T97 l0 (ji7)).f0.f1), .bool ((rd_T97 l0 (ji7)).f1), .bool ((rd_T97 l0 (ji7)).f2)] 97 (0, 0)) (bX_ BK142.out)) (wZ (bS2_ GE142.out GE150.out))); replace BK142 := aK_ (bB (g := gb142) (o := .cells #[.string ((rd_T97 l0 (ji7)).f0.f0), .string ((rd_T97 l0 (ji7)).f0.f1), .bool ((rd_T97 l0 (ji7)).f1), .bool ((rd_T97 l0 (ji7)).f2)] 97 (0, 0)) (bX_ BK142.out) hb); replace BK150 := aK_ (bB (g := gb150) (o := .cells #[.string (((rd_T103 l2 (ji37)).f0) ++ (⟨#[0]⟩ : BA)), .string ((rd_T97 l0 (ji7)).f0.f1)] 29 (0, 0)) (bX_ BK150.out) hb); replace HB := aK_ (wT (bS2_ GE142.out GE150.out) hb); (try clear hb); (try clear hb2); (try clear hk); (try clear hi); (try clear ho0)))
        go_ret3
        exact ⟨_, by first | rfl | (simp [errW_none, errW_some] <;> rfl) | (simp only [← hji7, ← hji37]; first | rfl | (simp [errW_none, errW_some] <;> rfl)) | (simp [*, errW_none, errW_some] <;> rfl), Kd.V_mono (Kd.R_V (by (with_reducible repeat (first | apply Kd.R_alloc | apply Kd.R_drewN | apply Kd.R_drew)); exact Kd.R_mono HO157.out (fun _ hk => hk.1.1))) (fun k_ hk => by first | exact ⟨(.inr (hk.1)), hk.2⟩ | exact (.inr (hk))), bS2_ GE142.out GE150.out⟩
       rw [if_neg c40] at H
       exact absurd H (by simp)
      rw [if_neg c39] at H
      exact absurd H (by simp)
     rw [if_neg c38] at H
     exact absurd H (by simp)
    replace c29 := Bool.eq_false_iff.mpr c29
    subst c29
    have H1 : (some (l0, false, 16)) = some (r1, r2, r3) := by rw [if_neg (show ¬ (false = true) by decide)] at H; exact H
    clear H
    have H := H1
    clear H1
    simp only [Option.some.injEq, Prod.mk.injEq] at H
    obtain ⟨rfl, rfl, rfl⟩ := H
    go_wp2_with (first | ((with_reducible refine gate_callee (f := 29) rfl ?_); refine goesL_ (some 57) rfl rfl Try.func29 (by kernel_rfl) rfl #[.slice A2 l2.length c2] rfl mS_ ?_; (with_reducible refine (catchmentref05_Rises.calls k2 _ _ l2 false _ ?side1 ?side2 A28.out).mono ?_); (case side1 => repeat (first | exact (Kd.C_below HR2.out HB.out) | (with_reducible refine Kd.C_alloc ?_ _) | (with_reducible refine Kd.C_drewN ?_ _) | (with_reducible refine Kd.C_drew ?_))); (case side2 => exact HC2.out); rintro e w' ⟨rfl, ⟨nd, rfl⟩⟩; refine ⟨_, rfl, ?_⟩))
    go_ret3
    exact ⟨_, by first | rfl | (simp [errW_none, errW_some] <;> rfl) | (simp only [← hji7]; first | rfl | (simp [errW_none, errW_some] <;> rfl)) | (simp [*, errW_none, errW_some] <;> rfl), by (with_reducible repeat (first | apply Kd.V_alloc | apply Kd.V_drewN | apply Kd.V_drew)); exact Kd.V_mono HO_0.out (fun _ hk => hk.1), bS1_ GE142.out⟩
   rw [if_neg c9] at H
   exact absurd H (by simp)
  rw [if_neg c8] at H
  exact absurd H (by simp)
 replace c6 := Bool.eq_false_iff.mpr c6
 subst c6
 have H1 : (some (l0, false, 11)) = some (r1, r2, r3) := by rw [if_neg (show ¬ (false = true) by decide)] at H; exact H
 clear H
 have H := H1
 clear H1
 simp only [Option.some.injEq, Prod.mk.injEq] at H
 obtain ⟨rfl, rfl, rfl⟩ := H
 go_enter Try.func41, Try.ntmps41
 go_wp2_with (first | ((with_reducible refine gate_callee (f := 42) rfl ?_); refine goesL_ (some 16) rfl rfl Try.func42 (by kernel_rfl) rfl #[.slice A0 l0.length c0, .int .i64 a1] rfl mS_ ?_; (with_reducible refine (catchmentref27_Is.calls _ _ l0 a1 false _ ?side1 ?side2 A5.out).mono ?_); (case side1 => repeat (first | exact (Kd.V_reads' HO0.out).2.2 | (with_reducible refine Kd.C_alloc ?_ _) | (with_reducible refine Kd.C_drewN ?_ _) | (with_reducible refine Kd.C_drew ?_))); (case side2 => exact (Kd.V_reads' HO0.out).2.1); rintro e w' ⟨rfl, ⟨nd, rfl⟩⟩; refine ⟨_, rfl, ?_⟩))
 go_ret3
 exact ⟨_, by first | rfl | (simp [errW_none, errW_some] <;> rfl) | (simp [*, errW_none, errW_some] <;> rfl), by (with_reducible repeat (first | apply Kd.V_alloc | apply Kd.V_drewN | apply Kd.V_drew)); exact HO0.out, bW_⟩
end Go.Proofs.Ytljnlnbopohghaa.P
end
