/- Texts of one claim (laid by shake.py). -/
import Derived.Test.YtebejadiaooooaaZf4
import Derived.Test.YtebejadiaooooaaZf8
import Derived.Test.YtebejadiaooooaaZf11
set_option linter.unusedVariables false
set_option linter.unusedSimpArgs false
section
namespace Go.Proofs.Ytebejadiaooooaa.P
open Go.RowKit Go.Proofs.YtebejadiaooooaaW.PrintWords Go.Proofs.YtebejadiaooooaaW.PrintLast Go.Proofs.YtebejadiaooooaaW.PrintMore Go.Proofs.Ytebejadiaooooaa.Own
open Bool renaming true → YY, false → ZZ
open Go.Proofs.YtebejadiaooooaaW.PrintWords renaming pw_below_drewN → wN, below_drew1 → w1, below_alloc → wA, below_step → wT, below_size → wZ
open List renaming setIfInBounds_toArray → sA1, set_cons_zero → sA2, set_cons_succ → sA3, map_toArray → mA1, map_cons → mA2, map_nil → mA3, length_take → mA4, length_drop → mA5
attribute [local go_sem] max2_str max2_int min2_int max_two min_two max_three min_three max_four min_four   -- for this text's walks alone
mutual
def catchmentref37_Runs.l0 : Nat → List (S39) → List (S39) → List (S32) → List ByteArray → Int → Option ((List (S32)))
 | 0, _, _, _, _, _ => none
 | k + 1, x0, x1, x5, x6, x7 => if x7 < (x6.length : Int) then (if 0 ≤ x7 then ((catchmentref05_Find.f k x1 (rdOf ByteArray.empty x6 x7)).bind fun bt660 => (if bt660.2 = true then ((catchmentref37_same.f k x0 x1 (rdOf ByteArray.empty x6 x7)).bind fun t663 => (if t663 = true then (catchmentref37_Runs.l0 k x0 x1 x5 x6 (wrap64 (x7 + 1))) else (if x5.length < 1954687338268 then (catchmentref37_Runs.l0 k x0 x1 (x5 ++ [(⟨1, 0, rdOf ByteArray.empty x6 x7, (⟨#[]⟩ : BA), bt660.1, 0⟩ : S32)]) x6 (wrap64 (x7 + 1))) else (none)))) else (catchmentref37_Runs.l1 k x0 x1 x5 x6 x7 x7))) else (none)) else (some x5)
def catchmentref37_Runs.l1 : Nat → List (S39) → List (S39) → List (S32) → List ByteArray → Int → Int → Option ((List (S32)))
 | 0, _, _, _, _, _, _ => none
 | k + 1, x0, x1, x5, x6, x7, x10 => if x10 < (wrap64 ((x6.length : Int) - 1)) then (if 0 ≤ (wrap64 (x10 + 1)) then (if (wrap64 (x10 + 1)) < (x6.length : Int) then ((catchmentref05_Find.f k x1 (rdOf ByteArray.empty x6 (wrap64 (x10 + 1)))).bind fun bt669 => (if bt669.2 = true then (if x10 = x7 then (if 0 ≤ x7 then (if x7 < (x6.length : Int) then (if x5.length < 1954687338268 then (catchmentref37_Runs.l0 k x0 x1 (x5 ++ [(⟨2, 0, rdOf ByteArray.empty x6 x7, (⟨#[]⟩ : BA), (⟨#[]⟩ : BA), 0⟩ : S32)]) x6 (wrap64 (x10 + 1))) else (none)) else (none)) else (none)) else (if 0 ≤ x7 then (if x7 < (x6.length : Int) then (if 0 ≤ x10 then (if x10 < (x6.length : Int) then (if (rdOf ByteArray.empty x6 x10).size + 1 ≤ 9223372036854775807 then (if x5.length < 1954687338268 then (catchmentref37_Runs.l0 k x0 x1 (x5 ++ [(⟨4, 0, rdOf ByteArray.empty x6 x7, (rdOf ByteArray.empty x6 x10) ++ (⟨#[0]⟩ : BA), (⟨#[]⟩ : BA), 0⟩ : S32)]) x6 (wrap64 (x10 + 1))) else (none)) else (none)) else (none)) else (none)) else (none)) else (none))) else (catchmentref37_Runs.l1 k x0 x1 x5 x6 x7 (wrap64 (x10 + 1))))) else (none)) else (none)) else (if x10 = x7 then (if 0 ≤ x7 then (if x7 < (x6.length : Int) then (if x5.length < 1954687338268 then (catchmentref37_Runs.l0 k x0 x1 (x5 ++ [(⟨2, 0, rdOf ByteArray.empty x6 x7, (⟨#[]⟩ : BA), (⟨#[]⟩ : BA), 0⟩ : S32)]) x6 (wrap64 (x10 + 1))) else (none)) else (none)) else (none)) else (if 0 ≤ x7 then (if x7 < (x6.length : Int) then (if 0 ≤ x10 then (if x10 < (x6.length : Int) then (if (rdOf ByteArray.empty x6 x10).size + 1 ≤ 9223372036854775807 then (if x5.length < 1954687338268 then (catchmentref37_Runs.l0 k x0 x1 (x5 ++ [(⟨4, 0, rdOf ByteArray.empty x6 x7, (rdOf ByteArray.empty x6 x10) ++ (⟨#[0]⟩ : BA), (⟨#[]⟩ : BA), 0⟩ : S32)]) x6 (wrap64 (x10 + 1))) else (none)) else (none)) else (none)) else (none)) else (none)) else (none)))
end
def catchmentref37_Runs.f (k : Nat) (l0 : List (S39)) (l1 : List (S39)) : Option ((List (S32))) := (catchmentref37_keys.f k (([l0, l1] : List (List (S39))))).bind fun t656 => (catchmentref37_Runs.l0 k l0 l1 (([] : List (S32))) t656 0)
def catchmentref37_Runs.T17 : Bool × List (List Nat × List Nat) := (true, [([], []), ([], []), ([], []), ([1, 2], [1, 2]), ([3], [3]), ([], []), ([], []), ([5, 6], [5, 6]), ([7], [7]), ([8], [8]), ([4, 9], [4, 9]), ([10], [10]), ([0, 11], [0, 11]), ([12, 12, 0, 1, 2, 3, 4, 5, 6, 7, 8, 9, 10, 11, 12], [0, 12])])
def catchmentref37_Runs.B17 : List Nat := [0, 0, 0, 6, 14, 0, 0, 96, 224, 480, 1022, 2046, 4095, 8191]
theorem catchmentref37_Runs.tab17 : rtab .any (opsOf Try.f44 17) = catchmentref37_Runs.T17 := by kernel_rfl
theorem catchmentref37_Runs.bits17 : waitsOk catchmentref37_Runs.T17.2 catchmentref37_Runs.B17 = true := by kernel_rfl
set_option maxHeartbeats 8000000 in
set_option maxRecDepth 100000 in
theorem catchmentref37_Runs.calls (k : Nat) (P0_ : Nat → Prop) (A0 : Option Addr) (c0 : Nat) (l0 : List (S39)) (P1_ : Nat → Prop) (A1 : Option Addr) (c1 : Nat) (l1 : List (S39)) (r : List (S32)) (w : World) (hs0 : Kd.V k39 39 w w.heap.size (fun k_ => P0_ k_) (.slice A0 l0.length c0) l0) (hs1 : Kd.V k39 39 w w.heap.size (fun k_ => P1_ k_) (.slice A1 l1.length c1) l1) (h : catchmentref37_Runs.f k l0 l1 = some r) :
  Calls Try.prog 44 #[.slice A0 l0.length c0, .slice A1 l1.length c1] w fun e w' => ∃ v0_ : Value, e = .returned (v0_) ∧ Kd.R k32 32 w' w.heap.size (fun k_ => (w.heap.size ≤ k_)) v0_ r ∧ Below w.heap.size w w' := by
 have hu32 := Try.underlying32
 have HO0 := Aside0.mk (show Kd.V k39 39 w w.heap.size (fun k_ => ((P0_ k_ ∨ P1_ k_) ∨ w.heap.size ≤ k_)) (.slice A0 l0.length c0) l0 from Kd.V_mono hs0 (fun k_ hk => .inl (.inl hk)))
 have HO1 := Aside0.mk (show Kd.V k39 39 w w.heap.size (fun k_ => ((P0_ k_ ∨ P1_ k_) ∨ w.heap.size ≤ k_)) (.slice A1 l1.length c1) l1 from Kd.V_mono hs1 (fun k_ hk => .inl (.inr hk)))
 have HB := Aside0.mk (Below.refl w.heap.size w)
 have H : ((catchmentref37_keys.f k (([l0, l1] : List (List (S39))))).bind fun t656 => (catchmentref37_Runs.l0 k l0 l1 (([] : List (S32))) t656 0)) = some r := h
 clear h
 obtain ⟨y650, hy650⟩ : ∃ y_ : List (S32), y_ = (([] : List (S32))) := ⟨_, rfl⟩
 replace H : ((catchmentref37_keys.f k (([l0, l1] : List (List (S39))))).bind fun t656 => (catchmentref37_Runs.l0 k l0 l1 y650 t656 0)) = some r := by first | (rw [hy650]; with_reducible exact H) | (have H2_ := (Option.bind_some _ _).symm.trans H; rw [hy650]; with_reducible exact H2_) | (have H2_ := (Option.bind_some _ _).symm.trans H; with_reducible exact H2_) | with_reducible exact H | (rw [hy650]; exact H) | exact H
 have Ny650 := Aside0.mk hy650
 clear hy650
 obtain ⟨y653, hy653⟩ : ∃ y_ : List (List (S39)), y_ = (([l0, l1] : List (List (S39)))) := ⟨_, rfl⟩
 replace H : ((catchmentref37_keys.f k y653).bind fun t656 => (catchmentref37_Runs.l0 k l0 l1 y650 t656 0)) = some r := by first | (rw [hy653]; with_reducible exact H) | (have H2_ := (Option.bind_some _ _).symm.trans H; rw [hy653]; with_reducible exact H2_) | (have H2_ := (Option.bind_some _ _).symm.trans H; with_reducible exact H2_) | with_reducible exact H | (rw [hy653]; exact H) | exact H
 have Ny653 := Aside0.mk hy653
 clear hy653
 replace H := Option.bind_eq_some_iff.mp H
 obtain ⟨t656, A30, H⟩ := H
 replace H : (catchmentref37_Runs.l0 k l0 l1 y650 t656 0) = some r := H
 have A3 := Aside0.mk A30
 clear A30
 have H' := Aside0.mk H
 clear H
 go_enter Try.func44, Try.ntmps44
 go_wp2_with (first | ((with_reducible refine gate_dst (N := 13) rfl ?_); refine Kd.R_lit k32 _ 32 ?hg (N := 13) ?hd (xs := ([] : List (S32))) (inner := []) (ok := fun _ => True) (okp := fun _ => True) ?hr ?hp (fun _ hk => hk) trivial (Below.refl _ _) (Nat.le_refl _) (by simp) ?_; (case hd => rfl); (case hg => rfl); (case hr => first | (go_simp; done) | (go_simp; rfl)); (case hp => exact (Reps.none _ _)); intro v651 w4 ho5 hb hg_ hnew_; clear hg_ hnew_; (first | rw [← Ny650.out] at ho5 | (simp only [Int.reduceToNat] at ho5; rw [← Ny650.out] at ho5)); have n0_ := Aside0.mk (Kd.V_elder' (kV_ HO0.out) (Kd.R_base ho5) hb); have n1_ := Aside0.mk (Kd.V_elder' (kV_ HO1.out) (Kd.R_base ho5) hb); have n2_ := Aside0.mk (Kd.R_lower (Kd.R_newM (M := fun k_ => (w.heap.size ≤ k_)) ho5 (wZ bW_) (fun k_ h_ => h_)) (wZ bW_)); have n3_ := Aside0.mk (wT bW_ hb); clear HO0; clear HO1; clear HB; have HO0 := n0_; have HO1 := n1_; have HO652 := n2_; have HB := n3_; clear n0_ n1_ n2_ n3_; clear hb ho5) | ((with_reducible refine gate_dst (N := 16) rfl ?_); refine Kd.N_lit (Kd.slice 39 k39) _ 23 ?hg (N' := 16) ?hd (xs := ([l0, l1] : List (List (S39)))) (inner := [.slice A0 l0.length c0, .slice A1 l1.length c1]) (ok := (fun k_ => ((P0_ k_ ∨ P1_ k_) ∨ w.heap.size ≤ k_) ∧ some k_ ≠ (v651 : Value).ownBlock)) (okp := (fun k_ => ((P0_ k_ ∨ P1_ k_) ∨ w.heap.size ≤ k_) ∧ some k_ ≠ (v651 : Value).ownBlock)) ?hr ?hp (fun _ hk => hk) ((show ∀ k_, w4.heap.size ≤ k_ → (fun k_ => ((P0_ k_ ∨ P1_ k_) ∨ w.heap.size ≤ k_) ∧ some k_ ≠ (v651 : Value).ownBlock) k_ from fun k_ hk => ⟨(.inr (Nat.le_trans (wZ bW_) hk)), Kd.fresh' (Kd.R_lt (kR_ HO652.out)) k_ hk⟩) _ (Nat.le_refl _)) (Below.refl _ _) (Nat.le_refl _) (by simp) ?_; (case hd => rfl); (case hg => rfl); (case hr => first | (go_simp; done) | (go_simp; rfl)); (case hp => exact (Reps.one (show Kd.FK (Kd.slice 39 k39) _ _ l0 [.slice A0 l0.length c0] from (Kd.FK_slice_mk (Kd.V_reads' (Kd.V_mono (ok' := (fun k_ => ((P0_ k_ ∨ P1_ k_) ∨ w.heap.size ≤ k_) ∧ some k_ ≠ (v651 : Value).ownBlock)) (HO0.out) (fun k_ hk => ⟨hk.1, hk.2⟩))).2.1 (Kd.V_F (Kd.V_mono (ok' := (fun k_ => ((P0_ k_ ∨ P1_ k_) ∨ w.heap.size ≤ k_) ∧ some k_ ≠ (v651 : Value).ownBlock)) (HO0.out) (fun k_ hk => ⟨hk.1, hk.2⟩))))) (Reps.one (show Kd.FK (Kd.slice 39 k39) _ _ l1 [.slice A1 l1.length c1] from (Kd.FK_slice_mk (Kd.V_reads' (Kd.V_mono (ok' := (fun k_ => ((P0_ k_ ∨ P1_ k_) ∨ w.heap.size ≤ k_) ∧ some k_ ≠ (v651 : Value).ownBlock)) (HO1.out) (fun k_ hk => ⟨hk.1, hk.2⟩))).2.1 (Kd.V_F (Kd.V_mono (ok' := (fun k_ => ((P0_ k_ ∨ P1_ k_) ∨ w.heap.size ≤ k_) ∧ some k_ ≠ (v651 : Value).ownBlock)) (HO1.out) (fun k_ hk => ⟨hk.1, hk.2⟩))))) (Reps.none _ _)))); intro v654 w6 ho7 hb hg_ hnew_; clear hg_ hnew_; (first | rw [← Ny653.out] at ho7 | (simp only [Int.reduceToNat] at ho7; rw [← Ny653.out] at ho7)); have n0_ := Aside0.mk (Kd.V_elder' (kV_ HO0.out) (Kd.N_base ho7) hb); have n1_ := Aside0.mk (Kd.V_elder' (kV_ HO1.out) (Kd.N_base ho7) hb); have n2_ := Aside0.mk (Kd.R_below (kR_ HO652.out) hb); have n3_ := Aside0.mk (Kd.N_lower ho7 (wZ bW_)); have n4_ := Aside0.mk (wT bW_ hb); clear HO0; clear HO1; clear HO652; clear HB; have HO0 := n0_; have HO1 := n1_; have HO652 := n2_; have HO655 := n3_; have HB := n4_; clear n0_ n1_ n2_ n3_ n4_; clear hb ho7; obtain ⟨Ao8, co8, eo8⟩ := Kd.N_slice HO655.out; subst eo8) | ((with_reducible refine gate_callee (f := 79) rfl ?_); refine goesL_ (some 17) rfl rfl Try.func79 (by kernel_rfl) rfl #[.slice Ao8 y653.length co8] rfl mS_ ?_; (with_reducible refine (catchmentref37_keys.calls k _ _ y653 t656 _ ?side1 ?side2 A3.out).mono ?_); (case side1 => repeat (first | exact (Kd.N_reads' HO655.out).2.2 | (with_reducible refine Kd.C_alloc ?_ _) | (with_reducible refine Kd.C_drewN ?_ _) | (with_reducible refine Kd.C_drew ?_))); (case side2 => exact (Kd.N_reads' HO655.out).2.1); rintro e w9 ⟨v657, rfl, ho0, hb⟩; refine ⟨_, rfl, ?_⟩; have n0_ := Aside0.mk (Kd.V_below (kV_ HO0.out) hb); have n1_ := Aside0.mk (Kd.V_below (kV_ HO1.out) hb); have n2_ := Aside0.mk (Kd.R_below (kR_ HO652.out) hb); have n3_ := Aside0.mk (Kd.N_below (by (with_reducible repeat (first | apply Kd.N_alloc | apply Kd.N_drewN | apply Kd.N_drew)); exact HO655.out) hb); have n4_ := Aside0.mk (Kd.V_lower (Kd.V_mono (ok' := fun k_ => ((P0_ k_ ∨ P1_ k_) ∨ w.heap.size ≤ k_) ∧ some k_ ≠ (v651 : Value).ownBlock ∧ some k_ ≠ (.slice Ao8 y653.length co8 : Value).ownBlock) ho0 (fun k_ hk_ => ⟨(.inr (Nat.le_trans (wZ bW_) hk_)), (Kd.fresh' (Kd.R_lt (kR_ HO652.out)) k_ hk_), (Kd.fresh' (Kd.N_lt (by (with_reducible repeat (first | apply Kd.N_alloc | apply Kd.N_drewN | apply Kd.N_drew)); exact HO655.out)) k_ hk_)⟩)) (wZ bW_)); have n5_ := Aside0.mk (wT bW_ hb); clear HO0; clear HO1; clear HO652; clear HO655; clear HB; have HO0 := n0_; have HO1 := n1_; have HO652 := n2_; have HO655 := n3_; have HO658 := n4_; have HB := n5_; clear n0_ n1_ n2_ n3_ n4_ n5_; (try clear hb); (try clear hb2); (try clear hk); (try clear hi); (try clear ho0)))
 go_loopg [5, 7] k (fun kq v5 v7 w' => ∃ (x5_1 : List (S32)) (x7_1 : Int), v7 = .int .i64 x7_1 ∧ Aside0 (catchmentref37_Runs.l0 kq l0 l1 x5_1 t656 x7_1 = some r) ∧ Aside0 (kq ≤ k) ∧ Aside0 (Kd.V k39 39 w' w.heap.size (fun k_ => ((P0_ k_ ∨ P1_ k_) ∨ w.heap.size ≤ k_) ∧ some k_ ≠ (v5 : Value).ownBlock) (.slice A0 l0.length c0) l0) ∧ Aside0 (Kd.V k39 39 w' w.heap.size (fun k_ => ((P0_ k_ ∨ P1_ k_) ∨ w.heap.size ≤ k_) ∧ some k_ ≠ (v5 : Value).ownBlock) (.slice A1 l1.length c1) l1) ∧ Aside0 (Kd.R k32 32 w' w.heap.size (fun k_ => (w.heap.size ≤ k_)) v5 x5_1) ∧ Aside0 (Kd.V Kd.string 9 w' w.heap.size (fun k_ => ((P0_ k_ ∨ P1_ k_) ∨ w.heap.size ≤ k_) ∧ some k_ ≠ (v5 : Value).ownBlock) v657 t656) ∧ Aside0 (Below w.heap.size w w'))
 case atStart => exact ⟨(y650), (0), (by first | rfl | (simp; done) | (simp [*]; done)), H', ⟨Nat.le_refl _⟩, ⟨by (with_reducible repeat (first | apply Kd.V_alloc | apply Kd.V_drewN | apply Kd.V_drew)); exact Kd.V_mono HO0.out (fun _ hk => ⟨hk.1.1, hk.1.2⟩)⟩, ⟨by (with_reducible repeat (first | apply Kd.V_alloc | apply Kd.V_drewN | apply Kd.V_drew)); exact Kd.V_mono HO1.out (fun _ hk => ⟨hk.1.1, hk.1.2⟩)⟩, ⟨by (with_reducible repeat (first | apply Kd.R_alloc | apply Kd.R_drewN | apply Kd.R_drew)); exact Kd.R_mono HO652.out (fun _ hk => hk.1)⟩, ⟨by (with_reducible repeat (first | apply Kd.V_alloc | apply Kd.V_drewN | apply Kd.V_drew)); exact Kd.V_mono HO658.out (fun _ hk => ⟨hk.1, hk.2.1⟩)⟩, ⟨by repeat (first | (with_reducible first | exact HB.out | apply wA | apply wN | apply w1) | exact HB.out)⟩⟩
 case round =>
  clear H'
  try clear c1
  try clear p2
  try clear c4
  try clear c7
  obtain ⟨x5_1, x7_1, rfl, HA, HK1, HO_0, HO_1, HO_5, HO_6, HB⟩ := hrel
  cases gk with
  | zero => exact absurd HA.out (by simp [catchmentref37_Runs.l0])
  | succ k1 =>
   have H := HA.out
   clear HA
   simp only [catchmentref37_Runs.l0] at H
   by_cases c10 : x7_1 < (t656.length : Int)
   ·rw [if_pos c10] at H
    have c10b0 : decide (x7_1 < (t656.length : Int)) = true := decide_eq_true c10
    clear c10
    by_cases c11 : 0 ≤ x7_1
    ·rw [if_pos c11] at H
     have c11b0 : decide (0 ≤ x7_1) = true := decide_eq_true c11
     clear c11
     replace H := Option.bind_eq_some_iff.mp H
     obtain ⟨⟨t660, t661⟩, A120, H⟩ := H
     replace H : (if t661 = true then ((catchmentref37_same.f k1 l0 l1 (rdOf ByteArray.empty t656 x7_1)).bind fun t663 => (if t663 = true then (catchmentref37_Runs.l0 k1 l0 l1 x5_1 t656 (wrap64 (x7_1 + 1))) else (if x5_1.length < 1954687338268 then (catchmentref37_Runs.l0 k1 l0 l1 (x5_1 ++ [(⟨1, 0, rdOf ByteArray.empty t656 x7_1, (⟨#[]⟩ : BA), t660, 0⟩ : S32)]) t656 (wrap64 (x7_1 + 1))) else (none)))) else (catchmentref37_Runs.l1 k1 l0 l1 x5_1 t656 x7_1 x7_1)) = some r := H
     have A12 := Aside0.mk A120
     clear A120
     by_cases c13 : t661 = true
     ·subst c13
      have H1 : ((catchmentref37_same.f k1 l0 l1 (rdOf ByteArray.empty t656 x7_1)).bind fun t663 => (if t663 = true then (catchmentref37_Runs.l0 k1 l0 l1 x5_1 t656 (wrap64 (x7_1 + 1))) else (if x5_1.length < 1954687338268 then (catchmentref37_Runs.l0 k1 l0 l1 (x5_1 ++ [(⟨1, 0, rdOf ByteArray.empty t656 x7_1, (⟨#[]⟩ : BA), t660, 0⟩ : S32)]) t656 (wrap64 (x7_1 + 1))) else (none)))) = some r := by rw [if_pos rfl] at H; exact H
      clear H
      have H := H1
      clear H1
      replace H := Option.bind_eq_some_iff.mp H
      obtain ⟨t663, A140, H⟩ := H
      replace H : (if t663 = true then (catchmentref37_Runs.l0 k1 l0 l1 x5_1 t656 (wrap64 (x7_1 + 1))) else (if x5_1.length < 1954687338268 then (catchmentref37_Runs.l0 k1 l0 l1 (x5_1 ++ [(⟨1, 0, rdOf ByteArray.empty t656 x7_1, (⟨#[]⟩ : BA), t660, 0⟩ : S32)]) t656 (wrap64 (x7_1 + 1))) else (none))) = some r := H
      have A14 := Aside0.mk A140
      clear A140
      by_cases c15 : t663 = true
      ·subst c15
       have H1 : (catchmentref37_Runs.l0 k1 l0 l1 x5_1 t656 (wrap64 (x7_1 + 1))) = some r := by rw [if_pos rfl] at H; exact H
       clear H
       have H := H1
       clear H1
       have H' := Aside0.mk H
       clear H
       obtain ⟨Ao16, co16, eo16⟩ := Kd.V_slice HO_6.out
       subst eo16
       have p659 : 0 ≤ (x7_1 : Int) := of_decide_eq_true (by first | (with_reducible assumption) | assumption)
       have q659 : x7_1 < (t656.length : Int) := of_decide_eq_true (by first | (with_reducible assumption) | assumption)
       obtain ⟨ad659, e659, hx659_0⟩ := Kd.at_string (Kd.V_reads' HO_6.out).2.2 x7_1 p659 q659
       cases e659
       replace p659 := eq_true p659
       replace q659 := eq_true q659
       go_wp2_with (first | ((with_reducible refine gate_callee (f := 31) rfl ?_); refine goesL_ (some 30) rfl rfl Try.func31 (by kernel_rfl) rfl #[.slice A1 l1.length c1, .string (rdOf ByteArray.empty t656 x7_1)] rfl mS_ ?_; (with_reducible refine (catchmentref05_Find.calls k1 _ _ l1 (rdOf ByteArray.empty t656 x7_1) t660 true _ ?side1 ?side2 A12.out).mono ?_); (case side1 => repeat (first | exact (Kd.V_reads' HO_1.out).2.2 | (with_reducible refine Kd.C_alloc ?_ _) | (with_reducible refine Kd.C_drewN ?_ _) | (with_reducible refine Kd.C_drew ?_))); (case side2 => exact (Kd.V_reads' HO_1.out).2.1); rintro e w' ⟨rfl, ⟨nd, rfl⟩⟩; refine ⟨_, rfl, ?_⟩; have p662 : 0 ≤ (x7_1 : Int) := of_decide_eq_true (by first | (with_reducible assumption) | assumption); have q662 : x7_1 < (t656.length : Int) := of_decide_eq_true (by first | (with_reducible assumption) | assumption); obtain ⟨ad662, e662, hx662_0⟩ := Kd.at_string (Kd.V_reads' HO_6.out).2.2 x7_1 p662 q662; obtain rfl : ad659 = ad662 := (by injection e662); replace p662 := eq_true p662; replace q662 := eq_true q662) | ((with_reducible refine gate_callee (f := 80) rfl ?_); refine goesL_ (some 40) rfl rfl Try.func80 (by kernel_rfl) rfl #[.slice A0 l0.length c0, .slice A1 l1.length c1, .string (rdOf ByteArray.empty t656 x7_1)] rfl mS_ ?_; (with_reducible refine (catchmentref37_same.calls k1 _ _ l0 _ _ l1 (rdOf ByteArray.empty t656 x7_1) true _ ?side1 ?side2 ?side3 ?side4 A14.out).mono ?_); (case side1 => repeat (first | exact (Kd.V_reads' HO_0.out).2.2 | (with_reducible refine Kd.C_alloc ?_ _) | (with_reducible refine Kd.C_drewN ?_ _) | (with_reducible refine Kd.C_drew ?_))); (case side2 => exact (Kd.V_reads' HO_0.out).2.1); (case side3 => repeat (first | exact (Kd.V_reads' HO_1.out).2.2 | (with_reducible refine Kd.C_alloc ?_ _) | (with_reducible refine Kd.C_drewN ?_ _) | (with_reducible refine Kd.C_drew ?_))); (case side4 => exact (Kd.V_reads' HO_1.out).2.1); rintro e w' ⟨rfl, ⟨nd, rfl⟩⟩; refine ⟨_, rfl, ?_⟩))
       go_roundg k1
       case measure => have := HK1.out; omega
       case rel => exact ⟨(x5_1), (wrap64 (x7_1 + 1)), (by first | rfl | (simp; done) | (simp [*]; done)), H', ⟨by have := HK1.out; omega⟩, ⟨by (with_reducible repeat (first | apply Kd.V_alloc | apply Kd.V_drewN | apply Kd.V_drew)); exact HO_0.out⟩, ⟨by (with_reducible repeat (first | apply Kd.V_alloc | apply Kd.V_drewN | apply Kd.V_drew)); exact HO_1.out⟩, ⟨by (with_reducible repeat (first | apply Kd.R_alloc | apply Kd.R_drewN | apply Kd.R_drew)); exact HO_5.out⟩, ⟨by (with_reducible repeat (first | apply Kd.V_alloc | apply Kd.V_drewN | apply Kd.V_drew)); exact HO_6.out⟩, ⟨by repeat (first | (with_reducible first | exact HB.out | apply wA | apply wN | apply w1) | exact HB.out)⟩⟩
      ·replace c15 := Bool.eq_false_iff.mpr c15
       subst c15
       have H1 : (if x5_1.length < 1954687338268 then (catchmentref37_Runs.l0 k1 l0 l1 (x5_1 ++ [(⟨1, 0, rdOf ByteArray.empty t656 x7_1, (⟨#[]⟩ : BA), t660, 0⟩ : S32)]) t656 (wrap64 (x7_1 + 1))) else (none)) = some r := by rw [if_neg (show ¬ (false = true) by decide)] at H; exact H
       clear H
       have H := H1
       clear H1
       by_cases c17 : x5_1.length < 1954687338268
       ·rw [if_pos c17] at H
        have LMc17 := Aside0.mk c17
        clear c17
        obtain ⟨y665, hy665⟩ : ∃ y_ : List (S32), y_ = (x5_1 ++ [(⟨1, 0, rdOf ByteArray.empty t656 x7_1, (⟨#[]⟩ : BA), t660, 0⟩ : S32)]) := ⟨_, rfl⟩
        replace H : (catchmentref37_Runs.l0 k1 l0 l1 y665 t656 (wrap64 (x7_1 + 1))) = some r := by first | (rw [hy665]; with_reducible exact H) | (have H2_ := (Option.bind_some _ _).symm.trans H; rw [hy665]; with_reducible exact H2_) | (have H2_ := (Option.bind_some _ _).symm.trans H; with_reducible exact H2_) | with_reducible exact H | (rw [hy665]; exact H) | exact H
        have Ny665 := Aside0.mk hy665
        clear hy665
        have H' := Aside0.mk H
        clear H
        obtain ⟨Ao18, co18, eo18⟩ := Kd.V_slice HO_6.out
        subst eo18
        have p659 : 0 ≤ (x7_1 : Int) := of_decide_eq_true (by first | (with_reducible assumption) | assumption)
        have q659 : x7_1 < (t656.length : Int) := of_decide_eq_true (by first | (with_reducible assumption) | assumption)
        obtain ⟨ad659, e659, hx659_0⟩ := Kd.at_string (Kd.V_reads' HO_6.out).2.2 x7_1 p659 q659
        cases e659
        replace p659 := eq_true p659
        replace q659 := eq_true q659
        go_wp2_with (first | ((with_reducible refine gate_callee (f := 31) rfl ?_); refine goesL_ (some 30) rfl rfl Try.func31 (by kernel_rfl) rfl #[.slice A1 l1.length c1, .string (rdOf ByteArray.empty t656 x7_1)] rfl mS_ ?_; (with_reducible refine (catchmentref05_Find.calls k1 _ _ l1 (rdOf ByteArray.empty t656 x7_1) t660 true _ ?side1 ?side2 A12.out).mono ?_); (case side1 => repeat (first | exact (Kd.V_reads' HO_1.out).2.2 | (with_reducible refine Kd.C_alloc ?_ _) | (with_reducible refine Kd.C_drewN ?_ _) | (with_reducible refine Kd.C_drew ?_))); (case side2 => exact (Kd.V_reads' HO_1.out).2.1); rintro e w' ⟨rfl, ⟨nd, rfl⟩⟩; refine ⟨_, rfl, ?_⟩; have p662 : 0 ≤ (x7_1 : Int) := of_decide_eq_true (by first | (with_reducible assumption) | assumption); have q662 : x7_1 < (t656.length : Int) := of_decide_eq_true (by first | (with_reducible assumption) | assumption); obtain ⟨ad662, e662, hx662_0⟩ := Kd.at_string (Kd.V_reads' HO_6.out).2.2 x7_1 p662 q662; obtain rfl : ad659 = ad662 := (by injection e662); replace p662 := eq_true p662; replace q662 := eq_true q662) | ((with_reducible refine gate_callee (f := 80) rfl ?_); refine goesL_ (some 40) rfl rfl Try.func80 (by kernel_rfl) rfl #[.slice A0 l0.length c0, .slice A1 l1.length c1, .string (rdOf ByteArray.empty t656 x7_1)] rfl mS_ ?_; (with_reducible refine (catchmentref37_same.calls k1 _ _ l0 _ _ l1 (rdOf ByteArray.empty t656 x7_1) false _ ?side1 ?side2 ?side3 ?side4 A14.out).mono ?_); (case side1 => repeat (first | exact (Kd.V_reads' HO_0.out).2.2 | (with_reducible refine Kd.C_alloc ?_ _) | (with_reducible refine Kd.C_drewN ?_ _) | (with_reducible refine Kd.C_drew ?_))); (case side2 => exact (Kd.V_reads' HO_0.out).2.1); (case side3 => repeat (first | exact (Kd.V_reads' HO_1.out).2.2 | (with_reducible refine Kd.C_alloc ?_ _) | (with_reducible refine Kd.C_drewN ?_ _) | (with_reducible refine Kd.C_drew ?_))); (case side4 => exact (Kd.V_reads' HO_1.out).2.1); rintro e w' ⟨rfl, ⟨nd, rfl⟩⟩; refine ⟨_, rfl, ?_⟩; have p664 : 0 ≤ (x7_1 : Int) := of_decide_eq_true (by first | (with_reducible assumption) | assumption); have q664 : x7_1 < (t656.length : Int) := of_decide_eq_true (by first | (with_reducible assumption) | assumption); obtain ⟨ad664, e664, hx664_0⟩ := Kd.at_string (Kd.V_reads' HO_6.out).2.2 x7_1 p664 q664; obtain rfl : ad659 = ad664 := (by injection e664); replace p664 := eq_true p664; replace q664 := eq_true q664) | ((with_reducible refine gate_builtin (b := .append) (xs := #[.tmp 42, .tmp 49]) rfl ?_); at_builtin; refine Kd.R_append k32 (w0 := w) w.heap.size rfl (.tmp 42) (.tmp 49) 22 32 (.agg #[(.int .u8 0), (.int .i64 0), (.string ⟨#[]⟩), (.string ⟨#[]⟩), (.string ⟨#[]⟩), (.int .u64 0)]) 72 rfl Try.underlying22 info32 rfl (by decide) (by omega) u5 x5_1 (⟨1, 0, rdOf ByteArray.empty t656 x7_1, (⟨#[]⟩ : BA), t660, 0⟩ : S32) [.int .u8 1, .int .i64 0, .string (rdOf ByteArray.empty t656 x7_1), .string (⟨#[]⟩ : BA), .string t660, .int .u64 0] (fun k_ => (w.heap.size ≤ k_)) (fun _ => False) rfl rfl ?aP (fun _ hk => hk.elim) ?aF ?aO ?aB ?aS ?aL ?_; (case aP => exact k32_mkM _ _ _ (⟨1, 0, rdOf ByteArray.empty t656 x7_1, (⟨#[]⟩ : BA), t660, 0⟩ : S32)); (case aB => exact bW_); (case aF => exact (fun k_ hk => (Nat.le_trans (wZ bW_) hk))); (case aO => exact (kR_ HO_5.out)); (case aS => exact (wZ bW_)); (case aL => have := LMc17.out; omega); intro v666 w19 ho hb hg hat; rw [← Ny665.out] at ho; have n0_ := Aside0.mk (Kd.V_afterv (ok := (fun k_ => ((P0_ k_ ∨ P1_ k_) ∨ w.heap.size ≤ k_))) (kV_ HO_0.out) hg hat); have n1_ := Aside0.mk (Kd.V_afterv (ok := (fun k_ => ((P0_ k_ ∨ P1_ k_) ∨ w.heap.size ≤ k_))) (kV_ HO_1.out) hg hat); have n2_ := Aside0.mk (Kd.V_afterv (ok := (fun k_ => ((P0_ k_ ∨ P1_ k_) ∨ w.heap.size ≤ k_))) (kV_ HO_6.out) hg hat); have n3_ := Aside0.mk (hb); have n4_ := Aside0.mk (ho); clear HO_0; clear HO_1; clear HO_6; clear HB; clear HO_5; have HO_0 := n0_; have HO_1 := n1_; have HO_6 := n2_; have HB := n3_; have HO667 := n4_; clear n0_ n1_ n2_ n3_ n4_; clear ho hb hg hat))
        go_roundg k1
        case measure => have := HK1.out; omega
        case rel => exact ⟨(y665), (wrap64 (x7_1 + 1)), (by first | rfl | (simp; done) | (simp [*]; done)), H', ⟨by have := HK1.out; omega⟩, ⟨by (with_reducible repeat (first | apply Kd.V_alloc | apply Kd.V_drewN | apply Kd.V_drew)); exact HO_0.out⟩, ⟨by (with_reducible repeat (first | apply Kd.V_alloc | apply Kd.V_drewN | apply Kd.V_drew)); exact HO_1.out⟩, ⟨by (with_reducible repeat (first | apply Kd.R_alloc | apply Kd.R_drewN | apply Kd.R_drew)); exact HO667.out⟩, ⟨by (with_reducible repeat (first | apply Kd.V_alloc | apply Kd.V_drewN | apply Kd.V_drew)); exact HO_6.out⟩, ⟨by repeat (first | (with_reducible first | exact HB.out | apply wA | apply wN | apply w1) | exact HB.out)⟩⟩
       ·rw [if_neg c17] at H
        exact absurd H (by simp)
     ·replace c13 := Bool.eq_false_iff.mpr c13
      subst c13
      have H1 : (catchmentref37_Runs.l1 k1 l0 l1 x5_1 t656 x7_1 x7_1) = some r := by rw [if_neg (show ¬ (false = true) by decide)] at H; exact H
      clear H
      have H := H1
      clear H1
      have H' := Aside0.mk H
      clear H
      obtain ⟨Ao20, co20, eo20⟩ := Kd.V_slice HO_6.out
      subst eo20
      have p659 : 0 ≤ (x7_1 : Int) := of_decide_eq_true (by first | (with_reducible assumption) | assumption)
      have q659 : x7_1 < (t656.length : Int) := of_decide_eq_true (by first | (with_reducible assumption) | assumption)
      obtain ⟨ad659, e659, hx659_0⟩ := Kd.at_string (Kd.V_reads' HO_6.out).2.2 x7_1 p659 q659
      cases e659
      replace p659 := eq_true p659
      replace q659 := eq_true q659
      go_wp2_with (first | ((with_reducible refine gate_callee (f := 31) rfl ?_); refine goesL_ (some 30) rfl rfl Try.func31 (by kernel_rfl) rfl #[.slice A1 l1.length c1, .string (rdOf ByteArray.empty t656 x7_1)] rfl mS_ ?_; (with_reducible refine (catchmentref05_Find.calls k1 _ _ l1 (rdOf ByteArray.empty t656 x7_1) t660 false _ ?side1 ?side2 A12.out).mono ?_); (case side1 => repeat (first | exact (Kd.V_reads' HO_1.out).2.2 | (with_reducible refine Kd.C_alloc ?_ _) | (with_reducible refine Kd.C_drewN ?_ _) | (with_reducible refine Kd.C_drew ?_))); (case side2 => exact (Kd.V_reads' HO_1.out).2.1); rintro e w' ⟨rfl, ⟨nd, rfl⟩⟩; refine ⟨_, rfl, ?_⟩))
      go_loopg [10] k1 (fun kq v10 w' => ∃ (x10_2 : Int), v10 = .int .i64 x10_2 ∧ Aside0 (catchmentref37_Runs.l1 kq l0 l1 x5_1 t656 x7_1 x10_2 = some r) ∧ Aside0 (kq ≤ k1) ∧ Aside0 (Kd.V k39 39 w' w.heap.size (fun k_ => ((P0_ k_ ∨ P1_ k_) ∨ w.heap.size ≤ k_) ∧ some k_ ≠ (u5 : Value).ownBlock) (.slice A0 l0.length c0) l0) ∧ Aside0 (Kd.V k39 39 w' w.heap.size (fun k_ => ((P0_ k_ ∨ P1_ k_) ∨ w.heap.size ≤ k_) ∧ some k_ ≠ (u5 : Value).ownBlock) (.slice A1 l1.length c1) l1) ∧ Aside0 (Kd.R k32 32 w' w.heap.size (fun k_ => (w.heap.size ≤ k_)) u5 x5_1) ∧ Aside0 (Kd.V Kd.string 9 w' w.heap.size (fun k_ => ((P0_ k_ ∨ P1_ k_) ∨ w.heap.size ≤ k_) ∧ some k_ ≠ (u5 : Value).ownBlock) (.slice (some ad659) t656.length co20) t656) ∧ Aside0 (Below w.heap.size w w'))
      case atStart => exact ⟨(x7_1), (by first | rfl | (simp; done) | (simp [*]; done)), H', ⟨Nat.le_refl _⟩, ⟨by (with_reducible repeat (first | apply Kd.V_alloc | apply Kd.V_drewN | apply Kd.V_drew)); exact HO_0.out⟩, ⟨by (with_reducible repeat (first | apply Kd.V_alloc | apply Kd.V_drewN | apply Kd.V_drew)); exact HO_1.out⟩, ⟨by (with_reducible repeat (first | apply Kd.R_alloc | apply Kd.R_drewN | apply Kd.R_drew)); exact HO_5.out⟩, ⟨by (with_reducible repeat (first | apply Kd.V_alloc | apply Kd.V_drewN | apply Kd.V_drew)); exact HO_6.out⟩, ⟨by repeat (first | (with_reducible first | exact HB.out | apply wA | apply wN | apply w1) | exact HB.out)⟩⟩
      case round =>
       clear H'
       try clear c1
       try clear p2
       try clear c3
       try clear c4
       try clear p6
       try clear q6
       try clear hx6
       try clear c7
       try clear c8
       try clear c10
       try clear c10b0
       try clear c11
       try clear c11b0
       try clear c13
       try clear c15
       try clear c17
       try clear hx659_0
       try clear hx662_0
       try clear hx664_0
       try clear p2
       try clear p659
       try clear p662
       try clear p664
       try clear q659
       try clear q662
       try clear q664
       obtain ⟨x10_2, rfl, HA, HK2, HO_0, HO_1, HO_5, HO_6, HB⟩ := hrel
       cases gk with
       | zero => exact absurd HA.out (by simp [catchmentref37_Runs.l1])
       | succ k2 =>
        have H := HA.out
        clear HA
        simp only [catchmentref37_Runs.l1] at H
        by_cases c21 : x10_2 < (wrap64 ((t656.length : Int) - 1))
        ·rw [if_pos c21] at H
         have c21b0 : decide (x10_2 < (wrap64 ((t656.length : Int) - 1))) = true := decide_eq_true c21
         clear c21
         obtain ⟨ji22, hji22⟩ : ∃ j_ : Int, (wrap64 (x10_2 + 1)) = j_ := ⟨_, rfl⟩
         replace H : (if 0 ≤ (ji22) then (if (ji22) < (t656.length : Int) then ((catchmentref05_Find.f k2 l1 (rdOf ByteArray.empty t656 (ji22))).bind fun bt669 => (if bt669.2 = true then (if x10_2 = x7_1 then (if 0 ≤ x7_1 then (if x7_1 < (t656.length : Int) then (if x5_1.length < 1954687338268 then (catchmentref37_Runs.l0 k2 l0 l1 (x5_1 ++ [(⟨2, 0, rdOf ByteArray.empty t656 x7_1, (⟨#[]⟩ : BA), (⟨#[]⟩ : BA), 0⟩ : S32)]) t656 ji22) else (none)) else (none)) else (none)) else (if 0 ≤ x7_1 then (if x7_1 < (t656.length : Int) then (if 0 ≤ x10_2 then (if x10_2 < (t656.length : Int) then (if (rdOf ByteArray.empty t656 x10_2).size + 1 ≤ 9223372036854775807 then (if x5_1.length < 1954687338268 then (catchmentref37_Runs.l0 k2 l0 l1 (x5_1 ++ [(⟨4, 0, rdOf ByteArray.empty t656 x7_1, (rdOf ByteArray.empty t656 x10_2) ++ (⟨#[0]⟩ : BA), (⟨#[]⟩ : BA), 0⟩ : S32)]) t656 ji22) else (none)) else (none)) else (none)) else (none)) else (none)) else (none))) else (catchmentref37_Runs.l1 k2 l0 l1 x5_1 t656 x7_1 ji22))) else (none)) else (none)) = some r := by first | (rw [hji22] at H; exact H) | (simp only [hji22] at H ⊢; exact H)
         have hji22w : (IntKind.i64.wrap (x10_2 + 1)) = ji22 := (i64_w _).trans hji22
         by_cases c23 : 0 ≤ (ji22)
         ·rw [if_pos c23] at H
          have c23b0 : decide (0 ≤ (ji22)) = true := decide_eq_true c23
          clear c23
          by_cases c24 : (ji22) < (t656.length : Int)
          ·rw [if_pos c24] at H
           have c24b0 : decide ((ji22) < (t656.length : Int)) = true := decide_eq_true c24
           clear c24
           replace H := Option.bind_eq_some_iff.mp H
           obtain ⟨⟨t669, t670⟩, A250, H⟩ := H
           replace H : (if t670 = true then (if x10_2 = x7_1 then (if 0 ≤ x7_1 then (if x7_1 < (t656.length : Int) then (if x5_1.length < 1954687338268 then (catchmentref37_Runs.l0 k2 l0 l1 (x5_1 ++ [(⟨2, 0, rdOf ByteArray.empty t656 x7_1, (⟨#[]⟩ : BA), (⟨#[]⟩ : BA), 0⟩ : S32)]) t656 ji22) else (none)) else (none)) else (none)) else (if 0 ≤ x7_1 then (if x7_1 < (t656.length : Int) then (if 0 ≤ x10_2 then (if x10_2 < (t656.length : Int) then (if (rdOf ByteArray.empty t656 x10_2).size + 1 ≤ 9223372036854775807 then (if x5_1.length < 1954687338268 then (catchmentref37_Runs.l0 k2 l0 l1 (x5_1 ++ [(⟨4, 0, rdOf ByteArray.empty t656 x7_1, (rdOf ByteArray.empty t656 x10_2) ++ (⟨#[0]⟩ : BA), (⟨#[]⟩ : BA), 0⟩ : S32)]) t656 ji22) else (none)) else (none)) else (none)) else (none)) else (none)) else (none))) else (catchmentref37_Runs.l1 k2 l0 l1 x5_1 t656 x7_1 ji22)) = some r := H
           have A25 := Aside0.mk A250
           clear A250
           by_cases c26 : t670 = true
           ·subst c26
            have H1 : (if x10_2 = x7_1 then (if 0 ≤ x7_1 then (if x7_1 < (t656.length : Int) then (if x5_1.length < 1954687338268 then (catchmentref37_Runs.l0 k2 l0 l1 (x5_1 ++ [(⟨2, 0, rdOf ByteArray.empty t656 x7_1, (⟨#[]⟩ : BA), (⟨#[]⟩ : BA), 0⟩ : S32)]) t656 ji22) else (none)) else (none)) else (none)) else (if 0 ≤ x7_1 then (if x7_1 < (t656.length : Int) then (if 0 ≤ x10_2 then (if x10_2 < (t656.length : Int) then (if (rdOf ByteArray.empty t656 x10_2).size + 1 ≤ 9223372036854775807 then (if x5_1.length < 1954687338268 then (catchmentref37_Runs.l0 k2 l0 l1 (x5_1 ++ [(⟨4, 0, rdOf ByteArray.empty t656 x7_1, (rdOf ByteArray.empty t656 x10_2) ++ (⟨#[0]⟩ : BA), (⟨#[]⟩ : BA), 0⟩ : S32)]) t656 ji22) else (none)) else (none)) else (none)) else (none)) else (none)) else (none))) = some r := by rw [if_pos rfl] at H; exact H
            clear H
            have H := H1
            clear H1
            by_cases c27 : x10_2 = x7_1
            ·rw [if_pos c27] at H
             have c27b0 : (x10_2 == x7_1) = true := beq_iff_eq.mpr c27
             have c27b1 : (x10_2 != x7_1) = false := bne_eq_false_iff_eq.mpr c27
             clear c27
             by_cases c28 : 0 ≤ x7_1
             ·rw [if_pos c28] at H
              have c28b0 : decide (0 ≤ x7_1) = true := decide_eq_true c28
              clear c28
              by_cases c29 : x7_1 < (t656.length : Int)
              ·rw [if_pos c29] at H
               have c29b0 : decide (x7_1 < (t656.length : Int)) = true := decide_eq_true c29
               clear c29
               by_cases c30 : x5_1.length < 1954687338268
               ·rw [if_pos c30] at H
                have LMc30 := Aside0.mk c30
                clear c30
                obtain ⟨y672, hy672⟩ : ∃ y_ : List (S32), y_ = (x5_1 ++ [(⟨2, 0, rdOf ByteArray.empty t656 x7_1, (⟨#[]⟩ : BA), (⟨#[]⟩ : BA), 0⟩ : S32)]) := ⟨_, rfl⟩
                replace H : (catchmentref37_Runs.l0 k2 l0 l1 y672 t656 ji22) = some r := by first | (rw [hy672]; with_reducible exact H) | (have H2_ := (Option.bind_some _ _).symm.trans H; rw [hy672]; with_reducible exact H2_) | (have H2_ := (Option.bind_some _ _).symm.trans H; with_reducible exact H2_) | with_reducible exact H | (rw [hy672]; exact H) | exact H
                have Ny672 := Aside0.mk hy672
                clear hy672
                have H' := Aside0.mk H
                clear H
                have p668 : 0 ≤ ((ji22) : Int) := of_decide_eq_true (by first | (with_reducible assumption) | assumption)
                have q668 : (ji22) < (t656.length : Int) := of_decide_eq_true (by first | (with_reducible assumption) | assumption)
                obtain ⟨ad668, e668, hx668_0⟩ := Kd.at_string (Kd.V_reads' HO_6.out).2.2 (ji22) p668 q668
                obtain rfl : ad659 = ad668 := (by injection e668)
                replace p668 := eq_true p668
                replace q668 := eq_true q668
                go_wp2_with (first | ((with_reducible refine gate_callee (f := 31) rfl ?_); refine goesL_ (some 64) rfl rfl Try.func31 (by kernel_rfl) rfl #[.slice A1 l1.length c1, .string (rdOf ByteArray.empty t656 (ji22))] rfl (by (try simp only [mA1, mA2, mA3]); first | done | (simp only [hji22]; rfl) | rfl | (simp only [mA5, mA4]; rfl)) ?_; (with_reducible refine (catchmentref05_Find.calls k2 _ _ l1 (rdOf ByteArray.empty t656 (ji22)) t669 true _ ?side1 ?side2 A25.out).mono ?_); (case side1 => repeat (first | exact (Kd.V_reads' HO_1.out).2.2 | (with_reducible refine Kd.C_alloc ?_ _) | (with_reducible refine Kd.C_drewN ?_ _) | (with_reducible refine Kd.C_drew ?_))); (case side2 => exact (Kd.V_reads' HO_1.out).2.1); rintro e w' ⟨rfl, ⟨nd, rfl⟩⟩; refine ⟨_, rfl, ?_⟩; have p671 : 0 ≤ (x7_1 : Int) := of_decide_eq_true (by first | (with_reducible assumption) | assumption); have q671 : x7_1 < (t656.length : Int) := of_decide_eq_true (by first | (with_reducible assumption) | assumption); obtain ⟨ad671, e671, hx671_0⟩ := Kd.at_string (Kd.V_reads' HO_6.out).2.2 x7_1 p671 q671; obtain rfl : ad659 = ad671 := (by injection e671); replace p671 := eq_true p671; replace q671 := eq_true q671) | ((with_reducible refine gate_builtin (b := .append) (xs := #[.tmp 73, .tmp 79]) rfl ?_); at_builtin; refine Kd.R_append k32 (w0 := w) w.heap.size rfl (.tmp 73) (.tmp 79) 22 32 (.agg #[(.int .u8 0), (.int .i64 0), (.string ⟨#[]⟩), (.string ⟨#[]⟩), (.string ⟨#[]⟩), (.int .u64 0)]) 72 rfl Try.underlying22 info32 rfl (by decide) (by omega) u5 x5_1 (⟨2, 0, rdOf ByteArray.empty t656 x7_1, (⟨#[]⟩ : BA), (⟨#[]⟩ : BA), 0⟩ : S32) [.int .u8 2, .int .i64 0, .string (rdOf ByteArray.empty t656 x7_1), .string (⟨#[]⟩ : BA), .string (⟨#[]⟩ : BA), .int .u64 0] (fun k_ => (w.heap.size ≤ k_)) (fun _ => False) rfl rfl ?aP (fun _ hk => hk.elim) ?aF ?aO ?aB ?aS ?aL ?_; (case aP => exact k32_mkM _ _ _ (⟨2, 0, rdOf ByteArray.empty t656 x7_1, (⟨#[]⟩ : BA), (⟨#[]⟩ : BA), 0⟩ : S32)); (case aB => exact bW_); (case aF => exact (fun k_ hk => (Nat.le_trans (wZ bW_) hk))); (case aO => exact (kR_ HO_5.out)); (case aS => exact (wZ bW_)); (case aL => have := LMc30.out; omega); intro v673 w31 ho hb hg hat; rw [← Ny672.out] at ho; have n0_ := Aside0.mk (Kd.V_afterv (ok := (fun k_ => ((P0_ k_ ∨ P1_ k_) ∨ w.heap.size ≤ k_))) (kV_ HO_0.out) hg hat); have n1_ := Aside0.mk (Kd.V_afterv (ok := (fun k_ => ((P0_ k_ ∨ P1_ k_) ∨ w.heap.size ≤ k_))) (kV_ HO_1.out) hg hat); have n2_ := Aside0.mk (Kd.V_afterv (ok := (fun k_ => ((P0_ k_ ∨ P1_ k_) ∨ w.heap.size ≤ k_))) (kV_ HO_6.out) hg hat); have n3_ := Aside0.mk (hb); have n4_ := Aside0.mk (ho); clear HO_0; clear HO_1; clear HO_6; clear HB; clear HO_5; have HO_0 := n0_; have HO_1 := n1_; have HO_6 := n2_; have HB := n3_; have HO674 := n4_; clear n0_ n1_ n2_ n3_ n4_; clear ho hb hg hat))
                go_roundg k2
                case measure => have := HK1.out; have := HK2.out; omega
                case rel => exact ⟨(y672), (ji22), (by first | rfl | (simp; done) | (simp only [← hji22] <;> (first | rfl | simp)) | (simp [*]; done)), H', ⟨by have := HK1.out; have := HK2.out; omega⟩, ⟨by (with_reducible repeat (first | apply Kd.V_alloc | apply Kd.V_drewN | apply Kd.V_drew)); exact HO_0.out⟩, ⟨by (with_reducible repeat (first | apply Kd.V_alloc | apply Kd.V_drewN | apply Kd.V_drew)); exact HO_1.out⟩, ⟨by (with_reducible repeat (first | apply Kd.R_alloc | apply Kd.R_drewN | apply Kd.R_drew)); exact HO674.out⟩, ⟨by (with_reducible repeat (first | apply Kd.V_alloc | apply Kd.V_drewN | apply Kd.V_drew)); exact HO_6.out⟩, ⟨by repeat (first | (with_reducible first | exact HB.out | apply wA | apply wN | apply w1) | exact HB.out)⟩⟩
               ·rw [if_neg c30] at H
                exact absurd H (by simp)
              ·rw [if_neg c29] at H
               exact absurd H (by simp)
             ·rw [if_neg c28] at H
              exact absurd H (by simp)
            ·rw [if_neg c27] at H
             have c27b0 : (x10_2 == x7_1) = false := beq_eq_false_iff_ne.mpr c27
             have c27b1 : (x10_2 != x7_1) = true := bne_iff_ne.mpr c27
             by_cases c32 : 0 ≤ x7_1
             ·rw [if_pos c32] at H
              have c32b0 : decide (0 ≤ x7_1) = true := decide_eq_true c32
              clear c32
              by_cases c33 : x7_1 < (t656.length : Int)
              ·rw [if_pos c33] at H
               have c33b0 : decide (x7_1 < (t656.length : Int)) = true := decide_eq_true c33
               clear c33
               by_cases c34 : 0 ≤ x10_2
               ·rw [if_pos c34] at H
                have c34b0 : decide (0 ≤ x10_2) = true := decide_eq_true c34
                clear c34
                by_cases c35 : x10_2 < (t656.length : Int)
                ·rw [if_pos c35] at H
                 have c35b0 : decide (x10_2 < (t656.length : Int)) = true := decide_eq_true c35
                 clear c35
                 by_cases c36 : (rdOf ByteArray.empty t656 x10_2).size + 1 ≤ 9223372036854775807
                 ·rw [if_pos c36] at H
                  have c36b0 := eq_true c36
                  have c36b1 : decide ((rdOf ByteArray.empty t656 x10_2).size + 1 ≤ 9223372036854775807) = true := decide_eq_true c36
                  try have c36b2 : (9223372036854775807 < (rdOf ByteArray.empty t656 x10_2).size + 1) = False := eq_false (Nat.not_lt.2 c36)
                  by_cases c37 : x5_1.length < 1954687338268
                  ·rw [if_pos c37] at H
                   have LMc37 := Aside0.mk c37
                   clear c37
                   obtain ⟨y677, hy677⟩ : ∃ y_ : List (S32), y_ = (x5_1 ++ [(⟨4, 0, rdOf ByteArray.empty t656 x7_1, (rdOf ByteArray.empty t656 x10_2) ++ (⟨#[0]⟩ : BA), (⟨#[]⟩ : BA), 0⟩ : S32)]) := ⟨_, rfl⟩
                   replace H : (catchmentref37_Runs.l0 k2 l0 l1 y677 t656 ji22) = some r := by first | (rw [hy677]; with_reducible exact H) | (have H2_ := (Option.bind_some _ _).symm.trans H; rw [hy677]; with_reducible exact H2_) | (have H2_ := (Option.bind_some _ _).symm.trans H; with_reducible exact H2_) | with_reducible exact H | (rw [hy677]; exact H) | exact H
                   have Ny677 := Aside0.mk hy677
                   clear hy677
                   have H' := Aside0.mk H
                   clear H
                   have p668 : 0 ≤ ((ji22) : Int) := of_decide_eq_true (by first | (with_reducible assumption) | assumption)
                   have q668 : (ji22) < (t656.length : Int) := of_decide_eq_true (by first | (with_reducible assumption) | assumption)
                   obtain ⟨ad668, e668, hx668_0⟩ := Kd.at_string (Kd.V_reads' HO_6.out).2.2 (ji22) p668 q668
                   obtain rfl : ad659 = ad668 := (by injection e668)
                   replace p668 := eq_true p668
                   replace q668 := eq_true q668
                   try go_wp2_with (first | ((with_reducible refine gate_callee (f := 31) rfl ?_); refine goesL_ (some 64) rfl rfl Try.func31 (by kernel_rfl) rfl #[.slice A1 l1.length c1, .string (rdOf ByteArray.empty t656 (ji22))] rfl (by (try simp only [mA1, mA2, mA3]); first | done | (simp only [hji22]; rfl) | rfl | (simp only [mA5, mA4]; rfl)) ?_; (with_reducible refine (catchmentref05_Find.calls k2 _ _ l1 (rdOf ByteArray.empty t656 (ji22)) t669 true _ ?side1 ?side2 A25.out).mono ?_); (case side1 => repeat (first | exact (Kd.V_reads' HO_1.out).2.2 | (with_reducible refine Kd.C_alloc ?_ _) | (with_reducible refine Kd.C_drewN ?_ _) | (with_reducible refine Kd.C_drew ?_))); (case side2 => exact (Kd.V_reads' HO_1.out).2.1); rintro e w' ⟨rfl, ⟨nd, rfl⟩⟩; refine ⟨_, rfl, ?_⟩))
                   (try (rw [drewN_self wr]; generalize hq_ : World.drewN wr _ = wr; have n0_ : Aside0 (Kd.V k39 39 wr w.heap.size (fun k_ => ((P0_ k_ ∨ P1_ k_) ∨ w.heap.size ≤ k_) ∧ some k_ ≠ (u5 : Value).ownBlock) (.slice A0 l0.length c0) l0) := ⟨by rw [← hq_]; exact (kV_ HO_0.out)⟩; have n1_ : Aside0 (Kd.V k39 39 wr w.heap.size (fun k_ => ((P0_ k_ ∨ P1_ k_) ∨ w.heap.size ≤ k_) ∧ some k_ ≠ (u5 : Value).ownBlock) (.slice A1 l1.length c1) l1) := ⟨by rw [← hq_]; exact (kV_ HO_1.out)⟩; have n2_ : Aside0 (Kd.R k32 32 wr w.heap.size (fun k_ => (w.heap.size ≤ k_)) u5 x5_1) := ⟨by rw [← hq_]; exact (kR_ HO_5.out)⟩; have n3_ : Aside0 (Kd.V Kd.string 9 wr w.heap.size (fun k_ => ((P0_ k_ ∨ P1_ k_) ∨ w.heap.size ≤ k_) ∧ some k_ ≠ (u5 : Value).ownBlock) (.slice (some ad659) t656.length co20) t656) := ⟨by rw [← hq_]; exact (kV_ HO_6.out)⟩; have n4_ : Aside0 (Below w.heap.size w wr) := ⟨by rw [← hq_]; exact bW_⟩; clear HO_0 HO_1 HO_5 HO_6 HB hq_; have HO_0 := n0_; have HO_1 := n1_; have HO_5 := n2_; have HO_6 := n3_; have HB := n4_; clear n0_ n1_ n2_ n3_ n4_))
                   have n0_ := Aside0.mk (Kd.V_drew HO_0.out)
                   have n1_ := Aside0.mk (Kd.V_drew HO_1.out)
                   have n2_ := Aside0.mk (Kd.R_drew HO_5.out)
                   have n3_ := Aside0.mk (Kd.V_drew HO_6.out)
                   have n4_ := Aside0.mk (w1 HB.out)
                   clear HO_0
                   clear HO_1
                   clear HO_5
                   clear HO_6
                   clear HB
                   have HO_0 := n0_
                   have HO_1 := n1_
                   have HO_5 := n2_
                   have HO_6 := n3_
                   have HB := n4_
                   clear n0_ n1_ n2_ n3_ n4_
                   have p675 : 0 ≤ (x7_1 : Int) := of_decide_eq_true (by first | (with_reducible assumption) | assumption)
                   have q675 : x7_1 < (t656.length : Int) := of_decide_eq_true (by first | (with_reducible assumption) | assumption)
                   obtain ⟨ad675, e675, hx675_0⟩ := Kd.at_string (Kd.V_reads' HO_6.out).2.2 x7_1 p675 q675
                   obtain rfl : ad659 = ad675 := (by injection e675)
                   replace p675 := eq_true p675
                   replace q675 := eq_true q675
                   have p676 : 0 ≤ (x10_2 : Int) := of_decide_eq_true (by first | (with_reducible assumption) | assumption)
                   have q676 : x10_2 < (t656.length : Int) := of_decide_eq_true (by first | (with_reducible assumption) | assumption)
                   obtain ⟨ad676, e676, hx676_0⟩ := Kd.at_string (Kd.V_reads' HO_6.out).2.2 x10_2 p676 q676
                   obtain rfl : ad659 = ad676 := (by injection e676)
                   replace p676 := eq_true p676
                   replace q676 := eq_true q676
                   refine start_ (n := 14) (S := fun w' => w'.cell? (ad659.add (x7_1).toNat) = some (.string (rdOf ByteArray.empty t656 x7_1)) ∧ w'.cell? (ad659.add (x10_2).toNat) = some (.string (rdOf ByteArray.empty t656 x10_2))) (ds := [11, 12]) #[ZZ,ZZ,ZZ,ZZ,ZZ,ZZ,ZZ,ZZ,ZZ,ZZ,ZZ,ZZ,ZZ,ZZ] (by kernel_rfl) rfl rfl ⟨hx675_0, hx676_0⟩ (fun hHeld => ?_); refine with_tabW catchmentref37_Runs.tab17 catchmentref37_Runs.bits17 (fun HT_ HW_ => ?_)
                   generalize wr.drew = w38 at HO_0 HO_1 HO_5 HO_6 HB hx675_0 hx676_0 hHeld ⊢
                   refine pU_ 0 81 #[YY,ZZ,ZZ,ZZ,ZZ,ZZ,ZZ,ZZ,ZZ,ZZ,ZZ,ZZ,ZZ,ZZ] ?_
                   refine pU_ 1 82 #[YY,YY,ZZ,ZZ,ZZ,ZZ,ZZ,ZZ,ZZ,ZZ,ZZ,ZZ,ZZ,ZZ] ?_
                   refine pU_ 2 83 #[YY,YY,YY,ZZ,ZZ,ZZ,ZZ,ZZ,ZZ,ZZ,ZZ,ZZ,ZZ,ZZ] ?_
                   refine pU_ 3 84 #[YY,YY,YY,YY,ZZ,ZZ,ZZ,ZZ,ZZ,ZZ,ZZ,ZZ,ZZ,ZZ] ?_
                   refine pU_ 5 86 #[YY,YY,YY,YY,ZZ,YY,ZZ,ZZ,ZZ,ZZ,ZZ,ZZ,ZZ,ZZ] ?_
                   refine pU_ 6 87 #[YY,YY,YY,YY,ZZ,YY,YY,ZZ,ZZ,ZZ,ZZ,ZZ,ZZ,ZZ] ?_
                   refine pU_ 7 88 #[YY,YY,YY,YY,ZZ,YY,YY,YY,ZZ,ZZ,ZZ,ZZ,ZZ,ZZ] ?_
                   refine take_ (i := 4) (N := some 85) (v := ?_) (a' := ?_) #[YY,YY,YY,YY,YY,YY,YY,YY,ZZ,ZZ,ZZ,ZZ,ZZ,ZZ] rfl rfl (take_ofW HT_.out HW_.out (by kernel_rfl)) (fun _ _ _ h => h) (Or.inl ⟨by rfl, ?_⟩) hHeld ?_ ?_
                   rotate_left
                   ·rintro w' ⟨s0, s1⟩
                    go_simp
                    with_reducible rfl
                   rotate_left
                   ·simp only [Act.put, sA1, sA2, sA3, i64_w, i32_w]
                    rfl
                   refine take_ (i := 8) (N := some 89) (v := ?_) (a' := ?_) #[YY,YY,YY,YY,YY,YY,YY,YY,YY,ZZ,ZZ,ZZ,ZZ,ZZ] rfl rfl (take_ofW HT_.out HW_.out (by kernel_rfl)) (fun _ _ _ h => h) (Or.inl ⟨by rfl, ?_⟩) hHeld ?_ ?_
                   rotate_left
                   ·rintro w' ⟨s0, s1⟩
                    go_simp
                    with_reducible rfl
                   rotate_left
                   ·simp only [Act.put, sA1, sA2, sA3, i64_w, i32_w]
                    rfl
                   refine pU_ 9 90 #[YY,YY,YY,YY,YY,YY,YY,YY,YY,YY,ZZ,ZZ,ZZ,ZZ] ?_
                   refine pU_ 10 91 #[YY,YY,YY,YY,YY,YY,YY,YY,YY,YY,YY,ZZ,ZZ,ZZ] ?_
                   refine last_ (i := 11) (N := some 92) #[YY,YY,YY,YY,YY,YY,YY,YY,YY,YY,YY,YY,ZZ,ZZ] rfl rfl (one_of HT_.out (by kernel_rfl)) (by decide) (fun K hK => ?_)
                   refine value_ (w1 := ?_) (v := ?_) (by rfl) rfl ?_ ?_
                   rotate_left 2
                   ·go_simp
                    constructor
                    ·rfl
                    ·rfl
                   refine hK.out _ _ ?_
                   clear hK K
                   refine norm_ (a' := ?_) ?_ ?_
                   rotate_left
                   ·show Act.put _ (some 92) _ = _
                    simp only [Act.put, sA1, sA2, sA3, i64_w, i32_w]
                    rfl
                   refine last_ (i := 12) (N := some 93) #[YY,YY,YY,YY,YY,YY,YY,YY,YY,YY,YY,YY,YY,ZZ] rfl rfl (one_of HT_.out (by kernel_rfl)) (by decide) (fun K hK => ?_)
                   refine Kd.R_append_step k32 (w0 := w) w.heap.size (by rfl) (.tmp 81) (.tmp 92) 22 32 (.agg #[(.int .u8 0), (.int .i64 0), (.string ⟨#[]⟩), (.string ⟨#[]⟩), (.string ⟨#[]⟩), (.int .u64 0)]) 72 rfl Try.underlying22 info32 rfl (by decide) (by omega) u5 x5_1 (⟨4, 0, rdOf ByteArray.empty t656 x7_1, (rdOf ByteArray.empty t656 x10_2) ++ (⟨#[0]⟩ : BA), (⟨#[]⟩ : BA), 0⟩ : S32) [.int .u8 4, .int .i64 0, .string (rdOf ByteArray.empty t656 x7_1), .string ((rdOf ByteArray.empty t656 x10_2) ++ (⟨#[0]⟩ : BA)), .string (⟨#[]⟩ : BA), .int .u64 0] (fun k_ => (w.heap.size ≤ k_)) (fun _ => False) rfl rfl ?aP (fun _ hk => hk.elim) ?aF ?aO ?aB ?aS ?aL ?_
                   (case aP => exact k32_mkM _ _ _ (⟨4, 0, rdOf ByteArray.empty t656 x7_1, (rdOf ByteArray.empty t656 x10_2) ++ (⟨#[0]⟩ : BA), (⟨#[]⟩ : BA), 0⟩ : S32))
                   (case aB => exact bW_)
                   (case aF => exact (fun k_ hk => (Nat.le_trans (wZ bW_) hk)))
                   (case aO => exact (kR_ HO_5.out))
                   (case aS => exact (wZ bW_))
                   (case aL => have := LMc37.out; omega)
                   intro v678 w39 ho hb hg hat
                   rw [← Ny677.out] at ho
                   have n0_ := Aside0.mk (Kd.V_afterv (ok := (fun k_ => ((P0_ k_ ∨ P1_ k_) ∨ w.heap.size ≤ k_))) (kV_ HO_0.out) hg hat)
                   have n1_ := Aside0.mk (Kd.V_afterv (ok := (fun k_ => ((P0_ k_ ∨ P1_ k_) ∨ w.heap.size ≤ k_))) (kV_ HO_1.out) hg hat)
                   have n2_ := Aside0.mk (Kd.V_afterv (ok := (fun k_ => ((P0_ k_ ∨ P1_ k_) ∨ w.heap.size ≤ k_))) (kV_ HO_6.out) hg hat)
                   have n3_ := Aside0.mk (hb)
                   have n4_ := Aside0.mk (ho)
                   clear HO_0
                   clear HO_1
                   clear HO_6
                   clear HB
                   clear HO_5
                   have HO_0 := n0_
                   have HO_1 := n1_
                   have HO_6 := n2_
                   have HB := n3_
                   have HO679 := n4_
                   clear n0_ n1_ n2_ n3_ n4_
                   clear ho hb hg hat
                   refine hK.out _ _ ?_
                   clear hK K
                   refine norm_ (a' := ?_) ?_ ?_
                   rotate_left
                   ·show Act.put _ (some 93) _ = _
                    simp only [Act.put, sA1, sA2, sA3, i64_w, i32_w]
                    rfl
                   refine pU_ 13 5 #[YY,YY,YY,YY,YY,YY,YY,YY,YY,YY,YY,YY,YY,YY] ?_
                   refine done_ (done_of HT_.out (by kernel_rfl)) ?_
                   try go_wp2
                   go_roundg k2
                   case measure => have := HK1.out; have := HK2.out; omega
                   case rel => exact ⟨(y677), (ji22), (by first | rfl | (simp; done) | (simp only [← hji22] <;> (first | rfl | simp)) | (simp [*]; done)), H', ⟨by have := HK1.out; have := HK2.out; omega⟩, ⟨by (with_reducible repeat (first | apply Kd.V_alloc | apply Kd.V_drewN | apply Kd.V_drew)); exact HO_0.out⟩, ⟨by (with_reducible repeat (first | apply Kd.V_alloc | apply Kd.V_drewN | apply Kd.V_drew)); exact HO_1.out⟩, ⟨by (with_reducible repeat (first | apply Kd.R_alloc | apply Kd.R_drewN | apply Kd.R_drew)); exact HO679.out⟩, ⟨by (with_reducible repeat (first | apply Kd.V_alloc | apply Kd.V_drewN | apply Kd.V_drew)); exact HO_6.out⟩, ⟨by repeat (first | (with_reducible first | exact HB.out | apply wA | apply wN | apply w1) | exact HB.out)⟩⟩
                  ·rw [if_neg c37] at H
                   exact absurd H (by simp)
                 ·rw [if_neg c36] at H
                  exact absurd H (by simp)
                ·rw [if_neg c35] at H
                 exact absurd H (by simp)
               ·rw [if_neg c34] at H
                exact absurd H (by simp)
              ·rw [if_neg c33] at H
               exact absurd H (by simp)
             ·rw [if_neg c32] at H
              exact absurd H (by simp)
           ·replace c26 := Bool.eq_false_iff.mpr c26
            subst c26
            have H1 : (catchmentref37_Runs.l1 k2 l0 l1 x5_1 t656 x7_1 ji22) = some r := by rw [if_neg (show ¬ (false = true) by decide)] at H; exact H
            clear H
            have H := H1
            clear H1
            have H' := Aside0.mk H
            clear H
            have p668 : 0 ≤ ((ji22) : Int) := of_decide_eq_true (by first | (with_reducible assumption) | assumption)
            have q668 : (ji22) < (t656.length : Int) := of_decide_eq_true (by first | (with_reducible assumption) | assumption)
            obtain ⟨ad668, e668, hx668_0⟩ := Kd.at_string (Kd.V_reads' HO_6.out).2.2 (ji22) p668 q668
            obtain rfl : ad659 = ad668 := (by injection e668)
            replace p668 := eq_true p668
            replace q668 := eq_true q668
            go_wp2_with (first | ((with_reducible refine gate_callee (f := 31) rfl ?_); refine goesL_ (some 64) rfl rfl Try.func31 (by kernel_rfl) rfl #[.slice A1 l1.length c1, .string (rdOf ByteArray.empty t656 (ji22))] rfl (by (try simp only [mA1, mA2, mA3]); first | done | (simp only [hji22]; rfl) | rfl | (simp only [mA5, mA4]; rfl)) ?_; (with_reducible refine (catchmentref05_Find.calls k2 _ _ l1 (rdOf ByteArray.empty t656 (ji22)) t669 false _ ?side1 ?side2 A25.out).mono ?_); (case side1 => repeat (first | exact (Kd.V_reads' HO_1.out).2.2 | (with_reducible refine Kd.C_alloc ?_ _) | (with_reducible refine Kd.C_drewN ?_ _) | (with_reducible refine Kd.C_drew ?_))); (case side2 => exact (Kd.V_reads' HO_1.out).2.1); rintro e w' ⟨rfl, ⟨nd, rfl⟩⟩; refine ⟨_, rfl, ?_⟩))
            go_roundg k2
            case measure => have := HK1.out; have := HK2.out; omega
            case rel => exact ⟨(ji22), (by first | rfl | (simp; done) | (simp only [← hji22] <;> (first | rfl | simp)) | (simp [*]; done)), H', ⟨by have := HK1.out; have := HK2.out; omega⟩, ⟨by (with_reducible repeat (first | apply Kd.V_alloc | apply Kd.V_drewN | apply Kd.V_drew)); exact HO_0.out⟩, ⟨by (with_reducible repeat (first | apply Kd.V_alloc | apply Kd.V_drewN | apply Kd.V_drew)); exact HO_1.out⟩, ⟨by (with_reducible repeat (first | apply Kd.R_alloc | apply Kd.R_drewN | apply Kd.R_drew)); exact HO_5.out⟩, ⟨by (with_reducible repeat (first | apply Kd.V_alloc | apply Kd.V_drewN | apply Kd.V_drew)); exact HO_6.out⟩, ⟨by repeat (first | (with_reducible first | exact HB.out | apply wA | apply wN | apply w1) | exact HB.out)⟩⟩
          ·rw [if_neg c24] at H
           exact absurd H (by simp)
         ·rw [if_neg c23] at H
          exact absurd H (by simp)
        ·rw [if_neg c21] at H
         have c21b0 : decide (x10_2 < (wrap64 ((t656.length : Int) - 1))) = false := decide_eq_false c21
         clear c21
         by_cases c40 : x10_2 = x7_1
         ·rw [if_pos c40] at H
          have c40b0 : (x10_2 == x7_1) = true := beq_iff_eq.mpr c40
          have c40b1 : (x10_2 != x7_1) = false := bne_eq_false_iff_eq.mpr c40
          clear c40
          by_cases c41 : 0 ≤ x7_1
          ·rw [if_pos c41] at H
           have c41b0 : decide (0 ≤ x7_1) = true := decide_eq_true c41
           clear c41
           by_cases c42 : x7_1 < (t656.length : Int)
           ·rw [if_pos c42] at H
            have c42b0 : decide (x7_1 < (t656.length : Int)) = true := decide_eq_true c42
            clear c42
            by_cases c43 : x5_1.length < 1954687338268
            ·rw [if_pos c43] at H
             have LMc43 := Aside0.mk c43
             clear c43
             obtain ⟨y681, hy681⟩ : ∃ y_ : List (S32), y_ = (x5_1 ++ [(⟨2, 0, rdOf ByteArray.empty t656 x7_1, (⟨#[]⟩ : BA), (⟨#[]⟩ : BA), 0⟩ : S32)]) := ⟨_, rfl⟩
             replace H : (catchmentref37_Runs.l0 k2 l0 l1 y681 t656 (wrap64 (x10_2 + 1))) = some r := by first | (rw [hy681]; with_reducible exact H) | (have H2_ := (Option.bind_some _ _).symm.trans H; rw [hy681]; with_reducible exact H2_) | (have H2_ := (Option.bind_some _ _).symm.trans H; with_reducible exact H2_) | with_reducible exact H | (rw [hy681]; exact H) | exact H
             have Ny681 := Aside0.mk hy681
             clear hy681
             have H' := Aside0.mk H
             clear H
             have p680 : 0 ≤ (x7_1 : Int) := of_decide_eq_true (by first | (with_reducible assumption) | assumption)
             have q680 : x7_1 < (t656.length : Int) := of_decide_eq_true (by first | (with_reducible assumption) | assumption)
             obtain ⟨ad680, e680, hx680_0⟩ := Kd.at_string (Kd.V_reads' HO_6.out).2.2 x7_1 p680 q680
             obtain rfl : ad659 = ad680 := (by injection e680)
             replace p680 := eq_true p680
             replace q680 := eq_true q680
             go_wp2_with (first | ((with_reducible refine gate_builtin (b := .append) (xs := #[.tmp 73, .tmp 79]) rfl ?_); at_builtin; refine Kd.R_append k32 (w0 := w) w.heap.size rfl (.tmp 73) (.tmp 79) 22 32 (.agg #[(.int .u8 0), (.int .i64 0), (.string ⟨#[]⟩), (.string ⟨#[]⟩), (.string ⟨#[]⟩), (.int .u64 0)]) 72 rfl Try.underlying22 info32 rfl (by decide) (by omega) u5 x5_1 (⟨2, 0, rdOf ByteArray.empty t656 x7_1, (⟨#[]⟩ : BA), (⟨#[]⟩ : BA), 0⟩ : S32) [.int .u8 2, .int .i64 0, .string (rdOf ByteArray.empty t656 x7_1), .string (⟨#[]⟩ : BA), .string (⟨#[]⟩ : BA), .int .u64 0] (fun k_ => (w.heap.size ≤ k_)) (fun _ => False) rfl rfl ?aP (fun _ hk => hk.elim) ?aF ?aO ?aB ?aS ?aL ?_; (case aP => exact k32_mkM _ _ _ (⟨2, 0, rdOf ByteArray.empty t656 x7_1, (⟨#[]⟩ : BA), (⟨#[]⟩ : BA), 0⟩ : S32)); (case aB => exact bW_); (case aF => exact (fun k_ hk => (Nat.le_trans (wZ bW_) hk))); (case aO => exact (kR_ HO_5.out)); (case aS => exact (wZ bW_)); (case aL => have := LMc43.out; omega); intro v682 w44 ho hb hg hat; rw [← Ny681.out] at ho; have n0_ := Aside0.mk (Kd.V_afterv (ok := (fun k_ => ((P0_ k_ ∨ P1_ k_) ∨ w.heap.size ≤ k_))) (kV_ HO_0.out) hg hat); have n1_ := Aside0.mk (Kd.V_afterv (ok := (fun k_ => ((P0_ k_ ∨ P1_ k_) ∨ w.heap.size ≤ k_))) (kV_ HO_1.out) hg hat); have n2_ := Aside0.mk (Kd.V_afterv (ok := (fun k_ => ((P0_ k_ ∨ P1_ k_) ∨ w.heap.size ≤ k_))) (kV_ HO_6.out) hg hat); have n3_ := Aside0.mk (hb); have n4_ := Aside0.mk (ho); clear HO_0; clear HO_1; clear HO_6; clear HB; clear HO_5; have HO_0 := n0_; have HO_1 := n1_; have HO_6 := n2_; have HB := n3_; have HO683 := n4_; clear n0_ n1_ n2_ n3_ n4_; clear ho hb hg hat))
             go_roundg k2
             case measure => have := HK1.out; have := HK2.out; omega
             case rel => exact ⟨(y681), (wrap64 (x10_2 + 1)), (by first | rfl | (simp; done) | (simp [*]; done)), H', ⟨by have := HK1.out; have := HK2.out; omega⟩, ⟨by (with_reducible repeat (first | apply Kd.V_alloc | apply Kd.V_drewN | apply Kd.V_drew)); exact HO_0.out⟩, ⟨by (with_reducible repeat (first | apply Kd.V_alloc | apply Kd.V_drewN | apply Kd.V_drew)); exact HO_1.out⟩, ⟨by (with_reducible repeat (first | apply Kd.R_alloc | apply Kd.R_drewN | apply Kd.R_drew)); exact HO683.out⟩, ⟨by (with_reducible repeat (first | apply Kd.V_alloc | apply Kd.V_drewN | apply Kd.V_drew)); exact HO_6.out⟩, ⟨by repeat (first | (with_reducible first | exact HB.out | apply wA | apply wN | apply w1) | exact HB.out)⟩⟩
            ·rw [if_neg c43] at H
             exact absurd H (by simp)
           ·rw [if_neg c42] at H
            exact absurd H (by simp)
          ·rw [if_neg c41] at H
           exact absurd H (by simp)
         ·rw [if_neg c40] at H
          have c40b0 : (x10_2 == x7_1) = false := beq_eq_false_iff_ne.mpr c40
          have c40b1 : (x10_2 != x7_1) = true := bne_iff_ne.mpr c40
          by_cases c45 : 0 ≤ x7_1
          ·rw [if_pos c45] at H
           have c45b0 : decide (0 ≤ x7_1) = true := decide_eq_true c45
           clear c45
           by_cases c46 : x7_1 < (t656.length : Int)
           ·rw [if_pos c46] at H
            have c46b0 : decide (x7_1 < (t656.length : Int)) = true := decide_eq_true c46
            clear c46
            by_cases c47 : 0 ≤ x10_2
            ·rw [if_pos c47] at H
             have c47b0 : decide (0 ≤ x10_2) = true := decide_eq_true c47
             clear c47
             by_cases c48 : x10_2 < (t656.length : Int)
             ·rw [if_pos c48] at H
              have c48b0 : decide (x10_2 < (t656.length : Int)) = true := decide_eq_true c48
              clear c48
              by_cases c49 : (rdOf ByteArray.empty t656 x10_2).size + 1 ≤ 9223372036854775807
              ·rw [if_pos c49] at H
               have c49b0 := eq_true c49
               have c49b1 : decide ((rdOf ByteArray.empty t656 x10_2).size + 1 ≤ 9223372036854775807) = true := decide_eq_true c49
               try have c49b2 : (9223372036854775807 < (rdOf ByteArray.empty t656 x10_2).size + 1) = False := eq_false (Nat.not_lt.2 c49)
               by_cases c50 : x5_1.length < 1954687338268
               ·rw [if_pos c50] at H
                have LMc50 := Aside0.mk c50
                clear c50
                obtain ⟨y686, hy686⟩ : ∃ y_ : List (S32), y_ = (x5_1 ++ [(⟨4, 0, rdOf ByteArray.empty t656 x7_1, (rdOf ByteArray.empty t656 x10_2) ++ (⟨#[0]⟩ : BA), (⟨#[]⟩ : BA), 0⟩ : S32)]) := ⟨_, rfl⟩
                replace H : (catchmentref37_Runs.l0 k2 l0 l1 y686 t656 (wrap64 (x10_2 + 1))) = some r := by first | (rw [hy686]; with_reducible exact H) | (have H2_ := (Option.bind_some _ _).symm.trans H; rw [hy686]; with_reducible exact H2_) | (have H2_ := (Option.bind_some _ _).symm.trans H; with_reducible exact H2_) | with_reducible exact H | (rw [hy686]; exact H) | exact H
                have Ny686 := Aside0.mk hy686
                clear hy686
                have H' := Aside0.mk H
                clear H
                try go_wp2
                have n0_ := Aside0.mk (Kd.V_drew HO_0.out)
                have n1_ := Aside0.mk (Kd.V_drew HO_1.out)
                have n2_ := Aside0.mk (Kd.R_drew HO_5.out)
                have n3_ := Aside0.mk (Kd.V_drew HO_6.out)
                have n4_ := Aside0.mk (w1 HB.out)
                clear HO_0
                clear HO_1
                clear HO_5
                clear HO_6
                clear HB
                have HO_0 := n0_
                have HO_1 := n1_
                have HO_5 := n2_
                have HO_6 := n3_
                have HB := n4_
                clear n0_ n1_ n2_ n3_ n4_
                have p684 : 0 ≤ (x7_1 : Int) := of_decide_eq_true (by first | (with_reducible assumption) | assumption)
                have q684 : x7_1 < (t656.length : Int) := of_decide_eq_true (by first | (with_reducible assumption) | assumption)
                obtain ⟨ad684, e684, hx684_0⟩ := Kd.at_string (Kd.V_reads' HO_6.out).2.2 x7_1 p684 q684
                obtain rfl : ad659 = ad684 := (by injection e684)
                replace p684 := eq_true p684
                replace q684 := eq_true q684
                have p685 : 0 ≤ (x10_2 : Int) := of_decide_eq_true (by first | (with_reducible assumption) | assumption)
                have q685 : x10_2 < (t656.length : Int) := of_decide_eq_true (by first | (with_reducible assumption) | assumption)
                obtain ⟨ad685, e685, hx685_0⟩ := Kd.at_string (Kd.V_reads' HO_6.out).2.2 x10_2 p685 q685
                obtain rfl : ad659 = ad685 := (by injection e685)
                replace p685 := eq_true p685
                replace q685 := eq_true q685
                refine start_ (n := 14) (S := fun w' => w'.cell? (ad659.add (x7_1).toNat) = some (.string (rdOf ByteArray.empty t656 x7_1)) ∧ w'.cell? (ad659.add (x10_2).toNat) = some (.string (rdOf ByteArray.empty t656 x10_2))) (ds := [11, 12]) #[ZZ,ZZ,ZZ,ZZ,ZZ,ZZ,ZZ,ZZ,ZZ,ZZ,ZZ,ZZ,ZZ,ZZ] (by kernel_rfl) rfl rfl ⟨hx684_0, hx685_0⟩ (fun hHeld => ?_); refine with_tabW catchmentref37_Runs.tab17 catchmentref37_Runs.bits17 (fun HT_ HW_ => ?_)
                generalize wr.drew = w51 at HO_0 HO_1 HO_5 HO_6 HB hx684_0 hx685_0 hHeld ⊢
                refine pU_ 0 81 #[YY,ZZ,ZZ,ZZ,ZZ,ZZ,ZZ,ZZ,ZZ,ZZ,ZZ,ZZ,ZZ,ZZ] ?_
                refine pU_ 1 82 #[YY,YY,ZZ,ZZ,ZZ,ZZ,ZZ,ZZ,ZZ,ZZ,ZZ,ZZ,ZZ,ZZ] ?_
                refine pU_ 2 83 #[YY,YY,YY,ZZ,ZZ,ZZ,ZZ,ZZ,ZZ,ZZ,ZZ,ZZ,ZZ,ZZ] ?_
                refine pU_ 3 84 #[YY,YY,YY,YY,ZZ,ZZ,ZZ,ZZ,ZZ,ZZ,ZZ,ZZ,ZZ,ZZ] ?_
                refine pU_ 5 86 #[YY,YY,YY,YY,ZZ,YY,ZZ,ZZ,ZZ,ZZ,ZZ,ZZ,ZZ,ZZ] ?_
                refine pU_ 6 87 #[YY,YY,YY,YY,ZZ,YY,YY,ZZ,ZZ,ZZ,ZZ,ZZ,ZZ,ZZ] ?_
                refine pU_ 7 88 #[YY,YY,YY,YY,ZZ,YY,YY,YY,ZZ,ZZ,ZZ,ZZ,ZZ,ZZ] ?_
                refine take_ (i := 4) (N := some 85) (v := ?_) (a' := ?_) #[YY,YY,YY,YY,YY,YY,YY,YY,ZZ,ZZ,ZZ,ZZ,ZZ,ZZ] rfl rfl (take_ofW HT_.out HW_.out (by kernel_rfl)) (fun _ _ _ h => h) (Or.inl ⟨by rfl, ?_⟩) hHeld ?_ ?_
                rotate_left
                ·rintro w' ⟨s0, s1⟩
                 go_simp
                 with_reducible rfl
                rotate_left
                ·simp only [Act.put, sA1, sA2, sA3, i64_w, i32_w]
                 rfl
                refine take_ (i := 8) (N := some 89) (v := ?_) (a' := ?_) #[YY,YY,YY,YY,YY,YY,YY,YY,YY,ZZ,ZZ,ZZ,ZZ,ZZ] rfl rfl (take_ofW HT_.out HW_.out (by kernel_rfl)) (fun _ _ _ h => h) (Or.inl ⟨by rfl, ?_⟩) hHeld ?_ ?_
                rotate_left
                ·rintro w' ⟨s0, s1⟩
                 go_simp
                 with_reducible rfl
                rotate_left
                ·simp only [Act.put, sA1, sA2, sA3, i64_w, i32_w]
                 rfl
                refine pU_ 9 90 #[YY,YY,YY,YY,YY,YY,YY,YY,YY,YY,ZZ,ZZ,ZZ,ZZ] ?_
                refine pU_ 10 91 #[YY,YY,YY,YY,YY,YY,YY,YY,YY,YY,YY,ZZ,ZZ,ZZ] ?_
                refine last_ (i := 11) (N := some 92) #[YY,YY,YY,YY,YY,YY,YY,YY,YY,YY,YY,YY,ZZ,ZZ] rfl rfl (one_of HT_.out (by kernel_rfl)) (by decide) (fun K hK => ?_)
                refine value_ (w1 := ?_) (v := ?_) (by rfl) rfl ?_ ?_
                rotate_left 2
                ·go_simp
                 constructor
                 ·rfl
                 ·rfl
                refine hK.out _ _ ?_
                clear hK K
                refine norm_ (a' := ?_) ?_ ?_
                rotate_left
                ·show Act.put _ (some 92) _ = _
                 simp only [Act.put, sA1, sA2, sA3, i64_w, i32_w]
                 rfl
                refine last_ (i := 12) (N := some 93) #[YY,YY,YY,YY,YY,YY,YY,YY,YY,YY,YY,YY,YY,ZZ] rfl rfl (one_of HT_.out (by kernel_rfl)) (by decide) (fun K hK => ?_)
                refine Kd.R_append_step k32 (w0 := w) w.heap.size (by rfl) (.tmp 81) (.tmp 92) 22 32 (.agg #[(.int .u8 0), (.int .i64 0), (.string ⟨#[]⟩), (.string ⟨#[]⟩), (.string ⟨#[]⟩), (.int .u64 0)]) 72 rfl Try.underlying22 info32 rfl (by decide) (by omega) u5 x5_1 (⟨4, 0, rdOf ByteArray.empty t656 x7_1, (rdOf ByteArray.empty t656 x10_2) ++ (⟨#[0]⟩ : BA), (⟨#[]⟩ : BA), 0⟩ : S32) [.int .u8 4, .int .i64 0, .string (rdOf ByteArray.empty t656 x7_1), .string ((rdOf ByteArray.empty t656 x10_2) ++ (⟨#[0]⟩ : BA)), .string (⟨#[]⟩ : BA), .int .u64 0] (fun k_ => (w.heap.size ≤ k_)) (fun _ => False) rfl rfl ?aP (fun _ hk => hk.elim) ?aF ?aO ?aB ?aS ?aL ?_
                (case aP => exact k32_mkM _ _ _ (⟨4, 0, rdOf ByteArray.empty t656 x7_1, (rdOf ByteArray.empty t656 x10_2) ++ (⟨#[0]⟩ : BA), (⟨#[]⟩ : BA), 0⟩ : S32))
                (case aB => exact bW_)
                (case aF => exact (fun k_ hk => (Nat.le_trans (wZ bW_) hk)))
                (case aO => exact (kR_ HO_5.out))
                (case aS => exact (wZ bW_))
                (case aL => have := LMc50.out; omega)
                intro v687 w52 ho hb hg hat
                rw [← Ny686.out] at ho
                have n0_ := Aside0.mk (Kd.V_afterv (ok := (fun k_ => ((P0_ k_ ∨ P1_ k_) ∨ w.heap.size ≤ k_))) (kV_ HO_0.out) hg hat)
                have n1_ := Aside0.mk (Kd.V_afterv (ok := (fun k_ => ((P0_ k_ ∨ P1_ k_) ∨ w.heap.size ≤ k_))) (kV_ HO_1.out) hg hat)
                have n2_ := Aside0.mk (Kd.V_afterv (ok := (fun k_ => ((P0_ k_ ∨ P1_ k_) ∨ w.heap.size ≤ k_))) (kV_ HO_6.out) hg hat)
                have n3_ := Aside0.mk (hb)
                have n4_ := Aside0.mk (ho)
                clear HO_0
                clear HO_1
                clear HO_6
                clear HB
                clear HO_5
                have HO_0 := n0_
                have HO_1 := n1_
                have HO_6 := n2_
                have HB := n3_
                have HO688 := n4_
                clear n0_ n1_ n2_ n3_ n4_
                clear ho hb hg hat
                refine hK.out _ _ ?_
                clear hK K
                refine norm_ (a' := ?_) ?_ ?_
                rotate_left
                ·show Act.put _ (some 93) _ = _
                 simp only [Act.put, sA1, sA2, sA3, i64_w, i32_w]
                 rfl
                refine pU_ 13 5 #[YY,YY,YY,YY,YY,YY,YY,YY,YY,YY,YY,YY,YY,YY] ?_
                refine done_ (done_of HT_.out (by kernel_rfl)) ?_
                try go_wp2
                go_roundg k2
                case measure => have := HK1.out; have := HK2.out; omega
                case rel => exact ⟨(y686), (wrap64 (x10_2 + 1)), (by first | rfl | (simp; done) | (simp [*]; done)), H', ⟨by have := HK1.out; have := HK2.out; omega⟩, ⟨by (with_reducible repeat (first | apply Kd.V_alloc | apply Kd.V_drewN | apply Kd.V_drew)); exact HO_0.out⟩, ⟨by (with_reducible repeat (first | apply Kd.V_alloc | apply Kd.V_drewN | apply Kd.V_drew)); exact HO_1.out⟩, ⟨by (with_reducible repeat (first | apply Kd.R_alloc | apply Kd.R_drewN | apply Kd.R_drew)); exact HO688.out⟩, ⟨by (with_reducible repeat (first | apply Kd.V_alloc | apply Kd.V_drewN | apply Kd.V_drew)); exact HO_6.out⟩, ⟨by repeat (first | (with_reducible first | exact HB.out | apply wA | apply wN | apply w1) | exact HB.out)⟩⟩
               ·rw [if_neg c50] at H
                exact absurd H (by simp)
              ·rw [if_neg c49] at H
               exact absurd H (by simp)
             ·rw [if_neg c48] at H
              exact absurd H (by simp)
            ·rw [if_neg c47] at H
             exact absurd H (by simp)
           ·rw [if_neg c46] at H
            exact absurd H (by simp)
          ·rw [if_neg c45] at H
           exact absurd H (by simp)
    ·rw [if_neg c11] at H
     exact absurd H (by simp)
   ·rw [if_neg c10] at H
    have c10b0 : decide (x7_1 < (t656.length : Int)) = false := decide_eq_false c10
    clear c10
    obtain rfl := Option.some.inj H
    obtain ⟨Ao53, co53, eo53⟩ := Kd.V_slice HO_6.out
    subst eo53
    go_wp2
    go_ret
    exact ⟨_, by first | rfl | (simp [errW_none, errW_some] <;> rfl) | (simp [*, errW_none, errW_some] <;> rfl), by (with_reducible repeat (first | apply Kd.R_alloc | apply Kd.R_drewN | apply Kd.R_drew)); exact HO_5.out, by repeat (first | (with_reducible first | exact HB.out | apply wA | apply wN | apply w1) | exact HB.out)⟩
end Go.Proofs.Ytebejadiaooooaa.P
end
