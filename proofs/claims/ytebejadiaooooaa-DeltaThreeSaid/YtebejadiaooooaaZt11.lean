/- Texts of one claim (laid by shake.py). -/
import Derived.Test.YtebejadiaooooaaZt4
import Derived.Test.YtebejadiaooooaaZt5
import Derived.Test.YtebejadiaooooaaZt10
set_option linter.unusedVariables false
set_option linter.unusedSimpArgs false
section
namespace Go.Proofs.Ytebejadiaooooaa.P
open Go.RowKit Go.Proofs.YtebejadiaooooaaW.PrintWords Go.Proofs.YtebejadiaooooaaW.PrintLast Go.Proofs.YtebejadiaooooaaW.PrintMore Go.Proofs.Ytebejadiaooooaa.Own
open Go.Proofs.YtebejadiaooooaaW.PrintWords renaming pw_below_drewN → wN, below_drew1 → w1, below_alloc → wA, below_step → wT, below_size → wZ
open List renaming setIfInBounds_toArray → sA1, set_cons_zero → sA2, set_cons_succ → sA3, map_toArray → mA1, map_cons → mA2, map_nil → mA3, length_take → mA4, length_drop → mA5
attribute [local go_sem] max2_str max2_int min2_int max_two min_two max_three min_three max_four min_four   -- for this text's walks alone
mutual
def catchmentref37_Three.l0 : Nat → List (S39) → List (S39) → List (S39) → List (S39) → List ByteArray → List ByteArray → Int → Option ((List (S39)) × List ByteArray)
 | 0, _, _, _, _, _, _, _ => none
 | k + 1, x0, x1, x2, x8, x9, x10, x11 => if x11 < (x10.length : Int) then (if 0 ≤ x11 then ((catchmentref37_same.f k x1 x0 (rdOf ByteArray.empty x10 x11)).bind fun t761 => (if t761 = true then ((catchmentref05_Find.f k x2 (rdOf ByteArray.empty x10 x11)).bind fun bt763 => (if bt763.2 = true then (if x8.length < 4398046511104 then (catchmentref37_Three.l0 k x0 x1 x2 (x8 ++ [(⟨rdOf ByteArray.empty x10 x11, bt763.1⟩ : S39)]) x9 x10 (wrap64 (x11 + 1))) else (none)) else (catchmentref37_Three.l0 k x0 x1 x2 x8 x9 x10 (wrap64 (x11 + 1))))) else ((catchmentref37_same.f k x2 x0 (rdOf ByteArray.empty x10 x11)).bind fun t770 => (if t770 = true then (catchmentref37_Three.j1 k x0 x1 x2 x8 x9 x10 x11 x1 false) else ((catchmentref37_same.f k x1 x2 (rdOf ByteArray.empty x10 x11)).bind fun t772 => (catchmentref37_Three.j1 k x0 x1 x2 x8 x9 x10 x11 x1 (!t772))))))) else (none)) else (some (x8, x9))
def catchmentref37_Three.j1 : Nat → List (S39) → List (S39) → List (S39) → List (S39) → List ByteArray → List ByteArray → Int → List (S39) → Bool → Option ((List (S39)) × List ByteArray)
 | 0, _, _, _, _, _, _, _, _, _ => none
 | k + 1, x0, x1, x2, x8, x9, x10, x11, x12, x54 => if x54 = true then (if 0 ≤ x11 then (if x11 < (x10.length : Int) then (if x9.length < 8796093022208 then ((some (x9 ++ [rdOf ByteArray.empty x10 x11] : List ByteArray)).bind fun y774 => ((catchmentref05_Find.f k x12 (rdOf ByteArray.empty x10 x11)).bind fun bt778 => (if bt778.2 = true then (if x8.length < 4398046511104 then (catchmentref37_Three.l0 k x0 x1 x2 (x8 ++ [(⟨rdOf ByteArray.empty x10 x11, bt778.1⟩ : S39)]) y774 x10 (wrap64 (x11 + 1))) else (none)) else (catchmentref37_Three.l0 k x0 x1 x2 x8 y774 x10 (wrap64 (x11 + 1)))))) else (none)) else (none)) else (none)) else (if 0 ≤ x11 then (if x11 < (x10.length : Int) then ((catchmentref05_Find.f k x12 (rdOf ByteArray.empty x10 x11)).bind fun bt785 => (if bt785.2 = true then (if x8.length < 4398046511104 then (catchmentref37_Three.l0 k x0 x1 x2 (x8 ++ [(⟨rdOf ByteArray.empty x10 x11, bt785.1⟩ : S39)]) x9 x10 (wrap64 (x11 + 1))) else (none)) else (catchmentref37_Three.l0 k x0 x1 x2 x8 x9 x10 (wrap64 (x11 + 1))))) else (none)) else (none))
end
def catchmentref37_Three.f (k : Nat) (l0 : List (S39)) (l1 : List (S39)) (l2 : List (S39)) : Option ((List (S39)) × List ByteArray) := (catchmentref37_keys.f k (([l0, l1, l2] : List (List (S39))))).bind fun t757 => (catchmentref37_Three.l0 k l0 l1 l2 (([] : List (S39))) (([] : List ByteArray)) t757 0)
set_option maxHeartbeats 8000000 in
set_option maxRecDepth 100000 in
theorem catchmentref37_Three.calls (k : Nat) (P0_ : Nat → Prop) (A0 : Option Addr) (c0 : Nat) (l0 : List (S39)) (P1_ : Nat → Prop) (A1 : Option Addr) (c1 : Nat) (l1 : List (S39)) (P2_ : Nat → Prop) (A2 : Option Addr) (c2 : Nat) (l2 : List (S39)) (r1 : List (S39)) (r2 : List ByteArray) (w : World) (hs0 : Kd.V k39 39 w w.heap.size (fun k_ => P0_ k_) (.slice A0 l0.length c0) l0) (hs1 : Kd.V k39 39 w w.heap.size (fun k_ => P1_ k_) (.slice A1 l1.length c1) l1) (hs2 : Kd.V k39 39 w w.heap.size (fun k_ => P2_ k_) (.slice A2 l2.length c2) l2) (h : catchmentref37_Three.f k l0 l1 l2 = some (r1, r2)) :
  Calls Try.prog 47 #[.slice A0 l0.length c0, .slice A1 l1.length c1, .slice A2 l2.length c2] w fun e w' => ∃ v0_ v1_ : Value, e = .returned (.tuple #[v0_, v1_]) ∧ Kd.R k39 39 w' w.heap.size (fun k_ => (w.heap.size ≤ k_)) v0_ r1 ∧ Kd.R Kd.string 9 w' w.heap.size (fun k_ => (w.heap.size ≤ k_)) v1_ r2 ∧ Below w.heap.size w w' := by
 have hu39 := Try.underlying39
 have HO0 := Aside0.mk (show Kd.V k39 39 w w.heap.size (fun k_ => ((P0_ k_ ∨ P1_ k_ ∨ P2_ k_) ∨ w.heap.size ≤ k_)) (.slice A0 l0.length c0) l0 from Kd.V_mono hs0 (fun k_ hk => .inl (.inl hk)))
 have HO1 := Aside0.mk (show Kd.V k39 39 w w.heap.size (fun k_ => ((P0_ k_ ∨ P1_ k_ ∨ P2_ k_) ∨ w.heap.size ≤ k_)) (.slice A1 l1.length c1) l1 from Kd.V_mono hs1 (fun k_ hk => .inl (.inr (.inl hk))))
 have HO2 := Aside0.mk (show Kd.V k39 39 w w.heap.size (fun k_ => ((P0_ k_ ∨ P1_ k_ ∨ P2_ k_) ∨ w.heap.size ≤ k_)) (.slice A2 l2.length c2) l2 from Kd.V_mono hs2 (fun k_ hk => .inl (.inr (.inr hk))))
 have HB := Aside0.mk (Below.refl w.heap.size w)
 have H : ((catchmentref37_keys.f k (([l0, l1, l2] : List (List (S39))))).bind fun t757 => (catchmentref37_Three.l0 k l0 l1 l2 (([] : List (S39))) (([] : List ByteArray)) t757 0)) = some (r1, r2) := h
 clear h
 obtain ⟨y748, hy748⟩ : ∃ y_ : List (S39), y_ = (([] : List (S39))) := ⟨_, rfl⟩
 replace H : ((catchmentref37_keys.f k (([l0, l1, l2] : List (List (S39))))).bind fun t757 => (catchmentref37_Three.l0 k l0 l1 l2 y748 (([] : List ByteArray)) t757 0)) = some (r1, r2) := by first | (rw [hy748]; with_reducible exact H) | (have H2_ := (Option.bind_some _ _).symm.trans H; rw [hy748]; with_reducible exact H2_) | (have H2_ := (Option.bind_some _ _).symm.trans H; with_reducible exact H2_) | with_reducible exact H | (rw [hy748]; exact H) | exact H
 have Ny748 := Aside0.mk hy748
 clear hy748
 obtain ⟨y751, hy751⟩ : ∃ y_ : List ByteArray, y_ = (([] : List ByteArray)) := ⟨_, rfl⟩
 replace H : ((catchmentref37_keys.f k (([l0, l1, l2] : List (List (S39))))).bind fun t757 => (catchmentref37_Three.l0 k l0 l1 l2 y748 y751 t757 0)) = some (r1, r2) := by first | (rw [hy751]; with_reducible exact H) | (have H2_ := (Option.bind_some _ _).symm.trans H; rw [hy751]; with_reducible exact H2_) | (have H2_ := (Option.bind_some _ _).symm.trans H; with_reducible exact H2_) | with_reducible exact H | (rw [hy751]; exact H) | exact H
 have Ny751 := Aside0.mk hy751
 clear hy751
 obtain ⟨y754, hy754⟩ : ∃ y_ : List (List (S39)), y_ = (([l0, l1, l2] : List (List (S39)))) := ⟨_, rfl⟩
 replace H : ((catchmentref37_keys.f k y754).bind fun t757 => (catchmentref37_Three.l0 k l0 l1 l2 y748 y751 t757 0)) = some (r1, r2) := by first | (rw [hy754]; with_reducible exact H) | (have H2_ := (Option.bind_some _ _).symm.trans H; rw [hy754]; with_reducible exact H2_) | (have H2_ := (Option.bind_some _ _).symm.trans H; with_reducible exact H2_) | with_reducible exact H | (rw [hy754]; exact H) | exact H
 have Ny754 := Aside0.mk hy754
 clear hy754
 replace H := Option.bind_eq_some_iff.mp H
 obtain ⟨t757, A40, H⟩ := H
 replace H : (catchmentref37_Three.l0 k l0 l1 l2 y748 y751 t757 0) = some (r1, r2) := H
 have A4 := Aside0.mk A40
 clear A40
 have H' := Aside0.mk H
 clear H
 go_enter Try.func47, Try.ntmps47
 go_wp2_with (first | ((with_reducible refine gate_dst (N := 15) rfl ?_); refine Kd.R_lit k39 _ 39 ?hg (N := 15) ?hd (xs := ([] : List (S39))) (inner := []) (ok := fun _ => True) (okp := fun _ => True) ?hr ?hp (fun _ hk => hk) trivial (Below.refl _ _) (Nat.le_refl _) (by simp) ?_; (case hd => rfl); (case hg => rfl); (case hr => first | (go_simp; done) | (go_simp; rfl)); (case hp => exact (Reps.none _ _)); intro v749 w5 ho6 hb hg_ hnew_; clear hg_ hnew_; (first | rw [← Ny748.out] at ho6 | (simp only [Int.reduceToNat] at ho6; rw [← Ny748.out] at ho6)); have n0_ := Aside0.mk (Kd.V_elder' (kV_ HO0.out) (Kd.R_base ho6) hb); have n1_ := Aside0.mk (Kd.V_elder' (kV_ HO1.out) (Kd.R_base ho6) hb); have n2_ := Aside0.mk (Kd.V_elder' (kV_ HO2.out) (Kd.R_base ho6) hb); have n3_ := Aside0.mk (Kd.R_lower (Kd.R_newM (M := fun k_ => (w.heap.size ≤ k_)) ho6 (wZ bW_) (fun k_ h_ => h_)) (wZ bW_)); have n4_ := Aside0.mk (wT bW_ hb); clear HO0; clear HO1; clear HO2; clear HB; have HO0 := n0_; have HO1 := n1_; have HO2 := n2_; have HO750 := n3_; have HB := n4_; clear n0_ n1_ n2_ n3_ n4_; clear hb ho6) | ((with_reducible refine gate_dst (N := 16) rfl ?_); refine Kd.R_lit Kd.string _ 9 ?hg (N := 16) ?hd (xs := ([] : List ByteArray)) (inner := []) (ok := fun _ => True) (okp := fun _ => True) ?hr ?hp (fun _ hk => hk) trivial (Below.refl _ _) (Nat.le_refl _) (by simp) ?_; (case hd => rfl); (case hg => rfl); (case hr => first | (go_simp; done) | (go_simp; rfl)); (case hp => exact (Reps.none _ _)); intro v752 w7 ho8 hb hg_ hnew_; clear hg_ hnew_; (first | rw [← Ny751.out] at ho8 | (simp only [Int.reduceToNat] at ho8; rw [← Ny751.out] at ho8)); have n0_ := Aside0.mk (Kd.V_elder' (kV_ HO0.out) (Kd.R_base ho8) hb); have n1_ := Aside0.mk (Kd.V_elder' (kV_ HO1.out) (Kd.R_base ho8) hb); have n2_ := Aside0.mk (Kd.V_elder' (kV_ HO2.out) (Kd.R_base ho8) hb); have n3_ := Aside0.mk (Kd.R_below (kR_ HO750.out) hb); have n4_ := Aside0.mk (Kd.R_lower (Kd.R_newM (M := fun k_ => (w.heap.size ≤ k_)) ho8 (wZ bW_) (fun k_ h_ => h_)) (wZ bW_)); have n5_ := Aside0.mk (wT bW_ hb); clear HO0; clear HO1; clear HO2; clear HO750; clear HB; have HO0 := n0_; have HO1 := n1_; have HO2 := n2_; have HO750 := n3_; have HO753 := n4_; have HB := n5_; clear n0_ n1_ n2_ n3_ n4_ n5_; clear hb ho8) | ((with_reducible refine gate_dst (N := 20) rfl ?_); refine Kd.N_lit (Kd.slice 39 k39) _ 23 ?hg (N' := 20) ?hd (xs := ([l0, l1, l2] : List (List (S39)))) (inner := [.slice A0 l0.length c0, .slice A1 l1.length c1, .slice A2 l2.length c2]) (ok := (fun k_ => ((P0_ k_ ∨ P1_ k_ ∨ P2_ k_) ∨ w.heap.size ≤ k_) ∧ some k_ ≠ (v749 : Value).ownBlock ∧ some k_ ≠ (v752 : Value).ownBlock)) (okp := (fun k_ => ((P0_ k_ ∨ P1_ k_ ∨ P2_ k_) ∨ w.heap.size ≤ k_) ∧ some k_ ≠ (v749 : Value).ownBlock ∧ some k_ ≠ (v752 : Value).ownBlock)) ?hr ?hp (fun _ hk => hk) ((show ∀ k_, w7.heap.size ≤ k_ → (fun k_ => ((P0_ k_ ∨ P1_ k_ ∨ P2_ k_) ∨ w.heap.size ≤ k_) ∧ some k_ ≠ (v749 : Value).ownBlock ∧ some k_ ≠ (v752 : Value).ownBlock) k_ from fun k_ hk => ⟨(.inr (Nat.le_trans (wZ bW_) hk)), Kd.fresh' (Kd.R_lt (kR_ HO750.out)) k_ hk, Kd.fresh' (Kd.R_lt (kR_ HO753.out)) k_ hk⟩) _ (Nat.le_refl _)) (Below.refl _ _) (Nat.le_refl _) (by simp) ?_; (case hd => rfl); (case hg => rfl); (case hr => first | (go_simp; done) | (go_simp; rfl)); (case hp => exact (Reps.one (show Kd.FK (Kd.slice 39 k39) _ _ l0 [.slice A0 l0.length c0] from (Kd.FK_slice_mk (Kd.V_reads' (Kd.V_mono (ok' := (fun k_ => ((P0_ k_ ∨ P1_ k_ ∨ P2_ k_) ∨ w.heap.size ≤ k_) ∧ some k_ ≠ (v749 : Value).ownBlock ∧ some k_ ≠ (v752 : Value).ownBlock)) (HO0.out) (fun k_ hk => ⟨hk.1.1, ⟨hk.1.2, hk.2⟩⟩))).2.1 (Kd.V_F (Kd.V_mono (ok' := (fun k_ => ((P0_ k_ ∨ P1_ k_ ∨ P2_ k_) ∨ w.heap.size ≤ k_) ∧ some k_ ≠ (v749 : Value).ownBlock ∧ some k_ ≠ (v752 : Value).ownBlock)) (HO0.out) (fun k_ hk => ⟨hk.1.1, ⟨hk.1.2, hk.2⟩⟩))))) (Reps.one (show Kd.FK (Kd.slice 39 k39) _ _ l1 [.slice A1 l1.length c1] from (Kd.FK_slice_mk (Kd.V_reads' (Kd.V_mono (ok' := (fun k_ => ((P0_ k_ ∨ P1_ k_ ∨ P2_ k_) ∨ w.heap.size ≤ k_) ∧ some k_ ≠ (v749 : Value).ownBlock ∧ some k_ ≠ (v752 : Value).ownBlock)) (HO1.out) (fun k_ hk => ⟨hk.1.1, ⟨hk.1.2, hk.2⟩⟩))).2.1 (Kd.V_F (Kd.V_mono (ok' := (fun k_ => ((P0_ k_ ∨ P1_ k_ ∨ P2_ k_) ∨ w.heap.size ≤ k_) ∧ some k_ ≠ (v749 : Value).ownBlock ∧ some k_ ≠ (v752 : Value).ownBlock)) (HO1.out) (fun k_ hk => ⟨hk.1.1, ⟨hk.1.2, hk.2⟩⟩))))) (Reps.one (show Kd.FK (Kd.slice 39 k39) _ _ l2 [.slice A2 l2.length c2] from (Kd.FK_slice_mk (Kd.V_reads' (Kd.V_mono (ok' := (fun k_ => ((P0_ k_ ∨ P1_ k_ ∨ P2_ k_) ∨ w.heap.size ≤ k_) ∧ some k_ ≠ (v749 : Value).ownBlock ∧ some k_ ≠ (v752 : Value).ownBlock)) (HO2.out) (fun k_ hk => ⟨hk.1.1, ⟨hk.1.2, hk.2⟩⟩))).2.1 (Kd.V_F (Kd.V_mono (ok' := (fun k_ => ((P0_ k_ ∨ P1_ k_ ∨ P2_ k_) ∨ w.heap.size ≤ k_) ∧ some k_ ≠ (v749 : Value).ownBlock ∧ some k_ ≠ (v752 : Value).ownBlock)) (HO2.out) (fun k_ hk => ⟨hk.1.1, ⟨hk.1.2, hk.2⟩⟩))))) (Reps.none _ _))))); intro v755 w9 ho10 hb hg_ hnew_; clear hg_ hnew_; (first | rw [← Ny754.out] at ho10 | (simp only [Int.reduceToNat] at ho10; rw [← Ny754.out] at ho10)); have n0_ := Aside0.mk (Kd.V_elder' (kV_ HO0.out) (Kd.N_base ho10) hb); have n1_ := Aside0.mk (Kd.V_elder' (kV_ HO1.out) (Kd.N_base ho10) hb); have n2_ := Aside0.mk (Kd.V_elder' (kV_ HO2.out) (Kd.N_base ho10) hb); have n3_ := Aside0.mk (Kd.R_below (kR_ HO750.out) hb); have n4_ := Aside0.mk (Kd.R_below (kR_ HO753.out) hb); have n5_ := Aside0.mk (Kd.N_lower ho10 (wZ bW_)); have n6_ := Aside0.mk (wT bW_ hb); clear HO0; clear HO1; clear HO2; clear HO750; clear HO753; clear HB; have HO0 := n0_; have HO1 := n1_; have HO2 := n2_; have HO750 := n3_; have HO753 := n4_; have HO756 := n5_; have HB := n6_; clear n0_ n1_ n2_ n3_ n4_ n5_ n6_; clear hb ho10; obtain ⟨Ao11, co11, eo11⟩ := Kd.N_slice HO756.out; subst eo11) | ((with_reducible refine gate_callee (f := 79) rfl ?_); refine goesL_ (some 21) rfl rfl Try.func79 (by kernel_rfl) rfl #[.slice Ao11 y754.length co11] rfl mS_ ?_; (with_reducible refine (catchmentref37_keys.calls k _ _ y754 t757 _ ?side1 ?side2 A4.out).mono ?_); (case side1 => repeat (first | exact (Kd.N_reads' HO756.out).2.2 | (with_reducible refine Kd.C_alloc ?_ _) | (with_reducible refine Kd.C_drewN ?_ _) | (with_reducible refine Kd.C_drew ?_))); (case side2 => exact (Kd.N_reads' HO756.out).2.1); rintro e w12 ⟨v758, rfl, ho0, hb⟩; refine ⟨_, rfl, ?_⟩; have n0_ := Aside0.mk (Kd.V_below (kV_ HO0.out) hb); have n1_ := Aside0.mk (Kd.V_below (kV_ HO1.out) hb); have n2_ := Aside0.mk (Kd.V_below (kV_ HO2.out) hb); have n3_ := Aside0.mk (Kd.R_below (kR_ HO750.out) hb); have n4_ := Aside0.mk (Kd.R_below (kR_ HO753.out) hb); have n5_ := Aside0.mk (Kd.N_below (by (with_reducible repeat (first | apply Kd.N_alloc | apply Kd.N_drewN | apply Kd.N_drew)); exact HO756.out) hb); have n6_ := Aside0.mk (Kd.V_lower (Kd.V_mono (ok' := fun k_ => ((P0_ k_ ∨ P1_ k_ ∨ P2_ k_) ∨ w.heap.size ≤ k_) ∧ some k_ ≠ (v749 : Value).ownBlock ∧ some k_ ≠ (v752 : Value).ownBlock ∧ some k_ ≠ (.slice Ao11 y754.length co11 : Value).ownBlock) ho0 (fun k_ hk_ => ⟨(.inr (Nat.le_trans (wZ bW_) hk_)), (Kd.fresh' (Kd.R_lt (kR_ HO750.out)) k_ hk_), (Kd.fresh' (Kd.R_lt (kR_ HO753.out)) k_ hk_), (Kd.fresh' (Kd.N_lt (by (with_reducible repeat (first | apply Kd.N_alloc | apply Kd.N_drewN | apply Kd.N_drew)); exact HO756.out)) k_ hk_)⟩)) (wZ bW_)); have n7_ := Aside0.mk (wT bW_ hb); clear HO0; clear HO1; clear HO2; clear HO750; clear HO753; clear HO756; clear HB; have HO0 := n0_; have HO1 := n1_; have HO2 := n2_; have HO750 := n3_; have HO753 := n4_; have HO756 := n5_; have HO759 := n6_; have HB := n7_; clear n0_ n1_ n2_ n3_ n4_ n5_ n6_ n7_; (try clear hb); (try clear hb2); (try clear hk); (try clear hi); (try clear ho0)))
 go_loopg [8, 9, 11] k (fun kq v8 v9 v11 w' => ∃ (x8_1 : List (S39)) (x9_1 : List ByteArray) (x11_1 : Int), v11 = .int .i64 x11_1 ∧ Aside0 (catchmentref37_Three.l0 kq l0 l1 l2 x8_1 x9_1 t757 x11_1 = some (r1, r2)) ∧ Aside0 (kq ≤ k) ∧ Aside0 (Kd.V k39 39 w' w.heap.size (fun k_ => ((P0_ k_ ∨ P1_ k_ ∨ P2_ k_) ∨ w.heap.size ≤ k_) ∧ some k_ ≠ (v8 : Value).ownBlock ∧ some k_ ≠ (v9 : Value).ownBlock) (.slice A0 l0.length c0) l0) ∧ Aside0 (Kd.V k39 39 w' w.heap.size (fun k_ => ((P0_ k_ ∨ P1_ k_ ∨ P2_ k_) ∨ w.heap.size ≤ k_) ∧ some k_ ≠ (v8 : Value).ownBlock ∧ some k_ ≠ (v9 : Value).ownBlock) (.slice A1 l1.length c1) l1) ∧ Aside0 (Kd.V k39 39 w' w.heap.size (fun k_ => ((P0_ k_ ∨ P1_ k_ ∨ P2_ k_) ∨ w.heap.size ≤ k_) ∧ some k_ ≠ (v8 : Value).ownBlock ∧ some k_ ≠ (v9 : Value).ownBlock) (.slice A2 l2.length c2) l2) ∧ Aside0 (Kd.R k39 39 w' w.heap.size (fun k_ => (w.heap.size ≤ k_)) v8 x8_1) ∧ Aside0 (Kd.R Kd.string 9 w' w.heap.size (fun k_ => (w.heap.size ≤ k_)) v9 x9_1) ∧ Aside0 (Kd.V Kd.string 9 w' w.heap.size (fun k_ => ((P0_ k_ ∨ P1_ k_ ∨ P2_ k_) ∨ w.heap.size ≤ k_) ∧ some k_ ≠ (v8 : Value).ownBlock ∧ some k_ ≠ (v9 : Value).ownBlock) v758 t757) ∧ Aside0 (Below w.heap.size w w'))
 case atStart => exact ⟨(y748), (y751), (0), (by first | rfl | (simp; done) | (simp [*]; done)), H', ⟨Nat.le_refl _⟩, ⟨by (with_reducible repeat (first | apply Kd.V_alloc | apply Kd.V_drewN | apply Kd.V_drew)); exact Kd.V_mono HO0.out (fun _ hk => ⟨hk.1.1.1, ⟨hk.1.1.2, hk.1.2⟩⟩)⟩, ⟨by (with_reducible repeat (first | apply Kd.V_alloc | apply Kd.V_drewN | apply Kd.V_drew)); exact Kd.V_mono HO1.out (fun _ hk => ⟨hk.1.1.1, ⟨hk.1.1.2, hk.1.2⟩⟩)⟩, ⟨by (with_reducible repeat (first | apply Kd.V_alloc | apply Kd.V_drewN | apply Kd.V_drew)); exact Kd.V_mono HO2.out (fun _ hk => ⟨hk.1.1.1, ⟨hk.1.1.2, hk.1.2⟩⟩)⟩, ⟨by (with_reducible repeat (first | apply Kd.R_alloc | apply Kd.R_drewN | apply Kd.R_drew)); exact Kd.R_mono HO750.out (fun _ hk => hk.1)⟩, ⟨by (with_reducible repeat (first | apply Kd.R_alloc | apply Kd.R_drewN | apply Kd.R_drew)); exact Kd.R_mono HO753.out (fun _ hk => hk.1)⟩, ⟨by (with_reducible repeat (first | apply Kd.V_alloc | apply Kd.V_drewN | apply Kd.V_drew)); exact Kd.V_mono HO759.out (fun _ hk => ⟨hk.1, ⟨hk.2.1, hk.2.2.1⟩⟩)⟩, ⟨by repeat (first | (with_reducible first | exact HB.out | apply wA | apply wN | apply w1) | exact HB.out)⟩⟩
 case round =>
  clear H'
  try clear c1
  try clear c2
  try clear p2
  try clear c4
  try clear c7
  obtain ⟨x8_1, x9_1, x11_1, rfl, HA, HK1, HO_0, HO_1, HO_2, HO_8, HO_9, HO_10, HB⟩ := hrel
  cases gk with
  | zero => exact absurd HA.out (by simp [catchmentref37_Three.l0])
  | succ k1 =>
   have H := HA.out
   clear HA
   simp only [catchmentref37_Three.l0] at H
   by_cases c13 : x11_1 < (t757.length : Int)
   ·rw [if_pos c13] at H
    have c13b0 : decide (x11_1 < (t757.length : Int)) = true := decide_eq_true c13
    clear c13
    by_cases c14 : 0 ≤ x11_1
    ·rw [if_pos c14] at H
     have c14b0 : decide (0 ≤ x11_1) = true := decide_eq_true c14
     clear c14
     replace H := Option.bind_eq_some_iff.mp H
     obtain ⟨t761, A150, H⟩ := H
     replace H : (if t761 = true then ((catchmentref05_Find.f k1 l2 (rdOf ByteArray.empty t757 x11_1)).bind fun bt763 => (if bt763.2 = true then (if x8_1.length < 4398046511104 then (catchmentref37_Three.l0 k1 l0 l1 l2 (x8_1 ++ [(⟨rdOf ByteArray.empty t757 x11_1, bt763.1⟩ : S39)]) x9_1 t757 (wrap64 (x11_1 + 1))) else (none)) else (catchmentref37_Three.l0 k1 l0 l1 l2 x8_1 x9_1 t757 (wrap64 (x11_1 + 1))))) else ((catchmentref37_same.f k1 l2 l0 (rdOf ByteArray.empty t757 x11_1)).bind fun t770 => (if t770 = true then (catchmentref37_Three.j1 k1 l0 l1 l2 x8_1 x9_1 t757 x11_1 l1 false) else ((catchmentref37_same.f k1 l1 l2 (rdOf ByteArray.empty t757 x11_1)).bind fun t772 => (catchmentref37_Three.j1 k1 l0 l1 l2 x8_1 x9_1 t757 x11_1 l1 (!t772)))))) = some (r1, r2) := H
     have A15 := Aside0.mk A150
     clear A150
     by_cases c16 : t761 = true
     ·subst c16
      have H1 : ((catchmentref05_Find.f k1 l2 (rdOf ByteArray.empty t757 x11_1)).bind fun bt763 => (if bt763.2 = true then (if x8_1.length < 4398046511104 then (catchmentref37_Three.l0 k1 l0 l1 l2 (x8_1 ++ [(⟨rdOf ByteArray.empty t757 x11_1, bt763.1⟩ : S39)]) x9_1 t757 (wrap64 (x11_1 + 1))) else (none)) else (catchmentref37_Three.l0 k1 l0 l1 l2 x8_1 x9_1 t757 (wrap64 (x11_1 + 1))))) = some (r1, r2) := by rw [if_pos rfl] at H; exact H
      clear H
      have H := H1
      clear H1
      replace H := Option.bind_eq_some_iff.mp H
      obtain ⟨⟨t763, t764⟩, A170, H⟩ := H
      replace H : (if t764 = true then (if x8_1.length < 4398046511104 then (catchmentref37_Three.l0 k1 l0 l1 l2 (x8_1 ++ [(⟨rdOf ByteArray.empty t757 x11_1, t763⟩ : S39)]) x9_1 t757 (wrap64 (x11_1 + 1))) else (none)) else (catchmentref37_Three.l0 k1 l0 l1 l2 x8_1 x9_1 t757 (wrap64 (x11_1 + 1)))) = some (r1, r2) := H
      have A17 := Aside0.mk A170
      clear A170
      by_cases c18 : t764 = true
      ·subst c18
       have H1 : (if x8_1.length < 4398046511104 then (catchmentref37_Three.l0 k1 l0 l1 l2 (x8_1 ++ [(⟨rdOf ByteArray.empty t757 x11_1, t763⟩ : S39)]) x9_1 t757 (wrap64 (x11_1 + 1))) else (none)) = some (r1, r2) := by rw [if_pos rfl] at H; exact H
       clear H
       have H := H1
       clear H1
       by_cases c19 : x8_1.length < 4398046511104
       ·rw [if_pos c19] at H
        have LMc19 := Aside0.mk c19
        clear c19
        obtain ⟨y766, hy766⟩ : ∃ y_ : List (S39), y_ = (x8_1 ++ [(⟨rdOf ByteArray.empty t757 x11_1, t763⟩ : S39)]) := ⟨_, rfl⟩
        replace H : (catchmentref37_Three.l0 k1 l0 l1 l2 y766 x9_1 t757 (wrap64 (x11_1 + 1))) = some (r1, r2) := by first | (rw [hy766]; with_reducible exact H) | (have H2_ := (Option.bind_some _ _).symm.trans H; rw [hy766]; with_reducible exact H2_) | (have H2_ := (Option.bind_some _ _).symm.trans H; with_reducible exact H2_) | with_reducible exact H | (rw [hy766]; exact H) | exact H
        have Ny766 := Aside0.mk hy766
        clear hy766
        have H' := Aside0.mk H
        clear H
        obtain ⟨Ao20, co20, eo20⟩ := Kd.V_slice HO_10.out
        subst eo20
        have p760 : 0 ≤ (x11_1 : Int) := of_decide_eq_true (by first | (with_reducible assumption) | assumption)
        have q760 : x11_1 < (t757.length : Int) := of_decide_eq_true (by first | (with_reducible assumption) | assumption)
        obtain ⟨ad760, e760, hx760_0⟩ := Kd.at_string (Kd.V_reads' HO_10.out).2.2 x11_1 p760 q760
        cases e760
        replace p760 := eq_true p760
        replace q760 := eq_true q760
        go_wp2_with (first | ((with_reducible refine gate_callee (f := 80) rfl ?_); refine goesL_ (some 35) rfl rfl Try.func80 (by kernel_rfl) rfl #[.slice A1 l1.length c1, .slice A0 l0.length c0, .string (rdOf ByteArray.empty t757 x11_1)] rfl mS_ ?_; (with_reducible refine (catchmentref37_same.calls k1 _ _ l1 _ _ l0 (rdOf ByteArray.empty t757 x11_1) true _ ?side1 ?side2 ?side3 ?side4 A15.out).mono ?_); (case side1 => repeat (first | exact (Kd.V_reads' HO_1.out).2.2 | (with_reducible refine Kd.C_alloc ?_ _) | (with_reducible refine Kd.C_drewN ?_ _) | (with_reducible refine Kd.C_drew ?_))); (case side2 => exact (Kd.V_reads' HO_1.out).2.1); (case side3 => repeat (first | exact (Kd.V_reads' HO_0.out).2.2 | (with_reducible refine Kd.C_alloc ?_ _) | (with_reducible refine Kd.C_drewN ?_ _) | (with_reducible refine Kd.C_drew ?_))); (case side4 => exact (Kd.V_reads' HO_0.out).2.1); rintro e w' ⟨rfl, ⟨nd, rfl⟩⟩; refine ⟨_, rfl, ?_⟩; have p762 : 0 ≤ (x11_1 : Int) := of_decide_eq_true (by first | (with_reducible assumption) | assumption); have q762 : x11_1 < (t757.length : Int) := of_decide_eq_true (by first | (with_reducible assumption) | assumption); obtain ⟨ad762, e762, hx762_0⟩ := Kd.at_string (Kd.V_reads' HO_10.out).2.2 x11_1 p762 q762; obtain rfl : ad760 = ad762 := (by injection e762); replace p762 := eq_true p762; replace q762 := eq_true q762) | ((with_reducible refine gate_callee (f := 31) rfl ?_); refine goesL_ (some 68) rfl rfl Try.func31 (by kernel_rfl) rfl #[.slice A2 l2.length c2, .string (rdOf ByteArray.empty t757 x11_1)] rfl mS_ ?_; (with_reducible refine (catchmentref05_Find.calls k1 _ _ l2 (rdOf ByteArray.empty t757 x11_1) t763 true _ ?side1 ?side2 A17.out).mono ?_); (case side1 => repeat (first | exact (Kd.V_reads' HO_2.out).2.2 | (with_reducible refine Kd.C_alloc ?_ _) | (with_reducible refine Kd.C_drewN ?_ _) | (with_reducible refine Kd.C_drew ?_))); (case side2 => exact (Kd.V_reads' HO_2.out).2.1); rintro e w' ⟨rfl, ⟨nd, rfl⟩⟩; refine ⟨_, rfl, ?_⟩; have p765 : 0 ≤ (x11_1 : Int) := of_decide_eq_true (by first | (with_reducible assumption) | assumption); have q765 : x11_1 < (t757.length : Int) := of_decide_eq_true (by first | (with_reducible assumption) | assumption); obtain ⟨ad765, e765, hx765_0⟩ := Kd.at_string (Kd.V_reads' HO_10.out).2.2 x11_1 p765 q765; obtain rfl : ad760 = ad765 := (by injection e765); replace p765 := eq_true p765; replace q765 := eq_true q765) | ((with_reducible refine gate_builtin (b := .append) (xs := #[.tmp 72, .tmp 79]) rfl ?_); at_builtin; refine Kd.R_append k39 (w0 := w) w.heap.size rfl (.tmp 72) (.tmp 79) 23 39 (.agg #[(.string ⟨#[]⟩), (.string ⟨#[]⟩)]) 32 rfl Try.underlying23 info39 rfl (by decide) (by omega) u8 x8_1 (⟨rdOf ByteArray.empty t757 x11_1, t763⟩ : S39) [.string (rdOf ByteArray.empty t757 x11_1), .string t763] (fun k_ => (w.heap.size ≤ k_)) (fun _ => False) rfl rfl ?aP (fun _ hk => hk.elim) ?aF ?aO ?aB ?aS ?aL ?_; (case aP => exact k39_mkM _ _ _ (⟨rdOf ByteArray.empty t757 x11_1, t763⟩ : S39)); (case aB => exact bW_); (case aF => exact (fun k_ hk => (Nat.le_trans (wZ bW_) hk))); (case aO => exact (kR_ HO_8.out)); (case aS => exact (wZ bW_)); (case aL => have := LMc19.out; omega); intro v767 w21 ho hb hg hat; rw [← Ny766.out] at ho; have n0_ := Aside0.mk (Kd.V_afterv (ok := (fun k_ => ((P0_ k_ ∨ P1_ k_ ∨ P2_ k_) ∨ w.heap.size ≤ k_) ∧ some k_ ≠ (u9 : Value).ownBlock)) (by (with_reducible repeat (first | apply Kd.V_alloc | apply Kd.V_drewN | apply Kd.V_drew)); exact Kd.V_mono HO_0.out (fun _ hk => ⟨⟨hk.1, hk.2.2⟩, hk.2.1⟩)) hg hat); have n1_ := Aside0.mk (Kd.V_afterv (ok := (fun k_ => ((P0_ k_ ∨ P1_ k_ ∨ P2_ k_) ∨ w.heap.size ≤ k_) ∧ some k_ ≠ (u9 : Value).ownBlock)) (by (with_reducible repeat (first | apply Kd.V_alloc | apply Kd.V_drewN | apply Kd.V_drew)); exact Kd.V_mono HO_1.out (fun _ hk => ⟨⟨hk.1, hk.2.2⟩, hk.2.1⟩)) hg hat); have n2_ := Aside0.mk (Kd.V_afterv (ok := (fun k_ => ((P0_ k_ ∨ P1_ k_ ∨ P2_ k_) ∨ w.heap.size ≤ k_) ∧ some k_ ≠ (u9 : Value).ownBlock)) (by (with_reducible repeat (first | apply Kd.V_alloc | apply Kd.V_drewN | apply Kd.V_drew)); exact Kd.V_mono HO_2.out (fun _ hk => ⟨⟨hk.1, hk.2.2⟩, hk.2.1⟩)) hg hat); have n3_ := Aside0.mk (Kd.R_over' (kR_ HO_9.out) (Kd.R_typed (kR_ HO_8.out)) (by decide) hg); have n4_ := Aside0.mk (Kd.V_afterv (ok := (fun k_ => ((P0_ k_ ∨ P1_ k_ ∨ P2_ k_) ∨ w.heap.size ≤ k_) ∧ some k_ ≠ (u9 : Value).ownBlock)) (by (with_reducible repeat (first | apply Kd.V_alloc | apply Kd.V_drewN | apply Kd.V_drew)); exact Kd.V_mono HO_10.out (fun _ hk => ⟨⟨hk.1, hk.2.2⟩, hk.2.1⟩)) hg hat); have n5_ := Aside0.mk (hb); have n6_ := Aside0.mk (ho); clear HO_0; clear HO_1; clear HO_2; clear HO_9; clear HO_10; clear HB; clear HO_8; have HO_0 := n0_; have HO_1 := n1_; have HO_2 := n2_; have HO_9 := n3_; have HO_10 := n4_; have HB := n5_; have HO768 := n6_; clear n0_ n1_ n2_ n3_ n4_ n5_ n6_; clear ho hb hg hat))
        go_roundg k1
        case measure => have := HK1.out; omega
        case rel => exact ⟨(y766), (x9_1), (wrap64 (x11_1 + 1)), (by first | rfl | (simp; done) | (simp [*]; done)), H', ⟨by have := HK1.out; omega⟩, ⟨by (with_reducible repeat (first | apply Kd.V_alloc | apply Kd.V_drewN | apply Kd.V_drew)); exact Kd.V_mono HO_0.out (fun _ hk => ⟨hk.1.1, ⟨hk.2, hk.1.2⟩⟩)⟩, ⟨by (with_reducible repeat (first | apply Kd.V_alloc | apply Kd.V_drewN | apply Kd.V_drew)); exact Kd.V_mono HO_1.out (fun _ hk => ⟨hk.1.1, ⟨hk.2, hk.1.2⟩⟩)⟩, ⟨by (with_reducible repeat (first | apply Kd.V_alloc | apply Kd.V_drewN | apply Kd.V_drew)); exact Kd.V_mono HO_2.out (fun _ hk => ⟨hk.1.1, ⟨hk.2, hk.1.2⟩⟩)⟩, ⟨by (with_reducible repeat (first | apply Kd.R_alloc | apply Kd.R_drewN | apply Kd.R_drew)); exact HO768.out⟩, ⟨by (with_reducible repeat (first | apply Kd.R_alloc | apply Kd.R_drewN | apply Kd.R_drew)); exact HO_9.out⟩, ⟨by (with_reducible repeat (first | apply Kd.V_alloc | apply Kd.V_drewN | apply Kd.V_drew)); exact Kd.V_mono HO_10.out (fun _ hk => ⟨hk.1.1, ⟨hk.2, hk.1.2⟩⟩)⟩, ⟨by repeat (first | (with_reducible first | exact HB.out | apply wA | apply wN | apply w1) | exact HB.out)⟩⟩
       ·rw [if_neg c19] at H
        exact absurd H (by simp)
      ·replace c18 := Bool.eq_false_iff.mpr c18
       subst c18
       have H1 : (catchmentref37_Three.l0 k1 l0 l1 l2 x8_1 x9_1 t757 (wrap64 (x11_1 + 1))) = some (r1, r2) := by rw [if_neg (show ¬ (false = true) by decide)] at H; exact H
       clear H
       have H := H1
       clear H1
       have H' := Aside0.mk H
       clear H
       obtain ⟨Ao22, co22, eo22⟩ := Kd.V_slice HO_10.out
       subst eo22
       have p760 : 0 ≤ (x11_1 : Int) := of_decide_eq_true (by first | (with_reducible assumption) | assumption)
       have q760 : x11_1 < (t757.length : Int) := of_decide_eq_true (by first | (with_reducible assumption) | assumption)
       obtain ⟨ad760, e760, hx760_0⟩ := Kd.at_string (Kd.V_reads' HO_10.out).2.2 x11_1 p760 q760
       cases e760
       replace p760 := eq_true p760
       replace q760 := eq_true q760
       go_wp2_with (first | ((with_reducible refine gate_callee (f := 80) rfl ?_); refine goesL_ (some 35) rfl rfl Try.func80 (by kernel_rfl) rfl #[.slice A1 l1.length c1, .slice A0 l0.length c0, .string (rdOf ByteArray.empty t757 x11_1)] rfl mS_ ?_; (with_reducible refine (catchmentref37_same.calls k1 _ _ l1 _ _ l0 (rdOf ByteArray.empty t757 x11_1) true _ ?side1 ?side2 ?side3 ?side4 A15.out).mono ?_); (case side1 => repeat (first | exact (Kd.V_reads' HO_1.out).2.2 | (with_reducible refine Kd.C_alloc ?_ _) | (with_reducible refine Kd.C_drewN ?_ _) | (with_reducible refine Kd.C_drew ?_))); (case side2 => exact (Kd.V_reads' HO_1.out).2.1); (case side3 => repeat (first | exact (Kd.V_reads' HO_0.out).2.2 | (with_reducible refine Kd.C_alloc ?_ _) | (with_reducible refine Kd.C_drewN ?_ _) | (with_reducible refine Kd.C_drew ?_))); (case side4 => exact (Kd.V_reads' HO_0.out).2.1); rintro e w' ⟨rfl, ⟨nd, rfl⟩⟩; refine ⟨_, rfl, ?_⟩; have p762 : 0 ≤ (x11_1 : Int) := of_decide_eq_true (by first | (with_reducible assumption) | assumption); have q762 : x11_1 < (t757.length : Int) := of_decide_eq_true (by first | (with_reducible assumption) | assumption); obtain ⟨ad762, e762, hx762_0⟩ := Kd.at_string (Kd.V_reads' HO_10.out).2.2 x11_1 p762 q762; obtain rfl : ad760 = ad762 := (by injection e762); replace p762 := eq_true p762; replace q762 := eq_true q762) | ((with_reducible refine gate_callee (f := 31) rfl ?_); refine goesL_ (some 68) rfl rfl Try.func31 (by kernel_rfl) rfl #[.slice A2 l2.length c2, .string (rdOf ByteArray.empty t757 x11_1)] rfl mS_ ?_; (with_reducible refine (catchmentref05_Find.calls k1 _ _ l2 (rdOf ByteArray.empty t757 x11_1) t763 false _ ?side1 ?side2 A17.out).mono ?_); (case side1 => repeat (first | exact (Kd.V_reads' HO_2.out).2.2 | (with_reducible refine Kd.C_alloc ?_ _) | (with_reducible refine Kd.C_drewN ?_ _) | (with_reducible refine Kd.C_drew ?_))); (case side2 => exact (Kd.V_reads' HO_2.out).2.1); rintro e w' ⟨rfl, ⟨nd, rfl⟩⟩; refine ⟨_, rfl, ?_⟩))
       go_roundg k1
       case measure => have := HK1.out; omega
       case rel => exact ⟨(x8_1), (x9_1), (wrap64 (x11_1 + 1)), (by first | rfl | (simp; done) | (simp [*]; done)), H', ⟨by have := HK1.out; omega⟩, ⟨by (with_reducible repeat (first | apply Kd.V_alloc | apply Kd.V_drewN | apply Kd.V_drew)); exact HO_0.out⟩, ⟨by (with_reducible repeat (first | apply Kd.V_alloc | apply Kd.V_drewN | apply Kd.V_drew)); exact HO_1.out⟩, ⟨by (with_reducible repeat (first | apply Kd.V_alloc | apply Kd.V_drewN | apply Kd.V_drew)); exact HO_2.out⟩, ⟨by (with_reducible repeat (first | apply Kd.R_alloc | apply Kd.R_drewN | apply Kd.R_drew)); exact HO_8.out⟩, ⟨by (with_reducible repeat (first | apply Kd.R_alloc | apply Kd.R_drewN | apply Kd.R_drew)); exact HO_9.out⟩, ⟨by (with_reducible repeat (first | apply Kd.V_alloc | apply Kd.V_drewN | apply Kd.V_drew)); exact HO_10.out⟩, ⟨by repeat (first | (with_reducible first | exact HB.out | apply wA | apply wN | apply w1) | exact HB.out)⟩⟩
     ·replace c16 := Bool.eq_false_iff.mpr c16
      subst c16
      have H1 : ((catchmentref37_same.f k1 l2 l0 (rdOf ByteArray.empty t757 x11_1)).bind fun t770 => (if t770 = true then (catchmentref37_Three.j1 k1 l0 l1 l2 x8_1 x9_1 t757 x11_1 l1 false) else ((catchmentref37_same.f k1 l1 l2 (rdOf ByteArray.empty t757 x11_1)).bind fun t772 => (catchmentref37_Three.j1 k1 l0 l1 l2 x8_1 x9_1 t757 x11_1 l1 (!t772))))) = some (r1, r2) := by rw [if_neg (show ¬ (false = true) by decide)] at H; exact H
      clear H
      have H := H1
      clear H1
      have HC23 := Aside0.mk H
      clear H
      obtain ⟨Ao24, co24, eo24⟩ := Kd.V_slice HO_10.out
      subst eo24
      have p760 : 0 ≤ (x11_1 : Int) := of_decide_eq_true (by first | (with_reducible assumption) | assumption)
      have q760 : x11_1 < (t757.length : Int) := of_decide_eq_true (by first | (with_reducible assumption) | assumption)
      obtain ⟨ad760, e760, hx760_0⟩ := Kd.at_string (Kd.V_reads' HO_10.out).2.2 x11_1 p760 q760
      cases e760
      replace p760 := eq_true p760
      replace q760 := eq_true q760
      go_upto_region 10 with (first | ((with_reducible refine gate_callee (f := 80) rfl ?_); refine goesL_ (some 35) rfl rfl Try.func80 (by kernel_rfl) rfl #[.slice A1 l1.length c1, .slice A0 l0.length c0, .string (rdOf ByteArray.empty t757 x11_1)] rfl mS_ ?_; (with_reducible refine (catchmentref37_same.calls k1 _ _ l1 _ _ l0 (rdOf ByteArray.empty t757 x11_1) false _ ?side1 ?side2 ?side3 ?side4 A15.out).mono ?_); (case side1 => repeat (first | exact (Kd.V_reads' HO_1.out).2.2 | (with_reducible refine Kd.C_alloc ?_ _) | (with_reducible refine Kd.C_drewN ?_ _) | (with_reducible refine Kd.C_drew ?_))); (case side2 => exact (Kd.V_reads' HO_1.out).2.1); (case side3 => repeat (first | exact (Kd.V_reads' HO_0.out).2.2 | (with_reducible refine Kd.C_alloc ?_ _) | (with_reducible refine Kd.C_drewN ?_ _) | (with_reducible refine Kd.C_drew ?_))); (case side4 => exact (Kd.V_reads' HO_0.out).2.1); rintro e w' ⟨rfl, ⟨nd, rfl⟩⟩; refine ⟨_, rfl, ?_⟩))
      (try simp only [Act.put, sA1, sA2, sA3])
      go_cut [54] (fun v54 wc => ∃ (kq : Nat) (x54_22 : Bool), v54 = .bool x54_22 ∧ Aside0 (catchmentref37_Three.j1 kq l0 l1 l2 x8_1 x9_1 t757 x11_1 l1 x54_22 = some (r1, r2)) ∧ Aside0 (kq ≤ k1) ∧ Aside0 (Kd.V k39 39 wc w.heap.size (fun k_ => ((P0_ k_ ∨ P1_ k_ ∨ P2_ k_) ∨ w.heap.size ≤ k_) ∧ some k_ ≠ (u8 : Value).ownBlock ∧ some k_ ≠ (u9 : Value).ownBlock) (.slice A0 l0.length c0) l0) ∧ Aside0 (Kd.V k39 39 wc w.heap.size (fun k_ => ((P0_ k_ ∨ P1_ k_ ∨ P2_ k_) ∨ w.heap.size ≤ k_) ∧ some k_ ≠ (u8 : Value).ownBlock ∧ some k_ ≠ (u9 : Value).ownBlock) (.slice A1 l1.length c1) l1) ∧ Aside0 (Kd.V k39 39 wc w.heap.size (fun k_ => ((P0_ k_ ∨ P1_ k_ ∨ P2_ k_) ∨ w.heap.size ≤ k_) ∧ some k_ ≠ (u8 : Value).ownBlock ∧ some k_ ≠ (u9 : Value).ownBlock) (.slice A2 l2.length c2) l2) ∧ Aside0 (Kd.R k39 39 wc w.heap.size (fun k_ => (w.heap.size ≤ k_)) u8 x8_1) ∧ Aside0 (Kd.R Kd.string 9 wc w.heap.size (fun k_ => (w.heap.size ≤ k_)) u9 x9_1) ∧ Aside0 (Kd.V Kd.string 9 wc w.heap.size (fun k_ => ((P0_ k_ ∨ P1_ k_ ∨ P2_ k_) ∨ w.heap.size ≤ k_) ∧ some k_ ≠ (u8 : Value).ownBlock ∧ some k_ ≠ (u9 : Value).ownBlock) (.slice (some ad760) t757.length co24) t757) ∧ Aside0 (Kd.V k39 39 wc w.heap.size (fun k_ => ((P0_ k_ ∨ P1_ k_ ∨ P2_ k_) ∨ w.heap.size ≤ k_) ∧ some k_ ≠ (u8 : Value).ownBlock ∧ some k_ ≠ (u9 : Value).ownBlock) (.slice A1 l1.length c1) l1) ∧ Aside0 (Below w.heap.size w wc))
      case first =>
       have H := HC23.out
       clear HC23
       replace H := Option.bind_eq_some_iff.mp H
       obtain ⟨t770, A250, H⟩ := H
       replace H : (if t770 = true then (catchmentref37_Three.j1 k1 l0 l1 l2 x8_1 x9_1 t757 x11_1 l1 false) else ((catchmentref37_same.f k1 l1 l2 (rdOf ByteArray.empty t757 x11_1)).bind fun t772 => (catchmentref37_Three.j1 k1 l0 l1 l2 x8_1 x9_1 t757 x11_1 l1 (!t772)))) = some (r1, r2) := H
       have A25 := Aside0.mk A250
       clear A250
       by_cases c26 : t770 = true
       ·subst c26
        have H1 : (catchmentref37_Three.j1 k1 l0 l1 l2 x8_1 x9_1 t757 x11_1 l1 false) = some (r1, r2) := by rw [if_pos rfl] at H; exact H
        clear H
        have H := H1
        clear H1
        have H' := Aside0.mk H
        clear H
        have p769 : 0 ≤ (x11_1 : Int) := of_decide_eq_true (by first | (with_reducible assumption) | assumption)
        have q769 : x11_1 < (t757.length : Int) := of_decide_eq_true (by first | (with_reducible assumption) | assumption)
        obtain ⟨ad769, e769, hx769_0⟩ := Kd.at_string (Kd.V_reads' HO_10.out).2.2 x11_1 p769 q769
        obtain rfl : ad760 = ad769 := (by injection e769)
        replace p769 := eq_true p769
        replace q769 := eq_true q769
        go_wp2_with (first | ((with_reducible refine gate_callee (f := 80) rfl ?_); refine goesL_ (some 43) rfl rfl Try.func80 (by kernel_rfl) rfl #[.slice A2 l2.length c2, .slice A0 l0.length c0, .string (rdOf ByteArray.empty t757 x11_1)] rfl mS_ ?_; (with_reducible refine (catchmentref37_same.calls k1 _ _ l2 _ _ l0 (rdOf ByteArray.empty t757 x11_1) true _ ?side1 ?side2 ?side3 ?side4 A25.out).mono ?_); (case side1 => repeat (first | exact (Kd.V_reads' HO_2.out).2.2 | (with_reducible refine Kd.C_alloc ?_ _) | (with_reducible refine Kd.C_drewN ?_ _) | (with_reducible refine Kd.C_drew ?_))); (case side2 => exact (Kd.V_reads' HO_2.out).2.1); (case side3 => repeat (first | exact (Kd.V_reads' HO_0.out).2.2 | (with_reducible refine Kd.C_alloc ?_ _) | (with_reducible refine Kd.C_drewN ?_ _) | (with_reducible refine Kd.C_drew ?_))); (case side4 => exact (Kd.V_reads' HO_0.out).2.1); rintro e w' ⟨rfl, ⟨nd, rfl⟩⟩; refine ⟨_, rfl, ?_⟩))
        go_meet
        case rel => exact ⟨_, (false), (by first | rfl | (simp; done) | (simp [*]; done)), H', ⟨by have := HK1.out; first | omega | exact Nat.le_refl _⟩, ⟨by (with_reducible repeat (first | apply Kd.V_alloc | apply Kd.V_drewN | apply Kd.V_drew)); exact HO_0.out⟩, ⟨by (with_reducible repeat (first | apply Kd.V_alloc | apply Kd.V_drewN | apply Kd.V_drew)); exact HO_1.out⟩, ⟨by (with_reducible repeat (first | apply Kd.V_alloc | apply Kd.V_drewN | apply Kd.V_drew)); exact HO_2.out⟩, ⟨by (with_reducible repeat (first | apply Kd.R_alloc | apply Kd.R_drewN | apply Kd.R_drew)); exact HO_8.out⟩, ⟨by (with_reducible repeat (first | apply Kd.R_alloc | apply Kd.R_drewN | apply Kd.R_drew)); exact HO_9.out⟩, ⟨by (with_reducible repeat (first | apply Kd.V_alloc | apply Kd.V_drewN | apply Kd.V_drew)); exact HO_10.out⟩, ⟨by (with_reducible repeat (first | apply Kd.V_alloc | apply Kd.V_drewN | apply Kd.V_drew)); exact HO_1.out⟩, ⟨by repeat (first | (with_reducible first | exact HB.out | apply wA | apply wN | apply w1) | exact HB.out)⟩⟩
       ·replace c26 := Bool.eq_false_iff.mpr c26
        subst c26
        have H1 : ((catchmentref37_same.f k1 l1 l2 (rdOf ByteArray.empty t757 x11_1)).bind fun t772 => (catchmentref37_Three.j1 k1 l0 l1 l2 x8_1 x9_1 t757 x11_1 l1 (!t772))) = some (r1, r2) := by rw [if_neg (show ¬ (false = true) by decide)] at H; exact H
        clear H
        have H := H1
        clear H1
        replace H := Option.bind_eq_some_iff.mp H
        obtain ⟨t772, A270, H⟩ := H
        replace H : (catchmentref37_Three.j1 k1 l0 l1 l2 x8_1 x9_1 t757 x11_1 l1 (!t772)) = some (r1, r2) := H
        have A27 := Aside0.mk A270
        clear A270
        have H' := Aside0.mk H
        clear H
        have p769 : 0 ≤ (x11_1 : Int) := of_decide_eq_true (by first | (with_reducible assumption) | assumption)
        have q769 : x11_1 < (t757.length : Int) := of_decide_eq_true (by first | (with_reducible assumption) | assumption)
        obtain ⟨ad769, e769, hx769_0⟩ := Kd.at_string (Kd.V_reads' HO_10.out).2.2 x11_1 p769 q769
        obtain rfl : ad760 = ad769 := (by injection e769)
        replace p769 := eq_true p769
        replace q769 := eq_true q769
        go_wp2_with (first | ((with_reducible refine gate_callee (f := 80) rfl ?_); refine goesL_ (some 43) rfl rfl Try.func80 (by kernel_rfl) rfl #[.slice A2 l2.length c2, .slice A0 l0.length c0, .string (rdOf ByteArray.empty t757 x11_1)] rfl mS_ ?_; (with_reducible refine (catchmentref37_same.calls k1 _ _ l2 _ _ l0 (rdOf ByteArray.empty t757 x11_1) false _ ?side1 ?side2 ?side3 ?side4 A25.out).mono ?_); (case side1 => repeat (first | exact (Kd.V_reads' HO_2.out).2.2 | (with_reducible refine Kd.C_alloc ?_ _) | (with_reducible refine Kd.C_drewN ?_ _) | (with_reducible refine Kd.C_drew ?_))); (case side2 => exact (Kd.V_reads' HO_2.out).2.1); (case side3 => repeat (first | exact (Kd.V_reads' HO_0.out).2.2 | (with_reducible refine Kd.C_alloc ?_ _) | (with_reducible refine Kd.C_drewN ?_ _) | (with_reducible refine Kd.C_drew ?_))); (case side4 => exact (Kd.V_reads' HO_0.out).2.1); rintro e w' ⟨rfl, ⟨nd, rfl⟩⟩; refine ⟨_, rfl, ?_⟩; have p771 : 0 ≤ (x11_1 : Int) := of_decide_eq_true (by first | (with_reducible assumption) | assumption); have q771 : x11_1 < (t757.length : Int) := of_decide_eq_true (by first | (with_reducible assumption) | assumption); obtain ⟨ad771, e771, hx771_0⟩ := Kd.at_string (Kd.V_reads' HO_10.out).2.2 x11_1 p771 q771; obtain rfl : ad760 = ad771 := (by injection e771); replace p771 := eq_true p771; replace q771 := eq_true q771) | (go_at_call 80; (with_reducible refine (catchmentref37_same.calls k1 _ _ l1 _ _ l2 (rdOf ByteArray.empty t757 x11_1) t772 _ ?side1 ?side2 ?side3 ?side4 A27.out).mono ?_); (case side1 => repeat (first | exact (Kd.V_reads' HO_1.out).2.2 | (with_reducible refine Kd.C_alloc ?_ _) | (with_reducible refine Kd.C_drewN ?_ _) | (with_reducible refine Kd.C_drew ?_))); (case side2 => exact (Kd.V_reads' HO_1.out).2.1); (case side3 => repeat (first | exact (Kd.V_reads' HO_2.out).2.2 | (with_reducible refine Kd.C_alloc ?_ _) | (with_reducible refine Kd.C_drewN ?_ _) | (with_reducible refine Kd.C_drew ?_))); (case side4 => exact (Kd.V_reads' HO_2.out).2.1); rintro e w' ⟨rfl, ⟨nd, rfl⟩⟩))
        go_meet
        case rel => exact ⟨_, (!t772), (by first | rfl | (simp; done) | (simp [*]; done)), H', ⟨by have := HK1.out; first | omega | exact Nat.le_refl _⟩, ⟨by (with_reducible repeat (first | apply Kd.V_alloc | apply Kd.V_drewN | apply Kd.V_drew)); exact HO_0.out⟩, ⟨by (with_reducible repeat (first | apply Kd.V_alloc | apply Kd.V_drewN | apply Kd.V_drew)); exact HO_1.out⟩, ⟨by (with_reducible repeat (first | apply Kd.V_alloc | apply Kd.V_drewN | apply Kd.V_drew)); exact HO_2.out⟩, ⟨by (with_reducible repeat (first | apply Kd.R_alloc | apply Kd.R_drewN | apply Kd.R_drew)); exact HO_8.out⟩, ⟨by (with_reducible repeat (first | apply Kd.R_alloc | apply Kd.R_drewN | apply Kd.R_drew)); exact HO_9.out⟩, ⟨by (with_reducible repeat (first | apply Kd.V_alloc | apply Kd.V_drewN | apply Kd.V_drew)); exact HO_10.out⟩, ⟨by (with_reducible repeat (first | apply Kd.V_alloc | apply Kd.V_drewN | apply Kd.V_drew)); exact HO_1.out⟩, ⟨by repeat (first | (with_reducible first | exact HB.out | apply wA | apply wN | apply w1) | exact HB.out)⟩⟩
      case rest =>
       clear HC23
       try clear c1
       try clear c2
       try clear p2
       try clear c3
       try clear c4
       try clear p6
       try clear c7
       try clear p7
       try clear q7
       try clear hx7
       try clear c8
       try clear c13
       try clear c13b0
       try clear c14
       try clear c14b0
       try clear c16
       try clear c18
       try clear c19
       try clear c26
       try clear hx760_0
       try clear hx762_0
       try clear hx765_0
       try clear hx769_0
       try clear hx771_0
       try clear p2
       try clear p760
       try clear p762
       try clear p765
       try clear p769
       try clear p771
       try clear q760
       try clear q762
       try clear q765
       try clear q769
       try clear q771
       obtain ⟨kq, x54_22, rfl, HA, HJ22, HO_0, HO_1, HO_2, HO_8, HO_9, HO_10, HO_12, HB⟩ := hcut
       cases kq with
       | zero => exact absurd HA.out (by simp [catchmentref37_Three.j1])
       | succ kj22 =>
        have H := HA.out
        clear HA
        simp only [catchmentref37_Three.j1] at H
        by_cases c28 : x54_22 = true
        ·subst c28
         have H1 : (if 0 ≤ x11_1 then (if x11_1 < (t757.length : Int) then (if x9_1.length < 8796093022208 then ((some (x9_1 ++ [rdOf ByteArray.empty t757 x11_1] : List ByteArray)).bind fun y774 => ((catchmentref05_Find.f kj22 l1 (rdOf ByteArray.empty t757 x11_1)).bind fun bt778 => (if bt778.2 = true then (if x8_1.length < 4398046511104 then (catchmentref37_Three.l0 kj22 l0 l1 l2 (x8_1 ++ [(⟨rdOf ByteArray.empty t757 x11_1, bt778.1⟩ : S39)]) y774 t757 (wrap64 (x11_1 + 1))) else (none)) else (catchmentref37_Three.l0 kj22 l0 l1 l2 x8_1 y774 t757 (wrap64 (x11_1 + 1)))))) else (none)) else (none)) else (none)) = some (r1, r2) := by rw [if_pos rfl] at H; exact H
         clear H
         have H := H1
         clear H1
         by_cases c29 : 0 ≤ x11_1
         ·rw [if_pos c29] at H
          have c29b0 : decide (0 ≤ x11_1) = true := decide_eq_true c29
          clear c29
          by_cases c30 : x11_1 < (t757.length : Int)
          ·rw [if_pos c30] at H
           have c30b0 : decide (x11_1 < (t757.length : Int)) = true := decide_eq_true c30
           clear c30
           by_cases c31 : x9_1.length < 8796093022208
           ·rw [if_pos c31] at H
            have LMc31 := Aside0.mk c31
            clear c31
            obtain ⟨y774, hy774⟩ : ∃ y_ : List ByteArray, y_ = (x9_1 ++ [rdOf ByteArray.empty t757 x11_1]) := ⟨_, rfl⟩
            replace H : ((catchmentref05_Find.f kj22 l1 (rdOf ByteArray.empty t757 x11_1)).bind fun bt778 => (if bt778.2 = true then (if x8_1.length < 4398046511104 then (catchmentref37_Three.l0 kj22 l0 l1 l2 (x8_1 ++ [(⟨rdOf ByteArray.empty t757 x11_1, bt778.1⟩ : S39)]) y774 t757 (wrap64 (x11_1 + 1))) else (none)) else (catchmentref37_Three.l0 kj22 l0 l1 l2 x8_1 y774 t757 (wrap64 (x11_1 + 1))))) = some (r1, r2) := by first | (rw [hy774]; with_reducible exact H) | (have H2_ := (Option.bind_some _ _).symm.trans H; rw [hy774]; with_reducible exact H2_) | (have H2_ := (Option.bind_some _ _).symm.trans H; with_reducible exact H2_) | with_reducible exact H | (rw [hy774]; exact H) | exact H
            have Ny774 := Aside0.mk hy774
            clear hy774
            replace H := Option.bind_eq_some_iff.mp H
            obtain ⟨⟨t778, t779⟩, A320, H⟩ := H
            replace H : (if t779 = true then (if x8_1.length < 4398046511104 then (catchmentref37_Three.l0 kj22 l0 l1 l2 (x8_1 ++ [(⟨rdOf ByteArray.empty t757 x11_1, t778⟩ : S39)]) y774 t757 (wrap64 (x11_1 + 1))) else (none)) else (catchmentref37_Three.l0 kj22 l0 l1 l2 x8_1 y774 t757 (wrap64 (x11_1 + 1)))) = some (r1, r2) := H
            have A32 := Aside0.mk A320
            clear A320
            by_cases c33 : t779 = true
            ·subst c33
             have H1 : (if x8_1.length < 4398046511104 then (catchmentref37_Three.l0 kj22 l0 l1 l2 (x8_1 ++ [(⟨rdOf ByteArray.empty t757 x11_1, t778⟩ : S39)]) y774 t757 (wrap64 (x11_1 + 1))) else (none)) = some (r1, r2) := by rw [if_pos rfl] at H; exact H
             clear H
             have H := H1
             clear H1
             by_cases c34 : x8_1.length < 4398046511104
             ·rw [if_pos c34] at H
              have LMc34 := Aside0.mk c34
              clear c34
              obtain ⟨y781, hy781⟩ : ∃ y_ : List (S39), y_ = (x8_1 ++ [(⟨rdOf ByteArray.empty t757 x11_1, t778⟩ : S39)]) := ⟨_, rfl⟩
              replace H : (catchmentref37_Three.l0 kj22 l0 l1 l2 y781 y774 t757 (wrap64 (x11_1 + 1))) = some (r1, r2) := by first | (rw [hy781]; with_reducible exact H) | (have H2_ := (Option.bind_some _ _).symm.trans H; rw [hy781]; with_reducible exact H2_) | (have H2_ := (Option.bind_some _ _).symm.trans H; with_reducible exact H2_) | with_reducible exact H | (rw [hy781]; exact H) | exact H
              have Ny781 := Aside0.mk hy781
              clear hy781
              have H' := Aside0.mk H
              clear H
              have p773 : 0 ≤ (x11_1 : Int) := of_decide_eq_true (by first | (with_reducible assumption) | assumption)
              have q773 : x11_1 < (t757.length : Int) := of_decide_eq_true (by first | (with_reducible assumption) | assumption)
              obtain ⟨ad773, e773, hx773_0⟩ := Kd.at_string (Kd.V_reads' HO_10.out).2.2 x11_1 p773 q773
              obtain rfl : ad760 = ad773 := (by injection e773)
              replace p773 := eq_true p773
              replace q773 := eq_true q773
              go_wp2_with (first | ((with_reducible refine gate_builtin (b := .append) (xs := #[.tmp 55, .tmp 60]) rfl ?_); at_builtin; refine Kd.R_append Kd.string (w0 := w) w.heap.size rfl (.tmp 55) (.tmp 60) 24 9 (.string ⟨#[]⟩) 16 rfl Try.underlying24 info9 rfl (by decide) (by omega) u9 x9_1 (rdOf ByteArray.empty t757 x11_1) [.string (rdOf ByteArray.empty t757 x11_1)] (fun k_ => (w.heap.size ≤ k_)) (fun _ => False) rfl rfl ?aP (fun _ hk => hk.elim) ?aF ?aO ?aB ?aS ?aL ?_; (case aP => exact rfl); (case aB => exact bW_); (case aF => exact (fun k_ hk => (Nat.le_trans (wZ bW_) hk))); (case aO => exact (kR_ HO_9.out)); (case aS => exact (wZ bW_)); (case aL => have := LMc31.out; omega); intro v775 w35 ho hb hg hat; rw [← Ny774.out] at ho; have n0_ := Aside0.mk (Kd.V_afterv (ok := (fun k_ => ((P0_ k_ ∨ P1_ k_ ∨ P2_ k_) ∨ w.heap.size ≤ k_) ∧ some k_ ≠ (u8 : Value).ownBlock)) (by (with_reducible repeat (first | apply Kd.V_alloc | apply Kd.V_drewN | apply Kd.V_drew)); exact Kd.V_mono HO_0.out (fun _ hk => ⟨⟨hk.1, hk.2.1⟩, hk.2.2⟩)) hg hat); have n1_ := Aside0.mk (Kd.V_afterv (ok := (fun k_ => ((P0_ k_ ∨ P1_ k_ ∨ P2_ k_) ∨ w.heap.size ≤ k_) ∧ some k_ ≠ (u8 : Value).ownBlock)) (by (with_reducible repeat (first | apply Kd.V_alloc | apply Kd.V_drewN | apply Kd.V_drew)); exact Kd.V_mono HO_1.out (fun _ hk => ⟨⟨hk.1, hk.2.1⟩, hk.2.2⟩)) hg hat); have n2_ := Aside0.mk (Kd.V_afterv (ok := (fun k_ => ((P0_ k_ ∨ P1_ k_ ∨ P2_ k_) ∨ w.heap.size ≤ k_) ∧ some k_ ≠ (u8 : Value).ownBlock)) (by (with_reducible repeat (first | apply Kd.V_alloc | apply Kd.V_drewN | apply Kd.V_drew)); exact Kd.V_mono HO_2.out (fun _ hk => ⟨⟨hk.1, hk.2.1⟩, hk.2.2⟩)) hg hat); have n3_ := Aside0.mk (Kd.R_over' (kR_ HO_8.out) (Kd.R_typed (kR_ HO_9.out)) (by decide) hg); have n4_ := Aside0.mk (Kd.V_afterv (ok := (fun k_ => ((P0_ k_ ∨ P1_ k_ ∨ P2_ k_) ∨ w.heap.size ≤ k_) ∧ some k_ ≠ (u8 : Value).ownBlock)) (by (with_reducible repeat (first | apply Kd.V_alloc | apply Kd.V_drewN | apply Kd.V_drew)); exact Kd.V_mono HO_10.out (fun _ hk => ⟨⟨hk.1, hk.2.1⟩, hk.2.2⟩)) hg hat); have n5_ := Aside0.mk (Kd.V_afterv (ok := (fun k_ => ((P0_ k_ ∨ P1_ k_ ∨ P2_ k_) ∨ w.heap.size ≤ k_) ∧ some k_ ≠ (u8 : Value).ownBlock)) (by (with_reducible repeat (first | apply Kd.V_alloc | apply Kd.V_drewN | apply Kd.V_drew)); exact Kd.V_mono HO_12.out (fun _ hk => ⟨⟨hk.1, hk.2.1⟩, hk.2.2⟩)) hg hat); have n6_ := Aside0.mk (hb); have n7_ := Aside0.mk (ho); clear HO_0; clear HO_1; clear HO_2; clear HO_8; clear HO_10; clear HO_12; clear HB; clear HO_9; have HO_0 := n0_; have HO_1 := n1_; have HO_2 := n2_; have HO_8 := n3_; have HO_10 := n4_; have HO_12 := n5_; have HB := n6_; have HO776 := n7_; clear n0_ n1_ n2_ n3_ n4_ n5_ n6_ n7_; clear ho hb hg hat; have p777 : 0 ≤ (x11_1 : Int) := of_decide_eq_true (by first | (with_reducible assumption) | assumption); have q777 : x11_1 < (t757.length : Int) := of_decide_eq_true (by first | (with_reducible assumption) | assumption); obtain ⟨ad777, e777, hx777_0⟩ := Kd.at_string (Kd.V_reads' HO_10.out).2.2 x11_1 p777 q777; obtain rfl : ad760 = ad777 := (by injection e777); replace p777 := eq_true p777; replace q777 := eq_true q777) | ((with_reducible refine gate_callee (f := 31) rfl ?_); refine goesL_ (some 68) rfl rfl Try.func31 (by kernel_rfl) rfl #[.slice A1 l1.length c1, .string (rdOf ByteArray.empty t757 x11_1)] rfl mS_ ?_; (with_reducible refine (catchmentref05_Find.calls kj22 _ _ l1 (rdOf ByteArray.empty t757 x11_1) t778 true _ ?side1 ?side2 A32.out).mono ?_); (case side1 => repeat (first | exact (Kd.V_reads' HO_12.out).2.2 | (with_reducible refine Kd.C_alloc ?_ _) | (with_reducible refine Kd.C_drewN ?_ _) | (with_reducible refine Kd.C_drew ?_))); (case side2 => exact (Kd.V_reads' HO_12.out).2.1); rintro e w' ⟨rfl, ⟨nd, rfl⟩⟩; refine ⟨_, rfl, ?_⟩; have p780 : 0 ≤ (x11_1 : Int) := of_decide_eq_true (by first | (with_reducible assumption) | assumption); have q780 : x11_1 < (t757.length : Int) := of_decide_eq_true (by first | (with_reducible assumption) | assumption); obtain ⟨ad780, e780, hx780_0⟩ := Kd.at_string (Kd.V_reads' HO_10.out).2.2 x11_1 p780 q780; obtain rfl : ad760 = ad780 := (by injection e780); replace p780 := eq_true p780; replace q780 := eq_true q780) | ((with_reducible refine gate_builtin (b := .append) (xs := #[.tmp 72, .tmp 79]) rfl ?_); at_builtin; refine Kd.R_append k39 (w0 := w) w.heap.size rfl (.tmp 72) (.tmp 79) 23 39 (.agg #[(.string ⟨#[]⟩), (.string ⟨#[]⟩)]) 32 rfl Try.underlying23 info39 rfl (by decide) (by omega) u8 x8_1 (⟨rdOf ByteArray.empty t757 x11_1, t778⟩ : S39) [.string (rdOf ByteArray.empty t757 x11_1), .string t778] (fun k_ => (w.heap.size ≤ k_)) (fun _ => False) rfl rfl ?aP (fun _ hk => hk.elim) ?aF ?aO ?aB ?aS ?aL ?_; (case aP => exact k39_mkM _ _ _ (⟨rdOf ByteArray.empty t757 x11_1, t778⟩ : S39)); (case aB => exact bW_); (case aF => exact (fun k_ hk => (Nat.le_trans (wZ bW_) hk))); (case aO => exact (kR_ HO_8.out)); (case aS => exact (wZ bW_)); (case aL => have := LMc34.out; omega); intro v782 w36 ho hb hg hat; rw [← Ny781.out] at ho; have n0_ := Aside0.mk (Kd.V_afterv (ok := (fun k_ => ((P0_ k_ ∨ P1_ k_ ∨ P2_ k_) ∨ w.heap.size ≤ k_) ∧ some k_ ≠ (v775 : Value).ownBlock)) (by (with_reducible repeat (first | apply Kd.V_alloc | apply Kd.V_drewN | apply Kd.V_drew)); exact Kd.V_mono HO_0.out (fun _ hk => ⟨⟨hk.1.1, hk.2⟩, hk.1.2⟩)) hg hat); have n1_ := Aside0.mk (Kd.V_afterv (ok := (fun k_ => ((P0_ k_ ∨ P1_ k_ ∨ P2_ k_) ∨ w.heap.size ≤ k_) ∧ some k_ ≠ (v775 : Value).ownBlock)) (by (with_reducible repeat (first | apply Kd.V_alloc | apply Kd.V_drewN | apply Kd.V_drew)); exact Kd.V_mono HO_1.out (fun _ hk => ⟨⟨hk.1.1, hk.2⟩, hk.1.2⟩)) hg hat); have n2_ := Aside0.mk (Kd.V_afterv (ok := (fun k_ => ((P0_ k_ ∨ P1_ k_ ∨ P2_ k_) ∨ w.heap.size ≤ k_) ∧ some k_ ≠ (v775 : Value).ownBlock)) (by (with_reducible repeat (first | apply Kd.V_alloc | apply Kd.V_drewN | apply Kd.V_drew)); exact Kd.V_mono HO_2.out (fun _ hk => ⟨⟨hk.1.1, hk.2⟩, hk.1.2⟩)) hg hat); have n3_ := Aside0.mk (Kd.V_afterv (ok := (fun k_ => ((P0_ k_ ∨ P1_ k_ ∨ P2_ k_) ∨ w.heap.size ≤ k_) ∧ some k_ ≠ (v775 : Value).ownBlock)) (by (with_reducible repeat (first | apply Kd.V_alloc | apply Kd.V_drewN | apply Kd.V_drew)); exact Kd.V_mono HO_10.out (fun _ hk => ⟨⟨hk.1.1, hk.2⟩, hk.1.2⟩)) hg hat); have n4_ := Aside0.mk (Kd.V_afterv (ok := (fun k_ => ((P0_ k_ ∨ P1_ k_ ∨ P2_ k_) ∨ w.heap.size ≤ k_) ∧ some k_ ≠ (v775 : Value).ownBlock)) (by (with_reducible repeat (first | apply Kd.V_alloc | apply Kd.V_drewN | apply Kd.V_drew)); exact Kd.V_mono HO_12.out (fun _ hk => ⟨⟨hk.1.1, hk.2⟩, hk.1.2⟩)) hg hat); have n5_ := Aside0.mk (Kd.R_over' (kR_ HO776.out) (Kd.R_typed (kR_ HO_8.out)) (by decide) hg); have n6_ := Aside0.mk (hb); have n7_ := Aside0.mk (ho); clear HO_0; clear HO_1; clear HO_2; clear HO_10; clear HO_12; clear HO776; clear HB; clear HO_8; have HO_0 := n0_; have HO_1 := n1_; have HO_2 := n2_; have HO_10 := n3_; have HO_12 := n4_; have HO776 := n5_; have HB := n6_; have HO783 := n7_; clear n0_ n1_ n2_ n3_ n4_ n5_ n6_ n7_; clear ho hb hg hat))
              go_roundg kj22
              case measure => have := HK1.out; have := HJ22.out; omega
              case rel => exact ⟨(y781), (y774), (wrap64 (x11_1 + 1)), (by first | rfl | (simp; done) | (simp [*]; done)), H', ⟨by have := HK1.out; have := HJ22.out; omega⟩, ⟨by (with_reducible repeat (first | apply Kd.V_alloc | apply Kd.V_drewN | apply Kd.V_drew)); exact Kd.V_mono HO_0.out (fun _ hk => ⟨hk.1.1, ⟨hk.2, hk.1.2⟩⟩)⟩, ⟨by (with_reducible repeat (first | apply Kd.V_alloc | apply Kd.V_drewN | apply Kd.V_drew)); exact Kd.V_mono HO_1.out (fun _ hk => ⟨hk.1.1, ⟨hk.2, hk.1.2⟩⟩)⟩, ⟨by (with_reducible repeat (first | apply Kd.V_alloc | apply Kd.V_drewN | apply Kd.V_drew)); exact Kd.V_mono HO_2.out (fun _ hk => ⟨hk.1.1, ⟨hk.2, hk.1.2⟩⟩)⟩, ⟨by (with_reducible repeat (first | apply Kd.R_alloc | apply Kd.R_drewN | apply Kd.R_drew)); exact HO783.out⟩, ⟨by (with_reducible repeat (first | apply Kd.R_alloc | apply Kd.R_drewN | apply Kd.R_drew)); exact HO776.out⟩, ⟨by (with_reducible repeat (first | apply Kd.V_alloc | apply Kd.V_drewN | apply Kd.V_drew)); exact Kd.V_mono HO_10.out (fun _ hk => ⟨hk.1.1, ⟨hk.2, hk.1.2⟩⟩)⟩, ⟨by repeat (first | (with_reducible first | exact HB.out | apply wA | apply wN | apply w1) | exact HB.out)⟩⟩
             ·rw [if_neg c34] at H
              exact absurd H (by simp)
            ·replace c33 := Bool.eq_false_iff.mpr c33
             subst c33
             have H1 : (catchmentref37_Three.l0 kj22 l0 l1 l2 x8_1 y774 t757 (wrap64 (x11_1 + 1))) = some (r1, r2) := by rw [if_neg (show ¬ (false = true) by decide)] at H; exact H
             clear H
             have H := H1
             clear H1
             have H' := Aside0.mk H
             clear H
             have p773 : 0 ≤ (x11_1 : Int) := of_decide_eq_true (by first | (with_reducible assumption) | assumption)
             have q773 : x11_1 < (t757.length : Int) := of_decide_eq_true (by first | (with_reducible assumption) | assumption)
             obtain ⟨ad773, e773, hx773_0⟩ := Kd.at_string (Kd.V_reads' HO_10.out).2.2 x11_1 p773 q773
             obtain rfl : ad760 = ad773 := (by injection e773)
             replace p773 := eq_true p773
             replace q773 := eq_true q773
             go_wp2_with (first | ((with_reducible refine gate_builtin (b := .append) (xs := #[.tmp 55, .tmp 60]) rfl ?_); at_builtin; refine Kd.R_append Kd.string (w0 := w) w.heap.size rfl (.tmp 55) (.tmp 60) 24 9 (.string ⟨#[]⟩) 16 rfl Try.underlying24 info9 rfl (by decide) (by omega) u9 x9_1 (rdOf ByteArray.empty t757 x11_1) [.string (rdOf ByteArray.empty t757 x11_1)] (fun k_ => (w.heap.size ≤ k_)) (fun _ => False) rfl rfl ?aP (fun _ hk => hk.elim) ?aF ?aO ?aB ?aS ?aL ?_; (case aP => exact rfl); (case aB => exact bW_); (case aF => exact (fun k_ hk => (Nat.le_trans (wZ bW_) hk))); (case aO => exact (kR_ HO_9.out)); (case aS => exact (wZ bW_)); (case aL => have := LMc31.out; omega); intro v775 w37 ho hb hg hat; rw [← Ny774.out] at ho; have n0_ := Aside0.mk (Kd.V_afterv (ok := (fun k_ => ((P0_ k_ ∨ P1_ k_ ∨ P2_ k_) ∨ w.heap.size ≤ k_) ∧ some k_ ≠ (u8 : Value).ownBlock)) (by (with_reducible repeat (first | apply Kd.V_alloc | apply Kd.V_drewN | apply Kd.V_drew)); exact Kd.V_mono HO_0.out (fun _ hk => ⟨⟨hk.1, hk.2.1⟩, hk.2.2⟩)) hg hat); have n1_ := Aside0.mk (Kd.V_afterv (ok := (fun k_ => ((P0_ k_ ∨ P1_ k_ ∨ P2_ k_) ∨ w.heap.size ≤ k_) ∧ some k_ ≠ (u8 : Value).ownBlock)) (by (with_reducible repeat (first | apply Kd.V_alloc | apply Kd.V_drewN | apply Kd.V_drew)); exact Kd.V_mono HO_1.out (fun _ hk => ⟨⟨hk.1, hk.2.1⟩, hk.2.2⟩)) hg hat); have n2_ := Aside0.mk (Kd.V_afterv (ok := (fun k_ => ((P0_ k_ ∨ P1_ k_ ∨ P2_ k_) ∨ w.heap.size ≤ k_) ∧ some k_ ≠ (u8 : Value).ownBlock)) (by (with_reducible repeat (first | apply Kd.V_alloc | apply Kd.V_drewN | apply Kd.V_drew)); exact Kd.V_mono HO_2.out (fun _ hk => ⟨⟨hk.1, hk.2.1⟩, hk.2.2⟩)) hg hat); have n3_ := Aside0.mk (Kd.R_over' (kR_ HO_8.out) (Kd.R_typed (kR_ HO_9.out)) (by decide) hg); have n4_ := Aside0.mk (Kd.V_afterv (ok := (fun k_ => ((P0_ k_ ∨ P1_ k_ ∨ P2_ k_) ∨ w.heap.size ≤ k_) ∧ some k_ ≠ (u8 : Value).ownBlock)) (by (with_reducible repeat (first | apply Kd.V_alloc | apply Kd.V_drewN | apply Kd.V_drew)); exact Kd.V_mono HO_10.out (fun _ hk => ⟨⟨hk.1, hk.2.1⟩, hk.2.2⟩)) hg hat); have n5_ := Aside0.mk (Kd.V_afterv (ok := (fun k_ => ((P0_ k_ ∨ P1_ k_ ∨ P2_ k_) ∨ w.heap.size ≤ k_) ∧ some k_ ≠ (u8 : Value).ownBlock)) (by (with_reducible repeat (first | apply Kd.V_alloc | apply Kd.V_drewN | apply Kd.V_drew)); exact Kd.V_mono HO_12.out (fun _ hk => ⟨⟨hk.1, hk.2.1⟩, hk.2.2⟩)) hg hat); have n6_ := Aside0.mk (hb); have n7_ := Aside0.mk (ho); clear HO_0; clear HO_1; clear HO_2; clear HO_8; clear HO_10; clear HO_12; clear HB; clear HO_9; have HO_0 := n0_; have HO_1 := n1_; have HO_2 := n2_; have HO_8 := n3_; have HO_10 := n4_; have HO_12 := n5_; have HB := n6_; have HO776 := n7_; clear n0_ n1_ n2_ n3_ n4_ n5_ n6_ n7_; clear ho hb hg hat; have p777 : 0 ≤ (x11_1 : Int) := of_decide_eq_true (by first | (with_reducible assumption) | assumption); have q777 : x11_1 < (t757.length : Int) := of_decide_eq_true (by first | (with_reducible assumption) | assumption); obtain ⟨ad777, e777, hx777_0⟩ := Kd.at_string (Kd.V_reads' HO_10.out).2.2 x11_1 p777 q777; obtain rfl : ad760 = ad777 := (by injection e777); replace p777 := eq_true p777; replace q777 := eq_true q777) | ((with_reducible refine gate_callee (f := 31) rfl ?_); refine goesL_ (some 68) rfl rfl Try.func31 (by kernel_rfl) rfl #[.slice A1 l1.length c1, .string (rdOf ByteArray.empty t757 x11_1)] rfl mS_ ?_; (with_reducible refine (catchmentref05_Find.calls kj22 _ _ l1 (rdOf ByteArray.empty t757 x11_1) t778 false _ ?side1 ?side2 A32.out).mono ?_); (case side1 => repeat (first | exact (Kd.V_reads' HO_12.out).2.2 | (with_reducible refine Kd.C_alloc ?_ _) | (with_reducible refine Kd.C_drewN ?_ _) | (with_reducible refine Kd.C_drew ?_))); (case side2 => exact (Kd.V_reads' HO_12.out).2.1); rintro e w' ⟨rfl, ⟨nd, rfl⟩⟩; refine ⟨_, rfl, ?_⟩))
             go_roundg kj22
             case measure => have := HK1.out; have := HJ22.out; omega
             case rel => exact ⟨(x8_1), (y774), (wrap64 (x11_1 + 1)), (by first | rfl | (simp; done) | (simp [*]; done)), H', ⟨by have := HK1.out; have := HJ22.out; omega⟩, ⟨by (with_reducible repeat (first | apply Kd.V_alloc | apply Kd.V_drewN | apply Kd.V_drew)); exact Kd.V_mono HO_0.out (fun _ hk => ⟨hk.1.1, ⟨hk.1.2, hk.2⟩⟩)⟩, ⟨by (with_reducible repeat (first | apply Kd.V_alloc | apply Kd.V_drewN | apply Kd.V_drew)); exact Kd.V_mono HO_1.out (fun _ hk => ⟨hk.1.1, ⟨hk.1.2, hk.2⟩⟩)⟩, ⟨by (with_reducible repeat (first | apply Kd.V_alloc | apply Kd.V_drewN | apply Kd.V_drew)); exact Kd.V_mono HO_2.out (fun _ hk => ⟨hk.1.1, ⟨hk.1.2, hk.2⟩⟩)⟩, ⟨by (with_reducible repeat (first | apply Kd.R_alloc | apply Kd.R_drewN | apply Kd.R_drew)); exact HO_8.out⟩, ⟨by (with_reducible repeat (first | apply Kd.R_alloc | apply Kd.R_drewN | apply Kd.R_drew)); exact HO776.out⟩, ⟨by (with_reducible repeat (first | apply Kd.V_alloc | apply Kd.V_drewN | apply Kd.V_drew)); exact Kd.V_mono HO_10.out (fun _ hk => ⟨hk.1.1, ⟨hk.1.2, hk.2⟩⟩)⟩, ⟨by repeat (first | (with_reducible first | exact HB.out | apply wA | apply wN | apply w1) | exact HB.out)⟩⟩
           ·rw [if_neg c31] at H
            exact absurd H (by simp)
          ·rw [if_neg c30] at H
           exact absurd H (by simp)
         ·rw [if_neg c29] at H
          exact absurd H (by simp)
        ·replace c28 := Bool.eq_false_iff.mpr c28
         subst c28
         have H1 : (if 0 ≤ x11_1 then (if x11_1 < (t757.length : Int) then ((catchmentref05_Find.f kj22 l1 (rdOf ByteArray.empty t757 x11_1)).bind fun bt785 => (if bt785.2 = true then (if x8_1.length < 4398046511104 then (catchmentref37_Three.l0 kj22 l0 l1 l2 (x8_1 ++ [(⟨rdOf ByteArray.empty t757 x11_1, bt785.1⟩ : S39)]) x9_1 t757 (wrap64 (x11_1 + 1))) else (none)) else (catchmentref37_Three.l0 kj22 l0 l1 l2 x8_1 x9_1 t757 (wrap64 (x11_1 + 1))))) else (none)) else (none)) = some (r1, r2) := by rw [if_neg (show ¬ (false = true) by decide)] at H; exact H
         clear H
         have H := H1
         clear H1
         by_cases c38 : 0 ≤ x11_1
         ·rw [if_pos c38] at H
          have c38b0 : decide (0 ≤ x11_1) = true := decide_eq_true c38
          clear c38
          by_cases c39 : x11_1 < (t757.length : Int)
          ·rw [if_pos c39] at H
           have c39b0 : decide (x11_1 < (t757.length : Int)) = true := decide_eq_true c39
           clear c39
           replace H := Option.bind_eq_some_iff.mp H
           obtain ⟨⟨t785, t786⟩, A400, H⟩ := H
           replace H : (if t786 = true then (if x8_1.length < 4398046511104 then (catchmentref37_Three.l0 kj22 l0 l1 l2 (x8_1 ++ [(⟨rdOf ByteArray.empty t757 x11_1, t785⟩ : S39)]) x9_1 t757 (wrap64 (x11_1 + 1))) else (none)) else (catchmentref37_Three.l0 kj22 l0 l1 l2 x8_1 x9_1 t757 (wrap64 (x11_1 + 1)))) = some (r1, r2) := H
           have A40 := Aside0.mk A400
           clear A400
           by_cases c41 : t786 = true
           ·subst c41
            have H1 : (if x8_1.length < 4398046511104 then (catchmentref37_Three.l0 kj22 l0 l1 l2 (x8_1 ++ [(⟨rdOf ByteArray.empty t757 x11_1, t785⟩ : S39)]) x9_1 t757 (wrap64 (x11_1 + 1))) else (none)) = some (r1, r2) := by rw [if_pos rfl] at H; exact H
            clear H
            have H := H1
            clear H1
            by_cases c42 : x8_1.length < 4398046511104
            ·rw [if_pos c42] at H
             have LMc42 := Aside0.mk c42
             clear c42
             obtain ⟨y788, hy788⟩ : ∃ y_ : List (S39), y_ = (x8_1 ++ [(⟨rdOf ByteArray.empty t757 x11_1, t785⟩ : S39)]) := ⟨_, rfl⟩
             replace H : (catchmentref37_Three.l0 kj22 l0 l1 l2 y788 x9_1 t757 (wrap64 (x11_1 + 1))) = some (r1, r2) := by first | (rw [hy788]; with_reducible exact H) | (have H2_ := (Option.bind_some _ _).symm.trans H; rw [hy788]; with_reducible exact H2_) | (have H2_ := (Option.bind_some _ _).symm.trans H; with_reducible exact H2_) | with_reducible exact H | (rw [hy788]; exact H) | exact H
             have Ny788 := Aside0.mk hy788
             clear hy788
             have H' := Aside0.mk H
             clear H
             have p784 : 0 ≤ (x11_1 : Int) := of_decide_eq_true (by first | (with_reducible assumption) | assumption)
             have q784 : x11_1 < (t757.length : Int) := of_decide_eq_true (by first | (with_reducible assumption) | assumption)
             obtain ⟨ad784, e784, hx784_0⟩ := Kd.at_string (Kd.V_reads' HO_10.out).2.2 x11_1 p784 q784
             obtain rfl : ad760 = ad784 := (by injection e784)
             replace p784 := eq_true p784
             replace q784 := eq_true q784
             go_wp2_with (first | ((with_reducible refine gate_callee (f := 31) rfl ?_); refine goesL_ (some 68) rfl rfl Try.func31 (by kernel_rfl) rfl #[.slice A1 l1.length c1, .string (rdOf ByteArray.empty t757 x11_1)] rfl mS_ ?_; (with_reducible refine (catchmentref05_Find.calls kj22 _ _ l1 (rdOf ByteArray.empty t757 x11_1) t785 true _ ?side1 ?side2 A40.out).mono ?_); (case side1 => repeat (first | exact (Kd.V_reads' HO_12.out).2.2 | (with_reducible refine Kd.C_alloc ?_ _) | (with_reducible refine Kd.C_drewN ?_ _) | (with_reducible refine Kd.C_drew ?_))); (case side2 => exact (Kd.V_reads' HO_12.out).2.1); rintro e w' ⟨rfl, ⟨nd, rfl⟩⟩; refine ⟨_, rfl, ?_⟩; have p787 : 0 ≤ (x11_1 : Int) := of_decide_eq_true (by first | (with_reducible assumption) | assumption); have q787 : x11_1 < (t757.length : Int) := of_decide_eq_true (by first | (with_reducible assumption) | assumption); obtain ⟨ad787, e787, hx787_0⟩ := Kd.at_string (Kd.V_reads' HO_10.out).2.2 x11_1 p787 q787; obtain rfl : ad760 = ad787 := (by injection e787); replace p787 := eq_true p787; replace q787 := eq_true q787) | ((with_reducible refine gate_builtin (b := .append) (xs := #[.tmp 72, .tmp 79]) rfl ?_); at_builtin; refine Kd.R_append k39 (w0 := w) w.heap.size rfl (.tmp 72) (.tmp 79) 23 39 (.agg #[(.string ⟨#[]⟩), (.string ⟨#[]⟩)]) 32 rfl Try.underlying23 info39 rfl (by decide) (by omega) u8 x8_1 (⟨rdOf ByteArray.empty t757 x11_1, t785⟩ : S39) [.string (rdOf ByteArray.empty t757 x11_1), .string t785] (fun k_ => (w.heap.size ≤ k_)) (fun _ => False) rfl rfl ?aP (fun _ hk => hk.elim) ?aF ?aO ?aB ?aS ?aL ?_; (case aP => exact k39_mkM _ _ _ (⟨rdOf ByteArray.empty t757 x11_1, t785⟩ : S39)); (case aB => exact bW_); (case aF => exact (fun k_ hk => (Nat.le_trans (wZ bW_) hk))); (case aO => exact (kR_ HO_8.out)); (case aS => exact (wZ bW_)); (case aL => have := LMc42.out; omega); intro v789 w43 ho hb hg hat; rw [← Ny788.out] at ho; have n0_ := Aside0.mk (Kd.V_afterv (ok := (fun k_ => ((P0_ k_ ∨ P1_ k_ ∨ P2_ k_) ∨ w.heap.size ≤ k_) ∧ some k_ ≠ (u9 : Value).ownBlock)) (by (with_reducible repeat (first | apply Kd.V_alloc | apply Kd.V_drewN | apply Kd.V_drew)); exact Kd.V_mono HO_0.out (fun _ hk => ⟨⟨hk.1, hk.2.2⟩, hk.2.1⟩)) hg hat); have n1_ := Aside0.mk (Kd.V_afterv (ok := (fun k_ => ((P0_ k_ ∨ P1_ k_ ∨ P2_ k_) ∨ w.heap.size ≤ k_) ∧ some k_ ≠ (u9 : Value).ownBlock)) (by (with_reducible repeat (first | apply Kd.V_alloc | apply Kd.V_drewN | apply Kd.V_drew)); exact Kd.V_mono HO_1.out (fun _ hk => ⟨⟨hk.1, hk.2.2⟩, hk.2.1⟩)) hg hat); have n2_ := Aside0.mk (Kd.V_afterv (ok := (fun k_ => ((P0_ k_ ∨ P1_ k_ ∨ P2_ k_) ∨ w.heap.size ≤ k_) ∧ some k_ ≠ (u9 : Value).ownBlock)) (by (with_reducible repeat (first | apply Kd.V_alloc | apply Kd.V_drewN | apply Kd.V_drew)); exact Kd.V_mono HO_2.out (fun _ hk => ⟨⟨hk.1, hk.2.2⟩, hk.2.1⟩)) hg hat); have n3_ := Aside0.mk (Kd.R_over' (kR_ HO_9.out) (Kd.R_typed (kR_ HO_8.out)) (by decide) hg); have n4_ := Aside0.mk (Kd.V_afterv (ok := (fun k_ => ((P0_ k_ ∨ P1_ k_ ∨ P2_ k_) ∨ w.heap.size ≤ k_) ∧ some k_ ≠ (u9 : Value).ownBlock)) (by (with_reducible repeat (first | apply Kd.V_alloc | apply Kd.V_drewN | apply Kd.V_drew)); exact Kd.V_mono HO_10.out (fun _ hk => ⟨⟨hk.1, hk.2.2⟩, hk.2.1⟩)) hg hat); have n5_ := Aside0.mk (Kd.V_afterv (ok := (fun k_ => ((P0_ k_ ∨ P1_ k_ ∨ P2_ k_) ∨ w.heap.size ≤ k_) ∧ some k_ ≠ (u9 : Value).ownBlock)) (by (with_reducible repeat (first | apply Kd.V_alloc | apply Kd.V_drewN | apply Kd.V_drew)); exact Kd.V_mono HO_12.out (fun _ hk => ⟨⟨hk.1, hk.2.2⟩, hk.2.1⟩)) hg hat); have n6_ := Aside0.mk (hb); have n7_ := Aside0.mk (ho); clear HO_0; clear HO_1; clear HO_2; clear HO_9; clear HO_10; clear HO_12; clear HB; clear HO_8; have HO_0 := n0_; have HO_1 := n1_; have HO_2 := n2_; have HO_9 := n3_; have HO_10 := n4_; have HO_12 := n5_; have HB := n6_; have HO790 := n7_; clear n0_ n1_ n2_ n3_ n4_ n5_ n6_ n7_; clear ho hb hg hat))
             go_roundg kj22
             case measure => have := HK1.out; have := HJ22.out; omega
             case rel => exact ⟨(y788), (x9_1), (wrap64 (x11_1 + 1)), (by first | rfl | (simp; done) | (simp [*]; done)), H', ⟨by have := HK1.out; have := HJ22.out; omega⟩, ⟨by (with_reducible repeat (first | apply Kd.V_alloc | apply Kd.V_drewN | apply Kd.V_drew)); exact Kd.V_mono HO_0.out (fun _ hk => ⟨hk.1.1, ⟨hk.2, hk.1.2⟩⟩)⟩, ⟨by (with_reducible repeat (first | apply Kd.V_alloc | apply Kd.V_drewN | apply Kd.V_drew)); exact Kd.V_mono HO_1.out (fun _ hk => ⟨hk.1.1, ⟨hk.2, hk.1.2⟩⟩)⟩, ⟨by (with_reducible repeat (first | apply Kd.V_alloc | apply Kd.V_drewN | apply Kd.V_drew)); exact Kd.V_mono HO_2.out (fun _ hk => ⟨hk.1.1, ⟨hk.2, hk.1.2⟩⟩)⟩, ⟨by (with_reducible repeat (first | apply Kd.R_alloc | apply Kd.R_drewN | apply Kd.R_drew)); exact HO790.out⟩, ⟨by (with_reducible repeat (first | apply Kd.R_alloc | apply Kd.R_drewN | apply Kd.R_drew)); exact HO_9.out⟩, ⟨by (with_reducible repeat (first | apply Kd.V_alloc | apply Kd.V_drewN | apply Kd.V_drew)); exact Kd.V_mono HO_10.out (fun _ hk => ⟨hk.1.1, ⟨hk.2, hk.1.2⟩⟩)⟩, ⟨by repeat (first | (with_reducible first | exact HB.out | apply wA | apply wN | apply w1) | exact HB.out)⟩⟩
            ·rw [if_neg c42] at H
             exact absurd H (by simp)
           ·replace c41 := Bool.eq_false_iff.mpr c41
            subst c41
            have H1 : (catchmentref37_Three.l0 kj22 l0 l1 l2 x8_1 x9_1 t757 (wrap64 (x11_1 + 1))) = some (r1, r2) := by rw [if_neg (show ¬ (false = true) by decide)] at H; exact H
            clear H
            have H := H1
            clear H1
            have H' := Aside0.mk H
            clear H
            have p784 : 0 ≤ (x11_1 : Int) := of_decide_eq_true (by first | (with_reducible assumption) | assumption)
            have q784 : x11_1 < (t757.length : Int) := of_decide_eq_true (by first | (with_reducible assumption) | assumption)
            obtain ⟨ad784, e784, hx784_0⟩ := Kd.at_string (Kd.V_reads' HO_10.out).2.2 x11_1 p784 q784
            obtain rfl : ad760 = ad784 := (by injection e784)
            replace p784 := eq_true p784
            replace q784 := eq_true q784
            go_wp2_with (first | ((with_reducible refine gate_callee (f := 31) rfl ?_); refine goesL_ (some 68) rfl rfl Try.func31 (by kernel_rfl) rfl #[.slice A1 l1.length c1, .string (rdOf ByteArray.empty t757 x11_1)] rfl mS_ ?_; (with_reducible refine (catchmentref05_Find.calls kj22 _ _ l1 (rdOf ByteArray.empty t757 x11_1) t785 false _ ?side1 ?side2 A40.out).mono ?_); (case side1 => repeat (first | exact (Kd.V_reads' HO_12.out).2.2 | (with_reducible refine Kd.C_alloc ?_ _) | (with_reducible refine Kd.C_drewN ?_ _) | (with_reducible refine Kd.C_drew ?_))); (case side2 => exact (Kd.V_reads' HO_12.out).2.1); rintro e w' ⟨rfl, ⟨nd, rfl⟩⟩; refine ⟨_, rfl, ?_⟩))
            go_roundg kj22
            case measure => have := HK1.out; have := HJ22.out; omega
            case rel => exact ⟨(x8_1), (x9_1), (wrap64 (x11_1 + 1)), (by first | rfl | (simp; done) | (simp [*]; done)), H', ⟨by have := HK1.out; have := HJ22.out; omega⟩, ⟨by (with_reducible repeat (first | apply Kd.V_alloc | apply Kd.V_drewN | apply Kd.V_drew)); exact HO_0.out⟩, ⟨by (with_reducible repeat (first | apply Kd.V_alloc | apply Kd.V_drewN | apply Kd.V_drew)); exact HO_1.out⟩, ⟨by (with_reducible repeat (first | apply Kd.V_alloc | apply Kd.V_drewN | apply Kd.V_drew)); exact HO_2.out⟩, ⟨by (with_reducible repeat (first | apply Kd.R_alloc | apply Kd.R_drewN | apply Kd.R_drew)); exact HO_8.out⟩, ⟨by (with_reducible repeat (first | apply Kd.R_alloc | apply Kd.R_drewN | apply Kd.R_drew)); exact HO_9.out⟩, ⟨by (with_reducible repeat (first | apply Kd.V_alloc | apply Kd.V_drewN | apply Kd.V_drew)); exact HO_10.out⟩, ⟨by repeat (first | (with_reducible first | exact HB.out | apply wA | apply wN | apply w1) | exact HB.out)⟩⟩
          ·rw [if_neg c39] at H
           exact absurd H (by simp)
         ·rw [if_neg c38] at H
          exact absurd H (by simp)
    ·rw [if_neg c14] at H
     exact absurd H (by simp)
   ·rw [if_neg c13] at H
    have c13b0 : decide (x11_1 < (t757.length : Int)) = false := decide_eq_false c13
    clear c13
    simp only [Option.some.injEq, Prod.mk.injEq] at H
    obtain ⟨rfl, rfl⟩ := H
    obtain ⟨Ao44, co44, eo44⟩ := Kd.V_slice HO_10.out
    subst eo44
    go_wp2
    go_ret2
    exact ⟨_, _, by first | rfl | (simp [errW_none, errW_some] <;> rfl) | (simp [*, errW_none, errW_some] <;> rfl), by (with_reducible repeat (first | apply Kd.R_alloc | apply Kd.R_drewN | apply Kd.R_drew)); exact HO_8.out, by (with_reducible repeat (first | apply Kd.R_alloc | apply Kd.R_drewN | apply Kd.R_drew)); exact HO_9.out, by repeat (first | (with_reducible first | exact HB.out | apply wA | apply wN | apply w1) | exact HB.out)⟩
end Go.Proofs.Ytebejadiaooooaa.P
end
