/- Texts of one claim (laid by shake.py). -/
import Derived.Test.YtebejadiaooooaaZt4
import Derived.Test.YtebejadiaooooaaZt8
import Derived.Test.YtebejadiaooooaaZt5
import Derived.Test.YtebejadiaooooaaZt9
set_option linter.unusedVariables false
set_option linter.unusedSimpArgs false
section
namespace Go.Proofs.Ytebejadiaooooaa.P
open Go.RowKit Go.Proofs.YtebejadiaooooaaW.PrintWords Go.Proofs.YtebejadiaooooaaW.PrintLast Go.Proofs.YtebejadiaooooaaW.PrintMore Go.Proofs.Ytebejadiaooooaa.Own
open Go.Proofs.YtebejadiaooooaaW.PrintWords renaming blk_cell → bC, blk_frozen → bF, blk_drewN → bN, blk_alloc → bA, pw_below_drewN → wN, blk_drew → bD, below_drew1 → w1, below_set → wS, below_alloc → wA, below_step → wT, below_size → wZ, blk_put → bP
open List renaming map_toArray → mA1, map_cons → mA2, map_nil → mA3, length_take → mA4, length_drop → mA5
attribute [local go_sem] max2_str max2_int min2_int max_two min_two max_three min_three max_four min_four   -- for this text's walks alone
attribute [local go_sem high] eqA32
def delta_Diff.l0 : Nat → List (S32) → List (S95) → Int → Int → Option ((List (S32)))
 | 0, _, _, _, _ => none
 | k + 1, x5, x10, x11, x12 => if x12 < x11 then (if 0 ≤ x12 then (if x12 < (x10.length : Int) then (if ((rd_T95 x10 x12).f3 = true) then (if ((rd_T95 x10 x12).f4 = true) then (if ((rd_T95 x10 x12).f1).toList = ((rd_T95 x10 x12).f2).toList then (delta_Diff.l0 k x5 x10 x11 (wrap64 (x12 + 1))) else (if x5.length < 1954687338268 then (delta_Diff.l0 k (x5 ++ [(⟨1, 0, (rd_T95 x10 x12).f0, (⟨#[]⟩ : BA), (rd_T95 x10 x12).f2, 0⟩ : S32)]) x10 x11 (wrap64 (x12 + 1))) else (none))) else (if x5.length < 1954687338268 then (delta_Diff.l0 k (x5 ++ [(⟨1, 0, (rd_T95 x10 x12).f0, (⟨#[]⟩ : BA), (rd_T95 x10 x12).f2, 0⟩ : S32)]) x10 x11 (wrap64 (x12 + 1))) else (none))) else (if x5.length < 1954687338268 then (delta_Diff.l0 k (x5 ++ [(⟨2, 0, (rd_T95 x10 x12).f0, (⟨#[]⟩ : BA), (⟨#[]⟩ : BA), 0⟩ : S32)]) x10 x11 (wrap64 (x12 + 1))) else (none))) else (none)) else (none)) else (some x5)
def delta_Diff.f (k : Nat) (l0 : List (S39)) (l1 : List (S39)) : Option ((List (S32))) := (delta_beside.f k l0 l1).bind fun t578 => (delta_Diff.l0 k ([] : List (S32)) t578 (t578.length : Int) 0)
set_option maxHeartbeats 8000000 in
set_option maxRecDepth 100000 in
theorem delta_Diff.calls (k : Nat) (A0 : Option Addr) (c0 : Nat) (l0 : List (S39)) (A1 : Option Addr) (c1 : Nat) (l1 : List (S39)) (r : List (S32)) (w : World) (hr0 : Kd.C k39 w A0 l0.length l0) (hc0 : l0.length ≤ c0) (hr1 : Kd.C k39 w A1 l1.length l1) (hc1 : l1.length ≤ c1) (h : delta_Diff.f k l0 l1 = some r) :
  Calls Try.prog 41 #[.slice A0 l0.length c0, .slice A1 l1.length c1] w fun e w' => ∃ v0_ : Value, e = .returned (v0_) ∧ Kd.R k32 32 w' w.heap.size (fun _ => True) v0_ r ∧ Below w.heap.size w w' := by
 have hu95 := Try.underlying95
 have hu32 := Try.underlying32
 have HR0 := Aside0.mk hr0
 have HC0 := Aside0.mk hc0
 clear hr0 hc0
 have HR1 := Aside0.mk hr1
 have HC1 := Aside0.mk hc1
 clear hr1 hc1
 have HB := Aside0.mk (Below.refl w.heap.size w)
 have H : ((delta_beside.f k l0 l1).bind fun t578 => (delta_Diff.l0 k ([] : List (S32)) t578 (t578.length : Int) 0)) = some r := h
 clear h
 replace H := Option.bind_eq_some_iff.mp H
 obtain ⟨t578, A30, H⟩ := H
 replace H : (delta_Diff.l0 k ([] : List (S32)) t578 (t578.length : Int) 0) = some r := H
 have A3 := Aside0.mk A30
 clear A30
 have H' := Aside0.mk H
 clear H
 go_enter Try.func41, Try.ntmps41
 go_wp2_with (first | ((with_reducible refine gate_callee (f := 78) rfl ?_); refine goesL_ (some 10) rfl rfl Try.func78 (by kernel_rfl) rfl #[.slice A0 l0.length c0, .slice A1 l1.length c1] rfl mS_ ?_; (with_reducible refine (delta_beside.calls k _ _ l0 _ _ l1 t578 _ ?side1 ?side2 ?side3 ?side4 A3.out).mono ?_); (case side1 => repeat (first | exact HR0.out | (with_reducible refine Kd.C_alloc ?_ _) | (with_reducible refine Kd.C_drewN ?_ _) | (with_reducible refine Kd.C_drew ?_))); (case side2 => exact HC0.out); (case side3 => repeat (first | exact HR1.out | (with_reducible refine Kd.C_alloc ?_ _) | (with_reducible refine Kd.C_drewN ?_ _) | (with_reducible refine Kd.C_drew ?_))); (case side4 => exact HC1.out); rintro e w4 ⟨v579, rfl, ho0, hb⟩; refine ⟨_, rfl, ?_⟩; have n0_ := Aside0.mk (Kd.R_lower ho0 (wZ bW_)); have n1_ := Aside0.mk (wT bW_ hb); clear HB; have HO580 := n0_; have HB := n1_; clear n0_ n1_; (try clear hb); (try clear hb2); (try clear hk); (try clear hi); (try clear ho0); obtain ⟨Ao5, co5, eo5⟩ := Kd.R_slice HO580.out; subst eo5))
 go_loopg [5, 12] k (fun kq v5 v12 w' => ∃ (x5_1 : List (S32)) (x12_1 : Int), v12 = .int .i64 x12_1 ∧ Aside0 (delta_Diff.l0 kq x5_1 t578 (t578.length : Int) x12_1 = some r) ∧ Aside0 (kq ≤ k) ∧ Aside0 (Kd.R k32 32 w' w.heap.size (fun _ => True) v5 x5_1) ∧ Aside0 (Kd.R k95 95 w' w.heap.size (fun _ => True) (.slice Ao5 t578.length co5) t578) ∧ Aside0 (Below w.heap.size w w'))
 case atStart => exact ⟨(([] : List (S32))), (0), (by first | rfl | (simp; done) | (simp [*]; done)), H', ⟨Nat.le_refl _⟩, ⟨by first | exact Kd.R_nil _ _ _ _ _ | exact Kd.N_nil _ _ _ _ _ | exact Kd.V_nil _ _ _ _ _ | exact Kd.Q_nil _ _ _ _ _ | exact Kd.S_nil _ _ _ _ _⟩, ⟨by (with_reducible repeat (first | apply Kd.R_alloc | apply Kd.R_drewN | apply Kd.R_drew)); exact HO580.out⟩, ⟨by repeat (first | (with_reducible first | exact HB.out | apply wA | apply wN | apply w1) | exact HB.out)⟩⟩
 case round =>
  clear H'
  try clear c1
  try clear p2
  try clear c4
  obtain ⟨x5_1, x12_1, rfl, HA, HK1, HO_5, HO_10, HB⟩ := hrel
  cases gk with
  | zero => exact absurd HA.out (by simp [delta_Diff.l0])
  | succ k1 =>
   have H := HA.out
   clear HA
   simp only [delta_Diff.l0] at H
   by_cases c6 : x12_1 < (t578.length : Int)
   ·rw [if_pos c6] at H
    have c6b0 : decide (x12_1 < (t578.length : Int)) = true := decide_eq_true c6
    clear c6
    by_cases c7 : 0 ≤ x12_1
    ·rw [if_pos c7] at H
     have c7b0 : decide (0 ≤ x12_1) = true := decide_eq_true c7
     clear c7
     by_cases c8 : x12_1 < (t578.length : Int)
     ·rw [if_pos c8] at H
      have c8b0 : decide (x12_1 < (t578.length : Int)) = true := decide_eq_true c8
      clear c8
      obtain ⟨bq9, hbq9⟩ : ∃ b_ : Bool, b_ = ((rd_T95 t578 x12_1).f3) := ⟨_, rfl⟩
      replace H : (if (bq9 = true) then (if ((rd_T95 t578 x12_1).f4 = true) then (if ((rd_T95 t578 x12_1).f1).toList = ((rd_T95 t578 x12_1).f2).toList then (delta_Diff.l0 k1 x5_1 t578 (t578.length : Int) (wrap64 (x12_1 + 1))) else (if x5_1.length < 1954687338268 then (delta_Diff.l0 k1 (x5_1 ++ [(⟨1, 0, (rd_T95 t578 x12_1).f0, (⟨#[]⟩ : BA), (rd_T95 t578 x12_1).f2, 0⟩ : S32)]) t578 (t578.length : Int) (wrap64 (x12_1 + 1))) else (none))) else (if x5_1.length < 1954687338268 then (delta_Diff.l0 k1 (x5_1 ++ [(⟨1, 0, (rd_T95 t578 x12_1).f0, (⟨#[]⟩ : BA), (rd_T95 t578 x12_1).f2, 0⟩ : S32)]) t578 (t578.length : Int) (wrap64 (x12_1 + 1))) else (none))) else (if x5_1.length < 1954687338268 then (delta_Diff.l0 k1 (x5_1 ++ [(⟨2, 0, (rd_T95 t578 x12_1).f0, (⟨#[]⟩ : BA), (⟨#[]⟩ : BA), 0⟩ : S32)]) t578 (t578.length : Int) (wrap64 (x12_1 + 1))) else (none))) = some r := by rw [← hbq9] at H; exact H
      have Nbq9 := Aside0.mk hbq9
      clear hbq9
      by_cases c10 : (bq9 = true)
      ·subst c10
       have H1 : (if ((rd_T95 t578 x12_1).f4 = true) then (if ((rd_T95 t578 x12_1).f1).toList = ((rd_T95 t578 x12_1).f2).toList then (delta_Diff.l0 k1 x5_1 t578 (t578.length : Int) (wrap64 (x12_1 + 1))) else (if x5_1.length < 1954687338268 then (delta_Diff.l0 k1 (x5_1 ++ [(⟨1, 0, (rd_T95 t578 x12_1).f0, (⟨#[]⟩ : BA), (rd_T95 t578 x12_1).f2, 0⟩ : S32)]) t578 (t578.length : Int) (wrap64 (x12_1 + 1))) else (none))) else (if x5_1.length < 1954687338268 then (delta_Diff.l0 k1 (x5_1 ++ [(⟨1, 0, (rd_T95 t578 x12_1).f0, (⟨#[]⟩ : BA), (rd_T95 t578 x12_1).f2, 0⟩ : S32)]) t578 (t578.length : Int) (wrap64 (x12_1 + 1))) else (none))) = some r := by rw [if_pos rfl] at H; exact H
       clear H
       have H := H1
       clear H1
       obtain ⟨bq11, hbq11⟩ : ∃ b_ : Bool, b_ = ((rd_T95 t578 x12_1).f4) := ⟨_, rfl⟩
       replace H : (if (bq11 = true) then (if ((rd_T95 t578 x12_1).f1).toList = ((rd_T95 t578 x12_1).f2).toList then (delta_Diff.l0 k1 x5_1 t578 (t578.length : Int) (wrap64 (x12_1 + 1))) else (if x5_1.length < 1954687338268 then (delta_Diff.l0 k1 (x5_1 ++ [(⟨1, 0, (rd_T95 t578 x12_1).f0, (⟨#[]⟩ : BA), (rd_T95 t578 x12_1).f2, 0⟩ : S32)]) t578 (t578.length : Int) (wrap64 (x12_1 + 1))) else (none))) else (if x5_1.length < 1954687338268 then (delta_Diff.l0 k1 (x5_1 ++ [(⟨1, 0, (rd_T95 t578 x12_1).f0, (⟨#[]⟩ : BA), (rd_T95 t578 x12_1).f2, 0⟩ : S32)]) t578 (t578.length : Int) (wrap64 (x12_1 + 1))) else (none))) = some r := by rw [← hbq11] at H; exact H
       have Nbq11 := Aside0.mk hbq11
       clear hbq11
       by_cases c12 : (bq11 = true)
       ·subst c12
        have H1 : (if ((rd_T95 t578 x12_1).f1).toList = ((rd_T95 t578 x12_1).f2).toList then (delta_Diff.l0 k1 x5_1 t578 (t578.length : Int) (wrap64 (x12_1 + 1))) else (if x5_1.length < 1954687338268 then (delta_Diff.l0 k1 (x5_1 ++ [(⟨1, 0, (rd_T95 t578 x12_1).f0, (⟨#[]⟩ : BA), (rd_T95 t578 x12_1).f2, 0⟩ : S32)]) t578 (t578.length : Int) (wrap64 (x12_1 + 1))) else (none))) = some r := by rw [if_pos rfl] at H; exact H
        clear H
        have H := H1
        clear H1
        by_cases c13 : ((rd_T95 t578 x12_1).f1).toList = ((rd_T95 t578 x12_1).f2).toList
        ·rw [if_pos c13] at H
         have c13b0 : (((rd_T95 t578 x12_1).f1).toList == ((rd_T95 t578 x12_1).f2).toList) = true := beq_iff_eq.mpr c13
         have c13b1 : (((rd_T95 t578 x12_1).f1).toList != ((rd_T95 t578 x12_1).f2).toList) = false := bne_eq_false_iff_eq.mpr c13
         clear c13
         have H' := Aside0.mk H
         clear H
         have p581 : 0 ≤ (x12_1 : Int) := of_decide_eq_true (by first | (with_reducible assumption) | assumption)
         have q581 : x12_1 < (t578.length : Int) := of_decide_eq_true (by first | (with_reducible assumption) | assumption)
         obtain ⟨ad581, e581, hx581_0, hx581_1, hx581_2, hx581_3, hx581_4⟩ := at_T95 (Kd.R_reads' HO_10.out).2.2 x12_1 p581 q581
         (try rw [← Nbq9.out] at hx581_3)
         (try rw [← Nbq11.out] at hx581_3)
         (try rw [← Nbq9.out] at hx581_4)
         (try rw [← Nbq11.out] at hx581_4)
         cases e581
         replace p581 := eq_true p581
         replace q581 := eq_true q581
         go_wp2_with (first | ((with_reducible refine gate_dst (N := 7) rfl ?_); refine box_event ?hg (N := 7) ?hd (cs := #[.string (⟨#[]⟩ : BA), .string (⟨#[]⟩ : BA), .string (⟨#[]⟩ : BA), .bool false, .bool false]) (t := 95) ?hr ?_; (case hd => rfl); (case hg => rfl); (case hr => first | (go_simp; done) | (go_simp; rfl)); intro gb582 hg w14 hbox hb; have n0_ := Aside0.mk (Kd.R_below (kR_ HO_5.out) hb); have n1_ := Aside0.mk (Kd.R_below (Kd.R_elderB (kR_ HO_10.out) gb582 (Nat.le_of_eq hg.symm)) hb); have n2_ := Aside0.mk (wT bW_ hb); have n3_ := Aside0.mk (hbox); have n4_ := Aside0.mk ((by rw [hg]; exact (wZ bW_) : w.heap.size ≤ gb582)); have n5_ := n4_; clear HO_5; clear HO_10; clear HB; have HO_5 := n0_; have HO_10 := n1_; have HB := n2_; have BK582 := n3_; have GW582 := n4_; have GE582 := n5_; clear n0_ n1_ n2_ n3_ n4_ n5_; clear hb hbox hg; have hcz15_0 := cz_ BK582.out 0; have hcz15_1 := cz_ BK582.out 1; have hcz15_2 := cz_ BK582.out 2; have hcz15_3 := cz_ BK582.out 3; have hcz15_4 := cz_ BK582.out 4; have hfz15_0 := bF BK582.out 0; have hfz15_1 := bF BK582.out 1; have hfz15_2 := bF BK582.out 2; have hfz15_3 := bF BK582.out 3; have hfz15_4 := bF BK582.out 4))
         go_roundg k1
         case measure => have := HK1.out; omega
         case rel => exact ⟨(x5_1), (wrap64 (x12_1 + 1)), (by first | rfl | (simp; done) | (simp [*]; done)), H', ⟨by have := HK1.out; omega⟩, ⟨by (with_reducible repeat (first | apply Kd.R_alloc | apply Kd.R_drewN | apply Kd.R_drew)); exact Kd.R_mono (Kd.R_far (p := ⟨gb582, 4, none⟩) (Kd.R_far (p := ⟨gb582, 3, none⟩) (Kd.R_far (p := ⟨gb582, 2, none⟩) (Kd.R_far (p := ⟨gb582, 1, none⟩) (Kd.R_far (p := ⟨gb582, 0, none⟩) (Kd.R_types HO_5.out BK582.out (by decide)) (fun _ hk => hk.2) (.string ((rd_T95 t578 x12_1).f0))) (fun _ hk => hk.2) (.string ((rd_T95 t578 x12_1).f1))) (fun _ hk => hk.2) (.string ((rd_T95 t578 x12_1).f2))) (fun _ hk => hk.2) (.bool true)) (fun _ hk => hk.2) (.bool true)) (fun _ hk => trivial)⟩, ⟨by (with_reducible repeat (first | apply Kd.R_alloc | apply Kd.R_drewN | apply Kd.R_drew)); exact Kd.R_mono (Kd.R_far (p := ⟨gb582, 4, none⟩) (Kd.R_far (p := ⟨gb582, 3, none⟩) (Kd.R_far (p := ⟨gb582, 2, none⟩) (Kd.R_far (p := ⟨gb582, 1, none⟩) (Kd.R_far (p := ⟨gb582, 0, none⟩) (Kd.R_mono HO_10.out (fun k_ hk => (⟨hk, hk.2⟩ : _ ∧ k_ ≠ gb582))) (fun _ hk => hk.2) (.string ((rd_T95 t578 x12_1).f0))) (fun _ hk => hk.2) (.string ((rd_T95 t578 x12_1).f1))) (fun _ hk => hk.2) (.string ((rd_T95 t578 x12_1).f2))) (fun _ hk => hk.2) (.bool true)) (fun _ hk => hk.2) (.bool true)) (fun _ hk => trivial)⟩, ⟨by repeat (first | (with_reducible first | exact HB.out | apply wA | apply wN | apply w1 | refine wS ?_ GE582.out) | exact HB.out)⟩⟩
        ·rw [if_neg c13] at H
         have c13b0 : (((rd_T95 t578 x12_1).f1).toList == ((rd_T95 t578 x12_1).f2).toList) = false := beq_eq_false_iff_ne.mpr c13
         have c13b1 : (((rd_T95 t578 x12_1).f1).toList != ((rd_T95 t578 x12_1).f2).toList) = true := bne_iff_ne.mpr c13
         by_cases c16 : x5_1.length < 1954687338268
         ·rw [if_pos c16] at H
          have LMc16 := Aside0.mk c16
          clear c16
          obtain ⟨y583, hy583⟩ : ∃ y_ : List (S32), y_ = (x5_1 ++ [(⟨1, 0, (rd_T95 t578 x12_1).f0, (⟨#[]⟩ : BA), (rd_T95 t578 x12_1).f2, 0⟩ : S32)]) := ⟨_, rfl⟩
          replace H : (delta_Diff.l0 k1 y583 t578 (t578.length : Int) (wrap64 (x12_1 + 1))) = some r := by first | (rw [hy583]; with_reducible exact H) | (have H2_ := (Option.bind_some _ _).symm.trans H; rw [hy583]; with_reducible exact H2_) | (have H2_ := (Option.bind_some _ _).symm.trans H; with_reducible exact H2_) | with_reducible exact H | (rw [hy583]; exact H) | exact H
          have Ny583 := Aside0.mk hy583
          clear hy583
          have H' := Aside0.mk H
          clear H
          have p581 : 0 ≤ (x12_1 : Int) := of_decide_eq_true (by first | (with_reducible assumption) | assumption)
          have q581 : x12_1 < (t578.length : Int) := of_decide_eq_true (by first | (with_reducible assumption) | assumption)
          obtain ⟨ad581, e581, hx581_0, hx581_1, hx581_2, hx581_3, hx581_4⟩ := at_T95 (Kd.R_reads' HO_10.out).2.2 x12_1 p581 q581
          (try rw [← Nbq9.out] at hx581_3)
          (try rw [← Nbq11.out] at hx581_3)
          (try rw [← Nbq9.out] at hx581_4)
          (try rw [← Nbq11.out] at hx581_4)
          cases e581
          replace p581 := eq_true p581
          replace q581 := eq_true q581
          go_wp2_with (first | ((with_reducible refine gate_dst (N := 7) rfl ?_); refine box_event ?hg (N := 7) ?hd (cs := #[.string (⟨#[]⟩ : BA), .string (⟨#[]⟩ : BA), .string (⟨#[]⟩ : BA), .bool false, .bool false]) (t := 95) ?hr ?_; (case hd => rfl); (case hg => rfl); (case hr => first | (go_simp; done) | (go_simp; rfl)); intro gb582 hg w17 hbox hb; have n0_ := Aside0.mk (Kd.R_below (kR_ HO_5.out) hb); have n1_ := Aside0.mk (Kd.R_below (Kd.R_elderB (kR_ HO_10.out) gb582 (Nat.le_of_eq hg.symm)) hb); have n2_ := Aside0.mk (wT bW_ hb); have n3_ := Aside0.mk (hbox); have n4_ := Aside0.mk ((by rw [hg]; exact (wZ bW_) : w.heap.size ≤ gb582)); have n5_ := n4_; clear HO_5; clear HO_10; clear HB; have HO_5 := n0_; have HO_10 := n1_; have HB := n2_; have BK582 := n3_; have GW582 := n4_; have GE582 := n5_; clear n0_ n1_ n2_ n3_ n4_ n5_; clear hb hbox hg; have hcz18_0 := cz_ BK582.out 0; have hcz18_1 := cz_ BK582.out 1; have hcz18_2 := cz_ BK582.out 2; have hcz18_3 := cz_ BK582.out 3; have hcz18_4 := cz_ BK582.out 4; have hfz18_0 := bF BK582.out 0; have hfz18_1 := bF BK582.out 1; have hfz18_2 := bF BK582.out 2; have hfz18_3 := bF BK582.out 3; have hfz18_4 := bF BK582.out 4) | ((with_reducible refine gate_builtin (b := .append) (xs := #[.tmp 37, .tmp 43]) rfl ?_); at_builtin; refine Kd.R_append k32 (w0 := w) w.heap.size rfl (.tmp 37) (.tmp 43) 22 32 (.agg #[(.int .u8 0), (.int .i64 0), (.string ⟨#[]⟩), (.string ⟨#[]⟩), (.string ⟨#[]⟩), (.int .u64 0)]) 72 rfl Try.underlying22 info32 rfl (by decide) (by omega) u5 x5_1 (⟨1, 0, (rd_T95 t578 x12_1).f0, (⟨#[]⟩ : BA), (rd_T95 t578 x12_1).f2, 0⟩ : S32) [.int .u8 1, .int .i64 0, .string ((rd_T95 t578 x12_1).f0), .string (⟨#[]⟩ : BA), .string ((rd_T95 t578 x12_1).f2), .int .u64 0] (fun _ => True) (fun _ => False) rfl (by first | (go_simp; done) | (go_simp; rfl)) ?aP (fun _ hk => hk.elim) ?aF ?aO ?aB ?aS ?aL ?_; (case aP => exact k32_mkM _ _ _ (⟨1, 0, (rd_T95 t578 x12_1).f0, (⟨#[]⟩ : BA), (rd_T95 t578 x12_1).f2, 0⟩ : S32)); (case aB => exact (bS1_ GE582.out)); (case aF => exact (fun _ _ => trivial)); (case aO => exact (by (with_reducible repeat (first | apply Kd.R_alloc | apply Kd.R_drewN | apply Kd.R_drew)); exact Kd.R_mono (Kd.R_far (p := ⟨gb582, 4, none⟩) (Kd.R_far (p := ⟨gb582, 3, none⟩) (Kd.R_far (p := ⟨gb582, 2, none⟩) (Kd.R_far (p := ⟨gb582, 1, none⟩) (Kd.R_far (p := ⟨gb582, 0, none⟩) (Kd.R_types HO_5.out BK582.out (by decide)) (fun _ hk => hk.2) (.string ((rd_T95 t578 x12_1).f0))) (fun _ hk => hk.2) (.string ((rd_T95 t578 x12_1).f1))) (fun _ hk => hk.2) (.string ((rd_T95 t578 x12_1).f2))) (fun _ hk => hk.2) (.bool true)) (fun _ hk => hk.2) (.bool true)) (fun _ hk => trivial))); (case aS => exact (wZ (bS1_ GE582.out))); (case aL => have := LMc16.out; omega); intro v584 w19 ho hb hg hat; rw [← Ny583.out] at ho; have n0_ := Aside0.mk (Kd.R_over' (by (with_reducible repeat (first | apply Kd.R_alloc | apply Kd.R_drewN | apply Kd.R_drew)); exact (Kd.R_mono (Kd.R_far (p := ⟨gb582, 4, none⟩) (Kd.R_far (p := ⟨gb582, 3, none⟩) (Kd.R_far (p := ⟨gb582, 2, none⟩) (Kd.R_far (p := ⟨gb582, 1, none⟩) (Kd.R_far (p := ⟨gb582, 0, none⟩) (Kd.R_mono HO_10.out (fun k_ hk => (⟨hk, hk.2⟩ : _ ∧ k_ ≠ gb582))) (fun _ hk => hk.2) (.string ((rd_T95 t578 x12_1).f0))) (fun _ hk => hk.2) (.string ((rd_T95 t578 x12_1).f1))) (fun _ hk => hk.2) (.string ((rd_T95 t578 x12_1).f2))) (fun _ hk => hk.2) (.bool true)) (fun _ hk => hk.2) (.bool true)) (fun _ h_ => h_.1))) (Kd.R_typed (by (with_reducible repeat (first | apply Kd.R_alloc | apply Kd.R_drewN | apply Kd.R_drew)); exact (Kd.R_mono (Kd.R_far (p := ⟨gb582, 4, none⟩) (Kd.R_far (p := ⟨gb582, 3, none⟩) (Kd.R_far (p := ⟨gb582, 2, none⟩) (Kd.R_far (p := ⟨gb582, 1, none⟩) (Kd.R_far (p := ⟨gb582, 0, none⟩) (Kd.R_types HO_5.out BK582.out (by decide)) (fun _ hk => hk.2) (.string ((rd_T95 t578 x12_1).f0))) (fun _ hk => hk.2) (.string ((rd_T95 t578 x12_1).f1))) (fun _ hk => hk.2) (.string ((rd_T95 t578 x12_1).f2))) (fun _ hk => hk.2) (.bool true)) (fun _ hk => hk.2) (.bool true)) (fun _ h_ => h_.1)))) (by decide) hg); have n1_ := Aside0.mk (blk_grown (g := gb582) (o := .cells #[.string ((rd_T95 t578 x12_1).f0), .string ((rd_T95 t578 x12_1).f1), .string ((rd_T95 t578 x12_1).f2), .bool true, .bool true] 95 (0, 0)) (by (with_reducible repeat (first | refine bN ?_ _ | refine bD ?_ | refine bA ?_ _)); refine bP (cs := #[.string ((rd_T95 t578 x12_1).f0), .string ((rd_T95 t578 x12_1).f1), .string ((rd_T95 t578 x12_1).f2), .bool true, .bool false]) ?_ 4 _ rfl; (with_reducible repeat (first | refine bN ?_ _ | refine bD ?_ | refine bA ?_ _)); refine bP (cs := #[.string ((rd_T95 t578 x12_1).f0), .string ((rd_T95 t578 x12_1).f1), .string ((rd_T95 t578 x12_1).f2), .bool false, .bool false]) ?_ 3 _ rfl; (with_reducible repeat (first | refine bN ?_ _ | refine bD ?_ | refine bA ?_ _)); refine bP (cs := #[.string ((rd_T95 t578 x12_1).f0), .string ((rd_T95 t578 x12_1).f1), .string (⟨#[]⟩ : BA), .bool false, .bool false]) ?_ 2 _ rfl; (with_reducible repeat (first | refine bN ?_ _ | refine bD ?_ | refine bA ?_ _)); refine bP (cs := #[.string ((rd_T95 t578 x12_1).f0), .string (⟨#[]⟩ : BA), .string (⟨#[]⟩ : BA), .bool false, .bool false]) ?_ 1 _ rfl; (with_reducible repeat (first | refine bN ?_ _ | refine bD ?_ | refine bA ?_ _)); refine bP (cs := #[.string (⟨#[]⟩ : BA), .string (⟨#[]⟩ : BA), .string (⟨#[]⟩ : BA), .bool false, .bool false]) ?_ 0 _ rfl; (with_reducible repeat (first | refine bN ?_ _ | refine bD ?_ | refine bA ?_ _)); exact BK582.out) hg (Kd.R_ne HO_5.out BK582.out (by decide))); have n2_ := Aside0.mk (hb); have n3_ := Aside0.mk (ho); clear HO_10; clear BK582; clear HB; clear HO_5; have HO_10 := n0_; have BK582 := n1_; have HB := n2_; have HO585 := n3_; clear n0_ n1_ n2_ n3_; clear ho hb hg hat))
          go_roundg k1
          case measure => have := HK1.out; omega
          case rel => exact ⟨(y583), (wrap64 (x12_1 + 1)), (by first | rfl | (simp; done) | (simp [*]; done)), H', ⟨by have := HK1.out; omega⟩, ⟨by (with_reducible repeat (first | apply Kd.R_alloc | apply Kd.R_drewN | apply Kd.R_drew)); exact HO585.out⟩, ⟨by (with_reducible repeat (first | apply Kd.R_alloc | apply Kd.R_drewN | apply Kd.R_drew)); exact Kd.R_mono HO_10.out (fun _ hk => trivial)⟩, ⟨by repeat (first | (with_reducible first | exact HB.out | apply wA | apply wN | apply w1 | refine wS ?_ GE582.out) | exact HB.out)⟩⟩
         ·rw [if_neg c16] at H
          exact absurd H (by simp)
       ·replace c12 := Bool.eq_false_iff.mpr c12
        subst c12
        have H1 : (if x5_1.length < 1954687338268 then (delta_Diff.l0 k1 (x5_1 ++ [(⟨1, 0, (rd_T95 t578 x12_1).f0, (⟨#[]⟩ : BA), (rd_T95 t578 x12_1).f2, 0⟩ : S32)]) t578 (t578.length : Int) (wrap64 (x12_1 + 1))) else (none)) = some r := by rw [if_neg (show ¬ (false = true) by decide)] at H; exact H
        clear H
        have H := H1
        clear H1
        by_cases c20 : x5_1.length < 1954687338268
        ·rw [if_pos c20] at H
         have LMc20 := Aside0.mk c20
         clear c20
         obtain ⟨y586, hy586⟩ : ∃ y_ : List (S32), y_ = (x5_1 ++ [(⟨1, 0, (rd_T95 t578 x12_1).f0, (⟨#[]⟩ : BA), (rd_T95 t578 x12_1).f2, 0⟩ : S32)]) := ⟨_, rfl⟩
         replace H : (delta_Diff.l0 k1 y586 t578 (t578.length : Int) (wrap64 (x12_1 + 1))) = some r := by first | (rw [hy586]; with_reducible exact H) | (have H2_ := (Option.bind_some _ _).symm.trans H; rw [hy586]; with_reducible exact H2_) | (have H2_ := (Option.bind_some _ _).symm.trans H; with_reducible exact H2_) | with_reducible exact H | (rw [hy586]; exact H) | exact H
         have Ny586 := Aside0.mk hy586
         clear hy586
         have H' := Aside0.mk H
         clear H
         have p581 : 0 ≤ (x12_1 : Int) := of_decide_eq_true (by first | (with_reducible assumption) | assumption)
         have q581 : x12_1 < (t578.length : Int) := of_decide_eq_true (by first | (with_reducible assumption) | assumption)
         obtain ⟨ad581, e581, hx581_0, hx581_1, hx581_2, hx581_3, hx581_4⟩ := at_T95 (Kd.R_reads' HO_10.out).2.2 x12_1 p581 q581
         (try rw [← Nbq9.out] at hx581_3)
         (try rw [← Nbq11.out] at hx581_3)
         (try rw [← Nbq9.out] at hx581_4)
         (try rw [← Nbq11.out] at hx581_4)
         cases e581
         replace p581 := eq_true p581
         replace q581 := eq_true q581
         go_wp2_with (first | ((with_reducible refine gate_dst (N := 7) rfl ?_); refine box_event ?hg (N := 7) ?hd (cs := #[.string (⟨#[]⟩ : BA), .string (⟨#[]⟩ : BA), .string (⟨#[]⟩ : BA), .bool false, .bool false]) (t := 95) ?hr ?_; (case hd => rfl); (case hg => rfl); (case hr => first | (go_simp; done) | (go_simp; rfl)); intro gb582 hg w21 hbox hb; have n0_ := Aside0.mk (Kd.R_below (kR_ HO_5.out) hb); have n1_ := Aside0.mk (Kd.R_below (Kd.R_elderB (kR_ HO_10.out) gb582 (Nat.le_of_eq hg.symm)) hb); have n2_ := Aside0.mk (wT bW_ hb); have n3_ := Aside0.mk (hbox); have n4_ := Aside0.mk ((by rw [hg]; exact (wZ bW_) : w.heap.size ≤ gb582)); have n5_ := n4_; clear HO_5; clear HO_10; clear HB; have HO_5 := n0_; have HO_10 := n1_; have HB := n2_; have BK582 := n3_; have GW582 := n4_; have GE582 := n5_; clear n0_ n1_ n2_ n3_ n4_ n5_; clear hb hbox hg; have hcz22_0 := cz_ BK582.out 0; have hcz22_1 := cz_ BK582.out 1; have hcz22_2 := cz_ BK582.out 2; have hcz22_3 := cz_ BK582.out 3; have hcz22_4 := cz_ BK582.out 4; have hfz22_0 := bF BK582.out 0; have hfz22_1 := bF BK582.out 1; have hfz22_2 := bF BK582.out 2; have hfz22_3 := bF BK582.out 3; have hfz22_4 := bF BK582.out 4) | ((with_reducible refine gate_builtin (b := .append) (xs := #[.tmp 37, .tmp 43]) rfl ?_); at_builtin; refine Kd.R_append k32 (w0 := w) w.heap.size rfl (.tmp 37) (.tmp 43) 22 32 (.agg #[(.int .u8 0), (.int .i64 0), (.string ⟨#[]⟩), (.string ⟨#[]⟩), (.string ⟨#[]⟩), (.int .u64 0)]) 72 rfl Try.underlying22 info32 rfl (by decide) (by omega) u5 x5_1 (⟨1, 0, (rd_T95 t578 x12_1).f0, (⟨#[]⟩ : BA), (rd_T95 t578 x12_1).f2, 0⟩ : S32) [.int .u8 1, .int .i64 0, .string ((rd_T95 t578 x12_1).f0), .string (⟨#[]⟩ : BA), .string ((rd_T95 t578 x12_1).f2), .int .u64 0] (fun _ => True) (fun _ => False) rfl (by first | (go_simp; done) | (go_simp; rfl)) ?aP (fun _ hk => hk.elim) ?aF ?aO ?aB ?aS ?aL ?_; (case aP => exact k32_mkM _ _ _ (⟨1, 0, (rd_T95 t578 x12_1).f0, (⟨#[]⟩ : BA), (rd_T95 t578 x12_1).f2, 0⟩ : S32)); (case aB => exact (bS1_ GE582.out)); (case aF => exact (fun _ _ => trivial)); (case aO => exact (by (with_reducible repeat (first | apply Kd.R_alloc | apply Kd.R_drewN | apply Kd.R_drew)); exact Kd.R_mono (Kd.R_far (p := ⟨gb582, 4, none⟩) (Kd.R_far (p := ⟨gb582, 3, none⟩) (Kd.R_far (p := ⟨gb582, 2, none⟩) (Kd.R_far (p := ⟨gb582, 1, none⟩) (Kd.R_far (p := ⟨gb582, 0, none⟩) (Kd.R_types HO_5.out BK582.out (by decide)) (fun _ hk => hk.2) (.string ((rd_T95 t578 x12_1).f0))) (fun _ hk => hk.2) (.string ((rd_T95 t578 x12_1).f1))) (fun _ hk => hk.2) (.string ((rd_T95 t578 x12_1).f2))) (fun _ hk => hk.2) (.bool true)) (fun _ hk => hk.2) (.bool false)) (fun _ hk => trivial))); (case aS => exact (wZ (bS1_ GE582.out))); (case aL => have := LMc20.out; omega); intro v587 w23 ho hb hg hat; rw [← Ny586.out] at ho; have n0_ := Aside0.mk (Kd.R_over' (by (with_reducible repeat (first | apply Kd.R_alloc | apply Kd.R_drewN | apply Kd.R_drew)); exact (Kd.R_mono (Kd.R_far (p := ⟨gb582, 4, none⟩) (Kd.R_far (p := ⟨gb582, 3, none⟩) (Kd.R_far (p := ⟨gb582, 2, none⟩) (Kd.R_far (p := ⟨gb582, 1, none⟩) (Kd.R_far (p := ⟨gb582, 0, none⟩) (Kd.R_mono HO_10.out (fun k_ hk => (⟨hk, hk.2⟩ : _ ∧ k_ ≠ gb582))) (fun _ hk => hk.2) (.string ((rd_T95 t578 x12_1).f0))) (fun _ hk => hk.2) (.string ((rd_T95 t578 x12_1).f1))) (fun _ hk => hk.2) (.string ((rd_T95 t578 x12_1).f2))) (fun _ hk => hk.2) (.bool true)) (fun _ hk => hk.2) (.bool false)) (fun _ h_ => h_.1))) (Kd.R_typed (by (with_reducible repeat (first | apply Kd.R_alloc | apply Kd.R_drewN | apply Kd.R_drew)); exact (Kd.R_mono (Kd.R_far (p := ⟨gb582, 4, none⟩) (Kd.R_far (p := ⟨gb582, 3, none⟩) (Kd.R_far (p := ⟨gb582, 2, none⟩) (Kd.R_far (p := ⟨gb582, 1, none⟩) (Kd.R_far (p := ⟨gb582, 0, none⟩) (Kd.R_types HO_5.out BK582.out (by decide)) (fun _ hk => hk.2) (.string ((rd_T95 t578 x12_1).f0))) (fun _ hk => hk.2) (.string ((rd_T95 t578 x12_1).f1))) (fun _ hk => hk.2) (.string ((rd_T95 t578 x12_1).f2))) (fun _ hk => hk.2) (.bool true)) (fun _ hk => hk.2) (.bool false)) (fun _ h_ => h_.1)))) (by decide) hg); have n1_ := Aside0.mk (blk_grown (g := gb582) (o := .cells #[.string ((rd_T95 t578 x12_1).f0), .string ((rd_T95 t578 x12_1).f1), .string ((rd_T95 t578 x12_1).f2), .bool true, .bool false] 95 (0, 0)) (by (with_reducible repeat (first | refine bN ?_ _ | refine bD ?_ | refine bA ?_ _)); refine bP (cs := #[.string ((rd_T95 t578 x12_1).f0), .string ((rd_T95 t578 x12_1).f1), .string ((rd_T95 t578 x12_1).f2), .bool true, .bool false]) ?_ 4 _ rfl; (with_reducible repeat (first | refine bN ?_ _ | refine bD ?_ | refine bA ?_ _)); refine bP (cs := #[.string ((rd_T95 t578 x12_1).f0), .string ((rd_T95 t578 x12_1).f1), .string ((rd_T95 t578 x12_1).f2), .bool false, .bool false]) ?_ 3 _ rfl; (with_reducible repeat (first | refine bN ?_ _ | refine bD ?_ | refine bA ?_ _)); refine bP (cs := #[.string ((rd_T95 t578 x12_1).f0), .string ((rd_T95 t578 x12_1).f1), .string (⟨#[]⟩ : BA), .bool false, .bool false]) ?_ 2 _ rfl; (with_reducible repeat (first | refine bN ?_ _ | refine bD ?_ | refine bA ?_ _)); refine bP (cs := #[.string ((rd_T95 t578 x12_1).f0), .string (⟨#[]⟩ : BA), .string (⟨#[]⟩ : BA), .bool false, .bool false]) ?_ 1 _ rfl; (with_reducible repeat (first | refine bN ?_ _ | refine bD ?_ | refine bA ?_ _)); refine bP (cs := #[.string (⟨#[]⟩ : BA), .string (⟨#[]⟩ : BA), .string (⟨#[]⟩ : BA), .bool false, .bool false]) ?_ 0 _ rfl; (with_reducible repeat (first | refine bN ?_ _ | refine bD ?_ | refine bA ?_ _)); exact BK582.out) hg (Kd.R_ne HO_5.out BK582.out (by decide))); have n2_ := Aside0.mk (hb); have n3_ := Aside0.mk (ho); clear HO_10; clear BK582; clear HB; clear HO_5; have HO_10 := n0_; have BK582 := n1_; have HB := n2_; have HO588 := n3_; clear n0_ n1_ n2_ n3_; clear ho hb hg hat))
         go_roundg k1
         case measure => have := HK1.out; omega
         case rel => exact ⟨(y586), (wrap64 (x12_1 + 1)), (by first | rfl | (simp; done) | (simp [*]; done)), H', ⟨by have := HK1.out; omega⟩, ⟨by (with_reducible repeat (first | apply Kd.R_alloc | apply Kd.R_drewN | apply Kd.R_drew)); exact HO588.out⟩, ⟨by (with_reducible repeat (first | apply Kd.R_alloc | apply Kd.R_drewN | apply Kd.R_drew)); exact Kd.R_mono HO_10.out (fun _ hk => trivial)⟩, ⟨by repeat (first | (with_reducible first | exact HB.out | apply wA | apply wN | apply w1 | refine wS ?_ GE582.out) | exact HB.out)⟩⟩
        ·rw [if_neg c20] at H
         exact absurd H (by simp)
      ·replace c10 := Bool.eq_false_iff.mpr c10
       subst c10
       have H1 : (if x5_1.length < 1954687338268 then (delta_Diff.l0 k1 (x5_1 ++ [(⟨2, 0, (rd_T95 t578 x12_1).f0, (⟨#[]⟩ : BA), (⟨#[]⟩ : BA), 0⟩ : S32)]) t578 (t578.length : Int) (wrap64 (x12_1 + 1))) else (none)) = some r := by rw [if_neg (show ¬ (false = true) by decide)] at H; exact H
       clear H
       have H := H1
       clear H1
       by_cases c24 : x5_1.length < 1954687338268
       ·rw [if_pos c24] at H
        have LMc24 := Aside0.mk c24
        clear c24
        obtain ⟨y589, hy589⟩ : ∃ y_ : List (S32), y_ = (x5_1 ++ [(⟨2, 0, (rd_T95 t578 x12_1).f0, (⟨#[]⟩ : BA), (⟨#[]⟩ : BA), 0⟩ : S32)]) := ⟨_, rfl⟩
        replace H : (delta_Diff.l0 k1 y589 t578 (t578.length : Int) (wrap64 (x12_1 + 1))) = some r := by first | (rw [hy589]; with_reducible exact H) | (have H2_ := (Option.bind_some _ _).symm.trans H; rw [hy589]; with_reducible exact H2_) | (have H2_ := (Option.bind_some _ _).symm.trans H; with_reducible exact H2_) | with_reducible exact H | (rw [hy589]; exact H) | exact H
        have Ny589 := Aside0.mk hy589
        clear hy589
        have H' := Aside0.mk H
        clear H
        have p581 : 0 ≤ (x12_1 : Int) := of_decide_eq_true (by first | (with_reducible assumption) | assumption)
        have q581 : x12_1 < (t578.length : Int) := of_decide_eq_true (by first | (with_reducible assumption) | assumption)
        obtain ⟨ad581, e581, hx581_0, hx581_1, hx581_2, hx581_3, hx581_4⟩ := at_T95 (Kd.R_reads' HO_10.out).2.2 x12_1 p581 q581
        (try rw [← Nbq9.out] at hx581_3)
        (try rw [← Nbq9.out] at hx581_4)
        cases e581
        replace p581 := eq_true p581
        replace q581 := eq_true q581
        go_wp2_with (first | ((with_reducible refine gate_dst (N := 7) rfl ?_); refine box_event ?hg (N := 7) ?hd (cs := #[.string (⟨#[]⟩ : BA), .string (⟨#[]⟩ : BA), .string (⟨#[]⟩ : BA), .bool false, .bool false]) (t := 95) ?hr ?_; (case hd => rfl); (case hg => rfl); (case hr => first | (go_simp; done) | (go_simp; rfl)); intro gb582 hg w25 hbox hb; have n0_ := Aside0.mk (Kd.R_below (kR_ HO_5.out) hb); have n1_ := Aside0.mk (Kd.R_below (Kd.R_elderB (kR_ HO_10.out) gb582 (Nat.le_of_eq hg.symm)) hb); have n2_ := Aside0.mk (wT bW_ hb); have n3_ := Aside0.mk (hbox); have n4_ := Aside0.mk ((by rw [hg]; exact (wZ bW_) : w.heap.size ≤ gb582)); have n5_ := n4_; clear HO_5; clear HO_10; clear HB; have HO_5 := n0_; have HO_10 := n1_; have HB := n2_; have BK582 := n3_; have GW582 := n4_; have GE582 := n5_; clear n0_ n1_ n2_ n3_ n4_ n5_; clear hb hbox hg; have hcz26_0 := cz_ BK582.out 0; have hcz26_1 := cz_ BK582.out 1; have hcz26_2 := cz_ BK582.out 2; have hcz26_3 := cz_ BK582.out 3; have hcz26_4 := cz_ BK582.out 4; have hfz26_0 := bF BK582.out 0; have hfz26_1 := bF BK582.out 1; have hfz26_2 := bF BK582.out 2; have hfz26_3 := bF BK582.out 3; have hfz26_4 := bF BK582.out 4) | ((with_reducible refine gate_builtin (b := .append) (xs := #[.tmp 20, .tmp 24]) rfl ?_); at_builtin; refine Kd.R_append k32 (w0 := w) w.heap.size rfl (.tmp 20) (.tmp 24) 22 32 (.agg #[(.int .u8 0), (.int .i64 0), (.string ⟨#[]⟩), (.string ⟨#[]⟩), (.string ⟨#[]⟩), (.int .u64 0)]) 72 rfl Try.underlying22 info32 rfl (by decide) (by omega) u5 x5_1 (⟨2, 0, (rd_T95 t578 x12_1).f0, (⟨#[]⟩ : BA), (⟨#[]⟩ : BA), 0⟩ : S32) [.int .u8 2, .int .i64 0, .string ((rd_T95 t578 x12_1).f0), .string (⟨#[]⟩ : BA), .string (⟨#[]⟩ : BA), .int .u64 0] (fun _ => True) (fun _ => False) rfl (by first | (go_simp; done) | (go_simp; rfl)) ?aP (fun _ hk => hk.elim) ?aF ?aO ?aB ?aS ?aL ?_; (case aP => exact k32_mkM _ _ _ (⟨2, 0, (rd_T95 t578 x12_1).f0, (⟨#[]⟩ : BA), (⟨#[]⟩ : BA), 0⟩ : S32)); (case aB => exact (bS1_ GE582.out)); (case aF => exact (fun _ _ => trivial)); (case aO => exact (by (with_reducible repeat (first | apply Kd.R_alloc | apply Kd.R_drewN | apply Kd.R_drew)); exact Kd.R_mono (Kd.R_far (p := ⟨gb582, 4, none⟩) (Kd.R_far (p := ⟨gb582, 3, none⟩) (Kd.R_far (p := ⟨gb582, 2, none⟩) (Kd.R_far (p := ⟨gb582, 1, none⟩) (Kd.R_far (p := ⟨gb582, 0, none⟩) (Kd.R_types HO_5.out BK582.out (by decide)) (fun _ hk => hk.2) (.string ((rd_T95 t578 x12_1).f0))) (fun _ hk => hk.2) (.string ((rd_T95 t578 x12_1).f1))) (fun _ hk => hk.2) (.string ((rd_T95 t578 x12_1).f2))) (fun _ hk => hk.2) (.bool false)) (fun _ hk => hk.2) (.bool ((rd_T95 t578 x12_1).f4))) (fun _ hk => trivial))); (case aS => exact (wZ (bS1_ GE582.out))); (case aL => have := LMc24.out; omega); intro v590 w27 ho hb hg hat; rw [← Ny589.out] at ho; have n0_ := Aside0.mk (Kd.R_over' (by (with_reducible repeat (first | apply Kd.R_alloc | apply Kd.R_drewN | apply Kd.R_drew)); exact (Kd.R_mono (Kd.R_far (p := ⟨gb582, 4, none⟩) (Kd.R_far (p := ⟨gb582, 3, none⟩) (Kd.R_far (p := ⟨gb582, 2, none⟩) (Kd.R_far (p := ⟨gb582, 1, none⟩) (Kd.R_far (p := ⟨gb582, 0, none⟩) (Kd.R_mono HO_10.out (fun k_ hk => (⟨hk, hk.2⟩ : _ ∧ k_ ≠ gb582))) (fun _ hk => hk.2) (.string ((rd_T95 t578 x12_1).f0))) (fun _ hk => hk.2) (.string ((rd_T95 t578 x12_1).f1))) (fun _ hk => hk.2) (.string ((rd_T95 t578 x12_1).f2))) (fun _ hk => hk.2) (.bool false)) (fun _ hk => hk.2) (.bool ((rd_T95 t578 x12_1).f4))) (fun _ h_ => h_.1))) (Kd.R_typed (by (with_reducible repeat (first | apply Kd.R_alloc | apply Kd.R_drewN | apply Kd.R_drew)); exact (Kd.R_mono (Kd.R_far (p := ⟨gb582, 4, none⟩) (Kd.R_far (p := ⟨gb582, 3, none⟩) (Kd.R_far (p := ⟨gb582, 2, none⟩) (Kd.R_far (p := ⟨gb582, 1, none⟩) (Kd.R_far (p := ⟨gb582, 0, none⟩) (Kd.R_types HO_5.out BK582.out (by decide)) (fun _ hk => hk.2) (.string ((rd_T95 t578 x12_1).f0))) (fun _ hk => hk.2) (.string ((rd_T95 t578 x12_1).f1))) (fun _ hk => hk.2) (.string ((rd_T95 t578 x12_1).f2))) (fun _ hk => hk.2) (.bool false)) (fun _ hk => hk.2) (.bool ((rd_T95 t578 x12_1).f4))) (fun _ h_ => h_.1)))) (by decide) hg); have n1_ := Aside0.mk (blk_grown (g := gb582) (o := .cells #[.string ((rd_T95 t578 x12_1).f0), .string ((rd_T95 t578 x12_1).f1), .string ((rd_T95 t578 x12_1).f2), .bool false, .bool ((rd_T95 t578 x12_1).f4)] 95 (0, 0)) (by (with_reducible repeat (first | refine bN ?_ _ | refine bD ?_ | refine bA ?_ _)); refine bP (cs := #[.string ((rd_T95 t578 x12_1).f0), .string ((rd_T95 t578 x12_1).f1), .string ((rd_T95 t578 x12_1).f2), .bool false, .bool false]) ?_ 4 _ rfl; (with_reducible repeat (first | refine bN ?_ _ | refine bD ?_ | refine bA ?_ _)); refine bP (cs := #[.string ((rd_T95 t578 x12_1).f0), .string ((rd_T95 t578 x12_1).f1), .string ((rd_T95 t578 x12_1).f2), .bool false, .bool false]) ?_ 3 _ rfl; (with_reducible repeat (first | refine bN ?_ _ | refine bD ?_ | refine bA ?_ _)); refine bP (cs := #[.string ((rd_T95 t578 x12_1).f0), .string ((rd_T95 t578 x12_1).f1), .string (⟨#[]⟩ : BA), .bool false, .bool false]) ?_ 2 _ rfl; (with_reducible repeat (first | refine bN ?_ _ | refine bD ?_ | refine bA ?_ _)); refine bP (cs := #[.string ((rd_T95 t578 x12_1).f0), .string (⟨#[]⟩ : BA), .string (⟨#[]⟩ : BA), .bool false, .bool false]) ?_ 1 _ rfl; (with_reducible repeat (first | refine bN ?_ _ | refine bD ?_ | refine bA ?_ _)); refine bP (cs := #[.string (⟨#[]⟩ : BA), .string (⟨#[]⟩ : BA), .string (⟨#[]⟩ : BA), .bool false, .bool false]) ?_ 0 _ rfl; (with_reducible repeat (first | refine bN ?_ _ | refine bD ?_ | refine bA ?_ _)); exact BK582.out) hg (Kd.R_ne HO_5.out BK582.out (by decide))); have n2_ := Aside0.mk (hb); have n3_ := Aside0.mk (ho); clear HO_10; clear BK582; clear HB; clear HO_5; have HO_10 := n0_; have BK582 := n1_; have HB := n2_; have HO591 := n3_; clear n0_ n1_ n2_ n3_; clear ho hb hg hat))
        go_roundg k1
        case measure => have := HK1.out; omega
        case rel => exact ⟨(y589), (wrap64 (x12_1 + 1)), (by first | rfl | (simp; done) | (simp [*]; done)), H', ⟨by have := HK1.out; omega⟩, ⟨by (with_reducible repeat (first | apply Kd.R_alloc | apply Kd.R_drewN | apply Kd.R_drew)); exact HO591.out⟩, ⟨by (with_reducible repeat (first | apply Kd.R_alloc | apply Kd.R_drewN | apply Kd.R_drew)); exact Kd.R_mono HO_10.out (fun _ hk => trivial)⟩, ⟨by repeat (first | (with_reducible first | exact HB.out | apply wA | apply wN | apply w1 | refine wS ?_ GE582.out) | exact HB.out)⟩⟩
       ·rw [if_neg c24] at H
        exact absurd H (by simp)
     ·rw [if_neg c8] at H
      exact absurd H (by simp)
    ·rw [if_neg c7] at H
     exact absurd H (by simp)
   ·rw [if_neg c6] at H
    have c6b0 : decide (x12_1 < (t578.length : Int)) = false := decide_eq_false c6
    clear c6
    obtain rfl := Option.some.inj H
    go_wp2
    go_ret
    exact ⟨_, by first | rfl | (simp [errW_none, errW_some] <;> rfl) | (simp [*, errW_none, errW_some] <;> rfl), by (with_reducible repeat (first | apply Kd.R_alloc | apply Kd.R_drewN | apply Kd.R_drew)); exact HO_5.out, by repeat (first | (with_reducible first | exact HB.out | apply wA | apply wN | apply w1) | exact HB.out)⟩
mutual
def catchmentref37_keys.l0 : Nat → List (List (S39)) → List ByteArray → Int → Option (List ByteArray)
 | 0, _, _, _ => none
 | k + 1, x0, x3, x4 => if x4 < (x0.length : Int) then (catchmentref37_keys.l1 k x0 x3 x4 0) else (some x3)
def catchmentref37_keys.l1 : Nat → List (List (S39)) → List ByteArray → Int → Int → Option (List ByteArray)
 | 0, _, _, _, _ => none
 | k + 1, x0, x3, x4, x5 => if 0 ≤ x4 then (if x4 < (x0.length : Int) then (if x5 < ((rd_L7 x0 x4).length : Int) then (if 0 ≤ x5 then ((catchmentref05_Into.f k x3 ((rd_T39 (rd_L7 x0 x4) x5).f0)).bind fun t621 => (catchmentref37_keys.l1 k x0 t621 x4 (wrap64 (x5 + 1)))) else (none)) else (catchmentref37_keys.l0 k x0 x3 (wrap64 (x4 + 1)))) else (none)) else (none)
end
def catchmentref37_keys.f (k : Nat) (l0 : List (List (S39))) : Option (List ByteArray) := catchmentref37_keys.l0 k l0 (([] : List ByteArray)) 0
set_option maxHeartbeats 8000000 in
set_option maxRecDepth 100000 in
theorem catchmentref37_keys.calls (k : Nat) (A0 : Option Addr) (c0 : Nat) (l0 : List (List (S39))) (r : List ByteArray) (w : World) (hr0 : Kd.C (Kd.slice 39 k39) w A0 l0.length l0) (hc0 : l0.length ≤ c0) (h : catchmentref37_keys.f k l0 = some r) :
  Calls Try.prog 79 #[.slice A0 l0.length c0] w fun e w' => ∃ v0_ : Value, e = .returned (v0_) ∧ Kd.V Kd.string 9 w' w.heap.size (fun k_ => (w.heap.size ≤ k_)) v0_ r ∧ Below w.heap.size w w' := by
 have HR0 := Aside0.mk hr0
 have HC0 := Aside0.mk hc0
 clear hr0 hc0
 have HB := Aside0.mk (Below.refl w.heap.size w)
 have H : (catchmentref37_keys.l0 k l0 (([] : List ByteArray)) 0) = some r := h
 clear h
 obtain ⟨y615, hy615⟩ : ∃ y_ : List ByteArray, y_ = (([] : List ByteArray)) := ⟨_, rfl⟩
 replace H : (catchmentref37_keys.l0 k l0 y615 0) = some r := by first | (rw [hy615]; with_reducible exact H) | (have H2_ := (Option.bind_some _ _).symm.trans H; rw [hy615]; with_reducible exact H2_) | (have H2_ := (Option.bind_some _ _).symm.trans H; with_reducible exact H2_) | with_reducible exact H | (rw [hy615]; exact H) | exact H
 have Ny615 := Aside0.mk hy615
 clear hy615
 have H' := Aside0.mk H
 clear H
 go_enter Try.func79, Try.ntmps79
 go_wp2_with (first | ((with_reducible refine gate_dst (N := 6) rfl ?_); refine Kd.R_lit Kd.string _ 9 ?hg (N := 6) ?hd (xs := ([] : List ByteArray)) (inner := []) (ok := fun _ => True) (okp := fun _ => True) ?hr ?hp (fun _ hk => hk) trivial (Below.refl _ _) (Nat.le_refl _) (by simp) ?_; (case hd => rfl); (case hg => rfl); (case hr => first | (go_simp; done) | (go_simp; rfl)); (case hp => exact (Reps.none _ _)); intro v616 w2 ho3 hb hg_ hnew_; clear hg_ hnew_; (first | rw [← Ny615.out] at ho3 | (simp only [Int.reduceToNat] at ho3; rw [← Ny615.out] at ho3)); have n0_ := Aside0.mk (Kd.R_lower (Kd.R_newM (M := fun k_ => (w.heap.size ≤ k_)) ho3 (wZ bW_) (fun k_ h_ => h_)) (wZ bW_)); have n1_ := Aside0.mk (wT bW_ hb); clear HB; have HO617 := n0_; have HB := n1_; clear n0_ n1_; clear hb ho3))
 go_loopg [3, 4] k (fun kq v3 v4 w' => ∃ (x3_1 : List ByteArray) (x4_1 : Int), v4 = .int .i64 x4_1 ∧ Aside0 (catchmentref37_keys.l0 kq l0 x3_1 x4_1 = some r) ∧ Aside0 (kq ≤ k) ∧ Aside0 (Kd.V Kd.string 9 w' w.heap.size (fun k_ => (w.heap.size ≤ k_)) v3 x3_1) ∧ Aside0 (Below w.heap.size w w'))
 case atStart => exact ⟨(y615), (0), (by first | rfl | (simp; done) | (simp [*]; done)), H', ⟨Nat.le_refl _⟩, ⟨Kd.R_V (by (with_reducible repeat (first | apply Kd.R_alloc | apply Kd.R_drewN | apply Kd.R_drew)); exact Kd.R_mono HO617.out (fun _ hk => hk.1))⟩, ⟨by repeat (first | (with_reducible first | exact HB.out | apply wA | apply wN | apply w1) | exact HB.out)⟩⟩
 case round =>
  clear H'
  try clear p2
  obtain ⟨x3_1, x4_1, rfl, HA, HK1, HO_3, HB⟩ := hrel
  cases gk with
  | zero => exact absurd HA.out (by simp [catchmentref37_keys.l0])
  | succ k1 =>
   have H := HA.out
   clear HA
   simp only [catchmentref37_keys.l0] at H
   by_cases c4 : x4_1 < (l0.length : Int)
   ·rw [if_pos c4] at H
    have c4b0 : decide (x4_1 < (l0.length : Int)) = true := decide_eq_true c4
    clear c4
    have H' := Aside0.mk H
    clear H
    go_wp2
    go_loopg [3, 5] k1 (fun kq v3 v5 w' => ∃ (x3_2 : List ByteArray) (x5_2 : Int), v5 = .int .i64 x5_2 ∧ Aside0 (catchmentref37_keys.l1 kq l0 x3_2 x4_1 x5_2 = some r) ∧ Aside0 (kq ≤ k1) ∧ Aside0 (Kd.V Kd.string 9 w' w.heap.size (fun k_ => (w.heap.size ≤ k_)) v3 x3_2) ∧ Aside0 (Below w.heap.size w w'))
    case atStart => exact ⟨(x3_1), (0), (by first | rfl | (simp; done) | (simp [*]; done)), H', ⟨Nat.le_refl _⟩, ⟨by (with_reducible repeat (first | apply Kd.V_alloc | apply Kd.V_drewN | apply Kd.V_drew)); exact HO_3.out⟩, ⟨by repeat (first | (with_reducible first | exact HB.out | apply wA | apply wN | apply w1) | exact HB.out)⟩⟩
    case round =>
     clear H'
     try clear p2
     try clear c4
     try clear c4b0
     try clear p2
     obtain ⟨x3_2, x5_2, rfl, HA, HK2, HO_3, HB⟩ := hrel
     cases gk with
     | zero => exact absurd HA.out (by simp [catchmentref37_keys.l1])
     | succ k2 =>
      have H := HA.out
      clear HA
      simp only [catchmentref37_keys.l1] at H
      by_cases c5 : 0 ≤ x4_1
      ·rw [if_pos c5] at H
       have c5b0 : decide (0 ≤ x4_1) = true := decide_eq_true c5
       clear c5
       by_cases c6 : x4_1 < (l0.length : Int)
       ·rw [if_pos c6] at H
        have c6b0 : decide (x4_1 < (l0.length : Int)) = true := decide_eq_true c6
        clear c6
        by_cases c7 : x5_2 < ((rd_L7 l0 x4_1).length : Int)
        ·rw [if_pos c7] at H
         have c7b0 : decide (x5_2 < ((rd_L7 l0 x4_1).length : Int)) = true := decide_eq_true c7
         clear c7
         by_cases c8 : 0 ≤ x5_2
         ·rw [if_pos c8] at H
          have c8b0 : decide (0 ≤ x5_2) = true := decide_eq_true c8
          clear c8
          replace H := Option.bind_eq_some_iff.mp H
          obtain ⟨t621, A90, H⟩ := H
          replace H : (catchmentref37_keys.l1 k2 l0 t621 x4_1 (wrap64 (x5_2 + 1))) = some r := H
          have A9 := Aside0.mk A90
          clear A90
          have H' := Aside0.mk H
          clear H
          have p618 : 0 ≤ (x4_1 : Int) := of_decide_eq_true (by first | (with_reducible assumption) | assumption)
          have q618 : x4_1 < (l0.length : Int) := of_decide_eq_true (by first | (with_reducible assumption) | assumption)
          obtain ⟨ad618, A618_0, c618_0, e618, hx618_0, hl618_0, hi618_0⟩ := at_L7 HR0.out x4_1 p618 q618
          cases e618
          replace hx618_0 := (HB.out.cell (World.block_lt_of_cell? w _ hx618_0)).trans hx618_0
          have HR618_0 := Aside0.mk hi618_0
          have HC618_0 := Aside0.mk hl618_0
          clear hi618_0 hl618_0
          replace p618 := eq_true p618
          replace q618 := eq_true q618
          have p619 : 0 ≤ (x4_1 : Int) := of_decide_eq_true (by first | (with_reducible assumption) | assumption)
          have q619 : x4_1 < (l0.length : Int) := of_decide_eq_true (by first | (with_reducible assumption) | assumption)
          obtain ⟨ad619, A619_0, c619_0, e619, hx619_0, hl619_0, hi619_0⟩ := at_L7 HR0.out x4_1 p619 q619
          obtain rfl : ad618 = ad619 := (by injection e619)
          replace hx619_0 := (HB.out.cell (World.block_lt_of_cell? w _ hx619_0)).trans hx619_0
          have HR619_0 := Aside0.mk hi619_0
          have HC619_0 := Aside0.mk hl619_0
          clear hi619_0 hl619_0
          replace p619 := eq_true p619
          replace q619 := eq_true q619
          have ea_ := Option.some.inj (hx618_0.symm.trans hx619_0)
          injection ea_ with ea_ en_ ec_
          subst ea_
          subst ec_
          clear en_
          have p620 : 0 ≤ (x5_2 : Int) := of_decide_eq_true (by first | (with_reducible assumption) | assumption)
          have q620 : x5_2 < ((rd_L7 l0 x4_1).length : Int) := of_decide_eq_true (by first | (with_reducible assumption) | assumption)
          obtain ⟨ad620, e620, hx620_0, hx620_1⟩ := at_T39 HR619_0.out x5_2 p620 q620
          cases e620
          replace hx620_0 := (HB.out.cell (World.block_lt_of_cell? w _ hx620_0)).trans hx620_0
          replace hx620_1 := (HB.out.cell (World.block_lt_of_cell? w _ hx620_1)).trans hx620_1
          replace p620 := eq_true p620
          replace q620 := eq_true q620
          obtain ⟨Ao10, co10, eo10⟩ := Kd.V_slice HO_3.out
          subst eo10
          go_wp2_with (first | ((with_reducible refine gate_callee (f := 77) rfl ?_); refine goesL_ (some 31) rfl rfl Try.func77 (by kernel_rfl) rfl #[.slice Ao10 x3_2.length co10, .string ((rd_T39 (rd_L7 l0 x4_1) x5_2).f0)] rfl mS_ ?_; (with_reducible refine (catchmentref05_Into.calls k2 (fun k_ => (w.heap.size ≤ k_)) _ _ x3_2 ((rd_T39 (rd_L7 l0 x4_1) x5_2).f0) t621 _ ?side1 A9.out).mono ?_); (case side1 => exact HO_3.out); rintro e w11 ⟨v622, rfl, ho0, hb⟩; refine ⟨_, rfl, ?_⟩; have n0_ := Aside0.mk (Kd.V_below (kV_ HO_3.out) hb); have n1_ := Aside0.mk (Kd.V_lower (Kd.V_mono (ok' := fun k_ => (w.heap.size ≤ k_)) ho0 (fun k_ hk_ => Or.elim hk_ (fun hs_ => hs_) (fun hn_ => (Nat.le_trans (wZ bW_) hn_)))) (wZ bW_)); have n2_ := Aside0.mk (wT bW_ hb); clear HO_3; clear HB; have HO_3 := n0_; have HO623 := n1_; have HB := n2_; clear n0_ n1_ n2_; (try clear hb); (try clear hb2); (try clear hk); (try clear hi); (try clear ho0)))
          go_roundg k2
          case measure => have := HK1.out; have := HK2.out; omega
          case rel => exact ⟨(t621), (wrap64 (x5_2 + 1)), (by first | rfl | (simp; done) | (simp [*]; done)), H', ⟨by have := HK1.out; have := HK2.out; omega⟩, ⟨by (with_reducible repeat (first | apply Kd.V_alloc | apply Kd.V_drewN | apply Kd.V_drew)); exact HO623.out⟩, ⟨by repeat (first | (with_reducible first | exact HB.out | apply wA | apply wN | apply w1) | exact HB.out)⟩⟩
         ·rw [if_neg c8] at H
          exact absurd H (by simp)
        ·rw [if_neg c7] at H
         have c7b0 : decide (x5_2 < ((rd_L7 l0 x4_1).length : Int)) = false := decide_eq_false c7
         clear c7
         have H' := Aside0.mk H
         clear H
         have p618 : 0 ≤ (x4_1 : Int) := of_decide_eq_true (by first | (with_reducible assumption) | assumption)
         have q618 : x4_1 < (l0.length : Int) := of_decide_eq_true (by first | (with_reducible assumption) | assumption)
         obtain ⟨ad618, A618_0, c618_0, e618, hx618_0, hl618_0, hi618_0⟩ := at_L7 HR0.out x4_1 p618 q618
         cases e618
         replace hx618_0 := (HB.out.cell (World.block_lt_of_cell? w _ hx618_0)).trans hx618_0
         have HR618_0 := Aside0.mk hi618_0
         have HC618_0 := Aside0.mk hl618_0
         clear hi618_0 hl618_0
         replace p618 := eq_true p618
         replace q618 := eq_true q618
         go_wp2
         go_roundg k2
         case measure => have := HK1.out; have := HK2.out; omega
         case rel => exact ⟨(x3_2), (wrap64 (x4_1 + 1)), (by first | rfl | (simp; done) | (simp [*]; done)), H', ⟨by have := HK1.out; have := HK2.out; omega⟩, ⟨by (with_reducible repeat (first | apply Kd.V_alloc | apply Kd.V_drewN | apply Kd.V_drew)); exact HO_3.out⟩, ⟨by repeat (first | (with_reducible first | exact HB.out | apply wA | apply wN | apply w1) | exact HB.out)⟩⟩
       ·rw [if_neg c6] at H
        exact absurd H (by simp)
      ·rw [if_neg c5] at H
       exact absurd H (by simp)
   ·rw [if_neg c4] at H
    have c4b0 : decide (x4_1 < (l0.length : Int)) = false := decide_eq_false c4
    clear c4
    obtain rfl := Option.some.inj H
    go_wp2
    go_ret
    exact ⟨_, by first | rfl | (simp [errW_none, errW_some] <;> rfl) | (simp [*, errW_none, errW_some] <;> rfl), by (with_reducible repeat (first | apply Kd.V_alloc | apply Kd.V_drewN | apply Kd.V_drew)); exact HO_3.out, by repeat (first | (with_reducible first | exact HB.out | apply wA | apply wN | apply w1) | exact HB.out)⟩
def catchmentref37_same.f (k : Nat) (l0 : List (S39)) (l1 : List (S39)) (a2 : BA) : Option (Bool) := (catchmentref05_Find.f k l0 a2).bind fun bt624 => ((catchmentref05_Find.f k l1 a2).bind fun bt626 => (if bt624.1.toList = bt626.1.toList then (some (bt624.2 == bt626.2)) else (some false)))
set_option maxHeartbeats 8000000 in
set_option maxRecDepth 100000 in
theorem catchmentref37_same.calls (k : Nat) (A0 : Option Addr) (c0 : Nat) (l0 : List (S39)) (A1 : Option Addr) (c1 : Nat) (l1 : List (S39)) (a2 : BA) (r : Bool) (w : World) (hr0 : Kd.C k39 w A0 l0.length l0) (hc0 : l0.length ≤ c0) (hr1 : Kd.C k39 w A1 l1.length l1) (hc1 : l1.length ≤ c1) (h : catchmentref37_same.f k l0 l1 a2 = some r) :
  Calls Try.prog 80 #[.slice A0 l0.length c0, .slice A1 l1.length c1, .string a2] w fun e w' => e = .returned (.bool r) ∧ Drawn0 w w' := by
 have HR0 := Aside0.mk hr0
 have HC0 := Aside0.mk hc0
 clear hr0 hc0
 have HR1 := Aside0.mk hr1
 have HC1 := Aside0.mk hc1
 clear hr1 hc1
 have H : ((catchmentref05_Find.f k l0 a2).bind fun bt624 => ((catchmentref05_Find.f k l1 a2).bind fun bt626 => (if bt624.1.toList = bt626.1.toList then (some (bt624.2 == bt626.2)) else (some false)))) = some r := h
 clear h
 replace H := Option.bind_eq_some_iff.mp H
 obtain ⟨⟨t624, t625⟩, A40, H⟩ := H
 replace H : ((catchmentref05_Find.f k l1 a2).bind fun bt626 => (if t624.toList = bt626.1.toList then (some (t625 == bt626.2)) else (some false))) = some r := H
 have A4 := Aside0.mk A40
 clear A40
 replace H := Option.bind_eq_some_iff.mp H
 obtain ⟨⟨t626, t627⟩, A50, H⟩ := H
 replace H : (if t624.toList = t626.toList then (some (t625 == t627)) else (some false)) = some r := H
 have A5 := Aside0.mk A50
 clear A50
 by_cases c6 : t624.toList = t626.toList
 ·rw [if_pos c6] at H
  have c6b0 : (t624.toList == t626.toList) = true := beq_iff_eq.mpr c6
  have c6b1 : (t624.toList != t626.toList) = false := bne_eq_false_iff_eq.mpr c6
  clear c6
  obtain rfl := Option.some.inj H
  go_enter Try.func80, Try.ntmps80
  go_wp2_with (first | ((with_reducible refine gate_callee (f := 31) rfl ?_); refine goesL_ (some 14) rfl rfl Try.func31 (by kernel_rfl) rfl #[.slice A0 l0.length c0, .string a2] rfl mS_ ?_; (with_reducible refine (catchmentref05_Find.calls k _ _ l0 a2 t624 t625 _ ?side1 ?side2 A4.out).mono ?_); (case side1 => repeat (first | exact HR0.out | (with_reducible refine Kd.C_alloc ?_ _) | (with_reducible refine Kd.C_drewN ?_ _) | (with_reducible refine Kd.C_drew ?_))); (case side2 => exact HC0.out); rintro e w' ⟨rfl, ⟨nd, rfl⟩⟩; refine ⟨_, rfl, ?_⟩) | ((with_reducible refine gate_callee (f := 31) rfl ?_); refine goesL_ (some 20) rfl rfl Try.func31 (by kernel_rfl) rfl #[.slice A1 l1.length c1, .string a2] rfl mS_ ?_; (with_reducible refine (catchmentref05_Find.calls k _ _ l1 a2 t626 t627 _ ?side1 ?side2 A5.out).mono ?_); (case side1 => repeat (first | exact HR1.out | (with_reducible refine Kd.C_alloc ?_ _) | (with_reducible refine Kd.C_drewN ?_ _) | (with_reducible refine Kd.C_drew ?_))); (case side2 => exact HC1.out); rintro e w' ⟨rfl, ⟨nd, rfl⟩⟩; refine ⟨_, rfl, ?_⟩))
  go_ret
  exact ⟨by first | rfl | (simp; done) | (simp [*]; done), by repeat (first | exact Drawn0.refl _ | apply Drawn0.step)⟩
 ·rw [if_neg c6] at H
  have c6b0 : (t624.toList == t626.toList) = false := beq_eq_false_iff_ne.mpr c6
  have c6b1 : (t624.toList != t626.toList) = true := bne_iff_ne.mpr c6
  obtain rfl := Option.some.inj H
  go_enter Try.func80, Try.ntmps80
  go_wp2_with (first | ((with_reducible refine gate_callee (f := 31) rfl ?_); refine goesL_ (some 14) rfl rfl Try.func31 (by kernel_rfl) rfl #[.slice A0 l0.length c0, .string a2] rfl mS_ ?_; (with_reducible refine (catchmentref05_Find.calls k _ _ l0 a2 t624 t625 _ ?side1 ?side2 A4.out).mono ?_); (case side1 => repeat (first | exact HR0.out | (with_reducible refine Kd.C_alloc ?_ _) | (with_reducible refine Kd.C_drewN ?_ _) | (with_reducible refine Kd.C_drew ?_))); (case side2 => exact HC0.out); rintro e w' ⟨rfl, ⟨nd, rfl⟩⟩; refine ⟨_, rfl, ?_⟩) | ((with_reducible refine gate_callee (f := 31) rfl ?_); refine goesL_ (some 20) rfl rfl Try.func31 (by kernel_rfl) rfl #[.slice A1 l1.length c1, .string a2] rfl mS_ ?_; (with_reducible refine (catchmentref05_Find.calls k _ _ l1 a2 t626 t627 _ ?side1 ?side2 A5.out).mono ?_); (case side1 => repeat (first | exact HR1.out | (with_reducible refine Kd.C_alloc ?_ _) | (with_reducible refine Kd.C_drewN ?_ _) | (with_reducible refine Kd.C_drew ?_))); (case side2 => exact HC1.out); rintro e w' ⟨rfl, ⟨nd, rfl⟩⟩; refine ⟨_, rfl, ?_⟩))
  go_ret
  exact ⟨by first | rfl | (simp; done) | (simp [*]; done), by repeat (first | exact Drawn0.refl _ | apply Drawn0.step)⟩
end Go.Proofs.Ytebejadiaooooaa.P
end
