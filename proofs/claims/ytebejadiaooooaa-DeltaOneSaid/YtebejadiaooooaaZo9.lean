/- Texts of one claim (laid by shake.py). -/
import Derived.Test.YtebejadiaooooaaZo3
import Derived.Test.YtebejadiaooooaaZo7
import Derived.Test.YtebejadiaooooaaZo4
import Derived.Test.YtebejadiaooooaaZo8
set_option linter.unusedVariables false
set_option linter.unusedSimpArgs false
section
namespace Go.Proofs.Ytebejadiaooooaa.P
open Go.RowKit Go.Proofs.YtebejadiaooooaaW.PrintWords Go.Proofs.YtebejadiaooooaaW.PrintLast Go.Proofs.YtebejadiaooooaaW.PrintMore Go.Proofs.Ytebejadiaooooaa.Own
open Go.Proofs.YtebejadiaooooaaW.PrintWords renaming blk_cell → bC, blk_frozen → bF, blk_drewN → bN, blk_alloc → bA, pw_below_drewN → wN, blk_drew → bD, below_drew1 → w1, below_set → wS, below_alloc → wA, below_step → wT, below_size → wZ, blk_put → bP
open List renaming map_toArray → mA1, map_cons → mA2, map_nil → mA3, length_take → mA4, length_drop → mA5
attribute [local go_sem] max2_str max2_int min2_int max_two min_two max_three min_three max_four min_four   -- for this text's walks alone
attribute [local go_sem high] eqA32
def delta_Diff.l0 : Nat → List (S32) → List (S95) → Int → Int → Option ((List (S32)))
 | 0, _, _, _, _ => none
 | k + 1, x5, x10, x11, x12 => if x12 < x11 then (if 0 ≤ x12 then (if x12 < (x10.length : Int) then (if ((rd_T95 x10 x12).f3 = true) then (if ((rd_T95 x10 x12).f4 = true) then (if ((rd_T95 x10 x12).f1).toList = ((rd_T95 x10 x12).f2).toList then (delta_Diff.l0 k x5 x10 x11 (wrap64 (x12 + 1))) else (if x5.length < 1954687338268 then (delta_Diff.l0 k (x5 ++ [(⟨1, 0, (rd_T95 x10 x12).f0, (⟨#[]⟩ : BA), (rd_T95 x10 x12).f2, 0⟩ : S32)]) x10 x11 (wrap64 (x12 + 1))) else (none))) else (if x5.length < 1954687338268 then (delta_Diff.l0 k (x5 ++ [(⟨1, 0, (rd_T95 x10 x12).f0, (⟨#[]⟩ : BA), (rd_T95 x10 x12).f2, 0⟩ : S32)]) x10 x11 (wrap64 (x12 + 1))) else (none))) else (if x5.length < 1954687338268 then (delta_Diff.l0 k (x5 ++ [(⟨2, 0, (rd_T95 x10 x12).f0, (⟨#[]⟩ : BA), (⟨#[]⟩ : BA), 0⟩ : S32)]) x10 x11 (wrap64 (x12 + 1))) else (none))) else (none)) else (none)) else (some x5)
def delta_Diff.f (k : Nat) (l0 : List (S39)) (l1 : List (S39)) : Option ((List (S32))) := (delta_beside.f k l0 l1).bind fun t578 => (delta_Diff.l0 k ([] : List (S32)) t578 (t578.length : Int) 0)
set_option maxHeartbeats 8000000 in
set_option maxRecDepth 100000 in
theorem delta_Diff.calls (k : Nat) (A0 : Option Addr) (c0 : Nat) (l0 : List (S39)) (A1 : Option Addr) (c1 : Nat) (l1 : List (S39)) (r : List (S32)) (w : World) (hr0 : Kd.C k39 w A0 l0.length l0) (hc0 : l0.length ≤ c0) (hr1 : Kd.C k39 w A1 l1.length l1) (hc1 : l1.length ≤ c1) (h : delta_Diff.f k l0 l1 = some r) :
  Calls Try.prog 41 #[.slice A0 l0.length c0, .slice A1 l1.length c1] w fun e w' => ∃ v0_ : Value, e = .returned (v0_) ∧ Kd.R k32 32 w' w.heap.size (fun _ => True) v0_ r ∧ Below w.heap.size w w' := by
 have hu95 := Try.underlying95
 have hu32 := Try.underlying32
 have HR0 := Aside0.mk hr0
 have HC0 := Aside0.mk hc0
 clear hr0 hc0
 have HR1 := Aside0.mk hr1
 have HC1 := Aside0.mk hc1
 clear hr1 hc1
 have HB := Aside0.mk (Below.refl w.heap.size w)
 have H : ((delta_beside.f k l0 l1).bind fun t578 => (delta_Diff.l0 k ([] : List (S32)) t578 (t578.length : Int) 0)) = some r := h
 clear h
 replace H := Option.bind_eq_some_iff.mp H
 obtain ⟨t578, A30, H⟩ := H
 replace H : (delta_Diff.l0 k ([] : List (S32)) t578 (t578.length : Int) 0) = some r := H
 have A3 := Aside0.mk A30
 clear A30
 have H' := Aside0.mk H
 clear H
 go_enter Try.func41, Try.ntmps41
 go_wp2_with (first | ((with_reducible refine gate_callee (f := 78) rfl ?_); refine goesL_ (some 10) rfl rfl Try.func78 (by kernel_rfl) rfl #[.slice A0 l0.length c0, .slice A1 l1.length c1] rfl mS_ ?_; (with_reducible refine (delta_beside.calls k _ _ l0 _ _ l1 t578 _ ?side1 ?side2 ?side3 ?side4 A3.out).mono ?_); (case side1 => repeat (first | exact HR0.out | (with_reducible refine Kd.C_alloc ?_ _) | (with_reducible refine Kd.C_drewN ?_ _) | (with_reducible refine Kd.C_drew ?_))); (case side2 => exact HC0.out); (case side3 => repeat (first | exact HR1.out | (with_reducible refine Kd.C_alloc ?_ _) | (with_reducible refine Kd.C_drewN ?_ _) | (with_reducible refine Kd.C_drew ?_))); (case side4 => exact HC1.out); rintro e w4 ⟨v579, rfl, ho0, hb⟩; refine ⟨_, rfl, ?_⟩; have n0_ := Aside0.mk (Kd.R_lower ho0 (wZ bW_)); have n1_ := Aside0.mk (wT bW_ hb); clear HB; have HO580 := n0_; have HB := n1_; clear n0_ n1_; (try clear hb); (try clear hb2); (try clear hk); (try clear hi); (try clear ho0); obtain ⟨Ao5, co5, eo5⟩ := Kd.R_slice HO580.out; subst eo5))
 go_loopg [5, 12] k (fun kq v5 v12 w' => ∃ (x5_1 : List (S32)) (x12_1 : Int), v12 = .int .i64 x12_1 ∧ Aside0 (delta_Diff.l0 kq x5_1 t578 (t578.length : Int) x12_1 = some r) ∧ Aside0 (kq ≤ k) ∧ Aside0 (Kd.R k32 32 w' w.heap.size (fun _ => True) v5 x5_1) ∧ Aside0 (Kd.R k95 95 w' w.heap.size (fun _ => True) (.slice Ao5 t578.length co5) t578) ∧ Aside0 (Below w.heap.size w w'))
 case atStart => exact ⟨(([] : List (S32))), (0), (by first | rfl | (simp; done) | (simp [*]; done)), H', ⟨Nat.le_refl _⟩, ⟨by first | exact Kd.R_nil _ _ _ _ _ | exact Kd.N_nil _ _ _ _ _ | exact Kd.V_nil _ _ _ _ _ | exact Kd.Q_nil _ _ _ _ _ | exact Kd.S_nil _ _ _ _ _⟩, ⟨by (with_reducible repeat (first | apply Kd.R_alloc | apply Kd.R_drewN | apply Kd.R_drew)); exact HO580.out⟩, ⟨by repeat (first | (with_reducible first | exact HB.out | apply wA | apply wN | apply w1) | exact HB.out)⟩⟩
 case round =>
  clear H'
  try clear c1
  try clear p2
  try clear c4
  obtain ⟨x5_1, x12_1, rfl, HA, HK1, HO_5, HO_10, HB⟩ := hrel
  cases gk with
  | zero => exact absurd HA.out (by simp [delta_Diff.l0])
  | succ k1 =>
   have H := HA.out
   clear HA
   simp only [delta_Diff.l0] at H
   by_cases c6 : x12_1 < (t578.length : Int)
   ·rw [if_pos c6] at H
    have c6b0 : decide (x12_1 < (t578.length : Int)) = true := decide_eq_true c6
    clear c6
    by_cases c7 : 0 ≤ x12_1
    ·rw [if_pos c7] at H
     have c7b0 : decide (0 ≤ x12_1) = true := decide_eq_true c7
     clear c7
     by_cases c8 : x12_1 < (t578.length : Int)
     ·rw [if_pos c8] at H
      have c8b0 : decide (x12_1 < (t578.length : Int)) = true := decide_eq_true c8
      clear c8
      obtain ⟨bq9, hbq9⟩ : ∃ b_ : Bool, b_ = ((rd_T95 t578 x12_1).f3) := ⟨_, rfl⟩
      replace H : (if (bq9 = true) then (if ((rd_T95 t578 x12_1).f4 = true) then (if ((rd_T95 t578 x12_1).f1).toList = ((rd_T95 t578 x12_1).f2).toList then (delta_Diff.l0 k1 x5_1 t578 (t578.length : Int) (wrap64 (x12_1 + 1))) else (if x5_1.length < 1954687338268 then (delta_Diff.l0 k1 (x5_1 ++ [(⟨1, 0, (rd_T95 t578 x12_1).f0, (⟨#[]⟩ : BA), (rd_T95 t578 x12_1).f2, 0⟩ : S32)]) t578 (t578.length : Int) (wrap64 (x12_1 + 1))) else (none))) else (if x5_1.length < 1954687338268 then (delta_Diff.l0 k1 (x5_1 ++ [(⟨1, 0, (rd_T95 t578 x12_1).f0, (⟨#[]⟩ : BA), (rd_T95 t578 x12_1).f2, 0⟩ : S32)]) t578 (t578.length : Int) (wrap64 (x12_1 + 1))) else (none))) else (if x5_1.length < 1954687338268 then (delta_Diff.l0 k1 (x5_1 ++ [(⟨2, 0, (rd_T95 t578 x12_1).f0, (⟨#[]⟩ : BA), (⟨#[]⟩ : BA), 0⟩ : S32)]) t578 (t578.length : Int) (wrap64 (x12_1 + 1))) else (none))) = some r := by rw [← hbq9] at H; exact H
      have Nbq9 := Aside0.mk hbq9
      clear hbq9
      by_cases c10 : (bq9 = true)
      ·subst c10
       have H1 : (if ((rd_T95 t578 x12_1).f4 = true) then (if ((rd_T95 t578 x12_1).f1).toList = ((rd_T95 t578 x12_1).f2).toList then (delta_Diff.l0 k1 x5_1 t578 (t578.length : Int) (wrap64 (x12_1 + 1))) else (if x5_1.length < 1954687338268 then (delta_Diff.l0 k1 (x5_1 ++ [(⟨1, 0, (rd_T95 t578 x12_1).f0, (⟨#[]⟩ : BA), (rd_T95 t578 x12_1).f2, 0⟩ : S32)]) t578 (t578.length : Int) (wrap64 (x12_1 + 1))) else (none))) else (if x5_1.length < 1954687338268 then (delta_Diff.l0 k1 (x5_1 ++ [(⟨1, 0, (rd_T95 t578 x12_1).f0, (⟨#[]⟩ : BA), (rd_T95 t578 x12_1).f2, 0⟩ : S32)]) t578 (t578.length : Int) (wrap64 (x12_1 + 1))) else (none))) = some r := by rw [if_pos rfl] at H; exact H
       clear H
       have H := H1
       clear H1
       obtain ⟨bq11, hbq11⟩ : ∃ b_ : Bool, b_ = ((rd_T95 t578 x12_1).f4) := ⟨_, rfl⟩
       replace H : (if (bq11 = true) then (if ((rd_T95 t578 x12_1).f1).toList = ((rd_T95 t578 x12_1).f2).toList then (delta_Diff.l0 k1 x5_1 t578 (t578.length : Int) (wrap64 (x12_1 + 1))) else (if x5_1.length < 1954687338268 then (delta_Diff.l0 k1 (x5_1 ++ [(⟨1, 0, (rd_T95 t578 x12_1).f0, (⟨#[]⟩ : BA), (rd_T95 t578 x12_1).f2, 0⟩ : S32)]) t578 (t578.length : Int) (wrap64 (x12_1 + 1))) else (none))) else (if x5_1.length < 1954687338268 then (delta_Diff.l0 k1 (x5_1 ++ [(⟨1, 0, (rd_T95 t578 x12_1).f0, (⟨#[]⟩ : BA), (rd_T95 t578 x12_1).f2, 0⟩ : S32)]) t578 (t578.length : Int) (wrap64 (x12_1 + 1))) else (none))) = some r := by rw [← hbq11] at H; exact H
       have Nbq11 := Aside0.mk hbq11
       clear hbq11
       by_cases c12 : (bq11 = true)
       ·subst c12
        have H1 : (if ((rd_T95 t578 x12_1).f1).toList = ((rd_T95 t578 x12_1).f2).toList then (delta_Diff.l0 k1 x5_1 t578 (t578.length : Int) (wrap64 (x12_1 + 1))) else (if x5_1.length < 1954687338268 then (delta_Diff.l0 k1 (x5_1 ++ [(⟨1, 0, (rd_T95 t578 x12_1).f0, (⟨#[]⟩ : BA), (rd_T95 t578 x12_1).f2, 0⟩ : S32)]) t578 (t578.length : Int) (wrap64 (x12_1 + 1))) else (none))) = some r := by rw [if_pos rfl] at H; exact H
        clear H
        have H := H1
        clear H1
        by_cases c13 : ((rd_T95 t578 x12_1).f1).toList = ((rd_T95 t578 x12_1).f2).toList
        ·rw [if_pos c13] at H
         have c13b0 : (((rd_T95 t578 x12_1).f1).toList == ((rd_T95 t578 x12_1).f2).toList) = true := beq_iff_eq.mpr c13
         have c13b1 : (((rd_T95 t578 x12_1).f1).toList != ((rd_T95 t578 x12_1).f2).toList) = false := bne_eq_false_iff_eq.mpr c13
         clear c13
         have H' := Aside0.mk H
         clear H
         have p581 : 0 ≤ (x12_1 : Int) := of_decide_eq_true (by first | (with_reducible assumption) | assumption)
         have q581 : x12_1 < (t578.length : Int) := of_decide_eq_true (by first | (with_reducible assumption) | assumption)
         obtain ⟨ad581, e581, hx581_0, hx581_1, hx581_2, hx581_3, hx581_4⟩ := at_T95 (Kd.R_reads' HO_10.out).2.2 x12_1 p581 q581
         (try rw [← Nbq9.out] at hx581_3)
         (try rw [← Nbq11.out] at hx581_3)
         (try rw [← Nbq9.out] at hx581_4)
         (try rw [← Nbq11.out] at hx581_4)
         cases e581
         replace p581 := eq_true p581
         replace q581 := eq_true q581
         go_wp2_with (first | ((with_reducible refine gate_dst (N := 7) rfl ?_); refine box_event ?hg (N := 7) ?hd (cs := #[.string (⟨#[]⟩ : BA), .string (⟨#[]⟩ : BA), .string (⟨#[]⟩ : BA), .bool false, .bool false]) (t := 95) ?hr ?_; (case hd => rfl); (case hg => rfl); (case hr => first | (go_simp; done) | (go_simp; rfl)); intro gb582 hg w14 hbox hb; have n0_ := Aside0.mk (Kd.R_below (kR_ HO_5.out) hb); have n1_ := Aside0.mk (Kd.R_below (Kd.R_elderB (kR_ HO_10.out) gb582 (Nat.le_of_eq hg.symm)) hb); have n2_ := Aside0.mk (wT bW_ hb); have n3_ := Aside0.mk (hbox); have n4_ := Aside0.mk ((by rw [hg]; exact (wZ bW_) : w.heap.size ≤ gb582)); have n5_ := n4_; clear HO_5; clear HO_10; clear HB; have HO_5 := n0_; have HO_10 := n1_; have HB := n2_; have BK582 := n3_; have GW582 := n4_; have GE582 := n5_; clear n0_ n1_ n2_ n3_ n4_ n5_; clear hb hbox hg; have hcz15_0 := cz_ BK582.out 0; have hcz15_1 := cz_ BK582.out 1; have hcz15_2 := cz_ BK582.out 2; have hcz15_3 := cz_ BK582.out 3; have hcz15_4 := cz_ BK582.out 4; have hfz15_0 := bF BK582.out 0; have hfz15_1 := bF BK582.out 1; have hfz15_2 := bF BK582.out 2; have hfz15_3 := bF BK582.out 3; have hfz15_4 := bF BK582.out 4))
         go_roundg k1
         case measure => have := HK1.out; omega
         case rel => exact ⟨(x5_1), (wrap64 (x12_1 + 1)), (by first | rfl | (simp; done) | (simp [*]; done)), H', ⟨by have := HK1.out; omega⟩, ⟨by (with_reducible repeat (first | apply Kd.R_alloc | apply Kd.R_drewN | apply Kd.R_drew)); exact Kd.R_mono (Kd.R_far (p := ⟨gb582, 4, none⟩) (Kd.R_far (p := ⟨gb582, 3, none⟩) (Kd.R_far (p := ⟨gb582, 2, none⟩) (Kd.R_far (p := ⟨gb582, 1, none⟩) (Kd.R_far (p := ⟨gb582, 0, none⟩) (Kd.R_types HO_5.out BK582.out (by decide)) (fun _ hk => hk.2) (.string ((rd_T95 t578 x12_1).f0))) (fun _ hk => hk.2) (.string ((rd_T95 t578 x12_1).f1))) (fun _ hk => hk.2) (.string ((rd_T95 t578 x12_1).f2))) (fun _ hk => hk.2) (.bool true)) (fun _ hk => hk.2) (.bool true)) (fun _ hk => trivial)⟩, ⟨by (with_reducible repeat (first | apply Kd.R_alloc | apply Kd.R_drewN | apply Kd.R_drew)); exact Kd.R_mono (Kd.R_far (p := ⟨gb582, 4, none⟩) (Kd.R_far (p := ⟨gb582, 3, none⟩) (Kd.R_far (p := ⟨gb582, 2, none⟩) (Kd.R_far (p := ⟨gb582, 1, none⟩) (Kd.R_far (p := ⟨gb582, 0, none⟩) (Kd.R_mono HO_10.out (fun k_ hk => (⟨hk, hk.2⟩ : _ ∧ k_ ≠ gb582))) (fun _ hk => hk.2) (.string ((rd_T95 t578 x12_1).f0))) (fun _ hk => hk.2) (.string ((rd_T95 t578 x12_1).f1))) (fun _ hk => hk.2) (.string ((rd_T95 t578 x12_1).f2))) (fun _ hk => hk.2) (.bool true)) (fun _ hk => hk.2) (.bool true)) (fun _ hk => trivial)⟩, ⟨by repeat (first | (with_reducible first | exact HB.out | apply wA | apply wN | apply w1 | refine wS ?_ GE582.out) | exact HB.out)⟩⟩
        ·rw [if_neg c13] at H
         have c13b0 : (((rd_T95 t578 x12_1).f1).toList == ((rd_T95 t578 x12_1).f2).toList) = false := beq_eq_false_iff_ne.mpr c13
         have c13b1 : (((rd_T95 t578 x12_1).f1).toList != ((rd_T95 t578 x12_1).f2).toList) = true := bne_iff_ne.mpr c13
         by_cases c16 : x5_1.length < 1954687338268
         ·rw [if_pos c16] at H
          have LMc16 := Aside0.mk c16
          clear c16
          obtain ⟨y583, hy583⟩ : ∃ y_ : List (S32), y_ = (x5_1 ++ [(⟨1, 0, (rd_T95 t578 x12_1).f0, (⟨#[]⟩ : BA), (rd_T95 t578 x12_1).f2, 0⟩ : S32)]) := ⟨_, rfl⟩
          replace H : (delta_Diff.l0 k1 y583 t578 (t578.length : Int) (wrap64 (x12_1 + 1))) = some r := by first | (rw [hy583]; with_reducible exact H) | (have H2_ := (Option.bind_some _ _).symm.trans H; rw [hy583]; with_reducible exact H2_) | (have H2_ := (Option.bind_some _ _).symm.trans H; with_reducible exact H2_) | with_reducible exact H | (rw [hy583]; exact H) | exact H
          have Ny583 := Aside0.mk hy583
          clear hy583
          have H' := Aside0.mk H
          clear H
          have p581 : 0 ≤ (x12_1 : Int) := of_decide_eq_true (by first | (with_reducible assumption) | assumption)
          have q581 : x12_1 < (t578.length : Int) := of_decide_eq_true (by first | (with_reducible assumption) | assumption)
          obtain ⟨ad581, e581, hx581_0, hx581_1, hx581_2, hx581_3, hx581_4⟩ := at_T95 (Kd.R_reads' HO_10.out).2.2 x12_1 p581 q581
          (try rw [← Nbq9.out] at hx581_3)
          (try rw [← Nbq11.out] at hx581_3)
          (try rw [← Nbq9.out] at hx581_4)
          (try rw [← Nbq11.out] at hx581_4)
          cases e581
          replace p581 := eq_true p581
          replace q581 := eq_true q581
          go_wp2_with (first | ((with_reducible refine gate_dst (N := 7) rfl ?_); refine box_event ?hg (N := 7) ?hd (cs := #[.string (⟨#[]⟩ : BA), .string (⟨#[]⟩ : BA), .string (⟨#[]⟩ : BA), .bool false, .bool false]) (t := 95) ?hr ?_; (case hd => rfl); (case hg => rfl); (case hr => first | (go_simp; done) | (go_simp; rfl)); intro gb582 hg w17 hbox hb; have n0_ := Aside0.mk (Kd.R_below (kR_ HO_5.out) hb); have n1_ := Aside0.mk (Kd.R_below (Kd.R_elderB (kR_ HO_10.out) gb582 (Nat.le_of_eq hg.symm)) hb); have n2_ := Aside0.mk (wT bW_ hb); have n3_ := Aside0.mk (hbox); have n4_ := Aside0.mk ((by rw [hg]; exact (wZ bW_) : w.heap.size ≤ gb582)); have n5_ := n4_; clear HO_5; clear HO_10; clear HB; have HO_5 := n0_; have HO_10 := n1_; have HB := n2_; have BK582 := n3_; have GW582 := n4_; have GE582 := n5_; clear n0_ n1_ n2_ n3_ n4_ n5_; clear hb hbox hg; have hcz18_0 := cz_ BK582.out 0; have hcz18_1 := cz_ BK582.out 1; have hcz18_2 := cz_ BK582.out 2; have hcz18_3 := cz_ BK582.out 3; have hcz18_4 := cz_ BK582.out 4; have hfz18_0 := bF BK582.out 0; have hfz18_1 := bF BK582.out 1; have hfz18_2 := bF BK582.out 2; have hfz18_3 := bF BK582.out 3; have hfz18_4 := bF BK582.out 4) | ((with_reducible refine gate_builtin (b := .append) (xs := #[.tmp 37, .tmp 43]) rfl ?_); at_builtin; refine Kd.R_append k32 (w0 := w) w.heap.size rfl (.tmp 37) (.tmp 43) 22 32 (.agg #[(.int .u8 0), (.int .i64 0), (.string ⟨#[]⟩), (.string ⟨#[]⟩), (.string ⟨#[]⟩), (.int .u64 0)]) 72 rfl Try.underlying22 info32 rfl (by decide) (by omega) u5 x5_1 (⟨1, 0, (rd_T95 t578 x12_1).f0, (⟨#[]⟩ : BA), (rd_T95 t578 x12_1).f2, 0⟩ : S32) [.int .u8 1, .int .i64 0, .string ((rd_T95 t578 x12_1).f0), .string (⟨#[]⟩ : BA), .string ((rd_T95 t578 x12_1).f2), .int .u64 0] (fun _ => True) (fun _ => False) rfl (by first | (go_simp; done) | (go_simp; rfl)) ?aP (fun _ hk => hk.elim) ?aF ?aO ?aB ?aS ?aL ?_; (case aP => exact k32_mkM _ _ _ (⟨1, 0, (rd_T95 t578 x12_1).f0, (⟨#[]⟩ : BA), (rd_T95 t578 x12_1).f2, 0⟩ : S32)); (case aB => exact (bS1_ GE582.out)); (case aF => exact (fun _ _ => trivial)); (case aO => exact (by (with_reducible repeat (first | apply Kd.R_alloc | apply Kd.R_drewN | apply Kd.R_drew)); exact Kd.R_mono (Kd.R_far (p := ⟨gb582, 4, none⟩) (Kd.R_far (p := ⟨gb582, 3, none⟩) (Kd.R_far (p := ⟨gb582, 2, none⟩) (Kd.R_far (p := ⟨gb582, 1, none⟩) (Kd.R_far (p := ⟨gb582, 0, none⟩) (Kd.R_types HO_5.out BK582.out (by decide)) (fun _ hk => hk.2) (.string ((rd_T95 t578 x12_1).f0))) (fun _ hk => hk.2) (.string ((rd_T95 t578 x12_1).f1))) (fun _ hk => hk.2) (.string ((rd_T95 t578 x12_1).f2))) (fun _ hk => hk.2) (.bool true)) (fun _ hk => hk.2) (.bool true)) (fun _ hk => trivial))); (case aS => exact (wZ (bS1_ GE582.out))); (case aL => have := LMc16.out; omega); intro v584 w19 ho hb hg hat; rw [← Ny583.out] at ho; have n0_ := Aside0.mk (Kd.R_over' (by (with_reducible repeat (first | apply Kd.R_alloc | apply Kd.R_drewN | apply Kd.R_drew)); exact (Kd.R_mono (Kd.R_far (p := ⟨gb582, 4, none⟩) (Kd.R_far (p := ⟨gb582, 3, none⟩) (Kd.R_far (p := ⟨gb582, 2, none⟩) (Kd.R_far (p := ⟨gb582, 1, none⟩) (Kd.R_far (p := ⟨gb582, 0, none⟩) (Kd.R_mono HO_10.out (fun k_ hk => (⟨hk, hk.2⟩ : _ ∧ k_ ≠ gb582))) (fun _ hk => hk.2) (.string ((rd_T95 t578 x12_1).f0))) (fun _ hk => hk.2) (.string ((rd_T95 t578 x12_1).f1))) (fun _ hk => hk.2) (.string ((rd_T95 t578 x12_1).f2))) (fun _ hk => hk.2) (.bool true)) (fun _ hk => hk.2) (.bool true)) (fun _ h_ => h_.1))) (Kd.R_typed (by (with_reducible repeat (first | apply Kd.R_alloc | apply Kd.R_drewN | apply Kd.R_drew)); exact (Kd.R_mono (Kd.R_far (p := ⟨gb582, 4, none⟩) (Kd.R_far (p := ⟨gb582, 3, none⟩) (Kd.R_far (p := ⟨gb582, 2, none⟩) (Kd.R_far (p := ⟨gb582, 1, none⟩) (Kd.R_far (p := ⟨gb582, 0, none⟩) (Kd.R_types HO_5.out BK582.out (by decide)) (fun _ hk => hk.2) (.string ((rd_T95 t578 x12_1).f0))) (fun _ hk => hk.2) (.string ((rd_T95 t578 x12_1).f1))) (fun _ hk => hk.2) (.string ((rd_T95 t578 x12_1).f2))) (fun _ hk => hk.2) (.bool true)) (fun _ hk => hk.2) (.bool true)) (fun _ h_ => h_.1)))) (by decide) hg); have n1_ := Aside0.mk (blk_grown (g := gb582) (o := .cells #[.string ((rd_T95 t578 x12_1).f0), .string ((rd_T95 t578 x12_1).f1), .string ((rd_T95 t578 x12_1).f2), .bool true, .bool true] 95 (0, 0)) (by (with_reducible repeat (first | refine bN ?_ _ | refine bD ?_ | refine bA ?_ _)); refine bP (cs := #[.string ((rd_T95 t578 x12_1).f0), .string ((rd_T95 t578 x12_1).f1), .string ((rd_T95 t578 x12_1).f2), .bool true, .bool false]) ?_ 4 _ rfl; (with_reducible repeat (first | refine bN ?_ _ | refine bD ?_ | refine bA ?_ _)); refine bP (cs := #[.string ((rd_T95 t578 x12_1).f0), .string ((rd_T95 t578 x12_1).f1), .string ((rd_T95 t578 x12_1).f2), .bool false, .bool false]) ?_ 3 _ rfl; (with_reducible repeat (first | refine bN ?_ _ | refine bD ?_ | refine bA ?_ _)); refine bP (cs := #[.string ((rd_T95 t578 x12_1).f0), .string ((rd_T95 t578 x12_1).f1), .string (⟨#[]⟩ : BA), .bool false, .bool false]) ?_ 2 _ rfl; (with_reducible repeat (first | refine bN ?_ _ | refine bD ?_ | refine bA ?_ _)); refine bP (cs := #[.string ((rd_T95 t578 x12_1).f0), .string (⟨#[]⟩ : BA), .string (⟨#[]⟩ : BA), .bool false, .bool false]) ?_ 1 _ rfl; (with_reducible repeat (first | refine bN ?_ _ | refine bD ?_ | refine bA ?_ _)); refine bP (cs := #[.string (⟨#[]⟩ : BA), .string (⟨#[]⟩ : BA), .string (⟨#[]⟩ : BA), .bool false, .bool false]) ?_ 0 _ rfl; (with_reducible repeat (first | refine bN ?_ _ | refine bD ?_ | refine bA ?_ _)); exact BK582.out) hg (Kd.R_ne HO_5.out BK582.out (by decide))); have n2_ := Aside0.mk (hb); have n3_ := Aside0.mk (ho); clear HO_10; clear BK582; clear HB; clear HO_5; have HO_10 := n0_; have BK582 := n1_; have HB := n2_; have HO585 := n3_; clear n0_ n1_ n2_ n3_; clear ho hb hg hat))
          go_roundg k1
          case measure => have := HK1.out; omega
          case rel => exact ⟨(y583), (wrap64 (x12_1 + 1)), (by first | rfl | (simp; done) | (simp [*]; done)), H', ⟨by have := HK1.out; omega⟩, ⟨by (with_reducible repeat (first | apply Kd.R_alloc | apply Kd.R_drewN | apply Kd.R_drew)); exact HO585.out⟩, ⟨by (with_reducible repeat (first | apply Kd.R_alloc | apply Kd.R_drewN | apply Kd.R_drew)); exact Kd.R_mono HO_10.out (fun _ hk => trivial)⟩, ⟨by repeat (first | (with_reducible first | exact HB.out | apply wA | apply wN | apply w1 | refine wS ?_ GE582.out) | exact HB.out)⟩⟩
         ·rw [if_neg c16] at H
          exact absurd H (by simp)
       ·replace c12 := Bool.eq_false_iff.mpr c12
        subst c12
        have H1 : (if x5_1.length < 1954687338268 then (delta_Diff.l0 k1 (x5_1 ++ [(⟨1, 0, (rd_T95 t578 x12_1).f0, (⟨#[]⟩ : BA), (rd_T95 t578 x12_1).f2, 0⟩ : S32)]) t578 (t578.length : Int) (wrap64 (x12_1 + 1))) else (none)) = some r := by rw [if_neg (show ¬ (false = true) by decide)] at H; exact H
        clear H
        have H := H1
        clear H1
        by_cases c20 : x5_1.length < 1954687338268
        ·rw [if_pos c20] at H
         have LMc20 := Aside0.mk c20
         clear c20
         obtain ⟨y586, hy586⟩ : ∃ y_ : List (S32), y_ = (x5_1 ++ [(⟨1, 0, (rd_T95 t578 x12_1).f0, (⟨#[]⟩ : BA), (rd_T95 t578 x12_1).f2, 0⟩ : S32)]) := ⟨_, rfl⟩
         replace H : (delta_Diff.l0 k1 y586 t578 (t578.length : Int) (wrap64 (x12_1 + 1))) = some r := by first | (rw [hy586]; with_reducible exact H) | (have H2_ := (Option.bind_some _ _).symm.trans H; rw [hy586]; with_reducible exact H2_) | (have H2_ := (Option.bind_some _ _).symm.trans H; with_reducible exact H2_) | with_reducible exact H | (rw [hy586]; exact H) | exact H
         have Ny586 := Aside0.mk hy586
         clear hy586
         have H' := Aside0.mk H
         clear H
         have p581 : 0 ≤ (x12_1 : Int) := of_decide_eq_true (by first | (with_reducible assumption) | assumption)
         have q581 : x12_1 < (t578.length : Int) := of_decide_eq_true (by first | (with_reducible assumption) | assumption)
         obtain ⟨ad581, e581, hx581_0, hx581_1, hx581_2, hx581_3, hx581_4⟩ := at_T95 (Kd.R_reads' HO_10.out).2.2 x12_1 p581 q581
         (try rw [← Nbq9.out] at hx581_3)
         (try rw [← Nbq11.out] at hx581_3)
         (try rw [← Nbq9.out] at hx581_4)
         (try rw [← Nbq11.out] at hx581_4)
         cases e581
         replace p581 := eq_true p581
         replace q581 := eq_true q581
         go_wp2_with (first | ((with_reducible refine gate_dst (N := 7) rfl ?_); refine box_event ?hg (N := 7) ?hd (cs := #[.string (⟨#[]⟩ : BA), .string (⟨#[]⟩ : BA), .string (⟨#[]⟩ : BA), .bool false, .bool false]) (t := 95) ?hr ?_; (case hd => rfl); (case hg => rfl); (case hr => first | (go_simp; done) | (go_simp; rfl)); intro gb582 hg w21 hbox hb; have n0_ := Aside0.mk (Kd.R_below (kR_ HO_5.out) hb); have n1_ := Aside0.mk (Kd.R_below (Kd.R_elderB (kR_ HO_10.out) gb582 (Nat.le_of_eq hg.symm)) hb); have n2_ := Aside0.mk (wT bW_ hb); have n3_ := Aside0.mk (hbox); have n4_ := Aside0.mk ((by rw [hg]; exact (wZ bW_) : w.heap.size ≤ gb582)); have n5_ := n4_; clear HO_5; clear HO_10; clear HB; have HO_5 := n0_; have HO_10 := n1_; have HB := n2_; have BK582 := n3_; have GW582 := n4_; have GE582 := n5_; clear n0_ n1_ n2_ n3_ n4_ n5_; clear hb hbox hg; have hcz22_0 := cz_ BK582.out 0; have hcz22_1 := cz_ BK582.out 1; have hcz22_2 := cz_ BK582.out 2; have hcz22_3 := cz_ BK582.out 3; have hcz22_4 := cz_ BK582.out 4; have hfz22_0 := bF BK582.out 0; have hfz22_1 := bF BK582.out 1; have hfz22_2 := bF BK582.out 2; have hfz22_3 := bF BK582.out 3; have hfz22_4 := bF BK582.out 4) | ((with_reducible refine gate_builtin (b := .append) (xs := #[.tmp 37, .tmp 43]) rfl ?_); at_builtin; refine Kd.R_append k32 (w0 := w) w.heap.size rfl (.tmp 37) (.tmp 43) 22 32 (.agg #[(.int .u8 0), (.int .i64 0), (.string ⟨#[]⟩), (.string ⟨#[]⟩), (.string ⟨#[]⟩), (.int .u64 0)]) 72 rfl Try.underlying22 info32 rfl (by decide) (by omega) u5 x5_1 (⟨1, 0, (rd_T95 t578 x12_1).f0, (⟨#[]⟩ : BA), (rd_T95 t578 x12_1).f2, 0⟩ : S32) [.int .u8 1, .int .i64 0, .string ((rd_T95 t578 x12_1).f0), .string (⟨#[]⟩ : BA), .string ((rd_T95 t578 x12_1).f2), .int .u64 0] (fun _ => True) (fun _ => False) rfl (by first | (go_simp; done) | (go_simp; rfl)) ?aP (fun _ hk => hk.elim) ?aF ?aO ?aB ?aS ?aL ?_; (case aP => exact k32_mkM _ _ _ (⟨1, 0, (rd_T95 t578 x12_1).f0, (⟨#[]⟩ : BA), (rd_T95 t578 x12_1).f2, 0⟩ : S32)); (case aB => exact (bS1_ GE582.out)); (case aF => exact (fun _ _ => trivial)); (case aO => exact (by (with_reducible repeat (first | apply Kd.R_alloc | apply Kd.R_drewN | apply Kd.R_drew)); exact Kd.R_mono (Kd.R_far (p := ⟨gb582, 4, none⟩) (Kd.R_far (p := ⟨gb582, 3, none⟩) (Kd.R_far (p := ⟨gb582, 2, none⟩) (Kd.R_far (p := ⟨gb582, 1, none⟩) (Kd.R_far (p := ⟨gb582, 0, none⟩) (Kd.R_types HO_5.out BK582.out (by decide)) (fun _ hk => hk.2) (.string ((rd_T95 t578 x12_1).f0))) (fun _ hk => hk.2) (.string ((rd_T95 t578 x12_1).f1))) (fun _ hk => hk.2) (.string ((rd_T95 t578 x12_1).f2))) (fun _ hk => hk.2) (.bool true)) (fun _ hk => hk.2) (.bool false)) (fun _ hk => trivial))); (case aS => exact (wZ (bS1_ GE582.out))); (case aL => have := LMc20.out; omega); intro v587 w23 ho hb hg hat; rw [← Ny586.out] at ho; have n0_ := Aside0.mk (Kd.R_over' (by (with_reducible repeat (first | apply Kd.R_alloc | apply Kd.R_drewN | apply Kd.R_drew)); exact (Kd.R_mono (Kd.R_far (p := ⟨gb582, 4, none⟩) (Kd.R_far (p := ⟨gb582, 3, none⟩) (Kd.R_far (p := ⟨gb582, 2, none⟩) (Kd.R_far (p := ⟨gb582, 1, none⟩) (Kd.R_far (p := ⟨gb582, 0, none⟩) (Kd.R_mono HO_10.out (fun k_ hk => (⟨hk, hk.2⟩ : _ ∧ k_ ≠ gb582))) (fun _ hk => hk.2) (.string ((rd_T95 t578 x12_1).f0))) (fun _ hk => hk.2) (.string ((rd_T95 t578 x12_1).f1))) (fun _ hk => hk.2) (.string ((rd_T95 t578 x12_1).f2))) (fun _ hk => hk.2) (.bool true)) (fun _ hk => hk.2) (.bool false)) (fun _ h_ => h_.1))) (Kd.R_typed (by (with_reducible repeat (first | apply Kd.R_alloc | apply Kd.R_drewN | apply Kd.R_drew)); exact (Kd.R_mono (Kd.R_far (p := ⟨gb582, 4, none⟩) (Kd.R_far (p := ⟨gb582, 3, none⟩) (Kd.R_far (p := ⟨gb582, 2, none⟩) (Kd.R_far (p := ⟨gb582, 1, none⟩) (Kd.R_far (p := ⟨gb582, 0, none⟩) (Kd.R_types HO_5.out BK582.out (by decide)) (fun _ hk => hk.2) (.string ((rd_T95 t578 x12_1).f0))) (fun _ hk => hk.2) (.string ((rd_T95 t578 x12_1).f1))) (fun _ hk => hk.2) (.string ((rd_T95 t578 x12_1).f2))) (fun _ hk => hk.2) (.bool true)) (fun _ hk => hk.2) (.bool false)) (fun _ h_ => h_.1)))) (by decide) hg); have n1_ := Aside0.mk (blk_grown (g := gb582) (o := .cells #[.string ((rd_T95 t578 x12_1).f0), .string ((rd_T95 t578 x12_1).f1), .string ((rd_T95 t578 x12_1).f2), .bool true, .bool false] 95 (0, 0)) (by (with_reducible repeat (first | refine bN ?_ _ | refine bD ?_ | refine bA ?_ _)); refine bP (cs := #[.string ((rd_T95 t578 x12_1).f0), .string ((rd_T95 t578 x12_1).f1), .string ((rd_T95 t578 x12_1).f2), .bool true, .bool false]) ?_ 4 _ rfl; (with_reducible repeat (first | refine bN ?_ _ | refine bD ?_ | refine bA ?_ _)); refine bP (cs := #[.string ((rd_T95 t578 x12_1).f0), .string ((rd_T95 t578 x12_1).f1), .string ((rd_T95 t578 x12_1).f2), .bool false, .bool false]) ?_ 3 _ rfl; (with_reducible repeat (first | refine bN ?_ _ | refine bD ?_ | refine bA ?_ _)); refine bP (cs := #[.string ((rd_T95 t578 x12_1).f0), .string ((rd_T95 t578 x12_1).f1), .string (⟨#[]⟩ : BA), .bool false, .bool false]) ?_ 2 _ rfl; (with_reducible repeat (first | refine bN ?_ _ | refine bD ?_ | refine bA ?_ _)); refine bP (cs := #[.string ((rd_T95 t578 x12_1).f0), .string (⟨#[]⟩ : BA), .string (⟨#[]⟩ : BA), .bool false, .bool false]) ?_ 1 _ rfl; (with_reducible repeat (first | refine bN ?_ _ | refine bD ?_ | refine bA ?_ _)); refine bP (cs := #[.string (⟨#[]⟩ : BA), .string (⟨#[]⟩ : BA), .string (⟨#[]⟩ : BA), .bool false, .bool false]) ?_ 0 _ rfl; (with_reducible repeat (first | refine bN ?_ _ | refine bD ?_ | refine bA ?_ _)); exact BK582.out) hg (Kd.R_ne HO_5.out BK582.out (by decide))); have n2_ := Aside0.mk (hb); have n3_ := Aside0.mk (ho); clear HO_10; clear BK582; clear HB; clear HO_5; have HO_10 := n0_; have BK582 := n1_; have HB := n2_; have HO588 := n3_; clear n0_ n1_ n2_ n3_; clear ho hb hg hat))
         go_roundg k1
         case measure => have := HK1.out; omega
         case rel => exact ⟨(y586), (wrap64 (x12_1 + 1)), (by first | rfl | (simp; done) | (simp [*]; done)), H', ⟨by have := HK1.out; omega⟩, ⟨by (with_reducible repeat (first | apply Kd.R_alloc | apply Kd.R_drewN | apply Kd.R_drew)); exact HO588.out⟩, ⟨by (with_reducible repeat (first | apply Kd.R_alloc | apply Kd.R_drewN | apply Kd.R_drew)); exact Kd.R_mono HO_10.out (fun _ hk => trivial)⟩, ⟨by repeat (first | (with_reducible first | exact HB.out | apply wA | apply wN | apply w1 | refine wS ?_ GE582.out) | exact HB.out)⟩⟩
        ·rw [if_neg c20] at H
         exact absurd H (by simp)
      ·replace c10 := Bool.eq_false_iff.mpr c10
       subst c10
       have H1 : (if x5_1.length < 1954687338268 then (delta_Diff.l0 k1 (x5_1 ++ [(⟨2, 0, (rd_T95 t578 x12_1).f0, (⟨#[]⟩ : BA), (⟨#[]⟩ : BA), 0⟩ : S32)]) t578 (t578.length : Int) (wrap64 (x12_1 + 1))) else (none)) = some r := by rw [if_neg (show ¬ (false = true) by decide)] at H; exact H
       clear H
       have H := H1
       clear H1
       by_cases c24 : x5_1.length < 1954687338268
       ·rw [if_pos c24] at H
        have LMc24 := Aside0.mk c24
        clear c24
        obtain ⟨y589, hy589⟩ : ∃ y_ : List (S32), y_ = (x5_1 ++ [(⟨2, 0, (rd_T95 t578 x12_1).f0, (⟨#[]⟩ : BA), (⟨#[]⟩ : BA), 0⟩ : S32)]) := ⟨_, rfl⟩
        replace H : (delta_Diff.l0 k1 y589 t578 (t578.length : Int) (wrap64 (x12_1 + 1))) = some r := by first | (rw [hy589]; with_reducible exact H) | (have H2_ := (Option.bind_some _ _).symm.trans H; rw [hy589]; with_reducible exact H2_) | (have H2_ := (Option.bind_some _ _).symm.trans H; with_reducible exact H2_) | with_reducible exact H | (rw [hy589]; exact H) | exact H
        have Ny589 := Aside0.mk hy589
        clear hy589
        have H' := Aside0.mk H
        clear H
        have p581 : 0 ≤ (x12_1 : Int) := of_decide_eq_true (by first | (with_reducible assumption) | assumption)
        have q581 : x12_1 < (t578.length : Int) := of_decide_eq_true (by first | (with_reducible assumption) | assumption)
        obtain ⟨ad581, e581, hx581_0, hx581_1, hx581_2, hx581_3, hx581_4⟩ := at_T95 (Kd.R_reads' HO_10.out).2.2 x12_1 p581 q581
        (try rw [← Nbq9.out] at hx581_3)
        (try rw [← Nbq9.out] at hx581_4)
        cases e581
        replace p581 := eq_true p581
        replace q581 := eq_true q581
        go_wp2_with (first | ((with_reducible refine gate_dst (N := 7) rfl ?_); refine box_event ?hg (N := 7) ?hd (cs := #[.string (⟨#[]⟩ : BA), .string (⟨#[]⟩ : BA), .string (⟨#[]⟩ : BA), .bool false, .bool false]) (t := 95) ?hr ?_; (case hd => rfl); (case hg => rfl); (case hr => first | (go_simp; done) | (go_simp; rfl)); intro gb582 hg w25 hbox hb; have n0_ := Aside0.mk (Kd.R_below (kR_ HO_5.out) hb); have n1_ := Aside0.mk (Kd.R_below (Kd.R_elderB (kR_ HO_10.out) gb582 (Nat.le_of_eq hg.symm)) hb); have n2_ := Aside0.mk (wT bW_ hb); have n3_ := Aside0.mk (hbox); have n4_ := Aside0.mk ((by rw [hg]; exact (wZ bW_) : w.heap.size ≤ gb582)); have n5_ := n4_; clear HO_5; clear HO_10; clear HB; have HO_5 := n0_; have HO_10 := n1_; have HB := n2_; have BK582 := n3_; have GW582 := n4_; have GE582 := n5_; clear n0_ n1_ n2_ n3_ n4_ n5_; clear hb hbox hg; have hcz26_0 := cz_ BK582.out 0; have hcz26_1 := cz_ BK582.out 1; have hcz26_2 := cz_ BK582.out 2; have hcz26_3 := cz_ BK582.out 3; have hcz26_4 := cz_ BK582.out 4; have hfz26_0 := bF BK582.out 0; have hfz26_1 := bF BK582.out 1; have hfz26_2 := bF BK582.out 2; have hfz26_3 := bF BK582.out 3; have hfz26_4 := bF BK582.out 4) | ((with_reducible refine gate_builtin (b := .append) (xs := #[.tmp 20, .tmp 24]) rfl ?_); at_builtin; refine Kd.R_append k32 (w0 := w) w.heap.size rfl (.tmp 20) (.tmp 24) 22 32 (.agg #[(.int .u8 0), (.int .i64 0), (.string ⟨#[]⟩), (.string ⟨#[]⟩), (.string ⟨#[]⟩), (.int .u64 0)]) 72 rfl Try.underlying22 info32 rfl (by decide) (by omega) u5 x5_1 (⟨2, 0, (rd_T95 t578 x12_1).f0, (⟨#[]⟩ : BA), (⟨#[]⟩ : BA), 0⟩ : S32) [.int .u8 2, .int .i64 0, .string ((rd_T95 t578 x12_1).f0), .string (⟨#[]⟩ : BA), .string (⟨#[]⟩ : BA), .int .u64 0] (fun _ => True) (fun _ => False) rfl (by first | (go_simp; done) | (go_simp; rfl)) ?aP (fun _ hk => hk.elim) ?aF ?aO ?aB ?aS ?aL ?_; (case aP => exact k32_mkM _ _ _ (⟨2, 0, (rd_T95 t578 x12_1).f0, (⟨#[]⟩ : BA), (⟨#[]⟩ : BA), 0⟩ : S32)); (case aB => exact (bS1_ GE582.out)); (case aF => exact (fun _ _ => trivial)); (case aO => exact (by (with_reducible repeat (first | apply Kd.R_alloc | apply Kd.R_drewN | apply Kd.R_drew)); exact Kd.R_mono (Kd.R_far (p := ⟨gb582, 4, none⟩) (Kd.R_far (p := ⟨gb582, 3, none⟩) (Kd.R_far (p := ⟨gb582, 2, none⟩) (Kd.R_far (p := ⟨gb582, 1, none⟩) (Kd.R_far (p := ⟨gb582, 0, none⟩) (Kd.R_types HO_5.out BK582.out (by decide)) (fun _ hk => hk.2) (.string ((rd_T95 t578 x12_1).f0))) (fun _ hk => hk.2) (.string ((rd_T95 t578 x12_1).f1))) (fun _ hk => hk.2) (.string ((rd_T95 t578 x12_1).f2))) (fun _ hk => hk.2) (.bool false)) (fun _ hk => hk.2) (.bool ((rd_T95 t578 x12_1).f4))) (fun _ hk => trivial))); (case aS => exact (wZ (bS1_ GE582.out))); (case aL => have := LMc24.out; omega); intro v590 w27 ho hb hg hat; rw [← Ny589.out] at ho; have n0_ := Aside0.mk (Kd.R_over' (by (with_reducible repeat (first | apply Kd.R_alloc | apply Kd.R_drewN | apply Kd.R_drew)); exact (Kd.R_mono (Kd.R_far (p := ⟨gb582, 4, none⟩) (Kd.R_far (p := ⟨gb582, 3, none⟩) (Kd.R_far (p := ⟨gb582, 2, none⟩) (Kd.R_far (p := ⟨gb582, 1, none⟩) (Kd.R_far (p := ⟨gb582, 0, none⟩) (Kd.R_mono HO_10.out (fun k_ hk => (⟨hk, hk.2⟩ : _ ∧ k_ ≠ gb582))) (fun _ hk => hk.2) (.string ((rd_T95 t578 x12_1).f0))) (fun _ hk => hk.2) (.string ((rd_T95 t578 x12_1).f1))) (fun _ hk => hk.2) (.string ((rd_T95 t578 x12_1).f2))) (fun _ hk => hk.2) (.bool false)) (fun _ hk => hk.2) (.bool ((rd_T95 t578 x12_1).f4))) (fun _ h_ => h_.1))) (Kd.R_typed (by (with_reducible repeat (first | apply Kd.R_alloc | apply Kd.R_drewN | apply Kd.R_drew)); exact (Kd.R_mono (Kd.R_far (p := ⟨gb582, 4, none⟩) (Kd.R_far (p := ⟨gb582, 3, none⟩) (Kd.R_far (p := ⟨gb582, 2, none⟩) (Kd.R_far (p := ⟨gb582, 1, none⟩) (Kd.R_far (p := ⟨gb582, 0, none⟩) (Kd.R_types HO_5.out BK582.out (by decide)) (fun _ hk => hk.2) (.string ((rd_T95 t578 x12_1).f0))) (fun _ hk => hk.2) (.string ((rd_T95 t578 x12_1).f1))) (fun _ hk => hk.2) (.string ((rd_T95 t578 x12_1).f2))) (fun _ hk => hk.2) (.bool false)) (fun _ hk => hk.2) (.bool ((rd_T95 t578 x12_1).f4))) (fun _ h_ => h_.1)))) (by decide) hg); have n1_ := Aside0.mk (blk_grown (g := gb582) (o := .cells #[.string ((rd_T95 t578 x12_1).f0), .string ((rd_T95 t578 x12_1).f1), .string ((rd_T95 t578 x12_1).f2), .bool false, .bool ((rd_T95 t578 x12_1).f4)] 95 (0, 0)) (by (with_reducible repeat (first | refine bN ?_ _ | refine bD ?_ | refine bA ?_ _)); refine bP (cs := #[.string ((rd_T95 t578 x12_1).f0), .string ((rd_T95 t578 x12_1).f1), .string ((rd_T95 t578 x12_1).f2), .bool false, .bool false]) ?_ 4 _ rfl; (with_reducible repeat (first | refine bN ?_ _ | refine bD ?_ | refine bA ?_ _)); refine bP (cs := #[.string ((rd_T95 t578 x12_1).f0), .string ((rd_T95 t578 x12_1).f1), .string ((rd_T95 t578 x12_1).f2), .bool false, .bool false]) ?_ 3 _ rfl; (with_reducible repeat (first | refine bN ?_ _ | refine bD ?_ | refine bA ?_ _)); refine bP (cs := #[.string ((rd_T95 t578 x12_1).f0), .string ((rd_T95 t578 x12_1).f1), .string (⟨#[]⟩ : BA), .bool false, .bool false]) ?_ 2 _ rfl; (with_reducible repeat (first | refine bN ?_ _ | refine bD ?_ | refine bA ?_ _)); refine bP (cs := #[.string ((rd_T95 t578 x12_1).f0), .string (⟨#[]⟩ : BA), .string (⟨#[]⟩ : BA), .bool false, .bool false]) ?_ 1 _ rfl; (with_reducible repeat (first | refine bN ?_ _ | refine bD ?_ | refine bA ?_ _)); refine bP (cs := #[.string (⟨#[]⟩ : BA), .string (⟨#[]⟩ : BA), .string (⟨#[]⟩ : BA), .bool false, .bool false]) ?_ 0 _ rfl; (with_reducible repeat (first | refine bN ?_ _ | refine bD ?_ | refine bA ?_ _)); exact BK582.out) hg (Kd.R_ne HO_5.out BK582.out (by decide))); have n2_ := Aside0.mk (hb); have n3_ := Aside0.mk (ho); clear HO_10; clear BK582; clear HB; clear HO_5; have HO_10 := n0_; have BK582 := n1_; have HB := n2_; have HO591 := n3_; clear n0_ n1_ n2_ n3_; clear ho hb hg hat))
        go_roundg k1
        case measure => have := HK1.out; omega
        case rel => exact ⟨(y589), (wrap64 (x12_1 + 1)), (by first | rfl | (simp; done) | (simp [*]; done)), H', ⟨by have := HK1.out; omega⟩, ⟨by (with_reducible repeat (first | apply Kd.R_alloc | apply Kd.R_drewN | apply Kd.R_drew)); exact HO591.out⟩, ⟨by (with_reducible repeat (first | apply Kd.R_alloc | apply Kd.R_drewN | apply Kd.R_drew)); exact Kd.R_mono HO_10.out (fun _ hk => trivial)⟩, ⟨by repeat (first | (with_reducible first | exact HB.out | apply wA | apply wN | apply w1 | refine wS ?_ GE582.out) | exact HB.out)⟩⟩
       ·rw [if_neg c24] at H
        exact absurd H (by simp)
     ·rw [if_neg c8] at H
      exact absurd H (by simp)
    ·rw [if_neg c7] at H
     exact absurd H (by simp)
   ·rw [if_neg c6] at H
    have c6b0 : decide (x12_1 < (t578.length : Int)) = false := decide_eq_false c6
    clear c6
    obtain rfl := Option.some.inj H
    go_wp2
    go_ret
    exact ⟨_, by first | rfl | (simp [errW_none, errW_some] <;> rfl) | (simp [*, errW_none, errW_some] <;> rfl), by (with_reducible repeat (first | apply Kd.R_alloc | apply Kd.R_drewN | apply Kd.R_drew)); exact HO_5.out, by repeat (first | (with_reducible first | exact HB.out | apply wA | apply wN | apply w1) | exact HB.out)⟩
end Go.Proofs.Ytebejadiaooooaa.P
end
section
namespace Go.Proofs.Ytebejadiaooooaa.P
open Go.RowKit Go.Proofs.YtebejadiaooooaaW.PrintWords Go.Proofs.YtebejadiaooooaaW.PrintLast Go.Proofs.YtebejadiaooooaaW.PrintMore Go.Proofs.Ytebejadiaooooaa.Own
open Go.Proofs.YtebejadiaooooaaW.PrintWords renaming pw_below_drewN → wN, below_drew1 → w1, below_alloc → wA, below_step → wT, below_size → wZ
open List renaming setIfInBounds_toArray → sA1, set_cons_zero → sA2, set_cons_succ → sA3, map_toArray → mA1, map_cons → mA2, map_nil → mA3, length_take → mA4, length_drop → mA5
attribute [local go_sem] max2_str max2_int min2_int max_two min_two max_three min_three max_four min_four   -- for this text's walks alone
end Go.Proofs.Ytebejadiaooooaa.P
end
section
namespace Go.Proofs.Ytebejadiaooooaa.P
open Go.RowKit Go.Proofs.YtebejadiaooooaaW.PrintWords Go.Proofs.YtebejadiaooooaaW.PrintLast Go.Proofs.YtebejadiaooooaaW.PrintMore Go.Proofs.Ytebejadiaooooaa.Own
open Bool renaming true → YY, false → ZZ
open Go.Proofs.YtebejadiaooooaaW.PrintWords renaming pw_below_drewN → wN, below_drew1 → w1, below_alloc → wA, below_step → wT, below_size → wZ
open List renaming setIfInBounds_toArray → sA1, set_cons_zero → sA2, set_cons_succ → sA3, map_toArray → mA1, map_cons → mA2, map_nil → mA3, length_take → mA4, length_drop → mA5
attribute [local go_sem] max2_str max2_int min2_int max_two min_two max_three min_three max_four min_four   -- for this text's walks alone
end Go.Proofs.Ytebejadiaooooaa.P
end
