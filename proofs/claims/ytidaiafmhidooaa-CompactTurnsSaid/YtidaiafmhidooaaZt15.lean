/- Texts of one claim (laid by shake.py). -/
import Derived.Test.YtidaiafmhidooaaZt3
import Derived.Test.YtidaiafmhidooaaZt5
import Derived.Test.YtidaiafmhidooaaZt10
import Derived.Test.YtidaiafmhidooaaZt12
import Derived.Test.YtidaiafmhidooaaZt13
import Derived.Test.YtidaiafmhidooaaZt14
set_option linter.unusedVariables false
set_option linter.unusedSimpArgs false
section
namespace Go.Proofs.Ytidaiafmhidooaa.P
open Go.RowKit Go.Proofs.YtidaiafmhidooaaW.PrintWords Go.Proofs.YtidaiafmhidooaaW.PrintLast Go.Proofs.YtidaiafmhidooaaW.PrintMore Go.Proofs.Ytidaiafmhidooaa.Own
open Go.Proofs.YtidaiafmhidooaaW.PrintWords renaming blk_cell → bC, blk_frozen → bF, blk_drewN → bN, blk_alloc → bA, pw_below_drewN → wN, blk_drew → bD, below_drew1 → w1, below_set → wS, below_alloc → wA, blk_below → bB, below_step → wT, below_size → wZ, blk_far → bR, blk_put → bP
open List renaming setIfInBounds_toArray → sA1, set_cons_zero → sA2, set_cons_succ → sA3, map_toArray → mA1, map_cons → mA2, map_nil → mA3, length_take → mA4, length_drop → mA5
attribute [local go_sem] max2_str max2_int min2_int max_two min_two max_three min_three max_four min_four   -- for this text's walks alone
def catchmentref06_Inverse.l0 : Nat → List (S55) → List (S33) → List ByteArray → Int → Option ((List (S33)))
 | 0, _, _, _, _ => none
 | k + 1, x1, x5, x6, x7 => if x7 < (x6.length : Int) then (if 0 ≤ x7 then ((catchmentref05_Find.f k x1 (rdOf ByteArray.empty x6 x7)).bind fun bt434 => (if bt434.2 = true then (if x5.length < 1954687338268 then (catchmentref06_Inverse.l0 k x1 (x5 ++ [(⟨1, 0, rdOf ByteArray.empty x6 x7, (⟨#[]⟩ : BA), bt434.1, 0⟩ : S33)]) x6 (wrap64 (x7 + 1))) else (none)) else (if x5.length < 1954687338268 then (catchmentref06_Inverse.l0 k x1 (x5 ++ [(⟨2, 0, rdOf ByteArray.empty x6 x7, (⟨#[]⟩ : BA), (⟨#[]⟩ : BA), 0⟩ : S33)]) x6 (wrap64 (x7 + 1))) else (none)))) else (none)) else (some x5)
def catchmentref06_Inverse.f (k : Nat) (l0 : List (S33)) (l1 : List (S55)) : Option ((List (S33))) := (catchmentref05_Changed.f k l0 l1).bind fun t430 => (catchmentref06_Inverse.l0 k l1 (([] : List (S33))) t430 0)
set_option maxHeartbeats 8000000 in
set_option maxRecDepth 100000 in
theorem catchmentref06_Inverse.calls (k : Nat) (A0 : Option Addr) (c0 : Nat) (l0 : List (S33)) (A1 : Option Addr) (c1 : Nat) (l1 : List (S55)) (r : List (S33)) (w : World) (hr0 : Kd.C k33 w A0 l0.length l0) (hc0 : l0.length ≤ c0) (hr1 : Kd.C k55 w A1 l1.length l1) (hc1 : l1.length ≤ c1) (h : catchmentref06_Inverse.f k l0 l1 = some r) :
  Calls Try.prog 44 #[.slice A0 l0.length c0, .slice A1 l1.length c1] w fun e w' => ∃ v0_ : Value, e = .returned (v0_) ∧ Kd.R k33 33 w' w.heap.size (fun _ => True) v0_ r ∧ Below w.heap.size w w' := by
 have hu33 := Try.underlying33
 have HR0 := Aside0.mk hr0
 have HC0 := Aside0.mk hc0
 clear hr0 hc0
 have HR1 := Aside0.mk hr1
 have HC1 := Aside0.mk hc1
 clear hr1 hc1
 have HB := Aside0.mk (Below.refl w.heap.size w)
 have H : ((catchmentref05_Changed.f k l0 l1).bind fun t430 => (catchmentref06_Inverse.l0 k l1 (([] : List (S33))) t430 0)) = some r := h
 clear h
 obtain ⟨y427, hy427⟩ : ∃ y_ : List (S33), y_ = (([] : List (S33))) := ⟨_, rfl⟩
 replace H : ((catchmentref05_Changed.f k l0 l1).bind fun t430 => (catchmentref06_Inverse.l0 k l1 y427 t430 0)) = some r := by first | (rw [hy427]; with_reducible exact H) | (have H2_ := (Option.bind_some _ _).symm.trans H; rw [hy427]; with_reducible exact H2_) | (have H2_ := (Option.bind_some _ _).symm.trans H; with_reducible exact H2_) | with_reducible exact H | (rw [hy427]; exact H) | exact H
 have Ny427 := Aside0.mk hy427
 clear hy427
 replace H := Option.bind_eq_some_iff.mp H
 obtain ⟨t430, A30, H⟩ := H
 replace H : (catchmentref06_Inverse.l0 k l1 y427 t430 0) = some r := H
 have A3 := Aside0.mk A30
 clear A30
 have H' := Aside0.mk H
 clear H
 go_enter Try.func44, Try.ntmps44
 go_wp2_with (first | ((with_reducible refine gate_dst (N := 10) rfl ?_); refine Kd.R_lit k33 _ 33 ?hg (N := 10) ?hd (xs := ([] : List (S33))) (inner := []) (ok := fun _ => True) (okp := fun _ => True) ?hr ?hp (fun _ hk => hk) trivial (Below.refl _ _) (Nat.le_refl _) (by simp) ?_; (case hd => rfl); (case hg => rfl); (case hr => first | (go_simp; done) | (go_simp; rfl)); (case hp => exact (Reps.none _ _)); intro v428 w4 ho5 hb hg_ hnew_; clear hg_ hnew_; (first | rw [← Ny427.out] at ho5 | (simp only [Int.reduceToNat] at ho5; rw [← Ny427.out] at ho5)); have n0_ := Aside0.mk (Kd.R_lower ho5 (wZ bW_)); have n1_ := Aside0.mk (wT bW_ hb); clear HB; have HO429 := n0_; have HB := n1_; clear n0_ n1_; clear hb ho5) | ((with_reducible refine gate_callee (f := 33) rfl ?_); refine goesL_ (some 13) rfl rfl Try.func33 (by kernel_rfl) rfl #[.slice A0 l0.length c0, .slice A1 l1.length c1] rfl mS_ ?_; (with_reducible refine (catchmentref05_Changed.calls k _ _ l0 _ _ l1 t430 _ ?side1 ?side2 ?side3 ?side4 A3.out).mono ?_); (case side1 => repeat (first | exact (Kd.C_below HR0.out HB.out) | (with_reducible refine Kd.C_alloc ?_ _) | (with_reducible refine Kd.C_drewN ?_ _) | (with_reducible refine Kd.C_drew ?_))); (case side2 => exact HC0.out); (case side3 => repeat (first | exact (Kd.C_below HR1.out HB.out) | (with_reducible refine Kd.C_alloc ?_ _) | (with_reducible refine Kd.C_drewN ?_ _) | (with_reducible refine Kd.C_drew ?_))); (case side4 => exact HC1.out); rintro e w6 ⟨v431, rfl, ho0, hb⟩; refine ⟨_, rfl, ?_⟩; have n0_ := Aside0.mk (Kd.R_below (kR_ HO429.out) hb); have n1_ := Aside0.mk (Kd.R_lower ho0 (wZ bW_)); have n2_ := Aside0.mk (wT bW_ hb); clear HO429; clear HB; have HO429 := n0_; have HO432 := n1_; have HB := n2_; clear n0_ n1_ n2_; (try clear hb); (try clear hb2); (try clear hk); (try clear hi); (try clear ho0)))
 go_loopg [5, 7] k (fun kq v5 v7 w' => ∃ (x5_1 : List (S33)) (x7_1 : Int), v7 = .int .i64 x7_1 ∧ Aside0 (catchmentref06_Inverse.l0 kq l1 x5_1 t430 x7_1 = some r) ∧ Aside0 (kq ≤ k) ∧ Aside0 (Kd.R k33 33 w' w.heap.size (fun _ => True) v5 x5_1) ∧ Aside0 (Kd.R Kd.string 9 w' w.heap.size (fun _ => True) v431 t430) ∧ Aside0 (Below w.heap.size w w'))
 case atStart => exact ⟨(y427), (0), (by first | rfl | (simp; done) | (simp [*]; done)), H', ⟨Nat.le_refl _⟩, ⟨by (with_reducible repeat (first | apply Kd.R_alloc | apply Kd.R_drewN | apply Kd.R_drew)); exact HO429.out⟩, ⟨by (with_reducible repeat (first | apply Kd.R_alloc | apply Kd.R_drewN | apply Kd.R_drew)); exact HO432.out⟩, ⟨by repeat (first | (with_reducible first | exact HB.out | apply wA | apply wN | apply w1) | exact HB.out)⟩⟩
 case round =>
  clear H'
  try clear c1
  try clear p2
  try clear c3
  try clear c4
  obtain ⟨x5_1, x7_1, rfl, HA, HK1, HO_5, HO_6, HB⟩ := hrel
  cases gk with
  | zero => exact absurd HA.out (by simp [catchmentref06_Inverse.l0])
  | succ k1 =>
   have H := HA.out
   clear HA
   simp only [catchmentref06_Inverse.l0] at H
   by_cases c7 : x7_1 < (t430.length : Int)
   ·rw [if_pos c7] at H
    have c7b0 : decide (x7_1 < (t430.length : Int)) = true := decide_eq_true c7
    clear c7
    by_cases c8 : 0 ≤ x7_1
    ·rw [if_pos c8] at H
     have c8b0 : decide (0 ≤ x7_1) = true := decide_eq_true c8
     clear c8
     replace H := Option.bind_eq_some_iff.mp H
     obtain ⟨⟨t434, t435⟩, A90, H⟩ := H
     replace H : (if t435 = true then (if x5_1.length < 1954687338268 then (catchmentref06_Inverse.l0 k1 l1 (x5_1 ++ [(⟨1, 0, rdOf ByteArray.empty t430 x7_1, (⟨#[]⟩ : BA), t434, 0⟩ : S33)]) t430 (wrap64 (x7_1 + 1))) else (none)) else (if x5_1.length < 1954687338268 then (catchmentref06_Inverse.l0 k1 l1 (x5_1 ++ [(⟨2, 0, rdOf ByteArray.empty t430 x7_1, (⟨#[]⟩ : BA), (⟨#[]⟩ : BA), 0⟩ : S33)]) t430 (wrap64 (x7_1 + 1))) else (none))) = some r := H
     have A9 := Aside0.mk A90
     clear A90
     by_cases c10 : t435 = true
     ·subst c10
      have H1 : (if x5_1.length < 1954687338268 then (catchmentref06_Inverse.l0 k1 l1 (x5_1 ++ [(⟨1, 0, rdOf ByteArray.empty t430 x7_1, (⟨#[]⟩ : BA), t434, 0⟩ : S33)]) t430 (wrap64 (x7_1 + 1))) else (none)) = some r := by rw [if_pos rfl] at H; exact H
      clear H
      have H := H1
      clear H1
      by_cases c11 : x5_1.length < 1954687338268
      ·rw [if_pos c11] at H
       have LMc11 := Aside0.mk c11
       clear c11
       obtain ⟨y437, hy437⟩ : ∃ y_ : List (S33), y_ = (x5_1 ++ [(⟨1, 0, rdOf ByteArray.empty t430 x7_1, (⟨#[]⟩ : BA), t434, 0⟩ : S33)]) := ⟨_, rfl⟩
       replace H : (catchmentref06_Inverse.l0 k1 l1 y437 t430 (wrap64 (x7_1 + 1))) = some r := by first | (rw [hy437]; with_reducible exact H) | (have H2_ := (Option.bind_some _ _).symm.trans H; rw [hy437]; with_reducible exact H2_) | (have H2_ := (Option.bind_some _ _).symm.trans H; with_reducible exact H2_) | with_reducible exact H | (rw [hy437]; exact H) | exact H
       have Ny437 := Aside0.mk hy437
       clear hy437
       have H' := Aside0.mk H
       clear H
       obtain ⟨Ao12, co12, eo12⟩ := Kd.R_slice HO_6.out
       subst eo12
       have p433 : 0 ≤ (x7_1 : Int) := of_decide_eq_true (by first | (with_reducible assumption) | assumption)
       have q433 : x7_1 < (t430.length : Int) := of_decide_eq_true (by first | (with_reducible assumption) | assumption)
       obtain ⟨ad433, e433, hx433_0⟩ := Kd.at_string (Kd.R_reads' HO_6.out).2.2 x7_1 p433 q433
       cases e433
       replace p433 := eq_true p433
       replace q433 := eq_true q433
       go_wp2_with (first | ((with_reducible refine gate_callee (f := 34) rfl ?_); refine goesL_ (some 26) rfl rfl Try.func34 (by kernel_rfl) rfl #[.slice A1 l1.length c1, .string (rdOf ByteArray.empty t430 x7_1)] rfl mS_ ?_; (with_reducible refine (catchmentref05_Find.calls k1 _ _ l1 (rdOf ByteArray.empty t430 x7_1) t434 true _ ?side1 ?side2 A9.out).mono ?_); (case side1 => repeat (first | exact (Kd.C_below HR1.out HB.out) | (with_reducible refine Kd.C_alloc ?_ _) | (with_reducible refine Kd.C_drewN ?_ _) | (with_reducible refine Kd.C_drew ?_))); (case side2 => exact HC1.out); rintro e w' ⟨rfl, ⟨nd, rfl⟩⟩; refine ⟨_, rfl, ?_⟩; have p436 : 0 ≤ (x7_1 : Int) := of_decide_eq_true (by first | (with_reducible assumption) | assumption); have q436 : x7_1 < (t430.length : Int) := of_decide_eq_true (by first | (with_reducible assumption) | assumption); obtain ⟨ad436, e436, hx436_0⟩ := Kd.at_string (Kd.R_reads' HO_6.out).2.2 x7_1 p436 q436; obtain rfl : ad433 = ad436 := (by injection e436); replace p436 := eq_true p436; replace q436 := eq_true q436) | ((with_reducible refine gate_builtin (b := .append) (xs := #[.tmp 30, .tmp 37]) rfl ?_); at_builtin; refine Kd.R_append k33 (w0 := w) w.heap.size rfl (.tmp 30) (.tmp 37) 22 33 (.agg #[(.int .u8 0), (.int .i64 0), (.string ⟨#[]⟩), (.string ⟨#[]⟩), (.string ⟨#[]⟩), (.int .u64 0)]) 72 rfl Try.underlying22 info33 rfl (by decide) (by omega) u5 x5_1 (⟨1, 0, rdOf ByteArray.empty t430 x7_1, (⟨#[]⟩ : BA), t434, 0⟩ : S33) [.int .u8 1, .int .i64 0, .string (rdOf ByteArray.empty t430 x7_1), .string (⟨#[]⟩ : BA), .string t434, .int .u64 0] (fun _ => True) (fun _ => False) rfl rfl ?aP (fun _ hk => hk.elim) ?aF ?aO ?aB ?aS ?aL ?_; (case aP => exact k33_mkM _ _ _ (⟨1, 0, rdOf ByteArray.empty t430 x7_1, (⟨#[]⟩ : BA), t434, 0⟩ : S33)); (case aB => exact bW_); (case aF => exact (fun _ _ => trivial)); (case aO => exact (kR_ HO_5.out)); (case aS => exact (wZ bW_)); (case aL => have := LMc11.out; omega); intro v438 w13 ho hb hg hat; rw [← Ny437.out] at ho; have n0_ := Aside0.mk (Kd.R_over' (kR_ HO_6.out) (Kd.R_typed (kR_ HO_5.out)) (by decide) hg); have n1_ := Aside0.mk (hb); have n2_ := Aside0.mk (ho); clear HO_6; clear HB; clear HO_5; have HO_6 := n0_; have HB := n1_; have HO439 := n2_; clear n0_ n1_ n2_; clear ho hb hg hat))
       go_roundg k1
       case measure => have := HK1.out; omega
       case rel => exact ⟨(y437), (wrap64 (x7_1 + 1)), (by first | rfl | (simp; done) | (simp [*]; done)), H', ⟨by have := HK1.out; omega⟩, ⟨by (with_reducible repeat (first | apply Kd.R_alloc | apply Kd.R_drewN | apply Kd.R_drew)); exact HO439.out⟩, ⟨by (with_reducible repeat (first | apply Kd.R_alloc | apply Kd.R_drewN | apply Kd.R_drew)); exact HO_6.out⟩, ⟨by repeat (first | (with_reducible first | exact HB.out | apply wA | apply wN | apply w1) | exact HB.out)⟩⟩
      ·rw [if_neg c11] at H
       exact absurd H (by simp)
     ·replace c10 := Bool.eq_false_iff.mpr c10
      subst c10
      have H1 : (if x5_1.length < 1954687338268 then (catchmentref06_Inverse.l0 k1 l1 (x5_1 ++ [(⟨2, 0, rdOf ByteArray.empty t430 x7_1, (⟨#[]⟩ : BA), (⟨#[]⟩ : BA), 0⟩ : S33)]) t430 (wrap64 (x7_1 + 1))) else (none)) = some r := by rw [if_neg (show ¬ (false = true) by decide)] at H; exact H
      clear H
      have H := H1
      clear H1
      by_cases c14 : x5_1.length < 1954687338268
      ·rw [if_pos c14] at H
       have LMc14 := Aside0.mk c14
       clear c14
       obtain ⟨y441, hy441⟩ : ∃ y_ : List (S33), y_ = (x5_1 ++ [(⟨2, 0, rdOf ByteArray.empty t430 x7_1, (⟨#[]⟩ : BA), (⟨#[]⟩ : BA), 0⟩ : S33)]) := ⟨_, rfl⟩
       replace H : (catchmentref06_Inverse.l0 k1 l1 y441 t430 (wrap64 (x7_1 + 1))) = some r := by first | (rw [hy441]; with_reducible exact H) | (have H2_ := (Option.bind_some _ _).symm.trans H; rw [hy441]; with_reducible exact H2_) | (have H2_ := (Option.bind_some _ _).symm.trans H; with_reducible exact H2_) | with_reducible exact H | (rw [hy441]; exact H) | exact H
       have Ny441 := Aside0.mk hy441
       clear hy441
       have H' := Aside0.mk H
       clear H
       obtain ⟨Ao15, co15, eo15⟩ := Kd.R_slice HO_6.out
       subst eo15
       have p433 : 0 ≤ (x7_1 : Int) := of_decide_eq_true (by first | (with_reducible assumption) | assumption)
       have q433 : x7_1 < (t430.length : Int) := of_decide_eq_true (by first | (with_reducible assumption) | assumption)
       obtain ⟨ad433, e433, hx433_0⟩ := Kd.at_string (Kd.R_reads' HO_6.out).2.2 x7_1 p433 q433
       cases e433
       replace p433 := eq_true p433
       replace q433 := eq_true q433
       go_wp2_with (first | ((with_reducible refine gate_callee (f := 34) rfl ?_); refine goesL_ (some 26) rfl rfl Try.func34 (by kernel_rfl) rfl #[.slice A1 l1.length c1, .string (rdOf ByteArray.empty t430 x7_1)] rfl mS_ ?_; (with_reducible refine (catchmentref05_Find.calls k1 _ _ l1 (rdOf ByteArray.empty t430 x7_1) t434 false _ ?side1 ?side2 A9.out).mono ?_); (case side1 => repeat (first | exact (Kd.C_below HR1.out HB.out) | (with_reducible refine Kd.C_alloc ?_ _) | (with_reducible refine Kd.C_drewN ?_ _) | (with_reducible refine Kd.C_drew ?_))); (case side2 => exact HC1.out); rintro e w' ⟨rfl, ⟨nd, rfl⟩⟩; refine ⟨_, rfl, ?_⟩; have p440 : 0 ≤ (x7_1 : Int) := of_decide_eq_true (by first | (with_reducible assumption) | assumption); have q440 : x7_1 < (t430.length : Int) := of_decide_eq_true (by first | (with_reducible assumption) | assumption); obtain ⟨ad440, e440, hx440_0⟩ := Kd.at_string (Kd.R_reads' HO_6.out).2.2 x7_1 p440 q440; obtain rfl : ad433 = ad440 := (by injection e440); replace p440 := eq_true p440; replace q440 := eq_true q440) | ((with_reducible refine gate_builtin (b := .append) (xs := #[.tmp 39, .tmp 45]) rfl ?_); at_builtin; refine Kd.R_append k33 (w0 := w) w.heap.size rfl (.tmp 39) (.tmp 45) 22 33 (.agg #[(.int .u8 0), (.int .i64 0), (.string ⟨#[]⟩), (.string ⟨#[]⟩), (.string ⟨#[]⟩), (.int .u64 0)]) 72 rfl Try.underlying22 info33 rfl (by decide) (by omega) u5 x5_1 (⟨2, 0, rdOf ByteArray.empty t430 x7_1, (⟨#[]⟩ : BA), (⟨#[]⟩ : BA), 0⟩ : S33) [.int .u8 2, .int .i64 0, .string (rdOf ByteArray.empty t430 x7_1), .string (⟨#[]⟩ : BA), .string (⟨#[]⟩ : BA), .int .u64 0] (fun _ => True) (fun _ => False) rfl rfl ?aP (fun _ hk => hk.elim) ?aF ?aO ?aB ?aS ?aL ?_; (case aP => exact k33_mkM _ _ _ (⟨2, 0, rdOf ByteArray.empty t430 x7_1, (⟨#[]⟩ : BA), (⟨#[]⟩ : BA), 0⟩ : S33)); (case aB => exact bW_); (case aF => exact (fun _ _ => trivial)); (case aO => exact (kR_ HO_5.out)); (case aS => exact (wZ bW_)); (case aL => have := LMc14.out; omega); intro v442 w16 ho hb hg hat; rw [← Ny441.out] at ho; have n0_ := Aside0.mk (Kd.R_over' (kR_ HO_6.out) (Kd.R_typed (kR_ HO_5.out)) (by decide) hg); have n1_ := Aside0.mk (hb); have n2_ := Aside0.mk (ho); clear HO_6; clear HB; clear HO_5; have HO_6 := n0_; have HB := n1_; have HO443 := n2_; clear n0_ n1_ n2_; clear ho hb hg hat))
       go_roundg k1
       case measure => have := HK1.out; omega
       case rel => exact ⟨(y441), (wrap64 (x7_1 + 1)), (by first | rfl | (simp; done) | (simp [*]; done)), H', ⟨by have := HK1.out; omega⟩, ⟨by (with_reducible repeat (first | apply Kd.R_alloc | apply Kd.R_drewN | apply Kd.R_drew)); exact HO443.out⟩, ⟨by (with_reducible repeat (first | apply Kd.R_alloc | apply Kd.R_drewN | apply Kd.R_drew)); exact HO_6.out⟩, ⟨by repeat (first | (with_reducible first | exact HB.out | apply wA | apply wN | apply w1) | exact HB.out)⟩⟩
      ·rw [if_neg c14] at H
       exact absurd H (by simp)
    ·rw [if_neg c8] at H
     exact absurd H (by simp)
   ·rw [if_neg c7] at H
    have c7b0 : decide (x7_1 < (t430.length : Int)) = false := decide_eq_false c7
    clear c7
    obtain rfl := Option.some.inj H
    obtain ⟨Ao17, co17, eo17⟩ := Kd.R_slice HO_6.out
    subst eo17
    go_wp2
    go_ret
    exact ⟨_, by first | rfl | (simp [errW_none, errW_some] <;> rfl) | (simp [*, errW_none, errW_some] <;> rfl), by (with_reducible repeat (first | apply Kd.R_alloc | apply Kd.R_drewN | apply Kd.R_drew)); exact HO_5.out, by repeat (first | (with_reducible first | exact HB.out | apply wA | apply wN | apply w1) | exact HB.out)⟩
end Go.Proofs.Ytidaiafmhidooaa.P
end
