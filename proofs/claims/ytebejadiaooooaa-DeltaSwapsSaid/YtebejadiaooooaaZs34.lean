/- Texts of one claim (laid by shake.py). -/
import Derived.Test.YtebejadiaooooaaZs4
import Derived.Test.YtebejadiaooooaaZs8
import Derived.Test.YtebejadiaooooaaZs14
import Derived.Test.YtebejadiaooooaaZs29
import Derived.Test.YtebejadiaooooaaZs33
set_option linter.unusedVariables false
set_option linter.unusedSimpArgs false
section
namespace Go.Proofs.Ytebejadiaooooaa.P
open Go.RowKit Go.Proofs.YtebejadiaooooaaW.PrintWords Go.Proofs.YtebejadiaooooaaW.PrintLast Go.Proofs.YtebejadiaooooaaW.PrintMore Go.Proofs.Ytebejadiaooooaa.Own
open Bool renaming true → YY, false → ZZ
open Go.Proofs.YtebejadiaooooaaW.PrintWords renaming blk_cell → bC, blk_frozen → bF, blk_drewN → bN, blk_alloc → bA, pw_below_drewN → wN, blk_drew → bD, below_drew1 → w1, below_set → wS, below_alloc → wA, blk_below → bB, below_step → wT, below_size → wZ, cell_far → cF
open List renaming setIfInBounds_toArray → sA1, set_cons_zero → sA2, set_cons_succ → sA3, map_toArray → mA1, map_cons → mA2, map_nil → mA3, length_take → mA4, length_drop → mA5
attribute [local go_sem] max2_str max2_int min2_int max_two min_two max_three min_three max_four min_four   -- for this text's walks alone
mutual
def catchmentlaw37_DeltaSwaps.l0 : Nat → List (S32) → List (S32) → ByteArray → ByteArray → Bool → Bool → Int → Option (Bool)
 | 0, _, _, _, _, _, _, _ => none
 | k + 1, x0, x1, x2, x3, x9, x10, x11 => if x11 < (x0.length : Int) then (catchmentlaw37_DeltaSwaps.l1 k x0 x1 x2 x3 x9 x10 x11 0) else (if x10 = true then (catchmentlaw37_DeltaSwaps.j2 k x0 x1 x2 x3 x9 (!x9)) else (catchmentlaw37_DeltaSwaps.j2 k x0 x1 x2 x3 x9 false))
def catchmentlaw37_DeltaSwaps.l1 : Nat → List (S32) → List (S32) → ByteArray → ByteArray → Bool → Bool → Int → Int → Option (Bool)
 | 0, _, _, _, _, _, _, _, _ => none
 | k + 1, x0, x1, x2, x3, x9, x10, x11, x12 => if x12 < (x1.length : Int) then (if 0 ≤ x11 then (if x11 < (x0.length : Int) then ((catchmentref04_Span.f ((rd_T32 x0 x11).f0) ((rd_T32 x0 x11).f1) ((rd_T32 x0 x11).f2) ((rd_T32 x0 x11).f3) ((rd_T32 x0 x11).f4) ((rd_T32 x0 x11).f5)).bind fun bt916 => (if 0 ≤ x12 then ((catchmentref04_Span.f ((rd_T32 x1 x12).f0) ((rd_T32 x1 x12).f1) ((rd_T32 x1 x12).f2) ((rd_T32 x1 x12).f3) ((rd_T32 x1 x12).f4) ((rd_T32 x1 x12).f5)).bind fun bt919 => ((catchmentref02_Meet.f bt916.1 bt916.2 bt919.1 bt919.2).bind fun bt921 => (if x10 = true then (catchmentlaw37_DeltaSwaps.l1 k x0 x1 x2 x3 x9 (!bt921.2.2) x11 (wrap64 (x12 + 1))) else (catchmentlaw37_DeltaSwaps.l1 k x0 x1 x2 x3 x9 false x11 (wrap64 (x12 + 1)))))) else (none))) else (none)) else (none)) else (catchmentlaw37_DeltaSwaps.l0 k x0 x1 x2 x3 x9 x10 (wrap64 (x11 + 1)))
def catchmentlaw37_DeltaSwaps.j2 : Nat → List (S32) → List (S32) → ByteArray → ByteArray → Bool → Bool → Option (Bool)
 | 0, _, _, _, _, _, _ => none
 | k + 1, x0, x1, x2, x3, x9, x70 => if x70 = true then (some false) else ((some (([] : List (S32)) : List (S32))).bind fun y925 => (if y925.length + x0.length < 1954687338268 then ((some (y925 ++ x0 : List (S32))).bind fun y928 => (if y928.length + x1.length < 1954687338268 then ((some (([] : List (S32)) : List (S32))).bind fun y934 => (if y934.length + x1.length < 1954687338268 then ((some (y934 ++ x1 : List (S32))).bind fun y937 => (if y937.length + x0.length < 1954687338268 then ((catchmentlaw37_live.f k).bind fun t943 => (if t943 = true then (if x9 = true then ((catchmentref06_AlikeAt.f k (y928 ++ x1) (y937 ++ x0) x2 x3).bind fun t944 => (some t944)) else (some true)) else (some false))) else (none))) else (none))) else (none))) else (none)))
end
def catchmentlaw37_DeltaSwaps.f (k : Nat) (l0 : List (S32)) (l1 : List (S32)) (a2 : BA) (a3 : BA) : Option (Bool) := if 0 ≤ (mn (l0.length : Int) 20) then (if (mn (l0.length : Int) 20) ≤ (l0.length : Int) then ((some (l0.take ((mn (l0.length : Int) 20) : Int).toNat : List (S32))).bind fun y905 => (if 0 ≤ (mn (l1.length : Int) 20) then (if (mn (l1.length : Int) 20) ≤ (l1.length : Int) then ((some (l1.take ((mn (l1.length : Int) 20) : Int).toNat : List (S32))).bind fun y909 => ((delta_Swap.f k y905 y909).bind fun t913 => ((catchmentref37_Swap.f k y905 y909).bind fun t914 => (if (t913 != t914) = true then (some false) else (catchmentlaw37_DeltaSwaps.l0 k y905 y909 a2 a3 t913 true 0))))) else (none)) else (none))) else (none)) else (none)
def catchmentlaw37_DeltaSwaps.T1 : Bool × List (List Nat × List Nat) := (true, [([], []), ([], []), ([1], [1]), ([2], [2]), ([0, 3], [0, 3]), ([], []), ([], []), ([6], [6]), ([7], [7]), ([5, 8], [5, 8]), ([4, 0, 1, 2, 3, 4], [0, 1, 4]), ([9, 10, 0, 1, 2, 3, 4, 5, 6, 7, 8, 9, 10], [5, 6, 9])])
def catchmentlaw37_DeltaSwaps.B1 : List Nat := [0, 0, 2, 6, 15, 0, 0, 64, 192, 480, 31, 2047]
theorem catchmentlaw37_DeltaSwaps.tab1 : rtab .any (opsOf Try.f12 1) = catchmentlaw37_DeltaSwaps.T1 := by kernel_rfl
theorem catchmentlaw37_DeltaSwaps.bits1 : waitsOk catchmentlaw37_DeltaSwaps.T1.2 catchmentlaw37_DeltaSwaps.B1 = true := by kernel_rfl
def catchmentlaw37_DeltaSwaps.T12 : Bool × List (List Nat × List Nat) := (true, [([], []), ([], []), ([0, 1], [0, 1]), ([2], [2]), ([3], [3]), ([], []), ([], []), ([5, 6], [5, 6]), ([7], [7]), ([8, 4], [8]), ([4, 9, 9], [4, 9]), ([10], [10]), ([11], [11]), ([11], [11]), ([], []), ([14, 12, 10, 0, 1, 2, 3, 4, 5, 6, 7, 8, 9, 10, 11, 12, 14], [12, 14]), ([13, 15, 0, 1, 2, 3, 4, 5, 6, 7, 8, 9, 10, 11, 12, 13, 14, 15], [13])])
def catchmentlaw37_DeltaSwaps.B12 : List Nat := [0, 0, 3, 7, 15, 0, 0, 96, 224, 511, 1023, 2047, 4095, 4095, 0, 24575, 65535]
theorem catchmentlaw37_DeltaSwaps.tab12 : rtab .any (opsOf Try.f12 12) = catchmentlaw37_DeltaSwaps.T12 := by kernel_rfl
theorem catchmentlaw37_DeltaSwaps.bits12 : waitsOk catchmentlaw37_DeltaSwaps.T12.2 catchmentlaw37_DeltaSwaps.B12 = true := by kernel_rfl
set_option maxHeartbeats 8000000 in
set_option maxRecDepth 100000 in
theorem catchmentlaw37_DeltaSwaps.calls (k : Nat) (A0 : Option Addr) (c0 : Nat) (l0 : List (S32)) (A1 : Option Addr) (c1 : Nat) (l1 : List (S32)) (a2 : BA) (a3 : BA) (r : Bool) (w : World) (hr0 : Kd.C k32 w A0 l0.length l0) (hc0 : l0.length ≤ c0) (hr1 : Kd.C k32 w A1 l1.length l1) (hc1 : l1.length ≤ c1) (h : catchmentlaw37_DeltaSwaps.f k l0 l1 a2 a3 = some r) :
  Calls Try.prog 12 #[.slice A0 l0.length c0, .slice A1 l1.length c1, .string a2, .string a3] w fun e w' => e = .returned (.bool r) ∧ Below w.heap.size w w' := by
 have hu32 := Try.underlying32
 have hu28 := Try.underlying28
 have HR0 := Aside0.mk hr0
 have HC0 := Aside0.mk hc0
 clear hr0 hc0
 have HR1 := Aside0.mk hr1
 have HC1 := Aside0.mk hc1
 clear hr1 hc1
 have HB := Aside0.mk (Below.refl w.heap.size w)
 have H : (if 0 ≤ (mn (l0.length : Int) 20) then (if (mn (l0.length : Int) 20) ≤ (l0.length : Int) then ((some (l0.take ((mn (l0.length : Int) 20) : Int).toNat : List (S32))).bind fun y905 => (if 0 ≤ (mn (l1.length : Int) 20) then (if (mn (l1.length : Int) 20) ≤ (l1.length : Int) then ((some (l1.take ((mn (l1.length : Int) 20) : Int).toNat : List (S32))).bind fun y909 => ((delta_Swap.f k y905 y909).bind fun t913 => ((catchmentref37_Swap.f k y905 y909).bind fun t914 => (if (t913 != t914) = true then (some false) else (catchmentlaw37_DeltaSwaps.l0 k y905 y909 a2 a3 t913 true 0))))) else (none)) else (none))) else (none)) else (none)) = some r := h
 clear h
 obtain ⟨ji5, hji5⟩ : ∃ j_ : Int, (mn (l0.length : Int) 20) = j_ := ⟨_, rfl⟩
 replace H : (if 0 ≤ (ji5) then (if (ji5) ≤ (l0.length : Int) then ((some (l0.take ((ji5) : Int).toNat : List (S32))).bind fun y905 => (if 0 ≤ (mn (l1.length : Int) 20) then (if (mn (l1.length : Int) 20) ≤ (l1.length : Int) then ((some (l1.take ((mn (l1.length : Int) 20) : Int).toNat : List (S32))).bind fun y909 => ((delta_Swap.f k y905 y909).bind fun t913 => ((catchmentref37_Swap.f k y905 y909).bind fun t914 => (if (t913 != t914) = true then (some false) else (catchmentlaw37_DeltaSwaps.l0 k y905 y909 a2 a3 t913 true 0))))) else (none)) else (none))) else (none)) else (none)) = some r := by first | (rw [hji5] at H; exact H) | (simp only [hji5] at H ⊢; exact H)
 (try (have hji5h : ji5 ≤ 20 := by (rw [← hji5]; unfold mn; (repeat' split) <;> omega)))
 (try (have hji5g : ji5 ≤ 64 := by omega))
 (try (have hji5l : 0 ≤ ji5 := by (rw [← hji5]; unfold mn; (repeat' split) <;> omega)))
 (try (have hji5m : 0 ≤ ji5 := by omega))
 have hji5_ : (if 20 < (l0.length : Int) then 20 else (l0.length : Int)) = ji5 := hji5
 by_cases c6 : 0 ≤ (ji5)
 ·rw [if_pos c6] at H
  have c6b0 := eq_true c6
  have c6b1 : decide (0 ≤ (ji5)) = true := decide_eq_true c6
  clear c6
  by_cases c7 : (ji5) ≤ (l0.length : Int)
  ·rw [if_pos c7] at H
   have c7b0 := eq_true c7
   have c7b1 : decide ((ji5) ≤ (l0.length : Int)) = true := decide_eq_true c7
   clear c7
   obtain ⟨y905, hy905⟩ : ∃ y_ : List (S32), y_ = (l0.take ((ji5) : Int).toNat) := ⟨_, rfl⟩
   replace H : (if 0 ≤ (mn (l1.length : Int) 20) then (if (mn (l1.length : Int) 20) ≤ (l1.length : Int) then ((some (l1.take ((mn (l1.length : Int) 20) : Int).toNat : List (S32))).bind fun y909 => ((delta_Swap.f k y905 y909).bind fun t913 => ((catchmentref37_Swap.f k y905 y909).bind fun t914 => (if (t913 != t914) = true then (some false) else (catchmentlaw37_DeltaSwaps.l0 k y905 y909 a2 a3 t913 true 0))))) else (none)) else (none)) = some r := by first | (rw [hy905]; with_reducible exact H) | (have H2_ := (Option.bind_some _ _).symm.trans H; rw [hy905]; with_reducible exact H2_) | (have H2_ := (Option.bind_some _ _).symm.trans H; with_reducible exact H2_) | with_reducible exact H | (rw [hy905]; exact H) | exact H
   have Ny905 := Aside0.mk hy905
   clear hy905
   obtain ⟨ji8, hji8⟩ : ∃ j_ : Int, (mn (l1.length : Int) 20) = j_ := ⟨_, rfl⟩
   replace H : (if 0 ≤ (ji8) then (if (ji8) ≤ (l1.length : Int) then ((some (l1.take ((ji8) : Int).toNat : List (S32))).bind fun y909 => ((delta_Swap.f k y905 y909).bind fun t913 => ((catchmentref37_Swap.f k y905 y909).bind fun t914 => (if (t913 != t914) = true then (some false) else (catchmentlaw37_DeltaSwaps.l0 k y905 y909 a2 a3 t913 true 0))))) else (none)) else (none)) = some r := by first | (rw [hji8] at H; exact H) | (simp only [hji8] at H ⊢; exact H)
   (try (have hji8h : ji8 ≤ 20 := by (rw [← hji8]; unfold mn; (repeat' split) <;> omega)))
   (try (have hji8g : ji8 ≤ 64 := by omega))
   (try (have hji8l : 0 ≤ ji8 := by (rw [← hji8]; unfold mn; (repeat' split) <;> omega)))
   (try (have hji8m : 0 ≤ ji8 := by omega))
   have hji8_ : (if 20 < (l1.length : Int) then 20 else (l1.length : Int)) = ji8 := hji8
   by_cases c9 : 0 ≤ (ji8)
   ·rw [if_pos c9] at H
    have c9b0 := eq_true c9
    have c9b1 : decide (0 ≤ (ji8)) = true := decide_eq_true c9
    clear c9
    by_cases c10 : (ji8) ≤ (l1.length : Int)
    ·rw [if_pos c10] at H
     have c10b0 := eq_true c10
     have c10b1 : decide ((ji8) ≤ (l1.length : Int)) = true := decide_eq_true c10
     clear c10
     obtain ⟨y909, hy909⟩ : ∃ y_ : List (S32), y_ = (l1.take ((ji8) : Int).toNat) := ⟨_, rfl⟩
     replace H : ((delta_Swap.f k y905 y909).bind fun t913 => ((catchmentref37_Swap.f k y905 y909).bind fun t914 => (if (t913 != t914) = true then (some false) else (catchmentlaw37_DeltaSwaps.l0 k y905 y909 a2 a3 t913 true 0)))) = some r := by first | (rw [hy909]; with_reducible exact H) | (have H2_ := (Option.bind_some _ _).symm.trans H; rw [hy909]; with_reducible exact H2_) | (have H2_ := (Option.bind_some _ _).symm.trans H; with_reducible exact H2_) | with_reducible exact H | (rw [hy909]; exact H) | exact H
     have Ny909 := Aside0.mk hy909
     clear hy909
     replace H := Option.bind_eq_some_iff.mp H
     obtain ⟨t913, A110, H⟩ := H
     replace H : ((catchmentref37_Swap.f k y905 y909).bind fun t914 => (if (t913 != t914) = true then (some false) else (catchmentlaw37_DeltaSwaps.l0 k y905 y909 a2 a3 t913 true 0))) = some r := H
     have A11 := Aside0.mk A110
     clear A110
     replace H := Option.bind_eq_some_iff.mp H
     obtain ⟨t914, A120, H⟩ := H
     replace H : (if (t913 != t914) = true then (some false) else (catchmentlaw37_DeltaSwaps.l0 k y905 y909 a2 a3 t913 true 0)) = some r := H
     have A12 := Aside0.mk A120
     clear A120
     by_cases c13 : (t913 != t914) = true
     ·rw [if_pos c13] at H
      have c13b0 : (t913 != t914) = true := c13
      (try (have c13b1 : decide (t913 = t914) = false := by simpa using c13))
      (try (have c13b2 : (t913 == t914) = false := by simpa using c13))
      (try (have c13b3 : ¬ (t913 = t914) := by simpa using c13))
      clear c13
      obtain rfl := Option.some.inj H
      go_enter Try.func12, Try.ntmps12
      try go_wp2
      have n0_ := Aside0.mk (w1 HB.out)
      clear HB
      have HB := n0_
      clear n0_
      have q15 : ((ji5) : Int) ≤ ((l0.length : Int) : Int) := of_decide_eq_true (by first | (with_reducible assumption) | assumption)
      obtain ⟨i015, hi015, _, hsz15, _⟩ := info_parts info32
      have hroom15 : l0.length ≤ c0 := HC0.out
      have hC15 : Kd.C k32 _ A0 l0.length l0 := HR0.out
      have hcut15 := cut_to (P := Try.prog) 22 32 .i64 Try.underlying22 hi015 A0 l0.length c0 (ji5) (of_decide_eq_true (by first | (with_reducible assumption) | assumption)) q15 hroom15
      have hr15 := Kd.C_take (m := ((ji5) : Int).toNat) hC15 (by omega)
      have hy15 : y905.length = ((ji5) : Int).toNat := (by rw [Ny905.out, mA4]; omega)
      rw [← Ny905.out] at hr15
      rw [← hy15] at hcut15
      have HR908 := Aside0.mk hr15
      have HC908 := Aside0.mk (show y905.length ≤ c0 from by omega)
      clear hr15 hC15 hroom15 hi015 hsz15
      have KY15 := Aside0.mk hy15
      clear hy15
      replace q15 := eq_true q15
      have q16 : ((ji8) : Int) ≤ ((l1.length : Int) : Int) := of_decide_eq_true (by first | (with_reducible assumption) | assumption)
      obtain ⟨i016, hi016, _, hsz16, _⟩ := info_parts info32
      have hroom16 : l1.length ≤ c1 := HC1.out
      have hC16 : Kd.C k32 _ A1 l1.length l1 := HR1.out
      have hcut16 := cut_to (P := Try.prog) 22 32 .i64 Try.underlying22 hi016 A1 l1.length c1 (ji8) (of_decide_eq_true (by first | (with_reducible assumption) | assumption)) q16 hroom16
      have hr16 := Kd.C_take (m := ((ji8) : Int).toNat) hC16 (by omega)
      have hy16 : y909.length = ((ji8) : Int).toNat := (by rw [Ny909.out, mA4]; omega)
      rw [← Ny909.out] at hr16
      rw [← hy16] at hcut16
      have HR912 := Aside0.mk hr16
      have HC912 := Aside0.mk (show y909.length ≤ c1 from by omega)
      clear hr16 hC16 hroom16 hi016 hsz16
      have KY16 := Aside0.mk hy16
      clear hy16
      replace q16 := eq_true q16
      refine start_ (n := 12) (S := fun w' => True) (ds := []) #[ZZ,ZZ,ZZ,ZZ,ZZ,ZZ,ZZ,ZZ,ZZ,ZZ,ZZ,ZZ] (by kernel_rfl) rfl rfl trivial (fun hHeld => ?_); refine with_tabW catchmentlaw37_DeltaSwaps.tab1 catchmentlaw37_DeltaSwaps.bits1 (fun HT_ HW_ => ?_)
      generalize w.drew = w14 at HB HR908 HR912 hHeld ⊢
      refine pU_ 0 17 #[YY,ZZ,ZZ,ZZ,ZZ,ZZ,ZZ,ZZ,ZZ,ZZ,ZZ,ZZ] ?_
      refine pU_ 1 18 #[YY,YY,ZZ,ZZ,ZZ,ZZ,ZZ,ZZ,ZZ,ZZ,ZZ,ZZ] ?_
      refine pU_ 2 19 #[YY,YY,YY,ZZ,ZZ,ZZ,ZZ,ZZ,ZZ,ZZ,ZZ,ZZ] ?_
      refine pU_ 3 20 #[YY,YY,YY,YY,ZZ,ZZ,ZZ,ZZ,ZZ,ZZ,ZZ,ZZ] ?_
      refine pU_ 4 21 #[YY,YY,YY,YY,YY,ZZ,ZZ,ZZ,ZZ,ZZ,ZZ,ZZ] ?_
      refine pU_ 5 22 #[YY,YY,YY,YY,YY,YY,ZZ,ZZ,ZZ,ZZ,ZZ,ZZ] ?_
      refine pU_ 6 23 #[YY,YY,YY,YY,YY,YY,YY,ZZ,ZZ,ZZ,ZZ,ZZ] ?_
      refine pU_ 7 24 #[YY,YY,YY,YY,YY,YY,YY,YY,ZZ,ZZ,ZZ,ZZ] ?_
      refine pU_ 8 25 #[YY,YY,YY,YY,YY,YY,YY,YY,YY,ZZ,ZZ,ZZ] ?_
      refine pU_ 9 26 #[YY,YY,YY,YY,YY,YY,YY,YY,YY,YY,ZZ,ZZ] ?_
      refine pU_ 10 0 #[YY,YY,YY,YY,YY,YY,YY,YY,YY,YY,YY,ZZ] ?_
      refine pU_ 11 1 #[YY,YY,YY,YY,YY,YY,YY,YY,YY,YY,YY,YY] ?_
      refine done_ (done_of HT_.out (by kernel_rfl)) ?_
      try go_wp2_with (first | ((with_reducible refine gate_callee (f := 48) rfl ?_); refine goesL_ (some 29) rfl rfl Try.func48 (by kernel_rfl) rfl #[.slice A0 y905.length c0, .slice A1 y909.length c1] rfl mS_ ?_; (with_reducible refine (delta_Swap.calls k (fun k_ => k_ < w.heap.size) _ _ y905 (fun k_ => k_ < w.heap.size) _ _ y909 t913 _ ?side1 ?side2 A11.out).mono ?_); (case side1 => exact Kd.V_mk HC908.out (Kd.F_below (Kd.C_F k32_heap HR908.out) bW_)); (case side2 => exact Kd.V_mk HC912.out (Kd.F_below (Kd.C_F k32_heap HR912.out) bW_)); rintro e w17 ⟨rfl, hb⟩; refine ⟨_, rfl, ?_⟩; have n0_ := Aside0.mk (wT bW_ hb); clear HB; have HB := n0_; clear n0_; (try clear hb); (try clear hb2); (try clear hk); (try clear hi)) | ((with_reducible refine gate_callee (f := 49) rfl ?_); refine goesL_ (some 33) rfl rfl Try.func49 (by kernel_rfl) rfl #[.slice A0 y905.length c0, .slice A1 y909.length c1] rfl mS_ ?_; (with_reducible refine (catchmentref37_Swap.calls k _ _ y905 _ _ y909 t914 _ ?side1 ?side2 ?side3 ?side4 A12.out).mono ?_); (case side1 => repeat (first | exact (Kd.C_below HR908.out HB.out) | (with_reducible refine Kd.C_alloc ?_ _) | (with_reducible refine Kd.C_drewN ?_ _) | (with_reducible refine Kd.C_drew ?_))); (case side2 => exact HC908.out); (case side3 => repeat (first | exact (Kd.C_below HR912.out HB.out) | (with_reducible refine Kd.C_alloc ?_ _) | (with_reducible refine Kd.C_drewN ?_ _) | (with_reducible refine Kd.C_drew ?_))); (case side4 => exact HC912.out); rintro e w18 ⟨rfl, hb⟩; refine ⟨_, rfl, ?_⟩; have n0_ := Aside0.mk (wT bW_ hb); clear HB; have HB := n0_; clear n0_; (try clear hb); (try clear hb2); (try clear hk); (try clear hi)))
      go_ret
      exact ⟨by first | rfl | (simp [errW_none, errW_some] <;> rfl) | (simp only [← hji5, ← hji8]; first | rfl | (simp [errW_none, errW_some] <;> rfl)) | (simp [*, errW_none, errW_some] <;> rfl), by repeat (first | (with_reducible first | exact HB.out | apply wA | apply wN | apply w1) | exact HB.out)⟩
     ·rw [if_neg c13] at H
      have c13b0 : (t913 != t914) = false := by simpa using c13
      (try (have c13b1 : decide (t913 = t914) = true := by simpa using c13))
      (try (have c13b2 : (t913 == t914) = true := by simpa using c13))
      clear c13
      have H' := Aside0.mk H
      clear H
      go_enter Try.func12, Try.ntmps12
      try go_wp2
      have n0_ := Aside0.mk (w1 HB.out)
      clear HB
      have HB := n0_
      clear n0_
      have q20 : ((ji5) : Int) ≤ ((l0.length : Int) : Int) := of_decide_eq_true (by first | (with_reducible assumption) | assumption)
      obtain ⟨i020, hi020, _, hsz20, _⟩ := info_parts info32
      have hroom20 : l0.length ≤ c0 := HC0.out
      have hC20 : Kd.C k32 _ A0 l0.length l0 := HR0.out
      have hcut20 := cut_to (P := Try.prog) 22 32 .i64 Try.underlying22 hi020 A0 l0.length c0 (ji5) (of_decide_eq_true (by first | (with_reducible assumption) | assumption)) q20 hroom20
      have hr20 := Kd.C_take (m := ((ji5) : Int).toNat) hC20 (by omega)
      have hy20 : y905.length = ((ji5) : Int).toNat := (by rw [Ny905.out, mA4]; omega)
      rw [← Ny905.out] at hr20
      rw [← hy20] at hcut20
      have HR908 := Aside0.mk hr20
      have HC908 := Aside0.mk (show y905.length ≤ c0 from by omega)
      clear hr20 hC20 hroom20 hi020 hsz20
      have KY20 := Aside0.mk hy20
      clear hy20
      replace q20 := eq_true q20
      have q21 : ((ji8) : Int) ≤ ((l1.length : Int) : Int) := of_decide_eq_true (by first | (with_reducible assumption) | assumption)
      obtain ⟨i021, hi021, _, hsz21, _⟩ := info_parts info32
      have hroom21 : l1.length ≤ c1 := HC1.out
      have hC21 : Kd.C k32 _ A1 l1.length l1 := HR1.out
      have hcut21 := cut_to (P := Try.prog) 22 32 .i64 Try.underlying22 hi021 A1 l1.length c1 (ji8) (of_decide_eq_true (by first | (with_reducible assumption) | assumption)) q21 hroom21
      have hr21 := Kd.C_take (m := ((ji8) : Int).toNat) hC21 (by omega)
      have hy21 : y909.length = ((ji8) : Int).toNat := (by rw [Ny909.out, mA4]; omega)
      rw [← Ny909.out] at hr21
      rw [← hy21] at hcut21
      have HR912 := Aside0.mk hr21
      have HC912 := Aside0.mk (show y909.length ≤ c1 from by omega)
      clear hr21 hC21 hroom21 hi021 hsz21
      have KY21 := Aside0.mk hy21
      clear hy21
      replace q21 := eq_true q21
      refine start_ (n := 12) (S := fun w' => True) (ds := []) #[ZZ,ZZ,ZZ,ZZ,ZZ,ZZ,ZZ,ZZ,ZZ,ZZ,ZZ,ZZ] (by kernel_rfl) rfl rfl trivial (fun hHeld => ?_); refine with_tabW catchmentlaw37_DeltaSwaps.tab1 catchmentlaw37_DeltaSwaps.bits1 (fun HT_ HW_ => ?_)
      generalize w.drew = w19 at HB HR908 HR912 hHeld ⊢
      refine pU_ 0 17 #[YY,ZZ,ZZ,ZZ,ZZ,ZZ,ZZ,ZZ,ZZ,ZZ,ZZ,ZZ] ?_
      refine pU_ 1 18 #[YY,YY,ZZ,ZZ,ZZ,ZZ,ZZ,ZZ,ZZ,ZZ,ZZ,ZZ] ?_
      refine pU_ 2 19 #[YY,YY,YY,ZZ,ZZ,ZZ,ZZ,ZZ,ZZ,ZZ,ZZ,ZZ] ?_
      refine pU_ 3 20 #[YY,YY,YY,YY,ZZ,ZZ,ZZ,ZZ,ZZ,ZZ,ZZ,ZZ] ?_
      refine pU_ 4 21 #[YY,YY,YY,YY,YY,ZZ,ZZ,ZZ,ZZ,ZZ,ZZ,ZZ] ?_
      refine pU_ 5 22 #[YY,YY,YY,YY,YY,YY,ZZ,ZZ,ZZ,ZZ,ZZ,ZZ] ?_
      refine pU_ 6 23 #[YY,YY,YY,YY,YY,YY,YY,ZZ,ZZ,ZZ,ZZ,ZZ] ?_
      refine pU_ 7 24 #[YY,YY,YY,YY,YY,YY,YY,YY,ZZ,ZZ,ZZ,ZZ] ?_
      refine pU_ 8 25 #[YY,YY,YY,YY,YY,YY,YY,YY,YY,ZZ,ZZ,ZZ] ?_
      refine pU_ 9 26 #[YY,YY,YY,YY,YY,YY,YY,YY,YY,YY,ZZ,ZZ] ?_
      refine pU_ 10 0 #[YY,YY,YY,YY,YY,YY,YY,YY,YY,YY,YY,ZZ] ?_
      refine pU_ 11 1 #[YY,YY,YY,YY,YY,YY,YY,YY,YY,YY,YY,YY] ?_
      refine done_ (done_of HT_.out (by kernel_rfl)) ?_
      try go_wp2_with (first | ((with_reducible refine gate_callee (f := 48) rfl ?_); refine goesL_ (some 29) rfl rfl Try.func48 (by kernel_rfl) rfl #[.slice A0 y905.length c0, .slice A1 y909.length c1] rfl mS_ ?_; (with_reducible refine (delta_Swap.calls k (fun k_ => k_ < w.heap.size) _ _ y905 (fun k_ => k_ < w.heap.size) _ _ y909 t913 _ ?side1 ?side2 A11.out).mono ?_); (case side1 => exact Kd.V_mk HC908.out (Kd.F_below (Kd.C_F k32_heap HR908.out) bW_)); (case side2 => exact Kd.V_mk HC912.out (Kd.F_below (Kd.C_F k32_heap HR912.out) bW_)); rintro e w22 ⟨rfl, hb⟩; refine ⟨_, rfl, ?_⟩; have n0_ := Aside0.mk (wT bW_ hb); clear HB; have HB := n0_; clear n0_; (try clear hb); (try clear hb2); (try clear hk); (try clear hi)) | ((with_reducible refine gate_callee (f := 49) rfl ?_); refine goesL_ (some 33) rfl rfl Try.func49 (by kernel_rfl) rfl #[.slice A0 y905.length c0, .slice A1 y909.length c1] rfl mS_ ?_; (with_reducible refine (catchmentref37_Swap.calls k _ _ y905 _ _ y909 t914 _ ?side1 ?side2 ?side3 ?side4 A12.out).mono ?_); (case side1 => repeat (first | exact (Kd.C_below HR908.out HB.out) | (with_reducible refine Kd.C_alloc ?_ _) | (with_reducible refine Kd.C_drewN ?_ _) | (with_reducible refine Kd.C_drew ?_))); (case side2 => exact HC908.out); (case side3 => repeat (first | exact (Kd.C_below HR912.out HB.out) | (with_reducible refine Kd.C_alloc ?_ _) | (with_reducible refine Kd.C_drewN ?_ _) | (with_reducible refine Kd.C_drew ?_))); (case side4 => exact HC912.out); rintro e w23 ⟨rfl, hb⟩; refine ⟨_, rfl, ?_⟩; have n0_ := Aside0.mk (wT bW_ hb); clear HB; have HB := n0_; clear n0_; (try clear hb); (try clear hb2); (try clear hk); (try clear hi)))
      go_loopg [10, 11] k (fun kq v10 v11 w' => ∃ (x10_1 : Bool) (x11_1 : Int), v10 = .bool x10_1 ∧ v11 = .int .i64 x11_1 ∧ Aside0 (catchmentlaw37_DeltaSwaps.l0 kq y905 y909 a2 a3 t913 x10_1 x11_1 = some r) ∧ Aside0 (kq ≤ k) ∧ Aside0 (Below w.heap.size w w'))
      case atStart => exact ⟨(true), (0), (by first | rfl | (simp; done) | (simp [*]; done)), (by first | rfl | (simp; done) | (simp [*]; done)), H', ⟨Nat.le_refl _⟩, ⟨by repeat (first | (with_reducible first | exact HB.out | apply wA | apply wN | apply w1) | exact HB.out)⟩⟩
      case round =>
       clear H'
       try clear c1
       try clear q1
       try clear p2
       try clear q2
       try clear c4
       try clear c6
       try clear c6b0
       try clear c6b1
       try clear c7
       try clear c7b0
       try clear c7b1
       try clear c9
       try clear c9b0
       try clear c9b1
       try clear c10
       try clear c10b0
       try clear c10b1
       try clear c12
       try clear c13
       try clear c13b0
       try clear c13b1
       try clear c13b2
       try clear q15
       try clear q16
       try clear q20
       try clear q21
       try clear q15
       try clear q16
       try clear q20
       try clear q21
       obtain ⟨x10_1, x11_1, rfl, rfl, HA, HK1, HB⟩ := hrel
       cases gk with
       | zero => exact absurd HA.out (by simp [catchmentlaw37_DeltaSwaps.l0])
       | succ k1 =>
        have H := HA.out
        clear HA
        simp only [catchmentlaw37_DeltaSwaps.l0] at H
        by_cases c24 : x11_1 < (y905.length : Int)
        ·rw [if_pos c24] at H
         have c24b0 : decide (x11_1 < (y905.length : Int)) = true := decide_eq_true c24
         clear c24
         have H' := Aside0.mk H
         clear H
         go_wp2
         go_loopg [10, 12] k1 (fun kq v10 v12 w' => ∃ (x10_2 : Bool) (x12_2 : Int), v10 = .bool x10_2 ∧ v12 = .int .i64 x12_2 ∧ Aside0 (catchmentlaw37_DeltaSwaps.l1 kq y905 y909 a2 a3 t913 x10_2 x11_1 x12_2 = some r) ∧ Aside0 (kq ≤ k1) ∧ Aside0 (Below w.heap.size w w'))
         case atStart => exact ⟨(x10_1), (0), (by first | rfl | (simp; done) | (simp [*]; done)), (by first | rfl | (simp; done) | (simp [*]; done)), H', ⟨Nat.le_refl _⟩, ⟨by repeat (first | (with_reducible first | exact HB.out | apply wA | apply wN | apply w1) | exact HB.out)⟩⟩
         case round =>
          clear H'
          try clear c1
          try clear q1
          try clear c2
          try clear p2
          try clear q2
          try clear c4
          try clear c6
          try clear c6b0
          try clear c6b1
          try clear c7
          try clear c7b0
          try clear c7b1
          try clear c9
          try clear c9b0
          try clear c9b1
          try clear c10
          try clear c10b0
          try clear c10b1
          try clear c12
          try clear c13
          try clear c13b0
          try clear c13b1
          try clear c13b2
          try clear q15
          try clear q16
          try clear q20
          try clear q21
          try clear c24
          try clear c24b0
          try clear p2
          try clear q1
          try clear q15
          try clear q16
          try clear q2
          try clear q20
          try clear q21
          obtain ⟨x10_2, x12_2, rfl, rfl, HA, HK2, HB⟩ := hrel
          cases gk with
          | zero => exact absurd HA.out (by simp [catchmentlaw37_DeltaSwaps.l1])
          | succ k2 =>
           have H := HA.out
           clear HA
           simp only [catchmentlaw37_DeltaSwaps.l1] at H
           by_cases c25 : x12_2 < (y909.length : Int)
           ·rw [if_pos c25] at H
            have c25b0 : decide (x12_2 < (y909.length : Int)) = true := decide_eq_true c25
            clear c25
            by_cases c26 : 0 ≤ x11_1
            ·rw [if_pos c26] at H
             have c26b0 : decide (0 ≤ x11_1) = true := decide_eq_true c26
             clear c26
             by_cases c27 : x11_1 < (y905.length : Int)
             ·rw [if_pos c27] at H
              have c27b0 : decide (x11_1 < (y905.length : Int)) = true := decide_eq_true c27
              clear c27
              replace H := Option.bind_eq_some_iff.mp H
              obtain ⟨⟨t916, t917⟩, A280, H⟩ := H
              replace H : (if 0 ≤ x12_2 then ((catchmentref04_Span.f ((rd_T32 y909 x12_2).f0) ((rd_T32 y909 x12_2).f1) ((rd_T32 y909 x12_2).f2) ((rd_T32 y909 x12_2).f3) ((rd_T32 y909 x12_2).f4) ((rd_T32 y909 x12_2).f5)).bind fun bt919 => ((catchmentref02_Meet.f t916 t917 bt919.1 bt919.2).bind fun bt921 => (if x10_2 = true then (catchmentlaw37_DeltaSwaps.l1 k2 y905 y909 a2 a3 t913 (!bt921.2.2) x11_1 (wrap64 (x12_2 + 1))) else (catchmentlaw37_DeltaSwaps.l1 k2 y905 y909 a2 a3 t913 false x11_1 (wrap64 (x12_2 + 1)))))) else (none)) = some r := H
              have A28 := Aside0.mk A280
              clear A280
              by_cases c29 : 0 ≤ x12_2
              ·rw [if_pos c29] at H
               have c29b0 : decide (0 ≤ x12_2) = true := decide_eq_true c29
               clear c29
               replace H := Option.bind_eq_some_iff.mp H
               obtain ⟨⟨t919, t920⟩, A300, H⟩ := H
               replace H : ((catchmentref02_Meet.f t916 t917 t919 t920).bind fun bt921 => (if x10_2 = true then (catchmentlaw37_DeltaSwaps.l1 k2 y905 y909 a2 a3 t913 (!bt921.2.2) x11_1 (wrap64 (x12_2 + 1))) else (catchmentlaw37_DeltaSwaps.l1 k2 y905 y909 a2 a3 t913 false x11_1 (wrap64 (x12_2 + 1))))) = some r := H
               have A30 := Aside0.mk A300
               clear A300
               replace H := Option.bind_eq_some_iff.mp H
               obtain ⟨⟨t921, t922, t923⟩, A310, H⟩ := H
               replace H : (if x10_2 = true then (catchmentlaw37_DeltaSwaps.l1 k2 y905 y909 a2 a3 t913 (!t923) x11_1 (wrap64 (x12_2 + 1))) else (catchmentlaw37_DeltaSwaps.l1 k2 y905 y909 a2 a3 t913 false x11_1 (wrap64 (x12_2 + 1)))) = some r := H
               have A31 := Aside0.mk A310
               clear A310
               by_cases c32 : x10_2 = true
               ·subst c32
                have H1 : (catchmentlaw37_DeltaSwaps.l1 k2 y905 y909 a2 a3 t913 (!t923) x11_1 (wrap64 (x12_2 + 1))) = some r := by rw [if_pos rfl] at H; exact H
                clear H
                have H := H1
                clear H1
                have H' := Aside0.mk H
                clear H
                try go_wp2
                have n0_ := Aside0.mk (w1 HB.out)
                clear HB
                have HB := n0_
                clear n0_
                have p915 : 0 ≤ (x11_1 : Int) := of_decide_eq_true (by first | (with_reducible assumption) | assumption)
                have q915 : x11_1 < (y905.length : Int) := of_decide_eq_true (by first | (with_reducible assumption) | assumption)
                obtain ⟨ad915, e915, hx915_0, hx915_1, hx915_2, hx915_3, hx915_4, hx915_5⟩ := at_T32 HR908.out x11_1 p915 q915
                have hw915_5 := hx915_5
                have hw915_4 := hx915_4
                have hw915_3 := hx915_3
                have hw915_2 := hx915_2
                have hw915_1 := hx915_1
                have hw915_0 := hx915_0
                cases e915
                replace hx915_0 := (HB.out.cell (World.block_lt_of_cell? w _ hx915_0)).trans hx915_0
                replace hx915_1 := (HB.out.cell (World.block_lt_of_cell? w _ hx915_1)).trans hx915_1
                replace hx915_2 := (HB.out.cell (World.block_lt_of_cell? w _ hx915_2)).trans hx915_2
                replace hx915_3 := (HB.out.cell (World.block_lt_of_cell? w _ hx915_3)).trans hx915_3
                replace hx915_4 := (HB.out.cell (World.block_lt_of_cell? w _ hx915_4)).trans hx915_4
                replace hx915_5 := (HB.out.cell (World.block_lt_of_cell? w _ hx915_5)).trans hx915_5
                replace p915 := eq_true p915
                replace q915 := eq_true q915
                have p918 : 0 ≤ (x12_2 : Int) := of_decide_eq_true (by first | (with_reducible assumption) | assumption)
                have q918 : x12_2 < (y909.length : Int) := of_decide_eq_true (by first | (with_reducible assumption) | assumption)
                obtain ⟨ad918, e918, hx918_0, hx918_1, hx918_2, hx918_3, hx918_4, hx918_5⟩ := at_T32 HR912.out x12_2 p918 q918
                have hw918_5 := hx918_5
                have hw918_4 := hx918_4
                have hw918_3 := hx918_3
                have hw918_2 := hx918_2
                have hw918_1 := hx918_1
                have hw918_0 := hx918_0
                cases e918
                replace hx918_0 := (HB.out.cell (World.block_lt_of_cell? w _ hx918_0)).trans hx918_0
                replace hx918_1 := (HB.out.cell (World.block_lt_of_cell? w _ hx918_1)).trans hx918_1
                replace hx918_2 := (HB.out.cell (World.block_lt_of_cell? w _ hx918_2)).trans hx918_2
                replace hx918_3 := (HB.out.cell (World.block_lt_of_cell? w _ hx918_3)).trans hx918_3
                replace hx918_4 := (HB.out.cell (World.block_lt_of_cell? w _ hx918_4)).trans hx918_4
                replace hx918_5 := (HB.out.cell (World.block_lt_of_cell? w _ hx918_5)).trans hx918_5
                replace p918 := eq_true p918
                replace q918 := eq_true q918
                refine start_ (n := 17) (S := fun w' => w'.cell? (ad915.add ((x11_1).toNat * 6)) = some (.int .u8 ((rd_T32 y905 x11_1).f0)) ∧ w'.cell? ⟨(ad915.add ((x11_1).toNat * 6)).block, (ad915.add ((x11_1).toNat * 6)).off + 1, none⟩ = some (.int .i64 ((rd_T32 y905 x11_1).f1)) ∧ w'.cell? ⟨(ad915.add ((x11_1).toNat * 6)).block, (ad915.add ((x11_1).toNat * 6)).off + 2, none⟩ = some (.string ((rd_T32 y905 x11_1).f2)) ∧ w'.cell? ⟨(ad915.add ((x11_1).toNat * 6)).block, (ad915.add ((x11_1).toNat * 6)).off + 3, none⟩ = some (.string ((rd_T32 y905 x11_1).f3)) ∧ w'.cell? ⟨(ad915.add ((x11_1).toNat * 6)).block, (ad915.add ((x11_1).toNat * 6)).off + 4, none⟩ = some (.string ((rd_T32 y905 x11_1).f4)) ∧ w'.cell? ⟨(ad915.add ((x11_1).toNat * 6)).block, (ad915.add ((x11_1).toNat * 6)).off + 5, none⟩ = some (.int .u64 ((rd_T32 y905 x11_1).f5)) ∧ w'.cell? (ad918.add ((x12_2).toNat * 6)) = some (.int .u8 ((rd_T32 y909 x12_2).f0)) ∧ w'.cell? ⟨(ad918.add ((x12_2).toNat * 6)).block, (ad918.add ((x12_2).toNat * 6)).off + 1, none⟩ = some (.int .i64 ((rd_T32 y909 x12_2).f1)) ∧ w'.cell? ⟨(ad918.add ((x12_2).toNat * 6)).block, (ad918.add ((x12_2).toNat * 6)).off + 2, none⟩ = some (.string ((rd_T32 y909 x12_2).f2)) ∧ w'.cell? ⟨(ad918.add ((x12_2).toNat * 6)).block, (ad918.add ((x12_2).toNat * 6)).off + 3, none⟩ = some (.string ((rd_T32 y909 x12_2).f3)) ∧ w'.cell? ⟨(ad918.add ((x12_2).toNat * 6)).block, (ad918.add ((x12_2).toNat * 6)).off + 4, none⟩ = some (.string ((rd_T32 y909 x12_2).f4)) ∧ w'.cell? ⟨(ad918.add ((x12_2).toNat * 6)).block, (ad918.add ((x12_2).toNat * 6)).off + 5, none⟩ = some (.int .u64 ((rd_T32 y909 x12_2).f5))) (ds := []) #[ZZ,ZZ,ZZ,ZZ,ZZ,ZZ,ZZ,ZZ,ZZ,ZZ,ZZ,ZZ,ZZ,ZZ,ZZ,ZZ,ZZ] (by kernel_rfl) rfl rfl ⟨((HB.out.cell (World.block_lt_of_cell? w _ hw915_0)).trans hw915_0), ((HB.out.cell (World.block_lt_of_cell? w _ hw915_1)).trans hw915_1), ((HB.out.cell (World.block_lt_of_cell? w _ hw915_2)).trans hw915_2), ((HB.out.cell (World.block_lt_of_cell? w _ hw915_3)).trans hw915_3), ((HB.out.cell (World.block_lt_of_cell? w _ hw915_4)).trans hw915_4), ((HB.out.cell (World.block_lt_of_cell? w _ hw915_5)).trans hw915_5), ((HB.out.cell (World.block_lt_of_cell? w _ hw918_0)).trans hw918_0), ((HB.out.cell (World.block_lt_of_cell? w _ hw918_1)).trans hw918_1), ((HB.out.cell (World.block_lt_of_cell? w _ hw918_2)).trans hw918_2), ((HB.out.cell (World.block_lt_of_cell? w _ hw918_3)).trans hw918_3), ((HB.out.cell (World.block_lt_of_cell? w _ hw918_4)).trans hw918_4), ((HB.out.cell (World.block_lt_of_cell? w _ hw918_5)).trans hw918_5)⟩ (fun hHeld => ?_); refine with_tabW catchmentlaw37_DeltaSwaps.tab12 catchmentlaw37_DeltaSwaps.bits12 (fun HT_ HW_ => ?_)
                generalize wr.drew = w33 at HB hx915_0 hx915_1 hx915_2 hx915_3 hx915_4 hx915_5 hx918_0 hx918_1 hx918_2 hx918_3 hx918_4 hx918_5 hHeld ⊢
                refine pU_ 0 48 #[YY,ZZ,ZZ,ZZ,ZZ,ZZ,ZZ,ZZ,ZZ,ZZ,ZZ,ZZ,ZZ,ZZ,ZZ,ZZ,ZZ] ?_
                refine pU_ 1 49 #[YY,YY,ZZ,ZZ,ZZ,ZZ,ZZ,ZZ,ZZ,ZZ,ZZ,ZZ,ZZ,ZZ,ZZ,ZZ,ZZ] ?_
                refine pU_ 2 50 #[YY,YY,YY,ZZ,ZZ,ZZ,ZZ,ZZ,ZZ,ZZ,ZZ,ZZ,ZZ,ZZ,ZZ,ZZ,ZZ] ?_
                refine pU_ 5 53 #[YY,YY,YY,ZZ,ZZ,YY,ZZ,ZZ,ZZ,ZZ,ZZ,ZZ,ZZ,ZZ,ZZ,ZZ,ZZ] ?_
                refine pU_ 6 54 #[YY,YY,YY,ZZ,ZZ,YY,YY,ZZ,ZZ,ZZ,ZZ,ZZ,ZZ,ZZ,ZZ,ZZ,ZZ] ?_
                refine pU_ 7 55 #[YY,YY,YY,ZZ,ZZ,YY,YY,YY,ZZ,ZZ,ZZ,ZZ,ZZ,ZZ,ZZ,ZZ,ZZ] ?_
                refine take_ (i := 3) (N := some 51) (v := ?_) (a' := ?_) #[YY,YY,YY,YY,ZZ,YY,YY,YY,ZZ,ZZ,ZZ,ZZ,ZZ,ZZ,ZZ,ZZ,ZZ] rfl rfl (take_ofW HT_.out HW_.out (by kernel_rfl)) (fun _ _ _ h => h) (Or.inl ⟨by rfl, ?_⟩) hHeld ?_ ?_
                rotate_left
                ·rintro w' ⟨s0, s1, s2, s3, s4, s5, s6, s7, s8, s9, s10, s11⟩
                 go_simp
                 with_reducible rfl
                rotate_left
                ·simp only [Act.put, sA1, sA2, sA3, i64_w, i32_w]
                 rfl
                refine take_ (i := 8) (N := some 56) (v := ?_) (a' := ?_) #[YY,YY,YY,YY,ZZ,YY,YY,YY,YY,ZZ,ZZ,ZZ,ZZ,ZZ,ZZ,ZZ,ZZ] rfl rfl (take_ofW HT_.out HW_.out (by kernel_rfl)) (fun _ _ _ h => h) (Or.inl ⟨by rfl, ?_⟩) hHeld ?_ ?_
                rotate_left
                ·rintro w' ⟨s0, s1, s2, s3, s4, s5, s6, s7, s8, s9, s10, s11⟩
                 go_simp
                 with_reducible rfl
                rotate_left
                ·simp only [Act.put, sA1, sA2, sA3, i64_w, i32_w]
                 rfl
                refine join_ (σ := Nat) 2 #[YY,YY,YY,YY,YY,YY,YY,YY,YY,YY,YY,YY,YY,YY,YY,ZZ,ZZ] (fun s_ => [(52, .agg #[.string t916, .string t917]), (57, .agg #[.string t919, .string t920]), (58, .tuple #[.agg #[.string t921, .string t922], .bool t923]), (13, .pointer (some ⟨s_, 0, none⟩)), (47, .tuple #[.agg #[.string t921, .string t922], .bool t923]), (59, .agg #[.string t921, .string t922]), (60, .bool t923)]) (fun s_ w' => (w'.cell? (ad915.add ((x11_1).toNat * 6)) = some (.int .u8 ((rd_T32 y905 x11_1).f0)) ∧ w'.cell? ⟨(ad915.add ((x11_1).toNat * 6)).block, (ad915.add ((x11_1).toNat * 6)).off + 1, none⟩ = some (.int .i64 ((rd_T32 y905 x11_1).f1)) ∧ w'.cell? ⟨(ad915.add ((x11_1).toNat * 6)).block, (ad915.add ((x11_1).toNat * 6)).off + 2, none⟩ = some (.string ((rd_T32 y905 x11_1).f2)) ∧ w'.cell? ⟨(ad915.add ((x11_1).toNat * 6)).block, (ad915.add ((x11_1).toNat * 6)).off + 3, none⟩ = some (.string ((rd_T32 y905 x11_1).f3)) ∧ w'.cell? ⟨(ad915.add ((x11_1).toNat * 6)).block, (ad915.add ((x11_1).toNat * 6)).off + 4, none⟩ = some (.string ((rd_T32 y905 x11_1).f4)) ∧ w'.cell? ⟨(ad915.add ((x11_1).toNat * 6)).block, (ad915.add ((x11_1).toNat * 6)).off + 5, none⟩ = some (.int .u64 ((rd_T32 y905 x11_1).f5)) ∧ w'.cell? (ad918.add ((x12_2).toNat * 6)) = some (.int .u8 ((rd_T32 y909 x12_2).f0)) ∧ w'.cell? ⟨(ad918.add ((x12_2).toNat * 6)).block, (ad918.add ((x12_2).toNat * 6)).off + 1, none⟩ = some (.int .i64 ((rd_T32 y909 x12_2).f1)) ∧ w'.cell? ⟨(ad918.add ((x12_2).toNat * 6)).block, (ad918.add ((x12_2).toNat * 6)).off + 2, none⟩ = some (.string ((rd_T32 y909 x12_2).f2)) ∧ w'.cell? ⟨(ad918.add ((x12_2).toNat * 6)).block, (ad918.add ((x12_2).toNat * 6)).off + 3, none⟩ = some (.string ((rd_T32 y909 x12_2).f3)) ∧ w'.cell? ⟨(ad918.add ((x12_2).toNat * 6)).block, (ad918.add ((x12_2).toNat * 6)).off + 4, none⟩ = some (.string ((rd_T32 y909 x12_2).f4)) ∧ w'.cell? ⟨(ad918.add ((x12_2).toNat * 6)).block, (ad918.add ((x12_2).toNat * 6)).off + 5, none⟩ = some (.int .u64 ((rd_T32 y909 x12_2).f5))) ∧ (w'.heap[s_]? = some (.cells #[.string (⟨#[]⟩ : BA), .string (⟨#[]⟩ : BA)] 28 (0, 0))) ∧ (w.heap.size ≤ s_) ∧ (w.heap.size ≤ s_) ∧ (Below w.heap.size w w')) ?_ ?_
                rotate_left
                ·intro hCont
                 refine two_ (i := 4) (j := 14) (Ni := some 52) (Nj := some 13) #[YY,YY,YY,YY,YY,YY,YY,YY,YY,ZZ,ZZ,ZZ,ZZ,ZZ,ZZ,ZZ,ZZ] #[YY,YY,YY,YY,ZZ,YY,YY,YY,YY,ZZ,ZZ,ZZ,ZZ,ZZ,YY,ZZ,ZZ] rfl rfl rfl rfl (two_of HT_.out (by kernel_rfl)) (by decide) (by decide) (fun K hK => ?_) (fun K hK => ?_)
                 ·skip
                  refine goes_ Try.func51 (by kernel_rfl) rfl #[.agg #[.int .u8 ((rd_T32 y905 x11_1).f0), .int .i64 ((rd_T32 y905 x11_1).f1), .string ((rd_T32 y905 x11_1).f2), .string ((rd_T32 y905 x11_1).f3), .string ((rd_T32 y905 x11_1).f4), .int .u64 ((rd_T32 y905 x11_1).f5)]] (by rfl) rfl rfl mS_ ?_
                  with_reducible refine (catchmentref04_Span.calls ((rd_T32 y905 x11_1).f0) ((rd_T32 y905 x11_1).f1) ((rd_T32 y905 x11_1).f2) ((rd_T32 y905 x11_1).f3) ((rd_T32 y905 x11_1).f4) ((rd_T32 y905 x11_1).f5) t916 t917 _ A28.out).mono ?_
                  rintro e w34 ⟨rfl, hb⟩
                  refine ⟨_, rfl, ?_⟩
                  have n0_ := Aside0.mk (wT bW_ hb)
                  clear HB
                  have HB := n0_
                  clear n0_
                  (try clear hb)
                  (try clear hb2)
                  (try clear hk)
                  (try clear hi)
                  refine hK.out _ _ ⟨((HB.out.cell (World.block_lt_of_cell? w _ hw915_0)).trans hw915_0), ((HB.out.cell (World.block_lt_of_cell? w _ hw915_1)).trans hw915_1), ((HB.out.cell (World.block_lt_of_cell? w _ hw915_2)).trans hw915_2), ((HB.out.cell (World.block_lt_of_cell? w _ hw915_3)).trans hw915_3), ((HB.out.cell (World.block_lt_of_cell? w _ hw915_4)).trans hw915_4), ((HB.out.cell (World.block_lt_of_cell? w _ hw915_5)).trans hw915_5), ((HB.out.cell (World.block_lt_of_cell? w _ hw918_0)).trans hw918_0), ((HB.out.cell (World.block_lt_of_cell? w _ hw918_1)).trans hw918_1), ((HB.out.cell (World.block_lt_of_cell? w _ hw918_2)).trans hw918_2), ((HB.out.cell (World.block_lt_of_cell? w _ hw918_3)).trans hw918_3), ((HB.out.cell (World.block_lt_of_cell? w _ hw918_4)).trans hw918_4), ((HB.out.cell (World.block_lt_of_cell? w _ hw918_5)).trans hw918_5)⟩ (fun hHeld => ?_)
                  clear hK K
                  refine norm_ (a' := ?_) ?_ ?_
                  rotate_left
                  ·show Act.put _ (some 52) _ = _
                   simp only [Act.put, sA1, sA2, sA3, i64_w, i32_w]
                   rfl
                  refine two_ (i := 9) (j := 14) (Ni := some 57) (Nj := some 13) #[YY,YY,YY,YY,YY,YY,YY,YY,YY,YY,ZZ,ZZ,ZZ,ZZ,ZZ,ZZ,ZZ] #[YY,YY,YY,YY,YY,YY,YY,YY,YY,ZZ,ZZ,ZZ,ZZ,ZZ,YY,ZZ,ZZ] rfl rfl rfl rfl (two_of HT_.out (by kernel_rfl)) (by decide) (by decide) (fun K hK => ?_) (fun K hK => ?_)
                  ·skip
                   refine goes_ Try.func51 (by kernel_rfl) rfl #[.agg #[.int .u8 ((rd_T32 y909 x12_2).f0), .int .i64 ((rd_T32 y909 x12_2).f1), .string ((rd_T32 y909 x12_2).f2), .string ((rd_T32 y909 x12_2).f3), .string ((rd_T32 y909 x12_2).f4), .int .u64 ((rd_T32 y909 x12_2).f5)]] (by rfl) rfl rfl mS_ ?_
                   with_reducible refine (catchmentref04_Span.calls ((rd_T32 y909 x12_2).f0) ((rd_T32 y909 x12_2).f1) ((rd_T32 y909 x12_2).f2) ((rd_T32 y909 x12_2).f3) ((rd_T32 y909 x12_2).f4) ((rd_T32 y909 x12_2).f5) t919 t920 _ A30.out).mono ?_
                   rintro e w35 ⟨rfl, hb⟩
                   refine ⟨_, rfl, ?_⟩
                   have n0_ := Aside0.mk (wT bW_ hb)
                   clear HB
                   have HB := n0_
                   clear n0_
                   (try clear hb)
                   (try clear hb2)
                   (try clear hk)
                   (try clear hi)
                   refine hK.out _ _ ⟨((HB.out.cell (World.block_lt_of_cell? w _ hw915_0)).trans hw915_0), ((HB.out.cell (World.block_lt_of_cell? w _ hw915_1)).trans hw915_1), ((HB.out.cell (World.block_lt_of_cell? w _ hw915_2)).trans hw915_2), ((HB.out.cell (World.block_lt_of_cell? w _ hw915_3)).trans hw915_3), ((HB.out.cell (World.block_lt_of_cell? w _ hw915_4)).trans hw915_4), ((HB.out.cell (World.block_lt_of_cell? w _ hw915_5)).trans hw915_5), ((HB.out.cell (World.block_lt_of_cell? w _ hw918_0)).trans hw918_0), ((HB.out.cell (World.block_lt_of_cell? w _ hw918_1)).trans hw918_1), ((HB.out.cell (World.block_lt_of_cell? w _ hw918_2)).trans hw918_2), ((HB.out.cell (World.block_lt_of_cell? w _ hw918_3)).trans hw918_3), ((HB.out.cell (World.block_lt_of_cell? w _ hw918_4)).trans hw918_4), ((HB.out.cell (World.block_lt_of_cell? w _ hw918_5)).trans hw918_5)⟩ (fun hHeld => ?_)
                   clear hK K
                   refine norm_ (a' := ?_) ?_ ?_
                   rotate_left
                   ·show Act.put _ (some 57) _ = _
                    simp only [Act.put, sA1, sA2, sA3, i64_w, i32_w]
                    rfl
                   refine two_ (i := 10) (j := 14) (Ni := some 58) (Nj := some 13) #[YY,YY,YY,YY,YY,YY,YY,YY,YY,YY,YY,ZZ,ZZ,ZZ,ZZ,ZZ,ZZ] #[YY,YY,YY,YY,YY,YY,YY,YY,YY,YY,ZZ,ZZ,ZZ,ZZ,YY,ZZ,ZZ] rfl rfl rfl rfl (two_of HT_.out (by kernel_rfl)) (by decide) (by decide) (fun K hK => ?_) (fun K hK => ?_)
                   ·skip
                    refine goes_ Try.func50 (by kernel_rfl) rfl #[.agg #[.string t916, .string t917], .agg #[.string t919, .string t920]] (by rfl) rfl rfl mS_ ?_
                    with_reducible refine (catchmentref02_Meet.calls t916 t917 t919 t920 t921 t922 t923 _ A31.out).mono ?_
                    rintro e w36 ⟨rfl, hb⟩
                    refine ⟨_, rfl, ?_⟩
                    have n0_ := Aside0.mk (wT bW_ hb)
                    clear HB
                    have HB := n0_
                    clear n0_
                    (try clear hb)
                    (try clear hb2)
                    (try clear hk)
                    (try clear hi)
                    refine hK.out _ _ ⟨((HB.out.cell (World.block_lt_of_cell? w _ hw915_0)).trans hw915_0), ((HB.out.cell (World.block_lt_of_cell? w _ hw915_1)).trans hw915_1), ((HB.out.cell (World.block_lt_of_cell? w _ hw915_2)).trans hw915_2), ((HB.out.cell (World.block_lt_of_cell? w _ hw915_3)).trans hw915_3), ((HB.out.cell (World.block_lt_of_cell? w _ hw915_4)).trans hw915_4), ((HB.out.cell (World.block_lt_of_cell? w _ hw915_5)).trans hw915_5), ((HB.out.cell (World.block_lt_of_cell? w _ hw918_0)).trans hw918_0), ((HB.out.cell (World.block_lt_of_cell? w _ hw918_1)).trans hw918_1), ((HB.out.cell (World.block_lt_of_cell? w _ hw918_2)).trans hw918_2), ((HB.out.cell (World.block_lt_of_cell? w _ hw918_3)).trans hw918_3), ((HB.out.cell (World.block_lt_of_cell? w _ hw918_4)).trans hw918_4), ((HB.out.cell (World.block_lt_of_cell? w _ hw918_5)).trans hw918_5)⟩ (fun hHeld => ?_)
                    clear hK K
                    refine norm_ (a' := ?_) ?_ ?_
                    rotate_left
                    ·show Act.put _ (some 58) _ = _
                     simp only [Act.put, sA1, sA2, sA3, i64_w, i32_w]
                     rfl
                    refine pU_ 11 47 #[YY,YY,YY,YY,YY,YY,YY,YY,YY,YY,YY,YY,ZZ,ZZ,ZZ,ZZ,ZZ] ?_
                    refine pU_ 12 59 #[YY,YY,YY,YY,YY,YY,YY,YY,YY,YY,YY,YY,YY,ZZ,ZZ,ZZ,ZZ] ?_
                    refine pU_ 13 60 #[YY,YY,YY,YY,YY,YY,YY,YY,YY,YY,YY,YY,YY,YY,ZZ,ZZ,ZZ] ?_
                    refine one_ (i := 14) (N := some 13) #[YY,YY,YY,YY,YY,YY,YY,YY,YY,YY,YY,YY,YY,YY,YY,ZZ,ZZ] rfl rfl (one_of HT_.out (by kernel_rfl)) (by decide) (fun K hK => ?_)
                    refine box_step ?hg (N := 13) ?hd (cs := #[.string (⟨#[]⟩ : BA), .string (⟨#[]⟩ : BA)]) (t := 28) ?hr ?_; (case hd => rfl); (case hg => rfl); (case hr => first | (go_simp; done) | (go_simp; rfl))
                    intro gb924 hg w37 hbox hb
                    have n0_ := Aside0.mk (wT bW_ hb)
                    have n1_ := Aside0.mk (hbox)
                    have n2_ := Aside0.mk ((by rw [hg]; exact (wZ bW_) : w.heap.size ≤ gb924))
                    have n3_ := Aside0.mk ((by rw [hg]; exact (wZ bW_) : w.heap.size ≤ gb924))
                    clear HB
                    have HB := n0_
                    have BK924 := n1_
                    have GW924 := n2_
                    have GE924 := n3_
                    clear n0_ n1_ n2_ n3_
                    clear hb hbox hg
                    refine hK.out _ _ ⟨((HB.out.cell (World.block_lt_of_cell? w _ hw915_0)).trans hw915_0), ((HB.out.cell (World.block_lt_of_cell? w _ hw915_1)).trans hw915_1), ((HB.out.cell (World.block_lt_of_cell? w _ hw915_2)).trans hw915_2), ((HB.out.cell (World.block_lt_of_cell? w _ hw915_3)).trans hw915_3), ((HB.out.cell (World.block_lt_of_cell? w _ hw915_4)).trans hw915_4), ((HB.out.cell (World.block_lt_of_cell? w _ hw915_5)).trans hw915_5), ((HB.out.cell (World.block_lt_of_cell? w _ hw918_0)).trans hw918_0), ((HB.out.cell (World.block_lt_of_cell? w _ hw918_1)).trans hw918_1), ((HB.out.cell (World.block_lt_of_cell? w _ hw918_2)).trans hw918_2), ((HB.out.cell (World.block_lt_of_cell? w _ hw918_3)).trans hw918_3), ((HB.out.cell (World.block_lt_of_cell? w _ hw918_4)).trans hw918_4), ((HB.out.cell (World.block_lt_of_cell? w _ hw918_5)).trans hw918_5)⟩ (fun hHeld => ?_)
                    clear hK K
                    refine norm_ (a' := ?_) ?_ ?_
                    rotate_left
                    ·show Act.put _ (some 13) _ = _
                     simp only [Act.put, sA1, sA2, sA3, i64_w, i32_w]
                     rfl
                    exact norm_ (by simp only [putAll, Act.put, sA1, sA2, sA3]) (hCont (gb924) _ ⟨hHeld, (bX_ BK924.out), GW924.out, GE924.out, (bS1_ GE924.out)⟩)
                   ·skip
                    refine box_step ?hg (N := 13) ?hd (cs := #[.string (⟨#[]⟩ : BA), .string (⟨#[]⟩ : BA)]) (t := 28) ?hr ?_; (case hd => rfl); (case hg => rfl); (case hr => first | (go_simp; done) | (go_simp; rfl))
                    intro gb924 hg w36 hbox hb
                    have n0_ := Aside0.mk (wT bW_ hb)
                    have n1_ := Aside0.mk (hbox)
                    have n2_ := Aside0.mk ((by rw [hg]; exact (wZ bW_) : w.heap.size ≤ gb924))
                    have n3_ := Aside0.mk ((by rw [hg]; exact (wZ bW_) : w.heap.size ≤ gb924))
                    clear HB
                    have HB := n0_
                    have BK924 := n1_
                    have GW924 := n2_
                    have GE924 := n3_
                    clear n0_ n1_ n2_ n3_
                    clear hb hbox hg
                    refine hK.out _ _ ⟨((HB.out.cell (World.block_lt_of_cell? w _ hw915_0)).trans hw915_0), ((HB.out.cell (World.block_lt_of_cell? w _ hw915_1)).trans hw915_1), ((HB.out.cell (World.block_lt_of_cell? w _ hw915_2)).trans hw915_2), ((HB.out.cell (World.block_lt_of_cell? w _ hw915_3)).trans hw915_3), ((HB.out.cell (World.block_lt_of_cell? w _ hw915_4)).trans hw915_4), ((HB.out.cell (World.block_lt_of_cell? w _ hw915_5)).trans hw915_5), ((HB.out.cell (World.block_lt_of_cell? w _ hw918_0)).trans hw918_0), ((HB.out.cell (World.block_lt_of_cell? w _ hw918_1)).trans hw918_1), ((HB.out.cell (World.block_lt_of_cell? w _ hw918_2)).trans hw918_2), ((HB.out.cell (World.block_lt_of_cell? w _ hw918_3)).trans hw918_3), ((HB.out.cell (World.block_lt_of_cell? w _ hw918_4)).trans hw918_4), ((HB.out.cell (World.block_lt_of_cell? w _ hw918_5)).trans hw918_5)⟩ (fun hHeld => ?_)
                    clear hK K
                    refine norm_ (a' := ?_) ?_ ?_
                    rotate_left
                    ·show Act.put _ (some 13) _ = _
                     simp only [Act.put, sA1, sA2, sA3, i64_w, i32_w]
                     rfl
                    refine one_ (i := 10) (N := some 58) #[YY,YY,YY,YY,YY,YY,YY,YY,YY,YY,YY,ZZ,ZZ,ZZ,YY,ZZ,ZZ] rfl rfl (one_of HT_.out (by kernel_rfl)) (by decide) (fun K hK => ?_)
                    refine goes_ Try.func50 (by kernel_rfl) rfl #[.agg #[.string t916, .string t917], .agg #[.string t919, .string t920]] (by rfl) rfl rfl mS_ ?_
                    with_reducible refine (catchmentref02_Meet.calls t916 t917 t919 t920 t921 t922 t923 _ A31.out).mono ?_
                    rintro e w37 ⟨rfl, hb⟩
                    refine ⟨_, rfl, ?_⟩
                    have n0_ := Aside0.mk (bB (bX_ BK924.out) hb)
                    have n1_ := Aside0.mk (wT (bS1_ GE924.out) hb)
                    clear BK924
                    clear HB
                    have BK924 := n0_
                    have HB := n1_
                    clear n0_ n1_
                    (try clear hb)
                    (try clear hb2)
                    (try clear hk)
                    (try clear hi)
                    refine hK.out _ _ ⟨((HB.out.cell (World.block_lt_of_cell? w _ hw915_0)).trans hw915_0), ((HB.out.cell (World.block_lt_of_cell? w _ hw915_1)).trans hw915_1), ((HB.out.cell (World.block_lt_of_cell? w _ hw915_2)).trans hw915_2), ((HB.out.cell (World.block_lt_of_cell? w _ hw915_3)).trans hw915_3), ((HB.out.cell (World.block_lt_of_cell? w _ hw915_4)).trans hw915_4), ((HB.out.cell (World.block_lt_of_cell? w _ hw915_5)).trans hw915_5), ((HB.out.cell (World.block_lt_of_cell? w _ hw918_0)).trans hw918_0), ((HB.out.cell (World.block_lt_of_cell? w _ hw918_1)).trans hw918_1), ((HB.out.cell (World.block_lt_of_cell? w _ hw918_2)).trans hw918_2), ((HB.out.cell (World.block_lt_of_cell? w _ hw918_3)).trans hw918_3), ((HB.out.cell (World.block_lt_of_cell? w _ hw918_4)).trans hw918_4), ((HB.out.cell (World.block_lt_of_cell? w _ hw918_5)).trans hw918_5)⟩ (fun hHeld => ?_)
                    clear hK K
                    refine norm_ (a' := ?_) ?_ ?_
                    rotate_left
                    ·show Act.put _ (some 58) _ = _
                     simp only [Act.put, sA1, sA2, sA3, i64_w, i32_w]
                     rfl
                    refine pU_ 11 47 #[YY,YY,YY,YY,YY,YY,YY,YY,YY,YY,YY,YY,ZZ,ZZ,YY,ZZ,ZZ] ?_
                    refine pU_ 12 59 #[YY,YY,YY,YY,YY,YY,YY,YY,YY,YY,YY,YY,YY,ZZ,YY,ZZ,ZZ] ?_
                    refine pU_ 13 60 #[YY,YY,YY,YY,YY,YY,YY,YY,YY,YY,YY,YY,YY,YY,YY,ZZ,ZZ] ?_
                    exact norm_ (by simp only [putAll, Act.put, sA1, sA2, sA3]) (hCont (gb924) _ ⟨hHeld, (bX_ BK924.out), GW924.out, GE924.out, (bS1_ GE924.out)⟩)
                  ·skip
                   refine box_step ?hg (N := 13) ?hd (cs := #[.string (⟨#[]⟩ : BA), .string (⟨#[]⟩ : BA)]) (t := 28) ?hr ?_; (case hd => rfl); (case hg => rfl); (case hr => first | (go_simp; done) | (go_simp; rfl))
                   intro gb924 hg w35 hbox hb
                   have n0_ := Aside0.mk (wT bW_ hb)
                   have n1_ := Aside0.mk (hbox)
                   have n2_ := Aside0.mk ((by rw [hg]; exact (wZ bW_) : w.heap.size ≤ gb924))
                   have n3_ := Aside0.mk ((by rw [hg]; exact (wZ bW_) : w.heap.size ≤ gb924))
                   clear HB
                   have HB := n0_
                   have BK924 := n1_
                   have GW924 := n2_
                   have GE924 := n3_
                   clear n0_ n1_ n2_ n3_
                   clear hb hbox hg
                   refine hK.out _ _ ⟨((HB.out.cell (World.block_lt_of_cell? w _ hw915_0)).trans hw915_0), ((HB.out.cell (World.block_lt_of_cell? w _ hw915_1)).trans hw915_1), ((HB.out.cell (World.block_lt_of_cell? w _ hw915_2)).trans hw915_2), ((HB.out.cell (World.block_lt_of_cell? w _ hw915_3)).trans hw915_3), ((HB.out.cell (World.block_lt_of_cell? w _ hw915_4)).trans hw915_4), ((HB.out.cell (World.block_lt_of_cell? w _ hw915_5)).trans hw915_5), ((HB.out.cell (World.block_lt_of_cell? w _ hw918_0)).trans hw918_0), ((HB.out.cell (World.block_lt_of_cell? w _ hw918_1)).trans hw918_1), ((HB.out.cell (World.block_lt_of_cell? w _ hw918_2)).trans hw918_2), ((HB.out.cell (World.block_lt_of_cell? w _ hw918_3)).trans hw918_3), ((HB.out.cell (World.block_lt_of_cell? w _ hw918_4)).trans hw918_4), ((HB.out.cell (World.block_lt_of_cell? w _ hw918_5)).trans hw918_5)⟩ (fun hHeld => ?_)
                   clear hK K
                   refine norm_ (a' := ?_) ?_ ?_
                   rotate_left
                   ·show Act.put _ (some 13) _ = _
                    simp only [Act.put, sA1, sA2, sA3, i64_w, i32_w]
                    rfl
                   refine one_ (i := 9) (N := some 57) #[YY,YY,YY,YY,YY,YY,YY,YY,YY,YY,ZZ,ZZ,ZZ,ZZ,YY,ZZ,ZZ] rfl rfl (one_of HT_.out (by kernel_rfl)) (by decide) (fun K hK => ?_)
                   refine goes_ Try.func51 (by kernel_rfl) rfl #[.agg #[.int .u8 ((rd_T32 y909 x12_2).f0), .int .i64 ((rd_T32 y909 x12_2).f1), .string ((rd_T32 y909 x12_2).f2), .string ((rd_T32 y909 x12_2).f3), .string ((rd_T32 y909 x12_2).f4), .int .u64 ((rd_T32 y909 x12_2).f5)]] (by rfl) rfl rfl mS_ ?_
                   with_reducible refine (catchmentref04_Span.calls ((rd_T32 y909 x12_2).f0) ((rd_T32 y909 x12_2).f1) ((rd_T32 y909 x12_2).f2) ((rd_T32 y909 x12_2).f3) ((rd_T32 y909 x12_2).f4) ((rd_T32 y909 x12_2).f5) t919 t920 _ A30.out).mono ?_
                   rintro e w36 ⟨rfl, hb⟩
                   refine ⟨_, rfl, ?_⟩
                   have n0_ := Aside0.mk (bB (bX_ BK924.out) hb)
                   have n1_ := Aside0.mk (wT (bS1_ GE924.out) hb)
                   clear BK924
                   clear HB
                   have BK924 := n0_
                   have HB := n1_
                   clear n0_ n1_
                   (try clear hb)
                   (try clear hb2)
                   (try clear hk)
                   (try clear hi)
                   refine hK.out _ _ ⟨((HB.out.cell (World.block_lt_of_cell? w _ hw915_0)).trans hw915_0), ((HB.out.cell (World.block_lt_of_cell? w _ hw915_1)).trans hw915_1), ((HB.out.cell (World.block_lt_of_cell? w _ hw915_2)).trans hw915_2), ((HB.out.cell (World.block_lt_of_cell? w _ hw915_3)).trans hw915_3), ((HB.out.cell (World.block_lt_of_cell? w _ hw915_4)).trans hw915_4), ((HB.out.cell (World.block_lt_of_cell? w _ hw915_5)).trans hw915_5), ((HB.out.cell (World.block_lt_of_cell? w _ hw918_0)).trans hw918_0), ((HB.out.cell (World.block_lt_of_cell? w _ hw918_1)).trans hw918_1), ((HB.out.cell (World.block_lt_of_cell? w _ hw918_2)).trans hw918_2), ((HB.out.cell (World.block_lt_of_cell? w _ hw918_3)).trans hw918_3), ((HB.out.cell (World.block_lt_of_cell? w _ hw918_4)).trans hw918_4), ((HB.out.cell (World.block_lt_of_cell? w _ hw918_5)).trans hw918_5)⟩ (fun hHeld => ?_)
                   clear hK K
                   refine norm_ (a' := ?_) ?_ ?_
                   rotate_left
                   ·show Act.put _ (some 57) _ = _
                    simp only [Act.put, sA1, sA2, sA3, i64_w, i32_w]
                    rfl
                   refine one_ (i := 10) (N := some 58) #[YY,YY,YY,YY,YY,YY,YY,YY,YY,YY,YY,ZZ,ZZ,ZZ,YY,ZZ,ZZ] rfl rfl (one_of HT_.out (by kernel_rfl)) (by decide) (fun K hK => ?_)
                   refine goes_ Try.func50 (by kernel_rfl) rfl #[.agg #[.string t916, .string t917], .agg #[.string t919, .string t920]] (by rfl) rfl rfl mS_ ?_
                   with_reducible refine (catchmentref02_Meet.calls t916 t917 t919 t920 t921 t922 t923 _ A31.out).mono ?_
                   rintro e w37 ⟨rfl, hb⟩
                   refine ⟨_, rfl, ?_⟩
                   have n0_ := Aside0.mk (bB (bX_ BK924.out) hb)
                   have n1_ := Aside0.mk (wT (bS1_ GE924.out) hb)
                   clear BK924
                   clear HB
                   have BK924 := n0_
                   have HB := n1_
                   clear n0_ n1_
                   (try clear hb)
                   (try clear hb2)
                   (try clear hk)
                   (try clear hi)
                   refine hK.out _ _ ⟨((HB.out.cell (World.block_lt_of_cell? w _ hw915_0)).trans hw915_0), ((HB.out.cell (World.block_lt_of_cell? w _ hw915_1)).trans hw915_1), ((HB.out.cell (World.block_lt_of_cell? w _ hw915_2)).trans hw915_2), ((HB.out.cell (World.block_lt_of_cell? w _ hw915_3)).trans hw915_3), ((HB.out.cell (World.block_lt_of_cell? w _ hw915_4)).trans hw915_4), ((HB.out.cell (World.block_lt_of_cell? w _ hw915_5)).trans hw915_5), ((HB.out.cell (World.block_lt_of_cell? w _ hw918_0)).trans hw918_0), ((HB.out.cell (World.block_lt_of_cell? w _ hw918_1)).trans hw918_1), ((HB.out.cell (World.block_lt_of_cell? w _ hw918_2)).trans hw918_2), ((HB.out.cell (World.block_lt_of_cell? w _ hw918_3)).trans hw918_3), ((HB.out.cell (World.block_lt_of_cell? w _ hw918_4)).trans hw918_4), ((HB.out.cell (World.block_lt_of_cell? w _ hw918_5)).trans hw918_5)⟩ (fun hHeld => ?_)
                   clear hK K
                   refine norm_ (a' := ?_) ?_ ?_
                   rotate_left
                   ·show Act.put _ (some 58) _ = _
                    simp only [Act.put, sA1, sA2, sA3, i64_w, i32_w]
                    rfl
                   refine pU_ 11 47 #[YY,YY,YY,YY,YY,YY,YY,YY,YY,YY,YY,YY,ZZ,ZZ,YY,ZZ,ZZ] ?_
                   refine pU_ 12 59 #[YY,YY,YY,YY,YY,YY,YY,YY,YY,YY,YY,YY,YY,ZZ,YY,ZZ,ZZ] ?_
                   refine pU_ 13 60 #[YY,YY,YY,YY,YY,YY,YY,YY,YY,YY,YY,YY,YY,YY,YY,ZZ,ZZ] ?_
                   exact norm_ (by simp only [putAll, Act.put, sA1, sA2, sA3]) (hCont (gb924) _ ⟨hHeld, (bX_ BK924.out), GW924.out, GE924.out, (bS1_ GE924.out)⟩)
                 ·skip
                  refine box_step ?hg (N := 13) ?hd (cs := #[.string (⟨#[]⟩ : BA), .string (⟨#[]⟩ : BA)]) (t := 28) ?hr ?_; (case hd => rfl); (case hg => rfl); (case hr => first | (go_simp; done) | (go_simp; rfl))
                  intro gb924 hg w34 hbox hb
                  have n0_ := Aside0.mk (wT bW_ hb)
                  have n1_ := Aside0.mk (hbox)
                  have n2_ := Aside0.mk ((by rw [hg]; exact (wZ bW_) : w.heap.size ≤ gb924))
                  have n3_ := Aside0.mk ((by rw [hg]; exact (wZ bW_) : w.heap.size ≤ gb924))
                  clear HB
                  have HB := n0_
                  have BK924 := n1_
                  have GW924 := n2_
                  have GE924 := n3_
                  clear n0_ n1_ n2_ n3_
                  clear hb hbox hg
                  refine hK.out _ _ ⟨((HB.out.cell (World.block_lt_of_cell? w _ hw915_0)).trans hw915_0), ((HB.out.cell (World.block_lt_of_cell? w _ hw915_1)).trans hw915_1), ((HB.out.cell (World.block_lt_of_cell? w _ hw915_2)).trans hw915_2), ((HB.out.cell (World.block_lt_of_cell? w _ hw915_3)).trans hw915_3), ((HB.out.cell (World.block_lt_of_cell? w _ hw915_4)).trans hw915_4), ((HB.out.cell (World.block_lt_of_cell? w _ hw915_5)).trans hw915_5), ((HB.out.cell (World.block_lt_of_cell? w _ hw918_0)).trans hw918_0), ((HB.out.cell (World.block_lt_of_cell? w _ hw918_1)).trans hw918_1), ((HB.out.cell (World.block_lt_of_cell? w _ hw918_2)).trans hw918_2), ((HB.out.cell (World.block_lt_of_cell? w _ hw918_3)).trans hw918_3), ((HB.out.cell (World.block_lt_of_cell? w _ hw918_4)).trans hw918_4), ((HB.out.cell (World.block_lt_of_cell? w _ hw918_5)).trans hw918_5)⟩ (fun hHeld => ?_)
                  clear hK K
                  refine norm_ (a' := ?_) ?_ ?_
                  rotate_left
                  ·show Act.put _ (some 13) _ = _
                   simp only [Act.put, sA1, sA2, sA3, i64_w, i32_w]
                   rfl
                  refine one_ (i := 4) (N := some 52) #[YY,YY,YY,YY,YY,YY,YY,YY,YY,ZZ,ZZ,ZZ,ZZ,ZZ,YY,ZZ,ZZ] rfl rfl (one_of HT_.out (by kernel_rfl)) (by decide) (fun K hK => ?_)
                  refine goes_ Try.func51 (by kernel_rfl) rfl #[.agg #[.int .u8 ((rd_T32 y905 x11_1).f0), .int .i64 ((rd_T32 y905 x11_1).f1), .string ((rd_T32 y905 x11_1).f2), .string ((rd_T32 y905 x11_1).f3), .string ((rd_T32 y905 x11_1).f4), .int .u64 ((rd_T32 y905 x11_1).f5)]] (by rfl) rfl rfl mS_ ?_
                  with_reducible refine (catchmentref04_Span.calls ((rd_T32 y905 x11_1).f0) ((rd_T32 y905 x11_1).f1) ((rd_T32 y905 x11_1).f2) ((rd_T32 y905 x11_1).f3) ((rd_T32 y905 x11_1).f4) ((rd_T32 y905 x11_1).f5) t916 t917 _ A28.out).mono ?_
                  rintro e w35 ⟨rfl, hb⟩
                  refine ⟨_, rfl, ?_⟩
                  have n0_ := Aside0.mk (bB (bX_ BK924.out) hb)
                  have n1_ := Aside0.mk (wT (bS1_ GE924.out) hb)
                  clear BK924
                  clear HB
                  have BK924 := n0_
                  have HB := n1_
                  clear n0_ n1_
                  (try clear hb)
                  (try clear hb2)
                  (try clear hk)
                  (try clear hi)
                  refine hK.out _ _ ⟨((HB.out.cell (World.block_lt_of_cell? w _ hw915_0)).trans hw915_0), ((HB.out.cell (World.block_lt_of_cell? w _ hw915_1)).trans hw915_1), ((HB.out.cell (World.block_lt_of_cell? w _ hw915_2)).trans hw915_2), ((HB.out.cell (World.block_lt_of_cell? w _ hw915_3)).trans hw915_3), ((HB.out.cell (World.block_lt_of_cell? w _ hw915_4)).trans hw915_4), ((HB.out.cell (World.block_lt_of_cell? w _ hw915_5)).trans hw915_5), ((HB.out.cell (World.block_lt_of_cell? w _ hw918_0)).trans hw918_0), ((HB.out.cell (World.block_lt_of_cell? w _ hw918_1)).trans hw918_1), ((HB.out.cell (World.block_lt_of_cell? w _ hw918_2)).trans hw918_2), ((HB.out.cell (World.block_lt_of_cell? w _ hw918_3)).trans hw918_3), ((HB.out.cell (World.block_lt_of_cell? w _ hw918_4)).trans hw918_4), ((HB.out.cell (World.block_lt_of_cell? w _ hw918_5)).trans hw918_5)⟩ (fun hHeld => ?_)
                  clear hK K
                  refine norm_ (a' := ?_) ?_ ?_
                  rotate_left
                  ·show Act.put _ (some 52) _ = _
                   simp only [Act.put, sA1, sA2, sA3, i64_w, i32_w]
                   rfl
                  refine one_ (i := 9) (N := some 57) #[YY,YY,YY,YY,YY,YY,YY,YY,YY,YY,ZZ,ZZ,ZZ,ZZ,YY,ZZ,ZZ] rfl rfl (one_of HT_.out (by kernel_rfl)) (by decide) (fun K hK => ?_)
                  refine goes_ Try.func51 (by kernel_rfl) rfl #[.agg #[.int .u8 ((rd_T32 y909 x12_2).f0), .int .i64 ((rd_T32 y909 x12_2).f1), .string ((rd_T32 y909 x12_2).f2), .string ((rd_T32 y909 x12_2).f3), .string ((rd_T32 y909 x12_2).f4), .int .u64 ((rd_T32 y909 x12_2).f5)]] (by rfl) rfl rfl mS_ ?_
                  with_reducible refine (catchmentref04_Span.calls ((rd_T32 y909 x12_2).f0) ((rd_T32 y909 x12_2).f1) ((rd_T32 y909 x12_2).f2) ((rd_T32 y909 x12_2).f3) ((rd_T32 y909 x12_2).f4) ((rd_T32 y909 x12_2).f5) t919 t920 _ A30.out).mono ?_
                  rintro e w36 ⟨rfl, hb⟩
                  refine ⟨_, rfl, ?_⟩
                  have n0_ := Aside0.mk (bB (bX_ BK924.out) hb)
                  have n1_ := Aside0.mk (wT (bS1_ GE924.out) hb)
                  clear BK924
                  clear HB
                  have BK924 := n0_
                  have HB := n1_
                  clear n0_ n1_
                  (try clear hb)
                  (try clear hb2)
                  (try clear hk)
                  (try clear hi)
                  refine hK.out _ _ ⟨((HB.out.cell (World.block_lt_of_cell? w _ hw915_0)).trans hw915_0), ((HB.out.cell (World.block_lt_of_cell? w _ hw915_1)).trans hw915_1), ((HB.out.cell (World.block_lt_of_cell? w _ hw915_2)).trans hw915_2), ((HB.out.cell (World.block_lt_of_cell? w _ hw915_3)).trans hw915_3), ((HB.out.cell (World.block_lt_of_cell? w _ hw915_4)).trans hw915_4), ((HB.out.cell (World.block_lt_of_cell? w _ hw915_5)).trans hw915_5), ((HB.out.cell (World.block_lt_of_cell? w _ hw918_0)).trans hw918_0), ((HB.out.cell (World.block_lt_of_cell? w _ hw918_1)).trans hw918_1), ((HB.out.cell (World.block_lt_of_cell? w _ hw918_2)).trans hw918_2), ((HB.out.cell (World.block_lt_of_cell? w _ hw918_3)).trans hw918_3), ((HB.out.cell (World.block_lt_of_cell? w _ hw918_4)).trans hw918_4), ((HB.out.cell (World.block_lt_of_cell? w _ hw918_5)).trans hw918_5)⟩ (fun hHeld => ?_)
                  clear hK K
                  refine norm_ (a' := ?_) ?_ ?_
                  rotate_left
                  ·show Act.put _ (some 57) _ = _
                   simp only [Act.put, sA1, sA2, sA3, i64_w, i32_w]
                   rfl
                  refine one_ (i := 10) (N := some 58) #[YY,YY,YY,YY,YY,YY,YY,YY,YY,YY,YY,ZZ,ZZ,ZZ,YY,ZZ,ZZ] rfl rfl (one_of HT_.out (by kernel_rfl)) (by decide) (fun K hK => ?_)
                  refine goes_ Try.func50 (by kernel_rfl) rfl #[.agg #[.string t916, .string t917], .agg #[.string t919, .string t920]] (by rfl) rfl rfl mS_ ?_
                  with_reducible refine (catchmentref02_Meet.calls t916 t917 t919 t920 t921 t922 t923 _ A31.out).mono ?_
                  rintro e w37 ⟨rfl, hb⟩
                  refine ⟨_, rfl, ?_⟩
                  have n0_ := Aside0.mk (bB (bX_ BK924.out) hb)
                  have n1_ := Aside0.mk (wT (bS1_ GE924.out) hb)
                  clear BK924
                  clear HB
                  have BK924 := n0_
                  have HB := n1_
                  clear n0_ n1_
                  (try clear hb)
                  (try clear hb2)
                  (try clear hk)
                  (try clear hi)
                  refine hK.out _ _ ⟨((HB.out.cell (World.block_lt_of_cell? w _ hw915_0)).trans hw915_0), ((HB.out.cell (World.block_lt_of_cell? w _ hw915_1)).trans hw915_1), ((HB.out.cell (World.block_lt_of_cell? w _ hw915_2)).trans hw915_2), ((HB.out.cell (World.block_lt_of_cell? w _ hw915_3)).trans hw915_3), ((HB.out.cell (World.block_lt_of_cell? w _ hw915_4)).trans hw915_4), ((HB.out.cell (World.block_lt_of_cell? w _ hw915_5)).trans hw915_5), ((HB.out.cell (World.block_lt_of_cell? w _ hw918_0)).trans hw918_0), ((HB.out.cell (World.block_lt_of_cell? w _ hw918_1)).trans hw918_1), ((HB.out.cell (World.block_lt_of_cell? w _ hw918_2)).trans hw918_2), ((HB.out.cell (World.block_lt_of_cell? w _ hw918_3)).trans hw918_3), ((HB.out.cell (World.block_lt_of_cell? w _ hw918_4)).trans hw918_4), ((HB.out.cell (World.block_lt_of_cell? w _ hw918_5)).trans hw918_5)⟩ (fun hHeld => ?_)
                  clear hK K
                  refine norm_ (a' := ?_) ?_ ?_
                  rotate_left
                  ·show Act.put _ (some 58) _ = _
                   simp only [Act.put, sA1, sA2, sA3, i64_w, i32_w]
                   rfl
                  refine pU_ 11 47 #[YY,YY,YY,YY,YY,YY,YY,YY,YY,YY,YY,YY,ZZ,ZZ,YY,ZZ,ZZ] ?_
                  refine pU_ 12 59 #[YY,YY,YY,YY,YY,YY,YY,YY,YY,YY,YY,YY,YY,ZZ,YY,ZZ,ZZ] ?_
                  refine pU_ 13 60 #[YY,YY,YY,YY,YY,YY,YY,YY,YY,YY,YY,YY,YY,YY,YY,ZZ,ZZ] ?_
                  exact norm_ (by simp only [putAll, Act.put, sA1, sA2, sA3]) (hCont (gb924) _ ⟨hHeld, (bX_ BK924.out), GW924.out, GE924.out, (bS1_ GE924.out)⟩)
                rintro gb924 w38 ⟨hS_, h0_, h1_, h2_, h3_⟩
                have n0_ : Aside0 (w38.heap[gb924]? = some (.cells #[.string (⟨#[]⟩ : BA), .string (⟨#[]⟩ : BA)] 28 (0, 0))) := ⟨h0_⟩
                have n1_ : Aside0 (w.heap.size ≤ gb924) := ⟨h1_⟩
                have n2_ : Aside0 (w.heap.size ≤ gb924) := ⟨h2_⟩
                have n3_ : Aside0 (Below w.heap.size w w38) := ⟨h3_⟩
                clear HB
                clear h0_ h1_ h2_ h3_
                have BK924 := n0_
                have GW924 := n1_
                have GE924 := n2_
                have HB := n3_
                clear n0_ n1_ n2_ n3_
                have hHeld : w38.cell? (ad915.add ((x11_1).toNat * 6)) = some (.int .u8 ((rd_T32 y905 x11_1).f0)) ∧ w38.cell? ⟨(ad915.add ((x11_1).toNat * 6)).block, (ad915.add ((x11_1).toNat * 6)).off + 1, none⟩ = some (.int .i64 ((rd_T32 y905 x11_1).f1)) ∧ w38.cell? ⟨(ad915.add ((x11_1).toNat * 6)).block, (ad915.add ((x11_1).toNat * 6)).off + 2, none⟩ = some (.string ((rd_T32 y905 x11_1).f2)) ∧ w38.cell? ⟨(ad915.add ((x11_1).toNat * 6)).block, (ad915.add ((x11_1).toNat * 6)).off + 3, none⟩ = some (.string ((rd_T32 y905 x11_1).f3)) ∧ w38.cell? ⟨(ad915.add ((x11_1).toNat * 6)).block, (ad915.add ((x11_1).toNat * 6)).off + 4, none⟩ = some (.string ((rd_T32 y905 x11_1).f4)) ∧ w38.cell? ⟨(ad915.add ((x11_1).toNat * 6)).block, (ad915.add ((x11_1).toNat * 6)).off + 5, none⟩ = some (.int .u64 ((rd_T32 y905 x11_1).f5)) ∧ w38.cell? (ad918.add ((x12_2).toNat * 6)) = some (.int .u8 ((rd_T32 y909 x12_2).f0)) ∧ w38.cell? ⟨(ad918.add ((x12_2).toNat * 6)).block, (ad918.add ((x12_2).toNat * 6)).off + 1, none⟩ = some (.int .i64 ((rd_T32 y909 x12_2).f1)) ∧ w38.cell? ⟨(ad918.add ((x12_2).toNat * 6)).block, (ad918.add ((x12_2).toNat * 6)).off + 2, none⟩ = some (.string ((rd_T32 y909 x12_2).f2)) ∧ w38.cell? ⟨(ad918.add ((x12_2).toNat * 6)).block, (ad918.add ((x12_2).toNat * 6)).off + 3, none⟩ = some (.string ((rd_T32 y909 x12_2).f3)) ∧ w38.cell? ⟨(ad918.add ((x12_2).toNat * 6)).block, (ad918.add ((x12_2).toNat * 6)).off + 4, none⟩ = some (.string ((rd_T32 y909 x12_2).f4)) ∧ w38.cell? ⟨(ad918.add ((x12_2).toNat * 6)).block, (ad918.add ((x12_2).toNat * 6)).off + 5, none⟩ = some (.int .u64 ((rd_T32 y909 x12_2).f5)) := hS_
                refine norm_ (a' := ?_) ?_ ?_
                rotate_left
                ·simp only [putAll, Act.put, sA1, sA2, sA3]
                 rfl
                refine one_ (i := 15) (N := none) #[YY,YY,YY,YY,YY,YY,YY,YY,YY,YY,YY,YY,YY,YY,YY,YY,ZZ] rfl rfl (one_of HT_.out (by kernel_rfl)) (by decide) (fun K hK => ?_)
                have hs39 : w38.cell? ⟨gb924, 0, none⟩ = some (.string (⟨#[]⟩ : BA)) := (bC BK924.out 0).trans rfl
                have hfs39 := bF BK924.out 0
                have hs40 : w38.cell? ⟨gb924, 1, none⟩ = some (.string (⟨#[]⟩ : BA)) := (bC BK924.out 1).trans rfl
                have hfs40 := bF BK924.out 1
                refine skip_ (w1 := ?_) (by rfl) rfl ?_ ?_
                rotate_left
                ·go_simp
                 rfl
                refine hK.out _ _ ⟨((cF (p := ⟨gb924, _, none⟩) (nB_ hw915_0 GW924.out) _).trans (((cF (p := ⟨gb924, _, none⟩) (nB_ hw915_0 GW924.out) _).trans (hHeld.1)))), ((cF (p := ⟨gb924, _, none⟩) (nB_ hw915_1 GW924.out) _).trans (((cF (p := ⟨gb924, _, none⟩) (nB_ hw915_1 GW924.out) _).trans (hHeld.2.1)))), ((cF (p := ⟨gb924, _, none⟩) (nB_ hw915_2 GW924.out) _).trans (((cF (p := ⟨gb924, _, none⟩) (nB_ hw915_2 GW924.out) _).trans (hHeld.2.2.1)))), ((cF (p := ⟨gb924, _, none⟩) (nB_ hw915_3 GW924.out) _).trans (((cF (p := ⟨gb924, _, none⟩) (nB_ hw915_3 GW924.out) _).trans (hHeld.2.2.2.1)))), ((cF (p := ⟨gb924, _, none⟩) (nB_ hw915_4 GW924.out) _).trans (((cF (p := ⟨gb924, _, none⟩) (nB_ hw915_4 GW924.out) _).trans (hHeld.2.2.2.2.1)))), ((cF (p := ⟨gb924, _, none⟩) (nB_ hw915_5 GW924.out) _).trans (((cF (p := ⟨gb924, _, none⟩) (nB_ hw915_5 GW924.out) _).trans (hHeld.2.2.2.2.2.1)))), ((cF (p := ⟨gb924, _, none⟩) (nB_ hw918_0 GW924.out) _).trans (((cF (p := ⟨gb924, _, none⟩) (nB_ hw918_0 GW924.out) _).trans (hHeld.2.2.2.2.2.2.1)))), ((cF (p := ⟨gb924, _, none⟩) (nB_ hw918_1 GW924.out) _).trans (((cF (p := ⟨gb924, _, none⟩) (nB_ hw918_1 GW924.out) _).trans (hHeld.2.2.2.2.2.2.2.1)))), ((cF (p := ⟨gb924, _, none⟩) (nB_ hw918_2 GW924.out) _).trans (((cF (p := ⟨gb924, _, none⟩) (nB_ hw918_2 GW924.out) _).trans (hHeld.2.2.2.2.2.2.2.2.1)))), ((cF (p := ⟨gb924, _, none⟩) (nB_ hw918_3 GW924.out) _).trans (((cF (p := ⟨gb924, _, none⟩) (nB_ hw918_3 GW924.out) _).trans (hHeld.2.2.2.2.2.2.2.2.2.1)))), ((cF (p := ⟨gb924, _, none⟩) (nB_ hw918_4 GW924.out) _).trans (((cF (p := ⟨gb924, _, none⟩) (nB_ hw918_4 GW924.out) _).trans (hHeld.2.2.2.2.2.2.2.2.2.2.1)))), ((cF (p := ⟨gb924, _, none⟩) (nB_ hw918_5 GW924.out) _).trans (((cF (p := ⟨gb924, _, none⟩) (nB_ hw918_5 GW924.out) _).trans (hHeld.2.2.2.2.2.2.2.2.2.2.2))))⟩ (fun hHeld => ?_)
                clear hK K
                refine pU_ 16 14 #[YY,YY,YY,YY,YY,YY,YY,YY,YY,YY,YY,YY,YY,YY,YY,YY,YY] ?_
                refine done_ (done_of HT_.out (by kernel_rfl)) ?_
                try go_wp2
                go_roundg k2
                case measure => have := HK1.out; have := HK2.out; omega
                case rel => exact ⟨(!t923), (wrap64 (x12_2 + 1)), (by first | rfl | (simp; done) | (simp [*]; done)), (by first | rfl | (simp; done) | (simp [*]; done)), H', ⟨by have := HK1.out; have := HK2.out; omega⟩, ⟨by repeat (first | (with_reducible first | exact HB.out | apply wA | apply wN | apply w1 | refine wS ?_ GE924.out) | exact HB.out)⟩⟩
               ·replace c32 := Bool.eq_false_iff.mpr c32
                subst c32
                have H1 : (catchmentlaw37_DeltaSwaps.l1 k2 y905 y909 a2 a3 t913 false x11_1 (wrap64 (x12_2 + 1))) = some r := by rw [if_neg (show ¬ (false = true) by decide)] at H; exact H
                clear H
                have H := H1
                clear H1
                have H' := Aside0.mk H
                clear H
                try go_wp2
                have n0_ := Aside0.mk (w1 HB.out)
                clear HB
                have HB := n0_
                clear n0_
                have p915 : 0 ≤ (x11_1 : Int) := of_decide_eq_true (by first | (with_reducible assumption) | assumption)
                have q915 : x11_1 < (y905.length : Int) := of_decide_eq_true (by first | (with_reducible assumption) | assumption)
                obtain ⟨ad915, e915, hx915_0, hx915_1, hx915_2, hx915_3, hx915_4, hx915_5⟩ := at_T32 HR908.out x11_1 p915 q915
                have hw915_5 := hx915_5
                have hw915_4 := hx915_4
                have hw915_3 := hx915_3
                have hw915_2 := hx915_2
                have hw915_1 := hx915_1
                have hw915_0 := hx915_0
                cases e915
                replace hx915_0 := (HB.out.cell (World.block_lt_of_cell? w _ hx915_0)).trans hx915_0
                replace hx915_1 := (HB.out.cell (World.block_lt_of_cell? w _ hx915_1)).trans hx915_1
                replace hx915_2 := (HB.out.cell (World.block_lt_of_cell? w _ hx915_2)).trans hx915_2
                replace hx915_3 := (HB.out.cell (World.block_lt_of_cell? w _ hx915_3)).trans hx915_3
                replace hx915_4 := (HB.out.cell (World.block_lt_of_cell? w _ hx915_4)).trans hx915_4
                replace hx915_5 := (HB.out.cell (World.block_lt_of_cell? w _ hx915_5)).trans hx915_5
                replace p915 := eq_true p915
                replace q915 := eq_true q915
                have p918 : 0 ≤ (x12_2 : Int) := of_decide_eq_true (by first | (with_reducible assumption) | assumption)
                have q918 : x12_2 < (y909.length : Int) := of_decide_eq_true (by first | (with_reducible assumption) | assumption)
                obtain ⟨ad918, e918, hx918_0, hx918_1, hx918_2, hx918_3, hx918_4, hx918_5⟩ := at_T32 HR912.out x12_2 p918 q918
                have hw918_5 := hx918_5
                have hw918_4 := hx918_4
                have hw918_3 := hx918_3
                have hw918_2 := hx918_2
                have hw918_1 := hx918_1
                have hw918_0 := hx918_0
                cases e918
                replace hx918_0 := (HB.out.cell (World.block_lt_of_cell? w _ hx918_0)).trans hx918_0
                replace hx918_1 := (HB.out.cell (World.block_lt_of_cell? w _ hx918_1)).trans hx918_1
                replace hx918_2 := (HB.out.cell (World.block_lt_of_cell? w _ hx918_2)).trans hx918_2
                replace hx918_3 := (HB.out.cell (World.block_lt_of_cell? w _ hx918_3)).trans hx918_3
                replace hx918_4 := (HB.out.cell (World.block_lt_of_cell? w _ hx918_4)).trans hx918_4
                replace hx918_5 := (HB.out.cell (World.block_lt_of_cell? w _ hx918_5)).trans hx918_5
                replace p918 := eq_true p918
                replace q918 := eq_true q918
                refine start_ (n := 17) (S := fun w' => w'.cell? (ad915.add ((x11_1).toNat * 6)) = some (.int .u8 ((rd_T32 y905 x11_1).f0)) ∧ w'.cell? ⟨(ad915.add ((x11_1).toNat * 6)).block, (ad915.add ((x11_1).toNat * 6)).off + 1, none⟩ = some (.int .i64 ((rd_T32 y905 x11_1).f1)) ∧ w'.cell? ⟨(ad915.add ((x11_1).toNat * 6)).block, (ad915.add ((x11_1).toNat * 6)).off + 2, none⟩ = some (.string ((rd_T32 y905 x11_1).f2)) ∧ w'.cell? ⟨(ad915.add ((x11_1).toNat * 6)).block, (ad915.add ((x11_1).toNat * 6)).off + 3, none⟩ = some (.string ((rd_T32 y905 x11_1).f3)) ∧ w'.cell? ⟨(ad915.add ((x11_1).toNat * 6)).block, (ad915.add ((x11_1).toNat * 6)).off + 4, none⟩ = some (.string ((rd_T32 y905 x11_1).f4)) ∧ w'.cell? ⟨(ad915.add ((x11_1).toNat * 6)).block, (ad915.add ((x11_1).toNat * 6)).off + 5, none⟩ = some (.int .u64 ((rd_T32 y905 x11_1).f5)) ∧ w'.cell? (ad918.add ((x12_2).toNat * 6)) = some (.int .u8 ((rd_T32 y909 x12_2).f0)) ∧ w'.cell? ⟨(ad918.add ((x12_2).toNat * 6)).block, (ad918.add ((x12_2).toNat * 6)).off + 1, none⟩ = some (.int .i64 ((rd_T32 y909 x12_2).f1)) ∧ w'.cell? ⟨(ad918.add ((x12_2).toNat * 6)).block, (ad918.add ((x12_2).toNat * 6)).off + 2, none⟩ = some (.string ((rd_T32 y909 x12_2).f2)) ∧ w'.cell? ⟨(ad918.add ((x12_2).toNat * 6)).block, (ad918.add ((x12_2).toNat * 6)).off + 3, none⟩ = some (.string ((rd_T32 y909 x12_2).f3)) ∧ w'.cell? ⟨(ad918.add ((x12_2).toNat * 6)).block, (ad918.add ((x12_2).toNat * 6)).off + 4, none⟩ = some (.string ((rd_T32 y909 x12_2).f4)) ∧ w'.cell? ⟨(ad918.add ((x12_2).toNat * 6)).block, (ad918.add ((x12_2).toNat * 6)).off + 5, none⟩ = some (.int .u64 ((rd_T32 y909 x12_2).f5))) (ds := []) #[ZZ,ZZ,ZZ,ZZ,ZZ,ZZ,ZZ,ZZ,ZZ,ZZ,ZZ,ZZ,ZZ,ZZ,ZZ,ZZ,ZZ] (by kernel_rfl) rfl rfl ⟨((HB.out.cell (World.block_lt_of_cell? w _ hw915_0)).trans hw915_0), ((HB.out.cell (World.block_lt_of_cell? w _ hw915_1)).trans hw915_1), ((HB.out.cell (World.block_lt_of_cell? w _ hw915_2)).trans hw915_2), ((HB.out.cell (World.block_lt_of_cell? w _ hw915_3)).trans hw915_3), ((HB.out.cell (World.block_lt_of_cell? w _ hw915_4)).trans hw915_4), ((HB.out.cell (World.block_lt_of_cell? w _ hw915_5)).trans hw915_5), ((HB.out.cell (World.block_lt_of_cell? w _ hw918_0)).trans hw918_0), ((HB.out.cell (World.block_lt_of_cell? w _ hw918_1)).trans hw918_1), ((HB.out.cell (World.block_lt_of_cell? w _ hw918_2)).trans hw918_2), ((HB.out.cell (World.block_lt_of_cell? w _ hw918_3)).trans hw918_3), ((HB.out.cell (World.block_lt_of_cell? w _ hw918_4)).trans hw918_4), ((HB.out.cell (World.block_lt_of_cell? w _ hw918_5)).trans hw918_5)⟩ (fun hHeld => ?_); refine with_tabW catchmentlaw37_DeltaSwaps.tab12 catchmentlaw37_DeltaSwaps.bits12 (fun HT_ HW_ => ?_)
                generalize wr.drew = w41 at HB hx915_0 hx915_1 hx915_2 hx915_3 hx915_4 hx915_5 hx918_0 hx918_1 hx918_2 hx918_3 hx918_4 hx918_5 hHeld ⊢
                refine pU_ 0 48 #[YY,ZZ,ZZ,ZZ,ZZ,ZZ,ZZ,ZZ,ZZ,ZZ,ZZ,ZZ,ZZ,ZZ,ZZ,ZZ,ZZ] ?_
                refine pU_ 1 49 #[YY,YY,ZZ,ZZ,ZZ,ZZ,ZZ,ZZ,ZZ,ZZ,ZZ,ZZ,ZZ,ZZ,ZZ,ZZ,ZZ] ?_
                refine pU_ 2 50 #[YY,YY,YY,ZZ,ZZ,ZZ,ZZ,ZZ,ZZ,ZZ,ZZ,ZZ,ZZ,ZZ,ZZ,ZZ,ZZ] ?_
                refine pU_ 5 53 #[YY,YY,YY,ZZ,ZZ,YY,ZZ,ZZ,ZZ,ZZ,ZZ,ZZ,ZZ,ZZ,ZZ,ZZ,ZZ] ?_
                refine pU_ 6 54 #[YY,YY,YY,ZZ,ZZ,YY,YY,ZZ,ZZ,ZZ,ZZ,ZZ,ZZ,ZZ,ZZ,ZZ,ZZ] ?_
                refine pU_ 7 55 #[YY,YY,YY,ZZ,ZZ,YY,YY,YY,ZZ,ZZ,ZZ,ZZ,ZZ,ZZ,ZZ,ZZ,ZZ] ?_
                refine take_ (i := 3) (N := some 51) (v := ?_) (a' := ?_) #[YY,YY,YY,YY,ZZ,YY,YY,YY,ZZ,ZZ,ZZ,ZZ,ZZ,ZZ,ZZ,ZZ,ZZ] rfl rfl (take_ofW HT_.out HW_.out (by kernel_rfl)) (fun _ _ _ h => h) (Or.inl ⟨by rfl, ?_⟩) hHeld ?_ ?_
                rotate_left
                ·rintro w' ⟨s0, s1, s2, s3, s4, s5, s6, s7, s8, s9, s10, s11⟩
                 go_simp
                 with_reducible rfl
                rotate_left
                ·simp only [Act.put, sA1, sA2, sA3, i64_w, i32_w]
                 rfl
                refine take_ (i := 8) (N := some 56) (v := ?_) (a' := ?_) #[YY,YY,YY,YY,ZZ,YY,YY,YY,YY,ZZ,ZZ,ZZ,ZZ,ZZ,ZZ,ZZ,ZZ] rfl rfl (take_ofW HT_.out HW_.out (by kernel_rfl)) (fun _ _ _ h => h) (Or.inl ⟨by rfl, ?_⟩) hHeld ?_ ?_
                rotate_left
                ·rintro w' ⟨s0, s1, s2, s3, s4, s5, s6, s7, s8, s9, s10, s11⟩
                 go_simp
                 with_reducible rfl
                rotate_left
                ·simp only [Act.put, sA1, sA2, sA3, i64_w, i32_w]
                 rfl
                refine join_ (σ := Nat) 2 #[YY,YY,YY,YY,YY,YY,YY,YY,YY,YY,YY,YY,YY,YY,YY,ZZ,ZZ] (fun s_ => [(52, .agg #[.string t916, .string t917]), (57, .agg #[.string t919, .string t920]), (58, .tuple #[.agg #[.string t921, .string t922], .bool t923]), (13, .pointer (some ⟨s_, 0, none⟩)), (47, .tuple #[.agg #[.string t921, .string t922], .bool t923]), (59, .agg #[.string t921, .string t922]), (60, .bool t923)]) (fun s_ w' => (w'.cell? (ad915.add ((x11_1).toNat * 6)) = some (.int .u8 ((rd_T32 y905 x11_1).f0)) ∧ w'.cell? ⟨(ad915.add ((x11_1).toNat * 6)).block, (ad915.add ((x11_1).toNat * 6)).off + 1, none⟩ = some (.int .i64 ((rd_T32 y905 x11_1).f1)) ∧ w'.cell? ⟨(ad915.add ((x11_1).toNat * 6)).block, (ad915.add ((x11_1).toNat * 6)).off + 2, none⟩ = some (.string ((rd_T32 y905 x11_1).f2)) ∧ w'.cell? ⟨(ad915.add ((x11_1).toNat * 6)).block, (ad915.add ((x11_1).toNat * 6)).off + 3, none⟩ = some (.string ((rd_T32 y905 x11_1).f3)) ∧ w'.cell? ⟨(ad915.add ((x11_1).toNat * 6)).block, (ad915.add ((x11_1).toNat * 6)).off + 4, none⟩ = some (.string ((rd_T32 y905 x11_1).f4)) ∧ w'.cell? ⟨(ad915.add ((x11_1).toNat * 6)).block, (ad915.add ((x11_1).toNat * 6)).off + 5, none⟩ = some (.int .u64 ((rd_T32 y905 x11_1).f5)) ∧ w'.cell? (ad918.add ((x12_2).toNat * 6)) = some (.int .u8 ((rd_T32 y909 x12_2).f0)) ∧ w'.cell? ⟨(ad918.add ((x12_2).toNat * 6)).block, (ad918.add ((x12_2).toNat * 6)).off + 1, none⟩ = some (.int .i64 ((rd_T32 y909 x12_2).f1)) ∧ w'.cell? ⟨(ad918.add ((x12_2).toNat * 6)).block, (ad918.add ((x12_2).toNat * 6)).off + 2, none⟩ = some (.string ((rd_T32 y909 x12_2).f2)) ∧ w'.cell? ⟨(ad918.add ((x12_2).toNat * 6)).block, (ad918.add ((x12_2).toNat * 6)).off + 3, none⟩ = some (.string ((rd_T32 y909 x12_2).f3)) ∧ w'.cell? ⟨(ad918.add ((x12_2).toNat * 6)).block, (ad918.add ((x12_2).toNat * 6)).off + 4, none⟩ = some (.string ((rd_T32 y909 x12_2).f4)) ∧ w'.cell? ⟨(ad918.add ((x12_2).toNat * 6)).block, (ad918.add ((x12_2).toNat * 6)).off + 5, none⟩ = some (.int .u64 ((rd_T32 y909 x12_2).f5))) ∧ (w'.heap[s_]? = some (.cells #[.string (⟨#[]⟩ : BA), .string (⟨#[]⟩ : BA)] 28 (0, 0))) ∧ (w.heap.size ≤ s_) ∧ (w.heap.size ≤ s_) ∧ (Below w.heap.size w w')) ?_ ?_
                rotate_left
                ·intro hCont
                 refine two_ (i := 4) (j := 14) (Ni := some 52) (Nj := some 13) #[YY,YY,YY,YY,YY,YY,YY,YY,YY,ZZ,ZZ,ZZ,ZZ,ZZ,ZZ,ZZ,ZZ] #[YY,YY,YY,YY,ZZ,YY,YY,YY,YY,ZZ,ZZ,ZZ,ZZ,ZZ,YY,ZZ,ZZ] rfl rfl rfl rfl (two_of HT_.out (by kernel_rfl)) (by decide) (by decide) (fun K hK => ?_) (fun K hK => ?_)
                 ·skip
                  refine goes_ Try.func51 (by kernel_rfl) rfl #[.agg #[.int .u8 ((rd_T32 y905 x11_1).f0), .int .i64 ((rd_T32 y905 x11_1).f1), .string ((rd_T32 y905 x11_1).f2), .string ((rd_T32 y905 x11_1).f3), .string ((rd_T32 y905 x11_1).f4), .int .u64 ((rd_T32 y905 x11_1).f5)]] (by rfl) rfl rfl mS_ ?_
                  with_reducible refine (catchmentref04_Span.calls ((rd_T32 y905 x11_1).f0) ((rd_T32 y905 x11_1).f1) ((rd_T32 y905 x11_1).f2) ((rd_T32 y905 x11_1).f3) ((rd_T32 y905 x11_1).f4) ((rd_T32 y905 x11_1).f5) t916 t917 _ A28.out).mono ?_
                  rintro e w42 ⟨rfl, hb⟩
                  refine ⟨_, rfl, ?_⟩
                  have n0_ := Aside0.mk (wT bW_ hb)
                  clear HB
                  have HB := n0_
                  clear n0_
                  (try clear hb)
                  (try clear hb2)
                  (try clear hk)
                  (try clear hi)
                  refine hK.out _ _ ⟨((HB.out.cell (World.block_lt_of_cell? w _ hw915_0)).trans hw915_0), ((HB.out.cell (World.block_lt_of_cell? w _ hw915_1)).trans hw915_1), ((HB.out.cell (World.block_lt_of_cell? w _ hw915_2)).trans hw915_2), ((HB.out.cell (World.block_lt_of_cell? w _ hw915_3)).trans hw915_3), ((HB.out.cell (World.block_lt_of_cell? w _ hw915_4)).trans hw915_4), ((HB.out.cell (World.block_lt_of_cell? w _ hw915_5)).trans hw915_5), ((HB.out.cell (World.block_lt_of_cell? w _ hw918_0)).trans hw918_0), ((HB.out.cell (World.block_lt_of_cell? w _ hw918_1)).trans hw918_1), ((HB.out.cell (World.block_lt_of_cell? w _ hw918_2)).trans hw918_2), ((HB.out.cell (World.block_lt_of_cell? w _ hw918_3)).trans hw918_3), ((HB.out.cell (World.block_lt_of_cell? w _ hw918_4)).trans hw918_4), ((HB.out.cell (World.block_lt_of_cell? w _ hw918_5)).trans hw918_5)⟩ (fun hHeld => ?_)
                  clear hK K
                  refine norm_ (a' := ?_) ?_ ?_
                  rotate_left
                  ·show Act.put _ (some 52) _ = _
                   simp only [Act.put, sA1, sA2, sA3, i64_w, i32_w]
                   rfl
                  refine two_ (i := 9) (j := 14) (Ni := some 57) (Nj := some 13) #[YY,YY,YY,YY,YY,YY,YY,YY,YY,YY,ZZ,ZZ,ZZ,ZZ,ZZ,ZZ,ZZ] #[YY,YY,YY,YY,YY,YY,YY,YY,YY,ZZ,ZZ,ZZ,ZZ,ZZ,YY,ZZ,ZZ] rfl rfl rfl rfl (two_of HT_.out (by kernel_rfl)) (by decide) (by decide) (fun K hK => ?_) (fun K hK => ?_)
                  ·skip
                   refine goes_ Try.func51 (by kernel_rfl) rfl #[.agg #[.int .u8 ((rd_T32 y909 x12_2).f0), .int .i64 ((rd_T32 y909 x12_2).f1), .string ((rd_T32 y909 x12_2).f2), .string ((rd_T32 y909 x12_2).f3), .string ((rd_T32 y909 x12_2).f4), .int .u64 ((rd_T32 y909 x12_2).f5)]] (by rfl) rfl rfl mS_ ?_
                   with_reducible refine (catchmentref04_Span.calls ((rd_T32 y909 x12_2).f0) ((rd_T32 y909 x12_2).f1) ((rd_T32 y909 x12_2).f2) ((rd_T32 y909 x12_2).f3) ((rd_T32 y909 x12_2).f4) ((rd_T32 y909 x12_2).f5) t919 t920 _ A30.out).mono ?_
                   rintro e w43 ⟨rfl, hb⟩
                   refine ⟨_, rfl, ?_⟩
                   have n0_ := Aside0.mk (wT bW_ hb)
                   clear HB
                   have HB := n0_
                   clear n0_
                   (try clear hb)
                   (try clear hb2)
                   (try clear hk)
                   (try clear hi)
                   refine hK.out _ _ ⟨((HB.out.cell (World.block_lt_of_cell? w _ hw915_0)).trans hw915_0), ((HB.out.cell (World.block_lt_of_cell? w _ hw915_1)).trans hw915_1), ((HB.out.cell (World.block_lt_of_cell? w _ hw915_2)).trans hw915_2), ((HB.out.cell (World.block_lt_of_cell? w _ hw915_3)).trans hw915_3), ((HB.out.cell (World.block_lt_of_cell? w _ hw915_4)).trans hw915_4), ((HB.out.cell (World.block_lt_of_cell? w _ hw915_5)).trans hw915_5), ((HB.out.cell (World.block_lt_of_cell? w _ hw918_0)).trans hw918_0), ((HB.out.cell (World.block_lt_of_cell? w _ hw918_1)).trans hw918_1), ((HB.out.cell (World.block_lt_of_cell? w _ hw918_2)).trans hw918_2), ((HB.out.cell (World.block_lt_of_cell? w _ hw918_3)).trans hw918_3), ((HB.out.cell (World.block_lt_of_cell? w _ hw918_4)).trans hw918_4), ((HB.out.cell (World.block_lt_of_cell? w _ hw918_5)).trans hw918_5)⟩ (fun hHeld => ?_)
                   clear hK K
                   refine norm_ (a' := ?_) ?_ ?_
                   rotate_left
                   ·show Act.put _ (some 57) _ = _
                    simp only [Act.put, sA1, sA2, sA3, i64_w, i32_w]
                    rfl
                   refine two_ (i := 10) (j := 14) (Ni := some 58) (Nj := some 13) #[YY,YY,YY,YY,YY,YY,YY,YY,YY,YY,YY,ZZ,ZZ,ZZ,ZZ,ZZ,ZZ] #[YY,YY,YY,YY,YY,YY,YY,YY,YY,YY,ZZ,ZZ,ZZ,ZZ,YY,ZZ,ZZ] rfl rfl rfl rfl (two_of HT_.out (by kernel_rfl)) (by decide) (by decide) (fun K hK => ?_) (fun K hK => ?_)
                   ·skip
                    refine goes_ Try.func50 (by kernel_rfl) rfl #[.agg #[.string t916, .string t917], .agg #[.string t919, .string t920]] (by rfl) rfl rfl mS_ ?_
                    with_reducible refine (catchmentref02_Meet.calls t916 t917 t919 t920 t921 t922 t923 _ A31.out).mono ?_
                    rintro e w44 ⟨rfl, hb⟩
                    refine ⟨_, rfl, ?_⟩
                    have n0_ := Aside0.mk (wT bW_ hb)
                    clear HB
                    have HB := n0_
                    clear n0_
                    (try clear hb)
                    (try clear hb2)
                    (try clear hk)
                    (try clear hi)
                    refine hK.out _ _ ⟨((HB.out.cell (World.block_lt_of_cell? w _ hw915_0)).trans hw915_0), ((HB.out.cell (World.block_lt_of_cell? w _ hw915_1)).trans hw915_1), ((HB.out.cell (World.block_lt_of_cell? w _ hw915_2)).trans hw915_2), ((HB.out.cell (World.block_lt_of_cell? w _ hw915_3)).trans hw915_3), ((HB.out.cell (World.block_lt_of_cell? w _ hw915_4)).trans hw915_4), ((HB.out.cell (World.block_lt_of_cell? w _ hw915_5)).trans hw915_5), ((HB.out.cell (World.block_lt_of_cell? w _ hw918_0)).trans hw918_0), ((HB.out.cell (World.block_lt_of_cell? w _ hw918_1)).trans hw918_1), ((HB.out.cell (World.block_lt_of_cell? w _ hw918_2)).trans hw918_2), ((HB.out.cell (World.block_lt_of_cell? w _ hw918_3)).trans hw918_3), ((HB.out.cell (World.block_lt_of_cell? w _ hw918_4)).trans hw918_4), ((HB.out.cell (World.block_lt_of_cell? w _ hw918_5)).trans hw918_5)⟩ (fun hHeld => ?_)
                    clear hK K
                    refine norm_ (a' := ?_) ?_ ?_
                    rotate_left
                    ·show Act.put _ (some 58) _ = _
                     simp only [Act.put, sA1, sA2, sA3, i64_w, i32_w]
                     rfl
                    refine pU_ 11 47 #[YY,YY,YY,YY,YY,YY,YY,YY,YY,YY,YY,YY,ZZ,ZZ,ZZ,ZZ,ZZ] ?_
                    refine pU_ 12 59 #[YY,YY,YY,YY,YY,YY,YY,YY,YY,YY,YY,YY,YY,ZZ,ZZ,ZZ,ZZ] ?_
                    refine pU_ 13 60 #[YY,YY,YY,YY,YY,YY,YY,YY,YY,YY,YY,YY,YY,YY,ZZ,ZZ,ZZ] ?_
                    refine one_ (i := 14) (N := some 13) #[YY,YY,YY,YY,YY,YY,YY,YY,YY,YY,YY,YY,YY,YY,YY,ZZ,ZZ] rfl rfl (one_of HT_.out (by kernel_rfl)) (by decide) (fun K hK => ?_)
                    refine box_step ?hg (N := 13) ?hd (cs := #[.string (⟨#[]⟩ : BA), .string (⟨#[]⟩ : BA)]) (t := 28) ?hr ?_; (case hd => rfl); (case hg => rfl); (case hr => first | (go_simp; done) | (go_simp; rfl))
                    intro gb924 hg w45 hbox hb
                    have n0_ := Aside0.mk (wT bW_ hb)
                    have n1_ := Aside0.mk (hbox)
                    have n2_ := Aside0.mk ((by rw [hg]; exact (wZ bW_) : w.heap.size ≤ gb924))
                    have n3_ := Aside0.mk ((by rw [hg]; exact (wZ bW_) : w.heap.size ≤ gb924))
                    clear HB
                    have HB := n0_
                    have BK924 := n1_
                    have GW924 := n2_
                    have GE924 := n3_
                    clear n0_ n1_ n2_ n3_
                    clear hb hbox hg
                    refine hK.out _ _ ⟨((HB.out.cell (World.block_lt_of_cell? w _ hw915_0)).trans hw915_0), ((HB.out.cell (World.block_lt_of_cell? w _ hw915_1)).trans hw915_1), ((HB.out.cell (World.block_lt_of_cell? w _ hw915_2)).trans hw915_2), ((HB.out.cell (World.block_lt_of_cell? w _ hw915_3)).trans hw915_3), ((HB.out.cell (World.block_lt_of_cell? w _ hw915_4)).trans hw915_4), ((HB.out.cell (World.block_lt_of_cell? w _ hw915_5)).trans hw915_5), ((HB.out.cell (World.block_lt_of_cell? w _ hw918_0)).trans hw918_0), ((HB.out.cell (World.block_lt_of_cell? w _ hw918_1)).trans hw918_1), ((HB.out.cell (World.block_lt_of_cell? w _ hw918_2)).trans hw918_2), ((HB.out.cell (World.block_lt_of_cell? w _ hw918_3)).trans hw918_3), ((HB.out.cell (World.block_lt_of_cell? w _ hw918_4)).trans hw918_4), ((HB.out.cell (World.block_lt_of_cell? w _ hw918_5)).trans hw918_5)⟩ (fun hHeld => ?_)
                    clear hK K
                    refine norm_ (a' := ?_) ?_ ?_
                    rotate_left
                    ·show Act.put _ (some 13) _ = _
                     simp only [Act.put, sA1, sA2, sA3, i64_w, i32_w]
                     rfl
                    exact norm_ (by simp only [putAll, Act.put, sA1, sA2, sA3]) (hCont (gb924) _ ⟨hHeld, (bX_ BK924.out), GW924.out, GE924.out, (bS1_ GE924.out)⟩)
                   ·skip
                    refine box_step ?hg (N := 13) ?hd (cs := #[.string (⟨#[]⟩ : BA), .string (⟨#[]⟩ : BA)]) (t := 28) ?hr ?_; (case hd => rfl); (case hg => rfl); (case hr => first | (go_simp; done) | (go_simp; rfl))
                    intro gb924 hg w44 hbox hb
                    have n0_ := Aside0.mk (wT bW_ hb)
                    have n1_ := Aside0.mk (hbox)
                    have n2_ := Aside0.mk ((by rw [hg]; exact (wZ bW_) : w.heap.size ≤ gb924))
                    have n3_ := Aside0.mk ((by rw [hg]; exact (wZ bW_) : w.heap.size ≤ gb924))
                    clear HB
                    have HB := n0_
                    have BK924 := n1_
                    have GW924 := n2_
                    have GE924 := n3_
                    clear n0_ n1_ n2_ n3_
                    clear hb hbox hg
                    refine hK.out _ _ ⟨((HB.out.cell (World.block_lt_of_cell? w _ hw915_0)).trans hw915_0), ((HB.out.cell (World.block_lt_of_cell? w _ hw915_1)).trans hw915_1), ((HB.out.cell (World.block_lt_of_cell? w _ hw915_2)).trans hw915_2), ((HB.out.cell (World.block_lt_of_cell? w _ hw915_3)).trans hw915_3), ((HB.out.cell (World.block_lt_of_cell? w _ hw915_4)).trans hw915_4), ((HB.out.cell (World.block_lt_of_cell? w _ hw915_5)).trans hw915_5), ((HB.out.cell (World.block_lt_of_cell? w _ hw918_0)).trans hw918_0), ((HB.out.cell (World.block_lt_of_cell? w _ hw918_1)).trans hw918_1), ((HB.out.cell (World.block_lt_of_cell? w _ hw918_2)).trans hw918_2), ((HB.out.cell (World.block_lt_of_cell? w _ hw918_3)).trans hw918_3), ((HB.out.cell (World.block_lt_of_cell? w _ hw918_4)).trans hw918_4), ((HB.out.cell (World.block_lt_of_cell? w _ hw918_5)).trans hw918_5)⟩ (fun hHeld => ?_)
                    clear hK K
                    refine norm_ (a' := ?_) ?_ ?_
                    rotate_left
                    ·show Act.put _ (some 13) _ = _
                     simp only [Act.put, sA1, sA2, sA3, i64_w, i32_w]
                     rfl
                    refine one_ (i := 10) (N := some 58) #[YY,YY,YY,YY,YY,YY,YY,YY,YY,YY,YY,ZZ,ZZ,ZZ,YY,ZZ,ZZ] rfl rfl (one_of HT_.out (by kernel_rfl)) (by decide) (fun K hK => ?_)
                    refine goes_ Try.func50 (by kernel_rfl) rfl #[.agg #[.string t916, .string t917], .agg #[.string t919, .string t920]] (by rfl) rfl rfl mS_ ?_
                    with_reducible refine (catchmentref02_Meet.calls t916 t917 t919 t920 t921 t922 t923 _ A31.out).mono ?_
                    rintro e w45 ⟨rfl, hb⟩
                    refine ⟨_, rfl, ?_⟩
                    have n0_ := Aside0.mk (bB (bX_ BK924.out) hb)
                    have n1_ := Aside0.mk (wT (bS1_ GE924.out) hb)
                    clear BK924
                    clear HB
                    have BK924 := n0_
                    have HB := n1_
                    clear n0_ n1_
                    (try clear hb)
                    (try clear hb2)
                    (try clear hk)
                    (try clear hi)
                    refine hK.out _ _ ⟨((HB.out.cell (World.block_lt_of_cell? w _ hw915_0)).trans hw915_0), ((HB.out.cell (World.block_lt_of_cell? w _ hw915_1)).trans hw915_1), ((HB.out.cell (World.block_lt_of_cell? w _ hw915_2)).trans hw915_2), ((HB.out.cell (World.block_lt_of_cell? w _ hw915_3)).trans hw915_3), ((HB.out.cell (World.block_lt_of_cell? w _ hw915_4)).trans hw915_4), ((HB.out.cell (World.block_lt_of_cell? w _ hw915_5)).trans hw915_5), ((HB.out.cell (World.block_lt_of_cell? w _ hw918_0)).trans hw918_0), ((HB.out.cell (World.block_lt_of_cell? w _ hw918_1)).trans hw918_1), ((HB.out.cell (World.block_lt_of_cell? w _ hw918_2)).trans hw918_2), ((HB.out.cell (World.block_lt_of_cell? w _ hw918_3)).trans hw918_3), ((HB.out.cell (World.block_lt_of_cell? w _ hw918_4)).trans hw918_4), ((HB.out.cell (World.block_lt_of_cell? w _ hw918_5)).trans hw918_5)⟩ (fun hHeld => ?_)
                    clear hK K
                    refine norm_ (a' := ?_) ?_ ?_
                    rotate_left
                    ·show Act.put _ (some 58) _ = _
                     simp only [Act.put, sA1, sA2, sA3, i64_w, i32_w]
                     rfl
                    refine pU_ 11 47 #[YY,YY,YY,YY,YY,YY,YY,YY,YY,YY,YY,YY,ZZ,ZZ,YY,ZZ,ZZ] ?_
                    refine pU_ 12 59 #[YY,YY,YY,YY,YY,YY,YY,YY,YY,YY,YY,YY,YY,ZZ,YY,ZZ,ZZ] ?_
                    refine pU_ 13 60 #[YY,YY,YY,YY,YY,YY,YY,YY,YY,YY,YY,YY,YY,YY,YY,ZZ,ZZ] ?_
                    exact norm_ (by simp only [putAll, Act.put, sA1, sA2, sA3]) (hCont (gb924) _ ⟨hHeld, (bX_ BK924.out), GW924.out, GE924.out, (bS1_ GE924.out)⟩)
                  ·skip
                   refine box_step ?hg (N := 13) ?hd (cs := #[.string (⟨#[]⟩ : BA), .string (⟨#[]⟩ : BA)]) (t := 28) ?hr ?_; (case hd => rfl); (case hg => rfl); (case hr => first | (go_simp; done) | (go_simp; rfl))
                   intro gb924 hg w43 hbox hb
                   have n0_ := Aside0.mk (wT bW_ hb)
                   have n1_ := Aside0.mk (hbox)
                   have n2_ := Aside0.mk ((by rw [hg]; exact (wZ bW_) : w.heap.size ≤ gb924))
                   have n3_ := Aside0.mk ((by rw [hg]; exact (wZ bW_) : w.heap.size ≤ gb924))
                   clear HB
                   have HB := n0_
                   have BK924 := n1_
                   have GW924 := n2_
                   have GE924 := n3_
                   clear n0_ n1_ n2_ n3_
                   clear hb hbox hg
                   refine hK.out _ _ ⟨((HB.out.cell (World.block_lt_of_cell? w _ hw915_0)).trans hw915_0), ((HB.out.cell (World.block_lt_of_cell? w _ hw915_1)).trans hw915_1), ((HB.out.cell (World.block_lt_of_cell? w _ hw915_2)).trans hw915_2), ((HB.out.cell (World.block_lt_of_cell? w _ hw915_3)).trans hw915_3), ((HB.out.cell (World.block_lt_of_cell? w _ hw915_4)).trans hw915_4), ((HB.out.cell (World.block_lt_of_cell? w _ hw915_5)).trans hw915_5), ((HB.out.cell (World.block_lt_of_cell? w _ hw918_0)).trans hw918_0), ((HB.out.cell (World.block_lt_of_cell? w _ hw918_1)).trans hw918_1), ((HB.out.cell (World.block_lt_of_cell? w _ hw918_2)).trans hw918_2), ((HB.out.cell (World.block_lt_of_cell? w _ hw918_3)).trans hw918_3), ((HB.out.cell (World.block_lt_of_cell? w _ hw918_4)).trans hw918_4), ((HB.out.cell (World.block_lt_of_cell? w _ hw918_5)).trans hw918_5)⟩ (fun hHeld => ?_)
                   clear hK K
                   refine norm_ (a' := ?_) ?_ ?_
                   rotate_left
                   ·show Act.put _ (some 13) _ = _
                    simp only [Act.put, sA1, sA2, sA3, i64_w, i32_w]
                    rfl
                   refine one_ (i := 9) (N := some 57) #[YY,YY,YY,YY,YY,YY,YY,YY,YY,YY,ZZ,ZZ,ZZ,ZZ,YY,ZZ,ZZ] rfl rfl (one_of HT_.out (by kernel_rfl)) (by decide) (fun K hK => ?_)
                   refine goes_ Try.func51 (by kernel_rfl) rfl #[.agg #[.int .u8 ((rd_T32 y909 x12_2).f0), .int .i64 ((rd_T32 y909 x12_2).f1), .string ((rd_T32 y909 x12_2).f2), .string ((rd_T32 y909 x12_2).f3), .string ((rd_T32 y909 x12_2).f4), .int .u64 ((rd_T32 y909 x12_2).f5)]] (by rfl) rfl rfl mS_ ?_
                   with_reducible refine (catchmentref04_Span.calls ((rd_T32 y909 x12_2).f0) ((rd_T32 y909 x12_2).f1) ((rd_T32 y909 x12_2).f2) ((rd_T32 y909 x12_2).f3) ((rd_T32 y909 x12_2).f4) ((rd_T32 y909 x12_2).f5) t919 t920 _ A30.out).mono ?_
                   rintro e w44 ⟨rfl, hb⟩
                   refine ⟨_, rfl, ?_⟩
                   have n0_ := Aside0.mk (bB (bX_ BK924.out) hb)
                   have n1_ := Aside0.mk (wT (bS1_ GE924.out) hb)
                   clear BK924
                   clear HB
                   have BK924 := n0_
                   have HB := n1_
                   clear n0_ n1_
                   (try clear hb)
                   (try clear hb2)
                   (try clear hk)
                   (try clear hi)
                   refine hK.out _ _ ⟨((HB.out.cell (World.block_lt_of_cell? w _ hw915_0)).trans hw915_0), ((HB.out.cell (World.block_lt_of_cell? w _ hw915_1)).trans hw915_1), ((HB.out.cell (World.block_lt_of_cell? w _ hw915_2)).trans hw915_2), ((HB.out.cell (World.block_lt_of_cell? w _ hw915_3)).trans hw915_3), ((HB.out.cell (World.block_lt_of_cell? w _ hw915_4)).trans hw915_4), ((HB.out.cell (World.block_lt_of_cell? w _ hw915_5)).trans hw915_5), ((HB.out.cell (World.block_lt_of_cell? w _ hw918_0)).trans hw918_0), ((HB.out.cell (World.block_lt_of_cell? w _ hw918_1)).trans hw918_1), ((HB.out.cell (World.block_lt_of_cell? w _ hw918_2)).trans hw918_2), ((HB.out.cell (World.block_lt_of_cell? w _ hw918_3)).trans hw918_3), ((HB.out.cell (World.block_lt_of_cell? w _ hw918_4)).trans hw918_4), ((HB.out.cell (World.block_lt_of_cell? w _ hw918_5)).trans hw918_5)⟩ (fun hHeld => ?_)
                   clear hK K
                   refine norm_ (a' := ?_) ?_ ?_
                   rotate_left
                   ·show Act.put _ (some 57) _ = _
                    simp only [Act.put, sA1, sA2, sA3, i64_w, i32_w]
                    rfl
                   refine one_ (i := 10) (N := some 58) #[YY,YY,YY,YY,YY,YY,YY,YY,YY,YY,YY,ZZ,ZZ,ZZ,YY,ZZ,ZZ] rfl rfl (one_of HT_.out (by kernel_rfl)) (by decide) (fun K hK => ?_)
                   refine goes_ Try.func50 (by kernel_rfl) rfl #[.agg #[.string t916, .string t917], .agg #[.string t919, .string t920]] (by rfl) rfl rfl mS_ ?_
                   with_reducible refine (catchmentref02_Meet.calls t916 t917 t919 t920 t921 t922 t923 _ A31.out).mono ?_
                   rintro e w45 ⟨rfl, hb⟩
                   refine ⟨_, rfl, ?_⟩
                   have n0_ := Aside0.mk (bB (bX_ BK924.out) hb)
                   have n1_ := Aside0.mk (wT (bS1_ GE924.out) hb)
                   clear BK924
                   clear HB
                   have BK924 := n0_
                   have HB := n1_
                   clear n0_ n1_
                   (try clear hb)
                   (try clear hb2)
                   (try clear hk)
                   (try clear hi)
                   refine hK.out _ _ ⟨((HB.out.cell (World.block_lt_of_cell? w _ hw915_0)).trans hw915_0), ((HB.out.cell (World.block_lt_of_cell? w _ hw915_1)).trans hw915_1), ((HB.out.cell (World.block_lt_of_cell? w _ hw915_2)).trans hw915_2), ((HB.out.cell (World.block_lt_of_cell? w _ hw915_3)).trans hw915_3), ((HB.out.cell (World.block_lt_of_cell? w _ hw915_4)).trans hw915_4), ((HB.out.cell (World.block_lt_of_cell? w _ hw915_5)).trans hw915_5), ((HB.out.cell (World.block_lt_of_cell? w _ hw918_0)).trans hw918_0), ((HB.out.cell (World.block_lt_of_cell? w _ hw918_1)).trans hw918_1), ((HB.out.cell (World.block_lt_of_cell? w _ hw918_2)).trans hw918_2), ((HB.out.cell (World.block_lt_of_cell? w _ hw918_3)).trans hw918_3), ((HB.out.cell (World.block_lt_of_cell? w _ hw918_4)).trans hw918_4), ((HB.out.cell (World.block_lt_of_cell? w _ hw918_5)).trans hw918_5)⟩ (fun hHeld => ?_)
                   clear hK K
                   refine norm_ (a' := ?_) ?_ ?_
                   rotate_left
                   ·show Act.put _ (some 58) _ = _
                    simp only [Act.put, sA1, sA2, sA3, i64_w, i32_w]
                    rfl
                   refine pU_ 11 47 #[YY,YY,YY,YY,YY,YY,YY,YY,YY,YY,YY,YY,ZZ,ZZ,YY,ZZ,ZZ] ?_
                   refine pU_ 12 59 #[YY,YY,YY,YY,YY,YY,YY,YY,YY,YY,YY,YY,YY,ZZ,YY,ZZ,ZZ] ?_
                   refine pU_ 13 60 #[YY,YY,YY,YY,YY,YY,YY,YY,YY,YY,YY,YY,YY,YY,YY,ZZ,ZZ] ?_
                   exact norm_ (by simp only [putAll, Act.put, sA1, sA2, sA3]) (hCont (gb924) _ ⟨hHeld, (bX_ BK924.out), GW924.out, GE924.out, (bS1_ GE924.out)⟩)
                 ·skip
                  refine box_step ?hg (N := 13) ?hd (cs := #[.string (⟨#[]⟩ : BA), .string (⟨#[]⟩ : BA)]) (t := 28) ?hr ?_; (case hd => rfl); (case hg => rfl); (case hr => first | (go_simp; done) | (go_simp; rfl))
                  intro gb924 hg w42 hbox hb
                  have n0_ := Aside0.mk (wT bW_ hb)
                  have n1_ := Aside0.mk (hbox)
                  have n2_ := Aside0.mk ((by rw [hg]; exact (wZ bW_) : w.heap.size ≤ gb924))
                  have n3_ := Aside0.mk ((by rw [hg]; exact (wZ bW_) : w.heap.size ≤ gb924))
                  clear HB
                  have HB := n0_
                  have BK924 := n1_
                  have GW924 := n2_
                  have GE924 := n3_
                  clear n0_ n1_ n2_ n3_
                  clear hb hbox hg
                  refine hK.out _ _ ⟨((HB.out.cell (World.block_lt_of_cell? w _ hw915_0)).trans hw915_0), ((HB.out.cell (World.block_lt_of_cell? w _ hw915_1)).trans hw915_1), ((HB.out.cell (World.block_lt_of_cell? w _ hw915_2)).trans hw915_2), ((HB.out.cell (World.block_lt_of_cell? w _ hw915_3)).trans hw915_3), ((HB.out.cell (World.block_lt_of_cell? w _ hw915_4)).trans hw915_4), ((HB.out.cell (World.block_lt_of_cell? w _ hw915_5)).trans hw915_5), ((HB.out.cell (World.block_lt_of_cell? w _ hw918_0)).trans hw918_0), ((HB.out.cell (World.block_lt_of_cell? w _ hw918_1)).trans hw918_1), ((HB.out.cell (World.block_lt_of_cell? w _ hw918_2)).trans hw918_2), ((HB.out.cell (World.block_lt_of_cell? w _ hw918_3)).trans hw918_3), ((HB.out.cell (World.block_lt_of_cell? w _ hw918_4)).trans hw918_4), ((HB.out.cell (World.block_lt_of_cell? w _ hw918_5)).trans hw918_5)⟩ (fun hHeld => ?_)
                  clear hK K
                  refine norm_ (a' := ?_) ?_ ?_
                  rotate_left
                  ·show Act.put _ (some 13) _ = _
                   simp only [Act.put, sA1, sA2, sA3, i64_w, i32_w]
                   rfl
                  refine one_ (i := 4) (N := some 52) #[YY,YY,YY,YY,YY,YY,YY,YY,YY,ZZ,ZZ,ZZ,ZZ,ZZ,YY,ZZ,ZZ] rfl rfl (one_of HT_.out (by kernel_rfl)) (by decide) (fun K hK => ?_)
                  refine goes_ Try.func51 (by kernel_rfl) rfl #[.agg #[.int .u8 ((rd_T32 y905 x11_1).f0), .int .i64 ((rd_T32 y905 x11_1).f1), .string ((rd_T32 y905 x11_1).f2), .string ((rd_T32 y905 x11_1).f3), .string ((rd_T32 y905 x11_1).f4), .int .u64 ((rd_T32 y905 x11_1).f5)]] (by rfl) rfl rfl mS_ ?_
                  with_reducible refine (catchmentref04_Span.calls ((rd_T32 y905 x11_1).f0) ((rd_T32 y905 x11_1).f1) ((rd_T32 y905 x11_1).f2) ((rd_T32 y905 x11_1).f3) ((rd_T32 y905 x11_1).f4) ((rd_T32 y905 x11_1).f5) t916 t917 _ A28.out).mono ?_
                  rintro e w43 ⟨rfl, hb⟩
                  refine ⟨_, rfl, ?_⟩
                  have n0_ := Aside0.mk (bB (bX_ BK924.out) hb)
                  have n1_ := Aside0.mk (wT (bS1_ GE924.out) hb)
                  clear BK924
                  clear HB
                  have BK924 := n0_
                  have HB := n1_
                  clear n0_ n1_
                  (try clear hb)
                  (try clear hb2)
                  (try clear hk)
                  (try clear hi)
                  refine hK.out _ _ ⟨((HB.out.cell (World.block_lt_of_cell? w _ hw915_0)).trans hw915_0), ((HB.out.cell (World.block_lt_of_cell? w _ hw915_1)).trans hw915_1), ((HB.out.cell (World.block_lt_of_cell? w _ hw915_2)).trans hw915_2), ((HB.out.cell (World.block_lt_of_cell? w _ hw915_3)).trans hw915_3), ((HB.out.cell (World.block_lt_of_cell? w _ hw915_4)).trans hw915_4), ((HB.out.cell (World.block_lt_of_cell? w _ hw915_5)).trans hw915_5), ((HB.out.cell (World.block_lt_of_cell? w _ hw918_0)).trans hw918_0), ((HB.out.cell (World.block_lt_of_cell? w _ hw918_1)).trans hw918_1), ((HB.out.cell (World.block_lt_of_cell? w _ hw918_2)).trans hw918_2), ((HB.out.cell (World.block_lt_of_cell? w _ hw918_3)).trans hw918_3), ((HB.out.cell (World.block_lt_of_cell? w _ hw918_4)).trans hw918_4), ((HB.out.cell (World.block_lt_of_cell? w _ hw918_5)).trans hw918_5)⟩ (fun hHeld => ?_)
                  clear hK K
                  refine norm_ (a' := ?_) ?_ ?_
                  rotate_left
                  ·show Act.put _ (some 52) _ = _
                   simp only [Act.put, sA1, sA2, sA3, i64_w, i32_w]
                   rfl
                  refine one_ (i := 9) (N := some 57) #[YY,YY,YY,YY,YY,YY,YY,YY,YY,YY,ZZ,ZZ,ZZ,ZZ,YY,ZZ,ZZ] rfl rfl (one_of HT_.out (by kernel_rfl)) (by decide) (fun K hK => ?_)
                  refine goes_ Try.func51 (by kernel_rfl) rfl #[.agg #[.int .u8 ((rd_T32 y909 x12_2).f0), .int .i64 ((rd_T32 y909 x12_2).f1), .string ((rd_T32 y909 x12_2).f2), .string ((rd_T32 y909 x12_2).f3), .string ((rd_T32 y909 x12_2).f4), .int .u64 ((rd_T32 y909 x12_2).f5)]] (by rfl) rfl rfl mS_ ?_
                  with_reducible refine (catchmentref04_Span.calls ((rd_T32 y909 x12_2).f0) ((rd_T32 y909 x12_2).f1) ((rd_T32 y909 x12_2).f2) ((rd_T32 y909 x12_2).f3) ((rd_T32 y909 x12_2).f4) ((rd_T32 y909 x12_2).f5) t919 t920 _ A30.out).mono ?_
                  rintro e w44 ⟨rfl, hb⟩
                  refine ⟨_, rfl, ?_⟩
                  have n0_ := Aside0.mk (bB (bX_ BK924.out) hb)
                  have n1_ := Aside0.mk (wT (bS1_ GE924.out) hb)
                  clear BK924
                  clear HB
                  have BK924 := n0_
                  have HB := n1_
                  clear n0_ n1_
                  (try clear hb)
                  (try clear hb2)
                  (try clear hk)
                  (try clear hi)
                  refine hK.out _ _ ⟨((HB.out.cell (World.block_lt_of_cell? w _ hw915_0)).trans hw915_0), ((HB.out.cell (World.block_lt_of_cell? w _ hw915_1)).trans hw915_1), ((HB.out.cell (World.block_lt_of_cell? w _ hw915_2)).trans hw915_2), ((HB.out.cell (World.block_lt_of_cell? w _ hw915_3)).trans hw915_3), ((HB.out.cell (World.block_lt_of_cell? w _ hw915_4)).trans hw915_4), ((HB.out.cell (World.block_lt_of_cell? w _ hw915_5)).trans hw915_5), ((HB.out.cell (World.block_lt_of_cell? w _ hw918_0)).trans hw918_0), ((HB.out.cell (World.block_lt_of_cell? w _ hw918_1)).trans hw918_1), ((HB.out.cell (World.block_lt_of_cell? w _ hw918_2)).trans hw918_2), ((HB.out.cell (World.block_lt_of_cell? w _ hw918_3)).trans hw918_3), ((HB.out.cell (World.block_lt_of_cell? w _ hw918_4)).trans hw918_4), ((HB.out.cell (World.block_lt_of_cell? w _ hw918_5)).trans hw918_5)⟩ (fun hHeld => ?_)
                  clear hK K
                  refine norm_ (a' := ?_) ?_ ?_
                  rotate_left
                  ·show Act.put _ (some 57) _ = _
                   simp only [Act.put, sA1, sA2, sA3, i64_w, i32_w]
                   rfl
                  refine one_ (i := 10) (N := some 58) #[YY,YY,YY,YY,YY,YY,YY,YY,YY,YY,YY,ZZ,ZZ,ZZ,YY,ZZ,ZZ] rfl rfl (one_of HT_.out (by kernel_rfl)) (by decide) (fun K hK => ?_)
                  refine goes_ Try.func50 (by kernel_rfl) rfl #[.agg #[.string t916, .string t917], .agg #[.string t919, .string t920]] (by rfl) rfl rfl mS_ ?_
                  with_reducible refine (catchmentref02_Meet.calls t916 t917 t919 t920 t921 t922 t923 _ A31.out).mono ?_
                  rintro e w45 ⟨rfl, hb⟩
                  refine ⟨_, rfl, ?_⟩
                  have n0_ := Aside0.mk (bB (bX_ BK924.out) hb)
                  have n1_ := Aside0.mk (wT (bS1_ GE924.out) hb)
                  clear BK924
                  clear HB
                  have BK924 := n0_
                  have HB := n1_
                  clear n0_ n1_
                  (try clear hb)
                  (try clear hb2)
                  (try clear hk)
                  (try clear hi)
                  refine hK.out _ _ ⟨((HB.out.cell (World.block_lt_of_cell? w _ hw915_0)).trans hw915_0), ((HB.out.cell (World.block_lt_of_cell? w _ hw915_1)).trans hw915_1), ((HB.out.cell (World.block_lt_of_cell? w _ hw915_2)).trans hw915_2), ((HB.out.cell (World.block_lt_of_cell? w _ hw915_3)).trans hw915_3), ((HB.out.cell (World.block_lt_of_cell? w _ hw915_4)).trans hw915_4), ((HB.out.cell (World.block_lt_of_cell? w _ hw915_5)).trans hw915_5), ((HB.out.cell (World.block_lt_of_cell? w _ hw918_0)).trans hw918_0), ((HB.out.cell (World.block_lt_of_cell? w _ hw918_1)).trans hw918_1), ((HB.out.cell (World.block_lt_of_cell? w _ hw918_2)).trans hw918_2), ((HB.out.cell (World.block_lt_of_cell? w _ hw918_3)).trans hw918_3), ((HB.out.cell (World.block_lt_of_cell? w _ hw918_4)).trans hw918_4), ((HB.out.cell (World.block_lt_of_cell? w _ hw918_5)).trans hw918_5)⟩ (fun hHeld => ?_)
                  clear hK K
                  refine norm_ (a' := ?_) ?_ ?_
                  rotate_left
                  ·show Act.put _ (some 58) _ = _
                   simp only [Act.put, sA1, sA2, sA3, i64_w, i32_w]
                   rfl
                  refine pU_ 11 47 #[YY,YY,YY,YY,YY,YY,YY,YY,YY,YY,YY,YY,ZZ,ZZ,YY,ZZ,ZZ] ?_
                  refine pU_ 12 59 #[YY,YY,YY,YY,YY,YY,YY,YY,YY,YY,YY,YY,YY,ZZ,YY,ZZ,ZZ] ?_
                  refine pU_ 13 60 #[YY,YY,YY,YY,YY,YY,YY,YY,YY,YY,YY,YY,YY,YY,YY,ZZ,ZZ] ?_
                  exact norm_ (by simp only [putAll, Act.put, sA1, sA2, sA3]) (hCont (gb924) _ ⟨hHeld, (bX_ BK924.out), GW924.out, GE924.out, (bS1_ GE924.out)⟩)
                rintro gb924 w46 ⟨hS_, h0_, h1_, h2_, h3_⟩
                have n0_ : Aside0 (w46.heap[gb924]? = some (.cells #[.string (⟨#[]⟩ : BA), .string (⟨#[]⟩ : BA)] 28 (0, 0))) := ⟨h0_⟩
                have n1_ : Aside0 (w.heap.size ≤ gb924) := ⟨h1_⟩
                have n2_ : Aside0 (w.heap.size ≤ gb924) := ⟨h2_⟩
                have n3_ : Aside0 (Below w.heap.size w w46) := ⟨h3_⟩
                clear HB
                clear h0_ h1_ h2_ h3_
                have BK924 := n0_
                have GW924 := n1_
                have GE924 := n2_
                have HB := n3_
                clear n0_ n1_ n2_ n3_
                have hHeld : w46.cell? (ad915.add ((x11_1).toNat * 6)) = some (.int .u8 ((rd_T32 y905 x11_1).f0)) ∧ w46.cell? ⟨(ad915.add ((x11_1).toNat * 6)).block, (ad915.add ((x11_1).toNat * 6)).off + 1, none⟩ = some (.int .i64 ((rd_T32 y905 x11_1).f1)) ∧ w46.cell? ⟨(ad915.add ((x11_1).toNat * 6)).block, (ad915.add ((x11_1).toNat * 6)).off + 2, none⟩ = some (.string ((rd_T32 y905 x11_1).f2)) ∧ w46.cell? ⟨(ad915.add ((x11_1).toNat * 6)).block, (ad915.add ((x11_1).toNat * 6)).off + 3, none⟩ = some (.string ((rd_T32 y905 x11_1).f3)) ∧ w46.cell? ⟨(ad915.add ((x11_1).toNat * 6)).block, (ad915.add ((x11_1).toNat * 6)).off + 4, none⟩ = some (.string ((rd_T32 y905 x11_1).f4)) ∧ w46.cell? ⟨(ad915.add ((x11_1).toNat * 6)).block, (ad915.add ((x11_1).toNat * 6)).off + 5, none⟩ = some (.int .u64 ((rd_T32 y905 x11_1).f5)) ∧ w46.cell? (ad918.add ((x12_2).toNat * 6)) = some (.int .u8 ((rd_T32 y909 x12_2).f0)) ∧ w46.cell? ⟨(ad918.add ((x12_2).toNat * 6)).block, (ad918.add ((x12_2).toNat * 6)).off + 1, none⟩ = some (.int .i64 ((rd_T32 y909 x12_2).f1)) ∧ w46.cell? ⟨(ad918.add ((x12_2).toNat * 6)).block, (ad918.add ((x12_2).toNat * 6)).off + 2, none⟩ = some (.string ((rd_T32 y909 x12_2).f2)) ∧ w46.cell? ⟨(ad918.add ((x12_2).toNat * 6)).block, (ad918.add ((x12_2).toNat * 6)).off + 3, none⟩ = some (.string ((rd_T32 y909 x12_2).f3)) ∧ w46.cell? ⟨(ad918.add ((x12_2).toNat * 6)).block, (ad918.add ((x12_2).toNat * 6)).off + 4, none⟩ = some (.string ((rd_T32 y909 x12_2).f4)) ∧ w46.cell? ⟨(ad918.add ((x12_2).toNat * 6)).block, (ad918.add ((x12_2).toNat * 6)).off + 5, none⟩ = some (.int .u64 ((rd_T32 y909 x12_2).f5)) := hS_
                refine norm_ (a' := ?_) ?_ ?_
                rotate_left
                ·simp only [putAll, Act.put, sA1, sA2, sA3]
                 rfl
                refine one_ (i := 15) (N := none) #[YY,YY,YY,YY,YY,YY,YY,YY,YY,YY,YY,YY,YY,YY,YY,YY,ZZ] rfl rfl (one_of HT_.out (by kernel_rfl)) (by decide) (fun K hK => ?_)
                have hs47 : w46.cell? ⟨gb924, 0, none⟩ = some (.string (⟨#[]⟩ : BA)) := (bC BK924.out 0).trans rfl
                have hfs47 := bF BK924.out 0
                have hs48 : w46.cell? ⟨gb924, 1, none⟩ = some (.string (⟨#[]⟩ : BA)) := (bC BK924.out 1).trans rfl
                have hfs48 := bF BK924.out 1
                refine skip_ (w1 := ?_) (by rfl) rfl ?_ ?_
                rotate_left
                ·go_simp
                 rfl
                refine hK.out _ _ ⟨((cF (p := ⟨gb924, _, none⟩) (nB_ hw915_0 GW924.out) _).trans (((cF (p := ⟨gb924, _, none⟩) (nB_ hw915_0 GW924.out) _).trans (hHeld.1)))), ((cF (p := ⟨gb924, _, none⟩) (nB_ hw915_1 GW924.out) _).trans (((cF (p := ⟨gb924, _, none⟩) (nB_ hw915_1 GW924.out) _).trans (hHeld.2.1)))), ((cF (p := ⟨gb924, _, none⟩) (nB_ hw915_2 GW924.out) _).trans (((cF (p := ⟨gb924, _, none⟩) (nB_ hw915_2 GW924.out) _).trans (hHeld.2.2.1)))), ((cF (p := ⟨gb924, _, none⟩) (nB_ hw915_3 GW924.out) _).trans (((cF (p := ⟨gb924, _, none⟩) (nB_ hw915_3 GW924.out) _).trans (hHeld.2.2.2.1)))), ((cF (p := ⟨gb924, _, none⟩) (nB_ hw915_4 GW924.out) _).trans (((cF (p := ⟨gb924, _, none⟩) (nB_ hw915_4 GW924.out) _).trans (hHeld.2.2.2.2.1)))), ((cF (p := ⟨gb924, _, none⟩) (nB_ hw915_5 GW924.out) _).trans (((cF (p := ⟨gb924, _, none⟩) (nB_ hw915_5 GW924.out) _).trans (hHeld.2.2.2.2.2.1)))), ((cF (p := ⟨gb924, _, none⟩) (nB_ hw918_0 GW924.out) _).trans (((cF (p := ⟨gb924, _, none⟩) (nB_ hw918_0 GW924.out) _).trans (hHeld.2.2.2.2.2.2.1)))), ((cF (p := ⟨gb924, _, none⟩) (nB_ hw918_1 GW924.out) _).trans (((cF (p := ⟨gb924, _, none⟩) (nB_ hw918_1 GW924.out) _).trans (hHeld.2.2.2.2.2.2.2.1)))), ((cF (p := ⟨gb924, _, none⟩) (nB_ hw918_2 GW924.out) _).trans (((cF (p := ⟨gb924, _, none⟩) (nB_ hw918_2 GW924.out) _).trans (hHeld.2.2.2.2.2.2.2.2.1)))), ((cF (p := ⟨gb924, _, none⟩) (nB_ hw918_3 GW924.out) _).trans (((cF (p := ⟨gb924, _, none⟩) (nB_ hw918_3 GW924.out) _).trans (hHeld.2.2.2.2.2.2.2.2.2.1)))), ((cF (p := ⟨gb924, _, none⟩) (nB_ hw918_4 GW924.out) _).trans (((cF (p := ⟨gb924, _, none⟩) (nB_ hw918_4 GW924.out) _).trans (hHeld.2.2.2.2.2.2.2.2.2.2.1)))), ((cF (p := ⟨gb924, _, none⟩) (nB_ hw918_5 GW924.out) _).trans (((cF (p := ⟨gb924, _, none⟩) (nB_ hw918_5 GW924.out) _).trans (hHeld.2.2.2.2.2.2.2.2.2.2.2))))⟩ (fun hHeld => ?_)
                clear hK K
                refine pU_ 16 14 #[YY,YY,YY,YY,YY,YY,YY,YY,YY,YY,YY,YY,YY,YY,YY,YY,YY] ?_
                refine done_ (done_of HT_.out (by kernel_rfl)) ?_
                try go_wp2
                go_roundg k2
                case measure => have := HK1.out; have := HK2.out; omega
                case rel => exact ⟨(false), (wrap64 (x12_2 + 1)), (by first | rfl | (simp; done) | (simp [*]; done)), (by first | rfl | (simp; done) | (simp [*]; done)), H', ⟨by have := HK1.out; have := HK2.out; omega⟩, ⟨by repeat (first | (with_reducible first | exact HB.out | apply wA | apply wN | apply w1 | refine wS ?_ GE924.out) | exact HB.out)⟩⟩
              ·rw [if_neg c29] at H
               exact absurd H (by simp)
             ·rw [if_neg c27] at H
              exact absurd H (by simp)
            ·rw [if_neg c26] at H
             exact absurd H (by simp)
           ·rw [if_neg c25] at H
            have c25b0 : decide (x12_2 < (y909.length : Int)) = false := decide_eq_false c25
            clear c25
            have H' := Aside0.mk H
            clear H
            go_wp2
            go_roundg k2
            case measure => have := HK1.out; have := HK2.out; omega
            case rel => exact ⟨(x10_2), (wrap64 (x11_1 + 1)), (by first | rfl | (simp; done) | (simp [*]; done)), (by first | rfl | (simp; done) | (simp [*]; done)), H', ⟨by have := HK1.out; have := HK2.out; omega⟩, ⟨by repeat (first | (with_reducible first | exact HB.out | apply wA | apply wN | apply w1) | exact HB.out)⟩⟩
        ·rw [if_neg c24] at H
         have c24b0 : decide (x11_1 < (y905.length : Int)) = false := decide_eq_false c24
         clear c24
         have HC49 := Aside0.mk H
         clear H
         go_upto_region 14 with (fail)
         go_cut [70] (fun v70 wc => ∃ (kq : Nat) (x70_48 : Bool), v70 = .bool x70_48 ∧ Aside0 (catchmentlaw37_DeltaSwaps.j2 kq y905 y909 a2 a3 t913 x70_48 = some r) ∧ Aside0 (kq ≤ k1) ∧ Aside0 (Below w.heap.size w wc))
         case first =>
          have H := HC49.out
          clear HC49
          by_cases c50 : x10_1 = true
          ·subst c50
           have H1 : (catchmentlaw37_DeltaSwaps.j2 k1 y905 y909 a2 a3 t913 (!t913)) = some r := by rw [if_pos rfl] at H; exact H
           clear H
           have H := H1
           clear H1
           have H' := Aside0.mk H
           clear H
           go_wp2
           go_meet
           case rel => exact ⟨_, (!t913), (by first | rfl | (simp; done) | (simp [*]; done)), H', ⟨by have := HK1.out; first | omega | exact Nat.le_refl _⟩, ⟨by repeat (first | (with_reducible first | exact HB.out | apply wA | apply wN | apply w1) | exact HB.out)⟩⟩
          ·replace c50 := Bool.eq_false_iff.mpr c50
           subst c50
           have H1 : (catchmentlaw37_DeltaSwaps.j2 k1 y905 y909 a2 a3 t913 false) = some r := by rw [if_neg (show ¬ (false = true) by decide)] at H; exact H
           clear H
           have H := H1
           clear H1
           have H' := Aside0.mk H
           clear H
           go_wp2
           go_meet
           case rel => exact ⟨_, (false), (by first | rfl | (simp; done) | (simp [*]; done)), H', ⟨by have := HK1.out; first | omega | exact Nat.le_refl _⟩, ⟨by repeat (first | (with_reducible first | exact HB.out | apply wA | apply wN | apply w1) | exact HB.out)⟩⟩
         case rest =>
          clear HC49
          try clear c2
          try clear p2
          try clear c3
          try clear c5
          try clear p6
          try clear p9
          try clear q9
          try clear hx9
          try clear c24
          try clear c24b0
          try clear c25
          try clear c25b0
          try clear c26
          try clear c27
          try clear c29
          try clear c32
          try clear c50
          try clear hx915_0
          try clear hx915_1
          try clear hx915_2
          try clear hx915_3
          try clear hx915_4
          try clear hx915_5
          try clear hx918_0
          try clear hx918_1
          try clear hx918_2
          try clear hx918_3
          try clear hx918_4
          try clear hx918_5
          try clear p915
          try clear p918
          try clear q915
          try clear q918
          obtain ⟨kq, x70_48, rfl, HA, HJ48, HB⟩ := hcut
          cases kq with
          | zero => exact absurd HA.out (by simp [catchmentlaw37_DeltaSwaps.j2])
          | succ kj48 =>
           have H := HA.out
           clear HA
           simp only [catchmentlaw37_DeltaSwaps.j2] at H
           by_cases c51 : x70_48 = true
           ·subst c51
            have H1 : (some false) = some r := by rw [if_pos rfl] at H; exact H
            clear H
            have H := H1
            clear H1
            obtain rfl := Option.some.inj H
            go_wp2
            go_ret
            exact ⟨by first | rfl | (simp [errW_none, errW_some] <;> rfl) | (simp only [← hji5, ← hji8]; first | rfl | (simp [errW_none, errW_some] <;> rfl)) | (simp [*, errW_none, errW_some] <;> rfl), by repeat (first | (with_reducible first | exact HB.out | apply wA | apply wN | apply w1) | exact HB.out)⟩
           ·replace c51 := Bool.eq_false_iff.mpr c51
            subst c51
            have H1 : ((some (([] : List (S32)) : List (S32))).bind fun y925 => (if y925.length + y905.length < 1954687338268 then ((some (y925 ++ y905 : List (S32))).bind fun y928 => (if y928.length + y909.length < 1954687338268 then ((some (([] : List (S32)) : List (S32))).bind fun y934 => (if y934.length + y909.length < 1954687338268 then ((some (y934 ++ y909 : List (S32))).bind fun y937 => (if y937.length + y905.length < 1954687338268 then ((catchmentlaw37_live.f kj48).bind fun t943 => (if t943 = true then (if t913 = true then ((catchmentref06_AlikeAt.f kj48 (y928 ++ y909) (y937 ++ y905) a2 a3).bind fun t944 => (some t944)) else (some true)) else (some false))) else (none))) else (none))) else (none))) else (none))) = some r := by rw [if_neg (show ¬ (false = true) by decide)] at H; exact H
            clear H
            have H := H1
            clear H1
            obtain ⟨y925, hy925⟩ : ∃ y_ : List (S32), y_ = (([] : List (S32))) := ⟨_, rfl⟩
            replace H : (if y925.length + y905.length < 1954687338268 then ((some (y925 ++ y905 : List (S32))).bind fun y928 => (if y928.length + y909.length < 1954687338268 then ((some (([] : List (S32)) : List (S32))).bind fun y934 => (if y934.length + y909.length < 1954687338268 then ((some (y934 ++ y909 : List (S32))).bind fun y937 => (if y937.length + y905.length < 1954687338268 then ((catchmentlaw37_live.f kj48).bind fun t943 => (if t943 = true then (if t913 = true then ((catchmentref06_AlikeAt.f kj48 (y928 ++ y909) (y937 ++ y905) a2 a3).bind fun t944 => (some t944)) else (some true)) else (some false))) else (none))) else (none))) else (none))) else (none)) = some r := by first | (rw [hy925]; with_reducible exact H) | (have H2_ := (Option.bind_some _ _).symm.trans H; rw [hy925]; with_reducible exact H2_) | (have H2_ := (Option.bind_some _ _).symm.trans H; with_reducible exact H2_) | with_reducible exact H | (rw [hy925]; exact H) | exact H
            have Ny925 := Aside0.mk hy925
            clear hy925
            by_cases c52 : y925.length + y905.length < 1954687338268
            ·rw [if_pos c52] at H
             have LMc52 := Aside0.mk c52
             clear c52
             obtain ⟨y928, hy928⟩ : ∃ y_ : List (S32), y_ = (y925 ++ y905) := ⟨_, rfl⟩
             replace H : (if y928.length + y909.length < 1954687338268 then ((some (([] : List (S32)) : List (S32))).bind fun y934 => (if y934.length + y909.length < 1954687338268 then ((some (y934 ++ y909 : List (S32))).bind fun y937 => (if y937.length + y905.length < 1954687338268 then ((catchmentlaw37_live.f kj48).bind fun t943 => (if t943 = true then (if t913 = true then ((catchmentref06_AlikeAt.f kj48 (y928 ++ y909) (y937 ++ y905) a2 a3).bind fun t944 => (some t944)) else (some true)) else (some false))) else (none))) else (none))) else (none)) = some r := by first | (rw [hy928]; with_reducible exact H) | (have H2_ := (Option.bind_some _ _).symm.trans H; rw [hy928]; with_reducible exact H2_) | (have H2_ := (Option.bind_some _ _).symm.trans H; with_reducible exact H2_) | with_reducible exact H | (rw [hy928]; exact H) | exact H
             have Ny928 := Aside0.mk hy928
             clear hy928
             by_cases c53 : y928.length + y909.length < 1954687338268
             ·rw [if_pos c53] at H
              have LMc53 := Aside0.mk c53
              clear c53
              obtain ⟨y931, hy931⟩ : ∃ y_ : List (S32), y_ = (y928 ++ y909) := ⟨_, rfl⟩
              replace H : ((some (([] : List (S32)) : List (S32))).bind fun y934 => (if y934.length + y909.length < 1954687338268 then ((some (y934 ++ y909 : List (S32))).bind fun y937 => (if y937.length + y905.length < 1954687338268 then ((catchmentlaw37_live.f kj48).bind fun t943 => (if t943 = true then (if t913 = true then ((catchmentref06_AlikeAt.f kj48 y931 (y937 ++ y905) a2 a3).bind fun t944 => (some t944)) else (some true)) else (some false))) else (none))) else (none))) = some r := by first | (rw [hy931]; with_reducible exact H) | (have H2_ := (Option.bind_some _ _).symm.trans H; rw [hy931]; with_reducible exact H2_) | (have H2_ := (Option.bind_some _ _).symm.trans H; with_reducible exact H2_) | with_reducible exact H | (rw [hy931]; exact H) | exact H
              have Ny931 := Aside0.mk hy931
              clear hy931
              obtain ⟨y934, hy934⟩ : ∃ y_ : List (S32), y_ = (([] : List (S32))) := ⟨_, rfl⟩
              replace H : (if y934.length + y909.length < 1954687338268 then ((some (y934 ++ y909 : List (S32))).bind fun y937 => (if y937.length + y905.length < 1954687338268 then ((catchmentlaw37_live.f kj48).bind fun t943 => (if t943 = true then (if t913 = true then ((catchmentref06_AlikeAt.f kj48 y931 (y937 ++ y905) a2 a3).bind fun t944 => (some t944)) else (some true)) else (some false))) else (none))) else (none)) = some r := by first | (rw [hy934]; with_reducible exact H) | (have H2_ := (Option.bind_some _ _).symm.trans H; rw [hy934]; with_reducible exact H2_) | (have H2_ := (Option.bind_some _ _).symm.trans H; with_reducible exact H2_) | with_reducible exact H | (rw [hy934]; exact H) | exact H
              have Ny934 := Aside0.mk hy934
              clear hy934
              by_cases c54 : y934.length + y909.length < 1954687338268
              ·rw [if_pos c54] at H
               have LMc54 := Aside0.mk c54
               clear c54
               obtain ⟨y937, hy937⟩ : ∃ y_ : List (S32), y_ = (y934 ++ y909) := ⟨_, rfl⟩
               replace H : (if y937.length + y905.length < 1954687338268 then ((catchmentlaw37_live.f kj48).bind fun t943 => (if t943 = true then (if t913 = true then ((catchmentref06_AlikeAt.f kj48 y931 (y937 ++ y905) a2 a3).bind fun t944 => (some t944)) else (some true)) else (some false))) else (none)) = some r := by first | (rw [hy937]; with_reducible exact H) | (have H2_ := (Option.bind_some _ _).symm.trans H; rw [hy937]; with_reducible exact H2_) | (have H2_ := (Option.bind_some _ _).symm.trans H; with_reducible exact H2_) | with_reducible exact H | (rw [hy937]; exact H) | exact H
               have Ny937 := Aside0.mk hy937
               clear hy937
               by_cases c55 : y937.length + y905.length < 1954687338268
               ·rw [if_pos c55] at H
                have LMc55 := Aside0.mk c55
                clear c55
                obtain ⟨y940, hy940⟩ : ∃ y_ : List (S32), y_ = (y937 ++ y905) := ⟨_, rfl⟩
                replace H : ((catchmentlaw37_live.f kj48).bind fun t943 => (if t943 = true then (if t913 = true then ((catchmentref06_AlikeAt.f kj48 y931 y940 a2 a3).bind fun t944 => (some t944)) else (some true)) else (some false))) = some r := by first | (rw [hy940]; with_reducible exact H) | (have H2_ := (Option.bind_some _ _).symm.trans H; rw [hy940]; with_reducible exact H2_) | (have H2_ := (Option.bind_some _ _).symm.trans H; with_reducible exact H2_) | with_reducible exact H | (rw [hy940]; exact H) | exact H
                have Ny940 := Aside0.mk hy940
                clear hy940
                replace H := Option.bind_eq_some_iff.mp H
                obtain ⟨t943, A560, H⟩ := H
                replace H : (if t943 = true then (if t913 = true then ((catchmentref06_AlikeAt.f kj48 y931 y940 a2 a3).bind fun t944 => (some t944)) else (some true)) else (some false)) = some r := H
                have A56 := Aside0.mk A560
                clear A560
                by_cases c57 : t943 = true
                ·subst c57
                 have H1 : (if t913 = true then ((catchmentref06_AlikeAt.f kj48 y931 y940 a2 a3).bind fun t944 => (some t944)) else (some true)) = some r := by rw [if_pos rfl] at H; exact H
                 clear H
                 have H := H1
                 clear H1
                 by_cases c58 : t913 = true
                 ·subst c58
                  have H1 : ((catchmentref06_AlikeAt.f kj48 y931 y940 a2 a3).bind fun t944 => (some t944)) = some r := by rw [if_pos rfl] at H; exact H
                  clear H
                  have H := H1
                  clear H1
                  replace H := Option.bind_eq_some_iff.mp H
                  obtain ⟨t944, A590, H⟩ := H
                  replace H : (some t944) = some r := H
                  have A59 := Aside0.mk A590
                  clear A590
                  obtain rfl := Option.some.inj H
                  go_wp2_with (first | ((with_reducible refine gate_dst (N := 71) rfl ?_); refine Kd.R_lit k32 _ 32 ?hg (N := 71) ?hd (xs := ([] : List (S32))) (inner := []) (ok := fun _ => True) (okp := fun _ => True) ?hr ?hp (fun _ hk => hk) trivial (Below.refl _ _) (Nat.le_refl _) (by simp) ?_; (case hd => rfl); (case hg => rfl); (case hr => first | (go_simp; done) | (go_simp; rfl)); (case hp => exact (Reps.none _ _)); intro v926 w60 ho61 hb hg_ hnew_; clear hg_ hnew_; (first | rw [← Ny925.out] at ho61 | (simp only [Int.reduceToNat] at ho61; rw [← Ny925.out] at ho61)); have n0_ := Aside0.mk (Kd.R_lower ho61 (wZ bW_)); have n1_ := Aside0.mk (wT bW_ hb); clear HB; have HO927 := n0_; have HB := n1_; clear n0_ n1_; clear hb ho61) | ((with_reducible refine gate_builtin (b := .append) (xs := #[.tmp 71, .tmp 72]) rfl ?_); at_builtin; refine Kd.R_append_rows k32 (w0 := w) w.heap.size rfl (.tmp 71) (.tmp 72) 22 32 (.agg #[(.int .u8 0), (.int .i64 0), (.string ⟨#[]⟩), (.string ⟨#[]⟩), (.string ⟨#[]⟩), (.int .u64 0)]) 72 rfl Try.underlying22 info32 rfl (by decide) (by omega) v926 y925 y905 _ _ _ (fun _ => True) (fun _ => False) rfl rfl ?aO ?aR (fun _ _ h => h) (fun _ h => h.elim) ?aF ?aB ?aS ?aL ?_; (case aR => repeat (first | exact (Kd.C_below HR908.out HB.out) | (with_reducible refine Kd.C_alloc ?_ _) | (with_reducible refine Kd.C_drewN ?_ _) | (with_reducible refine Kd.C_drew ?_))); (case aB => exact bW_); (case aF => exact (fun _ _ => trivial)); (case aO => exact (kR_ HO927.out)); (case aS => exact (wZ bW_)); (case aL => have := LMc52.out; omega); intro v929 w62 ho hb hg hat; rw [← Ny928.out] at ho; have n0_ := Aside0.mk (hb); have n1_ := Aside0.mk (ho); clear HB; clear HO927; have HB := n0_; have HO930 := n1_; clear n0_ n1_; clear ho hb hg hat) | ((with_reducible refine gate_builtin (b := .append) (xs := #[.tmp 73, .tmp 74]) rfl ?_); at_builtin; refine Kd.R_append_rows k32 (w0 := w) w.heap.size rfl (.tmp 73) (.tmp 74) 22 32 (.agg #[(.int .u8 0), (.int .i64 0), (.string ⟨#[]⟩), (.string ⟨#[]⟩), (.string ⟨#[]⟩), (.int .u64 0)]) 72 rfl Try.underlying22 info32 rfl (by decide) (by omega) v929 y928 y909 _ _ _ (fun _ => True) (fun _ => False) rfl rfl ?aO ?aR (fun _ _ h => h) (fun _ h => h.elim) ?aF ?aB ?aS ?aL ?_; (case aR => repeat (first | exact (Kd.C_below HR912.out HB.out) | (with_reducible refine Kd.C_alloc ?_ _) | (with_reducible refine Kd.C_drewN ?_ _) | (with_reducible refine Kd.C_drew ?_))); (case aB => exact bW_); (case aF => exact (fun _ _ => trivial)); (case aO => exact (kR_ HO930.out)); (case aS => exact (wZ bW_)); (case aL => have := LMc53.out; omega); intro v932 w63 ho hb hg hat; rw [← Ny931.out] at ho; have n0_ := Aside0.mk (hb); have n1_ := Aside0.mk (ho); clear HB; clear HO930; have HB := n0_; have HO933 := n1_; clear n0_ n1_; clear ho hb hg hat) | ((with_reducible refine gate_dst (N := 76) rfl ?_); refine Kd.R_lit k32 _ 32 ?hg (N := 76) ?hd (xs := ([] : List (S32))) (inner := []) (ok := fun _ => True) (okp := fun _ => True) ?hr ?hp (fun _ hk => hk) trivial (Below.refl _ _) (Nat.le_refl _) (by simp) ?_; (case hd => rfl); (case hg => rfl); (case hr => first | (go_simp; done) | (go_simp; rfl)); (case hp => exact (Reps.none _ _)); intro v935 w64 ho65 hb hg_ hnew_; clear hg_ hnew_; (first | rw [← Ny934.out] at ho65 | (simp only [Int.reduceToNat] at ho65; rw [← Ny934.out] at ho65)); have n0_ := Aside0.mk (Kd.R_elder' (kR_ HO933.out) (Kd.R_base ho65) hb); have n1_ := Aside0.mk (Kd.R_lower (Kd.R_new' ho65 (Kd.R_lt (kR_ HO933.out))) (wZ bW_)); have n2_ := Aside0.mk (wT bW_ hb); clear HO933; clear HB; have HO933 := n0_; have HO936 := n1_; have HB := n2_; clear n0_ n1_ n2_; clear hb ho65) | ((with_reducible refine gate_builtin (b := .append) (xs := #[.tmp 76, .tmp 77]) rfl ?_); at_builtin; refine Kd.R_append_rows k32 (w0 := w) w.heap.size rfl (.tmp 76) (.tmp 77) 22 32 (.agg #[(.int .u8 0), (.int .i64 0), (.string ⟨#[]⟩), (.string ⟨#[]⟩), (.string ⟨#[]⟩), (.int .u64 0)]) 72 rfl Try.underlying22 info32 rfl (by decide) (by omega) v935 y934 y909 _ _ _ (fun k_ => some k_ ≠ (v932 : Value).ownBlock) (fun _ => False) rfl rfl ?aO ?aR (fun _ _ h => h) (fun _ h => h.elim) ?aF ?aB ?aS ?aL ?_; (case aR => repeat (first | exact (Kd.C_below HR912.out HB.out) | (with_reducible refine Kd.C_alloc ?_ _) | (with_reducible refine Kd.C_drewN ?_ _) | (with_reducible refine Kd.C_drew ?_))); (case aB => exact bW_); (case aF => exact (fun k_ hk => Kd.fresh' (Kd.R_lt (kR_ HO933.out)) k_ hk)); (case aO => exact (by (with_reducible repeat (first | apply Kd.R_alloc | apply Kd.R_drewN | apply Kd.R_drew)); exact Kd.R_mono HO936.out (fun _ hk => hk.2))); (case aS => exact (wZ bW_)); (case aL => have := LMc54.out; omega); intro v938 w66 ho hb hg hat; rw [← Ny937.out] at ho; have n0_ := Aside0.mk (Kd.R_after (ok := (fun _ => True)) (kR_ HO933.out) hg hat); have n1_ := Aside0.mk (hb); have n2_ := Aside0.mk (ho); clear HO933; clear HB; clear HO936; have HO933 := n0_; have HB := n1_; have HO939 := n2_; clear n0_ n1_ n2_; clear ho hb hg hat) | ((with_reducible refine gate_builtin (b := .append) (xs := #[.tmp 78, .tmp 79]) rfl ?_); at_builtin; refine Kd.R_append_rows k32 (w0 := w) w.heap.size rfl (.tmp 78) (.tmp 79) 22 32 (.agg #[(.int .u8 0), (.int .i64 0), (.string ⟨#[]⟩), (.string ⟨#[]⟩), (.string ⟨#[]⟩), (.int .u64 0)]) 72 rfl Try.underlying22 info32 rfl (by decide) (by omega) v938 y937 y905 _ _ _ (fun k_ => some k_ ≠ (v932 : Value).ownBlock) (fun _ => False) rfl rfl ?aO ?aR (fun _ _ h => h) (fun _ h => h.elim) ?aF ?aB ?aS ?aL ?_; (case aR => repeat (first | exact (Kd.C_below HR908.out HB.out) | (with_reducible refine Kd.C_alloc ?_ _) | (with_reducible refine Kd.C_drewN ?_ _) | (with_reducible refine Kd.C_drew ?_))); (case aB => exact bW_); (case aF => exact (fun k_ hk => Kd.fresh' (Kd.R_lt (kR_ HO933.out)) k_ hk)); (case aO => exact (kR_ HO939.out)); (case aS => exact (wZ bW_)); (case aL => have := LMc55.out; omega); intro v941 w67 ho hb hg hat; rw [← Ny940.out] at ho; have n0_ := Aside0.mk (Kd.R_after (ok := (fun _ => True)) (kR_ HO933.out) hg hat); have n1_ := Aside0.mk (hb); have n2_ := Aside0.mk (ho); clear HO933; clear HB; clear HO939; have HO933 := n0_; have HB := n1_; have HO942 := n2_; clear n0_ n1_ n2_; clear ho hb hg hat) | ((with_reducible refine gate_callee (f := 39) rfl ?_); refine goesL_ (some 81) rfl rfl Try.func39 (by kernel_rfl) rfl #[] rfl mS_ ?_; (with_reducible refine (catchmentlaw37_live.calls kj48  true _ A56.out).mono ?_); rintro e w68 ⟨rfl, hb⟩; refine ⟨_, rfl, ?_⟩; have n0_ := Aside0.mk (Kd.R_below (kR_ HO933.out) hb); have n1_ := Aside0.mk (Kd.R_below (kR_ HO942.out) hb); have n2_ := Aside0.mk (wT bW_ hb); clear HO933; clear HO942; clear HB; have HO933 := n0_; have HO942 := n1_; have HB := n2_; clear n0_ n1_ n2_; (try clear hb); (try clear hb2); (try clear hk); (try clear hi); obtain ⟨Ao69, co69, eo69⟩ := Kd.R_slice HO933.out; subst eo69; obtain ⟨Ao70, co70, eo70⟩ := Kd.R_slice HO942.out; subst eo70) | (go_at_call 52; (with_reducible refine (catchmentref06_AlikeAt.calls kj48 _ _ y931 _ _ y940 a2 a3 t944 _ ?side1 ?side2 ?side3 ?side4 A59.out).mono ?_); (case side1 => repeat (first | exact (Kd.R_reads' HO933.out).2.2 | (with_reducible refine Kd.C_alloc ?_ _) | (with_reducible refine Kd.C_drewN ?_ _) | (with_reducible refine Kd.C_drew ?_))); (case side2 => exact (Kd.R_reads' HO933.out).2.1); (case side3 => repeat (first | exact (Kd.R_reads' HO942.out).2.2 | (with_reducible refine Kd.C_alloc ?_ _) | (with_reducible refine Kd.C_drewN ?_ _) | (with_reducible refine Kd.C_drew ?_))); (case side4 => exact (Kd.R_reads' HO942.out).2.1); rintro e w71 ⟨rfl, hb⟩; have n0_ := Aside0.mk (Kd.R_below (kR_ HO933.out) hb); have n1_ := Aside0.mk (Kd.R_below (kR_ HO942.out) hb); have n2_ := Aside0.mk (wT bW_ hb); clear HO933; clear HO942; clear HB; have HO933 := n0_; have HO942 := n1_; have HB := n2_; clear n0_ n1_ n2_; (try clear hb); (try clear hb2); (try clear hk); (try clear hi)))
                  go_ret
                  exact ⟨by first | rfl | (simp [errW_none, errW_some] <;> rfl) | (simp only [← hji5, ← hji8]; first | rfl | (simp [errW_none, errW_some] <;> rfl)) | (simp [*, errW_none, errW_some] <;> rfl), by repeat (first | (with_reducible first | exact HB.out | apply wA | apply wN | apply w1) | exact HB.out)⟩
                 ·replace c58 := Bool.eq_false_iff.mpr c58
                  subst c58
                  have H1 : (some true) = some r := by rw [if_neg (show ¬ (false = true) by decide)] at H; exact H
                  clear H
                  have H := H1
                  clear H1
                  obtain rfl := Option.some.inj H
                  go_wp2_with (first | ((with_reducible refine gate_dst (N := 71) rfl ?_); refine Kd.R_lit k32 _ 32 ?hg (N := 71) ?hd (xs := ([] : List (S32))) (inner := []) (ok := fun _ => True) (okp := fun _ => True) ?hr ?hp (fun _ hk => hk) trivial (Below.refl _ _) (Nat.le_refl _) (by simp) ?_; (case hd => rfl); (case hg => rfl); (case hr => first | (go_simp; done) | (go_simp; rfl)); (case hp => exact (Reps.none _ _)); intro v926 w72 ho73 hb hg_ hnew_; clear hg_ hnew_; (first | rw [← Ny925.out] at ho73 | (simp only [Int.reduceToNat] at ho73; rw [← Ny925.out] at ho73)); have n0_ := Aside0.mk (Kd.R_lower ho73 (wZ bW_)); have n1_ := Aside0.mk (wT bW_ hb); clear HB; have HO927 := n0_; have HB := n1_; clear n0_ n1_; clear hb ho73) | ((with_reducible refine gate_builtin (b := .append) (xs := #[.tmp 71, .tmp 72]) rfl ?_); at_builtin; refine Kd.R_append_rows k32 (w0 := w) w.heap.size rfl (.tmp 71) (.tmp 72) 22 32 (.agg #[(.int .u8 0), (.int .i64 0), (.string ⟨#[]⟩), (.string ⟨#[]⟩), (.string ⟨#[]⟩), (.int .u64 0)]) 72 rfl Try.underlying22 info32 rfl (by decide) (by omega) v926 y925 y905 _ _ _ (fun _ => True) (fun _ => False) rfl rfl ?aO ?aR (fun _ _ h => h) (fun _ h => h.elim) ?aF ?aB ?aS ?aL ?_; (case aR => repeat (first | exact (Kd.C_below HR908.out HB.out) | (with_reducible refine Kd.C_alloc ?_ _) | (with_reducible refine Kd.C_drewN ?_ _) | (with_reducible refine Kd.C_drew ?_))); (case aB => exact bW_); (case aF => exact (fun _ _ => trivial)); (case aO => exact (kR_ HO927.out)); (case aS => exact (wZ bW_)); (case aL => have := LMc52.out; omega); intro v929 w74 ho hb hg hat; rw [← Ny928.out] at ho; have n0_ := Aside0.mk (hb); have n1_ := Aside0.mk (ho); clear HB; clear HO927; have HB := n0_; have HO930 := n1_; clear n0_ n1_; clear ho hb hg hat) | ((with_reducible refine gate_builtin (b := .append) (xs := #[.tmp 73, .tmp 74]) rfl ?_); at_builtin; refine Kd.R_append_rows k32 (w0 := w) w.heap.size rfl (.tmp 73) (.tmp 74) 22 32 (.agg #[(.int .u8 0), (.int .i64 0), (.string ⟨#[]⟩), (.string ⟨#[]⟩), (.string ⟨#[]⟩), (.int .u64 0)]) 72 rfl Try.underlying22 info32 rfl (by decide) (by omega) v929 y928 y909 _ _ _ (fun _ => True) (fun _ => False) rfl rfl ?aO ?aR (fun _ _ h => h) (fun _ h => h.elim) ?aF ?aB ?aS ?aL ?_; (case aR => repeat (first | exact (Kd.C_below HR912.out HB.out) | (with_reducible refine Kd.C_alloc ?_ _) | (with_reducible refine Kd.C_drewN ?_ _) | (with_reducible refine Kd.C_drew ?_))); (case aB => exact bW_); (case aF => exact (fun _ _ => trivial)); (case aO => exact (kR_ HO930.out)); (case aS => exact (wZ bW_)); (case aL => have := LMc53.out; omega); intro v932 w75 ho hb hg hat; rw [← Ny931.out] at ho; have n0_ := Aside0.mk (hb); have n1_ := Aside0.mk (ho); clear HB; clear HO930; have HB := n0_; have HO933 := n1_; clear n0_ n1_; clear ho hb hg hat) | ((with_reducible refine gate_dst (N := 76) rfl ?_); refine Kd.R_lit k32 _ 32 ?hg (N := 76) ?hd (xs := ([] : List (S32))) (inner := []) (ok := fun _ => True) (okp := fun _ => True) ?hr ?hp (fun _ hk => hk) trivial (Below.refl _ _) (Nat.le_refl _) (by simp) ?_; (case hd => rfl); (case hg => rfl); (case hr => first | (go_simp; done) | (go_simp; rfl)); (case hp => exact (Reps.none _ _)); intro v935 w76 ho77 hb hg_ hnew_; clear hg_ hnew_; (first | rw [← Ny934.out] at ho77 | (simp only [Int.reduceToNat] at ho77; rw [← Ny934.out] at ho77)); have n0_ := Aside0.mk (Kd.R_elder' (kR_ HO933.out) (Kd.R_base ho77) hb); have n1_ := Aside0.mk (Kd.R_lower (Kd.R_new' ho77 (Kd.R_lt (kR_ HO933.out))) (wZ bW_)); have n2_ := Aside0.mk (wT bW_ hb); clear HO933; clear HB; have HO933 := n0_; have HO936 := n1_; have HB := n2_; clear n0_ n1_ n2_; clear hb ho77) | ((with_reducible refine gate_builtin (b := .append) (xs := #[.tmp 76, .tmp 77]) rfl ?_); at_builtin; refine Kd.R_append_rows k32 (w0 := w) w.heap.size rfl (.tmp 76) (.tmp 77) 22 32 (.agg #[(.int .u8 0), (.int .i64 0), (.string ⟨#[]⟩), (.string ⟨#[]⟩), (.string ⟨#[]⟩), (.int .u64 0)]) 72 rfl Try.underlying22 info32 rfl (by decide) (by omega) v935 y934 y909 _ _ _ (fun k_ => some k_ ≠ (v932 : Value).ownBlock) (fun _ => False) rfl rfl ?aO ?aR (fun _ _ h => h) (fun _ h => h.elim) ?aF ?aB ?aS ?aL ?_; (case aR => repeat (first | exact (Kd.C_below HR912.out HB.out) | (with_reducible refine Kd.C_alloc ?_ _) | (with_reducible refine Kd.C_drewN ?_ _) | (with_reducible refine Kd.C_drew ?_))); (case aB => exact bW_); (case aF => exact (fun k_ hk => Kd.fresh' (Kd.R_lt (kR_ HO933.out)) k_ hk)); (case aO => exact (by (with_reducible repeat (first | apply Kd.R_alloc | apply Kd.R_drewN | apply Kd.R_drew)); exact Kd.R_mono HO936.out (fun _ hk => hk.2))); (case aS => exact (wZ bW_)); (case aL => have := LMc54.out; omega); intro v938 w78 ho hb hg hat; rw [← Ny937.out] at ho; have n0_ := Aside0.mk (Kd.R_after (ok := (fun _ => True)) (kR_ HO933.out) hg hat); have n1_ := Aside0.mk (hb); have n2_ := Aside0.mk (ho); clear HO933; clear HB; clear HO936; have HO933 := n0_; have HB := n1_; have HO939 := n2_; clear n0_ n1_ n2_; clear ho hb hg hat) | ((with_reducible refine gate_builtin (b := .append) (xs := #[.tmp 78, .tmp 79]) rfl ?_); at_builtin; refine Kd.R_append_rows k32 (w0 := w) w.heap.size rfl (.tmp 78) (.tmp 79) 22 32 (.agg #[(.int .u8 0), (.int .i64 0), (.string ⟨#[]⟩), (.string ⟨#[]⟩), (.string ⟨#[]⟩), (.int .u64 0)]) 72 rfl Try.underlying22 info32 rfl (by decide) (by omega) v938 y937 y905 _ _ _ (fun k_ => some k_ ≠ (v932 : Value).ownBlock) (fun _ => False) rfl rfl ?aO ?aR (fun _ _ h => h) (fun _ h => h.elim) ?aF ?aB ?aS ?aL ?_; (case aR => repeat (first | exact (Kd.C_below HR908.out HB.out) | (with_reducible refine Kd.C_alloc ?_ _) | (with_reducible refine Kd.C_drewN ?_ _) | (with_reducible refine Kd.C_drew ?_))); (case aB => exact bW_); (case aF => exact (fun k_ hk => Kd.fresh' (Kd.R_lt (kR_ HO933.out)) k_ hk)); (case aO => exact (kR_ HO939.out)); (case aS => exact (wZ bW_)); (case aL => have := LMc55.out; omega); intro v941 w79 ho hb hg hat; rw [← Ny940.out] at ho; have n0_ := Aside0.mk (Kd.R_after (ok := (fun _ => True)) (kR_ HO933.out) hg hat); have n1_ := Aside0.mk (hb); have n2_ := Aside0.mk (ho); clear HO933; clear HB; clear HO939; have HO933 := n0_; have HB := n1_; have HO942 := n2_; clear n0_ n1_ n2_; clear ho hb hg hat) | ((with_reducible refine gate_callee (f := 39) rfl ?_); refine goesL_ (some 81) rfl rfl Try.func39 (by kernel_rfl) rfl #[] rfl mS_ ?_; (with_reducible refine (catchmentlaw37_live.calls kj48  true _ A56.out).mono ?_); rintro e w80 ⟨rfl, hb⟩; refine ⟨_, rfl, ?_⟩; have n0_ := Aside0.mk (Kd.R_below (kR_ HO933.out) hb); have n1_ := Aside0.mk (Kd.R_below (kR_ HO942.out) hb); have n2_ := Aside0.mk (wT bW_ hb); clear HO933; clear HO942; clear HB; have HO933 := n0_; have HO942 := n1_; have HB := n2_; clear n0_ n1_ n2_; (try clear hb); (try clear hb2); (try clear hk); (try clear hi)))
                  go_ret
                  exact ⟨by first | rfl | (simp [errW_none, errW_some] <;> rfl) | (simp only [← hji5, ← hji8]; first | rfl | (simp [errW_none, errW_some] <;> rfl)) | (simp [*, errW_none, errW_some] <;> rfl), by repeat (first | (with_reducible first | exact HB.out | apply wA | apply wN | apply w1) | exact HB.out)⟩
                ·replace c57 := Bool.eq_false_iff.mpr c57
                 subst c57
                 have H1 : (some false) = some r := by rw [if_neg (show ¬ (false = true) by decide)] at H; exact H
                 clear H
                 have H := H1
                 clear H1
                 obtain rfl := Option.some.inj H
                 go_wp2_with (first | ((with_reducible refine gate_dst (N := 71) rfl ?_); refine Kd.R_lit k32 _ 32 ?hg (N := 71) ?hd (xs := ([] : List (S32))) (inner := []) (ok := fun _ => True) (okp := fun _ => True) ?hr ?hp (fun _ hk => hk) trivial (Below.refl _ _) (Nat.le_refl _) (by simp) ?_; (case hd => rfl); (case hg => rfl); (case hr => first | (go_simp; done) | (go_simp; rfl)); (case hp => exact (Reps.none _ _)); intro v926 w81 ho82 hb hg_ hnew_; clear hg_ hnew_; (first | rw [← Ny925.out] at ho82 | (simp only [Int.reduceToNat] at ho82; rw [← Ny925.out] at ho82)); have n0_ := Aside0.mk (Kd.R_lower ho82 (wZ bW_)); have n1_ := Aside0.mk (wT bW_ hb); clear HB; have HO927 := n0_; have HB := n1_; clear n0_ n1_; clear hb ho82) | ((with_reducible refine gate_builtin (b := .append) (xs := #[.tmp 71, .tmp 72]) rfl ?_); at_builtin; refine Kd.R_append_rows k32 (w0 := w) w.heap.size rfl (.tmp 71) (.tmp 72) 22 32 (.agg #[(.int .u8 0), (.int .i64 0), (.string ⟨#[]⟩), (.string ⟨#[]⟩), (.string ⟨#[]⟩), (.int .u64 0)]) 72 rfl Try.underlying22 info32 rfl (by decide) (by omega) v926 y925 y905 _ _ _ (fun _ => True) (fun _ => False) rfl rfl ?aO ?aR (fun _ _ h => h) (fun _ h => h.elim) ?aF ?aB ?aS ?aL ?_; (case aR => repeat (first | exact (Kd.C_below HR908.out HB.out) | (with_reducible refine Kd.C_alloc ?_ _) | (with_reducible refine Kd.C_drewN ?_ _) | (with_reducible refine Kd.C_drew ?_))); (case aB => exact bW_); (case aF => exact (fun _ _ => trivial)); (case aO => exact (kR_ HO927.out)); (case aS => exact (wZ bW_)); (case aL => have := LMc52.out; omega); intro v929 w83 ho hb hg hat; rw [← Ny928.out] at ho; have n0_ := Aside0.mk (hb); have n1_ := Aside0.mk (ho); clear HB; clear HO927; have HB := n0_; have HO930 := n1_; clear n0_ n1_; clear ho hb hg hat) | ((with_reducible refine gate_builtin (b := .append) (xs := #[.tmp 73, .tmp 74]) rfl ?_); at_builtin; refine Kd.R_append_rows k32 (w0 := w) w.heap.size rfl (.tmp 73) (.tmp 74) 22 32 (.agg #[(.int .u8 0), (.int .i64 0), (.string ⟨#[]⟩), (.string ⟨#[]⟩), (.string ⟨#[]⟩), (.int .u64 0)]) 72 rfl Try.underlying22 info32 rfl (by decide) (by omega) v929 y928 y909 _ _ _ (fun _ => True) (fun _ => False) rfl rfl ?aO ?aR (fun _ _ h => h) (fun _ h => h.elim) ?aF ?aB ?aS ?aL ?_; (case aR => repeat (first | exact (Kd.C_below HR912.out HB.out) | (with_reducible refine Kd.C_alloc ?_ _) | (with_reducible refine Kd.C_drewN ?_ _) | (with_reducible refine Kd.C_drew ?_))); (case aB => exact bW_); (case aF => exact (fun _ _ => trivial)); (case aO => exact (kR_ HO930.out)); (case aS => exact (wZ bW_)); (case aL => have := LMc53.out; omega); intro v932 w84 ho hb hg hat; rw [← Ny931.out] at ho; have n0_ := Aside0.mk (hb); have n1_ := Aside0.mk (ho); clear HB; clear HO930; have HB := n0_; have HO933 := n1_; clear n0_ n1_; clear ho hb hg hat) | ((with_reducible refine gate_dst (N := 76) rfl ?_); refine Kd.R_lit k32 _ 32 ?hg (N := 76) ?hd (xs := ([] : List (S32))) (inner := []) (ok := fun _ => True) (okp := fun _ => True) ?hr ?hp (fun _ hk => hk) trivial (Below.refl _ _) (Nat.le_refl _) (by simp) ?_; (case hd => rfl); (case hg => rfl); (case hr => first | (go_simp; done) | (go_simp; rfl)); (case hp => exact (Reps.none _ _)); intro v935 w85 ho86 hb hg_ hnew_; clear hg_ hnew_; (first | rw [← Ny934.out] at ho86 | (simp only [Int.reduceToNat] at ho86; rw [← Ny934.out] at ho86)); have n0_ := Aside0.mk (Kd.R_elder' (kR_ HO933.out) (Kd.R_base ho86) hb); have n1_ := Aside0.mk (Kd.R_lower (Kd.R_new' ho86 (Kd.R_lt (kR_ HO933.out))) (wZ bW_)); have n2_ := Aside0.mk (wT bW_ hb); clear HO933; clear HB; have HO933 := n0_; have HO936 := n1_; have HB := n2_; clear n0_ n1_ n2_; clear hb ho86) | ((with_reducible refine gate_builtin (b := .append) (xs := #[.tmp 76, .tmp 77]) rfl ?_); at_builtin; refine Kd.R_append_rows k32 (w0 := w) w.heap.size rfl (.tmp 76) (.tmp 77) 22 32 (.agg #[(.int .u8 0), (.int .i64 0), (.string ⟨#[]⟩), (.string ⟨#[]⟩), (.string ⟨#[]⟩), (.int .u64 0)]) 72 rfl Try.underlying22 info32 rfl (by decide) (by omega) v935 y934 y909 _ _ _ (fun k_ => some k_ ≠ (v932 : Value).ownBlock) (fun _ => False) rfl rfl ?aO ?aR (fun _ _ h => h) (fun _ h => h.elim) ?aF ?aB ?aS ?aL ?_; (case aR => repeat (first | exact (Kd.C_below HR912.out HB.out) | (with_reducible refine Kd.C_alloc ?_ _) | (with_reducible refine Kd.C_drewN ?_ _) | (with_reducible refine Kd.C_drew ?_))); (case aB => exact bW_); (case aF => exact (fun k_ hk => Kd.fresh' (Kd.R_lt (kR_ HO933.out)) k_ hk)); (case aO => exact (by (with_reducible repeat (first | apply Kd.R_alloc | apply Kd.R_drewN | apply Kd.R_drew)); exact Kd.R_mono HO936.out (fun _ hk => hk.2))); (case aS => exact (wZ bW_)); (case aL => have := LMc54.out; omega); intro v938 w87 ho hb hg hat; rw [← Ny937.out] at ho; have n0_ := Aside0.mk (Kd.R_after (ok := (fun _ => True)) (kR_ HO933.out) hg hat); have n1_ := Aside0.mk (hb); have n2_ := Aside0.mk (ho); clear HO933; clear HB; clear HO936; have HO933 := n0_; have HB := n1_; have HO939 := n2_; clear n0_ n1_ n2_; clear ho hb hg hat) | ((with_reducible refine gate_builtin (b := .append) (xs := #[.tmp 78, .tmp 79]) rfl ?_); at_builtin; refine Kd.R_append_rows k32 (w0 := w) w.heap.size rfl (.tmp 78) (.tmp 79) 22 32 (.agg #[(.int .u8 0), (.int .i64 0), (.string ⟨#[]⟩), (.string ⟨#[]⟩), (.string ⟨#[]⟩), (.int .u64 0)]) 72 rfl Try.underlying22 info32 rfl (by decide) (by omega) v938 y937 y905 _ _ _ (fun k_ => some k_ ≠ (v932 : Value).ownBlock) (fun _ => False) rfl rfl ?aO ?aR (fun _ _ h => h) (fun _ h => h.elim) ?aF ?aB ?aS ?aL ?_; (case aR => repeat (first | exact (Kd.C_below HR908.out HB.out) | (with_reducible refine Kd.C_alloc ?_ _) | (with_reducible refine Kd.C_drewN ?_ _) | (with_reducible refine Kd.C_drew ?_))); (case aB => exact bW_); (case aF => exact (fun k_ hk => Kd.fresh' (Kd.R_lt (kR_ HO933.out)) k_ hk)); (case aO => exact (kR_ HO939.out)); (case aS => exact (wZ bW_)); (case aL => have := LMc55.out; omega); intro v941 w88 ho hb hg hat; rw [← Ny940.out] at ho; have n0_ := Aside0.mk (Kd.R_after (ok := (fun _ => True)) (kR_ HO933.out) hg hat); have n1_ := Aside0.mk (hb); have n2_ := Aside0.mk (ho); clear HO933; clear HB; clear HO939; have HO933 := n0_; have HB := n1_; have HO942 := n2_; clear n0_ n1_ n2_; clear ho hb hg hat) | ((with_reducible refine gate_callee (f := 39) rfl ?_); refine goesL_ (some 81) rfl rfl Try.func39 (by kernel_rfl) rfl #[] rfl mS_ ?_; (with_reducible refine (catchmentlaw37_live.calls kj48  false _ A56.out).mono ?_); rintro e w89 ⟨rfl, hb⟩; refine ⟨_, rfl, ?_⟩; have n0_ := Aside0.mk (Kd.R_below (kR_ HO933.out) hb); have n1_ := Aside0.mk (Kd.R_below (kR_ HO942.out) hb); have n2_ := Aside0.mk (wT bW_ hb); clear HO933; clear HO942; clear HB; have HO933 := n0_; have HO942 := n1_; have HB := n2_; clear n0_ n1_ n2_; (try clear hb); (try clear hb2); (try clear hk); (try clear hi)))
                 go_ret
                 exact ⟨by first | rfl | (simp [errW_none, errW_some] <;> rfl) | (simp only [← hji5, ← hji8]; first | rfl | (simp [errW_none, errW_some] <;> rfl)) | (simp [*, errW_none, errW_some] <;> rfl), by repeat (first | (with_reducible first | exact HB.out | apply wA | apply wN | apply w1) | exact HB.out)⟩
               ·rw [if_neg c55] at H
                exact absurd H (by simp)
              ·rw [if_neg c54] at H
               exact absurd H (by simp)
             ·rw [if_neg c53] at H
              exact absurd H (by simp)
            ·rw [if_neg c52] at H
             exact absurd H (by simp)
    ·rw [if_neg c10] at H
     exact absurd H (by simp)
   ·rw [if_neg c9] at H
    exact absurd H (by simp)
  ·rw [if_neg c7] at H
   exact absurd H (by simp)
 ·rw [if_neg c6] at H
  exact absurd H (by simp)
end Go.Proofs.Ytebejadiaooooaa.P
end
