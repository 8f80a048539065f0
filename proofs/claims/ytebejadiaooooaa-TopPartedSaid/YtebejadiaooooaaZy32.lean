/- Texts of one claim (laid by shake.py). -/
import Derived.Test.YtebejadiaooooaaZy3
import Derived.Test.YtebejadiaooooaaZy4
import Derived.Test.YtebejadiaooooaaZy6
import Derived.Test.YtebejadiaooooaaZy10
import Derived.Test.YtebejadiaooooaaZy13
import Derived.Test.YtebejadiaooooaaZy31
set_option linter.unusedVariables false
set_option linter.unusedSimpArgs false
section
namespace Go.Proofs.Ytebejadiaooooaa.P
open Go.RowKit Go.Proofs.YtebejadiaooooaaW.PrintWords Go.Proofs.YtebejadiaooooaaW.PrintLast Go.Proofs.YtebejadiaooooaaW.PrintMore Go.Proofs.Ytebejadiaooooaa.Own
open Bool renaming true → YY, false → ZZ
open Go.Proofs.YtebejadiaooooaaW.PrintWords renaming blk_cell → bC, blk_frozen → bF, blk_drewN → bN, blk_alloc → bA, pw_below_drewN → wN, blk_drew → bD, below_drew1 → w1, below_set → wS, below_alloc → wA, blk_below → bB, below_step → wT, below_size → wZ, cell_far → cF, blk_put → bP
open List renaming setIfInBounds_toArray → sA1, set_cons_zero → sA2, set_cons_succ → sA3, map_toArray → mA1, map_cons → mA2, map_nil → mA3, length_take → mA4, length_drop → mA5
attribute [local go_sem] max2_str max2_int min2_int max_two min_two max_three min_three max_four min_four   -- for this text's walks alone
mutual
def catchmenttop_TopParted.l0 : Nat → List (S32) → List (S39) → List (S39) → List (S28) → Int → Option (Bool)
 | 0, _, _, _, _, _ => none
 | k + 1, x0, x1, x7, x8, x9 => if x9 < (x8.length : Int) then (catchmenttop_TopParted.l1 k x0 x1 x7 x8 x9 ([] : List (S32)) 0) else ((fold_Entries.f (([(⟨1, 0, (⟨#[97]⟩ : BA), (⟨#[]⟩ : BA), (⟨#[]⟩ : BA), 0⟩ : S32)] : List (S32))) ([] : List (S39)) (⟨#[]⟩ : BA) (⟨#[]⟩ : BA)).bind fun t314 => (if (t314.length : Int) = 1 then ((catchmentref05_Entries.f k x0 x1 (⟨#[]⟩ : BA) (⟨#[]⟩ : BA)).bind fun t317 => ((catchmentref05_Same.f k x7 t317).bind fun t320 => (some t320))) else (some false)))
def catchmenttop_TopParted.l1 : Nat → List (S32) → List (S39) → List (S39) → List (S28) → Int → List (S32) → Int → Option (Bool)
 | 0, _, _, _, _, _, _, _ => none
 | k + 1, x0, x1, x7, x8, x9, x10, x11 => if x11 < (x0.length : Int) then (if 0 ≤ x11 then (if 0 ≤ x9 then (if x9 < (x8.length : Int) then ((msg_Clip.f k ((rd_T32 x0 x11).f0) ((rd_T32 x0 x11).f1) ((rd_T32 x0 x11).f2) ((rd_T32 x0 x11).f3) ((rd_T32 x0 x11).f4) ((rd_T32 x0 x11).f5) ((rd_T28 x8 x9).f0) ((rd_T28 x8 x9).f1)).bind fun bt323 => (if bt323.2.2.2.2.2.2 = true then (if x10.length < 1954687338268 then (catchmenttop_TopParted.l1 k x0 x1 x7 x8 x9 (x10 ++ [(⟨bt323.1, bt323.2.1, bt323.2.2.1, bt323.2.2.2.1, bt323.2.2.2.2.1, bt323.2.2.2.2.2.1⟩ : S32)]) (wrap64 (x11 + 1))) else (none)) else (catchmenttop_TopParted.l1 k x0 x1 x7 x8 x9 x10 (wrap64 (x11 + 1))))) else (none)) else (none)) else (none)) else ((compact_List.f x10).bind fun t334 => (if 0 ≤ x9 then (if x9 < (x8.length : Int) then ((fold_Entries.f t334 x1 ((rd_T28 x8 x9).f0) ((rd_T28 x8 x9).f1)).bind fun t338 => (catchmenttop_TopParted.l2 k x0 x1 x7 x8 x9 t338 0)) else (none)) else (none)))
def catchmenttop_TopParted.l2 : Nat → List (S32) → List (S39) → List (S39) → List (S28) → Int → List (S39) → Int → Option (Bool)
 | 0, _, _, _, _, _, _, _ => none
 | k + 1, x0, x1, x7, x8, x9, x14, x15 => if x15 < (x14.length : Int) then (if 0 ≤ x9 then (if x9 < (x8.length : Int) then (if 0 ≤ x15 then ((catchmentref02_Holds.f ((rd_T28 x8 x9).f0) ((rd_T28 x8 x9).f1) ((rd_T39 x14 x15).f0)).bind fun t343 => (if t343 = true then (catchmenttop_TopParted.l2 k x0 x1 x7 x8 x9 x14 (wrap64 (x15 + 1))) else (some false))) else (none)) else (none)) else (none)) else (if x7.length + x14.length < 4398046511104 then (catchmenttop_TopParted.l0 k x0 x1 (x7 ++ x14) x8 (wrap64 (x9 + 1))) else (none))
end
def catchmenttop_TopParted.f (k : Nat) (l0 : List (S32)) (l1 : List (S39)) (l2 : List ByteArray) : Option (Bool) := if 0 ≤ (mn (l0.length : Int) 30) then (if (mn (l0.length : Int) 30) ≤ (l0.length : Int) then (if 0 ≤ (mn (l1.length : Int) 40) then (if (mn (l1.length : Int) 40) ≤ (l1.length : Int) then (if 0 ≤ (mn (l2.length : Int) 8) then (if (mn (l2.length : Int) 8) ≤ (l2.length : Int) then ((key_Pieces.f k (⟨#[]⟩ : BA) (⟨#[]⟩ : BA) (l2.take ((mn (l2.length : Int) 8) : Int).toNat)).bind fun t308 => (if (t308.length : Int) = 0 then (some false) else (catchmenttop_TopParted.l0 k (l0.take ((mn (l0.length : Int) 30) : Int).toNat) (l1.take ((mn (l1.length : Int) 40) : Int).toNat) ([] : List (S39)) t308 0))) else (none)) else (none)) else (none)) else (none)) else (none)) else (none)
def catchmenttop_TopParted.T1 : Bool × List (List Nat × List Nat) := (true, [([], []), ([], []), ([1], [1]), ([2], [2]), ([0, 3], [0, 3]), ([], []), ([], []), ([6], [6]), ([7], [7]), ([5, 8], [5, 8]), ([], []), ([], []), ([11], [11]), ([12], [12]), ([10, 13], [10, 13]), ([4, 0, 1, 2, 3, 4], [0, 1, 4]), ([9, 15, 0, 1, 2, 3, 4, 5, 6, 7, 8, 9, 15], [5, 6, 9]), ([14, 16, 0, 1, 2, 3, 4, 5, 6, 7, 8, 9, 10, 11, 12, 13, 14, 15, 16], [10, 11, 14])])
def catchmenttop_TopParted.B1 : List Nat := [0, 0, 2, 6, 15, 0, 0, 64, 192, 480, 0, 0, 2048, 6144, 15360, 31, 33791, 131071]
theorem catchmenttop_TopParted.tab1 : rtab .any (opsOf Try.f3 1) = catchmenttop_TopParted.T1 := by kernel_rfl
theorem catchmenttop_TopParted.bits1 : waitsOk catchmenttop_TopParted.T1.2 catchmenttop_TopParted.B1 = true := by kernel_rfl
def catchmenttop_TopParted.T13 : Bool × List (List Nat × List Nat) := (true, [([], []), ([], []), ([0, 1], [0, 1]), ([2], [2]), ([], []), ([], []), ([4, 5], [4, 5]), ([6], [6]), ([3, 7], [3, 7]), ([8], [8]), ([9], [9]), ([9], [9]), ([], []), ([12, 10, 8, 0, 1, 2, 3, 4, 5, 6, 7, 8, 9, 10, 12], [10, 12]), ([11, 13, 0, 1, 2, 3, 4, 5, 6, 7, 8, 9, 10, 11, 12, 13], [11])])
def catchmenttop_TopParted.B13 : List Nat := [0, 0, 3, 7, 0, 0, 48, 112, 255, 511, 1023, 1023, 0, 6143, 16383]
theorem catchmenttop_TopParted.tab13 : rtab .any (opsOf Try.f3 13) = catchmenttop_TopParted.T13 := by kernel_rfl
theorem catchmenttop_TopParted.bits13 : waitsOk catchmenttop_TopParted.T13.2 catchmenttop_TopParted.B13 = true := by kernel_rfl
def catchmenttop_TopParted.T16 : Bool × List (List Nat × List Nat) := (true, [([], []), ([0], [0]), ([], []), ([], []), ([], []), ([3, 4], [3, 4]), ([5], [5]), ([1, 2, 6, 1], [1, 2, 6]), ([7, 7, 0, 1, 2, 3, 4, 5, 6, 7], [7])])
def catchmenttop_TopParted.B16 : List Nat := [0, 1, 0, 0, 0, 24, 56, 127, 255]
theorem catchmenttop_TopParted.tab16 : rtab .any (opsOf Try.f3 16) = catchmenttop_TopParted.T16 := by kernel_rfl
theorem catchmenttop_TopParted.bits16 : waitsOk catchmenttop_TopParted.T16.2 catchmenttop_TopParted.B16 = true := by kernel_rfl
def catchmenttop_TopParted.T20 : Bool × List (List Nat × List Nat) := (true, [([], []), ([], []), ([0, 1], [0, 1]), ([2], [2]), ([], []), ([], []), ([4, 5], [4, 5]), ([6], [6]), ([7], [7]), ([3, 8], [3, 8]), ([9], [9])])
def catchmenttop_TopParted.B20 : List Nat := [0, 0, 3, 7, 0, 0, 48, 112, 240, 511, 1023]
theorem catchmenttop_TopParted.tab20 : rtab .any (opsOf Try.f3 20) = catchmenttop_TopParted.T20 := by kernel_rfl
theorem catchmenttop_TopParted.bits20 : waitsOk catchmenttop_TopParted.T20.2 catchmenttop_TopParted.B20 = true := by kernel_rfl
set_option maxHeartbeats 8000000 in
set_option maxRecDepth 100000 in
theorem catchmenttop_TopParted.calls (k : Nat) (A0 : Option Addr) (c0 : Nat) (l0 : List (S32)) (A1 : Option Addr) (c1 : Nat) (l1 : List (S39)) (A2 : Option Addr) (c2 : Nat) (l2 : List ByteArray) (r : Bool) (w : World) (hr0 : Kd.C k32 w A0 l0.length l0) (hc0 : l0.length ≤ c0) (hr1 : Kd.C k39 w A1 l1.length l1) (hc1 : l1.length ≤ c1) (hr2 : Kd.C Kd.string w A2 l2.length l2) (hc2 : l2.length ≤ c2) (h : catchmenttop_TopParted.f k l0 l1 l2 = some r) :
  Calls Try.prog 3 #[.slice A0 l0.length c0, .slice A1 l1.length c1, .slice A2 l2.length c2] w fun e w' => e = .returned (.bool r) ∧ Below w.heap.size w w' := by
 have hu28 := Try.underlying28
 have hu32 := Try.underlying32
 have HR0 := Aside0.mk hr0
 have HC0 := Aside0.mk hc0
 clear hr0 hc0
 have HR1 := Aside0.mk hr1
 have HC1 := Aside0.mk hc1
 clear hr1 hc1
 have HR2 := Aside0.mk hr2
 have HC2 := Aside0.mk hc2
 clear hr2 hc2
 have HB := Aside0.mk (Below.refl w.heap.size w)
 have H : (if 0 ≤ (mn (l0.length : Int) 30) then (if (mn (l0.length : Int) 30) ≤ (l0.length : Int) then (if 0 ≤ (mn (l1.length : Int) 40) then (if (mn (l1.length : Int) 40) ≤ (l1.length : Int) then (if 0 ≤ (mn (l2.length : Int) 8) then (if (mn (l2.length : Int) 8) ≤ (l2.length : Int) then ((key_Pieces.f k (⟨#[]⟩ : BA) (⟨#[]⟩ : BA) (l2.take ((mn (l2.length : Int) 8) : Int).toNat)).bind fun t308 => (if (t308.length : Int) = 0 then (some false) else (catchmenttop_TopParted.l0 k (l0.take ((mn (l0.length : Int) 30) : Int).toNat) (l1.take ((mn (l1.length : Int) 40) : Int).toNat) ([] : List (S39)) t308 0))) else (none)) else (none)) else (none)) else (none)) else (none)) else (none)) = some r := h
 clear h
 obtain ⟨ji4, hji4⟩ : ∃ j_ : Int, (mn (l0.length : Int) 30) = j_ := ⟨_, rfl⟩
 replace H : (if 0 ≤ (ji4) then (if (ji4) ≤ (l0.length : Int) then (if 0 ≤ (mn (l1.length : Int) 40) then (if (mn (l1.length : Int) 40) ≤ (l1.length : Int) then (if 0 ≤ (mn (l2.length : Int) 8) then (if (mn (l2.length : Int) 8) ≤ (l2.length : Int) then ((key_Pieces.f k (⟨#[]⟩ : BA) (⟨#[]⟩ : BA) (l2.take ((mn (l2.length : Int) 8) : Int).toNat)).bind fun t308 => (if (t308.length : Int) = 0 then (some false) else (catchmenttop_TopParted.l0 k (l0.take ((ji4) : Int).toNat) (l1.take ((mn (l1.length : Int) 40) : Int).toNat) ([] : List (S39)) t308 0))) else (none)) else (none)) else (none)) else (none)) else (none)) else (none)) = some r := by first | (rw [hji4] at H; exact H) | (simp only [hji4] at H ⊢; exact H)
 (try (have hji4h : ji4 ≤ 30 := by (rw [← hji4]; unfold mn; (repeat' split) <;> omega)))
 (try (have hji4g : ji4 ≤ 64 := by omega))
 (try (have hji4l : 0 ≤ ji4 := by (rw [← hji4]; unfold mn; (repeat' split) <;> omega)))
 (try (have hji4m : 0 ≤ ji4 := by omega))
 have hji4_ : (if 30 < (l0.length : Int) then 30 else (l0.length : Int)) = ji4 := hji4
 by_cases c5 : 0 ≤ (ji4)
 ·rw [if_pos c5] at H
  have c5b0 := eq_true c5
  have c5b1 : decide (0 ≤ (ji4)) = true := decide_eq_true c5
  clear c5
  by_cases c6 : (ji4) ≤ (l0.length : Int)
  ·rw [if_pos c6] at H
   have c6b0 := eq_true c6
   have c6b1 : decide ((ji4) ≤ (l0.length : Int)) = true := decide_eq_true c6
   clear c6
   obtain ⟨y299, hy299⟩ : ∃ y_ : List (S32), y_ = (l0.take ((ji4) : Int).toNat) := ⟨_, rfl⟩
   replace H : (if 0 ≤ (mn (l1.length : Int) 40) then (if (mn (l1.length : Int) 40) ≤ (l1.length : Int) then (if 0 ≤ (mn (l2.length : Int) 8) then (if (mn (l2.length : Int) 8) ≤ (l2.length : Int) then ((key_Pieces.f k (⟨#[]⟩ : BA) (⟨#[]⟩ : BA) (l2.take ((mn (l2.length : Int) 8) : Int).toNat)).bind fun t308 => (if (t308.length : Int) = 0 then (some false) else (catchmenttop_TopParted.l0 k y299 (l1.take ((mn (l1.length : Int) 40) : Int).toNat) ([] : List (S39)) t308 0))) else (none)) else (none)) else (none)) else (none)) = some r := by first | (rw [hy299]; with_reducible exact H) | (have H2_ := (Option.bind_some _ _).symm.trans H; rw [hy299]; with_reducible exact H2_) | (have H2_ := (Option.bind_some _ _).symm.trans H; with_reducible exact H2_) | with_reducible exact H | (rw [hy299]; exact H) | exact H
   have Ny299 := Aside0.mk hy299
   clear hy299
   obtain ⟨ji7, hji7⟩ : ∃ j_ : Int, (mn (l1.length : Int) 40) = j_ := ⟨_, rfl⟩
   replace H : (if 0 ≤ (ji7) then (if (ji7) ≤ (l1.length : Int) then (if 0 ≤ (mn (l2.length : Int) 8) then (if (mn (l2.length : Int) 8) ≤ (l2.length : Int) then ((key_Pieces.f k (⟨#[]⟩ : BA) (⟨#[]⟩ : BA) (l2.take ((mn (l2.length : Int) 8) : Int).toNat)).bind fun t308 => (if (t308.length : Int) = 0 then (some false) else (catchmenttop_TopParted.l0 k y299 (l1.take ((ji7) : Int).toNat) ([] : List (S39)) t308 0))) else (none)) else (none)) else (none)) else (none)) = some r := by first | (rw [hji7] at H; exact H) | (simp only [hji7] at H ⊢; exact H)
   (try (have hji7h : ji7 ≤ 40 := by (rw [← hji7]; unfold mn; (repeat' split) <;> omega)))
   (try (have hji7g : ji7 ≤ 64 := by omega))
   (try (have hji7l : 0 ≤ ji7 := by (rw [← hji7]; unfold mn; (repeat' split) <;> omega)))
   (try (have hji7m : 0 ≤ ji7 := by omega))
   have hji7_ : (if 40 < (l1.length : Int) then 40 else (l1.length : Int)) = ji7 := hji7
   by_cases c8 : 0 ≤ (ji7)
   ·rw [if_pos c8] at H
    have c8b0 := eq_true c8
    have c8b1 : decide (0 ≤ (ji7)) = true := decide_eq_true c8
    clear c8
    by_cases c9 : (ji7) ≤ (l1.length : Int)
    ·rw [if_pos c9] at H
     have c9b0 := eq_true c9
     have c9b1 : decide ((ji7) ≤ (l1.length : Int)) = true := decide_eq_true c9
     clear c9
     obtain ⟨y303, hy303⟩ : ∃ y_ : List (S39), y_ = (l1.take ((ji7) : Int).toNat) := ⟨_, rfl⟩
     replace H : (if 0 ≤ (mn (l2.length : Int) 8) then (if (mn (l2.length : Int) 8) ≤ (l2.length : Int) then ((key_Pieces.f k (⟨#[]⟩ : BA) (⟨#[]⟩ : BA) (l2.take ((mn (l2.length : Int) 8) : Int).toNat)).bind fun t308 => (if (t308.length : Int) = 0 then (some false) else (catchmenttop_TopParted.l0 k y299 y303 ([] : List (S39)) t308 0))) else (none)) else (none)) = some r := by first | (rw [hy303]; with_reducible exact H) | (have H2_ := (Option.bind_some _ _).symm.trans H; rw [hy303]; with_reducible exact H2_) | (have H2_ := (Option.bind_some _ _).symm.trans H; with_reducible exact H2_) | with_reducible exact H | (rw [hy303]; exact H) | exact H
     have Ny303 := Aside0.mk hy303
     clear hy303
     obtain ⟨ji10, hji10⟩ : ∃ j_ : Int, (mn (l2.length : Int) 8) = j_ := ⟨_, rfl⟩
     replace H : (if 0 ≤ (ji10) then (if (ji10) ≤ (l2.length : Int) then ((key_Pieces.f k (⟨#[]⟩ : BA) (⟨#[]⟩ : BA) (l2.take ((ji10) : Int).toNat)).bind fun t308 => (if (t308.length : Int) = 0 then (some false) else (catchmenttop_TopParted.l0 k y299 y303 ([] : List (S39)) t308 0))) else (none)) else (none)) = some r := by first | (rw [hji10] at H; exact H) | (simp only [hji10] at H ⊢; exact H)
     (try (have hji10h : ji10 ≤ 8 := by (rw [← hji10]; unfold mn; (repeat' split) <;> omega)))
     (try (have hji10g : ji10 ≤ 64 := by omega))
     (try (have hji10l : 0 ≤ ji10 := by (rw [← hji10]; unfold mn; (repeat' split) <;> omega)))
     (try (have hji10m : 0 ≤ ji10 := by omega))
     have hji10_ : (if 8 < (l2.length : Int) then 8 else (l2.length : Int)) = ji10 := hji10
     by_cases c11 : 0 ≤ (ji10)
     ·rw [if_pos c11] at H
      have c11b0 := eq_true c11
      have c11b1 : decide (0 ≤ (ji10)) = true := decide_eq_true c11
      clear c11
      by_cases c12 : (ji10) ≤ (l2.length : Int)
      ·rw [if_pos c12] at H
       have c12b0 := eq_true c12
       have c12b1 : decide ((ji10) ≤ (l2.length : Int)) = true := decide_eq_true c12
       clear c12
       replace H := Option.bind_eq_some_iff.mp H
       obtain ⟨t308, A130, H⟩ := H
       replace H : (if (t308.length : Int) = 0 then (some false) else (catchmenttop_TopParted.l0 k y299 y303 ([] : List (S39)) t308 0)) = some r := H
       have A13 := Aside0.mk A130
       clear A130
       by_cases c14 : (t308.length : Int) = 0
       ·rw [if_pos c14] at H
        have c14b0 : ((t308.length : Int) == 0) = true := beq_iff_eq.mpr c14
        have c14b1 : ((t308.length : Int) != 0) = false := bne_eq_false_iff_eq.mpr c14
        clear c14
        obtain rfl := Option.some.inj H
        go_enter Try.func3, Try.ntmps3
        try go_wp2
        have n0_ := Aside0.mk (w1 HB.out)
        clear HB
        have HB := n0_
        clear n0_
        have q16 : ((ji4) : Int) ≤ ((l0.length : Int) : Int) := of_decide_eq_true (by first | (with_reducible assumption) | assumption)
        obtain ⟨i016, hi016, _, hsz16, _⟩ := info_parts info32
        have hroom16 : l0.length ≤ c0 := HC0.out
        have hC16 : Kd.C k32 _ A0 l0.length l0 := HR0.out
        have hcut16 := cut_to (P := Try.prog) 22 32 .i64 Try.underlying22 hi016 A0 l0.length c0 (ji4) (of_decide_eq_true (by first | (with_reducible assumption) | assumption)) q16 hroom16
        have hr16 := Kd.C_take (m := ((ji4) : Int).toNat) hC16 (by omega)
        have hy16 : y299.length = ((ji4) : Int).toNat := (by rw [Ny299.out, mA4]; omega)
        rw [← Ny299.out] at hr16
        rw [← hy16] at hcut16
        have HR302 := Aside0.mk hr16
        have HC302 := Aside0.mk (show y299.length ≤ c0 from by omega)
        clear hr16 hC16 hroom16 hi016 hsz16
        have KY16 := Aside0.mk hy16
        clear hy16
        replace q16 := eq_true q16
        have q17 : ((ji7) : Int) ≤ ((l1.length : Int) : Int) := of_decide_eq_true (by first | (with_reducible assumption) | assumption)
        obtain ⟨i017, hi017, _, hsz17, _⟩ := info_parts info39
        have hroom17 : l1.length ≤ c1 := HC1.out
        have hC17 : Kd.C k39 _ A1 l1.length l1 := HR1.out
        have hcut17 := cut_to (P := Try.prog) 23 39 .i64 Try.underlying23 hi017 A1 l1.length c1 (ji7) (of_decide_eq_true (by first | (with_reducible assumption) | assumption)) q17 hroom17
        have hr17 := Kd.C_take (m := ((ji7) : Int).toNat) hC17 (by omega)
        have hy17 : y303.length = ((ji7) : Int).toNat := (by rw [Ny303.out, mA4]; omega)
        rw [← Ny303.out] at hr17
        rw [← hy17] at hcut17
        have HR306 := Aside0.mk hr17
        have HC306 := Aside0.mk (show y303.length ≤ c1 from by omega)
        clear hr17 hC17 hroom17 hi017 hsz17
        have KY17 := Aside0.mk hy17
        clear hy17
        replace q17 := eq_true q17
        obtain ⟨i018, hi018, _, hsz18, _⟩ := info_parts info9
        obtain ⟨hcut18, hA18, hC18⟩ := print_take_of (P := Try.prog) Value.string (⟨#[]⟩ : BA) 24 9 .i64 Try.underlying24 hi018 hsz18 A2 c2 l2 (ji10) (of_decide_eq_true (by first | (with_reducible assumption) | assumption)) (of_decide_eq_true (by first | (with_reducible assumption) | assumption)) HC2.out
        have HR307 := Aside0.mk (Kd.C_of_reads (h1 := fun _ => rfl) (hA18 _ (Kd.reads_of_C HR2.out)))
        have HC307 := Aside0.mk hC18
        clear hA18 hC18 hi018 hsz18
        refine start_ (n := 18) (S := fun w' => True) (ds := []) #[ZZ,ZZ,ZZ,ZZ,ZZ,ZZ,ZZ,ZZ,ZZ,ZZ,ZZ,ZZ,ZZ,ZZ,ZZ,ZZ,ZZ,ZZ] (by kernel_rfl) rfl rfl trivial (fun hHeld => ?_); refine with_tabW catchmenttop_TopParted.tab1 catchmenttop_TopParted.bits1 (fun HT_ HW_ => ?_)
        generalize w.drew = w15 at HB HR302 HR306 HR307 hHeld ⊢
        refine pU_ 0 17 #[YY,ZZ,ZZ,ZZ,ZZ,ZZ,ZZ,ZZ,ZZ,ZZ,ZZ,ZZ,ZZ,ZZ,ZZ,ZZ,ZZ,ZZ] ?_
        refine pU_ 1 18 #[YY,YY,ZZ,ZZ,ZZ,ZZ,ZZ,ZZ,ZZ,ZZ,ZZ,ZZ,ZZ,ZZ,ZZ,ZZ,ZZ,ZZ] ?_
        refine pU_ 2 19 #[YY,YY,YY,ZZ,ZZ,ZZ,ZZ,ZZ,ZZ,ZZ,ZZ,ZZ,ZZ,ZZ,ZZ,ZZ,ZZ,ZZ] ?_
        refine pU_ 3 20 #[YY,YY,YY,YY,ZZ,ZZ,ZZ,ZZ,ZZ,ZZ,ZZ,ZZ,ZZ,ZZ,ZZ,ZZ,ZZ,ZZ] ?_
        refine pU_ 4 21 #[YY,YY,YY,YY,YY,ZZ,ZZ,ZZ,ZZ,ZZ,ZZ,ZZ,ZZ,ZZ,ZZ,ZZ,ZZ,ZZ] ?_
        refine pU_ 5 22 #[YY,YY,YY,YY,YY,YY,ZZ,ZZ,ZZ,ZZ,ZZ,ZZ,ZZ,ZZ,ZZ,ZZ,ZZ,ZZ] ?_
        refine pU_ 6 23 #[YY,YY,YY,YY,YY,YY,YY,ZZ,ZZ,ZZ,ZZ,ZZ,ZZ,ZZ,ZZ,ZZ,ZZ,ZZ] ?_
        refine pU_ 7 24 #[YY,YY,YY,YY,YY,YY,YY,YY,ZZ,ZZ,ZZ,ZZ,ZZ,ZZ,ZZ,ZZ,ZZ,ZZ] ?_
        refine pU_ 8 25 #[YY,YY,YY,YY,YY,YY,YY,YY,YY,ZZ,ZZ,ZZ,ZZ,ZZ,ZZ,ZZ,ZZ,ZZ] ?_
        refine pU_ 9 26 #[YY,YY,YY,YY,YY,YY,YY,YY,YY,YY,ZZ,ZZ,ZZ,ZZ,ZZ,ZZ,ZZ,ZZ] ?_
        refine pU_ 10 27 #[YY,YY,YY,YY,YY,YY,YY,YY,YY,YY,YY,ZZ,ZZ,ZZ,ZZ,ZZ,ZZ,ZZ] ?_
        refine pU_ 11 28 #[YY,YY,YY,YY,YY,YY,YY,YY,YY,YY,YY,YY,ZZ,ZZ,ZZ,ZZ,ZZ,ZZ] ?_
        refine pU_ 12 29 #[YY,YY,YY,YY,YY,YY,YY,YY,YY,YY,YY,YY,YY,ZZ,ZZ,ZZ,ZZ,ZZ] ?_
        refine pU_ 13 30 #[YY,YY,YY,YY,YY,YY,YY,YY,YY,YY,YY,YY,YY,YY,ZZ,ZZ,ZZ,ZZ] ?_
        refine pU_ 14 31 #[YY,YY,YY,YY,YY,YY,YY,YY,YY,YY,YY,YY,YY,YY,YY,ZZ,ZZ,ZZ] ?_
        refine pU_ 15 0 #[YY,YY,YY,YY,YY,YY,YY,YY,YY,YY,YY,YY,YY,YY,YY,YY,ZZ,ZZ] ?_
        refine pU_ 16 1 #[YY,YY,YY,YY,YY,YY,YY,YY,YY,YY,YY,YY,YY,YY,YY,YY,YY,ZZ] ?_
        refine pU_ 17 2 #[YY,YY,YY,YY,YY,YY,YY,YY,YY,YY,YY,YY,YY,YY,YY,YY,YY,YY] ?_
        refine done_ (done_of HT_.out (by kernel_rfl)) ?_
        try go_wp2_with (first | ((with_reducible refine gate_callee (f := 13) rfl ?_); refine goesL_ (some 34) rfl rfl Try.func13 (by kernel_rfl) rfl #[.agg #[.string (⟨#[]⟩ : BA), .string (⟨#[]⟩ : BA)], .slice A2 (l2.take ((ji10) : Int).toNat).length c2] rfl (by (try simp only [mA1, mA2, mA3]); first | done | (rw [show (l2.take ((ji10) : Int).toNat).length = (ji10).toNat from (by rw [mA4]; have h_ : ((ji10) : Int) ≤ (l2.length : Int) := of_decide_eq_true (by first | (with_reducible assumption) | assumption); omega)] <;> rfl) | (simp only [hji10]; rfl) | rfl | (simp only [mA5, mA4]; rfl)) ?_; (with_reducible refine (key_Pieces.calls k (⟨#[]⟩ : BA) (⟨#[]⟩ : BA) _ _ (l2.take ((ji10) : Int).toNat) t308 _ ?side1 ?side2 A13.out).mono ?_); (case side1 => repeat (first | exact (Kd.C_below HR307.out HB.out) | (with_reducible refine Kd.C_alloc ?_ _) | (with_reducible refine Kd.C_drewN ?_ _) | (with_reducible refine Kd.C_drew ?_))); (case side2 => exact HC307.out); rintro e w19 ⟨v309, rfl, ho0, hb⟩; refine ⟨_, rfl, ?_⟩; have n0_ := Aside0.mk (Kd.R_lower ho0 (wZ bW_)); have n1_ := Aside0.mk (wT bW_ hb); clear HB; have HO310 := n0_; have HB := n1_; clear n0_ n1_; (try clear hb); (try clear hb2); (try clear hk); (try clear hi); (try clear ho0); obtain ⟨Ao20, co20, eo20⟩ := Kd.R_slice HO310.out; subst eo20))
        go_ret
        exact ⟨by first | rfl | (simp [errW_none, errW_some] <;> rfl) | (simp only [← hji4, ← hji7, ← hji10]; first | rfl | (simp [errW_none, errW_some] <;> rfl)) | (simp [*, errW_none, errW_some] <;> rfl), by repeat (first | (with_reducible first | exact HB.out | apply wA | apply wN | apply w1) | exact HB.out)⟩
       ·rw [if_neg c14] at H
        have c14b0 : ((t308.length : Int) == 0) = false := beq_eq_false_iff_ne.mpr c14
        have c14b1 : ((t308.length : Int) != 0) = true := bne_iff_ne.mpr c14
        have c14b2 : ¬ (t308 = []) := fun h_ => c14 (by rw [h_]; rfl)
        have H' := Aside0.mk H
        clear H
        go_enter Try.func3, Try.ntmps3
        try go_wp2
        have n0_ := Aside0.mk (w1 HB.out)
        clear HB
        have HB := n0_
        clear n0_
        have q22 : ((ji4) : Int) ≤ ((l0.length : Int) : Int) := of_decide_eq_true (by first | (with_reducible assumption) | assumption)
        obtain ⟨i022, hi022, _, hsz22, _⟩ := info_parts info32
        have hroom22 : l0.length ≤ c0 := HC0.out
        have hC22 : Kd.C k32 _ A0 l0.length l0 := HR0.out
        have hcut22 := cut_to (P := Try.prog) 22 32 .i64 Try.underlying22 hi022 A0 l0.length c0 (ji4) (of_decide_eq_true (by first | (with_reducible assumption) | assumption)) q22 hroom22
        have hr22 := Kd.C_take (m := ((ji4) : Int).toNat) hC22 (by omega)
        have hy22 : y299.length = ((ji4) : Int).toNat := (by rw [Ny299.out, mA4]; omega)
        rw [← Ny299.out] at hr22
        rw [← hy22] at hcut22
        have HR302 := Aside0.mk hr22
        have HC302 := Aside0.mk (show y299.length ≤ c0 from by omega)
        clear hr22 hC22 hroom22 hi022 hsz22
        have KY22 := Aside0.mk hy22
        clear hy22
        replace q22 := eq_true q22
        have q23 : ((ji7) : Int) ≤ ((l1.length : Int) : Int) := of_decide_eq_true (by first | (with_reducible assumption) | assumption)
        obtain ⟨i023, hi023, _, hsz23, _⟩ := info_parts info39
        have hroom23 : l1.length ≤ c1 := HC1.out
        have hC23 : Kd.C k39 _ A1 l1.length l1 := HR1.out
        have hcut23 := cut_to (P := Try.prog) 23 39 .i64 Try.underlying23 hi023 A1 l1.length c1 (ji7) (of_decide_eq_true (by first | (with_reducible assumption) | assumption)) q23 hroom23
        have hr23 := Kd.C_take (m := ((ji7) : Int).toNat) hC23 (by omega)
        have hy23 : y303.length = ((ji7) : Int).toNat := (by rw [Ny303.out, mA4]; omega)
        rw [← Ny303.out] at hr23
        rw [← hy23] at hcut23
        have HR306 := Aside0.mk hr23
        have HC306 := Aside0.mk (show y303.length ≤ c1 from by omega)
        clear hr23 hC23 hroom23 hi023 hsz23
        have KY23 := Aside0.mk hy23
        clear hy23
        replace q23 := eq_true q23
        obtain ⟨i024, hi024, _, hsz24, _⟩ := info_parts info9
        obtain ⟨hcut24, hA24, hC24⟩ := print_take_of (P := Try.prog) Value.string (⟨#[]⟩ : BA) 24 9 .i64 Try.underlying24 hi024 hsz24 A2 c2 l2 (ji10) (of_decide_eq_true (by first | (with_reducible assumption) | assumption)) (of_decide_eq_true (by first | (with_reducible assumption) | assumption)) HC2.out
        have HR307 := Aside0.mk (Kd.C_of_reads (h1 := fun _ => rfl) (hA24 _ (Kd.reads_of_C HR2.out)))
        have HC307 := Aside0.mk hC24
        clear hA24 hC24 hi024 hsz24
        refine start_ (n := 18) (S := fun w' => True) (ds := []) #[ZZ,ZZ,ZZ,ZZ,ZZ,ZZ,ZZ,ZZ,ZZ,ZZ,ZZ,ZZ,ZZ,ZZ,ZZ,ZZ,ZZ,ZZ] (by kernel_rfl) rfl rfl trivial (fun hHeld => ?_); refine with_tabW catchmenttop_TopParted.tab1 catchmenttop_TopParted.bits1 (fun HT_ HW_ => ?_)
        generalize w.drew = w21 at HB HR302 HR306 HR307 hHeld ⊢
        refine pU_ 0 17 #[YY,ZZ,ZZ,ZZ,ZZ,ZZ,ZZ,ZZ,ZZ,ZZ,ZZ,ZZ,ZZ,ZZ,ZZ,ZZ,ZZ,ZZ] ?_
        refine pU_ 1 18 #[YY,YY,ZZ,ZZ,ZZ,ZZ,ZZ,ZZ,ZZ,ZZ,ZZ,ZZ,ZZ,ZZ,ZZ,ZZ,ZZ,ZZ] ?_
        refine pU_ 2 19 #[YY,YY,YY,ZZ,ZZ,ZZ,ZZ,ZZ,ZZ,ZZ,ZZ,ZZ,ZZ,ZZ,ZZ,ZZ,ZZ,ZZ] ?_
        refine pU_ 3 20 #[YY,YY,YY,YY,ZZ,ZZ,ZZ,ZZ,ZZ,ZZ,ZZ,ZZ,ZZ,ZZ,ZZ,ZZ,ZZ,ZZ] ?_
        refine pU_ 4 21 #[YY,YY,YY,YY,YY,ZZ,ZZ,ZZ,ZZ,ZZ,ZZ,ZZ,ZZ,ZZ,ZZ,ZZ,ZZ,ZZ] ?_
        refine pU_ 5 22 #[YY,YY,YY,YY,YY,YY,ZZ,ZZ,ZZ,ZZ,ZZ,ZZ,ZZ,ZZ,ZZ,ZZ,ZZ,ZZ] ?_
        refine pU_ 6 23 #[YY,YY,YY,YY,YY,YY,YY,ZZ,ZZ,ZZ,ZZ,ZZ,ZZ,ZZ,ZZ,ZZ,ZZ,ZZ] ?_
        refine pU_ 7 24 #[YY,YY,YY,YY,YY,YY,YY,YY,ZZ,ZZ,ZZ,ZZ,ZZ,ZZ,ZZ,ZZ,ZZ,ZZ] ?_
        refine pU_ 8 25 #[YY,YY,YY,YY,YY,YY,YY,YY,YY,ZZ,ZZ,ZZ,ZZ,ZZ,ZZ,ZZ,ZZ,ZZ] ?_
        refine pU_ 9 26 #[YY,YY,YY,YY,YY,YY,YY,YY,YY,YY,ZZ,ZZ,ZZ,ZZ,ZZ,ZZ,ZZ,ZZ] ?_
        refine pU_ 10 27 #[YY,YY,YY,YY,YY,YY,YY,YY,YY,YY,YY,ZZ,ZZ,ZZ,ZZ,ZZ,ZZ,ZZ] ?_
        refine pU_ 11 28 #[YY,YY,YY,YY,YY,YY,YY,YY,YY,YY,YY,YY,ZZ,ZZ,ZZ,ZZ,ZZ,ZZ] ?_
        refine pU_ 12 29 #[YY,YY,YY,YY,YY,YY,YY,YY,YY,YY,YY,YY,YY,ZZ,ZZ,ZZ,ZZ,ZZ] ?_
        refine pU_ 13 30 #[YY,YY,YY,YY,YY,YY,YY,YY,YY,YY,YY,YY,YY,YY,ZZ,ZZ,ZZ,ZZ] ?_
        refine pU_ 14 31 #[YY,YY,YY,YY,YY,YY,YY,YY,YY,YY,YY,YY,YY,YY,YY,ZZ,ZZ,ZZ] ?_
        refine pU_ 15 0 #[YY,YY,YY,YY,YY,YY,YY,YY,YY,YY,YY,YY,YY,YY,YY,YY,ZZ,ZZ] ?_
        refine pU_ 16 1 #[YY,YY,YY,YY,YY,YY,YY,YY,YY,YY,YY,YY,YY,YY,YY,YY,YY,ZZ] ?_
        refine pU_ 17 2 #[YY,YY,YY,YY,YY,YY,YY,YY,YY,YY,YY,YY,YY,YY,YY,YY,YY,YY] ?_
        refine done_ (done_of HT_.out (by kernel_rfl)) ?_
        try go_wp2_with (first | ((with_reducible refine gate_callee (f := 13) rfl ?_); refine goesL_ (some 34) rfl rfl Try.func13 (by kernel_rfl) rfl #[.agg #[.string (⟨#[]⟩ : BA), .string (⟨#[]⟩ : BA)], .slice A2 (l2.take ((ji10) : Int).toNat).length c2] rfl (by (try simp only [mA1, mA2, mA3]); first | done | (rw [show (l2.take ((ji10) : Int).toNat).length = (ji10).toNat from (by rw [mA4]; have h_ : ((ji10) : Int) ≤ (l2.length : Int) := of_decide_eq_true (by first | (with_reducible assumption) | assumption); omega)] <;> rfl) | (simp only [hji10]; rfl) | rfl | (simp only [mA5, mA4]; rfl)) ?_; (with_reducible refine (key_Pieces.calls k (⟨#[]⟩ : BA) (⟨#[]⟩ : BA) _ _ (l2.take ((ji10) : Int).toNat) t308 _ ?side1 ?side2 A13.out).mono ?_); (case side1 => repeat (first | exact (Kd.C_below HR307.out HB.out) | (with_reducible refine Kd.C_alloc ?_ _) | (with_reducible refine Kd.C_drewN ?_ _) | (with_reducible refine Kd.C_drew ?_))); (case side2 => exact HC307.out); rintro e w25 ⟨v309, rfl, ho0, hb⟩; refine ⟨_, rfl, ?_⟩; have n0_ := Aside0.mk (Kd.R_lower ho0 (wZ bW_)); have n1_ := Aside0.mk (wT bW_ hb); clear HB; have HO310 := n0_; have HB := n1_; clear n0_ n1_; (try clear hb); (try clear hb2); (try clear hk); (try clear hi); (try clear ho0); obtain ⟨Ao26, co26, eo26⟩ := Kd.R_slice HO310.out; subst eo26))
        go_loopg [7, 9] k (fun kq v7 v9 w' => ∃ (x7_1 : List (S39)) (x9_1 : Int), v9 = .int .i64 x9_1 ∧ Aside0 (catchmenttop_TopParted.l0 kq y299 y303 x7_1 t308 x9_1 = some r) ∧ Aside0 (kq ≤ k) ∧ Aside0 (Kd.R k39 39 w' w.heap.size (fun _ => True) v7 x7_1) ∧ Aside0 (Kd.R k28 28 w' w.heap.size (fun _ => True) (.slice Ao26 t308.length co26) t308) ∧ Aside0 (Below w.heap.size w w'))
        case atStart => exact ⟨(([] : List (S39))), (0), (by first | rfl | (simp; done) | (simp [*]; done)), H', ⟨Nat.le_refl _⟩, ⟨by first | exact Kd.R_nil _ _ _ _ _ | exact Kd.N_nil _ _ _ _ _ | exact Kd.V_nil _ _ _ _ _ | exact Kd.Q_nil _ _ _ _ _ | exact Kd.S_nil _ _ _ _ _⟩, ⟨by (with_reducible repeat (first | apply Kd.R_alloc | apply Kd.R_drewN | apply Kd.R_drew)); exact HO310.out⟩, ⟨by repeat (first | (with_reducible first | exact HB.out | apply wA | apply wN | apply w1) | exact HB.out)⟩⟩
        case round =>
         clear H'
         try clear c1
         try clear q1
         try clear c2
         try clear p2
         try clear q2
         try clear c3
         try clear c5
         try clear c5b0
         try clear c5b1
         try clear c6
         try clear c6b0
         try clear c6b1
         try clear c8
         try clear c8b0
         try clear c8b1
         try clear c9
         try clear c9b0
         try clear c9b1
         try clear c11
         try clear c11b0
         try clear c11b1
         try clear c12
         try clear c12b0
         try clear c12b1
         try clear c13
         try clear c14
         try clear c14b0
         try clear c14b1
         try clear c14b2
         try clear q16
         try clear q17
         try clear q22
         try clear q23
         try clear q16
         try clear q17
         try clear q22
         try clear q23
         obtain ⟨x7_1, x9_1, rfl, HA, HK1, HO_7, HO_8, HB⟩ := hrel
         cases gk with
         | zero => exact absurd HA.out (by simp [catchmenttop_TopParted.l0])
         | succ k1 =>
          have H := HA.out
          clear HA
          simp only [catchmenttop_TopParted.l0] at H
          by_cases c27 : x9_1 < (t308.length : Int)
          ·rw [if_pos c27] at H
           have c27b0 : decide (x9_1 < (t308.length : Int)) = true := decide_eq_true c27
           clear c27
           have H' := Aside0.mk H
           clear H
           go_wp2
           go_loopg [10, 11] k1 (fun kq v10 v11 w' => ∃ (x10_2 : List (S32)) (x11_2 : Int), v11 = .int .i64 x11_2 ∧ Aside0 (catchmenttop_TopParted.l1 kq y299 y303 x7_1 t308 x9_1 x10_2 x11_2 = some r) ∧ Aside0 (kq ≤ k1) ∧ Aside0 (Kd.R k39 39 w' w.heap.size (fun _ => True) u7 x7_1) ∧ Aside0 (Kd.R k28 28 w' w.heap.size (fun _ => True) (.slice Ao26 t308.length co26) t308) ∧ Aside0 (Kd.R k32 32 w' w.heap.size (fun _ => True) v10 x10_2) ∧ Aside0 (Below w.heap.size w w'))
           case atStart => exact ⟨(([] : List (S32))), (0), (by first | rfl | (simp; done) | (simp [*]; done)), H', ⟨Nat.le_refl _⟩, ⟨by (with_reducible repeat (first | apply Kd.R_alloc | apply Kd.R_drewN | apply Kd.R_drew)); exact HO_7.out⟩, ⟨by (with_reducible repeat (first | apply Kd.R_alloc | apply Kd.R_drewN | apply Kd.R_drew)); exact HO_8.out⟩, ⟨by first | exact Kd.R_nil _ _ _ _ _ | exact Kd.N_nil _ _ _ _ _ | exact Kd.V_nil _ _ _ _ _ | exact Kd.Q_nil _ _ _ _ _ | exact Kd.S_nil _ _ _ _ _⟩, ⟨by repeat (first | (with_reducible first | exact HB.out | apply wA | apply wN | apply w1) | exact HB.out)⟩⟩
           case round =>
            clear H'
            try clear c1
            try clear q1
            try clear c2
            try clear p2
            try clear q2
            try clear c3
            try clear c5
            try clear c5b0
            try clear c5b1
            try clear c6
            try clear c6b0
            try clear c6b1
            try clear c8
            try clear c8b0
            try clear c8b1
            try clear c9
            try clear c9b0
            try clear c9b1
            try clear c11
            try clear c11b0
            try clear c11b1
            try clear c12
            try clear c12b0
            try clear c12b1
            try clear c13
            try clear c14
            try clear c14b0
            try clear c14b1
            try clear c14b2
            try clear q16
            try clear q17
            try clear q22
            try clear q23
            try clear c27
            try clear c27b0
            try clear p2
            try clear q1
            try clear q16
            try clear q17
            try clear q2
            try clear q22
            try clear q23
            obtain ⟨x10_2, x11_2, rfl, HA, HK2, HO_7, HO_8, HO_10, HB⟩ := hrel
            cases gk with
            | zero => exact absurd HA.out (by simp [catchmenttop_TopParted.l1])
            | succ k2 =>
             have H := HA.out
             clear HA
             simp only [catchmenttop_TopParted.l1] at H
             by_cases c28 : x11_2 < (y299.length : Int)
             ·rw [if_pos c28] at H
              have c28b0 : decide (x11_2 < (y299.length : Int)) = true := decide_eq_true c28
              clear c28
              by_cases c29 : 0 ≤ x11_2
              ·rw [if_pos c29] at H
               have c29b0 : decide (0 ≤ x11_2) = true := decide_eq_true c29
               clear c29
               by_cases c30 : 0 ≤ x9_1
               ·rw [if_pos c30] at H
                have c30b0 : decide (0 ≤ x9_1) = true := decide_eq_true c30
                clear c30
                by_cases c31 : x9_1 < (t308.length : Int)
                ·rw [if_pos c31] at H
                 have c31b0 : decide (x9_1 < (t308.length : Int)) = true := decide_eq_true c31
                 clear c31
                 replace H := Option.bind_eq_some_iff.mp H
                 obtain ⟨⟨t323, t324, t325, t326, t327, t328, t329⟩, A320, H⟩ := H
                 replace H : (if t329 = true then (if x10_2.length < 1954687338268 then (catchmenttop_TopParted.l1 k2 y299 y303 x7_1 t308 x9_1 (x10_2 ++ [(⟨t323, t324, t325, t326, t327, t328⟩ : S32)]) (wrap64 (x11_2 + 1))) else (none)) else (catchmenttop_TopParted.l1 k2 y299 y303 x7_1 t308 x9_1 x10_2 (wrap64 (x11_2 + 1)))) = some r := H
                 have A32 := Aside0.mk A320
                 clear A320
                 by_cases c33 : t329 = true
                 ·subst c33
                  have H1 : (if x10_2.length < 1954687338268 then (catchmenttop_TopParted.l1 k2 y299 y303 x7_1 t308 x9_1 (x10_2 ++ [(⟨t323, t324, t325, t326, t327, t328⟩ : S32)]) (wrap64 (x11_2 + 1))) else (none)) = some r := by rw [if_pos rfl] at H; exact H
                  clear H
                  have H := H1
                  clear H1
                  by_cases c34 : x10_2.length < 1954687338268
                  ·rw [if_pos c34] at H
                   have LMc34 := Aside0.mk c34
                   clear c34
                   obtain ⟨y331, hy331⟩ : ∃ y_ : List (S32), y_ = (x10_2 ++ [(⟨t323, t324, t325, t326, t327, t328⟩ : S32)]) := ⟨_, rfl⟩
                   replace H : (catchmenttop_TopParted.l1 k2 y299 y303 x7_1 t308 x9_1 y331 (wrap64 (x11_2 + 1))) = some r := by first | (rw [hy331]; with_reducible exact H) | (have H2_ := (Option.bind_some _ _).symm.trans H; rw [hy331]; with_reducible exact H2_) | (have H2_ := (Option.bind_some _ _).symm.trans H; with_reducible exact H2_) | with_reducible exact H | (rw [hy331]; exact H) | exact H
                   have Ny331 := Aside0.mk hy331
                   clear hy331
                   have H' := Aside0.mk H
                   clear H
                   try go_wp2
                   have n0_ := Aside0.mk (Kd.R_drew HO_7.out)
                   have n1_ := Aside0.mk (Kd.R_drew HO_8.out)
                   have n2_ := Aside0.mk (Kd.R_drew HO_10.out)
                   have n3_ := Aside0.mk (w1 HB.out)
                   clear HO_7
                   clear HO_8
                   clear HO_10
                   clear HB
                   have HO_7 := n0_
                   have HO_8 := n1_
                   have HO_10 := n2_
                   have HB := n3_
                   clear n0_ n1_ n2_ n3_
                   have p321 : 0 ≤ (x11_2 : Int) := of_decide_eq_true (by first | (with_reducible assumption) | assumption)
                   have q321 : x11_2 < (y299.length : Int) := of_decide_eq_true (by first | (with_reducible assumption) | assumption)
                   obtain ⟨ad321, e321, hx321_0, hx321_1, hx321_2, hx321_3, hx321_4, hx321_5⟩ := at_T32 HR302.out x11_2 p321 q321
                   have hw321_5 := hx321_5
                   have hw321_4 := hx321_4
                   have hw321_3 := hx321_3
                   have hw321_2 := hx321_2
                   have hw321_1 := hx321_1
                   have hw321_0 := hx321_0
                   cases e321
                   replace hx321_0 := (HB.out.cell (World.block_lt_of_cell? w _ hx321_0)).trans hx321_0
                   replace hx321_1 := (HB.out.cell (World.block_lt_of_cell? w _ hx321_1)).trans hx321_1
                   replace hx321_2 := (HB.out.cell (World.block_lt_of_cell? w _ hx321_2)).trans hx321_2
                   replace hx321_3 := (HB.out.cell (World.block_lt_of_cell? w _ hx321_3)).trans hx321_3
                   replace hx321_4 := (HB.out.cell (World.block_lt_of_cell? w _ hx321_4)).trans hx321_4
                   replace hx321_5 := (HB.out.cell (World.block_lt_of_cell? w _ hx321_5)).trans hx321_5
                   replace p321 := eq_true p321
                   replace q321 := eq_true q321
                   have p322 : 0 ≤ (x9_1 : Int) := of_decide_eq_true (by first | (with_reducible assumption) | assumption)
                   have q322 : x9_1 < (t308.length : Int) := of_decide_eq_true (by first | (with_reducible assumption) | assumption)
                   obtain ⟨ad322, e322, hx322_0, hx322_1⟩ := at_T28 (Kd.R_reads' HO_8.out).2.2 x9_1 p322 q322
                   cases e322
                   replace p322 := eq_true p322
                   replace q322 := eq_true q322
                   refine start_ (n := 15) (S := fun w' => w'.cell? (ad321.add ((x11_2).toNat * 6)) = some (.int .u8 ((rd_T32 y299 x11_2).f0)) ∧ w'.cell? ⟨(ad321.add ((x11_2).toNat * 6)).block, (ad321.add ((x11_2).toNat * 6)).off + 1, none⟩ = some (.int .i64 ((rd_T32 y299 x11_2).f1)) ∧ w'.cell? ⟨(ad321.add ((x11_2).toNat * 6)).block, (ad321.add ((x11_2).toNat * 6)).off + 2, none⟩ = some (.string ((rd_T32 y299 x11_2).f2)) ∧ w'.cell? ⟨(ad321.add ((x11_2).toNat * 6)).block, (ad321.add ((x11_2).toNat * 6)).off + 3, none⟩ = some (.string ((rd_T32 y299 x11_2).f3)) ∧ w'.cell? ⟨(ad321.add ((x11_2).toNat * 6)).block, (ad321.add ((x11_2).toNat * 6)).off + 4, none⟩ = some (.string ((rd_T32 y299 x11_2).f4)) ∧ w'.cell? ⟨(ad321.add ((x11_2).toNat * 6)).block, (ad321.add ((x11_2).toNat * 6)).off + 5, none⟩ = some (.int .u64 ((rd_T32 y299 x11_2).f5)) ∧ w'.cell? (ad322.add ((x9_1).toNat * 2)) = some (.string ((rd_T28 t308 x9_1).f0)) ∧ w'.cell? ⟨(ad322.add ((x9_1).toNat * 2)).block, (ad322.add ((x9_1).toNat * 2)).off + 1, none⟩ = some (.string ((rd_T28 t308 x9_1).f1))) (ds := []) #[ZZ,ZZ,ZZ,ZZ,ZZ,ZZ,ZZ,ZZ,ZZ,ZZ,ZZ,ZZ,ZZ,ZZ,ZZ] (by kernel_rfl) rfl rfl ⟨((HB.out.cell (World.block_lt_of_cell? w _ hw321_0)).trans hw321_0), ((HB.out.cell (World.block_lt_of_cell? w _ hw321_1)).trans hw321_1), ((HB.out.cell (World.block_lt_of_cell? w _ hw321_2)).trans hw321_2), ((HB.out.cell (World.block_lt_of_cell? w _ hw321_3)).trans hw321_3), ((HB.out.cell (World.block_lt_of_cell? w _ hw321_4)).trans hw321_4), ((HB.out.cell (World.block_lt_of_cell? w _ hw321_5)).trans hw321_5), hx322_0, hx322_1⟩ (fun hHeld => ?_); refine with_tabW catchmenttop_TopParted.tab13 catchmenttop_TopParted.bits13 (fun HT_ HW_ => ?_)
                   generalize wr.drew = w35 at HO_7 HO_8 HO_10 HB hx321_0 hx321_1 hx321_2 hx321_3 hx321_4 hx321_5 hx322_0 hx322_1 hHeld ⊢
                   refine pU_ 0 51 #[YY,ZZ,ZZ,ZZ,ZZ,ZZ,ZZ,ZZ,ZZ,ZZ,ZZ,ZZ,ZZ,ZZ,ZZ] ?_
                   refine pU_ 1 52 #[YY,YY,ZZ,ZZ,ZZ,ZZ,ZZ,ZZ,ZZ,ZZ,ZZ,ZZ,ZZ,ZZ,ZZ] ?_
                   refine pU_ 2 53 #[YY,YY,YY,ZZ,ZZ,ZZ,ZZ,ZZ,ZZ,ZZ,ZZ,ZZ,ZZ,ZZ,ZZ] ?_
                   refine pU_ 4 55 #[YY,YY,YY,ZZ,YY,ZZ,ZZ,ZZ,ZZ,ZZ,ZZ,ZZ,ZZ,ZZ,ZZ] ?_
                   refine pU_ 5 56 #[YY,YY,YY,ZZ,YY,YY,ZZ,ZZ,ZZ,ZZ,ZZ,ZZ,ZZ,ZZ,ZZ] ?_
                   refine pU_ 6 57 #[YY,YY,YY,ZZ,YY,YY,YY,ZZ,ZZ,ZZ,ZZ,ZZ,ZZ,ZZ,ZZ] ?_
                   refine take_ (i := 3) (N := some 54) (v := ?_) (a' := ?_) #[YY,YY,YY,YY,YY,YY,YY,ZZ,ZZ,ZZ,ZZ,ZZ,ZZ,ZZ,ZZ] rfl rfl (take_ofW HT_.out HW_.out (by kernel_rfl)) (fun _ _ _ h => h) (Or.inl ⟨by rfl, ?_⟩) hHeld ?_ ?_
                   rotate_left
                   ·rintro w' ⟨s0, s1, s2, s3, s4, s5, s6, s7⟩
                    go_simp
                    with_reducible rfl
                   rotate_left
                   ·simp only [Act.put, sA1, sA2, sA3, i64_w, i32_w]
                    rfl
                   refine take_ (i := 7) (N := some 58) (v := ?_) (a' := ?_) #[YY,YY,YY,YY,YY,YY,YY,YY,ZZ,ZZ,ZZ,ZZ,ZZ,ZZ,ZZ] rfl rfl (take_ofW HT_.out HW_.out (by kernel_rfl)) (fun _ _ _ h => h) (Or.inl ⟨by rfl, ?_⟩) hHeld ?_ ?_
                   rotate_left
                   ·rintro w' ⟨s0, s1, s2, s3, s4, s5, s6, s7⟩
                    go_simp
                    with_reducible rfl
                   rotate_left
                   ·simp only [Act.put, sA1, sA2, sA3, i64_w, i32_w]
                    rfl
                   refine join_ (σ := Nat) 2 #[YY,YY,YY,YY,YY,YY,YY,YY,YY,YY,YY,YY,YY,ZZ,ZZ] (fun s_ => [(59, .tuple #[.agg #[.int .u8 t323, .int .i64 t324, .string t325, .string t326, .string t327, .int .u64 t328], .bool true]), (12, .pointer (some ⟨s_, 0, none⟩)), (50, .tuple #[.agg #[.int .u8 t323, .int .i64 t324, .string t325, .string t326, .string t327, .int .u64 t328], .bool true]), (60, .agg #[.int .u8 t323, .int .i64 t324, .string t325, .string t326, .string t327, .int .u64 t328]), (61, .bool true)]) (fun s_ w' => (w'.cell? (ad321.add ((x11_2).toNat * 6)) = some (.int .u8 ((rd_T32 y299 x11_2).f0)) ∧ w'.cell? ⟨(ad321.add ((x11_2).toNat * 6)).block, (ad321.add ((x11_2).toNat * 6)).off + 1, none⟩ = some (.int .i64 ((rd_T32 y299 x11_2).f1)) ∧ w'.cell? ⟨(ad321.add ((x11_2).toNat * 6)).block, (ad321.add ((x11_2).toNat * 6)).off + 2, none⟩ = some (.string ((rd_T32 y299 x11_2).f2)) ∧ w'.cell? ⟨(ad321.add ((x11_2).toNat * 6)).block, (ad321.add ((x11_2).toNat * 6)).off + 3, none⟩ = some (.string ((rd_T32 y299 x11_2).f3)) ∧ w'.cell? ⟨(ad321.add ((x11_2).toNat * 6)).block, (ad321.add ((x11_2).toNat * 6)).off + 4, none⟩ = some (.string ((rd_T32 y299 x11_2).f4)) ∧ w'.cell? ⟨(ad321.add ((x11_2).toNat * 6)).block, (ad321.add ((x11_2).toNat * 6)).off + 5, none⟩ = some (.int .u64 ((rd_T32 y299 x11_2).f5)) ∧ w'.cell? (ad322.add ((x9_1).toNat * 2)) = some (.string ((rd_T28 t308 x9_1).f0)) ∧ w'.cell? ⟨(ad322.add ((x9_1).toNat * 2)).block, (ad322.add ((x9_1).toNat * 2)).off + 1, none⟩ = some (.string ((rd_T28 t308 x9_1).f1))) ∧ (Kd.R k32 32 w' w.heap.size (fun k_ => k_ ≠ s_) u10 x10_2) ∧ (Kd.R k39 39 w' w.heap.size (fun _ => True) u7 x7_1) ∧ (Kd.R k28 28 w' w.heap.size (fun _ => True) (.slice (some ad322) t308.length co26) t308) ∧ (w'.heap[s_]? = some (.cells #[.int .u8 0, .int .i64 0, .string (⟨#[]⟩ : BA), .string (⟨#[]⟩ : BA), .string (⟨#[]⟩ : BA), .int .u64 0] 32 (0, 0))) ∧ (w.heap.size ≤ s_) ∧ (w.heap.size ≤ s_) ∧ (Below w.heap.size w w')) ?_ ?_
                   rotate_left
                   ·intro hCont
                    refine two_ (i := 8) (j := 12) (Ni := some 59) (Nj := some 12) #[YY,YY,YY,YY,YY,YY,YY,YY,YY,ZZ,ZZ,ZZ,ZZ,ZZ,ZZ] #[YY,YY,YY,YY,YY,YY,YY,YY,ZZ,ZZ,ZZ,ZZ,YY,ZZ,ZZ] rfl rfl rfl rfl (two_of HT_.out (by kernel_rfl)) (by decide) (by decide) (fun K hK => ?_) (fun K hK => ?_)
                    ·skip
                     refine goes_ Try.func14 (by kernel_rfl) rfl #[.agg #[.int .u8 ((rd_T32 y299 x11_2).f0), .int .i64 ((rd_T32 y299 x11_2).f1), .string ((rd_T32 y299 x11_2).f2), .string ((rd_T32 y299 x11_2).f3), .string ((rd_T32 y299 x11_2).f4), .int .u64 ((rd_T32 y299 x11_2).f5)], .agg #[.string ((rd_T28 t308 x9_1).f0), .string ((rd_T28 t308 x9_1).f1)]] (by rfl) rfl rfl mS_ ?_
                     with_reducible refine (msg_Clip.calls k2 ((rd_T32 y299 x11_2).f0) ((rd_T32 y299 x11_2).f1) ((rd_T32 y299 x11_2).f2) ((rd_T32 y299 x11_2).f3) ((rd_T32 y299 x11_2).f4) ((rd_T32 y299 x11_2).f5) ((rd_T28 t308 x9_1).f0) ((rd_T28 t308 x9_1).f1) t323 t324 t325 t326 t327 t328 true _ A32.out).mono ?_
                     rintro e w36 ⟨rfl, hb⟩
                     have HS6_ := (hb.cell (World.block_lt_of_cell? _ _ (hHeld.2.2.2.2.2.2.1))).trans (hHeld.2.2.2.2.2.2.1)
                     have HS7_ := (hb.cell (World.block_lt_of_cell? _ _ (hHeld.2.2.2.2.2.2.2))).trans (hHeld.2.2.2.2.2.2.2)
                     refine ⟨_, rfl, ?_⟩
                     have n0_ := Aside0.mk (Kd.R_below (kR_ HO_7.out) hb)
                     have n1_ := Aside0.mk (Kd.R_below (kR_ HO_8.out) hb)
                     have n2_ := Aside0.mk (Kd.R_below (kR_ HO_10.out) hb)
                     have n3_ := Aside0.mk (wT bW_ hb)
                     clear HO_7
                     clear HO_8
                     clear HO_10
                     clear HB
                     have HO_7 := n0_
                     have HO_8 := n1_
                     have HO_10 := n2_
                     have HB := n3_
                     clear n0_ n1_ n2_ n3_
                     (try clear hb)
                     (try clear hb2)
                     (try clear hk)
                     (try clear hi)
                     refine hK.out _ _ ⟨((HB.out.cell (World.block_lt_of_cell? w _ hw321_0)).trans hw321_0), ((HB.out.cell (World.block_lt_of_cell? w _ hw321_1)).trans hw321_1), ((HB.out.cell (World.block_lt_of_cell? w _ hw321_2)).trans hw321_2), ((HB.out.cell (World.block_lt_of_cell? w _ hw321_3)).trans hw321_3), ((HB.out.cell (World.block_lt_of_cell? w _ hw321_4)).trans hw321_4), ((HB.out.cell (World.block_lt_of_cell? w _ hw321_5)).trans hw321_5), HS6_, HS7_⟩ (fun hHeld => ?_)
                     clear hK K
                     refine norm_ (a' := ?_) ?_ ?_
                     rotate_left
                     ·show Act.put _ (some 59) _ = _
                      simp only [Act.put, sA1, sA2, sA3, i64_w, i32_w]
                      rfl
                     refine pU_ 9 50 #[YY,YY,YY,YY,YY,YY,YY,YY,YY,YY,ZZ,ZZ,ZZ,ZZ,ZZ] ?_
                     refine pU_ 10 60 #[YY,YY,YY,YY,YY,YY,YY,YY,YY,YY,YY,ZZ,ZZ,ZZ,ZZ] ?_
                     refine pU_ 11 61 #[YY,YY,YY,YY,YY,YY,YY,YY,YY,YY,YY,YY,ZZ,ZZ,ZZ] ?_
                     refine one_ (i := 12) (N := some 12) #[YY,YY,YY,YY,YY,YY,YY,YY,YY,YY,YY,YY,YY,ZZ,ZZ] rfl rfl (one_of HT_.out (by kernel_rfl)) (by decide) (fun K hK => ?_)
                     refine box_step ?hg (N := 12) ?hd (cs := #[.int .u8 0, .int .i64 0, .string (⟨#[]⟩ : BA), .string (⟨#[]⟩ : BA), .string (⟨#[]⟩ : BA), .int .u64 0]) (t := 32) ?hr ?_; (case hd => rfl); (case hg => rfl); (case hr => first | (go_simp; done) | (go_simp; rfl))
                     intro gb330 hg w37 hbox hb
                     have HS6_ := (hb.cell (World.block_lt_of_cell? _ _ (hHeld.2.2.2.2.2.2.1))).trans (hHeld.2.2.2.2.2.2.1)
                     have HS7_ := (hb.cell (World.block_lt_of_cell? _ _ (hHeld.2.2.2.2.2.2.2))).trans (hHeld.2.2.2.2.2.2.2)
                     have n0_ := Aside0.mk (Kd.R_below (kR_ HO_7.out) hb)
                     have n1_ := Aside0.mk (Kd.R_below (kR_ HO_8.out) hb)
                     have n2_ := Aside0.mk (Kd.R_below (Kd.R_elderB (kR_ HO_10.out) gb330 (Nat.le_of_eq hg.symm)) hb)
                     have n3_ := Aside0.mk (wT bW_ hb)
                     have n4_ := Aside0.mk (hbox)
                     have n5_ := Aside0.mk ((by rw [hg]; exact (wZ bW_) : w.heap.size ≤ gb330))
                     have n6_ := Aside0.mk ((by rw [hg]; exact (wZ bW_) : w.heap.size ≤ gb330))
                     clear HO_7
                     clear HO_8
                     clear HO_10
                     clear HB
                     have HO_7 := n0_
                     have HO_8 := n1_
                     have HO_10 := n2_
                     have HB := n3_
                     have BK330 := n4_
                     have GW330 := n5_
                     have GE330 := n6_
                     clear n0_ n1_ n2_ n3_ n4_ n5_ n6_
                     clear hb hbox hg
                     refine hK.out _ _ ⟨((HB.out.cell (World.block_lt_of_cell? w _ hw321_0)).trans hw321_0), ((HB.out.cell (World.block_lt_of_cell? w _ hw321_1)).trans hw321_1), ((HB.out.cell (World.block_lt_of_cell? w _ hw321_2)).trans hw321_2), ((HB.out.cell (World.block_lt_of_cell? w _ hw321_3)).trans hw321_3), ((HB.out.cell (World.block_lt_of_cell? w _ hw321_4)).trans hw321_4), ((HB.out.cell (World.block_lt_of_cell? w _ hw321_5)).trans hw321_5), HS6_, HS7_⟩ (fun hHeld => ?_)
                     clear hK K
                     refine norm_ (a' := ?_) ?_ ?_
                     rotate_left
                     ·show Act.put _ (some 12) _ = _
                      simp only [Act.put, sA1, sA2, sA3, i64_w, i32_w]
                      rfl
                     exact norm_ (by simp only [putAll, Act.put, sA1, sA2, sA3]) (hCont (gb330) _ ⟨hHeld, (by (with_reducible repeat (first | apply Kd.R_alloc | apply Kd.R_drewN | apply Kd.R_drew)); exact Kd.R_mono HO_10.out (fun _ hk => hk.2)), (kR_ HO_7.out), (kR_ HO_8.out), (bX_ BK330.out), GW330.out, GE330.out, (bS1_ GE330.out)⟩)
                    ·skip
                     refine box_step ?hg (N := 12) ?hd (cs := #[.int .u8 0, .int .i64 0, .string (⟨#[]⟩ : BA), .string (⟨#[]⟩ : BA), .string (⟨#[]⟩ : BA), .int .u64 0]) (t := 32) ?hr ?_; (case hd => rfl); (case hg => rfl); (case hr => first | (go_simp; done) | (go_simp; rfl))
                     intro gb330 hg w36 hbox hb
                     have HS6_ := (hb.cell (World.block_lt_of_cell? _ _ (hHeld.2.2.2.2.2.2.1))).trans (hHeld.2.2.2.2.2.2.1)
                     have HS7_ := (hb.cell (World.block_lt_of_cell? _ _ (hHeld.2.2.2.2.2.2.2))).trans (hHeld.2.2.2.2.2.2.2)
                     have n0_ := Aside0.mk (Kd.R_below (kR_ HO_7.out) hb)
                     have n1_ := Aside0.mk (Kd.R_below (kR_ HO_8.out) hb)
                     have n2_ := Aside0.mk (Kd.R_below (Kd.R_elderB (kR_ HO_10.out) gb330 (Nat.le_of_eq hg.symm)) hb)
                     have n3_ := Aside0.mk (wT bW_ hb)
                     have n4_ := Aside0.mk (hbox)
                     have n5_ := Aside0.mk ((by rw [hg]; exact (wZ bW_) : w.heap.size ≤ gb330))
                     have n6_ := Aside0.mk ((by rw [hg]; exact (wZ bW_) : w.heap.size ≤ gb330))
                     clear HO_7
                     clear HO_8
                     clear HO_10
                     clear HB
                     have HO_7 := n0_
                     have HO_8 := n1_
                     have HO_10 := n2_
                     have HB := n3_
                     have BK330 := n4_
                     have GW330 := n5_
                     have GE330 := n6_
                     clear n0_ n1_ n2_ n3_ n4_ n5_ n6_
                     clear hb hbox hg
                     refine hK.out _ _ ⟨((HB.out.cell (World.block_lt_of_cell? w _ hw321_0)).trans hw321_0), ((HB.out.cell (World.block_lt_of_cell? w _ hw321_1)).trans hw321_1), ((HB.out.cell (World.block_lt_of_cell? w _ hw321_2)).trans hw321_2), ((HB.out.cell (World.block_lt_of_cell? w _ hw321_3)).trans hw321_3), ((HB.out.cell (World.block_lt_of_cell? w _ hw321_4)).trans hw321_4), ((HB.out.cell (World.block_lt_of_cell? w _ hw321_5)).trans hw321_5), HS6_, HS7_⟩ (fun hHeld => ?_)
                     clear hK K
                     refine norm_ (a' := ?_) ?_ ?_
                     rotate_left
                     ·show Act.put _ (some 12) _ = _
                      simp only [Act.put, sA1, sA2, sA3, i64_w, i32_w]
                      rfl
                     refine one_ (i := 8) (N := some 59) #[YY,YY,YY,YY,YY,YY,YY,YY,YY,ZZ,ZZ,ZZ,YY,ZZ,ZZ] rfl rfl (one_of HT_.out (by kernel_rfl)) (by decide) (fun K hK => ?_)
                     refine goes_ Try.func14 (by kernel_rfl) rfl #[.agg #[.int .u8 ((rd_T32 y299 x11_2).f0), .int .i64 ((rd_T32 y299 x11_2).f1), .string ((rd_T32 y299 x11_2).f2), .string ((rd_T32 y299 x11_2).f3), .string ((rd_T32 y299 x11_2).f4), .int .u64 ((rd_T32 y299 x11_2).f5)], .agg #[.string ((rd_T28 t308 x9_1).f0), .string ((rd_T28 t308 x9_1).f1)]] (by rfl) rfl rfl mS_ ?_
                     with_reducible refine (msg_Clip.calls k2 ((rd_T32 y299 x11_2).f0) ((rd_T32 y299 x11_2).f1) ((rd_T32 y299 x11_2).f2) ((rd_T32 y299 x11_2).f3) ((rd_T32 y299 x11_2).f4) ((rd_T32 y299 x11_2).f5) ((rd_T28 t308 x9_1).f0) ((rd_T28 t308 x9_1).f1) t323 t324 t325 t326 t327 t328 true _ A32.out).mono ?_
                     rintro e w37 ⟨rfl, hb⟩
                     have HS6_ := (hb.cell (World.block_lt_of_cell? _ _ (hHeld.2.2.2.2.2.2.1))).trans (hHeld.2.2.2.2.2.2.1)
                     have HS7_ := (hb.cell (World.block_lt_of_cell? _ _ (hHeld.2.2.2.2.2.2.2))).trans (hHeld.2.2.2.2.2.2.2)
                     refine ⟨_, rfl, ?_⟩
                     have n0_ := Aside0.mk (Kd.R_below (kR_ HO_7.out) hb)
                     have n1_ := Aside0.mk (Kd.R_below (kR_ HO_8.out) hb)
                     have n2_ := Aside0.mk (Kd.R_below (kR_ HO_10.out) hb)
                     have n3_ := Aside0.mk (bB (bX_ BK330.out) hb)
                     have n4_ := Aside0.mk (wT (bS1_ GE330.out) hb)
                     clear HO_7
                     clear HO_8
                     clear HO_10
                     clear BK330
                     clear HB
                     have HO_7 := n0_
                     have HO_8 := n1_
                     have HO_10 := n2_
                     have BK330 := n3_
                     have HB := n4_
                     clear n0_ n1_ n2_ n3_ n4_
                     (try clear hb)
                     (try clear hb2)
                     (try clear hk)
                     (try clear hi)
                     refine hK.out _ _ ⟨((HB.out.cell (World.block_lt_of_cell? w _ hw321_0)).trans hw321_0), ((HB.out.cell (World.block_lt_of_cell? w _ hw321_1)).trans hw321_1), ((HB.out.cell (World.block_lt_of_cell? w _ hw321_2)).trans hw321_2), ((HB.out.cell (World.block_lt_of_cell? w _ hw321_3)).trans hw321_3), ((HB.out.cell (World.block_lt_of_cell? w _ hw321_4)).trans hw321_4), ((HB.out.cell (World.block_lt_of_cell? w _ hw321_5)).trans hw321_5), HS6_, HS7_⟩ (fun hHeld => ?_)
                     clear hK K
                     refine norm_ (a' := ?_) ?_ ?_
                     rotate_left
                     ·show Act.put _ (some 59) _ = _
                      simp only [Act.put, sA1, sA2, sA3, i64_w, i32_w]
                      rfl
                     refine pU_ 9 50 #[YY,YY,YY,YY,YY,YY,YY,YY,YY,YY,ZZ,ZZ,YY,ZZ,ZZ] ?_
                     refine pU_ 10 60 #[YY,YY,YY,YY,YY,YY,YY,YY,YY,YY,YY,ZZ,YY,ZZ,ZZ] ?_
                     refine pU_ 11 61 #[YY,YY,YY,YY,YY,YY,YY,YY,YY,YY,YY,YY,YY,ZZ,ZZ] ?_
                     exact norm_ (by simp only [putAll, Act.put, sA1, sA2, sA3]) (hCont (gb330) _ ⟨hHeld, (by (with_reducible repeat (first | apply Kd.R_alloc | apply Kd.R_drewN | apply Kd.R_drew)); exact Kd.R_mono HO_10.out (fun _ hk => hk.2)), (kR_ HO_7.out), (kR_ HO_8.out), (bX_ BK330.out), GW330.out, GE330.out, (bS1_ GE330.out)⟩)
                   rintro gb330 w38 ⟨hS_, h0_, h1_, h2_, h3_, h4_, h5_, h6_⟩
                   have n0_ : Aside0 (Kd.R k32 32 w38 w.heap.size (fun k_ => k_ ≠ gb330) u10 x10_2) := ⟨h0_⟩
                   have n1_ : Aside0 (Kd.R k39 39 w38 w.heap.size (fun _ => True) u7 x7_1) := ⟨h1_⟩
                   have n2_ : Aside0 (Kd.R k28 28 w38 w.heap.size (fun _ => True) (.slice (some ad322) t308.length co26) t308) := ⟨h2_⟩
                   have n3_ : Aside0 (w38.heap[gb330]? = some (.cells #[.int .u8 0, .int .i64 0, .string (⟨#[]⟩ : BA), .string (⟨#[]⟩ : BA), .string (⟨#[]⟩ : BA), .int .u64 0] 32 (0, 0))) := ⟨h3_⟩
                   have n4_ : Aside0 (w.heap.size ≤ gb330) := ⟨h4_⟩
                   have n5_ : Aside0 (w.heap.size ≤ gb330) := ⟨h5_⟩
                   have n6_ : Aside0 (Below w.heap.size w w38) := ⟨h6_⟩
                   clear HO_7
                   clear HO_8
                   clear HO_10
                   clear HB
                   clear h0_ h1_ h2_ h3_ h4_ h5_ h6_
                   have HO_10 := n0_
                   have HO_7 := n1_
                   have HO_8 := n2_
                   have BK330 := n3_
                   have GW330 := n4_
                   have GE330 := n5_
                   have HB := n6_
                   clear n0_ n1_ n2_ n3_ n4_ n5_ n6_
                   have hHeld : w38.cell? (ad321.add ((x11_2).toNat * 6)) = some (.int .u8 ((rd_T32 y299 x11_2).f0)) ∧ w38.cell? ⟨(ad321.add ((x11_2).toNat * 6)).block, (ad321.add ((x11_2).toNat * 6)).off + 1, none⟩ = some (.int .i64 ((rd_T32 y299 x11_2).f1)) ∧ w38.cell? ⟨(ad321.add ((x11_2).toNat * 6)).block, (ad321.add ((x11_2).toNat * 6)).off + 2, none⟩ = some (.string ((rd_T32 y299 x11_2).f2)) ∧ w38.cell? ⟨(ad321.add ((x11_2).toNat * 6)).block, (ad321.add ((x11_2).toNat * 6)).off + 3, none⟩ = some (.string ((rd_T32 y299 x11_2).f3)) ∧ w38.cell? ⟨(ad321.add ((x11_2).toNat * 6)).block, (ad321.add ((x11_2).toNat * 6)).off + 4, none⟩ = some (.string ((rd_T32 y299 x11_2).f4)) ∧ w38.cell? ⟨(ad321.add ((x11_2).toNat * 6)).block, (ad321.add ((x11_2).toNat * 6)).off + 5, none⟩ = some (.int .u64 ((rd_T32 y299 x11_2).f5)) ∧ w38.cell? (ad322.add ((x9_1).toNat * 2)) = some (.string ((rd_T28 t308 x9_1).f0)) ∧ w38.cell? ⟨(ad322.add ((x9_1).toNat * 2)).block, (ad322.add ((x9_1).toNat * 2)).off + 1, none⟩ = some (.string ((rd_T28 t308 x9_1).f1)) := hS_
                   refine norm_ (a' := ?_) ?_ ?_
                   rotate_left
                   ·simp only [putAll, Act.put, sA1, sA2, sA3]
                    rfl
                   refine one_ (i := 13) (N := none) #[YY,YY,YY,YY,YY,YY,YY,YY,YY,YY,YY,YY,YY,YY,ZZ] rfl rfl (one_of HT_.out (by kernel_rfl)) (by decide) (fun K hK => ?_)
                   have hs39 : w38.cell? ⟨gb330, 0, none⟩ = some (.int .u8 0) := (bC BK330.out 0).trans rfl
                   have hfs39 := bF BK330.out 0
                   have hs40 : w38.cell? ⟨gb330, 1, none⟩ = some (.int .i64 0) := (bC BK330.out 1).trans rfl
                   have hfs40 := bF BK330.out 1
                   have hs41 : w38.cell? ⟨gb330, 2, none⟩ = some (.string (⟨#[]⟩ : BA)) := (bC BK330.out 2).trans rfl
                   have hfs41 := bF BK330.out 2
                   have hs42 : w38.cell? ⟨gb330, 3, none⟩ = some (.string (⟨#[]⟩ : BA)) := (bC BK330.out 3).trans rfl
                   have hfs42 := bF BK330.out 3
                   have hs43 : w38.cell? ⟨gb330, 4, none⟩ = some (.string (⟨#[]⟩ : BA)) := (bC BK330.out 4).trans rfl
                   have hfs43 := bF BK330.out 4
                   have hs44 : w38.cell? ⟨gb330, 5, none⟩ = some (.int .u64 0) := (bC BK330.out 5).trans rfl
                   have hfs44 := bF BK330.out 5
                   refine skip_ (w1 := ?_) (by rfl) rfl ?_ ?_
                   rotate_left
                   ·go_simp
                    rfl
                   refine hK.out _ _ ⟨((cF (p := ⟨gb330, _, none⟩) (nB_ hw321_0 GW330.out) _).trans (((cF (p := ⟨gb330, _, none⟩) (nB_ hw321_0 GW330.out) _).trans (((cF (p := ⟨gb330, _, none⟩) (nB_ hw321_0 GW330.out) _).trans (((cF (p := ⟨gb330, _, none⟩) (nB_ hw321_0 GW330.out) _).trans (((cF (p := ⟨gb330, _, none⟩) (nB_ hw321_0 GW330.out) _).trans (((cF (p := ⟨gb330, _, none⟩) (nB_ hw321_0 GW330.out) _).trans (hHeld.1)))))))))))), ((cF (p := ⟨gb330, _, none⟩) (nB_ hw321_1 GW330.out) _).trans (((cF (p := ⟨gb330, _, none⟩) (nB_ hw321_1 GW330.out) _).trans (((cF (p := ⟨gb330, _, none⟩) (nB_ hw321_1 GW330.out) _).trans (((cF (p := ⟨gb330, _, none⟩) (nB_ hw321_1 GW330.out) _).trans (((cF (p := ⟨gb330, _, none⟩) (nB_ hw321_1 GW330.out) _).trans (((cF (p := ⟨gb330, _, none⟩) (nB_ hw321_1 GW330.out) _).trans (hHeld.2.1)))))))))))), ((cF (p := ⟨gb330, _, none⟩) (nB_ hw321_2 GW330.out) _).trans (((cF (p := ⟨gb330, _, none⟩) (nB_ hw321_2 GW330.out) _).trans (((cF (p := ⟨gb330, _, none⟩) (nB_ hw321_2 GW330.out) _).trans (((cF (p := ⟨gb330, _, none⟩) (nB_ hw321_2 GW330.out) _).trans (((cF (p := ⟨gb330, _, none⟩) (nB_ hw321_2 GW330.out) _).trans (((cF (p := ⟨gb330, _, none⟩) (nB_ hw321_2 GW330.out) _).trans (hHeld.2.2.1)))))))))))), ((cF (p := ⟨gb330, _, none⟩) (nB_ hw321_3 GW330.out) _).trans (((cF (p := ⟨gb330, _, none⟩) (nB_ hw321_3 GW330.out) _).trans (((cF (p := ⟨gb330, _, none⟩) (nB_ hw321_3 GW330.out) _).trans (((cF (p := ⟨gb330, _, none⟩) (nB_ hw321_3 GW330.out) _).trans (((cF (p := ⟨gb330, _, none⟩) (nB_ hw321_3 GW330.out) _).trans (((cF (p := ⟨gb330, _, none⟩) (nB_ hw321_3 GW330.out) _).trans (hHeld.2.2.2.1)))))))))))), ((cF (p := ⟨gb330, _, none⟩) (nB_ hw321_4 GW330.out) _).trans (((cF (p := ⟨gb330, _, none⟩) (nB_ hw321_4 GW330.out) _).trans (((cF (p := ⟨gb330, _, none⟩) (nB_ hw321_4 GW330.out) _).trans (((cF (p := ⟨gb330, _, none⟩) (nB_ hw321_4 GW330.out) _).trans (((cF (p := ⟨gb330, _, none⟩) (nB_ hw321_4 GW330.out) _).trans (((cF (p := ⟨gb330, _, none⟩) (nB_ hw321_4 GW330.out) _).trans (hHeld.2.2.2.2.1)))))))))))), ((cF (p := ⟨gb330, _, none⟩) (nB_ hw321_5 GW330.out) _).trans (((cF (p := ⟨gb330, _, none⟩) (nB_ hw321_5 GW330.out) _).trans (((cF (p := ⟨gb330, _, none⟩) (nB_ hw321_5 GW330.out) _).trans (((cF (p := ⟨gb330, _, none⟩) (nB_ hw321_5 GW330.out) _).trans (((cF (p := ⟨gb330, _, none⟩) (nB_ hw321_5 GW330.out) _).trans (((cF (p := ⟨gb330, _, none⟩) (nB_ hw321_5 GW330.out) _).trans (hHeld.2.2.2.2.2.1)))))))))))), ((cF (p := ⟨gb330, _, none⟩) (by first | exact Kd.own_blk (Kd.R_ne HO_8.out BK330.out (by decide)) | (rw [add_block]; exact Kd.own_blk (Kd.R_ne HO_8.out BK330.out (by decide))) | (show (Addr.add _ _).block ≠ _; rw [add_block]; exact Kd.own_blk (Kd.R_ne HO_8.out BK330.out (by decide))) | (dsimp only; exact Kd.own_blk (Kd.R_ne HO_8.out BK330.out (by decide)))) _).trans (((cF (p := ⟨gb330, _, none⟩) (by first | exact Kd.own_blk (Kd.R_ne HO_8.out BK330.out (by decide)) | (rw [add_block]; exact Kd.own_blk (Kd.R_ne HO_8.out BK330.out (by decide))) | (show (Addr.add _ _).block ≠ _; rw [add_block]; exact Kd.own_blk (Kd.R_ne HO_8.out BK330.out (by decide))) | (dsimp only; exact Kd.own_blk (Kd.R_ne HO_8.out BK330.out (by decide)))) _).trans (((cF (p := ⟨gb330, _, none⟩) (by first | exact Kd.own_blk (Kd.R_ne HO_8.out BK330.out (by decide)) | (rw [add_block]; exact Kd.own_blk (Kd.R_ne HO_8.out BK330.out (by decide))) | (show (Addr.add _ _).block ≠ _; rw [add_block]; exact Kd.own_blk (Kd.R_ne HO_8.out BK330.out (by decide))) | (dsimp only; exact Kd.own_blk (Kd.R_ne HO_8.out BK330.out (by decide)))) _).trans (((cF (p := ⟨gb330, _, none⟩) (by first | exact Kd.own_blk (Kd.R_ne HO_8.out BK330.out (by decide)) | (rw [add_block]; exact Kd.own_blk (Kd.R_ne HO_8.out BK330.out (by decide))) | (show (Addr.add _ _).block ≠ _; rw [add_block]; exact Kd.own_blk (Kd.R_ne HO_8.out BK330.out (by decide))) | (dsimp only; exact Kd.own_blk (Kd.R_ne HO_8.out BK330.out (by decide)))) _).trans (((cF (p := ⟨gb330, _, none⟩) (by first | exact Kd.own_blk (Kd.R_ne HO_8.out BK330.out (by decide)) | (rw [add_block]; exact Kd.own_blk (Kd.R_ne HO_8.out BK330.out (by decide))) | (show (Addr.add _ _).block ≠ _; rw [add_block]; exact Kd.own_blk (Kd.R_ne HO_8.out BK330.out (by decide))) | (dsimp only; exact Kd.own_blk (Kd.R_ne HO_8.out BK330.out (by decide)))) _).trans (((cF (p := ⟨gb330, _, none⟩) (by first | exact Kd.own_blk (Kd.R_ne HO_8.out BK330.out (by decide)) | (rw [add_block]; exact Kd.own_blk (Kd.R_ne HO_8.out BK330.out (by decide))) | (show (Addr.add _ _).block ≠ _; rw [add_block]; exact Kd.own_blk (Kd.R_ne HO_8.out BK330.out (by decide))) | (dsimp only; exact Kd.own_blk (Kd.R_ne HO_8.out BK330.out (by decide)))) _).trans (hHeld.2.2.2.2.2.2.1)))))))))))), ((cF (p := ⟨gb330, _, none⟩) (by first | exact Kd.own_blk (Kd.R_ne HO_8.out BK330.out (by decide)) | (rw [add_block]; exact Kd.own_blk (Kd.R_ne HO_8.out BK330.out (by decide))) | (show (Addr.add _ _).block ≠ _; rw [add_block]; exact Kd.own_blk (Kd.R_ne HO_8.out BK330.out (by decide))) | (dsimp only; exact Kd.own_blk (Kd.R_ne HO_8.out BK330.out (by decide)))) _).trans (((cF (p := ⟨gb330, _, none⟩) (by first | exact Kd.own_blk (Kd.R_ne HO_8.out BK330.out (by decide)) | (rw [add_block]; exact Kd.own_blk (Kd.R_ne HO_8.out BK330.out (by decide))) | (show (Addr.add _ _).block ≠ _; rw [add_block]; exact Kd.own_blk (Kd.R_ne HO_8.out BK330.out (by decide))) | (dsimp only; exact Kd.own_blk (Kd.R_ne HO_8.out BK330.out (by decide)))) _).trans (((cF (p := ⟨gb330, _, none⟩) (by first | exact Kd.own_blk (Kd.R_ne HO_8.out BK330.out (by decide)) | (rw [add_block]; exact Kd.own_blk (Kd.R_ne HO_8.out BK330.out (by decide))) | (show (Addr.add _ _).block ≠ _; rw [add_block]; exact Kd.own_blk (Kd.R_ne HO_8.out BK330.out (by decide))) | (dsimp only; exact Kd.own_blk (Kd.R_ne HO_8.out BK330.out (by decide)))) _).trans (((cF (p := ⟨gb330, _, none⟩) (by first | exact Kd.own_blk (Kd.R_ne HO_8.out BK330.out (by decide)) | (rw [add_block]; exact Kd.own_blk (Kd.R_ne HO_8.out BK330.out (by decide))) | (show (Addr.add _ _).block ≠ _; rw [add_block]; exact Kd.own_blk (Kd.R_ne HO_8.out BK330.out (by decide))) | (dsimp only; exact Kd.own_blk (Kd.R_ne HO_8.out BK330.out (by decide)))) _).trans (((cF (p := ⟨gb330, _, none⟩) (by first | exact Kd.own_blk (Kd.R_ne HO_8.out BK330.out (by decide)) | (rw [add_block]; exact Kd.own_blk (Kd.R_ne HO_8.out BK330.out (by decide))) | (show (Addr.add _ _).block ≠ _; rw [add_block]; exact Kd.own_blk (Kd.R_ne HO_8.out BK330.out (by decide))) | (dsimp only; exact Kd.own_blk (Kd.R_ne HO_8.out BK330.out (by decide)))) _).trans (((cF (p := ⟨gb330, _, none⟩) (by first | exact Kd.own_blk (Kd.R_ne HO_8.out BK330.out (by decide)) | (rw [add_block]; exact Kd.own_blk (Kd.R_ne HO_8.out BK330.out (by decide))) | (show (Addr.add _ _).block ≠ _; rw [add_block]; exact Kd.own_blk (Kd.R_ne HO_8.out BK330.out (by decide))) | (dsimp only; exact Kd.own_blk (Kd.R_ne HO_8.out BK330.out (by decide)))) _).trans (hHeld.2.2.2.2.2.2.2))))))))))))⟩ (fun hHeld => ?_)
                   clear hK K
                   refine pU_ 14 13 #[YY,YY,YY,YY,YY,YY,YY,YY,YY,YY,YY,YY,YY,YY,YY] ?_
                   refine done_ (done_of HT_.out (by kernel_rfl)) ?_
                   have hcz45_0 := cz_ BK330.out 0
                   have hcz45_1 := cz_ BK330.out 1
                   have hcz45_2 := cz_ BK330.out 2
                   have hcz45_3 := cz_ BK330.out 3
                   have hcz45_4 := cz_ BK330.out 4
                   have hcz45_5 := cz_ BK330.out 5
                   have hfz45_0 := bF BK330.out 0
                   have hfz45_1 := bF BK330.out 1
                   have hfz45_2 := bF BK330.out 2
                   have hfz45_3 := bF BK330.out 3
                   have hfz45_4 := bF BK330.out 4
                   have hfz45_5 := bF BK330.out 5
                   try go_wp2_with (first | ((with_reducible refine gate_builtin (b := .append) (xs := #[.tmp 63, .tmp 65]) rfl ?_); at_builtin; refine Kd.R_append k32 (w0 := w) w.heap.size rfl (.tmp 63) (.tmp 65) 22 32 (.agg #[(.int .u8 0), (.int .i64 0), (.string ⟨#[]⟩), (.string ⟨#[]⟩), (.string ⟨#[]⟩), (.int .u64 0)]) 72 rfl Try.underlying22 info32 rfl (by decide) (by omega) u10 x10_2 (⟨t323, t324, t325, t326, t327, t328⟩ : S32) [.int .u8 t323, .int .i64 t324, .string t325, .string t326, .string t327, .int .u64 t328] (fun k_ => k_ ≠ gb330) (fun _ => False) rfl (by first | (go_simp; done) | (go_simp; rfl)) ?aP (fun _ hk => hk.elim) ?aF ?aO ?aB ?aS ?aL ?_; (case aP => exact k32_mkM _ _ _ (⟨t323, t324, t325, t326, t327, t328⟩ : S32)); (case aB => exact (bS1_ GE330.out)); (case aF => exact (fun k_ hk => Kd.freshB (g := gb330) (o := .cells #[.int .u8 t323, .int .i64 t324, .string t325, .string t326, .string t327, .int .u64 t328] 32 (0, 0)) (by (with_reducible repeat (first | refine bN ?_ _ | refine bD ?_ | refine bA ?_ _)); refine bP (cs := #[.int .u8 t323, .int .i64 t324, .string t325, .string t326, .string t327, .int .u64 0]) ?_ 5 _ rfl; (with_reducible repeat (first | refine bN ?_ _ | refine bD ?_ | refine bA ?_ _)); refine bP (cs := #[.int .u8 t323, .int .i64 t324, .string t325, .string t326, .string (⟨#[]⟩ : BA), .int .u64 0]) ?_ 4 _ rfl; (with_reducible repeat (first | refine bN ?_ _ | refine bD ?_ | refine bA ?_ _)); refine bP (cs := #[.int .u8 t323, .int .i64 t324, .string t325, .string (⟨#[]⟩ : BA), .string (⟨#[]⟩ : BA), .int .u64 0]) ?_ 3 _ rfl; (with_reducible repeat (first | refine bN ?_ _ | refine bD ?_ | refine bA ?_ _)); refine bP (cs := #[.int .u8 t323, .int .i64 t324, .string (⟨#[]⟩ : BA), .string (⟨#[]⟩ : BA), .string (⟨#[]⟩ : BA), .int .u64 0]) ?_ 2 _ rfl; (with_reducible repeat (first | refine bN ?_ _ | refine bD ?_ | refine bA ?_ _)); refine bP (cs := #[.int .u8 t323, .int .i64 0, .string (⟨#[]⟩ : BA), .string (⟨#[]⟩ : BA), .string (⟨#[]⟩ : BA), .int .u64 0]) ?_ 1 _ rfl; (with_reducible repeat (first | refine bN ?_ _ | refine bD ?_ | refine bA ?_ _)); refine bP (cs := #[.int .u8 0, .int .i64 0, .string (⟨#[]⟩ : BA), .string (⟨#[]⟩ : BA), .string (⟨#[]⟩ : BA), .int .u64 0]) ?_ 0 _ rfl; (with_reducible repeat (first | refine bN ?_ _ | refine bD ?_ | refine bA ?_ _)); exact BK330.out) k_ hk)); (case aO => exact (by (with_reducible repeat (first | apply Kd.R_alloc | apply Kd.R_drewN | apply Kd.R_drew)); exact Kd.R_mono (Kd.R_far (p := ⟨gb330, 5, none⟩) (Kd.R_far (p := ⟨gb330, 4, none⟩) (Kd.R_far (p := ⟨gb330, 3, none⟩) (Kd.R_far (p := ⟨gb330, 2, none⟩) (Kd.R_far (p := ⟨gb330, 1, none⟩) (Kd.R_far (p := ⟨gb330, 0, none⟩) (Kd.R_mono HO_10.out (fun k_ hk => (⟨hk, hk⟩ : _ ∧ k_ ≠ gb330))) (fun _ hk => hk.2) (.int .u8 t323)) (fun _ hk => hk.2) (.int .i64 t324)) (fun _ hk => hk.2) (.string t325)) (fun _ hk => hk.2) (.string t326)) (fun _ hk => hk.2) (.string t327)) (fun _ hk => hk.2) (.int .u64 t328)) (fun _ hk => hk.1))); (case aS => exact (wZ (bS1_ GE330.out))); (case aL => have := LMc34.out; omega); intro v332 w46 ho hb hg hat; rw [← Ny331.out] at ho; have n0_ := Aside0.mk (Kd.R_over' (by (with_reducible repeat (first | apply Kd.R_alloc | apply Kd.R_drewN | apply Kd.R_drew)); exact (Kd.R_mono (Kd.R_far (p := ⟨gb330, 5, none⟩) (Kd.R_far (p := ⟨gb330, 4, none⟩) (Kd.R_far (p := ⟨gb330, 3, none⟩) (Kd.R_far (p := ⟨gb330, 2, none⟩) (Kd.R_far (p := ⟨gb330, 1, none⟩) (Kd.R_far (p := ⟨gb330, 0, none⟩) (Kd.R_types HO_7.out BK330.out (by decide)) (fun _ hk => hk.2) (.int .u8 t323)) (fun _ hk => hk.2) (.int .i64 t324)) (fun _ hk => hk.2) (.string t325)) (fun _ hk => hk.2) (.string t326)) (fun _ hk => hk.2) (.string t327)) (fun _ hk => hk.2) (.int .u64 t328)) (fun _ h_ => h_.1))) (Kd.R_typed (by (with_reducible repeat (first | apply Kd.R_alloc | apply Kd.R_drewN | apply Kd.R_drew)); exact (Kd.R_mono (Kd.R_far (p := ⟨gb330, 5, none⟩) (Kd.R_far (p := ⟨gb330, 4, none⟩) (Kd.R_far (p := ⟨gb330, 3, none⟩) (Kd.R_far (p := ⟨gb330, 2, none⟩) (Kd.R_far (p := ⟨gb330, 1, none⟩) (Kd.R_far (p := ⟨gb330, 0, none⟩) (Kd.R_mono HO_10.out (fun k_ hk => (⟨hk, hk⟩ : _ ∧ k_ ≠ gb330))) (fun _ hk => hk.2) (.int .u8 t323)) (fun _ hk => hk.2) (.int .i64 t324)) (fun _ hk => hk.2) (.string t325)) (fun _ hk => hk.2) (.string t326)) (fun _ hk => hk.2) (.string t327)) (fun _ hk => hk.2) (.int .u64 t328)) (fun _ h_ => h_.1)))) (by decide) hg); have n1_ := Aside0.mk (Kd.R_over' (by (with_reducible repeat (first | apply Kd.R_alloc | apply Kd.R_drewN | apply Kd.R_drew)); exact (Kd.R_mono (Kd.R_far (p := ⟨gb330, 5, none⟩) (Kd.R_far (p := ⟨gb330, 4, none⟩) (Kd.R_far (p := ⟨gb330, 3, none⟩) (Kd.R_far (p := ⟨gb330, 2, none⟩) (Kd.R_far (p := ⟨gb330, 1, none⟩) (Kd.R_far (p := ⟨gb330, 0, none⟩) (Kd.R_types HO_8.out BK330.out (by decide)) (fun _ hk => hk.2) (.int .u8 t323)) (fun _ hk => hk.2) (.int .i64 t324)) (fun _ hk => hk.2) (.string t325)) (fun _ hk => hk.2) (.string t326)) (fun _ hk => hk.2) (.string t327)) (fun _ hk => hk.2) (.int .u64 t328)) (fun _ h_ => h_.1))) (Kd.R_typed (by (with_reducible repeat (first | apply Kd.R_alloc | apply Kd.R_drewN | apply Kd.R_drew)); exact (Kd.R_mono (Kd.R_far (p := ⟨gb330, 5, none⟩) (Kd.R_far (p := ⟨gb330, 4, none⟩) (Kd.R_far (p := ⟨gb330, 3, none⟩) (Kd.R_far (p := ⟨gb330, 2, none⟩) (Kd.R_far (p := ⟨gb330, 1, none⟩) (Kd.R_far (p := ⟨gb330, 0, none⟩) (Kd.R_mono HO_10.out (fun k_ hk => (⟨hk, hk⟩ : _ ∧ k_ ≠ gb330))) (fun _ hk => hk.2) (.int .u8 t323)) (fun _ hk => hk.2) (.int .i64 t324)) (fun _ hk => hk.2) (.string t325)) (fun _ hk => hk.2) (.string t326)) (fun _ hk => hk.2) (.string t327)) (fun _ hk => hk.2) (.int .u64 t328)) (fun _ h_ => h_.1)))) (by decide) hg); have n2_ := Aside0.mk (blk_grown (g := gb330) (o := .cells #[.int .u8 t323, .int .i64 t324, .string t325, .string t326, .string t327, .int .u64 t328] 32 (0, 0)) (by (with_reducible repeat (first | refine bN ?_ _ | refine bD ?_ | refine bA ?_ _)); refine bP (cs := #[.int .u8 t323, .int .i64 t324, .string t325, .string t326, .string t327, .int .u64 0]) ?_ 5 _ rfl; (with_reducible repeat (first | refine bN ?_ _ | refine bD ?_ | refine bA ?_ _)); refine bP (cs := #[.int .u8 t323, .int .i64 t324, .string t325, .string t326, .string (⟨#[]⟩ : BA), .int .u64 0]) ?_ 4 _ rfl; (with_reducible repeat (first | refine bN ?_ _ | refine bD ?_ | refine bA ?_ _)); refine bP (cs := #[.int .u8 t323, .int .i64 t324, .string t325, .string (⟨#[]⟩ : BA), .string (⟨#[]⟩ : BA), .int .u64 0]) ?_ 3 _ rfl; (with_reducible repeat (first | refine bN ?_ _ | refine bD ?_ | refine bA ?_ _)); refine bP (cs := #[.int .u8 t323, .int .i64 t324, .string (⟨#[]⟩ : BA), .string (⟨#[]⟩ : BA), .string (⟨#[]⟩ : BA), .int .u64 0]) ?_ 2 _ rfl; (with_reducible repeat (first | refine bN ?_ _ | refine bD ?_ | refine bA ?_ _)); refine bP (cs := #[.int .u8 t323, .int .i64 0, .string (⟨#[]⟩ : BA), .string (⟨#[]⟩ : BA), .string (⟨#[]⟩ : BA), .int .u64 0]) ?_ 1 _ rfl; (with_reducible repeat (first | refine bN ?_ _ | refine bD ?_ | refine bA ?_ _)); refine bP (cs := #[.int .u8 0, .int .i64 0, .string (⟨#[]⟩ : BA), .string (⟨#[]⟩ : BA), .string (⟨#[]⟩ : BA), .int .u64 0]) ?_ 0 _ rfl; (with_reducible repeat (first | refine bN ?_ _ | refine bD ?_ | refine bA ?_ _)); exact BK330.out) hg (Kd.R_away HO_10.out (fun _ hk => hk))); have n3_ := Aside0.mk (hb); have n4_ := Aside0.mk (ho); clear HO_7; clear HO_8; clear BK330; clear HB; clear HO_10; have HO_7 := n0_; have HO_8 := n1_; have BK330 := n2_; have HB := n3_; have HO333 := n4_; clear n0_ n1_ n2_ n3_ n4_; clear ho hb hg hat))
                   go_roundg k2
                   case measure => have := HK1.out; have := HK2.out; omega
                   case rel => exact ⟨(y331), (wrap64 (x11_2 + 1)), (by first | rfl | (simp; done) | (simp [*]; done)), H', ⟨by have := HK1.out; have := HK2.out; omega⟩, ⟨by (with_reducible repeat (first | apply Kd.R_alloc | apply Kd.R_drewN | apply Kd.R_drew)); exact HO_7.out⟩, ⟨by (with_reducible repeat (first | apply Kd.R_alloc | apply Kd.R_drewN | apply Kd.R_drew)); exact HO_8.out⟩, ⟨by (with_reducible repeat (first | apply Kd.R_alloc | apply Kd.R_drewN | apply Kd.R_drew)); exact Kd.R_mono HO333.out (fun _ hk => trivial)⟩, ⟨by repeat (first | (with_reducible first | exact HB.out | apply wA | apply wN | apply w1 | refine wS ?_ GE330.out) | exact HB.out)⟩⟩
                  ·rw [if_neg c34] at H
                   exact absurd H (by simp)
                 ·replace c33 := Bool.eq_false_iff.mpr c33
                  subst c33
                  have H1 : (catchmenttop_TopParted.l1 k2 y299 y303 x7_1 t308 x9_1 x10_2 (wrap64 (x11_2 + 1))) = some r := by rw [if_neg (show ¬ (false = true) by decide)] at H; exact H
                  clear H
                  have H := H1
                  clear H1
                  have H' := Aside0.mk H
                  clear H
                  try go_wp2
                  have n0_ := Aside0.mk (Kd.R_drew HO_7.out)
                  have n1_ := Aside0.mk (Kd.R_drew HO_8.out)
                  have n2_ := Aside0.mk (Kd.R_drew HO_10.out)
                  have n3_ := Aside0.mk (w1 HB.out)
                  clear HO_7
                  clear HO_8
                  clear HO_10
                  clear HB
                  have HO_7 := n0_
                  have HO_8 := n1_
                  have HO_10 := n2_
                  have HB := n3_
                  clear n0_ n1_ n2_ n3_
                  have p321 : 0 ≤ (x11_2 : Int) := of_decide_eq_true (by first | (with_reducible assumption) | assumption)
                  have q321 : x11_2 < (y299.length : Int) := of_decide_eq_true (by first | (with_reducible assumption) | assumption)
                  obtain ⟨ad321, e321, hx321_0, hx321_1, hx321_2, hx321_3, hx321_4, hx321_5⟩ := at_T32 HR302.out x11_2 p321 q321
                  have hw321_5 := hx321_5
                  have hw321_4 := hx321_4
                  have hw321_3 := hx321_3
                  have hw321_2 := hx321_2
                  have hw321_1 := hx321_1
                  have hw321_0 := hx321_0
                  cases e321
                  replace hx321_0 := (HB.out.cell (World.block_lt_of_cell? w _ hx321_0)).trans hx321_0
                  replace hx321_1 := (HB.out.cell (World.block_lt_of_cell? w _ hx321_1)).trans hx321_1
                  replace hx321_2 := (HB.out.cell (World.block_lt_of_cell? w _ hx321_2)).trans hx321_2
                  replace hx321_3 := (HB.out.cell (World.block_lt_of_cell? w _ hx321_3)).trans hx321_3
                  replace hx321_4 := (HB.out.cell (World.block_lt_of_cell? w _ hx321_4)).trans hx321_4
                  replace hx321_5 := (HB.out.cell (World.block_lt_of_cell? w _ hx321_5)).trans hx321_5
                  replace p321 := eq_true p321
                  replace q321 := eq_true q321
                  have p322 : 0 ≤ (x9_1 : Int) := of_decide_eq_true (by first | (with_reducible assumption) | assumption)
                  have q322 : x9_1 < (t308.length : Int) := of_decide_eq_true (by first | (with_reducible assumption) | assumption)
                  obtain ⟨ad322, e322, hx322_0, hx322_1⟩ := at_T28 (Kd.R_reads' HO_8.out).2.2 x9_1 p322 q322
                  cases e322
                  replace p322 := eq_true p322
                  replace q322 := eq_true q322
                  refine start_ (n := 15) (S := fun w' => w'.cell? (ad321.add ((x11_2).toNat * 6)) = some (.int .u8 ((rd_T32 y299 x11_2).f0)) ∧ w'.cell? ⟨(ad321.add ((x11_2).toNat * 6)).block, (ad321.add ((x11_2).toNat * 6)).off + 1, none⟩ = some (.int .i64 ((rd_T32 y299 x11_2).f1)) ∧ w'.cell? ⟨(ad321.add ((x11_2).toNat * 6)).block, (ad321.add ((x11_2).toNat * 6)).off + 2, none⟩ = some (.string ((rd_T32 y299 x11_2).f2)) ∧ w'.cell? ⟨(ad321.add ((x11_2).toNat * 6)).block, (ad321.add ((x11_2).toNat * 6)).off + 3, none⟩ = some (.string ((rd_T32 y299 x11_2).f3)) ∧ w'.cell? ⟨(ad321.add ((x11_2).toNat * 6)).block, (ad321.add ((x11_2).toNat * 6)).off + 4, none⟩ = some (.string ((rd_T32 y299 x11_2).f4)) ∧ w'.cell? ⟨(ad321.add ((x11_2).toNat * 6)).block, (ad321.add ((x11_2).toNat * 6)).off + 5, none⟩ = some (.int .u64 ((rd_T32 y299 x11_2).f5)) ∧ w'.cell? (ad322.add ((x9_1).toNat * 2)) = some (.string ((rd_T28 t308 x9_1).f0)) ∧ w'.cell? ⟨(ad322.add ((x9_1).toNat * 2)).block, (ad322.add ((x9_1).toNat * 2)).off + 1, none⟩ = some (.string ((rd_T28 t308 x9_1).f1))) (ds := []) #[ZZ,ZZ,ZZ,ZZ,ZZ,ZZ,ZZ,ZZ,ZZ,ZZ,ZZ,ZZ,ZZ,ZZ,ZZ] (by kernel_rfl) rfl rfl ⟨((HB.out.cell (World.block_lt_of_cell? w _ hw321_0)).trans hw321_0), ((HB.out.cell (World.block_lt_of_cell? w _ hw321_1)).trans hw321_1), ((HB.out.cell (World.block_lt_of_cell? w _ hw321_2)).trans hw321_2), ((HB.out.cell (World.block_lt_of_cell? w _ hw321_3)).trans hw321_3), ((HB.out.cell (World.block_lt_of_cell? w _ hw321_4)).trans hw321_4), ((HB.out.cell (World.block_lt_of_cell? w _ hw321_5)).trans hw321_5), hx322_0, hx322_1⟩ (fun hHeld => ?_); refine with_tabW catchmenttop_TopParted.tab13 catchmenttop_TopParted.bits13 (fun HT_ HW_ => ?_)
                  generalize wr.drew = w47 at HO_7 HO_8 HO_10 HB hx321_0 hx321_1 hx321_2 hx321_3 hx321_4 hx321_5 hx322_0 hx322_1 hHeld ⊢
                  refine pU_ 0 51 #[YY,ZZ,ZZ,ZZ,ZZ,ZZ,ZZ,ZZ,ZZ,ZZ,ZZ,ZZ,ZZ,ZZ,ZZ] ?_
                  refine pU_ 1 52 #[YY,YY,ZZ,ZZ,ZZ,ZZ,ZZ,ZZ,ZZ,ZZ,ZZ,ZZ,ZZ,ZZ,ZZ] ?_
                  refine pU_ 2 53 #[YY,YY,YY,ZZ,ZZ,ZZ,ZZ,ZZ,ZZ,ZZ,ZZ,ZZ,ZZ,ZZ,ZZ] ?_
                  refine pU_ 4 55 #[YY,YY,YY,ZZ,YY,ZZ,ZZ,ZZ,ZZ,ZZ,ZZ,ZZ,ZZ,ZZ,ZZ] ?_
                  refine pU_ 5 56 #[YY,YY,YY,ZZ,YY,YY,ZZ,ZZ,ZZ,ZZ,ZZ,ZZ,ZZ,ZZ,ZZ] ?_
                  refine pU_ 6 57 #[YY,YY,YY,ZZ,YY,YY,YY,ZZ,ZZ,ZZ,ZZ,ZZ,ZZ,ZZ,ZZ] ?_
                  refine take_ (i := 3) (N := some 54) (v := ?_) (a' := ?_) #[YY,YY,YY,YY,YY,YY,YY,ZZ,ZZ,ZZ,ZZ,ZZ,ZZ,ZZ,ZZ] rfl rfl (take_ofW HT_.out HW_.out (by kernel_rfl)) (fun _ _ _ h => h) (Or.inl ⟨by rfl, ?_⟩) hHeld ?_ ?_
                  rotate_left
                  ·rintro w' ⟨s0, s1, s2, s3, s4, s5, s6, s7⟩
                   go_simp
                   with_reducible rfl
                  rotate_left
                  ·simp only [Act.put, sA1, sA2, sA3, i64_w, i32_w]
                   rfl
                  refine take_ (i := 7) (N := some 58) (v := ?_) (a' := ?_) #[YY,YY,YY,YY,YY,YY,YY,YY,ZZ,ZZ,ZZ,ZZ,ZZ,ZZ,ZZ] rfl rfl (take_ofW HT_.out HW_.out (by kernel_rfl)) (fun _ _ _ h => h) (Or.inl ⟨by rfl, ?_⟩) hHeld ?_ ?_
                  rotate_left
                  ·rintro w' ⟨s0, s1, s2, s3, s4, s5, s6, s7⟩
                   go_simp
                   with_reducible rfl
                  rotate_left
                  ·simp only [Act.put, sA1, sA2, sA3, i64_w, i32_w]
                   rfl
                  refine join_ (σ := Nat) 2 #[YY,YY,YY,YY,YY,YY,YY,YY,YY,YY,YY,YY,YY,ZZ,ZZ] (fun s_ => [(59, .tuple #[.agg #[.int .u8 t323, .int .i64 t324, .string t325, .string t326, .string t327, .int .u64 t328], .bool false]), (12, .pointer (some ⟨s_, 0, none⟩)), (50, .tuple #[.agg #[.int .u8 t323, .int .i64 t324, .string t325, .string t326, .string t327, .int .u64 t328], .bool false]), (60, .agg #[.int .u8 t323, .int .i64 t324, .string t325, .string t326, .string t327, .int .u64 t328]), (61, .bool false)]) (fun s_ w' => (w'.cell? (ad321.add ((x11_2).toNat * 6)) = some (.int .u8 ((rd_T32 y299 x11_2).f0)) ∧ w'.cell? ⟨(ad321.add ((x11_2).toNat * 6)).block, (ad321.add ((x11_2).toNat * 6)).off + 1, none⟩ = some (.int .i64 ((rd_T32 y299 x11_2).f1)) ∧ w'.cell? ⟨(ad321.add ((x11_2).toNat * 6)).block, (ad321.add ((x11_2).toNat * 6)).off + 2, none⟩ = some (.string ((rd_T32 y299 x11_2).f2)) ∧ w'.cell? ⟨(ad321.add ((x11_2).toNat * 6)).block, (ad321.add ((x11_2).toNat * 6)).off + 3, none⟩ = some (.string ((rd_T32 y299 x11_2).f3)) ∧ w'.cell? ⟨(ad321.add ((x11_2).toNat * 6)).block, (ad321.add ((x11_2).toNat * 6)).off + 4, none⟩ = some (.string ((rd_T32 y299 x11_2).f4)) ∧ w'.cell? ⟨(ad321.add ((x11_2).toNat * 6)).block, (ad321.add ((x11_2).toNat * 6)).off + 5, none⟩ = some (.int .u64 ((rd_T32 y299 x11_2).f5)) ∧ w'.cell? (ad322.add ((x9_1).toNat * 2)) = some (.string ((rd_T28 t308 x9_1).f0)) ∧ w'.cell? ⟨(ad322.add ((x9_1).toNat * 2)).block, (ad322.add ((x9_1).toNat * 2)).off + 1, none⟩ = some (.string ((rd_T28 t308 x9_1).f1))) ∧ (Kd.R k32 32 w' w.heap.size (fun k_ => k_ ≠ s_) u10 x10_2) ∧ (Kd.R k39 39 w' w.heap.size (fun _ => True) u7 x7_1) ∧ (Kd.R k28 28 w' w.heap.size (fun _ => True) (.slice (some ad322) t308.length co26) t308) ∧ (w'.heap[s_]? = some (.cells #[.int .u8 0, .int .i64 0, .string (⟨#[]⟩ : BA), .string (⟨#[]⟩ : BA), .string (⟨#[]⟩ : BA), .int .u64 0] 32 (0, 0))) ∧ (w.heap.size ≤ s_) ∧ (w.heap.size ≤ s_) ∧ (Below w.heap.size w w')) ?_ ?_
                  rotate_left
                  ·intro hCont
                   refine two_ (i := 8) (j := 12) (Ni := some 59) (Nj := some 12) #[YY,YY,YY,YY,YY,YY,YY,YY,YY,ZZ,ZZ,ZZ,ZZ,ZZ,ZZ] #[YY,YY,YY,YY,YY,YY,YY,YY,ZZ,ZZ,ZZ,ZZ,YY,ZZ,ZZ] rfl rfl rfl rfl (two_of HT_.out (by kernel_rfl)) (by decide) (by decide) (fun K hK => ?_) (fun K hK => ?_)
                   ·skip
                    refine goes_ Try.func14 (by kernel_rfl) rfl #[.agg #[.int .u8 ((rd_T32 y299 x11_2).f0), .int .i64 ((rd_T32 y299 x11_2).f1), .string ((rd_T32 y299 x11_2).f2), .string ((rd_T32 y299 x11_2).f3), .string ((rd_T32 y299 x11_2).f4), .int .u64 ((rd_T32 y299 x11_2).f5)], .agg #[.string ((rd_T28 t308 x9_1).f0), .string ((rd_T28 t308 x9_1).f1)]] (by rfl) rfl rfl mS_ ?_
                    with_reducible refine (msg_Clip.calls k2 ((rd_T32 y299 x11_2).f0) ((rd_T32 y299 x11_2).f1) ((rd_T32 y299 x11_2).f2) ((rd_T32 y299 x11_2).f3) ((rd_T32 y299 x11_2).f4) ((rd_T32 y299 x11_2).f5) ((rd_T28 t308 x9_1).f0) ((rd_T28 t308 x9_1).f1) t323 t324 t325 t326 t327 t328 false _ A32.out).mono ?_
                    rintro e w48 ⟨rfl, hb⟩
                    have HS6_ := (hb.cell (World.block_lt_of_cell? _ _ (hHeld.2.2.2.2.2.2.1))).trans (hHeld.2.2.2.2.2.2.1)
                    have HS7_ := (hb.cell (World.block_lt_of_cell? _ _ (hHeld.2.2.2.2.2.2.2))).trans (hHeld.2.2.2.2.2.2.2)
                    refine ⟨_, rfl, ?_⟩
                    have n0_ := Aside0.mk (Kd.R_below (kR_ HO_7.out) hb)
                    have n1_ := Aside0.mk (Kd.R_below (kR_ HO_8.out) hb)
                    have n2_ := Aside0.mk (Kd.R_below (kR_ HO_10.out) hb)
                    have n3_ := Aside0.mk (wT bW_ hb)
                    clear HO_7
                    clear HO_8
                    clear HO_10
                    clear HB
                    have HO_7 := n0_
                    have HO_8 := n1_
                    have HO_10 := n2_
                    have HB := n3_
                    clear n0_ n1_ n2_ n3_
                    (try clear hb)
                    (try clear hb2)
                    (try clear hk)
                    (try clear hi)
                    refine hK.out _ _ ⟨((HB.out.cell (World.block_lt_of_cell? w _ hw321_0)).trans hw321_0), ((HB.out.cell (World.block_lt_of_cell? w _ hw321_1)).trans hw321_1), ((HB.out.cell (World.block_lt_of_cell? w _ hw321_2)).trans hw321_2), ((HB.out.cell (World.block_lt_of_cell? w _ hw321_3)).trans hw321_3), ((HB.out.cell (World.block_lt_of_cell? w _ hw321_4)).trans hw321_4), ((HB.out.cell (World.block_lt_of_cell? w _ hw321_5)).trans hw321_5), HS6_, HS7_⟩ (fun hHeld => ?_)
                    clear hK K
                    refine norm_ (a' := ?_) ?_ ?_
                    rotate_left
                    ·show Act.put _ (some 59) _ = _
                     simp only [Act.put, sA1, sA2, sA3, i64_w, i32_w]
                     rfl
                    refine pU_ 9 50 #[YY,YY,YY,YY,YY,YY,YY,YY,YY,YY,ZZ,ZZ,ZZ,ZZ,ZZ] ?_
                    refine pU_ 10 60 #[YY,YY,YY,YY,YY,YY,YY,YY,YY,YY,YY,ZZ,ZZ,ZZ,ZZ] ?_
                    refine pU_ 11 61 #[YY,YY,YY,YY,YY,YY,YY,YY,YY,YY,YY,YY,ZZ,ZZ,ZZ] ?_
                    refine one_ (i := 12) (N := some 12) #[YY,YY,YY,YY,YY,YY,YY,YY,YY,YY,YY,YY,YY,ZZ,ZZ] rfl rfl (one_of HT_.out (by kernel_rfl)) (by decide) (fun K hK => ?_)
                    refine box_step ?hg (N := 12) ?hd (cs := #[.int .u8 0, .int .i64 0, .string (⟨#[]⟩ : BA), .string (⟨#[]⟩ : BA), .string (⟨#[]⟩ : BA), .int .u64 0]) (t := 32) ?hr ?_; (case hd => rfl); (case hg => rfl); (case hr => first | (go_simp; done) | (go_simp; rfl))
                    intro gb330 hg w49 hbox hb
                    have HS6_ := (hb.cell (World.block_lt_of_cell? _ _ (hHeld.2.2.2.2.2.2.1))).trans (hHeld.2.2.2.2.2.2.1)
                    have HS7_ := (hb.cell (World.block_lt_of_cell? _ _ (hHeld.2.2.2.2.2.2.2))).trans (hHeld.2.2.2.2.2.2.2)
                    have n0_ := Aside0.mk (Kd.R_below (kR_ HO_7.out) hb)
                    have n1_ := Aside0.mk (Kd.R_below (kR_ HO_8.out) hb)
                    have n2_ := Aside0.mk (Kd.R_below (Kd.R_elderB (kR_ HO_10.out) gb330 (Nat.le_of_eq hg.symm)) hb)
                    have n3_ := Aside0.mk (wT bW_ hb)
                    have n4_ := Aside0.mk (hbox)
                    have n5_ := Aside0.mk ((by rw [hg]; exact (wZ bW_) : w.heap.size ≤ gb330))
                    have n6_ := Aside0.mk ((by rw [hg]; exact (wZ bW_) : w.heap.size ≤ gb330))
                    clear HO_7
                    clear HO_8
                    clear HO_10
                    clear HB
                    have HO_7 := n0_
                    have HO_8 := n1_
                    have HO_10 := n2_
                    have HB := n3_
                    have BK330 := n4_
                    have GW330 := n5_
                    have GE330 := n6_
                    clear n0_ n1_ n2_ n3_ n4_ n5_ n6_
                    clear hb hbox hg
                    refine hK.out _ _ ⟨((HB.out.cell (World.block_lt_of_cell? w _ hw321_0)).trans hw321_0), ((HB.out.cell (World.block_lt_of_cell? w _ hw321_1)).trans hw321_1), ((HB.out.cell (World.block_lt_of_cell? w _ hw321_2)).trans hw321_2), ((HB.out.cell (World.block_lt_of_cell? w _ hw321_3)).trans hw321_3), ((HB.out.cell (World.block_lt_of_cell? w _ hw321_4)).trans hw321_4), ((HB.out.cell (World.block_lt_of_cell? w _ hw321_5)).trans hw321_5), HS6_, HS7_⟩ (fun hHeld => ?_)
                    clear hK K
                    refine norm_ (a' := ?_) ?_ ?_
                    rotate_left
                    ·show Act.put _ (some 12) _ = _
                     simp only [Act.put, sA1, sA2, sA3, i64_w, i32_w]
                     rfl
                    exact norm_ (by simp only [putAll, Act.put, sA1, sA2, sA3]) (hCont (gb330) _ ⟨hHeld, (by (with_reducible repeat (first | apply Kd.R_alloc | apply Kd.R_drewN | apply Kd.R_drew)); exact Kd.R_mono HO_10.out (fun _ hk => hk.2)), (kR_ HO_7.out), (kR_ HO_8.out), (bX_ BK330.out), GW330.out, GE330.out, (bS1_ GE330.out)⟩)
                   ·skip
                    refine box_step ?hg (N := 12) ?hd (cs := #[.int .u8 0, .int .i64 0, .string (⟨#[]⟩ : BA), .string (⟨#[]⟩ : BA), .string (⟨#[]⟩ : BA), .int .u64 0]) (t := 32) ?hr ?_; (case hd => rfl); (case hg => rfl); (case hr => first | (go_simp; done) | (go_simp; rfl))
                    intro gb330 hg w48 hbox hb
                    have HS6_ := (hb.cell (World.block_lt_of_cell? _ _ (hHeld.2.2.2.2.2.2.1))).trans (hHeld.2.2.2.2.2.2.1)
                    have HS7_ := (hb.cell (World.block_lt_of_cell? _ _ (hHeld.2.2.2.2.2.2.2))).trans (hHeld.2.2.2.2.2.2.2)
                    have n0_ := Aside0.mk (Kd.R_below (kR_ HO_7.out) hb)
                    have n1_ := Aside0.mk (Kd.R_below (kR_ HO_8.out) hb)
                    have n2_ := Aside0.mk (Kd.R_below (Kd.R_elderB (kR_ HO_10.out) gb330 (Nat.le_of_eq hg.symm)) hb)
                    have n3_ := Aside0.mk (wT bW_ hb)
                    have n4_ := Aside0.mk (hbox)
                    have n5_ := Aside0.mk ((by rw [hg]; exact (wZ bW_) : w.heap.size ≤ gb330))
                    have n6_ := Aside0.mk ((by rw [hg]; exact (wZ bW_) : w.heap.size ≤ gb330))
                    clear HO_7
                    clear HO_8
                    clear HO_10
                    clear HB
                    have HO_7 := n0_
                    have HO_8 := n1_
                    have HO_10 := n2_
                    have HB := n3_
                    have BK330 := n4_
                    have GW330 := n5_
                    have GE330 := n6_
                    clear n0_ n1_ n2_ n3_ n4_ n5_ n6_
                    clear hb hbox hg
                    refine hK.out _ _ ⟨((HB.out.cell (World.block_lt_of_cell? w _ hw321_0)).trans hw321_0), ((HB.out.cell (World.block_lt_of_cell? w _ hw321_1)).trans hw321_1), ((HB.out.cell (World.block_lt_of_cell? w _ hw321_2)).trans hw321_2), ((HB.out.cell (World.block_lt_of_cell? w _ hw321_3)).trans hw321_3), ((HB.out.cell (World.block_lt_of_cell? w _ hw321_4)).trans hw321_4), ((HB.out.cell (World.block_lt_of_cell? w _ hw321_5)).trans hw321_5), HS6_, HS7_⟩ (fun hHeld => ?_)
                    clear hK K
                    refine norm_ (a' := ?_) ?_ ?_
                    rotate_left
                    ·show Act.put _ (some 12) _ = _
                     simp only [Act.put, sA1, sA2, sA3, i64_w, i32_w]
                     rfl
                    refine one_ (i := 8) (N := some 59) #[YY,YY,YY,YY,YY,YY,YY,YY,YY,ZZ,ZZ,ZZ,YY,ZZ,ZZ] rfl rfl (one_of HT_.out (by kernel_rfl)) (by decide) (fun K hK => ?_)
                    refine goes_ Try.func14 (by kernel_rfl) rfl #[.agg #[.int .u8 ((rd_T32 y299 x11_2).f0), .int .i64 ((rd_T32 y299 x11_2).f1), .string ((rd_T32 y299 x11_2).f2), .string ((rd_T32 y299 x11_2).f3), .string ((rd_T32 y299 x11_2).f4), .int .u64 ((rd_T32 y299 x11_2).f5)], .agg #[.string ((rd_T28 t308 x9_1).f0), .string ((rd_T28 t308 x9_1).f1)]] (by rfl) rfl rfl mS_ ?_
                    with_reducible refine (msg_Clip.calls k2 ((rd_T32 y299 x11_2).f0) ((rd_T32 y299 x11_2).f1) ((rd_T32 y299 x11_2).f2) ((rd_T32 y299 x11_2).f3) ((rd_T32 y299 x11_2).f4) ((rd_T32 y299 x11_2).f5) ((rd_T28 t308 x9_1).f0) ((rd_T28 t308 x9_1).f1) t323 t324 t325 t326 t327 t328 false _ A32.out).mono ?_
                    rintro e w49 ⟨rfl, hb⟩
                    have HS6_ := (hb.cell (World.block_lt_of_cell? _ _ (hHeld.2.2.2.2.2.2.1))).trans (hHeld.2.2.2.2.2.2.1)
                    have HS7_ := (hb.cell (World.block_lt_of_cell? _ _ (hHeld.2.2.2.2.2.2.2))).trans (hHeld.2.2.2.2.2.2.2)
                    refine ⟨_, rfl, ?_⟩
                    have n0_ := Aside0.mk (Kd.R_below (kR_ HO_7.out) hb)
                    have n1_ := Aside0.mk (Kd.R_below (kR_ HO_8.out) hb)
                    have n2_ := Aside0.mk (Kd.R_below (kR_ HO_10.out) hb)
                    have n3_ := Aside0.mk (bB (bX_ BK330.out) hb)
                    have n4_ := Aside0.mk (wT (bS1_ GE330.out) hb)
                    clear HO_7
                    clear HO_8
                    clear HO_10
                    clear BK330
                    clear HB
                    have HO_7 := n0_
                    have HO_8 := n1_
                    have HO_10 := n2_
                    have BK330 := n3_
                    have HB := n4_
                    clear n0_ n1_ n2_ n3_ n4_
                    (try clear hb)
                    (try clear hb2)
                    (try clear hk)
                    (try clear hi)
                    refine hK.out _ _ ⟨((HB.out.cell (World.block_lt_of_cell? w _ hw321_0)).trans hw321_0), ((HB.out.cell (World.block_lt_of_cell? w _ hw321_1)).trans hw321_1), ((HB.out.cell (World.block_lt_of_cell? w _ hw321_2)).trans hw321_2), ((HB.out.cell (World.block_lt_of_cell? w _ hw321_3)).trans hw321_3), ((HB.out.cell (World.block_lt_of_cell? w _ hw321_4)).trans hw321_4), ((HB.out.cell (World.block_lt_of_cell? w _ hw321_5)).trans hw321_5), HS6_, HS7_⟩ (fun hHeld => ?_)
                    clear hK K
                    refine norm_ (a' := ?_) ?_ ?_
                    rotate_left
                    ·show Act.put _ (some 59) _ = _
                     simp only [Act.put, sA1, sA2, sA3, i64_w, i32_w]
                     rfl
                    refine pU_ 9 50 #[YY,YY,YY,YY,YY,YY,YY,YY,YY,YY,ZZ,ZZ,YY,ZZ,ZZ] ?_
                    refine pU_ 10 60 #[YY,YY,YY,YY,YY,YY,YY,YY,YY,YY,YY,ZZ,YY,ZZ,ZZ] ?_
                    refine pU_ 11 61 #[YY,YY,YY,YY,YY,YY,YY,YY,YY,YY,YY,YY,YY,ZZ,ZZ] ?_
                    exact norm_ (by simp only [putAll, Act.put, sA1, sA2, sA3]) (hCont (gb330) _ ⟨hHeld, (by (with_reducible repeat (first | apply Kd.R_alloc | apply Kd.R_drewN | apply Kd.R_drew)); exact Kd.R_mono HO_10.out (fun _ hk => hk.2)), (kR_ HO_7.out), (kR_ HO_8.out), (bX_ BK330.out), GW330.out, GE330.out, (bS1_ GE330.out)⟩)
                  rintro gb330 w50 ⟨hS_, h0_, h1_, h2_, h3_, h4_, h5_, h6_⟩
                  have n0_ : Aside0 (Kd.R k32 32 w50 w.heap.size (fun k_ => k_ ≠ gb330) u10 x10_2) := ⟨h0_⟩
                  have n1_ : Aside0 (Kd.R k39 39 w50 w.heap.size (fun _ => True) u7 x7_1) := ⟨h1_⟩
                  have n2_ : Aside0 (Kd.R k28 28 w50 w.heap.size (fun _ => True) (.slice (some ad322) t308.length co26) t308) := ⟨h2_⟩
                  have n3_ : Aside0 (w50.heap[gb330]? = some (.cells #[.int .u8 0, .int .i64 0, .string (⟨#[]⟩ : BA), .string (⟨#[]⟩ : BA), .string (⟨#[]⟩ : BA), .int .u64 0] 32 (0, 0))) := ⟨h3_⟩
                  have n4_ : Aside0 (w.heap.size ≤ gb330) := ⟨h4_⟩
                  have n5_ : Aside0 (w.heap.size ≤ gb330) := ⟨h5_⟩
                  have n6_ : Aside0 (Below w.heap.size w w50) := ⟨h6_⟩
                  clear HO_7
                  clear HO_8
                  clear HO_10
                  clear HB
                  clear h0_ h1_ h2_ h3_ h4_ h5_ h6_
                  have HO_10 := n0_
                  have HO_7 := n1_
                  have HO_8 := n2_
                  have BK330 := n3_
                  have GW330 := n4_
                  have GE330 := n5_
                  have HB := n6_
                  clear n0_ n1_ n2_ n3_ n4_ n5_ n6_
                  have hHeld : w50.cell? (ad321.add ((x11_2).toNat * 6)) = some (.int .u8 ((rd_T32 y299 x11_2).f0)) ∧ w50.cell? ⟨(ad321.add ((x11_2).toNat * 6)).block, (ad321.add ((x11_2).toNat * 6)).off + 1, none⟩ = some (.int .i64 ((rd_T32 y299 x11_2).f1)) ∧ w50.cell? ⟨(ad321.add ((x11_2).toNat * 6)).block, (ad321.add ((x11_2).toNat * 6)).off + 2, none⟩ = some (.string ((rd_T32 y299 x11_2).f2)) ∧ w50.cell? ⟨(ad321.add ((x11_2).toNat * 6)).block, (ad321.add ((x11_2).toNat * 6)).off + 3, none⟩ = some (.string ((rd_T32 y299 x11_2).f3)) ∧ w50.cell? ⟨(ad321.add ((x11_2).toNat * 6)).block, (ad321.add ((x11_2).toNat * 6)).off + 4, none⟩ = some (.string ((rd_T32 y299 x11_2).f4)) ∧ w50.cell? ⟨(ad321.add ((x11_2).toNat * 6)).block, (ad321.add ((x11_2).toNat * 6)).off + 5, none⟩ = some (.int .u64 ((rd_T32 y299 x11_2).f5)) ∧ w50.cell? (ad322.add ((x9_1).toNat * 2)) = some (.string ((rd_T28 t308 x9_1).f0)) ∧ w50.cell? ⟨(ad322.add ((x9_1).toNat * 2)).block, (ad322.add ((x9_1).toNat * 2)).off + 1, none⟩ = some (.string ((rd_T28 t308 x9_1).f1)) := hS_
                  refine norm_ (a' := ?_) ?_ ?_
                  rotate_left
                  ·simp only [putAll, Act.put, sA1, sA2, sA3]
                   rfl
                  refine one_ (i := 13) (N := none) #[YY,YY,YY,YY,YY,YY,YY,YY,YY,YY,YY,YY,YY,YY,ZZ] rfl rfl (one_of HT_.out (by kernel_rfl)) (by decide) (fun K hK => ?_)
                  have hs51 : w50.cell? ⟨gb330, 0, none⟩ = some (.int .u8 0) := (bC BK330.out 0).trans rfl
                  have hfs51 := bF BK330.out 0
                  have hs52 : w50.cell? ⟨gb330, 1, none⟩ = some (.int .i64 0) := (bC BK330.out 1).trans rfl
                  have hfs52 := bF BK330.out 1
                  have hs53 : w50.cell? ⟨gb330, 2, none⟩ = some (.string (⟨#[]⟩ : BA)) := (bC BK330.out 2).trans rfl
                  have hfs53 := bF BK330.out 2
                  have hs54 : w50.cell? ⟨gb330, 3, none⟩ = some (.string (⟨#[]⟩ : BA)) := (bC BK330.out 3).trans rfl
                  have hfs54 := bF BK330.out 3
                  have hs55 : w50.cell? ⟨gb330, 4, none⟩ = some (.string (⟨#[]⟩ : BA)) := (bC BK330.out 4).trans rfl
                  have hfs55 := bF BK330.out 4
                  have hs56 : w50.cell? ⟨gb330, 5, none⟩ = some (.int .u64 0) := (bC BK330.out 5).trans rfl
                  have hfs56 := bF BK330.out 5
                  refine skip_ (w1 := ?_) (by rfl) rfl ?_ ?_
                  rotate_left
                  ·go_simp
                   rfl
                  refine hK.out _ _ ⟨((cF (p := ⟨gb330, _, none⟩) (nB_ hw321_0 GW330.out) _).trans (((cF (p := ⟨gb330, _, none⟩) (nB_ hw321_0 GW330.out) _).trans (((cF (p := ⟨gb330, _, none⟩) (nB_ hw321_0 GW330.out) _).trans (((cF (p := ⟨gb330, _, none⟩) (nB_ hw321_0 GW330.out) _).trans (((cF (p := ⟨gb330, _, none⟩) (nB_ hw321_0 GW330.out) _).trans (((cF (p := ⟨gb330, _, none⟩) (nB_ hw321_0 GW330.out) _).trans (hHeld.1)))))))))))), ((cF (p := ⟨gb330, _, none⟩) (nB_ hw321_1 GW330.out) _).trans (((cF (p := ⟨gb330, _, none⟩) (nB_ hw321_1 GW330.out) _).trans (((cF (p := ⟨gb330, _, none⟩) (nB_ hw321_1 GW330.out) _).trans (((cF (p := ⟨gb330, _, none⟩) (nB_ hw321_1 GW330.out) _).trans (((cF (p := ⟨gb330, _, none⟩) (nB_ hw321_1 GW330.out) _).trans (((cF (p := ⟨gb330, _, none⟩) (nB_ hw321_1 GW330.out) _).trans (hHeld.2.1)))))))))))), ((cF (p := ⟨gb330, _, none⟩) (nB_ hw321_2 GW330.out) _).trans (((cF (p := ⟨gb330, _, none⟩) (nB_ hw321_2 GW330.out) _).trans (((cF (p := ⟨gb330, _, none⟩) (nB_ hw321_2 GW330.out) _).trans (((cF (p := ⟨gb330, _, none⟩) (nB_ hw321_2 GW330.out) _).trans (((cF (p := ⟨gb330, _, none⟩) (nB_ hw321_2 GW330.out) _).trans (((cF (p := ⟨gb330, _, none⟩) (nB_ hw321_2 GW330.out) _).trans (hHeld.2.2.1)))))))))))), ((cF (p := ⟨gb330, _, none⟩) (nB_ hw321_3 GW330.out) _).trans (((cF (p := ⟨gb330, _, none⟩) (nB_ hw321_3 GW330.out) _).trans (((cF (p := ⟨gb330, _, none⟩) (nB_ hw321_3 GW330.out) _).trans (((cF (p := ⟨gb330, _, none⟩) (nB_ hw321_3 GW330.out) _).trans (((cF (p := ⟨gb330, _, none⟩) (nB_ hw321_3 GW330.out) _).trans (((cF (p := ⟨gb330, _, none⟩) (nB_ hw321_3 GW330.out) _).trans (hHeld.2.2.2.1)))))))))))), ((cF (p := ⟨gb330, _, none⟩) (nB_ hw321_4 GW330.out) _).trans (((cF (p := ⟨gb330, _, none⟩) (nB_ hw321_4 GW330.out) _).trans (((cF (p := ⟨gb330, _, none⟩) (nB_ hw321_4 GW330.out) _).trans (((cF (p := ⟨gb330, _, none⟩) (nB_ hw321_4 GW330.out) _).trans (((cF (p := ⟨gb330, _, none⟩) (nB_ hw321_4 GW330.out) _).trans (((cF (p := ⟨gb330, _, none⟩) (nB_ hw321_4 GW330.out) _).trans (hHeld.2.2.2.2.1)))))))))))), ((cF (p := ⟨gb330, _, none⟩) (nB_ hw321_5 GW330.out) _).trans (((cF (p := ⟨gb330, _, none⟩) (nB_ hw321_5 GW330.out) _).trans (((cF (p := ⟨gb330, _, none⟩) (nB_ hw321_5 GW330.out) _).trans (((cF (p := ⟨gb330, _, none⟩) (nB_ hw321_5 GW330.out) _).trans (((cF (p := ⟨gb330, _, none⟩) (nB_ hw321_5 GW330.out) _).trans (((cF (p := ⟨gb330, _, none⟩) (nB_ hw321_5 GW330.out) _).trans (hHeld.2.2.2.2.2.1)))))))))))), ((cF (p := ⟨gb330, _, none⟩) (by first | exact Kd.own_blk (Kd.R_ne HO_8.out BK330.out (by decide)) | (rw [add_block]; exact Kd.own_blk (Kd.R_ne HO_8.out BK330.out (by decide))) | (show (Addr.add _ _).block ≠ _; rw [add_block]; exact Kd.own_blk (Kd.R_ne HO_8.out BK330.out (by decide))) | (dsimp only; exact Kd.own_blk (Kd.R_ne HO_8.out BK330.out (by decide)))) _).trans (((cF (p := ⟨gb330, _, none⟩) (by first | exact Kd.own_blk (Kd.R_ne HO_8.out BK330.out (by decide)) | (rw [add_block]; exact Kd.own_blk (Kd.R_ne HO_8.out BK330.out (by decide))) | (show (Addr.add _ _).block ≠ _; rw [add_block]; exact Kd.own_blk (Kd.R_ne HO_8.out BK330.out (by decide))) | (dsimp only; exact Kd.own_blk (Kd.R_ne HO_8.out BK330.out (by decide)))) _).trans (((cF (p := ⟨gb330, _, none⟩) (by first | exact Kd.own_blk (Kd.R_ne HO_8.out BK330.out (by decide)) | (rw [add_block]; exact Kd.own_blk (Kd.R_ne HO_8.out BK330.out (by decide))) | (show (Addr.add _ _).block ≠ _; rw [add_block]; exact Kd.own_blk (Kd.R_ne HO_8.out BK330.out (by decide))) | (dsimp only; exact Kd.own_blk (Kd.R_ne HO_8.out BK330.out (by decide)))) _).trans (((cF (p := ⟨gb330, _, none⟩) (by first | exact Kd.own_blk (Kd.R_ne HO_8.out BK330.out (by decide)) | (rw [add_block]; exact Kd.own_blk (Kd.R_ne HO_8.out BK330.out (by decide))) | (show (Addr.add _ _).block ≠ _; rw [add_block]; exact Kd.own_blk (Kd.R_ne HO_8.out BK330.out (by decide))) | (dsimp only; exact Kd.own_blk (Kd.R_ne HO_8.out BK330.out (by decide)))) _).trans (((cF (p := ⟨gb330, _, none⟩) (by first | exact Kd.own_blk (Kd.R_ne HO_8.out BK330.out (by decide)) | (rw [add_block]; exact Kd.own_blk (Kd.R_ne HO_8.out BK330.out (by decide))) | (show (Addr.add _ _).block ≠ _; rw [add_block]; exact Kd.own_blk (Kd.R_ne HO_8.out BK330.out (by decide))) | (dsimp only; exact Kd.own_blk (Kd.R_ne HO_8.out BK330.out (by decide)))) _).trans (((cF (p := ⟨gb330, _, none⟩) (by first | exact Kd.own_blk (Kd.R_ne HO_8.out BK330.out (by decide)) | (rw [add_block]; exact Kd.own_blk (Kd.R_ne HO_8.out BK330.out (by decide))) | (show (Addr.add _ _).block ≠ _; rw [add_block]; exact Kd.own_blk (Kd.R_ne HO_8.out BK330.out (by decide))) | (dsimp only; exact Kd.own_blk (Kd.R_ne HO_8.out BK330.out (by decide)))) _).trans (hHeld.2.2.2.2.2.2.1)))))))))))), ((cF (p := ⟨gb330, _, none⟩) (by first | exact Kd.own_blk (Kd.R_ne HO_8.out BK330.out (by decide)) | (rw [add_block]; exact Kd.own_blk (Kd.R_ne HO_8.out BK330.out (by decide))) | (show (Addr.add _ _).block ≠ _; rw [add_block]; exact Kd.own_blk (Kd.R_ne HO_8.out BK330.out (by decide))) | (dsimp only; exact Kd.own_blk (Kd.R_ne HO_8.out BK330.out (by decide)))) _).trans (((cF (p := ⟨gb330, _, none⟩) (by first | exact Kd.own_blk (Kd.R_ne HO_8.out BK330.out (by decide)) | (rw [add_block]; exact Kd.own_blk (Kd.R_ne HO_8.out BK330.out (by decide))) | (show (Addr.add _ _).block ≠ _; rw [add_block]; exact Kd.own_blk (Kd.R_ne HO_8.out BK330.out (by decide))) | (dsimp only; exact Kd.own_blk (Kd.R_ne HO_8.out BK330.out (by decide)))) _).trans (((cF (p := ⟨gb330, _, none⟩) (by first | exact Kd.own_blk (Kd.R_ne HO_8.out BK330.out (by decide)) | (rw [add_block]; exact Kd.own_blk (Kd.R_ne HO_8.out BK330.out (by decide))) | (show (Addr.add _ _).block ≠ _; rw [add_block]; exact Kd.own_blk (Kd.R_ne HO_8.out BK330.out (by decide))) | (dsimp only; exact Kd.own_blk (Kd.R_ne HO_8.out BK330.out (by decide)))) _).trans (((cF (p := ⟨gb330, _, none⟩) (by first | exact Kd.own_blk (Kd.R_ne HO_8.out BK330.out (by decide)) | (rw [add_block]; exact Kd.own_blk (Kd.R_ne HO_8.out BK330.out (by decide))) | (show (Addr.add _ _).block ≠ _; rw [add_block]; exact Kd.own_blk (Kd.R_ne HO_8.out BK330.out (by decide))) | (dsimp only; exact Kd.own_blk (Kd.R_ne HO_8.out BK330.out (by decide)))) _).trans (((cF (p := ⟨gb330, _, none⟩) (by first | exact Kd.own_blk (Kd.R_ne HO_8.out BK330.out (by decide)) | (rw [add_block]; exact Kd.own_blk (Kd.R_ne HO_8.out BK330.out (by decide))) | (show (Addr.add _ _).block ≠ _; rw [add_block]; exact Kd.own_blk (Kd.R_ne HO_8.out BK330.out (by decide))) | (dsimp only; exact Kd.own_blk (Kd.R_ne HO_8.out BK330.out (by decide)))) _).trans (((cF (p := ⟨gb330, _, none⟩) (by first | exact Kd.own_blk (Kd.R_ne HO_8.out BK330.out (by decide)) | (rw [add_block]; exact Kd.own_blk (Kd.R_ne HO_8.out BK330.out (by decide))) | (show (Addr.add _ _).block ≠ _; rw [add_block]; exact Kd.own_blk (Kd.R_ne HO_8.out BK330.out (by decide))) | (dsimp only; exact Kd.own_blk (Kd.R_ne HO_8.out BK330.out (by decide)))) _).trans (hHeld.2.2.2.2.2.2.2))))))))))))⟩ (fun hHeld => ?_)
                  clear hK K
                  refine pU_ 14 13 #[YY,YY,YY,YY,YY,YY,YY,YY,YY,YY,YY,YY,YY,YY,YY] ?_
                  refine done_ (done_of HT_.out (by kernel_rfl)) ?_
                  try go_wp2
                  go_roundg k2
                  case measure => have := HK1.out; have := HK2.out; omega
                  case rel => exact ⟨(x10_2), (wrap64 (x11_2 + 1)), (by first | rfl | (simp; done) | (simp [*]; done)), H', ⟨by have := HK1.out; have := HK2.out; omega⟩, ⟨by (with_reducible repeat (first | apply Kd.R_alloc | apply Kd.R_drewN | apply Kd.R_drew)); exact Kd.R_mono (Kd.R_far (p := ⟨gb330, 5, none⟩) (Kd.R_far (p := ⟨gb330, 4, none⟩) (Kd.R_far (p := ⟨gb330, 3, none⟩) (Kd.R_far (p := ⟨gb330, 2, none⟩) (Kd.R_far (p := ⟨gb330, 1, none⟩) (Kd.R_far (p := ⟨gb330, 0, none⟩) (Kd.R_types HO_7.out BK330.out (by decide)) (fun _ hk => hk.2) (.int .u8 t323)) (fun _ hk => hk.2) (.int .i64 t324)) (fun _ hk => hk.2) (.string t325)) (fun _ hk => hk.2) (.string t326)) (fun _ hk => hk.2) (.string t327)) (fun _ hk => hk.2) (.int .u64 t328)) (fun _ hk => trivial)⟩, ⟨by (with_reducible repeat (first | apply Kd.R_alloc | apply Kd.R_drewN | apply Kd.R_drew)); exact Kd.R_mono (Kd.R_far (p := ⟨gb330, 5, none⟩) (Kd.R_far (p := ⟨gb330, 4, none⟩) (Kd.R_far (p := ⟨gb330, 3, none⟩) (Kd.R_far (p := ⟨gb330, 2, none⟩) (Kd.R_far (p := ⟨gb330, 1, none⟩) (Kd.R_far (p := ⟨gb330, 0, none⟩) (Kd.R_types HO_8.out BK330.out (by decide)) (fun _ hk => hk.2) (.int .u8 t323)) (fun _ hk => hk.2) (.int .i64 t324)) (fun _ hk => hk.2) (.string t325)) (fun _ hk => hk.2) (.string t326)) (fun _ hk => hk.2) (.string t327)) (fun _ hk => hk.2) (.int .u64 t328)) (fun _ hk => trivial)⟩, ⟨by (with_reducible repeat (first | apply Kd.R_alloc | apply Kd.R_drewN | apply Kd.R_drew)); exact Kd.R_mono (Kd.R_far (p := ⟨gb330, 5, none⟩) (Kd.R_far (p := ⟨gb330, 4, none⟩) (Kd.R_far (p := ⟨gb330, 3, none⟩) (Kd.R_far (p := ⟨gb330, 2, none⟩) (Kd.R_far (p := ⟨gb330, 1, none⟩) (Kd.R_far (p := ⟨gb330, 0, none⟩) (Kd.R_mono HO_10.out (fun k_ hk => (⟨hk, hk⟩ : _ ∧ k_ ≠ gb330))) (fun _ hk => hk.2) (.int .u8 t323)) (fun _ hk => hk.2) (.int .i64 t324)) (fun _ hk => hk.2) (.string t325)) (fun _ hk => hk.2) (.string t326)) (fun _ hk => hk.2) (.string t327)) (fun _ hk => hk.2) (.int .u64 t328)) (fun _ hk => trivial)⟩, ⟨by repeat (first | (with_reducible first | exact HB.out | apply wA | apply wN | apply w1 | refine wS ?_ GE330.out) | exact HB.out)⟩⟩
                ·rw [if_neg c31] at H
                 exact absurd H (by simp)
               ·rw [if_neg c30] at H
                exact absurd H (by simp)
              ·rw [if_neg c29] at H
               exact absurd H (by simp)
             ·rw [if_neg c28] at H
              have c28b0 : decide (x11_2 < (y299.length : Int)) = false := decide_eq_false c28
              clear c28
              replace H := Option.bind_eq_some_iff.mp H
              obtain ⟨t334, A570, H⟩ := H
              replace H : (if 0 ≤ x9_1 then (if x9_1 < (t308.length : Int) then ((fold_Entries.f t334 y303 ((rd_T28 t308 x9_1).f0) ((rd_T28 t308 x9_1).f1)).bind fun t338 => (catchmenttop_TopParted.l2 k2 y299 y303 x7_1 t308 x9_1 t338 0)) else (none)) else (none)) = some r := H
              have A57 := Aside0.mk A570
              clear A570
              by_cases c58 : 0 ≤ x9_1
              ·rw [if_pos c58] at H
               have c58b0 : decide (0 ≤ x9_1) = true := decide_eq_true c58
               clear c58
               by_cases c59 : x9_1 < (t308.length : Int)
               ·rw [if_pos c59] at H
                have c59b0 : decide (x9_1 < (t308.length : Int)) = true := decide_eq_true c59
                clear c59
                replace H := Option.bind_eq_some_iff.mp H
                obtain ⟨t338, A600, H⟩ := H
                replace H : (catchmenttop_TopParted.l2 k2 y299 y303 x7_1 t308 x9_1 t338 0) = some r := H
                have A60 := Aside0.mk A600
                clear A600
                have H' := Aside0.mk H
                clear H
                try go_wp2
                have n0_ := Aside0.mk (Kd.R_drew HO_7.out)
                have n1_ := Aside0.mk (Kd.R_drew HO_8.out)
                have n2_ := Aside0.mk (Kd.R_drew HO_10.out)
                have n3_ := Aside0.mk (w1 HB.out)
                clear HO_7
                clear HO_8
                clear HO_10
                clear HB
                have HO_7 := n0_
                have HO_8 := n1_
                have HO_10 := n2_
                have HB := n3_
                clear n0_ n1_ n2_ n3_
                have p337 : 0 ≤ (x9_1 : Int) := of_decide_eq_true (by first | (with_reducible assumption) | assumption)
                have q337 : x9_1 < (t308.length : Int) := of_decide_eq_true (by first | (with_reducible assumption) | assumption)
                obtain ⟨ad337, e337, hx337_0, hx337_1⟩ := at_T28 (Kd.R_reads' HO_8.out).2.2 x9_1 p337 q337
                cases e337
                replace p337 := eq_true p337
                replace q337 := eq_true q337
                obtain ⟨Ao62, co62, eo62⟩ := Kd.R_slice HO_10.out
                (first | subst eo62 | (injection eo62 with f1_ f2_ f3_; have f4_ := f1_.symm; have f5_ := f3_.symm; clear f1_ f2_ f3_; subst f4_; subst f5_))
                refine start_ (n := 9) (S := fun w' => w'.cell? (ad337.add ((x9_1).toNat * 2)) = some (.string ((rd_T28 t308 x9_1).f0)) ∧ w'.cell? ⟨(ad337.add ((x9_1).toNat * 2)).block, (ad337.add ((x9_1).toNat * 2)).off + 1, none⟩ = some (.string ((rd_T28 t308 x9_1).f1))) (ds := []) #[ZZ,ZZ,ZZ,ZZ,ZZ,ZZ,ZZ,ZZ,ZZ] (by kernel_rfl) rfl rfl ⟨hx337_0, hx337_1⟩ (fun hHeld => ?_); refine with_tabW catchmenttop_TopParted.tab16 catchmenttop_TopParted.bits16 (fun HT_ HW_ => ?_)
                generalize wr.drew = w61 at HO_7 HO_8 HO_10 HB hx337_0 hx337_1 hHeld ⊢
                refine pU_ 0 67 #[YY,ZZ,ZZ,ZZ,ZZ,ZZ,ZZ,ZZ,ZZ] ?_
                refine pU_ 2 69 #[YY,ZZ,YY,ZZ,ZZ,ZZ,ZZ,ZZ,ZZ] ?_
                refine pU_ 3 70 #[YY,ZZ,YY,YY,ZZ,ZZ,ZZ,ZZ,ZZ] ?_
                refine pU_ 4 71 #[YY,ZZ,YY,YY,YY,ZZ,ZZ,ZZ,ZZ] ?_
                refine pU_ 5 72 #[YY,ZZ,YY,YY,YY,YY,ZZ,ZZ,ZZ] ?_
                refine take_ (i := 6) (N := some 73) (v := ?_) (a' := ?_) #[YY,ZZ,YY,YY,YY,YY,YY,ZZ,ZZ] rfl rfl (take_ofW HT_.out HW_.out (by kernel_rfl)) (fun _ _ _ h => h) (Or.inl ⟨by rfl, ?_⟩) hHeld ?_ ?_
                rotate_left
                ·rintro w' ⟨s0, s1⟩
                 go_simp
                 with_reducible rfl
                rotate_left
                ·simp only [Act.put, sA1, sA2, sA3, i64_w, i32_w]
                 rfl
                refine one_ (i := 1) (N := some 68) #[YY,YY,YY,YY,YY,YY,YY,ZZ,ZZ] rfl rfl (one_of HT_.out (by kernel_rfl)) (by decide) (fun K hK => ?_)
                refine goes_ Try.func16 (by kernel_rfl) rfl #[.slice Ao62 x10_2.length co62] (by rfl) rfl rfl mS_ ?_
                with_reducible refine (compact_List.calls _ _ x10_2 t334 _ ?side1 ?side2 A57.out).mono ?_
                (case side1 => repeat (first | exact (Kd.R_reads' HO_10.out).2.2 | (with_reducible refine Kd.C_alloc ?_ _) | (with_reducible refine Kd.C_drewN ?_ _) | (with_reducible refine Kd.C_drew ?_)))
                (case side2 => exact (Kd.R_reads' HO_10.out).2.1)
                rintro e w63 ⟨v335, rfl, ho0, hb⟩
                have HS0_ := (hb.cell (World.block_lt_of_cell? _ _ (hHeld.1))).trans (hHeld.1)
                have HS1_ := (hb.cell (World.block_lt_of_cell? _ _ (hHeld.2))).trans (hHeld.2)
                refine ⟨_, rfl, ?_⟩
                have n0_ := Aside0.mk (Kd.R_below (kR_ HO_7.out) hb)
                have n1_ := Aside0.mk (Kd.R_below (kR_ HO_8.out) hb)
                have n2_ := Aside0.mk (Kd.R_elder' (kR_ HO_10.out) (Kd.R_base ho0) hb)
                have n3_ := Aside0.mk (Kd.R_lower (Kd.R_new' ho0 (Kd.R_lt (kR_ HO_10.out))) (wZ bW_))
                have n4_ := Aside0.mk (wT bW_ hb)
                clear HO_7
                clear HO_8
                clear HO_10
                clear HB
                have HO_7 := n0_
                have HO_8 := n1_
                have HO_10 := n2_
                have HO336 := n3_
                have HB := n4_
                clear n0_ n1_ n2_ n3_ n4_
                (try clear hb)
                (try clear hb2)
                (try clear hk)
                (try clear hi)
                (try clear ho0)
                obtain ⟨Ao64, co64, eo64⟩ := Kd.R_slice HO336.out
                (first | subst eo64 | (injection eo64 with f1_ f2_ f3_; have f4_ := f1_.symm; have f5_ := f3_.symm; clear f1_ f2_ f3_; subst f4_; subst f5_))
                refine hK.out _ _ ⟨HS0_, HS1_⟩ (fun hHeld => ?_)
                clear hK K
                refine norm_ (a' := ?_) ?_ ?_
                rotate_left
                ·show Act.put _ (some 68) _ = _
                 simp only [Act.put, sA1, sA2, sA3, i64_w, i32_w]
                 rfl
                refine one_ (i := 7) (N := some 74) #[YY,YY,YY,YY,YY,YY,YY,YY,ZZ] rfl rfl (one_of HT_.out (by kernel_rfl)) (by decide) (fun K hK => ?_)
                refine goes_ Try.func15 (by kernel_rfl) rfl #[.slice Ao64 t334.length co64, .slice A1 y303.length c1, .agg #[.string ((rd_T28 t308 x9_1).f0), .string ((rd_T28 t308 x9_1).f1)]] (by rfl) rfl rfl mS_ ?_
                with_reducible refine (fold_Entries.calls _ _ t334 _ _ y303 ((rd_T28 t308 x9_1).f0) ((rd_T28 t308 x9_1).f1) t338 _ ?side1 ?side2 ?side3 ?side4 A60.out).mono ?_
                (case side1 => repeat (first | exact (Kd.R_reads' HO336.out).2.2 | (with_reducible refine Kd.C_alloc ?_ _) | (with_reducible refine Kd.C_drewN ?_ _) | (with_reducible refine Kd.C_drew ?_)))
                (case side2 => exact (Kd.R_reads' HO336.out).2.1)
                (case side3 => repeat (first | exact (Kd.C_below HR306.out HB.out) | (with_reducible refine Kd.C_alloc ?_ _) | (with_reducible refine Kd.C_drewN ?_ _) | (with_reducible refine Kd.C_drew ?_)))
                (case side4 => exact HC306.out)
                rintro e w65 ⟨v339, rfl, ho0, hb⟩
                have HS0_ := (hb.cell (World.block_lt_of_cell? _ _ (hHeld.1))).trans (hHeld.1)
                have HS1_ := (hb.cell (World.block_lt_of_cell? _ _ (hHeld.2))).trans (hHeld.2)
                refine ⟨_, rfl, ?_⟩
                have n0_ := Aside0.mk (Kd.R_elder' (kR_ HO_7.out) (Kd.R_base ho0) hb)
                have n1_ := Aside0.mk (Kd.R_below (kR_ HO_8.out) hb)
                have n2_ := Aside0.mk (Kd.R_below (kR_ HO_10.out) hb)
                have n3_ := Aside0.mk (Kd.R_below (kR_ HO336.out) hb)
                have n4_ := Aside0.mk (Kd.R_lower (Kd.R_new' ho0 (Kd.R_lt (kR_ HO_7.out))) (wZ bW_))
                have n5_ := Aside0.mk (wT bW_ hb)
                clear HO_7
                clear HO_8
                clear HO_10
                clear HO336
                clear HB
                have HO_7 := n0_
                have HO_8 := n1_
                have HO_10 := n2_
                have HO336 := n3_
                have HO340 := n4_
                have HB := n5_
                clear n0_ n1_ n2_ n3_ n4_ n5_
                (try clear hb)
                (try clear hb2)
                (try clear hk)
                (try clear hi)
                (try clear ho0)
                refine hK.out _ _ ⟨HS0_, HS1_⟩ (fun hHeld => ?_)
                clear hK K
                refine norm_ (a' := ?_) ?_ ?_
                rotate_left
                ·show Act.put _ (some 74) _ = _
                 simp only [Act.put, sA1, sA2, sA3, i64_w, i32_w]
                 rfl
                refine pU_ 8 14 #[YY,YY,YY,YY,YY,YY,YY,YY,YY] ?_
                refine done_ (done_of HT_.out (by kernel_rfl)) ?_
                try go_wp2
                go_loopg [15] k2 (fun kq v15 w' => ∃ (x15_3 : Int), v15 = .int .i64 x15_3 ∧ Aside0 (catchmenttop_TopParted.l2 kq y299 y303 x7_1 t308 x9_1 t338 x15_3 = some r) ∧ Aside0 (kq ≤ k2) ∧ Aside0 (Kd.R k39 39 w' w.heap.size (fun k_ => some k_ ≠ (v339 : Value).ownBlock) u7 x7_1) ∧ Aside0 (Kd.R k28 28 w' w.heap.size (fun _ => True) (.slice (some ad337) t308.length co26) t308) ∧ Aside0 (Kd.R k39 39 w' w.heap.size (fun k_ => some k_ ≠ (u7 : Value).ownBlock) v339 t338) ∧ Aside0 (Below w.heap.size w w'))
                case atStart => exact ⟨(0), (by first | rfl | (simp; done) | (simp [*]; done)), H', ⟨Nat.le_refl _⟩, ⟨by (with_reducible repeat (first | apply Kd.R_alloc | apply Kd.R_drewN | apply Kd.R_drew)); exact Kd.R_mono HO_7.out (fun _ hk => hk.2)⟩, ⟨by (with_reducible repeat (first | apply Kd.R_alloc | apply Kd.R_drewN | apply Kd.R_drew)); exact HO_8.out⟩, ⟨by (with_reducible repeat (first | apply Kd.R_alloc | apply Kd.R_drewN | apply Kd.R_drew)); exact Kd.R_mono HO340.out (fun _ hk => hk.2)⟩, ⟨by repeat (first | (with_reducible first | exact HB.out | apply wA | apply wN | apply w1) | exact HB.out)⟩⟩
                case round =>
                 clear H'
                 try clear c1
                 try clear c2
                 try clear p2
                 try clear c3
                 try clear p3
                 try clear q3
                 try clear hx3
                 try clear c5
                 try clear p6
                 try clear c14
                 try clear c15
                 try clear c16
                 try clear c28
                 try clear c28b0
                 try clear c29
                 try clear c30
                 try clear c31
                 try clear p32
                 try clear q32
                 try clear hx32
                 try clear c33
                 try clear p33
                 try clear q33
                 try clear hx33
                 try clear c34
                 try clear c58
                 try clear c58b0
                 try clear c59
                 try clear c59b0
                 try clear p64
                 try clear hcz45_0
                 try clear hcz45_1
                 try clear hcz45_2
                 try clear hcz45_3
                 try clear hcz45_4
                 try clear hcz45_5
                 try clear hfz45_0
                 try clear hfz45_1
                 try clear hfz45_2
                 try clear hfz45_3
                 try clear hfz45_4
                 try clear hfz45_5
                 try clear hx321_0
                 try clear hx321_1
                 try clear hx321_2
                 try clear hx321_3
                 try clear hx321_4
                 try clear hx321_5
                 try clear hx322_0
                 try clear hx322_1
                 try clear hx337_0
                 try clear hx337_1
                 try clear p321
                 try clear p322
                 try clear p337
                 try clear q321
                 try clear q322
                 try clear q337
                 obtain ⟨x15_3, rfl, HA, HK3, HO_7, HO_8, HO_14, HB⟩ := hrel
                 cases gk with
                 | zero => exact absurd HA.out (by simp [catchmenttop_TopParted.l2])
                 | succ k3 =>
                  have H := HA.out
                  clear HA
                  simp only [catchmenttop_TopParted.l2] at H
                  by_cases c66 : x15_3 < (t338.length : Int)
                  ·rw [if_pos c66] at H
                   have c66b0 : decide (x15_3 < (t338.length : Int)) = true := decide_eq_true c66
                   clear c66
                   by_cases c67 : 0 ≤ x9_1
                   ·rw [if_pos c67] at H
                    have c67b0 : decide (0 ≤ x9_1) = true := decide_eq_true c67
                    clear c67
                    by_cases c68 : x9_1 < (t308.length : Int)
                    ·rw [if_pos c68] at H
                     have c68b0 : decide (x9_1 < (t308.length : Int)) = true := decide_eq_true c68
                     clear c68
                     by_cases c69 : 0 ≤ x15_3
                     ·rw [if_pos c69] at H
                      have c69b0 : decide (0 ≤ x15_3) = true := decide_eq_true c69
                      clear c69
                      replace H := Option.bind_eq_some_iff.mp H
                      obtain ⟨t343, A700, H⟩ := H
                      replace H : (if t343 = true then (catchmenttop_TopParted.l2 k3 y299 y303 x7_1 t308 x9_1 t338 (wrap64 (x15_3 + 1))) else (some false)) = some r := H
                      have A70 := Aside0.mk A700
                      clear A700
                      by_cases c71 : t343 = true
                      ·subst c71
                       have H1 : (catchmenttop_TopParted.l2 k3 y299 y303 x7_1 t308 x9_1 t338 (wrap64 (x15_3 + 1))) = some r := by rw [if_pos rfl] at H; exact H
                       clear H
                       have H := H1
                       clear H1
                       have H' := Aside0.mk H
                       clear H
                       obtain ⟨Ao72, co72, eo72⟩ := Kd.R_slice HO_14.out
                       subst eo72
                       try go_wp2
                       have n0_ := Aside0.mk (Kd.R_drew HO_7.out)
                       have n1_ := Aside0.mk (Kd.R_drew HO_8.out)
                       have n2_ := Aside0.mk (Kd.R_drew HO_14.out)
                       have n3_ := Aside0.mk (w1 HB.out)
                       clear HO_7
                       clear HO_8
                       clear HO_14
                       clear HB
                       have HO_7 := n0_
                       have HO_8 := n1_
                       have HO_14 := n2_
                       have HB := n3_
                       clear n0_ n1_ n2_ n3_
                       have p341 : 0 ≤ (x9_1 : Int) := of_decide_eq_true (by first | (with_reducible assumption) | assumption)
                       have q341 : x9_1 < (t308.length : Int) := of_decide_eq_true (by first | (with_reducible assumption) | assumption)
                       obtain ⟨ad341, e341, hx341_0, hx341_1⟩ := at_T28 (Kd.R_reads' HO_8.out).2.2 x9_1 p341 q341
                       obtain rfl : ad337 = ad341 := (by injection e341)
                       replace p341 := eq_true p341
                       replace q341 := eq_true q341
                       have p342 : 0 ≤ (x15_3 : Int) := of_decide_eq_true (by first | (with_reducible assumption) | assumption)
                       have q342 : x15_3 < (t338.length : Int) := of_decide_eq_true (by first | (with_reducible assumption) | assumption)
                       obtain ⟨ad342, e342, hx342_0, hx342_1⟩ := at_T39 (Kd.R_reads' HO_14.out).2.2 x15_3 p342 q342
                       cases e342
                       replace p342 := eq_true p342
                       replace q342 := eq_true q342
                       refine start_ (n := 11) (S := fun w' => w'.cell? (ad337.add ((x9_1).toNat * 2)) = some (.string ((rd_T28 t308 x9_1).f0)) ∧ w'.cell? ⟨(ad337.add ((x9_1).toNat * 2)).block, (ad337.add ((x9_1).toNat * 2)).off + 1, none⟩ = some (.string ((rd_T28 t308 x9_1).f1)) ∧ w'.cell? (ad342.add ((x15_3).toNat * 2)) = some (.string ((rd_T39 t338 x15_3).f0)) ∧ w'.cell? ⟨(ad342.add ((x15_3).toNat * 2)).block, (ad342.add ((x15_3).toNat * 2)).off + 1, none⟩ = some (.string ((rd_T39 t338 x15_3).f1))) (ds := []) #[ZZ,ZZ,ZZ,ZZ,ZZ,ZZ,ZZ,ZZ,ZZ,ZZ,ZZ] (by kernel_rfl) rfl rfl ⟨hx341_0, hx341_1, hx342_0, hx342_1⟩ (fun hHeld => ?_); refine with_tabW catchmenttop_TopParted.tab20 catchmenttop_TopParted.bits20 (fun HT_ HW_ => ?_)
                       generalize wr.drew = w73 at HO_7 HO_8 HO_14 HB hx341_0 hx341_1 hx342_0 hx342_1 hHeld ⊢
                       refine pU_ 0 81 #[YY,ZZ,ZZ,ZZ,ZZ,ZZ,ZZ,ZZ,ZZ,ZZ,ZZ] ?_
                       refine pU_ 1 82 #[YY,YY,ZZ,ZZ,ZZ,ZZ,ZZ,ZZ,ZZ,ZZ,ZZ] ?_
                       refine pU_ 2 83 #[YY,YY,YY,ZZ,ZZ,ZZ,ZZ,ZZ,ZZ,ZZ,ZZ] ?_
                       refine pU_ 4 85 #[YY,YY,YY,ZZ,YY,ZZ,ZZ,ZZ,ZZ,ZZ,ZZ] ?_
                       refine pU_ 5 86 #[YY,YY,YY,ZZ,YY,YY,ZZ,ZZ,ZZ,ZZ,ZZ] ?_
                       refine pU_ 6 87 #[YY,YY,YY,ZZ,YY,YY,YY,ZZ,ZZ,ZZ,ZZ] ?_
                       refine pU_ 7 88 #[YY,YY,YY,ZZ,YY,YY,YY,YY,ZZ,ZZ,ZZ] ?_
                       refine take_ (i := 3) (N := some 84) (v := ?_) (a' := ?_) #[YY,YY,YY,YY,YY,YY,YY,YY,ZZ,ZZ,ZZ] rfl rfl (take_ofW HT_.out HW_.out (by kernel_rfl)) (fun _ _ _ h => h) (Or.inl ⟨by rfl, ?_⟩) hHeld ?_ ?_
                       rotate_left
                       ·rintro w' ⟨s0, s1, s2, s3⟩
                        go_simp
                        with_reducible rfl
                       rotate_left
                       ·simp only [Act.put, sA1, sA2, sA3, i64_w, i32_w]
                        rfl
                       refine take_ (i := 8) (N := some 89) (v := ?_) (a' := ?_) #[YY,YY,YY,YY,YY,YY,YY,YY,YY,ZZ,ZZ] rfl rfl (take_ofW HT_.out HW_.out (by kernel_rfl)) (fun _ _ _ h => h) (Or.inl ⟨by rfl, ?_⟩) hHeld ?_ ?_
                       rotate_left
                       ·rintro w' ⟨s0, s1, s2, s3⟩
                        go_simp
                        with_reducible rfl
                       rotate_left
                       ·simp only [Act.put, sA1, sA2, sA3, i64_w, i32_w]
                        rfl
                       refine one_ (i := 9) (N := some 90) #[YY,YY,YY,YY,YY,YY,YY,YY,YY,YY,ZZ] rfl rfl (one_of HT_.out (by kernel_rfl)) (by decide) (fun K hK => ?_)
                       refine goes_ Try.func17 (by kernel_rfl) rfl #[.agg #[.string ((rd_T28 t308 x9_1).f0), .string ((rd_T28 t308 x9_1).f1)], .string ((rd_T39 t338 x15_3).f0)] (by rfl) rfl rfl mS_ ?_
                       with_reducible refine (catchmentref02_Holds.calls ((rd_T28 t308 x9_1).f0) ((rd_T28 t308 x9_1).f1) ((rd_T39 t338 x15_3).f0) true _ A70.out).mono ?_
                       rintro e w74 ⟨rfl, hb⟩
                       have HS0_ := (hb.cell (World.block_lt_of_cell? _ _ (hHeld.1))).trans (hHeld.1)
                       have HS1_ := (hb.cell (World.block_lt_of_cell? _ _ (hHeld.2.1))).trans (hHeld.2.1)
                       have HS2_ := (hb.cell (World.block_lt_of_cell? _ _ (hHeld.2.2.1))).trans (hHeld.2.2.1)
                       have HS3_ := (hb.cell (World.block_lt_of_cell? _ _ (hHeld.2.2.2))).trans (hHeld.2.2.2)
                       refine ⟨_, rfl, ?_⟩
                       have n0_ := Aside0.mk (Kd.R_below (kR_ HO_7.out) hb)
                       have n1_ := Aside0.mk (Kd.R_below (kR_ HO_8.out) hb)
                       have n2_ := Aside0.mk (Kd.R_below (kR_ HO_14.out) hb)
                       have n3_ := Aside0.mk (wT bW_ hb)
                       clear HO_7
                       clear HO_8
                       clear HO_14
                       clear HB
                       have HO_7 := n0_
                       have HO_8 := n1_
                       have HO_14 := n2_
                       have HB := n3_
                       clear n0_ n1_ n2_ n3_
                       (try clear hb)
                       (try clear hb2)
                       (try clear hk)
                       (try clear hi)
                       refine hK.out _ _ ⟨HS0_, HS1_, HS2_, HS3_⟩ (fun hHeld => ?_)
                       clear hK K
                       refine norm_ (a' := ?_) ?_ ?_
                       rotate_left
                       ·show Act.put _ (some 90) _ = _
                        simp only [Act.put, sA1, sA2, sA3, i64_w, i32_w]
                        rfl
                       refine pU_ 10 91 #[YY,YY,YY,YY,YY,YY,YY,YY,YY,YY,YY] ?_
                       refine done_ (done_of HT_.out (by kernel_rfl)) ?_
                       try go_wp2
                       go_roundg k3
                       case measure => have := HK1.out; have := HK2.out; have := HK3.out; omega
                       case rel => exact ⟨(wrap64 (x15_3 + 1)), (by first | rfl | (simp; done) | (simp [*]; done)), H', ⟨by have := HK1.out; have := HK2.out; have := HK3.out; omega⟩, ⟨by (with_reducible repeat (first | apply Kd.R_alloc | apply Kd.R_drewN | apply Kd.R_drew)); exact HO_7.out⟩, ⟨by (with_reducible repeat (first | apply Kd.R_alloc | apply Kd.R_drewN | apply Kd.R_drew)); exact HO_8.out⟩, ⟨by (with_reducible repeat (first | apply Kd.R_alloc | apply Kd.R_drewN | apply Kd.R_drew)); exact HO_14.out⟩, ⟨by repeat (first | (with_reducible first | exact HB.out | apply wA | apply wN | apply w1) | exact HB.out)⟩⟩
                      ·replace c71 := Bool.eq_false_iff.mpr c71
                       subst c71
                       have H1 : (some false) = some r := by rw [if_neg (show ¬ (false = true) by decide)] at H; exact H
                       clear H
                       have H := H1
                       clear H1
                       obtain rfl := Option.some.inj H
                       obtain ⟨Ao75, co75, eo75⟩ := Kd.R_slice HO_14.out
                       subst eo75
                       try go_wp2
                       have n0_ := Aside0.mk (Kd.R_drew HO_7.out)
                       have n1_ := Aside0.mk (Kd.R_drew HO_8.out)
                       have n2_ := Aside0.mk (Kd.R_drew HO_14.out)
                       have n3_ := Aside0.mk (w1 HB.out)
                       clear HO_7
                       clear HO_8
                       clear HO_14
                       clear HB
                       have HO_7 := n0_
                       have HO_8 := n1_
                       have HO_14 := n2_
                       have HB := n3_
                       clear n0_ n1_ n2_ n3_
                       have p341 : 0 ≤ (x9_1 : Int) := of_decide_eq_true (by first | (with_reducible assumption) | assumption)
                       have q341 : x9_1 < (t308.length : Int) := of_decide_eq_true (by first | (with_reducible assumption) | assumption)
                       obtain ⟨ad341, e341, hx341_0, hx341_1⟩ := at_T28 (Kd.R_reads' HO_8.out).2.2 x9_1 p341 q341
                       obtain rfl : ad337 = ad341 := (by injection e341)
                       replace p341 := eq_true p341
                       replace q341 := eq_true q341
                       have p342 : 0 ≤ (x15_3 : Int) := of_decide_eq_true (by first | (with_reducible assumption) | assumption)
                       have q342 : x15_3 < (t338.length : Int) := of_decide_eq_true (by first | (with_reducible assumption) | assumption)
                       obtain ⟨ad342, e342, hx342_0, hx342_1⟩ := at_T39 (Kd.R_reads' HO_14.out).2.2 x15_3 p342 q342
                       cases e342
                       replace p342 := eq_true p342
                       replace q342 := eq_true q342
                       refine start_ (n := 11) (S := fun w' => w'.cell? (ad337.add ((x9_1).toNat * 2)) = some (.string ((rd_T28 t308 x9_1).f0)) ∧ w'.cell? ⟨(ad337.add ((x9_1).toNat * 2)).block, (ad337.add ((x9_1).toNat * 2)).off + 1, none⟩ = some (.string ((rd_T28 t308 x9_1).f1)) ∧ w'.cell? (ad342.add ((x15_3).toNat * 2)) = some (.string ((rd_T39 t338 x15_3).f0)) ∧ w'.cell? ⟨(ad342.add ((x15_3).toNat * 2)).block, (ad342.add ((x15_3).toNat * 2)).off + 1, none⟩ = some (.string ((rd_T39 t338 x15_3).f1))) (ds := []) #[ZZ,ZZ,ZZ,ZZ,ZZ,ZZ,ZZ,ZZ,ZZ,ZZ,ZZ] (by kernel_rfl) rfl rfl ⟨hx341_0, hx341_1, hx342_0, hx342_1⟩ (fun hHeld => ?_); refine with_tabW catchmenttop_TopParted.tab20 catchmenttop_TopParted.bits20 (fun HT_ HW_ => ?_)
                       generalize wr.drew = w76 at HO_7 HO_8 HO_14 HB hx341_0 hx341_1 hx342_0 hx342_1 hHeld ⊢
                       refine pU_ 0 81 #[YY,ZZ,ZZ,ZZ,ZZ,ZZ,ZZ,ZZ,ZZ,ZZ,ZZ] ?_
                       refine pU_ 1 82 #[YY,YY,ZZ,ZZ,ZZ,ZZ,ZZ,ZZ,ZZ,ZZ,ZZ] ?_
                       refine pU_ 2 83 #[YY,YY,YY,ZZ,ZZ,ZZ,ZZ,ZZ,ZZ,ZZ,ZZ] ?_
                       refine pU_ 4 85 #[YY,YY,YY,ZZ,YY,ZZ,ZZ,ZZ,ZZ,ZZ,ZZ] ?_
                       refine pU_ 5 86 #[YY,YY,YY,ZZ,YY,YY,ZZ,ZZ,ZZ,ZZ,ZZ] ?_
                       refine pU_ 6 87 #[YY,YY,YY,ZZ,YY,YY,YY,ZZ,ZZ,ZZ,ZZ] ?_
                       refine pU_ 7 88 #[YY,YY,YY,ZZ,YY,YY,YY,YY,ZZ,ZZ,ZZ] ?_
                       refine take_ (i := 3) (N := some 84) (v := ?_) (a' := ?_) #[YY,YY,YY,YY,YY,YY,YY,YY,ZZ,ZZ,ZZ] rfl rfl (take_ofW HT_.out HW_.out (by kernel_rfl)) (fun _ _ _ h => h) (Or.inl ⟨by rfl, ?_⟩) hHeld ?_ ?_
                       rotate_left
                       ·rintro w' ⟨s0, s1, s2, s3⟩
                        go_simp
                        with_reducible rfl
                       rotate_left
                       ·simp only [Act.put, sA1, sA2, sA3, i64_w, i32_w]
                        rfl
                       refine take_ (i := 8) (N := some 89) (v := ?_) (a' := ?_) #[YY,YY,YY,YY,YY,YY,YY,YY,YY,ZZ,ZZ] rfl rfl (take_ofW HT_.out HW_.out (by kernel_rfl)) (fun _ _ _ h => h) (Or.inl ⟨by rfl, ?_⟩) hHeld ?_ ?_
                       rotate_left
                       ·rintro w' ⟨s0, s1, s2, s3⟩
                        go_simp
                        with_reducible rfl
                       rotate_left
                       ·simp only [Act.put, sA1, sA2, sA3, i64_w, i32_w]
                        rfl
                       refine one_ (i := 9) (N := some 90) #[YY,YY,YY,YY,YY,YY,YY,YY,YY,YY,ZZ] rfl rfl (one_of HT_.out (by kernel_rfl)) (by decide) (fun K hK => ?_)
                       refine goes_ Try.func17 (by kernel_rfl) rfl #[.agg #[.string ((rd_T28 t308 x9_1).f0), .string ((rd_T28 t308 x9_1).f1)], .string ((rd_T39 t338 x15_3).f0)] (by rfl) rfl rfl mS_ ?_
                       with_reducible refine (catchmentref02_Holds.calls ((rd_T28 t308 x9_1).f0) ((rd_T28 t308 x9_1).f1) ((rd_T39 t338 x15_3).f0) false _ A70.out).mono ?_
                       rintro e w77 ⟨rfl, hb⟩
                       have HS0_ := (hb.cell (World.block_lt_of_cell? _ _ (hHeld.1))).trans (hHeld.1)
                       have HS1_ := (hb.cell (World.block_lt_of_cell? _ _ (hHeld.2.1))).trans (hHeld.2.1)
                       have HS2_ := (hb.cell (World.block_lt_of_cell? _ _ (hHeld.2.2.1))).trans (hHeld.2.2.1)
                       have HS3_ := (hb.cell (World.block_lt_of_cell? _ _ (hHeld.2.2.2))).trans (hHeld.2.2.2)
                       refine ⟨_, rfl, ?_⟩
                       have n0_ := Aside0.mk (Kd.R_below (kR_ HO_7.out) hb)
                       have n1_ := Aside0.mk (Kd.R_below (kR_ HO_8.out) hb)
                       have n2_ := Aside0.mk (Kd.R_below (kR_ HO_14.out) hb)
                       have n3_ := Aside0.mk (wT bW_ hb)
                       clear HO_7
                       clear HO_8
                       clear HO_14
                       clear HB
                       have HO_7 := n0_
                       have HO_8 := n1_
                       have HO_14 := n2_
                       have HB := n3_
                       clear n0_ n1_ n2_ n3_
                       (try clear hb)
                       (try clear hb2)
                       (try clear hk)
                       (try clear hi)
                       refine hK.out _ _ ⟨HS0_, HS1_, HS2_, HS3_⟩ (fun hHeld => ?_)
                       clear hK K
                       refine norm_ (a' := ?_) ?_ ?_
                       rotate_left
                       ·show Act.put _ (some 90) _ = _
                        simp only [Act.put, sA1, sA2, sA3, i64_w, i32_w]
                        rfl
                       refine pU_ 10 91 #[YY,YY,YY,YY,YY,YY,YY,YY,YY,YY,YY] ?_
                       refine done_ (done_of HT_.out (by kernel_rfl)) ?_
                       try go_wp2
                       go_ret
                       exact ⟨by first | rfl | (simp [errW_none, errW_some] <;> rfl) | (simp only [← hji4, ← hji7, ← hji10]; first | rfl | (simp [errW_none, errW_some] <;> rfl)) | (simp [*, errW_none, errW_some] <;> rfl), by repeat (first | (with_reducible first | exact HB.out | apply wA | apply wN | apply w1) | exact HB.out)⟩
                     ·rw [if_neg c69] at H
                      exact absurd H (by simp)
                    ·rw [if_neg c68] at H
                     exact absurd H (by simp)
                   ·rw [if_neg c67] at H
                    exact absurd H (by simp)
                  ·rw [if_neg c66] at H
                   have c66b0 : decide (x15_3 < (t338.length : Int)) = false := decide_eq_false c66
                   clear c66
                   by_cases c78 : x7_1.length + t338.length < 4398046511104
                   ·rw [if_pos c78] at H
                    have LMc78 := Aside0.mk c78
                    clear c78
                    obtain ⟨y344, hy344⟩ : ∃ y_ : List (S39), y_ = (x7_1 ++ t338) := ⟨_, rfl⟩
                    replace H : (catchmenttop_TopParted.l0 k3 y299 y303 y344 t308 (wrap64 (x9_1 + 1))) = some r := by first | (rw [hy344]; with_reducible exact H) | (have H2_ := (Option.bind_some _ _).symm.trans H; rw [hy344]; with_reducible exact H2_) | (have H2_ := (Option.bind_some _ _).symm.trans H; with_reducible exact H2_) | with_reducible exact H | (rw [hy344]; exact H) | exact H
                    have Ny344 := Aside0.mk hy344
                    clear hy344
                    have H' := Aside0.mk H
                    clear H
                    obtain ⟨Ao79, co79, eo79⟩ := Kd.R_slice HO_14.out
                    subst eo79
                    go_wp2_with (first | ((with_reducible refine gate_builtin (b := .append) (xs := #[.tmp 92, .tmp 93]) rfl ?_); at_builtin; refine Kd.R_append_rows k39 (w0 := w) w.heap.size rfl (.tmp 92) (.tmp 93) 23 39 (.agg #[(.string ⟨#[]⟩), (.string ⟨#[]⟩)]) 32 rfl Try.underlying23 info39 rfl (by decide) (by omega) u7 x7_1 t338 _ _ _ (fun k_ => some k_ ≠ (.slice Ao79 t338.length co79 : Value).ownBlock) (fun _ => False) rfl rfl ?aO ?aR (fun _ _ h => h) (fun _ h => h.elim) ?aF ?aB ?aS ?aL ?_; (case aR => repeat (first | exact (Kd.R_reads' HO_14.out).2.2 | (with_reducible refine Kd.C_alloc ?_ _) | (with_reducible refine Kd.C_drewN ?_ _) | (with_reducible refine Kd.C_drew ?_))); (case aB => exact bW_); (case aF => exact (fun k_ hk => Kd.fresh' (Kd.R_lt (kR_ HO_14.out)) k_ hk)); (case aO => exact (kR_ HO_7.out)); (case aS => exact (wZ bW_)); (case aL => have := LMc78.out; omega); intro v345 w80 ho hb hg hat; rw [← Ny344.out] at ho; have n0_ := Aside0.mk (Kd.R_over' (kR_ HO_8.out) (Kd.R_typed (kR_ HO_7.out)) (by decide) hg); have n1_ := Aside0.mk (Kd.R_after (ok := (fun _ => True)) (by (with_reducible repeat (first | apply Kd.R_alloc | apply Kd.R_drewN | apply Kd.R_drew)); exact Kd.R_mono HO_14.out (fun _ hk => ⟨trivial, hk⟩)) hg hat); have n2_ := Aside0.mk (hb); have n3_ := Aside0.mk (ho); clear HO_8; clear HO_14; clear HB; clear HO_7; have HO_8 := n0_; have HO_14 := n1_; have HB := n2_; have HO346 := n3_; clear n0_ n1_ n2_ n3_; clear ho hb hg hat))
                    go_roundg k3
                    case measure => have := HK1.out; have := HK2.out; have := HK3.out; omega
                    case rel => exact ⟨(y344), (wrap64 (x9_1 + 1)), (by first | rfl | (simp; done) | (simp [*]; done)), H', ⟨by have := HK1.out; have := HK2.out; have := HK3.out; omega⟩, ⟨by (with_reducible repeat (first | apply Kd.R_alloc | apply Kd.R_drewN | apply Kd.R_drew)); exact Kd.R_mono HO346.out (fun _ hk => trivial)⟩, ⟨by (with_reducible repeat (first | apply Kd.R_alloc | apply Kd.R_drewN | apply Kd.R_drew)); exact HO_8.out⟩, ⟨by repeat (first | (with_reducible first | exact HB.out | apply wA | apply wN | apply w1) | exact HB.out)⟩⟩
                   ·rw [if_neg c78] at H
                    exact absurd H (by simp)
               ·rw [if_neg c59] at H
                exact absurd H (by simp)
              ·rw [if_neg c58] at H
               exact absurd H (by simp)
          ·rw [if_neg c27] at H
           have c27b0 : decide (x9_1 < (t308.length : Int)) = false := decide_eq_false c27
           clear c27
           obtain ⟨y311, hy311⟩ : ∃ y_ : List (S32), y_ = (([(⟨1, 0, (⟨#[97]⟩ : BA), (⟨#[]⟩ : BA), (⟨#[]⟩ : BA), 0⟩ : S32)] : List (S32))) := ⟨_, rfl⟩
           replace H : ((fold_Entries.f y311 ([] : List (S39)) (⟨#[]⟩ : BA) (⟨#[]⟩ : BA)).bind fun t314 => (if (t314.length : Int) = 1 then ((catchmentref05_Entries.f k1 y299 y303 (⟨#[]⟩ : BA) (⟨#[]⟩ : BA)).bind fun t317 => ((catchmentref05_Same.f k1 x7_1 t317).bind fun t320 => (some t320))) else (some false))) = some r := by first | (rw [hy311]; with_reducible exact H) | (have H2_ := (Option.bind_some _ _).symm.trans H; rw [hy311]; with_reducible exact H2_) | (have H2_ := (Option.bind_some _ _).symm.trans H; with_reducible exact H2_) | with_reducible exact H | (rw [hy311]; exact H) | exact H
           have Ny311 := Aside0.mk hy311
           clear hy311
           replace H := Option.bind_eq_some_iff.mp H
           obtain ⟨t314, A810, H⟩ := H
           replace H : (if (t314.length : Int) = 1 then ((catchmentref05_Entries.f k1 y299 y303 (⟨#[]⟩ : BA) (⟨#[]⟩ : BA)).bind fun t317 => ((catchmentref05_Same.f k1 x7_1 t317).bind fun t320 => (some t320))) else (some false)) = some r := H
           have A81 := Aside0.mk A810
           clear A810
           by_cases c82 : (t314.length : Int) = 1
           ·rw [if_pos c82] at H
            have c82b0 : ((t314.length : Int) == 1) = true := beq_iff_eq.mpr c82
            have c82b1 : ((t314.length : Int) != 1) = false := bne_eq_false_iff_eq.mpr c82
            clear c82
            replace H := Option.bind_eq_some_iff.mp H
            obtain ⟨t317, A830, H⟩ := H
            replace H : ((catchmentref05_Same.f k1 x7_1 t317).bind fun t320 => (some t320)) = some r := H
            have A83 := Aside0.mk A830
            clear A830
            replace H := Option.bind_eq_some_iff.mp H
            obtain ⟨t320, A840, H⟩ := H
            replace H : (some t320) = some r := H
            have A84 := Aside0.mk A840
            clear A840
            obtain rfl := Option.some.inj H
            go_wp2_with (first | ((with_reducible refine gate_dst (N := 96) rfl ?_); refine Kd.R_lit k32 _ 32 ?hg (N := 96) ?hd (xs := ([(⟨1, 0, (⟨#[97]⟩ : BA), (⟨#[]⟩ : BA), (⟨#[]⟩ : BA), 0⟩ : S32)] : List (S32))) (inner := [.int .u8 1, .int .i64 0, .string (⟨#[97]⟩ : BA), .string (⟨#[]⟩ : BA), .string (⟨#[]⟩ : BA), .int .u64 0]) (ok := fun _ => True) (okp := fun _ => True) ?hr ?hp (fun _ hk => hk) trivial (Below.refl _ _) (Nat.le_refl _) (by simp) ?_; (case hd => rfl); (case hg => rfl); (case hr => first | (go_simp; done) | (go_simp; rfl)); (case hp => exact (Reps.c6 (show Kd.M k32 _ _ _ (⟨1, 0, (⟨#[97]⟩ : BA), (⟨#[]⟩ : BA), (⟨#[]⟩ : BA), 0⟩ : S32) [.int .u8 1, .int .i64 0, .string (⟨#[97]⟩ : BA), .string (⟨#[]⟩ : BA), .string (⟨#[]⟩ : BA), .int .u64 0] from (k32_mkM _ _ _ (⟨1, 0, (⟨#[97]⟩ : BA), (⟨#[]⟩ : BA), (⟨#[]⟩ : BA), 0⟩ : S32) )) (Reps.none _ _))); intro v312 w85 ho86 hb hg_ hnew_; clear hg_ hnew_; (first | rw [← Ny311.out] at ho86 | (simp only [Int.reduceToNat] at ho86; rw [← Ny311.out] at ho86)); have n0_ := Aside0.mk (Kd.R_below (kR_ HO_7.out) hb); have n1_ := Aside0.mk (Kd.R_below (kR_ HO_8.out) hb); have n2_ := Aside0.mk (Kd.R_lower ho86 (wZ bW_)); have n3_ := Aside0.mk (wT bW_ hb); clear HO_7; clear HO_8; clear HB; have HO_7 := n0_; have HO_8 := n1_; have HO313 := n2_; have HB := n3_; clear n0_ n1_ n2_ n3_; clear hb ho86; obtain ⟨Ao87, co87, eo87⟩ := Kd.R_slice HO313.out; subst eo87) | ((with_reducible refine gate_callee (f := 15) rfl ?_); refine goesL_ (some 98) rfl rfl Try.func15 (by kernel_rfl) rfl #[.slice Ao87 y311.length co87, .slice none 0 0, .agg #[.string (⟨#[]⟩ : BA), .string (⟨#[]⟩ : BA)]] rfl mS_ ?_; (refine (fold_Entries.calls _ _ y311 _ _ ([] : List (S39)) (⟨#[]⟩ : BA) (⟨#[]⟩ : BA) t314 _ ?side1 ?side2 ?side3 ?side4 A81.out).mono ?_); (case side1 => repeat (first | exact (Kd.R_reads' HO313.out).2.2 | (with_reducible refine Kd.C_alloc ?_ _) | (with_reducible refine Kd.C_drewN ?_ _) | (with_reducible refine Kd.C_drew ?_))); (case side2 => exact (Kd.R_reads' HO313.out).2.1); (case side3 => exact Kd.C_nil _ _); (case side4 => exact Nat.le_refl _); rintro e w88 ⟨v315, rfl, ho0, hb⟩; refine ⟨_, rfl, ?_⟩; have n0_ := Aside0.mk (Kd.R_elder' (kR_ HO_7.out) (Kd.R_base ho0) hb); have n1_ := Aside0.mk (Kd.R_below (kR_ HO_8.out) hb); have n2_ := Aside0.mk (Kd.R_below (kR_ HO313.out) hb); have n3_ := Aside0.mk (Kd.R_lower (Kd.R_new' ho0 (Kd.R_lt (kR_ HO_7.out))) (wZ bW_)); have n4_ := Aside0.mk (wT bW_ hb); clear HO_7; clear HO_8; clear HO313; clear HB; have HO_7 := n0_; have HO_8 := n1_; have HO313 := n2_; have HO316 := n3_; have HB := n4_; clear n0_ n1_ n2_ n3_ n4_; (try clear hb); (try clear hb2); (try clear hk); (try clear hi); (try clear ho0); obtain ⟨Ao89, co89, eo89⟩ := Kd.R_slice HO316.out; subst eo89) | (go_at_call 19; (with_reducible refine (catchmentref05_Entries.calls k1 _ _ y299 _ _ y303 (⟨#[]⟩ : BA) (⟨#[]⟩ : BA) t317 _ ?side1 ?side2 ?side3 ?side4 A83.out).mono ?_); (case side1 => repeat (first | exact (Kd.C_below HR302.out HB.out) | (with_reducible refine Kd.C_alloc ?_ _) | (with_reducible refine Kd.C_drewN ?_ _) | (with_reducible refine Kd.C_drew ?_))); (case side2 => exact HC302.out); (case side3 => repeat (first | exact (Kd.C_below HR306.out HB.out) | (with_reducible refine Kd.C_alloc ?_ _) | (with_reducible refine Kd.C_drewN ?_ _) | (with_reducible refine Kd.C_drew ?_))); (case side4 => exact HC306.out); rintro e w90 ⟨v318, rfl, ho0, hb⟩; have n0_ := Aside0.mk (Kd.R_elder' (kR_ HO_7.out) (Kd.R_base ho0) hb); have n1_ := Aside0.mk (Kd.R_below (kR_ HO_8.out) hb); have n2_ := Aside0.mk (Kd.R_below (kR_ HO313.out) hb); have n3_ := Aside0.mk (Kd.R_elder' (kR_ HO316.out) (Kd.R_base ho0) hb); have n4_ := Aside0.mk (Kd.R_lower (Kd.R_new' (Kd.R_new' ho0 (Kd.R_lt (kR_ HO_7.out))) (Kd.R_lt (kR_ HO316.out))) (wZ bW_)); have n5_ := Aside0.mk (wT bW_ hb); clear HO_7; clear HO_8; clear HO313; clear HO316; clear HB; have HO_7 := n0_; have HO_8 := n1_; have HO313 := n2_; have HO316 := n3_; have HO319 := n4_; have HB := n5_; clear n0_ n1_ n2_ n3_ n4_ n5_; (try clear hb); (try clear hb2); (try clear hk); (try clear hi); (try clear ho0); obtain ⟨Ao91, co91, eo91⟩ := Kd.R_slice HO_7.out; subst eo91; obtain ⟨Ao92, co92, eo92⟩ := Kd.R_slice HO319.out; subst eo92) | (go_at_call 18; (with_reducible refine (catchmentref05_Same.calls k1 _ _ x7_1 _ _ t317 t320 _ ?side1 ?side2 ?side3 ?side4 A84.out).mono ?_); (case side1 => repeat (first | exact (Kd.R_reads' HO_7.out).2.2 | (with_reducible refine Kd.C_alloc ?_ _) | (with_reducible refine Kd.C_drewN ?_ _) | (with_reducible refine Kd.C_drew ?_))); (case side2 => exact (Kd.R_reads' HO_7.out).2.1); (case side3 => repeat (first | exact (Kd.R_reads' HO319.out).2.2 | (with_reducible refine Kd.C_alloc ?_ _) | (with_reducible refine Kd.C_drewN ?_ _) | (with_reducible refine Kd.C_drew ?_))); (case side4 => exact (Kd.R_reads' HO319.out).2.1); rintro e w' ⟨rfl, ⟨nd, rfl⟩⟩))
            go_ret
            exact ⟨by first | rfl | (simp [errW_none, errW_some] <;> rfl) | (simp only [← hji4, ← hji7, ← hji10]; first | rfl | (simp [errW_none, errW_some] <;> rfl)) | (simp [*, errW_none, errW_some] <;> rfl), by repeat (first | (with_reducible first | exact HB.out | apply wA | apply wN | apply w1) | exact HB.out)⟩
           ·rw [if_neg c82] at H
            have c82b0 : ((t314.length : Int) == 1) = false := beq_eq_false_iff_ne.mpr c82
            have c82b1 : ((t314.length : Int) != 1) = true := bne_iff_ne.mpr c82
            obtain rfl := Option.some.inj H
            go_wp2_with (first | ((with_reducible refine gate_dst (N := 96) rfl ?_); refine Kd.R_lit k32 _ 32 ?hg (N := 96) ?hd (xs := ([(⟨1, 0, (⟨#[97]⟩ : BA), (⟨#[]⟩ : BA), (⟨#[]⟩ : BA), 0⟩ : S32)] : List (S32))) (inner := [.int .u8 1, .int .i64 0, .string (⟨#[97]⟩ : BA), .string (⟨#[]⟩ : BA), .string (⟨#[]⟩ : BA), .int .u64 0]) (ok := fun _ => True) (okp := fun _ => True) ?hr ?hp (fun _ hk => hk) trivial (Below.refl _ _) (Nat.le_refl _) (by simp) ?_; (case hd => rfl); (case hg => rfl); (case hr => first | (go_simp; done) | (go_simp; rfl)); (case hp => exact (Reps.c6 (show Kd.M k32 _ _ _ (⟨1, 0, (⟨#[97]⟩ : BA), (⟨#[]⟩ : BA), (⟨#[]⟩ : BA), 0⟩ : S32) [.int .u8 1, .int .i64 0, .string (⟨#[97]⟩ : BA), .string (⟨#[]⟩ : BA), .string (⟨#[]⟩ : BA), .int .u64 0] from (k32_mkM _ _ _ (⟨1, 0, (⟨#[97]⟩ : BA), (⟨#[]⟩ : BA), (⟨#[]⟩ : BA), 0⟩ : S32) )) (Reps.none _ _))); intro v312 w93 ho94 hb hg_ hnew_; clear hg_ hnew_; (first | rw [← Ny311.out] at ho94 | (simp only [Int.reduceToNat] at ho94; rw [← Ny311.out] at ho94)); have n0_ := Aside0.mk (Kd.R_below (kR_ HO_7.out) hb); have n1_ := Aside0.mk (Kd.R_below (kR_ HO_8.out) hb); have n2_ := Aside0.mk (Kd.R_lower ho94 (wZ bW_)); have n3_ := Aside0.mk (wT bW_ hb); clear HO_7; clear HO_8; clear HB; have HO_7 := n0_; have HO_8 := n1_; have HO313 := n2_; have HB := n3_; clear n0_ n1_ n2_ n3_; clear hb ho94; obtain ⟨Ao95, co95, eo95⟩ := Kd.R_slice HO313.out; subst eo95) | ((with_reducible refine gate_callee (f := 15) rfl ?_); refine goesL_ (some 98) rfl rfl Try.func15 (by kernel_rfl) rfl #[.slice Ao95 y311.length co95, .slice none 0 0, .agg #[.string (⟨#[]⟩ : BA), .string (⟨#[]⟩ : BA)]] rfl mS_ ?_; (refine (fold_Entries.calls _ _ y311 _ _ ([] : List (S39)) (⟨#[]⟩ : BA) (⟨#[]⟩ : BA) t314 _ ?side1 ?side2 ?side3 ?side4 A81.out).mono ?_); (case side1 => repeat (first | exact (Kd.R_reads' HO313.out).2.2 | (with_reducible refine Kd.C_alloc ?_ _) | (with_reducible refine Kd.C_drewN ?_ _) | (with_reducible refine Kd.C_drew ?_))); (case side2 => exact (Kd.R_reads' HO313.out).2.1); (case side3 => exact Kd.C_nil _ _); (case side4 => exact Nat.le_refl _); rintro e w96 ⟨v315, rfl, ho0, hb⟩; refine ⟨_, rfl, ?_⟩; have n0_ := Aside0.mk (Kd.R_elder' (kR_ HO_7.out) (Kd.R_base ho0) hb); have n1_ := Aside0.mk (Kd.R_below (kR_ HO_8.out) hb); have n2_ := Aside0.mk (Kd.R_below (kR_ HO313.out) hb); have n3_ := Aside0.mk (Kd.R_lower (Kd.R_new' ho0 (Kd.R_lt (kR_ HO_7.out))) (wZ bW_)); have n4_ := Aside0.mk (wT bW_ hb); clear HO_7; clear HO_8; clear HO313; clear HB; have HO_7 := n0_; have HO_8 := n1_; have HO313 := n2_; have HO316 := n3_; have HB := n4_; clear n0_ n1_ n2_ n3_ n4_; (try clear hb); (try clear hb2); (try clear hk); (try clear hi); (try clear ho0); obtain ⟨Ao97, co97, eo97⟩ := Kd.R_slice HO316.out; subst eo97))
            go_ret
            exact ⟨by first | rfl | (simp [errW_none, errW_some] <;> rfl) | (simp only [← hji4, ← hji7, ← hji10]; first | rfl | (simp [errW_none, errW_some] <;> rfl)) | (simp [*, errW_none, errW_some] <;> rfl), by repeat (first | (with_reducible first | exact HB.out | apply wA | apply wN | apply w1) | exact HB.out)⟩
      ·rw [if_neg c12] at H
       exact absurd H (by simp)
     ·rw [if_neg c11] at H
      exact absurd H (by simp)
    ·rw [if_neg c9] at H
     exact absurd H (by simp)
   ·rw [if_neg c8] at H
    exact absurd H (by simp)
  ·rw [if_neg c6] at H
   exact absurd H (by simp)
 ·rw [if_neg c5] at H
  exact absurd H (by simp)
end Go.Proofs.Ytebejadiaooooaa.P
end
