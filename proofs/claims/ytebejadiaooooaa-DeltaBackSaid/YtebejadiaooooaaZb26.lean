/- Texts of one claim (laid by shake.py). -/
import Derived.Test.YtebejadiaooooaaZb3
import Derived.Test.YtebejadiaooooaaZb7
import Derived.Test.YtebejadiaooooaaZb9
import Derived.Test.YtebejadiaooooaaZb25
import Derived.Test.YtebejadiaooooaaZb24
set_option linter.unusedVariables false
set_option linter.unusedSimpArgs false
section
namespace Go.Proofs.Ytebejadiaooooaa.P
open Go.RowKit Go.Proofs.YtebejadiaooooaaW.PrintWords Go.Proofs.YtebejadiaooooaaW.PrintLast Go.Proofs.YtebejadiaooooaaW.PrintMore Go.Proofs.Ytebejadiaooooaa.Own
open Bool renaming true → YY, false → ZZ
open Go.Proofs.YtebejadiaooooaaW.PrintWords renaming pw_below_drewN → wN, below_drew1 → w1, below_alloc → wA, below_step → wT, below_size → wZ
open List renaming setIfInBounds_toArray → sA1, set_cons_zero → sA2, set_cons_succ → sA3, map_toArray → mA1, map_cons → mA2, map_nil → mA3, length_take → mA4, length_drop → mA5
attribute [local go_sem] max2_str max2_int min2_int max_two min_two max_three min_three max_four min_four   -- for this text's walks alone
mutual
def catchmentlaw37_DeltaBack.j0 : Nat → List (S39) → List (S39) → Int → Bool → Option (Bool)
 | 0, _, _, _, _ => none
 | k + 1, x0, x1, x2, x18 => if x18 = true then ((catchmentlaw37_live.f k).bind fun t709 => (some t709)) else ((delta_Diff.f k x0 x1).bind fun t710 => ((delta_Runs.f k x0 x1).bind fun t713 => ((delta_Patch.f x0 t710).bind fun t716 => ((catchmentref05_Same.f k t716 x1).bind fun t719 => (if t719 = true then ((delta_Patch.f x0 t713).bind fun t720 => ((catchmentref05_Same.f k t720 x1).bind fun t723 => (if t723 = true then (catchmentlaw37_DeltaBack.j1 k x0 x1 x2 t710 (decide ((t713.length : Int) > (t710.length : Int)))) else (catchmentlaw37_DeltaBack.j1 k x0 x1 x2 t710 true)))) else (catchmentlaw37_DeltaBack.j1 k x0 x1 x2 t710 true))))))
def catchmentlaw37_DeltaBack.j1 : Nat → List (S39) → List (S39) → Int → List (S32) → Bool → Option (Bool)
 | 0, _, _, _, _, _ => none
 | k + 1, x0, x1, x2, x7, x46 => if x46 = true then (some false) else (if (x7.length : Int) = 0 then ((catchmentlaw37_live.f k).bind fun t724 => (if t724 = true then ((catchmentref05_Same.f k x0 x1).bind fun t725 => (some t725)) else (some false))) else ((some (([] : List (S32)) : List (S32))).bind fun y726 => (if 0 ≤ (Int.tmod (wrap64 (x2)) (x7.length : Int)) then (if (Int.tmod (wrap64 (x2)) (x7.length : Int)) ≤ (x7.length : Int) then ((some (x7.take ((Int.tmod (wrap64 (x2)) (x7.length : Int)) : Int).toNat : List (S32))).bind fun y729 => (if y726.length + y729.length < 1954687338268 then ((some (y726 ++ y729 : List (S32))).bind fun y733 => (if 0 ≤ (wrap64 ((Int.tmod (wrap64 (x2)) (x7.length : Int)) + 1)) then (if (wrap64 ((Int.tmod (wrap64 (x2)) (x7.length : Int)) + 1)) ≤ (x7.length : Int) then ((some (x7.drop ((wrap64 ((Int.tmod (wrap64 (x2)) (x7.length : Int)) + 1)) : Int).toNat : List (S32))).bind fun y736 => (if y733.length + y736.length < 1954687338268 then ((catchmentlaw37_live.f k).bind fun t743 => (if t743 = true then ((delta_Patch.f x0 (y733 ++ y736)).bind fun t744 => ((catchmentref05_Same.f k t744 x1).bind fun t747 => (some (!t747)))) else (some false))) else (none))) else (none)) else (none))) else (none))) else (none)) else (none))))
end
def catchmentlaw37_DeltaBack.f (k : Nat) (l0 : List (S39)) (l1 : List (S39)) (a2 : Int) : Option (Bool) := (catchmentlaw37_right.f k l0).bind fun t707 => (if t707 = true then ((catchmentlaw37_right.f k l1).bind fun t708 => (catchmentlaw37_DeltaBack.j0 k l0 l1 a2 (!t708))) else (catchmentlaw37_DeltaBack.j0 k l0 l1 a2 true))
def catchmentlaw37_DeltaBack.T9 : Bool × List (List Nat × List Nat) := (true, [([], []), ([], []), ([], []), ([1, 2], [1, 2]), ([0, 3], [0, 3]), ([], []), ([], []), ([6], [6]), ([5, 7], [5, 7]), ([4, 8, 4], [4, 8]), ([9, 9, 0, 1, 2, 3, 4, 5, 6, 7, 8, 9], [9])])
def catchmentlaw37_DeltaBack.B9 : List Nat := [0, 0, 0, 6, 15, 0, 0, 64, 224, 511, 1023]
theorem catchmentlaw37_DeltaBack.tab9 : rtab .any (opsOf Try.f9 9) = catchmentlaw37_DeltaBack.T9 := by kernel_rfl
theorem catchmentlaw37_DeltaBack.bits9 : waitsOk catchmentlaw37_DeltaBack.T9.2 catchmentlaw37_DeltaBack.B9 = true := by kernel_rfl
set_option maxHeartbeats 8000000 in
set_option maxRecDepth 100000 in
theorem catchmentlaw37_DeltaBack.calls (k : Nat) (A0 : Option Addr) (c0 : Nat) (l0 : List (S39)) (A1 : Option Addr) (c1 : Nat) (l1 : List (S39)) (a2 : Int) (r : Bool) (w : World) (hr0 : Kd.C k39 w A0 l0.length l0) (hc0 : l0.length ≤ c0) (hr1 : Kd.C k39 w A1 l1.length l1) (hc1 : l1.length ≤ c1) (h : catchmentlaw37_DeltaBack.f k l0 l1 a2 = some r) :
  Calls Try.prog 9 #[.slice A0 l0.length c0, .slice A1 l1.length c1, .int .u8 a2] w fun e w' => e = .returned (.bool r) ∧ Below w.heap.size w w' := by
 have HR0 := Aside0.mk hr0
 have HC0 := Aside0.mk hc0
 clear hr0 hc0
 have HR1 := Aside0.mk hr1
 have HC1 := Aside0.mk hc1
 clear hr1 hc1
 have HB := Aside0.mk (Below.refl w.heap.size w)
 have H : ((catchmentlaw37_right.f k l0).bind fun t707 => (if t707 = true then ((catchmentlaw37_right.f k l1).bind fun t708 => (catchmentlaw37_DeltaBack.j0 k l0 l1 a2 (!t708))) else (catchmentlaw37_DeltaBack.j0 k l0 l1 a2 true))) = some r := h
 clear h
 have HC4 := Aside0.mk H
 clear H
 go_enter Try.func9, Try.ntmps9
 go_upto_region 1 with (fail)
 go_cut [18] (fun v18 wc => ∃ (kq : Nat) (x18_3 : Bool), v18 = .bool x18_3 ∧ Aside0 (catchmentlaw37_DeltaBack.j0 kq l0 l1 a2 x18_3 = some r) ∧ Aside0 (kq ≤ k) ∧ Aside0 (Below w.heap.size w wc))
 case first =>
  have H := HC4.out
  clear HC4
  replace H := Option.bind_eq_some_iff.mp H
  obtain ⟨t707, A50, H⟩ := H
  replace H : (if t707 = true then ((catchmentlaw37_right.f k l1).bind fun t708 => (catchmentlaw37_DeltaBack.j0 k l0 l1 a2 (!t708))) else (catchmentlaw37_DeltaBack.j0 k l0 l1 a2 true)) = some r := H
  have A5 := Aside0.mk A50
  clear A50
  by_cases c6 : t707 = true
  ·subst c6
   have H1 : ((catchmentlaw37_right.f k l1).bind fun t708 => (catchmentlaw37_DeltaBack.j0 k l0 l1 a2 (!t708))) = some r := by rw [if_pos rfl] at H; exact H
   clear H
   have H := H1
   clear H1
   replace H := Option.bind_eq_some_iff.mp H
   obtain ⟨t708, A70, H⟩ := H
   replace H : (catchmentlaw37_DeltaBack.j0 k l0 l1 a2 (!t708)) = some r := H
   have A7 := Aside0.mk A70
   clear A70
   have H' := Aside0.mk H
   clear H
   go_wp2_with (first | ((with_reducible refine gate_callee (f := 38) rfl ?_); refine goesL_ (some 12) rfl rfl Try.func38 (by kernel_rfl) rfl #[.slice A0 l0.length c0] rfl mS_ ?_; (with_reducible refine (catchmentlaw37_right.calls k _ _ l0 true _ ?side1 ?side2 A5.out).mono ?_); (case side1 => repeat (first | exact (Kd.C_below HR0.out HB.out) | (with_reducible refine Kd.C_alloc ?_ _) | (with_reducible refine Kd.C_drewN ?_ _) | (with_reducible refine Kd.C_drew ?_))); (case side2 => exact HC0.out); rintro e w' ⟨rfl, ⟨nd, rfl⟩⟩; refine ⟨_, rfl, ?_⟩) | (go_at_call 38; (with_reducible refine (catchmentlaw37_right.calls k _ _ l1 t708 _ ?side1 ?side2 A7.out).mono ?_); (case side1 => repeat (first | exact (Kd.C_below HR1.out bW_) | (with_reducible refine Kd.C_alloc ?_ _) | (with_reducible refine Kd.C_drewN ?_ _) | (with_reducible refine Kd.C_drew ?_))); (case side2 => exact HC1.out); rintro e w' ⟨rfl, ⟨nd, rfl⟩⟩))
   go_meet
   case rel => exact ⟨_, (!t708), (by first | rfl | (simp; done) | (simp [*]; done)), H', ⟨by first | omega | exact Nat.le_refl _⟩, ⟨by repeat (first | (with_reducible first | exact HB.out | apply wA | apply wN | apply w1) | exact HB.out)⟩⟩
  ·replace c6 := Bool.eq_false_iff.mpr c6
   subst c6
   have H1 : (catchmentlaw37_DeltaBack.j0 k l0 l1 a2 true) = some r := by rw [if_neg (show ¬ (false = true) by decide)] at H; exact H
   clear H
   have H := H1
   clear H1
   have H' := Aside0.mk H
   clear H
   go_wp2_with (first | ((with_reducible refine gate_callee (f := 38) rfl ?_); refine goesL_ (some 12) rfl rfl Try.func38 (by kernel_rfl) rfl #[.slice A0 l0.length c0] rfl mS_ ?_; (with_reducible refine (catchmentlaw37_right.calls k _ _ l0 false _ ?side1 ?side2 A5.out).mono ?_); (case side1 => repeat (first | exact (Kd.C_below HR0.out HB.out) | (with_reducible refine Kd.C_alloc ?_ _) | (with_reducible refine Kd.C_drewN ?_ _) | (with_reducible refine Kd.C_drew ?_))); (case side2 => exact HC0.out); rintro e w' ⟨rfl, ⟨nd, rfl⟩⟩; refine ⟨_, rfl, ?_⟩))
   go_meet
   case rel => exact ⟨_, (true), (by first | rfl | (simp; done) | (simp [*]; done)), H', ⟨by first | omega | exact Nat.le_refl _⟩, ⟨by repeat (first | (with_reducible first | exact HB.out | apply wA | apply wN | apply w1) | exact HB.out)⟩⟩
 case rest =>
  clear HC4
  try clear c1
  try clear p2
  try clear c3
  try clear c6
  obtain ⟨kq, x18_3, rfl, HA, HJ3, HB⟩ := hcut
  cases kq with
  | zero => exact absurd HA.out (by simp [catchmentlaw37_DeltaBack.j0])
  | succ kj3 =>
   have H := HA.out
   clear HA
   simp only [catchmentlaw37_DeltaBack.j0] at H
   by_cases c8 : x18_3 = true
   ·subst c8
    have H1 : ((catchmentlaw37_live.f kj3).bind fun t709 => (some t709)) = some r := by rw [if_pos rfl] at H; exact H
    clear H
    have H := H1
    clear H1
    replace H := Option.bind_eq_some_iff.mp H
    obtain ⟨t709, A90, H⟩ := H
    replace H : (some t709) = some r := H
    have A9 := Aside0.mk A90
    clear A90
    obtain rfl := Option.some.inj H
    go_wp2_with (first | ((with_reducible refine gate_callee (f := 39) rfl ?_); refine goesL_ (some 19) rfl rfl Try.func39 (by kernel_rfl) rfl #[] rfl mS_ ?_; (with_reducible refine (catchmentlaw37_live.calls kj3  t709 _ A9.out).mono ?_); rintro e w10 ⟨rfl, hb⟩; refine ⟨_, rfl, ?_⟩; have n0_ := Aside0.mk (wT bW_ hb); clear HB; have HB := n0_; clear n0_; (try clear hb); (try clear hb2); (try clear hk); (try clear hi)))
    go_ret
    exact ⟨by first | rfl | (simp [errW_none, errW_some] <;> rfl) | (simp [*, errW_none, errW_some] <;> rfl), by repeat (first | (with_reducible first | exact HB.out | apply wA | apply wN | apply w1) | exact HB.out)⟩
   ·replace c8 := Bool.eq_false_iff.mpr c8
    subst c8
    have H1 : ((delta_Diff.f kj3 l0 l1).bind fun t710 => ((delta_Runs.f kj3 l0 l1).bind fun t713 => ((delta_Patch.f l0 t710).bind fun t716 => ((catchmentref05_Same.f kj3 t716 l1).bind fun t719 => (if t719 = true then ((delta_Patch.f l0 t713).bind fun t720 => ((catchmentref05_Same.f kj3 t720 l1).bind fun t723 => (if t723 = true then (catchmentlaw37_DeltaBack.j1 kj3 l0 l1 a2 t710 (decide ((t713.length : Int) > (t710.length : Int)))) else (catchmentlaw37_DeltaBack.j1 kj3 l0 l1 a2 t710 true)))) else (catchmentlaw37_DeltaBack.j1 kj3 l0 l1 a2 t710 true)))))) = some r := by rw [if_neg (show ¬ (false = true) by decide)] at H; exact H
    clear H
    have H := H1
    clear H1
    replace H := Option.bind_eq_some_iff.mp H
    obtain ⟨t710, A110, H⟩ := H
    replace H : ((delta_Runs.f kj3 l0 l1).bind fun t713 => ((delta_Patch.f l0 t710).bind fun t716 => ((catchmentref05_Same.f kj3 t716 l1).bind fun t719 => (if t719 = true then ((delta_Patch.f l0 t713).bind fun t720 => ((catchmentref05_Same.f kj3 t720 l1).bind fun t723 => (if t723 = true then (catchmentlaw37_DeltaBack.j1 kj3 l0 l1 a2 t710 (decide ((t713.length : Int) > (t710.length : Int)))) else (catchmentlaw37_DeltaBack.j1 kj3 l0 l1 a2 t710 true)))) else (catchmentlaw37_DeltaBack.j1 kj3 l0 l1 a2 t710 true))))) = some r := H
    have A11 := Aside0.mk A110
    clear A110
    replace H := Option.bind_eq_some_iff.mp H
    obtain ⟨t713, A120, H⟩ := H
    replace H : ((delta_Patch.f l0 t710).bind fun t716 => ((catchmentref05_Same.f kj3 t716 l1).bind fun t719 => (if t719 = true then ((delta_Patch.f l0 t713).bind fun t720 => ((catchmentref05_Same.f kj3 t720 l1).bind fun t723 => (if t723 = true then (catchmentlaw37_DeltaBack.j1 kj3 l0 l1 a2 t710 (decide ((t713.length : Int) > (t710.length : Int)))) else (catchmentlaw37_DeltaBack.j1 kj3 l0 l1 a2 t710 true)))) else (catchmentlaw37_DeltaBack.j1 kj3 l0 l1 a2 t710 true)))) = some r := H
    have A12 := Aside0.mk A120
    clear A120
    have HC13 := Aside0.mk H
    clear H
    go_upto_region 4 with (first | ((with_reducible refine gate_callee (f := 41) rfl ?_); refine goesL_ (some 22) rfl rfl Try.func41 (by kernel_rfl) rfl #[.slice A0 l0.length c0, .slice A1 l1.length c1] rfl mS_ ?_; (with_reducible refine (delta_Diff.calls kj3 _ _ l0 _ _ l1 t710 _ ?side1 ?side2 ?side3 ?side4 A11.out).mono ?_); (case side1 => repeat (first | exact (Kd.C_below HR0.out HB.out) | (with_reducible refine Kd.C_alloc ?_ _) | (with_reducible refine Kd.C_drewN ?_ _) | (with_reducible refine Kd.C_drew ?_))); (case side2 => exact HC0.out); (case side3 => repeat (first | exact (Kd.C_below HR1.out HB.out) | (with_reducible refine Kd.C_alloc ?_ _) | (with_reducible refine Kd.C_drewN ?_ _) | (with_reducible refine Kd.C_drew ?_))); (case side4 => exact HC1.out); rintro e w14 ⟨v711, rfl, ho0, hb⟩; refine ⟨_, rfl, ?_⟩; have n0_ := Aside0.mk (Kd.R_lower ho0 (wZ bW_)); have n1_ := Aside0.mk (wT bW_ hb); clear HB; have HO712 := n0_; have HB := n1_; clear n0_ n1_; (try clear hb); (try clear hb2); (try clear hk); (try clear hi); (try clear ho0)) | ((with_reducible refine gate_callee (f := 43) rfl ?_); refine goesL_ (some 25) rfl rfl Try.func43 (by kernel_rfl) rfl #[.slice A0 l0.length c0, .slice A1 l1.length c1] rfl mS_ ?_; (with_reducible refine (delta_Runs.calls kj3 _ _ l0 _ _ l1 t713 _ ?side1 ?side2 ?side3 ?side4 A12.out).mono ?_); (case side1 => repeat (first | exact (Kd.C_below HR0.out HB.out) | (with_reducible refine Kd.C_alloc ?_ _) | (with_reducible refine Kd.C_drewN ?_ _) | (with_reducible refine Kd.C_drew ?_))); (case side2 => exact HC0.out); (case side3 => repeat (first | exact (Kd.C_below HR1.out HB.out) | (with_reducible refine Kd.C_alloc ?_ _) | (with_reducible refine Kd.C_drewN ?_ _) | (with_reducible refine Kd.C_drew ?_))); (case side4 => exact HC1.out); rintro e w15 ⟨v714, rfl, ho0, hb⟩; refine ⟨_, rfl, ?_⟩; have n0_ := Aside0.mk (Kd.R_elder' (kR_ HO712.out) (Kd.R_base ho0) hb); have n1_ := Aside0.mk (Kd.R_lower (Kd.R_new' ho0 (Kd.R_lt (kR_ HO712.out))) (wZ bW_)); have n2_ := Aside0.mk (wT bW_ hb); clear HO712; clear HB; have HO712 := n0_; have HO715 := n1_; have HB := n2_; clear n0_ n1_ n2_; (try clear hb); (try clear hb2); (try clear hk); (try clear hi); (try clear ho0)))
    (try simp only [Act.put, sA1, sA2, sA3])
    go_cut [46] (fun v46 wc => ∃ (kq : Nat) (x46_12 : Bool), v46 = .bool x46_12 ∧ Aside0 (catchmentlaw37_DeltaBack.j1 kq l0 l1 a2 t710 x46_12 = some r) ∧ Aside0 (kq ≤ kj3) ∧ Aside0 (Kd.R k32 32 wc w.heap.size (fun _ => True) v711 t710) ∧ Aside0 (Below w.heap.size w wc))
    case first =>
     have H := HC13.out
     clear HC13
     replace H := Option.bind_eq_some_iff.mp H
     obtain ⟨t716, A160, H⟩ := H
     replace H : ((catchmentref05_Same.f kj3 t716 l1).bind fun t719 => (if t719 = true then ((delta_Patch.f l0 t713).bind fun t720 => ((catchmentref05_Same.f kj3 t720 l1).bind fun t723 => (if t723 = true then (catchmentlaw37_DeltaBack.j1 kj3 l0 l1 a2 t710 (decide ((t713.length : Int) > (t710.length : Int)))) else (catchmentlaw37_DeltaBack.j1 kj3 l0 l1 a2 t710 true)))) else (catchmentlaw37_DeltaBack.j1 kj3 l0 l1 a2 t710 true))) = some r := H
     have A16 := Aside0.mk A160
     clear A160
     replace H := Option.bind_eq_some_iff.mp H
     obtain ⟨t719, A170, H⟩ := H
     replace H : (if t719 = true then ((delta_Patch.f l0 t713).bind fun t720 => ((catchmentref05_Same.f kj3 t720 l1).bind fun t723 => (if t723 = true then (catchmentlaw37_DeltaBack.j1 kj3 l0 l1 a2 t710 (decide ((t713.length : Int) > (t710.length : Int)))) else (catchmentlaw37_DeltaBack.j1 kj3 l0 l1 a2 t710 true)))) else (catchmentlaw37_DeltaBack.j1 kj3 l0 l1 a2 t710 true)) = some r := H
     have A17 := Aside0.mk A170
     clear A170
     by_cases c18 : t719 = true
     ·subst c18
      have H1 : ((delta_Patch.f l0 t713).bind fun t720 => ((catchmentref05_Same.f kj3 t720 l1).bind fun t723 => (if t723 = true then (catchmentlaw37_DeltaBack.j1 kj3 l0 l1 a2 t710 (decide ((t713.length : Int) > (t710.length : Int)))) else (catchmentlaw37_DeltaBack.j1 kj3 l0 l1 a2 t710 true)))) = some r := by rw [if_pos rfl] at H; exact H
      clear H
      have H := H1
      clear H1
      replace H := Option.bind_eq_some_iff.mp H
      obtain ⟨t720, A190, H⟩ := H
      replace H : ((catchmentref05_Same.f kj3 t720 l1).bind fun t723 => (if t723 = true then (catchmentlaw37_DeltaBack.j1 kj3 l0 l1 a2 t710 (decide ((t713.length : Int) > (t710.length : Int)))) else (catchmentlaw37_DeltaBack.j1 kj3 l0 l1 a2 t710 true))) = some r := H
      have A19 := Aside0.mk A190
      clear A190
      replace H := Option.bind_eq_some_iff.mp H
      obtain ⟨t723, A200, H⟩ := H
      replace H : (if t723 = true then (catchmentlaw37_DeltaBack.j1 kj3 l0 l1 a2 t710 (decide ((t713.length : Int) > (t710.length : Int)))) else (catchmentlaw37_DeltaBack.j1 kj3 l0 l1 a2 t710 true)) = some r := H
      have A20 := Aside0.mk A200
      clear A200
      by_cases c21 : t723 = true
      ·subst c21
       have H1 : (catchmentlaw37_DeltaBack.j1 kj3 l0 l1 a2 t710 (decide ((t713.length : Int) > (t710.length : Int)))) = some r := by rw [if_pos rfl] at H; exact H
       clear H
       have H := H1
       clear H1
       have H' := Aside0.mk H
       clear H
       obtain ⟨Ao22, co22, eo22⟩ := Kd.R_slice HO712.out
       subst eo22
       go_wp2_with (first | ((with_reducible refine gate_callee (f := 45) rfl ?_); refine goesL_ (some 28) rfl rfl Try.func45 (by kernel_rfl) rfl #[.slice A0 l0.length c0, .slice Ao22 t710.length co22] rfl mS_ ?_; (with_reducible refine (delta_Patch.calls _ _ l0 _ _ t710 t716 _ ?side1 ?side2 ?side3 ?side4 A16.out).mono ?_); (case side1 => repeat (first | exact (Kd.C_below HR0.out HB.out) | (with_reducible refine Kd.C_alloc ?_ _) | (with_reducible refine Kd.C_drewN ?_ _) | (with_reducible refine Kd.C_drew ?_))); (case side2 => exact HC0.out); (case side3 => repeat (first | exact (Kd.R_reads' HO712.out).2.2 | (with_reducible refine Kd.C_alloc ?_ _) | (with_reducible refine Kd.C_drewN ?_ _) | (with_reducible refine Kd.C_drew ?_))); (case side4 => exact (Kd.R_reads' HO712.out).2.1); rintro e w23 ⟨v717, rfl, ho0, hb⟩; refine ⟨_, rfl, ?_⟩; have n0_ := Aside0.mk (Kd.R_below (kR_ HO712.out) hb); have n1_ := Aside0.mk (Kd.R_below (kR_ HO715.out) hb); have n2_ := Aside0.mk (Kd.R_lower ho0 (wZ bW_)); have n3_ := Aside0.mk (wT bW_ hb); clear HO712; clear HO715; clear HB; have HO712 := n0_; have HO715 := n1_; have HO718 := n2_; have HB := n3_; clear n0_ n1_ n2_ n3_; (try clear hb); (try clear hb2); (try clear hk); (try clear hi); (try clear ho0); obtain ⟨Ao24, co24, eo24⟩ := Kd.R_slice HO718.out; subst eo24) | ((with_reducible refine gate_callee (f := 18) rfl ?_); refine goesL_ (some 30) rfl rfl Try.func18 (by kernel_rfl) rfl #[.slice Ao24 t716.length co24, .slice A1 l1.length c1] rfl mS_ ?_; (with_reducible refine (catchmentref05_Same.calls kj3 _ _ t716 _ _ l1 true _ ?side1 ?side2 ?side3 ?side4 A17.out).mono ?_); (case side1 => repeat (first | exact (Kd.R_reads' HO718.out).2.2 | (with_reducible refine Kd.C_alloc ?_ _) | (with_reducible refine Kd.C_drewN ?_ _) | (with_reducible refine Kd.C_drew ?_))); (case side2 => exact (Kd.R_reads' HO718.out).2.1); (case side3 => repeat (first | exact (Kd.C_below HR1.out HB.out) | (with_reducible refine Kd.C_alloc ?_ _) | (with_reducible refine Kd.C_drewN ?_ _) | (with_reducible refine Kd.C_drew ?_))); (case side4 => exact HC1.out); rintro e w' ⟨rfl, ⟨nd, rfl⟩⟩; refine ⟨_, rfl, ?_⟩; obtain ⟨Ao25, co25, eo25⟩ := Kd.R_slice HO715.out; subst eo25) | (go_at_call 45; (with_reducible refine (delta_Patch.calls _ _ l0 _ _ t713 t720 _ ?side1 ?side2 ?side3 ?side4 A19.out).mono ?_); (case side1 => repeat (first | exact (Kd.C_below HR0.out bW_) | (with_reducible refine Kd.C_alloc ?_ _) | (with_reducible refine Kd.C_drewN ?_ _) | (with_reducible refine Kd.C_drew ?_))); (case side2 => exact HC0.out); (case side3 => repeat (first | exact (Kd.R_reads' HO715.out).2.2 | (with_reducible refine Kd.C_alloc ?_ _) | (with_reducible refine Kd.C_drewN ?_ _) | (with_reducible refine Kd.C_drew ?_))); (case side4 => exact (Kd.R_reads' HO715.out).2.1); rintro e w26 ⟨v721, rfl, ho0, hb⟩; have n0_ := Aside0.mk (Kd.R_below (kR_ HO712.out) hb); have n1_ := Aside0.mk (Kd.R_below (kR_ HO715.out) hb); have n2_ := Aside0.mk (Kd.R_elder' (kR_ HO718.out) (Kd.R_base ho0) hb); have n3_ := Aside0.mk (Kd.R_lower (Kd.R_new' ho0 (Kd.R_lt (kR_ HO718.out))) (wZ bW_)); have n4_ := Aside0.mk (wT bW_ hb); clear HO712; clear HO715; clear HO718; clear HB; have HO712 := n0_; have HO715 := n1_; have HO718 := n2_; have HO722 := n3_; have HB := n4_; clear n0_ n1_ n2_ n3_ n4_; (try clear hb); (try clear hb2); (try clear hk); (try clear hi); (try clear ho0); obtain ⟨Ao27, co27, eo27⟩ := Kd.R_slice HO722.out; subst eo27) | (go_at_call 18; (with_reducible refine (catchmentref05_Same.calls kj3 _ _ t720 _ _ l1 true _ ?side1 ?side2 ?side3 ?side4 A20.out).mono ?_); (case side1 => repeat (first | exact (Kd.R_reads' HO722.out).2.2 | (with_reducible refine Kd.C_alloc ?_ _) | (with_reducible refine Kd.C_drewN ?_ _) | (with_reducible refine Kd.C_drew ?_))); (case side2 => exact (Kd.R_reads' HO722.out).2.1); (case side3 => repeat (first | exact (Kd.C_below HR1.out HB.out) | (with_reducible refine Kd.C_alloc ?_ _) | (with_reducible refine Kd.C_drewN ?_ _) | (with_reducible refine Kd.C_drew ?_))); (case side4 => exact HC1.out); rintro e w' ⟨rfl, ⟨nd, rfl⟩⟩))
       go_meet
       case rel => exact ⟨_, (decide ((t713.length : Int) > (t710.length : Int))), (by first | rfl | (simp; done) | (simp [*]; done)), H', ⟨by have := HJ3.out; first | omega | exact Nat.le_refl _⟩, ⟨by (with_reducible repeat (first | apply Kd.R_alloc | apply Kd.R_drewN | apply Kd.R_drew)); exact Kd.R_mono HO712.out (fun _ hk => trivial)⟩, ⟨by repeat (first | (with_reducible first | exact HB.out | apply wA | apply wN | apply w1) | exact HB.out)⟩⟩
      ·replace c21 := Bool.eq_false_iff.mpr c21
       subst c21
       have H1 : (catchmentlaw37_DeltaBack.j1 kj3 l0 l1 a2 t710 true) = some r := by rw [if_neg (show ¬ (false = true) by decide)] at H; exact H
       clear H
       have H := H1
       clear H1
       have H' := Aside0.mk H
       clear H
       obtain ⟨Ao28, co28, eo28⟩ := Kd.R_slice HO712.out
       subst eo28
       go_wp2_with (first | ((with_reducible refine gate_callee (f := 45) rfl ?_); refine goesL_ (some 28) rfl rfl Try.func45 (by kernel_rfl) rfl #[.slice A0 l0.length c0, .slice Ao28 t710.length co28] rfl mS_ ?_; (with_reducible refine (delta_Patch.calls _ _ l0 _ _ t710 t716 _ ?side1 ?side2 ?side3 ?side4 A16.out).mono ?_); (case side1 => repeat (first | exact (Kd.C_below HR0.out HB.out) | (with_reducible refine Kd.C_alloc ?_ _) | (with_reducible refine Kd.C_drewN ?_ _) | (with_reducible refine Kd.C_drew ?_))); (case side2 => exact HC0.out); (case side3 => repeat (first | exact (Kd.R_reads' HO712.out).2.2 | (with_reducible refine Kd.C_alloc ?_ _) | (with_reducible refine Kd.C_drewN ?_ _) | (with_reducible refine Kd.C_drew ?_))); (case side4 => exact (Kd.R_reads' HO712.out).2.1); rintro e w29 ⟨v717, rfl, ho0, hb⟩; refine ⟨_, rfl, ?_⟩; have n0_ := Aside0.mk (Kd.R_below (kR_ HO712.out) hb); have n1_ := Aside0.mk (Kd.R_below (kR_ HO715.out) hb); have n2_ := Aside0.mk (Kd.R_lower ho0 (wZ bW_)); have n3_ := Aside0.mk (wT bW_ hb); clear HO712; clear HO715; clear HB; have HO712 := n0_; have HO715 := n1_; have HO718 := n2_; have HB := n3_; clear n0_ n1_ n2_ n3_; (try clear hb); (try clear hb2); (try clear hk); (try clear hi); (try clear ho0); obtain ⟨Ao30, co30, eo30⟩ := Kd.R_slice HO718.out; subst eo30) | ((with_reducible refine gate_callee (f := 18) rfl ?_); refine goesL_ (some 30) rfl rfl Try.func18 (by kernel_rfl) rfl #[.slice Ao30 t716.length co30, .slice A1 l1.length c1] rfl mS_ ?_; (with_reducible refine (catchmentref05_Same.calls kj3 _ _ t716 _ _ l1 true _ ?side1 ?side2 ?side3 ?side4 A17.out).mono ?_); (case side1 => repeat (first | exact (Kd.R_reads' HO718.out).2.2 | (with_reducible refine Kd.C_alloc ?_ _) | (with_reducible refine Kd.C_drewN ?_ _) | (with_reducible refine Kd.C_drew ?_))); (case side2 => exact (Kd.R_reads' HO718.out).2.1); (case side3 => repeat (first | exact (Kd.C_below HR1.out HB.out) | (with_reducible refine Kd.C_alloc ?_ _) | (with_reducible refine Kd.C_drewN ?_ _) | (with_reducible refine Kd.C_drew ?_))); (case side4 => exact HC1.out); rintro e w' ⟨rfl, ⟨nd, rfl⟩⟩; refine ⟨_, rfl, ?_⟩; obtain ⟨Ao31, co31, eo31⟩ := Kd.R_slice HO715.out; subst eo31) | (go_at_call 45; (with_reducible refine (delta_Patch.calls _ _ l0 _ _ t713 t720 _ ?side1 ?side2 ?side3 ?side4 A19.out).mono ?_); (case side1 => repeat (first | exact (Kd.C_below HR0.out bW_) | (with_reducible refine Kd.C_alloc ?_ _) | (with_reducible refine Kd.C_drewN ?_ _) | (with_reducible refine Kd.C_drew ?_))); (case side2 => exact HC0.out); (case side3 => repeat (first | exact (Kd.R_reads' HO715.out).2.2 | (with_reducible refine Kd.C_alloc ?_ _) | (with_reducible refine Kd.C_drewN ?_ _) | (with_reducible refine Kd.C_drew ?_))); (case side4 => exact (Kd.R_reads' HO715.out).2.1); rintro e w32 ⟨v721, rfl, ho0, hb⟩; have n0_ := Aside0.mk (Kd.R_below (kR_ HO712.out) hb); have n1_ := Aside0.mk (Kd.R_below (kR_ HO715.out) hb); have n2_ := Aside0.mk (Kd.R_elder' (kR_ HO718.out) (Kd.R_base ho0) hb); have n3_ := Aside0.mk (Kd.R_lower (Kd.R_new' ho0 (Kd.R_lt (kR_ HO718.out))) (wZ bW_)); have n4_ := Aside0.mk (wT bW_ hb); clear HO712; clear HO715; clear HO718; clear HB; have HO712 := n0_; have HO715 := n1_; have HO718 := n2_; have HO722 := n3_; have HB := n4_; clear n0_ n1_ n2_ n3_ n4_; (try clear hb); (try clear hb2); (try clear hk); (try clear hi); (try clear ho0); obtain ⟨Ao33, co33, eo33⟩ := Kd.R_slice HO722.out; subst eo33) | (go_at_call 18; (with_reducible refine (catchmentref05_Same.calls kj3 _ _ t720 _ _ l1 false _ ?side1 ?side2 ?side3 ?side4 A20.out).mono ?_); (case side1 => repeat (first | exact (Kd.R_reads' HO722.out).2.2 | (with_reducible refine Kd.C_alloc ?_ _) | (with_reducible refine Kd.C_drewN ?_ _) | (with_reducible refine Kd.C_drew ?_))); (case side2 => exact (Kd.R_reads' HO722.out).2.1); (case side3 => repeat (first | exact (Kd.C_below HR1.out HB.out) | (with_reducible refine Kd.C_alloc ?_ _) | (with_reducible refine Kd.C_drewN ?_ _) | (with_reducible refine Kd.C_drew ?_))); (case side4 => exact HC1.out); rintro e w' ⟨rfl, ⟨nd, rfl⟩⟩))
       go_meet
       case rel => exact ⟨_, (true), (by first | rfl | (simp; done) | (simp [*]; done)), H', ⟨by have := HJ3.out; first | omega | exact Nat.le_refl _⟩, ⟨by (with_reducible repeat (first | apply Kd.R_alloc | apply Kd.R_drewN | apply Kd.R_drew)); exact Kd.R_mono HO712.out (fun _ hk => trivial)⟩, ⟨by repeat (first | (with_reducible first | exact HB.out | apply wA | apply wN | apply w1) | exact HB.out)⟩⟩
     ·replace c18 := Bool.eq_false_iff.mpr c18
      subst c18
      have H1 : (catchmentlaw37_DeltaBack.j1 kj3 l0 l1 a2 t710 true) = some r := by rw [if_neg (show ¬ (false = true) by decide)] at H; exact H
      clear H
      have H := H1
      clear H1
      have H' := Aside0.mk H
      clear H
      obtain ⟨Ao34, co34, eo34⟩ := Kd.R_slice HO712.out
      subst eo34
      go_wp2_with (first | ((with_reducible refine gate_callee (f := 45) rfl ?_); refine goesL_ (some 28) rfl rfl Try.func45 (by kernel_rfl) rfl #[.slice A0 l0.length c0, .slice Ao34 t710.length co34] rfl mS_ ?_; (with_reducible refine (delta_Patch.calls _ _ l0 _ _ t710 t716 _ ?side1 ?side2 ?side3 ?side4 A16.out).mono ?_); (case side1 => repeat (first | exact (Kd.C_below HR0.out HB.out) | (with_reducible refine Kd.C_alloc ?_ _) | (with_reducible refine Kd.C_drewN ?_ _) | (with_reducible refine Kd.C_drew ?_))); (case side2 => exact HC0.out); (case side3 => repeat (first | exact (Kd.R_reads' HO712.out).2.2 | (with_reducible refine Kd.C_alloc ?_ _) | (with_reducible refine Kd.C_drewN ?_ _) | (with_reducible refine Kd.C_drew ?_))); (case side4 => exact (Kd.R_reads' HO712.out).2.1); rintro e w35 ⟨v717, rfl, ho0, hb⟩; refine ⟨_, rfl, ?_⟩; have n0_ := Aside0.mk (Kd.R_below (kR_ HO712.out) hb); have n1_ := Aside0.mk (Kd.R_below (kR_ HO715.out) hb); have n2_ := Aside0.mk (Kd.R_lower ho0 (wZ bW_)); have n3_ := Aside0.mk (wT bW_ hb); clear HO712; clear HO715; clear HB; have HO712 := n0_; have HO715 := n1_; have HO718 := n2_; have HB := n3_; clear n0_ n1_ n2_ n3_; (try clear hb); (try clear hb2); (try clear hk); (try clear hi); (try clear ho0); obtain ⟨Ao36, co36, eo36⟩ := Kd.R_slice HO718.out; subst eo36) | ((with_reducible refine gate_callee (f := 18) rfl ?_); refine goesL_ (some 30) rfl rfl Try.func18 (by kernel_rfl) rfl #[.slice Ao36 t716.length co36, .slice A1 l1.length c1] rfl mS_ ?_; (with_reducible refine (catchmentref05_Same.calls kj3 _ _ t716 _ _ l1 false _ ?side1 ?side2 ?side3 ?side4 A17.out).mono ?_); (case side1 => repeat (first | exact (Kd.R_reads' HO718.out).2.2 | (with_reducible refine Kd.C_alloc ?_ _) | (with_reducible refine Kd.C_drewN ?_ _) | (with_reducible refine Kd.C_drew ?_))); (case side2 => exact (Kd.R_reads' HO718.out).2.1); (case side3 => repeat (first | exact (Kd.C_below HR1.out HB.out) | (with_reducible refine Kd.C_alloc ?_ _) | (with_reducible refine Kd.C_drewN ?_ _) | (with_reducible refine Kd.C_drew ?_))); (case side4 => exact HC1.out); rintro e w' ⟨rfl, ⟨nd, rfl⟩⟩; refine ⟨_, rfl, ?_⟩))
      go_meet
      case rel => exact ⟨_, (true), (by first | rfl | (simp; done) | (simp [*]; done)), H', ⟨by have := HJ3.out; first | omega | exact Nat.le_refl _⟩, ⟨by (with_reducible repeat (first | apply Kd.R_alloc | apply Kd.R_drewN | apply Kd.R_drew)); exact Kd.R_mono HO712.out (fun _ hk => trivial)⟩, ⟨by repeat (first | (with_reducible first | exact HB.out | apply wA | apply wN | apply w1) | exact HB.out)⟩⟩
    case rest =>
     clear HC13
     try clear c1
     try clear c2
     try clear p2
     try clear c3
     try clear c4
     try clear c6
     try clear c8
     try clear c9
     try clear c18
     try clear c21
     try clear p2
     obtain ⟨kq, x46_12, rfl, HA, HJ12, HO_7, HB⟩ := hcut
     cases kq with
     | zero => exact absurd HA.out (by simp [catchmentlaw37_DeltaBack.j1])
     | succ kj12 =>
      have H := HA.out
      clear HA
      simp only [catchmentlaw37_DeltaBack.j1] at H
      by_cases c37 : x46_12 = true
      ·subst c37
       have H1 : (some false) = some r := by rw [if_pos rfl] at H; exact H
       clear H
       have H := H1
       clear H1
       obtain rfl := Option.some.inj H
       go_wp2
       go_ret
       exact ⟨by first | rfl | (simp [errW_none, errW_some] <;> rfl) | (simp [*, errW_none, errW_some] <;> rfl), by repeat (first | (with_reducible first | exact HB.out | apply wA | apply wN | apply w1) | exact HB.out)⟩
      ·replace c37 := Bool.eq_false_iff.mpr c37
       subst c37
       have H1 : (if (t710.length : Int) = 0 then ((catchmentlaw37_live.f kj12).bind fun t724 => (if t724 = true then ((catchmentref05_Same.f kj12 l0 l1).bind fun t725 => (some t725)) else (some false))) else ((some (([] : List (S32)) : List (S32))).bind fun y726 => (if 0 ≤ (Int.tmod (wrap64 (a2)) (t710.length : Int)) then (if (Int.tmod (wrap64 (a2)) (t710.length : Int)) ≤ (t710.length : Int) then ((some (t710.take ((Int.tmod (wrap64 (a2)) (t710.length : Int)) : Int).toNat : List (S32))).bind fun y729 => (if y726.length + y729.length < 1954687338268 then ((some (y726 ++ y729 : List (S32))).bind fun y733 => (if 0 ≤ (wrap64 ((Int.tmod (wrap64 (a2)) (t710.length : Int)) + 1)) then (if (wrap64 ((Int.tmod (wrap64 (a2)) (t710.length : Int)) + 1)) ≤ (t710.length : Int) then ((some (t710.drop ((wrap64 ((Int.tmod (wrap64 (a2)) (t710.length : Int)) + 1)) : Int).toNat : List (S32))).bind fun y736 => (if y733.length + y736.length < 1954687338268 then ((catchmentlaw37_live.f kj12).bind fun t743 => (if t743 = true then ((delta_Patch.f l0 (y733 ++ y736)).bind fun t744 => ((catchmentref05_Same.f kj12 t744 l1).bind fun t747 => (some (!t747)))) else (some false))) else (none))) else (none)) else (none))) else (none))) else (none)) else (none)))) = some r := by rw [if_neg (show ¬ (false = true) by decide)] at H; exact H
       clear H
       have H := H1
       clear H1
       by_cases c38 : (t710.length : Int) = 0
       ·rw [if_pos c38] at H
        have c38b0 : ((t710.length : Int) == 0) = true := beq_iff_eq.mpr c38
        have c38b1 : ((t710.length : Int) != 0) = false := bne_eq_false_iff_eq.mpr c38
        clear c38
        replace H := Option.bind_eq_some_iff.mp H
        obtain ⟨t724, A390, H⟩ := H
        replace H : (if t724 = true then ((catchmentref05_Same.f kj12 l0 l1).bind fun t725 => (some t725)) else (some false)) = some r := H
        have A39 := Aside0.mk A390
        clear A390
        by_cases c40 : t724 = true
        ·subst c40
         have H1 : ((catchmentref05_Same.f kj12 l0 l1).bind fun t725 => (some t725)) = some r := by rw [if_pos rfl] at H; exact H
         clear H
         have H := H1
         clear H1
         replace H := Option.bind_eq_some_iff.mp H
         obtain ⟨t725, A410, H⟩ := H
         replace H : (some t725) = some r := H
         have A41 := Aside0.mk A410
         clear A410
         obtain rfl := Option.some.inj H
         obtain ⟨Ao42, co42, eo42⟩ := Kd.R_slice HO_7.out
         subst eo42
         go_wp2_with (first | ((with_reducible refine gate_callee (f := 39) rfl ?_); refine goesL_ (some 50) rfl rfl Try.func39 (by kernel_rfl) rfl #[] rfl mS_ ?_; (with_reducible refine (catchmentlaw37_live.calls kj12  true _ A39.out).mono ?_); rintro e w43 ⟨rfl, hb⟩; refine ⟨_, rfl, ?_⟩; have n0_ := Aside0.mk (Kd.R_below (kR_ HO_7.out) hb); have n1_ := Aside0.mk (wT bW_ hb); clear HO_7; clear HB; have HO_7 := n0_; have HB := n1_; clear n0_ n1_; (try clear hb); (try clear hb2); (try clear hk); (try clear hi)) | (go_at_call 18; (with_reducible refine (catchmentref05_Same.calls kj12 _ _ l0 _ _ l1 t725 _ ?side1 ?side2 ?side3 ?side4 A41.out).mono ?_); (case side1 => repeat (first | exact (Kd.C_below HR0.out HB.out) | (with_reducible refine Kd.C_alloc ?_ _) | (with_reducible refine Kd.C_drewN ?_ _) | (with_reducible refine Kd.C_drew ?_))); (case side2 => exact HC0.out); (case side3 => repeat (first | exact (Kd.C_below HR1.out HB.out) | (with_reducible refine Kd.C_alloc ?_ _) | (with_reducible refine Kd.C_drewN ?_ _) | (with_reducible refine Kd.C_drew ?_))); (case side4 => exact HC1.out); rintro e w' ⟨rfl, ⟨nd, rfl⟩⟩))
         go_ret
         exact ⟨by first | rfl | (simp [errW_none, errW_some] <;> rfl) | (simp [*, errW_none, errW_some] <;> rfl), by repeat (first | (with_reducible first | exact HB.out | apply wA | apply wN | apply w1) | exact HB.out)⟩
        ·replace c40 := Bool.eq_false_iff.mpr c40
         subst c40
         have H1 : (some false) = some r := by rw [if_neg (show ¬ (false = true) by decide)] at H; exact H
         clear H
         have H := H1
         clear H1
         obtain rfl := Option.some.inj H
         obtain ⟨Ao44, co44, eo44⟩ := Kd.R_slice HO_7.out
         subst eo44
         go_wp2_with (first | ((with_reducible refine gate_callee (f := 39) rfl ?_); refine goesL_ (some 50) rfl rfl Try.func39 (by kernel_rfl) rfl #[] rfl mS_ ?_; (with_reducible refine (catchmentlaw37_live.calls kj12  false _ A39.out).mono ?_); rintro e w45 ⟨rfl, hb⟩; refine ⟨_, rfl, ?_⟩; have n0_ := Aside0.mk (Kd.R_below (kR_ HO_7.out) hb); have n1_ := Aside0.mk (wT bW_ hb); clear HO_7; clear HB; have HO_7 := n0_; have HB := n1_; clear n0_ n1_; (try clear hb); (try clear hb2); (try clear hk); (try clear hi)))
         go_ret
         exact ⟨by first | rfl | (simp [errW_none, errW_some] <;> rfl) | (simp [*, errW_none, errW_some] <;> rfl), by repeat (first | (with_reducible first | exact HB.out | apply wA | apply wN | apply w1) | exact HB.out)⟩
       ·rw [if_neg c38] at H
        have c38b0 : ((t710.length : Int) == 0) = false := beq_eq_false_iff_ne.mpr c38
        have c38b1 : ((t710.length : Int) != 0) = true := bne_iff_ne.mpr c38
        have c38b2 : ¬ (t710 = []) := fun h_ => c38 (by rw [h_]; rfl)
        obtain ⟨y726, hy726⟩ : ∃ y_ : List (S32), y_ = (([] : List (S32))) := ⟨_, rfl⟩
        replace H : (if 0 ≤ (Int.tmod (wrap64 (a2)) (t710.length : Int)) then (if (Int.tmod (wrap64 (a2)) (t710.length : Int)) ≤ (t710.length : Int) then ((some (t710.take ((Int.tmod (wrap64 (a2)) (t710.length : Int)) : Int).toNat : List (S32))).bind fun y729 => (if y726.length + y729.length < 1954687338268 then ((some (y726 ++ y729 : List (S32))).bind fun y733 => (if 0 ≤ (wrap64 ((Int.tmod (wrap64 (a2)) (t710.length : Int)) + 1)) then (if (wrap64 ((Int.tmod (wrap64 (a2)) (t710.length : Int)) + 1)) ≤ (t710.length : Int) then ((some (t710.drop ((wrap64 ((Int.tmod (wrap64 (a2)) (t710.length : Int)) + 1)) : Int).toNat : List (S32))).bind fun y736 => (if y733.length + y736.length < 1954687338268 then ((catchmentlaw37_live.f kj12).bind fun t743 => (if t743 = true then ((delta_Patch.f l0 (y733 ++ y736)).bind fun t744 => ((catchmentref05_Same.f kj12 t744 l1).bind fun t747 => (some (!t747)))) else (some false))) else (none))) else (none)) else (none))) else (none))) else (none)) else (none)) = some r := by first | (rw [hy726]; with_reducible exact H) | (have H2_ := (Option.bind_some _ _).symm.trans H; rw [hy726]; with_reducible exact H2_) | (have H2_ := (Option.bind_some _ _).symm.trans H; with_reducible exact H2_) | with_reducible exact H | (rw [hy726]; exact H) | exact H
        have Ny726 := Aside0.mk hy726
        clear hy726
        obtain ⟨ji46, hji46⟩ : ∃ j_ : Int, (Int.tmod (wrap64 (a2)) (t710.length : Int)) = j_ := ⟨_, rfl⟩
        replace H : (if 0 ≤ (ji46) then (if (ji46) ≤ (t710.length : Int) then ((some (t710.take ((ji46) : Int).toNat : List (S32))).bind fun y729 => (if y726.length + y729.length < 1954687338268 then ((some (y726 ++ y729 : List (S32))).bind fun y733 => (if 0 ≤ (wrap64 ((ji46) + 1)) then (if (wrap64 ((ji46) + 1)) ≤ (t710.length : Int) then ((some (t710.drop ((wrap64 ((ji46) + 1)) : Int).toNat : List (S32))).bind fun y736 => (if y733.length + y736.length < 1954687338268 then ((catchmentlaw37_live.f kj12).bind fun t743 => (if t743 = true then ((delta_Patch.f l0 (y733 ++ y736)).bind fun t744 => ((catchmentref05_Same.f kj12 t744 l1).bind fun t747 => (some (!t747)))) else (some false))) else (none))) else (none)) else (none))) else (none))) else (none)) else (none)) = some r := by first | (rw [hji46] at H; exact H) | (simp only [hji46] at H ⊢; exact H)
        by_cases c47 : 0 ≤ (ji46)
        ·rw [if_pos c47] at H
         have c47b0 := eq_true c47
         have c47b1 : decide (0 ≤ (ji46)) = true := decide_eq_true c47
         clear c47
         by_cases c48 : (ji46) ≤ (t710.length : Int)
         ·rw [if_pos c48] at H
          have c48b0 := eq_true c48
          have c48b1 : decide ((ji46) ≤ (t710.length : Int)) = true := decide_eq_true c48
          clear c48
          obtain ⟨y729, hy729⟩ : ∃ y_ : List (S32), y_ = (t710.take ((ji46) : Int).toNat) := ⟨_, rfl⟩
          replace H : (if y726.length + y729.length < 1954687338268 then ((some (y726 ++ y729 : List (S32))).bind fun y733 => (if 0 ≤ (wrap64 ((ji46) + 1)) then (if (wrap64 ((ji46) + 1)) ≤ (t710.length : Int) then ((some (t710.drop ((wrap64 ((ji46) + 1)) : Int).toNat : List (S32))).bind fun y736 => (if y733.length + y736.length < 1954687338268 then ((catchmentlaw37_live.f kj12).bind fun t743 => (if t743 = true then ((delta_Patch.f l0 (y733 ++ y736)).bind fun t744 => ((catchmentref05_Same.f kj12 t744 l1).bind fun t747 => (some (!t747)))) else (some false))) else (none))) else (none)) else (none))) else (none)) = some r := by first | (rw [hy729]; with_reducible exact H) | (have H2_ := (Option.bind_some _ _).symm.trans H; rw [hy729]; with_reducible exact H2_) | (have H2_ := (Option.bind_some _ _).symm.trans H; with_reducible exact H2_) | with_reducible exact H | (rw [hy729]; exact H) | exact H
          have Ny729 := Aside0.mk hy729
          clear hy729
          by_cases c49 : y726.length + y729.length < 1954687338268
          ·rw [if_pos c49] at H
           have LMc49 := Aside0.mk c49
           clear c49
           obtain ⟨y733, hy733⟩ : ∃ y_ : List (S32), y_ = (y726 ++ y729) := ⟨_, rfl⟩
           replace H : (if 0 ≤ (wrap64 ((ji46) + 1)) then (if (wrap64 ((ji46) + 1)) ≤ (t710.length : Int) then ((some (t710.drop ((wrap64 ((ji46) + 1)) : Int).toNat : List (S32))).bind fun y736 => (if y733.length + y736.length < 1954687338268 then ((catchmentlaw37_live.f kj12).bind fun t743 => (if t743 = true then ((delta_Patch.f l0 (y733 ++ y736)).bind fun t744 => ((catchmentref05_Same.f kj12 t744 l1).bind fun t747 => (some (!t747)))) else (some false))) else (none))) else (none)) else (none)) = some r := by first | (rw [hy733]; with_reducible exact H) | (have H2_ := (Option.bind_some _ _).symm.trans H; rw [hy733]; with_reducible exact H2_) | (have H2_ := (Option.bind_some _ _).symm.trans H; with_reducible exact H2_) | with_reducible exact H | (rw [hy733]; exact H) | exact H
           have Ny733 := Aside0.mk hy733
           clear hy733
           obtain ⟨ji50, hji50⟩ : ∃ j_ : Int, (wrap64 ((ji46) + 1)) = j_ := ⟨_, rfl⟩
           replace H : (if 0 ≤ (ji50) then (if (ji50) ≤ (t710.length : Int) then ((some (t710.drop ((ji50) : Int).toNat : List (S32))).bind fun y736 => (if y733.length + y736.length < 1954687338268 then ((catchmentlaw37_live.f kj12).bind fun t743 => (if t743 = true then ((delta_Patch.f l0 (y733 ++ y736)).bind fun t744 => ((catchmentref05_Same.f kj12 t744 l1).bind fun t747 => (some (!t747)))) else (some false))) else (none))) else (none)) else (none)) = some r := by first | (rw [hji50] at H; exact H) | (simp only [hji50] at H ⊢; exact H)
           have hji50w : (IntKind.i64.wrap ((ji46) + 1)) = ji50 := (i64_w _).trans hji50
           by_cases c51 : 0 ≤ (ji50)
           ·rw [if_pos c51] at H
            have c51b0 := eq_true c51
            have c51b1 : decide (0 ≤ (ji50)) = true := decide_eq_true c51
            clear c51
            by_cases c52 : (ji50) ≤ (t710.length : Int)
            ·rw [if_pos c52] at H
             have c52b0 := eq_true c52
             have c52b1 : decide ((ji50) ≤ (t710.length : Int)) = true := decide_eq_true c52
             clear c52
             obtain ⟨y736, hy736⟩ : ∃ y_ : List (S32), y_ = (t710.drop ((ji50) : Int).toNat) := ⟨_, rfl⟩
             replace H : (if y733.length + y736.length < 1954687338268 then ((catchmentlaw37_live.f kj12).bind fun t743 => (if t743 = true then ((delta_Patch.f l0 (y733 ++ y736)).bind fun t744 => ((catchmentref05_Same.f kj12 t744 l1).bind fun t747 => (some (!t747)))) else (some false))) else (none)) = some r := by first | (rw [hy736]; with_reducible exact H) | (have H2_ := (Option.bind_some _ _).symm.trans H; rw [hy736]; with_reducible exact H2_) | (have H2_ := (Option.bind_some _ _).symm.trans H; with_reducible exact H2_) | with_reducible exact H | (rw [hy736]; exact H) | exact H
             have Ny736 := Aside0.mk hy736
             clear hy736
             by_cases c53 : y733.length + y736.length < 1954687338268
             ·rw [if_pos c53] at H
              have LMc53 := Aside0.mk c53
              clear c53
              obtain ⟨y740, hy740⟩ : ∃ y_ : List (S32), y_ = (y733 ++ y736) := ⟨_, rfl⟩
              replace H : ((catchmentlaw37_live.f kj12).bind fun t743 => (if t743 = true then ((delta_Patch.f l0 y740).bind fun t744 => ((catchmentref05_Same.f kj12 t744 l1).bind fun t747 => (some (!t747)))) else (some false))) = some r := by first | (rw [hy740]; with_reducible exact H) | (have H2_ := (Option.bind_some _ _).symm.trans H; rw [hy740]; with_reducible exact H2_) | (have H2_ := (Option.bind_some _ _).symm.trans H; with_reducible exact H2_) | with_reducible exact H | (rw [hy740]; exact H) | exact H
              have Ny740 := Aside0.mk hy740
              clear hy740
              replace H := Option.bind_eq_some_iff.mp H
              obtain ⟨t743, A540, H⟩ := H
              replace H : (if t743 = true then ((delta_Patch.f l0 y740).bind fun t744 => ((catchmentref05_Same.f kj12 t744 l1).bind fun t747 => (some (!t747)))) else (some false)) = some r := H
              have A54 := Aside0.mk A540
              clear A540
              by_cases c55 : t743 = true
              ·subst c55
               have H1 : ((delta_Patch.f l0 y740).bind fun t744 => ((catchmentref05_Same.f kj12 t744 l1).bind fun t747 => (some (!t747)))) = some r := by rw [if_pos rfl] at H; exact H
               clear H
               have H := H1
               clear H1
               replace H := Option.bind_eq_some_iff.mp H
               obtain ⟨t744, A560, H⟩ := H
               replace H : ((catchmentref05_Same.f kj12 t744 l1).bind fun t747 => (some (!t747))) = some r := H
               have A56 := Aside0.mk A560
               clear A560
               replace H := Option.bind_eq_some_iff.mp H
               obtain ⟨t747, A570, H⟩ := H
               replace H : (some (!t747)) = some r := H
               have A57 := Aside0.mk A570
               clear A570
               obtain rfl := Option.some.inj H
               obtain ⟨Ao58, co58, eo58⟩ := Kd.R_slice HO_7.out
               subst eo58
               try go_wp2
               have n0_ := Aside0.mk (Kd.R_drew HO_7.out)
               have n1_ := Aside0.mk (w1 HB.out)
               clear HO_7
               clear HB
               have HO_7 := n0_
               have HB := n1_
               clear n0_ n1_
               have q60 : ((ji46) : Int) ≤ ((t710.length : Int) : Int) := of_decide_eq_true (by first | (with_reducible assumption) | assumption)
               obtain ⟨i060, hi060, _, hsz60, _⟩ := info_parts info32
               have hroom60 : t710.length ≤ co58 := (Kd.R_reads' HO_7.out).2.1
               have hC60 : Kd.C k32 _ Ao58 t710.length t710 := (Kd.R_reads' HO_7.out).2.2
               have hcut60 := cut_to (P := Try.prog) 22 32 .i64 Try.underlying22 hi060 Ao58 t710.length co58 (ji46) (of_decide_eq_true (by first | (with_reducible assumption) | assumption)) q60 hroom60
               have hr60 := Kd.C_take (m := ((ji46) : Int).toNat) hC60 (by omega)
               have hy60 : y729.length = ((ji46) : Int).toNat := (by rw [Ny729.out, mA4]; omega)
               rw [← Ny729.out] at hr60
               rw [← hy60] at hcut60
               have HR732 := Aside0.mk hr60
               have HC732 := Aside0.mk (show y729.length ≤ co58 from by omega)
               clear hr60 hC60 hroom60 hi060 hsz60
               have KY60 := Aside0.mk hy60
               clear hy60
               have KL60 := Aside0.mk (show ((ji46) : Int).toNat ≤ t710.length from by omega)
               replace q60 := eq_true q60
               have q61 : ((ji50) : Int) ≤ ((t710.length : Int) : Int) := of_decide_eq_true (by first | (with_reducible assumption) | assumption)
               obtain ⟨i061, hi061, _, hsz61, _⟩ := info_parts info32
               have hroom61 : t710.length ≤ co58 := (Kd.R_reads' HO_7.out).2.1
               have hC61 : Kd.C k32 _ Ao58 t710.length t710 := (Kd.R_reads' HO_7.out).2.2
               have q061 : (0 : Int) ≤ ((ji50) : Int) := of_decide_eq_true (by first | (with_reducible assumption) | assumption)
               have hcut61 := cut_from (P := Try.prog) 22 32 .i64 Try.underlying22 hi061 6 hsz61 Ao58 t710.length co58 (ji50) q061 q61
               have hr61 := Kd.C_drop (m := ((ji50) : Int).toNat) (c := co58) hC61 (by omega) hroom61
               obtain ⟨A61, hA61⟩ : ∃ A1, A1 = (if co58 = ((ji50) : Int).toNat then Ao58 else (Ao58 : Option Addr).map (·.add (((ji50) : Int).toNat * 6))) := ⟨_, rfl⟩
               obtain ⟨c61, hc61⟩ : ∃ c1, c1 = co58 - ((ji50) : Int).toNat := ⟨_, rfl⟩
               have hy61 : y736.length = t710.length - ((ji50) : Int).toNat := (by rw [Ny736.out, mA5] <;> omega)
               rw [show (t710).drop ((ji50) : Int).toNat = y736 from Ny736.out.symm] at hr61
               replace hr61 : Kd.C k32 _ A61 y736.length y736 := (by rw [hA61]; exact hr61)
               rw [← hy61, ← hA61, ← hc61] at hcut61
               have HR739 := Aside0.mk hr61
               have HC739 := Aside0.mk (show y736.length ≤ c61 from by rw [hy61, hc61]; exact Nat.sub_le_sub_right hroom61 _)
               clear hr61 hC61 hroom61 hi061 hsz61 hc61
               have KY61 := Aside0.mk hy61
               have KA61 := Aside0.mk hA61
               clear hy61 hA61
               have KL61 := Aside0.mk (show ((ji50) : Int).toNat ≤ t710.length from by omega)
               replace q61 := eq_true q61
               refine start_ (n := 11) (S := fun w' => True) (ds := []) #[ZZ,ZZ,ZZ,ZZ,ZZ,ZZ,ZZ,ZZ,ZZ,ZZ,ZZ] (by kernel_rfl) rfl rfl trivial (fun hHeld => ?_); refine with_tabW catchmentlaw37_DeltaBack.tab9 catchmentlaw37_DeltaBack.bits9 (fun HT_ HW_ => ?_)
               generalize wc.drew = w59 at HO_7 HB HR732 HR739 hHeld ⊢
               refine pU_ 1 62 #[ZZ,YY,ZZ,ZZ,ZZ,ZZ,ZZ,ZZ,ZZ,ZZ,ZZ] ?_
               refine pU_ 2 63 #[ZZ,YY,YY,ZZ,ZZ,ZZ,ZZ,ZZ,ZZ,ZZ,ZZ] ?_
               refine pU_ 3 64 #[ZZ,YY,YY,YY,ZZ,ZZ,ZZ,ZZ,ZZ,ZZ,ZZ] ?_
               refine pU_ 5 66 #[ZZ,YY,YY,YY,ZZ,YY,ZZ,ZZ,ZZ,ZZ,ZZ] ?_
               refine pU_ 6 67 #[ZZ,YY,YY,YY,ZZ,YY,YY,ZZ,ZZ,ZZ,ZZ] ?_
               refine pU_ 7 68 #[ZZ,YY,YY,YY,ZZ,YY,YY,YY,ZZ,ZZ,ZZ] ?_
               refine pU_ 8 69 #[ZZ,YY,YY,YY,ZZ,YY,YY,YY,YY,ZZ,ZZ] ?_
               refine one_ (i := 0) (N := some 61) #[YY,YY,YY,YY,ZZ,YY,YY,YY,YY,ZZ,ZZ] rfl rfl (one_of HT_.out (by kernel_rfl)) (by decide) (fun K hK => ?_)
               refine Kd.R_lit_step k32 _ 32 ?hg (N := 61) ?hd (xs := ([] : List (S32))) (inner := []) (ok := fun _ => True) (okp := fun _ => True) ?hr ?hp (fun _ hk => hk) trivial (Below.refl _ _) (Nat.le_refl _) (by simp) ?_; (case hd => rfl); (case hg => rfl); (case hr => first | (go_simp; done) | (go_simp; rfl)); (case hp => exact (Reps.none _ _))
               intro v727 w62 ho63 hb hg_ hnew_
               clear hg_ hnew_
               (first | rw [← Ny726.out] at ho63 | (simp only [Int.reduceToNat] at ho63; rw [← Ny726.out] at ho63))
               have n0_ := Aside0.mk (Kd.R_elder' (kR_ HO_7.out) (Kd.R_base ho63) hb)
               have n1_ := Aside0.mk (Kd.R_lower (Kd.R_new' ho63 (Kd.R_lt (kR_ HO_7.out))) (wZ bW_))
               have n2_ := Aside0.mk (Kd.C_below (by repeat (first | (with_reducible exact HR732.out) | (with_reducible refine Kd.C_alloc ?_ _) | (with_reducible refine Kd.C_drewN ?_ _) | (with_reducible refine Kd.C_drew ?_) | exact HR732.out)) hb)
               have n3_ := Aside0.mk (Kd.C_below (by repeat (first | (with_reducible exact HR739.out) | (with_reducible refine Kd.C_alloc ?_ _) | (with_reducible refine Kd.C_drewN ?_ _) | (with_reducible refine Kd.C_drew ?_) | exact HR739.out)) hb)
               have n4_ := Aside0.mk (wT bW_ hb)
               clear HO_7
               clear HR732
               clear HR739
               clear HB
               have HO_7 := n0_
               have HO728 := n1_
               have HR732 := n2_
               have HR739 := n3_
               have HB := n4_
               clear n0_ n1_ n2_ n3_ n4_
               clear hb ho63
               refine hK.out _ _ trivial (fun hHeld => ?_)
               clear hK K
               refine norm_ (a' := ?_) ?_ ?_
               rotate_left
               ·show Act.put _ (some 61) _ = _
                simp only [Act.put, sA1, sA2, sA3, i64_w, i32_w]
                rfl
               refine one_ (i := 4) (N := some 65) #[YY,YY,YY,YY,YY,YY,YY,YY,YY,ZZ,ZZ] rfl rfl (one_of HT_.out (by kernel_rfl)) (by decide) (fun K hK => ?_)
               refine Kd.R_append_rows_step k32 (w0 := w) w.heap.size (by rfl) (.tmp 61) (.tmp 64) 22 32 (.agg #[(.int .u8 0), (.int .i64 0), (.string ⟨#[]⟩), (.string ⟨#[]⟩), (.string ⟨#[]⟩), (.int .u64 0)]) 72 rfl Try.underlying22 info32 rfl (by decide) (by omega) v727 y726 y729 _ _ _ (fun k_ => some k_ ≠ (.slice Ao58 t710.length co58 : Value).ownBlock) (fun _ => False) rfl rfl ?aO ?aR (fun _ _ h => h) (fun _ h => h.elim) ?aF ?aB ?aS ?aL ?_
               (case aR => repeat (first | exact (by repeat (first | (with_reducible exact HR732.out) | (with_reducible refine Kd.C_alloc ?_ _) | (with_reducible refine Kd.C_drewN ?_ _) | (with_reducible refine Kd.C_drew ?_) | exact HR732.out)) | (with_reducible refine Kd.C_alloc ?_ _) | (with_reducible refine Kd.C_drewN ?_ _) | (with_reducible refine Kd.C_drew ?_)))
               (case aB => exact bW_)
               (case aF => exact (fun k_ hk => Kd.fresh' (Kd.R_lt (kR_ HO_7.out)) k_ hk))
               (case aO => exact (by (with_reducible repeat (first | apply Kd.R_alloc | apply Kd.R_drewN | apply Kd.R_drew)); exact Kd.R_mono HO728.out (fun _ hk => hk.2)))
               (case aS => exact (wZ bW_))
               (case aL => have := LMc49.out; omega)
               intro v734 w64 ho hb hg hat
               rw [← Ny733.out] at ho
               have n0_ := Aside0.mk (Kd.R_after (ok := (fun _ => True)) (kR_ HO_7.out) hg hat)
               have n1_ := Aside0.mk (hb)
               have n2_ := Aside0.mk ((show Kd.C k32 w64 Ao58 y729.length y729 from by rw [Ny729.out]; exact Kd.C_take (m := ((ji46) : Int).toNat) ((Kd.R_reads' (Kd.R_after (ok := (fun _ => True)) (kR_ HO_7.out) hg hat)).2.2) KL60.out))
               have n3_ := Aside0.mk ((show Kd.C k32 w64 A61 y736.length y736 from by rw [Ny736.out, KA61.out]; exact Kd.C_drop (m := ((ji50) : Int).toNat) (c := co58) ((Kd.R_reads' (Kd.R_after (ok := (fun _ => True)) (kR_ HO_7.out) hg hat)).2.2) KL61.out ((Kd.R_reads' (Kd.R_after (ok := (fun _ => True)) (kR_ HO_7.out) hg hat)).2.1)))
               have n4_ := Aside0.mk (ho)
               clear HO_7
               clear HB
               clear HR732
               clear HR739
               clear HO728
               have HO_7 := n0_
               have HB := n1_
               have HR732 := n2_
               have HR739 := n3_
               have HO735 := n4_
               clear n0_ n1_ n2_ n3_ n4_
               clear ho hb hg hat
               refine hK.out _ _ trivial (fun hHeld => ?_)
               clear hK K
               refine norm_ (a' := ?_) ?_ ?_
               rotate_left
               ·show Act.put _ (some 65) _ = _
                simp only [Act.put, sA1, sA2, sA3, i64_w, i32_w]
                rfl
               refine one_ (i := 9) (N := some 70) #[YY,YY,YY,YY,YY,YY,YY,YY,YY,YY,ZZ] rfl rfl (one_of HT_.out (by kernel_rfl)) (by decide) (fun K hK => ?_)
               refine Kd.R_append_rows_step k32 (w0 := w) w.heap.size (by rfl) (.tmp 65) (.tmp 69) 22 32 (.agg #[(.int .u8 0), (.int .i64 0), (.string ⟨#[]⟩), (.string ⟨#[]⟩), (.string ⟨#[]⟩), (.int .u64 0)]) 72 rfl Try.underlying22 info32 rfl (by decide) (by omega) v734 y733 y736 _ _ _ (fun k_ => some k_ ≠ (.slice Ao58 t710.length co58 : Value).ownBlock) (fun _ => False) rfl rfl ?aO ?aR (fun _ _ h => h) (fun _ h => h.elim) ?aF ?aB ?aS ?aL ?_
               (case aR => repeat (first | exact (by repeat (first | (with_reducible exact HR739.out) | (with_reducible refine Kd.C_alloc ?_ _) | (with_reducible refine Kd.C_drewN ?_ _) | (with_reducible refine Kd.C_drew ?_) | exact HR739.out)) | (with_reducible refine Kd.C_alloc ?_ _) | (with_reducible refine Kd.C_drewN ?_ _) | (with_reducible refine Kd.C_drew ?_)))
               (case aB => exact bW_)
               (case aF => exact (fun k_ hk => Kd.fresh' (Kd.R_lt (kR_ HO_7.out)) k_ hk))
               (case aO => exact (kR_ HO735.out))
               (case aS => exact (wZ bW_))
               (case aL => have := LMc53.out; omega)
               intro v741 w65 ho hb hg hat
               rw [← Ny740.out] at ho
               have n0_ := Aside0.mk (Kd.R_after (ok := (fun _ => True)) (kR_ HO_7.out) hg hat)
               have n1_ := Aside0.mk (hb)
               have n2_ := Aside0.mk ((show Kd.C k32 w65 Ao58 y729.length y729 from by rw [Ny729.out]; exact Kd.C_take (m := ((ji46) : Int).toNat) ((Kd.R_reads' (Kd.R_after (ok := (fun _ => True)) (kR_ HO_7.out) hg hat)).2.2) KL60.out))
               have n3_ := Aside0.mk ((show Kd.C k32 w65 A61 y736.length y736 from by rw [Ny736.out, KA61.out]; exact Kd.C_drop (m := ((ji50) : Int).toNat) (c := co58) ((Kd.R_reads' (Kd.R_after (ok := (fun _ => True)) (kR_ HO_7.out) hg hat)).2.2) KL61.out ((Kd.R_reads' (Kd.R_after (ok := (fun _ => True)) (kR_ HO_7.out) hg hat)).2.1)))
               have n4_ := Aside0.mk (ho)
               clear HO_7
               clear HB
               clear HR732
               clear HR739
               clear HO735
               have HO_7 := n0_
               have HB := n1_
               have HR732 := n2_
               have HR739 := n3_
               have HO742 := n4_
               clear n0_ n1_ n2_ n3_ n4_
               clear ho hb hg hat
               refine hK.out _ _ trivial (fun hHeld => ?_)
               clear hK K
               refine norm_ (a' := ?_) ?_ ?_
               rotate_left
               ·show Act.put _ (some 70) _ = _
                simp only [Act.put, sA1, sA2, sA3, i64_w, i32_w]
                rfl
               refine pU_ 10 10 #[YY,YY,YY,YY,YY,YY,YY,YY,YY,YY,YY] ?_
               refine done_ (done_of HT_.out (by kernel_rfl)) ?_
               try go_wp2_with (first | ((with_reducible refine gate_callee (f := 39) rfl ?_); refine goesL_ (some 71) rfl rfl Try.func39 (by kernel_rfl) rfl #[] rfl mS_ ?_; (with_reducible refine (catchmentlaw37_live.calls kj12  true _ A54.out).mono ?_); rintro e w66 ⟨rfl, hb⟩; refine ⟨_, rfl, ?_⟩; have n0_ := Aside0.mk (Kd.R_below (kR_ HO_7.out) hb); have n1_ := Aside0.mk (Kd.R_below (kR_ HO742.out) hb); have n2_ := Aside0.mk (Kd.C_below (by repeat (first | (with_reducible exact HR732.out) | (with_reducible refine Kd.C_alloc ?_ _) | (with_reducible refine Kd.C_drewN ?_ _) | (with_reducible refine Kd.C_drew ?_) | exact HR732.out)) hb); have n3_ := Aside0.mk (Kd.C_below (by repeat (first | (with_reducible exact HR739.out) | (with_reducible refine Kd.C_alloc ?_ _) | (with_reducible refine Kd.C_drewN ?_ _) | (with_reducible refine Kd.C_drew ?_) | exact HR739.out)) hb); have n4_ := Aside0.mk (wT bW_ hb); clear HO_7; clear HO742; clear HR732; clear HR739; clear HB; have HO_7 := n0_; have HO742 := n1_; have HR732 := n2_; have HR739 := n3_; have HB := n4_; clear n0_ n1_ n2_ n3_ n4_; (try clear hb); (try clear hb2); (try clear hk); (try clear hi); obtain ⟨Ao67, co67, eo67⟩ := Kd.R_slice HO742.out; subst eo67) | (go_at_call 45; (with_reducible refine (delta_Patch.calls _ _ l0 _ _ y740 t744 _ ?side1 ?side2 ?side3 ?side4 A56.out).mono ?_); (case side1 => repeat (first | exact (Kd.C_below HR0.out HB.out) | (with_reducible refine Kd.C_alloc ?_ _) | (with_reducible refine Kd.C_drewN ?_ _) | (with_reducible refine Kd.C_drew ?_))); (case side2 => exact HC0.out); (case side3 => repeat (first | exact (Kd.R_reads' HO742.out).2.2 | (with_reducible refine Kd.C_alloc ?_ _) | (with_reducible refine Kd.C_drewN ?_ _) | (with_reducible refine Kd.C_drew ?_))); (case side4 => exact (Kd.R_reads' HO742.out).2.1); rintro e w68 ⟨v745, rfl, ho0, hb⟩; have n0_ := Aside0.mk (Kd.R_below (kR_ HO_7.out) hb); have n1_ := Aside0.mk (Kd.R_below (kR_ HO742.out) hb); have n2_ := Aside0.mk (Kd.R_lower ho0 (wZ bW_)); have n3_ := Aside0.mk (Kd.C_below (by repeat (first | (with_reducible exact HR732.out) | (with_reducible refine Kd.C_alloc ?_ _) | (with_reducible refine Kd.C_drewN ?_ _) | (with_reducible refine Kd.C_drew ?_) | exact HR732.out)) hb); have n4_ := Aside0.mk (Kd.C_below (by repeat (first | (with_reducible exact HR739.out) | (with_reducible refine Kd.C_alloc ?_ _) | (with_reducible refine Kd.C_drewN ?_ _) | (with_reducible refine Kd.C_drew ?_) | exact HR739.out)) hb); have n5_ := Aside0.mk (wT bW_ hb); clear HO_7; clear HO742; clear HR732; clear HR739; clear HB; have HO_7 := n0_; have HO742 := n1_; have HO746 := n2_; have HR732 := n3_; have HR739 := n4_; have HB := n5_; clear n0_ n1_ n2_ n3_ n4_ n5_; (try clear hb); (try clear hb2); (try clear hk); (try clear hi); (try clear ho0); obtain ⟨Ao69, co69, eo69⟩ := Kd.R_slice HO746.out; subst eo69) | (go_at_call 18; (with_reducible refine (catchmentref05_Same.calls kj12 _ _ t744 _ _ l1 t747 _ ?side1 ?side2 ?side3 ?side4 A57.out).mono ?_); (case side1 => repeat (first | exact (Kd.R_reads' HO746.out).2.2 | (with_reducible refine Kd.C_alloc ?_ _) | (with_reducible refine Kd.C_drewN ?_ _) | (with_reducible refine Kd.C_drew ?_))); (case side2 => exact (Kd.R_reads' HO746.out).2.1); (case side3 => repeat (first | exact (Kd.C_below HR1.out HB.out) | (with_reducible refine Kd.C_alloc ?_ _) | (with_reducible refine Kd.C_drewN ?_ _) | (with_reducible refine Kd.C_drew ?_))); (case side4 => exact HC1.out); rintro e w' ⟨rfl, ⟨nd, rfl⟩⟩))
               go_ret
               exact ⟨by first | rfl | (simp [errW_none, errW_some] <;> rfl) | (simp only [← hji46, ← hji50]; first | rfl | (simp [errW_none, errW_some] <;> rfl)) | (simp [*, errW_none, errW_some] <;> rfl), by repeat (first | (with_reducible first | exact HB.out | apply wA | apply wN | apply w1) | exact HB.out)⟩
              ·replace c55 := Bool.eq_false_iff.mpr c55
               subst c55
               have H1 : (some false) = some r := by rw [if_neg (show ¬ (false = true) by decide)] at H; exact H
               clear H
               have H := H1
               clear H1
               obtain rfl := Option.some.inj H
               obtain ⟨Ao70, co70, eo70⟩ := Kd.R_slice HO_7.out
               subst eo70
               try go_wp2
               have n0_ := Aside0.mk (Kd.R_drew HO_7.out)
               have n1_ := Aside0.mk (w1 HB.out)
               clear HO_7
               clear HB
               have HO_7 := n0_
               have HB := n1_
               clear n0_ n1_
               have q72 : ((ji46) : Int) ≤ ((t710.length : Int) : Int) := of_decide_eq_true (by first | (with_reducible assumption) | assumption)
               obtain ⟨i072, hi072, _, hsz72, _⟩ := info_parts info32
               have hroom72 : t710.length ≤ co70 := (Kd.R_reads' HO_7.out).2.1
               have hC72 : Kd.C k32 _ Ao70 t710.length t710 := (Kd.R_reads' HO_7.out).2.2
               have hcut72 := cut_to (P := Try.prog) 22 32 .i64 Try.underlying22 hi072 Ao70 t710.length co70 (ji46) (of_decide_eq_true (by first | (with_reducible assumption) | assumption)) q72 hroom72
               have hr72 := Kd.C_take (m := ((ji46) : Int).toNat) hC72 (by omega)
               have hy72 : y729.length = ((ji46) : Int).toNat := (by rw [Ny729.out, mA4]; omega)
               rw [← Ny729.out] at hr72
               rw [← hy72] at hcut72
               have HR732 := Aside0.mk hr72
               have HC732 := Aside0.mk (show y729.length ≤ co70 from by omega)
               clear hr72 hC72 hroom72 hi072 hsz72
               have KY72 := Aside0.mk hy72
               clear hy72
               have KL72 := Aside0.mk (show ((ji46) : Int).toNat ≤ t710.length from by omega)
               replace q72 := eq_true q72
               have q73 : ((ji50) : Int) ≤ ((t710.length : Int) : Int) := of_decide_eq_true (by first | (with_reducible assumption) | assumption)
               obtain ⟨i073, hi073, _, hsz73, _⟩ := info_parts info32
               have hroom73 : t710.length ≤ co70 := (Kd.R_reads' HO_7.out).2.1
               have hC73 : Kd.C k32 _ Ao70 t710.length t710 := (Kd.R_reads' HO_7.out).2.2
               have q073 : (0 : Int) ≤ ((ji50) : Int) := of_decide_eq_true (by first | (with_reducible assumption) | assumption)
               have hcut73 := cut_from (P := Try.prog) 22 32 .i64 Try.underlying22 hi073 6 hsz73 Ao70 t710.length co70 (ji50) q073 q73
               have hr73 := Kd.C_drop (m := ((ji50) : Int).toNat) (c := co70) hC73 (by omega) hroom73
               obtain ⟨A73, hA73⟩ : ∃ A1, A1 = (if co70 = ((ji50) : Int).toNat then Ao70 else (Ao70 : Option Addr).map (·.add (((ji50) : Int).toNat * 6))) := ⟨_, rfl⟩
               obtain ⟨c73, hc73⟩ : ∃ c1, c1 = co70 - ((ji50) : Int).toNat := ⟨_, rfl⟩
               have hy73 : y736.length = t710.length - ((ji50) : Int).toNat := (by rw [Ny736.out, mA5] <;> omega)
               rw [show (t710).drop ((ji50) : Int).toNat = y736 from Ny736.out.symm] at hr73
               replace hr73 : Kd.C k32 _ A73 y736.length y736 := (by rw [hA73]; exact hr73)
               rw [← hy73, ← hA73, ← hc73] at hcut73
               have HR739 := Aside0.mk hr73
               have HC739 := Aside0.mk (show y736.length ≤ c73 from by rw [hy73, hc73]; exact Nat.sub_le_sub_right hroom73 _)
               clear hr73 hC73 hroom73 hi073 hsz73 hc73
               have KY73 := Aside0.mk hy73
               have KA73 := Aside0.mk hA73
               clear hy73 hA73
               have KL73 := Aside0.mk (show ((ji50) : Int).toNat ≤ t710.length from by omega)
               replace q73 := eq_true q73
               refine start_ (n := 11) (S := fun w' => True) (ds := []) #[ZZ,ZZ,ZZ,ZZ,ZZ,ZZ,ZZ,ZZ,ZZ,ZZ,ZZ] (by kernel_rfl) rfl rfl trivial (fun hHeld => ?_); refine with_tabW catchmentlaw37_DeltaBack.tab9 catchmentlaw37_DeltaBack.bits9 (fun HT_ HW_ => ?_)
               generalize wc.drew = w71 at HO_7 HB HR732 HR739 hHeld ⊢
               refine pU_ 1 62 #[ZZ,YY,ZZ,ZZ,ZZ,ZZ,ZZ,ZZ,ZZ,ZZ,ZZ] ?_
               refine pU_ 2 63 #[ZZ,YY,YY,ZZ,ZZ,ZZ,ZZ,ZZ,ZZ,ZZ,ZZ] ?_
               refine pU_ 3 64 #[ZZ,YY,YY,YY,ZZ,ZZ,ZZ,ZZ,ZZ,ZZ,ZZ] ?_
               refine pU_ 5 66 #[ZZ,YY,YY,YY,ZZ,YY,ZZ,ZZ,ZZ,ZZ,ZZ] ?_
               refine pU_ 6 67 #[ZZ,YY,YY,YY,ZZ,YY,YY,ZZ,ZZ,ZZ,ZZ] ?_
               refine pU_ 7 68 #[ZZ,YY,YY,YY,ZZ,YY,YY,YY,ZZ,ZZ,ZZ] ?_
               refine pU_ 8 69 #[ZZ,YY,YY,YY,ZZ,YY,YY,YY,YY,ZZ,ZZ] ?_
               refine one_ (i := 0) (N := some 61) #[YY,YY,YY,YY,ZZ,YY,YY,YY,YY,ZZ,ZZ] rfl rfl (one_of HT_.out (by kernel_rfl)) (by decide) (fun K hK => ?_)
               refine Kd.R_lit_step k32 _ 32 ?hg (N := 61) ?hd (xs := ([] : List (S32))) (inner := []) (ok := fun _ => True) (okp := fun _ => True) ?hr ?hp (fun _ hk => hk) trivial (Below.refl _ _) (Nat.le_refl _) (by simp) ?_; (case hd => rfl); (case hg => rfl); (case hr => first | (go_simp; done) | (go_simp; rfl)); (case hp => exact (Reps.none _ _))
               intro v727 w74 ho75 hb hg_ hnew_
               clear hg_ hnew_
               (first | rw [← Ny726.out] at ho75 | (simp only [Int.reduceToNat] at ho75; rw [← Ny726.out] at ho75))
               have n0_ := Aside0.mk (Kd.R_elder' (kR_ HO_7.out) (Kd.R_base ho75) hb)
               have n1_ := Aside0.mk (Kd.R_lower (Kd.R_new' ho75 (Kd.R_lt (kR_ HO_7.out))) (wZ bW_))
               have n2_ := Aside0.mk (Kd.C_below (by repeat (first | (with_reducible exact HR732.out) | (with_reducible refine Kd.C_alloc ?_ _) | (with_reducible refine Kd.C_drewN ?_ _) | (with_reducible refine Kd.C_drew ?_) | exact HR732.out)) hb)
               have n3_ := Aside0.mk (Kd.C_below (by repeat (first | (with_reducible exact HR739.out) | (with_reducible refine Kd.C_alloc ?_ _) | (with_reducible refine Kd.C_drewN ?_ _) | (with_reducible refine Kd.C_drew ?_) | exact HR739.out)) hb)
               have n4_ := Aside0.mk (wT bW_ hb)
               clear HO_7
               clear HR732
               clear HR739
               clear HB
               have HO_7 := n0_
               have HO728 := n1_
               have HR732 := n2_
               have HR739 := n3_
               have HB := n4_
               clear n0_ n1_ n2_ n3_ n4_
               clear hb ho75
               refine hK.out _ _ trivial (fun hHeld => ?_)
               clear hK K
               refine norm_ (a' := ?_) ?_ ?_
               rotate_left
               ·show Act.put _ (some 61) _ = _
                simp only [Act.put, sA1, sA2, sA3, i64_w, i32_w]
                rfl
               refine one_ (i := 4) (N := some 65) #[YY,YY,YY,YY,YY,YY,YY,YY,YY,ZZ,ZZ] rfl rfl (one_of HT_.out (by kernel_rfl)) (by decide) (fun K hK => ?_)
               refine Kd.R_append_rows_step k32 (w0 := w) w.heap.size (by rfl) (.tmp 61) (.tmp 64) 22 32 (.agg #[(.int .u8 0), (.int .i64 0), (.string ⟨#[]⟩), (.string ⟨#[]⟩), (.string ⟨#[]⟩), (.int .u64 0)]) 72 rfl Try.underlying22 info32 rfl (by decide) (by omega) v727 y726 y729 _ _ _ (fun k_ => some k_ ≠ (.slice Ao70 t710.length co70 : Value).ownBlock) (fun _ => False) rfl rfl ?aO ?aR (fun _ _ h => h) (fun _ h => h.elim) ?aF ?aB ?aS ?aL ?_
               (case aR => repeat (first | exact (by repeat (first | (with_reducible exact HR732.out) | (with_reducible refine Kd.C_alloc ?_ _) | (with_reducible refine Kd.C_drewN ?_ _) | (with_reducible refine Kd.C_drew ?_) | exact HR732.out)) | (with_reducible refine Kd.C_alloc ?_ _) | (with_reducible refine Kd.C_drewN ?_ _) | (with_reducible refine Kd.C_drew ?_)))
               (case aB => exact bW_)
               (case aF => exact (fun k_ hk => Kd.fresh' (Kd.R_lt (kR_ HO_7.out)) k_ hk))
               (case aO => exact (by (with_reducible repeat (first | apply Kd.R_alloc | apply Kd.R_drewN | apply Kd.R_drew)); exact Kd.R_mono HO728.out (fun _ hk => hk.2)))
               (case aS => exact (wZ bW_))
               (case aL => have := LMc49.out; omega)
               intro v734 w76 ho hb hg hat
               rw [← Ny733.out] at ho
               have n0_ := Aside0.mk (Kd.R_after (ok := (fun _ => True)) (kR_ HO_7.out) hg hat)
               have n1_ := Aside0.mk (hb)
               have n2_ := Aside0.mk ((show Kd.C k32 w76 Ao70 y729.length y729 from by rw [Ny729.out]; exact Kd.C_take (m := ((ji46) : Int).toNat) ((Kd.R_reads' (Kd.R_after (ok := (fun _ => True)) (kR_ HO_7.out) hg hat)).2.2) KL72.out))
               have n3_ := Aside0.mk ((show Kd.C k32 w76 A73 y736.length y736 from by rw [Ny736.out, KA73.out]; exact Kd.C_drop (m := ((ji50) : Int).toNat) (c := co70) ((Kd.R_reads' (Kd.R_after (ok := (fun _ => True)) (kR_ HO_7.out) hg hat)).2.2) KL73.out ((Kd.R_reads' (Kd.R_after (ok := (fun _ => True)) (kR_ HO_7.out) hg hat)).2.1)))
               have n4_ := Aside0.mk (ho)
               clear HO_7
               clear HB
               clear HR732
               clear HR739
               clear HO728
               have HO_7 := n0_
               have HB := n1_
               have HR732 := n2_
               have HR739 := n3_
               have HO735 := n4_
               clear n0_ n1_ n2_ n3_ n4_
               clear ho hb hg hat
               refine hK.out _ _ trivial (fun hHeld => ?_)
               clear hK K
               refine norm_ (a' := ?_) ?_ ?_
               rotate_left
               ·show Act.put _ (some 65) _ = _
                simp only [Act.put, sA1, sA2, sA3, i64_w, i32_w]
                rfl
               refine one_ (i := 9) (N := some 70) #[YY,YY,YY,YY,YY,YY,YY,YY,YY,YY,ZZ] rfl rfl (one_of HT_.out (by kernel_rfl)) (by decide) (fun K hK => ?_)
               refine Kd.R_append_rows_step k32 (w0 := w) w.heap.size (by rfl) (.tmp 65) (.tmp 69) 22 32 (.agg #[(.int .u8 0), (.int .i64 0), (.string ⟨#[]⟩), (.string ⟨#[]⟩), (.string ⟨#[]⟩), (.int .u64 0)]) 72 rfl Try.underlying22 info32 rfl (by decide) (by omega) v734 y733 y736 _ _ _ (fun k_ => some k_ ≠ (.slice Ao70 t710.length co70 : Value).ownBlock) (fun _ => False) rfl rfl ?aO ?aR (fun _ _ h => h) (fun _ h => h.elim) ?aF ?aB ?aS ?aL ?_
               (case aR => repeat (first | exact (by repeat (first | (with_reducible exact HR739.out) | (with_reducible refine Kd.C_alloc ?_ _) | (with_reducible refine Kd.C_drewN ?_ _) | (with_reducible refine Kd.C_drew ?_) | exact HR739.out)) | (with_reducible refine Kd.C_alloc ?_ _) | (with_reducible refine Kd.C_drewN ?_ _) | (with_reducible refine Kd.C_drew ?_)))
               (case aB => exact bW_)
               (case aF => exact (fun k_ hk => Kd.fresh' (Kd.R_lt (kR_ HO_7.out)) k_ hk))
               (case aO => exact (kR_ HO735.out))
               (case aS => exact (wZ bW_))
               (case aL => have := LMc53.out; omega)
               intro v741 w77 ho hb hg hat
               rw [← Ny740.out] at ho
               have n0_ := Aside0.mk (Kd.R_after (ok := (fun _ => True)) (kR_ HO_7.out) hg hat)
               have n1_ := Aside0.mk (hb)
               have n2_ := Aside0.mk ((show Kd.C k32 w77 Ao70 y729.length y729 from by rw [Ny729.out]; exact Kd.C_take (m := ((ji46) : Int).toNat) ((Kd.R_reads' (Kd.R_after (ok := (fun _ => True)) (kR_ HO_7.out) hg hat)).2.2) KL72.out))
               have n3_ := Aside0.mk ((show Kd.C k32 w77 A73 y736.length y736 from by rw [Ny736.out, KA73.out]; exact Kd.C_drop (m := ((ji50) : Int).toNat) (c := co70) ((Kd.R_reads' (Kd.R_after (ok := (fun _ => True)) (kR_ HO_7.out) hg hat)).2.2) KL73.out ((Kd.R_reads' (Kd.R_after (ok := (fun _ => True)) (kR_ HO_7.out) hg hat)).2.1)))
               have n4_ := Aside0.mk (ho)
               clear HO_7
               clear HB
               clear HR732
               clear HR739
               clear HO735
               have HO_7 := n0_
               have HB := n1_
               have HR732 := n2_
               have HR739 := n3_
               have HO742 := n4_
               clear n0_ n1_ n2_ n3_ n4_
               clear ho hb hg hat
               refine hK.out _ _ trivial (fun hHeld => ?_)
               clear hK K
               refine norm_ (a' := ?_) ?_ ?_
               rotate_left
               ·show Act.put _ (some 70) _ = _
                simp only [Act.put, sA1, sA2, sA3, i64_w, i32_w]
                rfl
               refine pU_ 10 10 #[YY,YY,YY,YY,YY,YY,YY,YY,YY,YY,YY] ?_
               refine done_ (done_of HT_.out (by kernel_rfl)) ?_
               try go_wp2_with (first | ((with_reducible refine gate_callee (f := 39) rfl ?_); refine goesL_ (some 71) rfl rfl Try.func39 (by kernel_rfl) rfl #[] rfl mS_ ?_; (with_reducible refine (catchmentlaw37_live.calls kj12  false _ A54.out).mono ?_); rintro e w78 ⟨rfl, hb⟩; refine ⟨_, rfl, ?_⟩; have n0_ := Aside0.mk (Kd.R_below (kR_ HO_7.out) hb); have n1_ := Aside0.mk (Kd.R_below (kR_ HO742.out) hb); have n2_ := Aside0.mk (Kd.C_below (by repeat (first | (with_reducible exact HR732.out) | (with_reducible refine Kd.C_alloc ?_ _) | (with_reducible refine Kd.C_drewN ?_ _) | (with_reducible refine Kd.C_drew ?_) | exact HR732.out)) hb); have n3_ := Aside0.mk (Kd.C_below (by repeat (first | (with_reducible exact HR739.out) | (with_reducible refine Kd.C_alloc ?_ _) | (with_reducible refine Kd.C_drewN ?_ _) | (with_reducible refine Kd.C_drew ?_) | exact HR739.out)) hb); have n4_ := Aside0.mk (wT bW_ hb); clear HO_7; clear HO742; clear HR732; clear HR739; clear HB; have HO_7 := n0_; have HO742 := n1_; have HR732 := n2_; have HR739 := n3_; have HB := n4_; clear n0_ n1_ n2_ n3_ n4_; (try clear hb); (try clear hb2); (try clear hk); (try clear hi)))
               go_ret
               exact ⟨by first | rfl | (simp [errW_none, errW_some] <;> rfl) | (simp only [← hji46, ← hji50]; first | rfl | (simp [errW_none, errW_some] <;> rfl)) | (simp [*, errW_none, errW_some] <;> rfl), by repeat (first | (with_reducible first | exact HB.out | apply wA | apply wN | apply w1) | exact HB.out)⟩
             ·rw [if_neg c53] at H
              exact absurd H (by simp)
            ·rw [if_neg c52] at H
             exact absurd H (by simp)
           ·rw [if_neg c51] at H
            exact absurd H (by simp)
          ·rw [if_neg c49] at H
           exact absurd H (by simp)
         ·rw [if_neg c48] at H
          exact absurd H (by simp)
        ·rw [if_neg c47] at H
         exact absurd H (by simp)
end Go.Proofs.Ytebejadiaooooaa.P
end
