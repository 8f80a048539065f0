/- Texts of one claim (laid by shake.py). -/
import Derived.Test.YtebejadiaooooaaZt4
import Derived.Test.YtebejadiaooooaaZt5
import Derived.Test.YtebejadiaooooaaZt8
import Derived.Test.YtebejadiaooooaaZt10
import Derived.Test.YtebejadiaooooaaZt29
import Derived.Test.YtebejadiaooooaaZt30
import Derived.Test.YtebejadiaooooaaZt7
import Derived.Test.YtebejadiaooooaaZt11
import Derived.Test.YtebejadiaooooaaZt28
set_option linter.unusedVariables false
set_option linter.unusedSimpArgs false
section
namespace Go.Proofs.Ytebejadiaooooaa.P
open Go.RowKit Go.Proofs.YtebejadiaooooaaW.PrintWords Go.Proofs.YtebejadiaooooaaW.PrintLast Go.Proofs.YtebejadiaooooaaW.PrintMore Go.Proofs.Ytebejadiaooooaa.Own
open Bool renaming true → YY, false → ZZ
open Go.Proofs.YtebejadiaooooaaW.PrintWords renaming pw_below_drewN → wN, below_drew1 → w1, below_alloc → wA, below_step → wT, below_size → wZ
open List renaming setIfInBounds_toArray → sA1, set_cons_zero → sA2, set_cons_succ → sA3, map_toArray → mA1, map_cons → mA2, map_nil → mA3, length_take → mA4, length_drop → mA5
attribute [local go_sem] max2_str max2_int min2_int max_two min_two max_three min_three max_four min_four   -- for this text's walks alone
def delta_Three.f (k : Nat) (l0 : List S39) (l1 : List S39) (l2 : List S39) : Option (List S39 × List ByteArray) := Th.threeC k l0 l1 l2
theorem delta_Three.calls (k : Nat) (A0 : Option Addr) (c0 : Nat) (l0 : List S39) (A1 : Option Addr) (c1 : Nat) (l1 : List S39) (A2 : Option Addr) (c2 : Nat) (l2 : List S39) (r1 : List S39) (r2 : List ByteArray) (w : World) (hr0 : Kd.C k39 w A0 l0.length l0) (hc0 : l0.length ≤ c0) (hr1 : Kd.C k39 w A1 l1.length l1) (hc1 : l1.length ≤ c1) (hr2 : Kd.C k39 w A2 l2.length l2) (hc2 : l2.length ≤ c2) (h : delta_Three.f k l0 l1 l2 = some (r1, r2)) :
  Calls Try.prog 46 #[.slice A0 l0.length c0, .slice A1 l1.length c1, .slice A2 l2.length c2] w fun e w' => ∃ v0_ v1_ : Value, e = .returned (.tuple #[v0_, v1_]) ∧ Kd.R k39 39 w' w.heap.size (fun k_ => some k_ ≠ (v1_ : Value).ownBlock) v0_ r1 ∧ Kd.R Kd.string 9 w' w.heap.size (fun k_ => some k_ ≠ (v0_ : Value).ownBlock) v1_ r2 ∧ Below w.heap.size w w' :=
 Th.threeC_calls hr0 hc0 hr1 hc1 hr2 hc2 h
end Go.Proofs.Ytebejadiaooooaa.P
end
section
namespace Go.Proofs.Ytebejadiaooooaa.P
open Go.RowKit Go.Proofs.YtebejadiaooooaaW.PrintWords Go.Proofs.YtebejadiaooooaaW.PrintLast Go.Proofs.YtebejadiaooooaaW.PrintMore Go.Proofs.Ytebejadiaooooaa.Own
open Go.Proofs.YtebejadiaooooaaW.PrintWords renaming pw_below_drewN → wN, below_drew1 → w1, below_alloc → wA, below_step → wT, below_size → wZ
open List renaming map_toArray → mA1, map_cons → mA2, map_nil → mA3, length_take → mA4, length_drop → mA5
attribute [local go_sem] max2_str max2_int min2_int max_two min_two max_three min_three max_four min_four   -- for this text's walks alone
def catchmentlaw37_DeltaThree.j0 : Nat → List (S39) → List (S39) → List (S39) → Bool → Option (Bool)
 | 0, _, _, _, _ => none
 | k + 1, x0, x1, x2, x23 => if x23 = true then ((catchmentlaw37_live.f k).bind fun t794 => (some t794)) else ((delta_Three.f k x0 x1 x2).bind fun bt795 => ((catchmentref37_Three.f k x0 x1 x2).bind fun bt801 => ((catchmentlaw37_live.f k).bind fun t807 => (if t807 = true then ((catchmentref05_Same.f k bt795.1 bt801.1).bind fun t808 => (if t808 = true then ((catchmentref03_Same.f k bt795.2 bt801.2).bind fun t809 => (some t809)) else (some false))) else (some false)))))
def catchmentlaw37_DeltaThree.f (k : Nat) (l0 : List (S39)) (l1 : List (S39)) (l2 : List (S39)) : Option (Bool) := (catchmentlaw37_right.f k l0).bind fun t791 => (if t791 = true then ((catchmentlaw37_right.f k l1).bind fun t792 => (if t792 = true then ((catchmentlaw37_right.f k l2).bind fun t793 => (catchmentlaw37_DeltaThree.j0 k l0 l1 l2 (!t793))) else (catchmentlaw37_DeltaThree.j0 k l0 l1 l2 true))) else (catchmentlaw37_DeltaThree.j0 k l0 l1 l2 true))
set_option maxHeartbeats 8000000 in
set_option maxRecDepth 100000 in
theorem catchmentlaw37_DeltaThree.calls (k : Nat) (A0 : Option Addr) (c0 : Nat) (l0 : List (S39)) (A1 : Option Addr) (c1 : Nat) (l1 : List (S39)) (A2 : Option Addr) (c2 : Nat) (l2 : List (S39)) (r : Bool) (w : World) (hr0 : Kd.C k39 w A0 l0.length l0) (hc0 : l0.length ≤ c0) (hr1 : Kd.C k39 w A1 l1.length l1) (hc1 : l1.length ≤ c1) (hr2 : Kd.C k39 w A2 l2.length l2) (hc2 : l2.length ≤ c2) (h : catchmentlaw37_DeltaThree.f k l0 l1 l2 = some r) :
  Calls Try.prog 10 #[.slice A0 l0.length c0, .slice A1 l1.length c1, .slice A2 l2.length c2] w fun e w' => e = .returned (.bool r) ∧ Below w.heap.size w w' := by
 have HR0 := Aside0.mk hr0
 have HC0 := Aside0.mk hc0
 clear hr0 hc0
 have HR1 := Aside0.mk hr1
 have HC1 := Aside0.mk hc1
 clear hr1 hc1
 have HR2 := Aside0.mk hr2
 have HC2 := Aside0.mk hc2
 clear hr2 hc2
 have HB := Aside0.mk (Below.refl w.heap.size w)
 have H : ((catchmentlaw37_right.f k l0).bind fun t791 => (if t791 = true then ((catchmentlaw37_right.f k l1).bind fun t792 => (if t792 = true then ((catchmentlaw37_right.f k l2).bind fun t793 => (catchmentlaw37_DeltaThree.j0 k l0 l1 l2 (!t793))) else (catchmentlaw37_DeltaThree.j0 k l0 l1 l2 true))) else (catchmentlaw37_DeltaThree.j0 k l0 l1 l2 true))) = some r := h
 clear h
 have HC4 := Aside0.mk H
 clear H
 go_enter Try.func10, Try.ntmps10
 go_upto_region 1 with (fail)
 go_cut [23] (fun v23 wc => ∃ (kq : Nat) (x23_3 : Bool), v23 = .bool x23_3 ∧ Aside0 (catchmentlaw37_DeltaThree.j0 kq l0 l1 l2 x23_3 = some r) ∧ Aside0 (kq ≤ k) ∧ Aside0 (Below w.heap.size w wc))
 case first =>
  have H := HC4.out
  clear HC4
  replace H := Option.bind_eq_some_iff.mp H
  obtain ⟨t791, A50, H⟩ := H
  replace H : (if t791 = true then ((catchmentlaw37_right.f k l1).bind fun t792 => (if t792 = true then ((catchmentlaw37_right.f k l2).bind fun t793 => (catchmentlaw37_DeltaThree.j0 k l0 l1 l2 (!t793))) else (catchmentlaw37_DeltaThree.j0 k l0 l1 l2 true))) else (catchmentlaw37_DeltaThree.j0 k l0 l1 l2 true)) = some r := H
  have A5 := Aside0.mk A50
  clear A50
  by_cases c6 : t791 = true
  ·subst c6
   have H1 : ((catchmentlaw37_right.f k l1).bind fun t792 => (if t792 = true then ((catchmentlaw37_right.f k l2).bind fun t793 => (catchmentlaw37_DeltaThree.j0 k l0 l1 l2 (!t793))) else (catchmentlaw37_DeltaThree.j0 k l0 l1 l2 true))) = some r := by rw [if_pos rfl] at H; exact H
   clear H
   have H := H1
   clear H1
   replace H := Option.bind_eq_some_iff.mp H
   obtain ⟨t792, A70, H⟩ := H
   replace H : (if t792 = true then ((catchmentlaw37_right.f k l2).bind fun t793 => (catchmentlaw37_DeltaThree.j0 k l0 l1 l2 (!t793))) else (catchmentlaw37_DeltaThree.j0 k l0 l1 l2 true)) = some r := H
   have A7 := Aside0.mk A70
   clear A70
   by_cases c8 : t792 = true
   ·subst c8
    have H1 : ((catchmentlaw37_right.f k l2).bind fun t793 => (catchmentlaw37_DeltaThree.j0 k l0 l1 l2 (!t793))) = some r := by rw [if_pos rfl] at H; exact H
    clear H
    have H := H1
    clear H1
    replace H := Option.bind_eq_some_iff.mp H
    obtain ⟨t793, A90, H⟩ := H
    replace H : (catchmentlaw37_DeltaThree.j0 k l0 l1 l2 (!t793)) = some r := H
    have A9 := Aside0.mk A90
    clear A90
    have H' := Aside0.mk H
    clear H
    go_wp2_with (first | ((with_reducible refine gate_callee (f := 38) rfl ?_); refine goesL_ (some 12) rfl rfl Try.func38 (by kernel_rfl) rfl #[.slice A0 l0.length c0] rfl mS_ ?_; (with_reducible refine (catchmentlaw37_right.calls k _ _ l0 true _ ?side1 ?side2 A5.out).mono ?_); (case side1 => repeat (first | exact (Kd.C_below HR0.out HB.out) | (with_reducible refine Kd.C_alloc ?_ _) | (with_reducible refine Kd.C_drewN ?_ _) | (with_reducible refine Kd.C_drew ?_))); (case side2 => exact HC0.out); rintro e w' ⟨rfl, ⟨nd, rfl⟩⟩; refine ⟨_, rfl, ?_⟩) | (go_at_call 38; (with_reducible refine (catchmentlaw37_right.calls k _ _ l1 true _ ?side1 ?side2 A7.out).mono ?_); (case side1 => repeat (first | exact (Kd.C_below HR1.out bW_) | (with_reducible refine Kd.C_alloc ?_ _) | (with_reducible refine Kd.C_drewN ?_ _) | (with_reducible refine Kd.C_drew ?_))); (case side2 => exact HC1.out); rintro e w' ⟨rfl, ⟨nd, rfl⟩⟩) | (go_at_call 38; (with_reducible refine (catchmentlaw37_right.calls k _ _ l2 t793 _ ?side1 ?side2 A9.out).mono ?_); (case side1 => repeat (first | exact (Kd.C_below HR2.out bW_) | (with_reducible refine Kd.C_alloc ?_ _) | (with_reducible refine Kd.C_drewN ?_ _) | (with_reducible refine Kd.C_drew ?_))); (case side2 => exact HC2.out); rintro e w' ⟨rfl, ⟨nd, rfl⟩⟩))
    go_meet
    case rel => exact ⟨_, (!t793), (by first | rfl | (simp; done) | (simp [*]; done)), H', ⟨by first | omega | exact Nat.le_refl _⟩, ⟨by repeat (first | (with_reducible first | exact HB.out | apply wA | apply wN | apply w1) | exact HB.out)⟩⟩
   ·replace c8 := Bool.eq_false_iff.mpr c8
    subst c8
    have H1 : (catchmentlaw37_DeltaThree.j0 k l0 l1 l2 true) = some r := by rw [if_neg (show ¬ (false = true) by decide)] at H; exact H
    clear H
    have H := H1
    clear H1
    have H' := Aside0.mk H
    clear H
    go_wp2_with (first | ((with_reducible refine gate_callee (f := 38) rfl ?_); refine goesL_ (some 12) rfl rfl Try.func38 (by kernel_rfl) rfl #[.slice A0 l0.length c0] rfl mS_ ?_; (with_reducible refine (catchmentlaw37_right.calls k _ _ l0 true _ ?side1 ?side2 A5.out).mono ?_); (case side1 => repeat (first | exact (Kd.C_below HR0.out HB.out) | (with_reducible refine Kd.C_alloc ?_ _) | (with_reducible refine Kd.C_drewN ?_ _) | (with_reducible refine Kd.C_drew ?_))); (case side2 => exact HC0.out); rintro e w' ⟨rfl, ⟨nd, rfl⟩⟩; refine ⟨_, rfl, ?_⟩) | (go_at_call 38; (with_reducible refine (catchmentlaw37_right.calls k _ _ l1 false _ ?side1 ?side2 A7.out).mono ?_); (case side1 => repeat (first | exact (Kd.C_below HR1.out bW_) | (with_reducible refine Kd.C_alloc ?_ _) | (with_reducible refine Kd.C_drewN ?_ _) | (with_reducible refine Kd.C_drew ?_))); (case side2 => exact HC1.out); rintro e w' ⟨rfl, ⟨nd, rfl⟩⟩))
    go_meet
    case rel => exact ⟨_, (true), (by first | rfl | (simp; done) | (simp [*]; done)), H', ⟨by first | omega | exact Nat.le_refl _⟩, ⟨by repeat (first | (with_reducible first | exact HB.out | apply wA | apply wN | apply w1) | exact HB.out)⟩⟩
  ·replace c6 := Bool.eq_false_iff.mpr c6
   subst c6
   have H1 : (catchmentlaw37_DeltaThree.j0 k l0 l1 l2 true) = some r := by rw [if_neg (show ¬ (false = true) by decide)] at H; exact H
   clear H
   have H := H1
   clear H1
   have H' := Aside0.mk H
   clear H
   go_wp2_with (first | ((with_reducible refine gate_callee (f := 38) rfl ?_); refine goesL_ (some 12) rfl rfl Try.func38 (by kernel_rfl) rfl #[.slice A0 l0.length c0] rfl mS_ ?_; (with_reducible refine (catchmentlaw37_right.calls k _ _ l0 false _ ?side1 ?side2 A5.out).mono ?_); (case side1 => repeat (first | exact (Kd.C_below HR0.out HB.out) | (with_reducible refine Kd.C_alloc ?_ _) | (with_reducible refine Kd.C_drewN ?_ _) | (with_reducible refine Kd.C_drew ?_))); (case side2 => exact HC0.out); rintro e w' ⟨rfl, ⟨nd, rfl⟩⟩; refine ⟨_, rfl, ?_⟩))
   go_meet
   case rel => exact ⟨_, (true), (by first | rfl | (simp; done) | (simp [*]; done)), H', ⟨by first | omega | exact Nat.le_refl _⟩, ⟨by repeat (first | (with_reducible first | exact HB.out | apply wA | apply wN | apply w1) | exact HB.out)⟩⟩
 case rest =>
  clear HC4
  try clear c1
  try clear c2
  try clear p2
  try clear c3
  try clear c6
  try clear c8
  obtain ⟨kq, x23_3, rfl, HA, HJ3, HB⟩ := hcut
  cases kq with
  | zero => exact absurd HA.out (by simp [catchmentlaw37_DeltaThree.j0])
  | succ kj3 =>
   have H := HA.out
   clear HA
   simp only [catchmentlaw37_DeltaThree.j0] at H
   by_cases c10 : x23_3 = true
   ·subst c10
    have H1 : ((catchmentlaw37_live.f kj3).bind fun t794 => (some t794)) = some r := by rw [if_pos rfl] at H; exact H
    clear H
    have H := H1
    clear H1
    replace H := Option.bind_eq_some_iff.mp H
    obtain ⟨t794, A110, H⟩ := H
    replace H : (some t794) = some r := H
    have A11 := Aside0.mk A110
    clear A110
    obtain rfl := Option.some.inj H
    go_wp2_with (first | ((with_reducible refine gate_callee (f := 39) rfl ?_); refine goesL_ (some 24) rfl rfl Try.func39 (by kernel_rfl) rfl #[] rfl mS_ ?_; (with_reducible refine (catchmentlaw37_live.calls kj3  t794 _ A11.out).mono ?_); rintro e w12 ⟨rfl, hb⟩; refine ⟨_, rfl, ?_⟩; have n0_ := Aside0.mk (wT bW_ hb); clear HB; have HB := n0_; clear n0_; (try clear hb); (try clear hb2); (try clear hk); (try clear hi)))
    go_ret
    exact ⟨eR_, bW_⟩
   ·replace c10 := Bool.eq_false_iff.mpr c10
    subst c10
    have H1 : ((delta_Three.f kj3 l0 l1 l2).bind fun bt795 => ((catchmentref37_Three.f kj3 l0 l1 l2).bind fun bt801 => ((catchmentlaw37_live.f kj3).bind fun t807 => (if t807 = true then ((catchmentref05_Same.f kj3 bt795.1 bt801.1).bind fun t808 => (if t808 = true then ((catchmentref03_Same.f kj3 bt795.2 bt801.2).bind fun t809 => (some t809)) else (some false))) else (some false))))) = some r := by rw [if_neg (show ¬ (false = true) by decide)] at H; exact H
    clear H
    have H := H1
    clear H1
    replace H := Option.bind_eq_some_iff.mp H
    obtain ⟨⟨t795, t796⟩, A130, H⟩ := H
    replace H : ((catchmentref37_Three.f kj3 l0 l1 l2).bind fun bt801 => ((catchmentlaw37_live.f kj3).bind fun t807 => (if t807 = true then ((catchmentref05_Same.f kj3 t795 bt801.1).bind fun t808 => (if t808 = true then ((catchmentref03_Same.f kj3 t796 bt801.2).bind fun t809 => (some t809)) else (some false))) else (some false)))) = some r := H
    have A13 := Aside0.mk A130
    clear A130
    replace H := Option.bind_eq_some_iff.mp H
    obtain ⟨⟨t801, t804⟩, A140, H⟩ := H
    replace H : ((catchmentlaw37_live.f kj3).bind fun t807 => (if t807 = true then ((catchmentref05_Same.f kj3 t795 t801).bind fun t808 => (if t808 = true then ((catchmentref03_Same.f kj3 t796 t804).bind fun t809 => (some t809)) else (some false))) else (some false))) = some r := H
    have A14 := Aside0.mk A140
    clear A140
    replace H := Option.bind_eq_some_iff.mp H
    obtain ⟨t807, A150, H⟩ := H
    replace H : (if t807 = true then ((catchmentref05_Same.f kj3 t795 t801).bind fun t808 => (if t808 = true then ((catchmentref03_Same.f kj3 t796 t804).bind fun t809 => (some t809)) else (some false))) else (some false)) = some r := H
    have A15 := Aside0.mk A150
    clear A150
    by_cases c16 : t807 = true
    ·subst c16
     have H1 : ((catchmentref05_Same.f kj3 t795 t801).bind fun t808 => (if t808 = true then ((catchmentref03_Same.f kj3 t796 t804).bind fun t809 => (some t809)) else (some false))) = some r := by rw [if_pos rfl] at H; exact H
     clear H
     have H := H1
     clear H1
     replace H := Option.bind_eq_some_iff.mp H
     obtain ⟨t808, A170, H⟩ := H
     replace H : (if t808 = true then ((catchmentref03_Same.f kj3 t796 t804).bind fun t809 => (some t809)) else (some false)) = some r := H
     have A17 := Aside0.mk A170
     clear A170
     by_cases c18 : t808 = true
     ·subst c18
      have H1 : ((catchmentref03_Same.f kj3 t796 t804).bind fun t809 => (some t809)) = some r := by rw [if_pos rfl] at H; exact H
      clear H
      have H := H1
      clear H1
      replace H := Option.bind_eq_some_iff.mp H
      obtain ⟨t809, A190, H⟩ := H
      replace H : (some t809) = some r := H
      have A19 := Aside0.mk A190
      clear A190
      obtain rfl := Option.some.inj H
      go_wp2_with (first | ((with_reducible refine gate_callee (f := 46) rfl ?_); refine goesL_ (some 29) rfl rfl Try.func46 (by kernel_rfl) rfl #[.slice A0 l0.length c0, .slice A1 l1.length c1, .slice A2 l2.length c2] rfl mS_ ?_; (with_reducible refine (delta_Three.calls kj3 _ _ l0 _ _ l1 _ _ l2 t795 t796 _ ?side1 ?side2 ?side3 ?side4 ?side5 ?side6 A13.out).mono ?_); (case side1 => repeat (first | exact (Kd.C_below HR0.out HB.out) | (with_reducible refine Kd.C_alloc ?_ _) | (with_reducible refine Kd.C_drewN ?_ _) | (with_reducible refine Kd.C_drew ?_))); (case side2 => exact HC0.out); (case side3 => repeat (first | exact (Kd.C_below HR1.out HB.out) | (with_reducible refine Kd.C_alloc ?_ _) | (with_reducible refine Kd.C_drewN ?_ _) | (with_reducible refine Kd.C_drew ?_))); (case side4 => exact HC1.out); (case side5 => repeat (first | exact (Kd.C_below HR2.out HB.out) | (with_reducible refine Kd.C_alloc ?_ _) | (with_reducible refine Kd.C_drewN ?_ _) | (with_reducible refine Kd.C_drew ?_))); (case side6 => exact HC2.out); rintro e w20 ⟨v797, v799, rfl, ho0, ho1, hb⟩; refine ⟨_, rfl, ?_⟩; have n0_ := Aside0.mk (Kd.R_lower ho0 (wZ bW_)); have n1_ := Aside0.mk (Kd.R_lower ho1 (wZ bW_)); have n2_ := Aside0.mk (wT bW_ hb); clear HB; have HO798 := n0_; have HO800 := n1_; have HB := n2_; clear n0_ n1_ n2_; (try clear hb); (try clear hb2); (try clear hk); (try clear hi); (try clear ho0); (try clear ho1)) | ((with_reducible refine gate_callee (f := 47) rfl ?_); refine goesL_ (some 36) rfl rfl Try.func47 (by kernel_rfl) rfl #[.slice A0 l0.length c0, .slice A1 l1.length c1, .slice A2 l2.length c2] rfl mS_ ?_; (with_reducible refine (catchmentref37_Three.calls kj3 (fun k_ => k_ < w.heap.size) _ _ l0 (fun k_ => k_ < w.heap.size) _ _ l1 (fun k_ => k_ < w.heap.size) _ _ l2 t801 t804 _ ?side1 ?side2 ?side3 A14.out).mono ?_); (case side1 => exact Kd.V_mk HC0.out (Kd.F_below (Kd.C_F k39_heap HR0.out) bW_)); (case side2 => exact Kd.V_mk HC1.out (Kd.F_below (Kd.C_F k39_heap HR1.out) bW_)); (case side3 => exact Kd.V_mk HC2.out (Kd.F_below (Kd.C_F k39_heap HR2.out) bW_)); rintro e w21 ⟨v802, v805, rfl, ho0, ho1, hb⟩; refine ⟨_, rfl, ?_⟩; have n0_ := Aside0.mk (Kd.R_elder' (kR_ HO798.out) (Kd.R_base ho0) hb); have n1_ := Aside0.mk (Kd.R_elder' (kR_ HO800.out) (Kd.R_base ho1) hb); have n2_ := Aside0.mk (Kd.R_lower (Kd.R_new' (Kd.R_mono (ok' := fun k_ => True) ho0 (fun _ hk_ => trivial)) (Kd.R_lt (kR_ HO798.out))) (wZ bW_)); have n3_ := Aside0.mk (Kd.R_lower (Kd.R_new' (Kd.R_mono (ok' := fun k_ => True) ho1 (fun _ hk_ => trivial)) (Kd.R_lt (kR_ HO800.out))) (wZ bW_)); have n4_ := Aside0.mk (wT bW_ hb); clear HO798; clear HO800; clear HB; have HO798 := n0_; have HO800 := n1_; have HO803 := n2_; have HO806 := n3_; have HB := n4_; clear n0_ n1_ n2_ n3_ n4_; (try clear hb); (try clear hb2); (try clear hk); (try clear hi); (try clear ho0); (try clear ho1)) | ((with_reducible refine gate_callee (f := 39) rfl ?_); refine goesL_ (some 39) rfl rfl Try.func39 (by kernel_rfl) rfl #[] rfl mS_ ?_; (with_reducible refine (catchmentlaw37_live.calls kj3  true _ A15.out).mono ?_); rintro e w22 ⟨rfl, hb⟩; refine ⟨_, rfl, ?_⟩; have n0_ := Aside0.mk (Kd.R_below (kR_ HO798.out) hb); have n1_ := Aside0.mk (Kd.R_below (kR_ HO800.out) hb); have n2_ := Aside0.mk (Kd.R_below (kR_ HO803.out) hb); have n3_ := Aside0.mk (Kd.R_below (kR_ HO806.out) hb); have n4_ := Aside0.mk (wT bW_ hb); clear HO798; clear HO800; clear HO803; clear HO806; clear HB; have HO798 := n0_; have HO800 := n1_; have HO803 := n2_; have HO806 := n3_; have HB := n4_; clear n0_ n1_ n2_ n3_ n4_; (try clear hb); (try clear hb2); (try clear hk); (try clear hi); obtain ⟨Ao23, co23, eo23⟩ := Kd.R_slice HO798.out; subst eo23; obtain ⟨Ao24, co24, eo24⟩ := Kd.R_slice HO803.out; subst eo24) | (go_at_call 18; (with_reducible refine (catchmentref05_Same.calls kj3 _ _ t795 _ _ t801 true _ ?side1 ?side2 ?side3 ?side4 A17.out).mono ?_); (case side1 => repeat (first | exact (Kd.R_reads' HO798.out).2.2 | (with_reducible refine Kd.C_alloc ?_ _) | (with_reducible refine Kd.C_drewN ?_ _) | (with_reducible refine Kd.C_drew ?_))); (case side2 => exact (Kd.R_reads' HO798.out).2.1); (case side3 => repeat (first | exact (Kd.R_reads' HO803.out).2.2 | (with_reducible refine Kd.C_alloc ?_ _) | (with_reducible refine Kd.C_drewN ?_ _) | (with_reducible refine Kd.C_drew ?_))); (case side4 => exact (Kd.R_reads' HO803.out).2.1); rintro e w' ⟨rfl, ⟨nd, rfl⟩⟩; obtain ⟨Ao25, co25, eo25⟩ := Kd.R_slice HO800.out; subst eo25; obtain ⟨Ao26, co26, eo26⟩ := Kd.R_slice HO806.out; subst eo26) | (go_at_call 28; (with_reducible refine (catchmentref03_Same.calls kj3 _ _ t796 _ _ t804 t809 _ ?side1 ?side2 ?side3 ?side4 A19.out).mono ?_); (case side1 => repeat (first | exact (Kd.R_reads' HO800.out).2.2 | (with_reducible refine Kd.C_alloc ?_ _) | (with_reducible refine Kd.C_drewN ?_ _) | (with_reducible refine Kd.C_drew ?_))); (case side2 => exact (Kd.R_reads' HO800.out).2.1); (case side3 => repeat (first | exact (Kd.R_reads' HO806.out).2.2 | (with_reducible refine Kd.C_alloc ?_ _) | (with_reducible refine Kd.C_drewN ?_ _) | (with_reducible refine Kd.C_drew ?_))); (case side4 => exact (Kd.R_reads' HO806.out).2.1); rintro e w' ⟨rfl, ⟨nd, rfl⟩⟩))
      go_ret
      exact ⟨eR_, bW_⟩
     ·replace c18 := Bool.eq_false_iff.mpr c18
      subst c18
      have H1 : (some false) = some r := by rw [if_neg (show ¬ (false = true) by decide)] at H; exact H
      clear H
      have H := H1
      clear H1
      obtain rfl := Option.some.inj H
      go_wp2_with (first | ((with_reducible refine gate_callee (f := 46) rfl ?_); refine goesL_ (some 29) rfl rfl Try.func46 (by kernel_rfl) rfl #[.slice A0 l0.length c0, .slice A1 l1.length c1, .slice A2 l2.length c2] rfl mS_ ?_; (with_reducible refine (delta_Three.calls kj3 _ _ l0 _ _ l1 _ _ l2 t795 t796 _ ?side1 ?side2 ?side3 ?side4 ?side5 ?side6 A13.out).mono ?_); (case side1 => repeat (first | exact (Kd.C_below HR0.out HB.out) | (with_reducible refine Kd.C_alloc ?_ _) | (with_reducible refine Kd.C_drewN ?_ _) | (with_reducible refine Kd.C_drew ?_))); (case side2 => exact HC0.out); (case side3 => repeat (first | exact (Kd.C_below HR1.out HB.out) | (with_reducible refine Kd.C_alloc ?_ _) | (with_reducible refine Kd.C_drewN ?_ _) | (with_reducible refine Kd.C_drew ?_))); (case side4 => exact HC1.out); (case side5 => repeat (first | exact (Kd.C_below HR2.out HB.out) | (with_reducible refine Kd.C_alloc ?_ _) | (with_reducible refine Kd.C_drewN ?_ _) | (with_reducible refine Kd.C_drew ?_))); (case side6 => exact HC2.out); rintro e w27 ⟨v797, v799, rfl, ho0, ho1, hb⟩; refine ⟨_, rfl, ?_⟩; have n0_ := Aside0.mk (Kd.R_lower ho0 (wZ bW_)); have n1_ := Aside0.mk (Kd.R_lower ho1 (wZ bW_)); have n2_ := Aside0.mk (wT bW_ hb); clear HB; have HO798 := n0_; have HO800 := n1_; have HB := n2_; clear n0_ n1_ n2_; (try clear hb); (try clear hb2); (try clear hk); (try clear hi); (try clear ho0); (try clear ho1)) | ((with_reducible refine gate_callee (f := 47) rfl ?_); refine goesL_ (some 36) rfl rfl Try.func47 (by kernel_rfl) rfl #[.slice A0 l0.length c0, .slice A1 l1.length c1, .slice A2 l2.length c2] rfl mS_ ?_; (with_reducible refine (catchmentref37_Three.calls kj3 (fun k_ => k_ < w.heap.size) _ _ l0 (fun k_ => k_ < w.heap.size) _ _ l1 (fun k_ => k_ < w.heap.size) _ _ l2 t801 t804 _ ?side1 ?side2 ?side3 A14.out).mono ?_); (case side1 => exact Kd.V_mk HC0.out (Kd.F_below (Kd.C_F k39_heap HR0.out) bW_)); (case side2 => exact Kd.V_mk HC1.out (Kd.F_below (Kd.C_F k39_heap HR1.out) bW_)); (case side3 => exact Kd.V_mk HC2.out (Kd.F_below (Kd.C_F k39_heap HR2.out) bW_)); rintro e w28 ⟨v802, v805, rfl, ho0, ho1, hb⟩; refine ⟨_, rfl, ?_⟩; have n0_ := Aside0.mk (Kd.R_elder' (kR_ HO798.out) (Kd.R_base ho0) hb); have n1_ := Aside0.mk (Kd.R_elder' (kR_ HO800.out) (Kd.R_base ho1) hb); have n2_ := Aside0.mk (Kd.R_lower (Kd.R_new' (Kd.R_mono (ok' := fun k_ => True) ho0 (fun _ hk_ => trivial)) (Kd.R_lt (kR_ HO798.out))) (wZ bW_)); have n3_ := Aside0.mk (Kd.R_lower (Kd.R_new' (Kd.R_mono (ok' := fun k_ => True) ho1 (fun _ hk_ => trivial)) (Kd.R_lt (kR_ HO800.out))) (wZ bW_)); have n4_ := Aside0.mk (wT bW_ hb); clear HO798; clear HO800; clear HB; have HO798 := n0_; have HO800 := n1_; have HO803 := n2_; have HO806 := n3_; have HB := n4_; clear n0_ n1_ n2_ n3_ n4_; (try clear hb); (try clear hb2); (try clear hk); (try clear hi); (try clear ho0); (try clear ho1)) | ((with_reducible refine gate_callee (f := 39) rfl ?_); refine goesL_ (some 39) rfl rfl Try.func39 (by kernel_rfl) rfl #[] rfl mS_ ?_; (with_reducible refine (catchmentlaw37_live.calls kj3  true _ A15.out).mono ?_); rintro e w29 ⟨rfl, hb⟩; refine ⟨_, rfl, ?_⟩; have n0_ := Aside0.mk (Kd.R_below (kR_ HO798.out) hb); have n1_ := Aside0.mk (Kd.R_below (kR_ HO800.out) hb); have n2_ := Aside0.mk (Kd.R_below (kR_ HO803.out) hb); have n3_ := Aside0.mk (Kd.R_below (kR_ HO806.out) hb); have n4_ := Aside0.mk (wT bW_ hb); clear HO798; clear HO800; clear HO803; clear HO806; clear HB; have HO798 := n0_; have HO800 := n1_; have HO803 := n2_; have HO806 := n3_; have HB := n4_; clear n0_ n1_ n2_ n3_ n4_; (try clear hb); (try clear hb2); (try clear hk); (try clear hi); obtain ⟨Ao30, co30, eo30⟩ := Kd.R_slice HO798.out; subst eo30; obtain ⟨Ao31, co31, eo31⟩ := Kd.R_slice HO803.out; subst eo31) | (go_at_call 18; (with_reducible refine (catchmentref05_Same.calls kj3 _ _ t795 _ _ t801 false _ ?side1 ?side2 ?side3 ?side4 A17.out).mono ?_); (case side1 => repeat (first | exact (Kd.R_reads' HO798.out).2.2 | (with_reducible refine Kd.C_alloc ?_ _) | (with_reducible refine Kd.C_drewN ?_ _) | (with_reducible refine Kd.C_drew ?_))); (case side2 => exact (Kd.R_reads' HO798.out).2.1); (case side3 => repeat (first | exact (Kd.R_reads' HO803.out).2.2 | (with_reducible refine Kd.C_alloc ?_ _) | (with_reducible refine Kd.C_drewN ?_ _) | (with_reducible refine Kd.C_drew ?_))); (case side4 => exact (Kd.R_reads' HO803.out).2.1); rintro e w' ⟨rfl, ⟨nd, rfl⟩⟩))
      go_ret
      exact ⟨eR_, bW_⟩
    ·replace c16 := Bool.eq_false_iff.mpr c16
     subst c16
     have H1 : (some false) = some r := by rw [if_neg (show ¬ (false = true) by decide)] at H; exact H
     clear H
     have H := H1
     clear H1
     obtain rfl := Option.some.inj H
     go_wp2_with (first | ((with_reducible refine gate_callee (f := 46) rfl ?_); refine goesL_ (some 29) rfl rfl Try.func46 (by kernel_rfl) rfl #[.slice A0 l0.length c0, .slice A1 l1.length c1, .slice A2 l2.length c2] rfl mS_ ?_; (with_reducible refine (delta_Three.calls kj3 _ _ l0 _ _ l1 _ _ l2 t795 t796 _ ?side1 ?side2 ?side3 ?side4 ?side5 ?side6 A13.out).mono ?_); (case side1 => repeat (first | exact (Kd.C_below HR0.out HB.out) | (with_reducible refine Kd.C_alloc ?_ _) | (with_reducible refine Kd.C_drewN ?_ _) | (with_reducible refine Kd.C_drew ?_))); (case side2 => exact HC0.out); (case side3 => repeat (first | exact (Kd.C_below HR1.out HB.out) | (with_reducible refine Kd.C_alloc ?_ _) | (with_reducible refine Kd.C_drewN ?_ _) | (with_reducible refine Kd.C_drew ?_))); (case side4 => exact HC1.out); (case side5 => repeat (first | exact (Kd.C_below HR2.out HB.out) | (with_reducible refine Kd.C_alloc ?_ _) | (with_reducible refine Kd.C_drewN ?_ _) | (with_reducible refine Kd.C_drew ?_))); (case side6 => exact HC2.out); rintro e w32 ⟨v797, v799, rfl, ho0, ho1, hb⟩; refine ⟨_, rfl, ?_⟩; have n0_ := Aside0.mk (Kd.R_lower ho0 (wZ bW_)); have n1_ := Aside0.mk (Kd.R_lower ho1 (wZ bW_)); have n2_ := Aside0.mk (wT bW_ hb); clear HB; have HO798 := n0_; have HO800 := n1_; have HB := n2_; clear n0_ n1_ n2_; (try clear hb); (try clear hb2); (try clear hk); (try clear hi); (try clear ho0); (try clear ho1)) | ((with_reducible refine gate_callee (f := 47) rfl ?_); refine goesL_ (some 36) rfl rfl Try.func47 (by kernel_rfl) rfl #[.slice A0 l0.length c0, .slice A1 l1.length c1, .slice A2 l2.length c2] rfl mS_ ?_; (with_reducible refine (catchmentref37_Three.calls kj3 (fun k_ => k_ < w.heap.size) _ _ l0 (fun k_ => k_ < w.heap.size) _ _ l1 (fun k_ => k_ < w.heap.size) _ _ l2 t801 t804 _ ?side1 ?side2 ?side3 A14.out).mono ?_); (case side1 => exact Kd.V_mk HC0.out (Kd.F_below (Kd.C_F k39_heap HR0.out) bW_)); (case side2 => exact Kd.V_mk HC1.out (Kd.F_below (Kd.C_F k39_heap HR1.out) bW_)); (case side3 => exact Kd.V_mk HC2.out (Kd.F_below (Kd.C_F k39_heap HR2.out) bW_)); rintro e w33 ⟨v802, v805, rfl, ho0, ho1, hb⟩; refine ⟨_, rfl, ?_⟩; have n0_ := Aside0.mk (Kd.R_elder' (kR_ HO798.out) (Kd.R_base ho0) hb); have n1_ := Aside0.mk (Kd.R_elder' (kR_ HO800.out) (Kd.R_base ho1) hb); have n2_ := Aside0.mk (Kd.R_lower (Kd.R_new' (Kd.R_mono (ok' := fun k_ => True) ho0 (fun _ hk_ => trivial)) (Kd.R_lt (kR_ HO798.out))) (wZ bW_)); have n3_ := Aside0.mk (Kd.R_lower (Kd.R_new' (Kd.R_mono (ok' := fun k_ => True) ho1 (fun _ hk_ => trivial)) (Kd.R_lt (kR_ HO800.out))) (wZ bW_)); have n4_ := Aside0.mk (wT bW_ hb); clear HO798; clear HO800; clear HB; have HO798 := n0_; have HO800 := n1_; have HO803 := n2_; have HO806 := n3_; have HB := n4_; clear n0_ n1_ n2_ n3_ n4_; (try clear hb); (try clear hb2); (try clear hk); (try clear hi); (try clear ho0); (try clear ho1)) | ((with_reducible refine gate_callee (f := 39) rfl ?_); refine goesL_ (some 39) rfl rfl Try.func39 (by kernel_rfl) rfl #[] rfl mS_ ?_; (with_reducible refine (catchmentlaw37_live.calls kj3  false _ A15.out).mono ?_); rintro e w34 ⟨rfl, hb⟩; refine ⟨_, rfl, ?_⟩; have n0_ := Aside0.mk (Kd.R_below (kR_ HO798.out) hb); have n1_ := Aside0.mk (Kd.R_below (kR_ HO800.out) hb); have n2_ := Aside0.mk (Kd.R_below (kR_ HO803.out) hb); have n3_ := Aside0.mk (Kd.R_below (kR_ HO806.out) hb); have n4_ := Aside0.mk (wT bW_ hb); clear HO798; clear HO800; clear HO803; clear HO806; clear HB; have HO798 := n0_; have HO800 := n1_; have HO803 := n2_; have HO806 := n3_; have HB := n4_; clear n0_ n1_ n2_ n3_ n4_; (try clear hb); (try clear hb2); (try clear hk); (try clear hi)))
     go_ret
     exact ⟨eR_, bW_⟩
end Go.Proofs.Ytebejadiaooooaa.P
end
