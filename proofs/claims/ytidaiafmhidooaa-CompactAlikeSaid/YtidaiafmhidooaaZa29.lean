/- Texts of one claim (laid by shake.py). -/
import Derived.Test.YtidaiafmhidooaaZa3
import Derived.Test.YtidaiafmhidooaaZa4
import Derived.Test.YtidaiafmhidooaaZa9
import Derived.Test.YtidaiafmhidooaaZa10
import Derived.Test.YtidaiafmhidooaaZa21
import Derived.Test.YtidaiafmhidooaaZa28
set_option linter.unusedVariables false
set_option linter.unusedSimpArgs false
section
namespace Go.Proofs.Ytidaiafmhidooaa.P
open Go.RowKit Go.Proofs.YtidaiafmhidooaaW.PrintWords Go.Proofs.YtidaiafmhidooaaW.PrintLast Go.Proofs.YtidaiafmhidooaaW.PrintMore Go.Proofs.Ytidaiafmhidooaa.Own
open Go.Proofs.YtidaiafmhidooaaW.PrintWords renaming blk_cell → bC, blk_frozen → bF, blk_drewN → bN, blk_alloc → bA, pw_below_drewN → wN, blk_drew → bD, below_drew1 → w1, below_set → wS, below_alloc → wA, blk_below → bB, below_step → wT, below_size → wZ, blk_put → bP
open List renaming setIfInBounds_toArray → sA1, set_cons_zero → sA2, set_cons_succ → sA3, map_toArray → mA1, map_cons → mA2, map_nil → mA3, length_take → mA4, length_drop → mA5
attribute [local go_sem] max2_str max2_int min2_int max_two min_two max_three min_three max_four min_four   -- for this text's walks alone
def compact_marks.f (l0 : List S33) (l1 : List S33) : Option (List ByteArray × List ByteArray) := Am.marksF l0 l1
theorem compact_marks.calls (A0 : Option Addr) (c0 : Nat) (l0 : List S33) (A1 : Option Addr) (c1 : Nat) (l1 : List S33) (r1 : List ByteArray) (r2 : List ByteArray) (w : World) (hr0 : Kd.C k33 w A0 l0.length l0) (hc0 : l0.length ≤ c0) (hr1 : Kd.C k33 w A1 l1.length l1) (hc1 : l1.length ≤ c1) (h : compact_marks.f l0 l1 = some (r1, r2)) :
  Calls Try.prog 56 #[.slice A0 l0.length c0, .slice A1 l1.length c1] w fun e w' => ∃ v0_ v1_ : Value, e = .returned (.tuple #[v0_, v1_]) ∧ Kd.R Kd.string 9 w' w.heap.size (fun k_ => some k_ ≠ (v1_ : Value).ownBlock) v0_ r1 ∧ Kd.R Kd.string 9 w' w.heap.size (fun k_ => some k_ ≠ (v0_ : Value).ownBlock) v1_ r2 ∧ Below w.heap.size w w' :=
 Am.marksF_calls hr0 hc0 hr1 hc1 h
mutual
def compact_Alike.l0 : Nat → List (S33) → List (S33) → List ByteArray → List ByteArray → Int → Int → Option (Bool)
 | 0, _, _, _, _, _, _ => none
 | k + 1, x0, x1, x6, x21, x22, x23 => if x23 < x22 then (if 0 ≤ x23 then (if x23 < (x21.length : Int) then ((fold_Value.f k x0 (rdOf ByteArray.empty x21 x23) (⟨#[]⟩ : BA) false).bind fun bt239 => ((fold_Value.f k x1 (rdOf ByteArray.empty x21 x23) (⟨#[]⟩ : BA) false).bind fun bt241 => (if bt239.1.toList = bt241.1.toList then (compact_Alike.j1 k x0 x1 x6 (rdOf ByteArray.empty x21 x23) x21 x22 x23 (bt239.2 != bt241.2)) else (compact_Alike.j1 k x0 x1 x6 (rdOf ByteArray.empty x21 x23) x21 x22 x23 true)))) else (none)) else (none)) else (some true)
def compact_Alike.j1 : Nat → List (S33) → List (S33) → List ByteArray → ByteArray → List ByteArray → Int → Int → Bool → Option (Bool)
 | 0, _, _, _, _, _, _, _, _ => none
 | k + 1, x0, x1, x6, x8, x21, x22, x23, x46 => if x46 = true then (some false) else (compact_Alike.l1 k x0 x1 x6 x8 x21 x22 x23 x6 (x6.length : Int) 0)
def compact_Alike.l1 : Nat → List (S33) → List (S33) → List ByteArray → ByteArray → List ByteArray → Int → Int → List ByteArray → Int → Int → Option (Bool)
 | 0, _, _, _, _, _, _, _, _, _, _ => none
 | k + 1, x0, x1, x6, x8, x21, x22, x23, x47, x48, x49 => if x49 < x48 then (if 0 ≤ x49 then (if x49 < (x47.length : Int) then ((fold_Value.f k x0 x8 (rdOf ByteArray.empty x47 x49) true).bind fun bt244 => ((fold_Value.f k x1 x8 (rdOf ByteArray.empty x47 x49) true).bind fun bt246 => (if bt244.1.toList = bt246.1.toList then (if (bt244.2 != bt246.2) = true then (some false) else (compact_Alike.l1 k x0 x1 x6 x8 x21 x22 x23 x47 x48 (wrap64 (x49 + 1)))) else (some false)))) else (none)) else (none)) else (compact_Alike.l0 k x0 x1 x6 x21 x22 (wrap64 (x23 + 1)))
end
def compact_Alike.f (k : Nat) (l0 : List (S33)) (l1 : List (S33)) : Option (Bool) := (compact_marks.f l0 l1).bind fun bt232 => (compact_Alike.l0 k l0 l1 bt232.2 bt232.1 (bt232.1.length : Int) 0)
set_option maxHeartbeats 8000000 in
set_option maxRecDepth 100000 in
theorem compact_Alike.calls (k : Nat) (A0 : Option Addr) (c0 : Nat) (l0 : List (S33)) (A1 : Option Addr) (c1 : Nat) (l1 : List (S33)) (r : Bool) (w : World) (hr0 : Kd.C k33 w A0 l0.length l0) (hc0 : l0.length ≤ c0) (hr1 : Kd.C k33 w A1 l1.length l1) (hc1 : l1.length ≤ c1) (h : compact_Alike.f k l0 l1 = some r) :
  Calls Try.prog 18 #[.slice A0 l0.length c0, .slice A1 l1.length c1] w fun e w' => e = .returned (.bool r) ∧ Below w.heap.size w w' := by
 have HR0 := Aside0.mk hr0
 have HC0 := Aside0.mk hc0
 clear hr0 hc0
 have HR1 := Aside0.mk hr1
 have HC1 := Aside0.mk hc1
 clear hr1 hc1
 have HB := Aside0.mk (Below.refl w.heap.size w)
 have H : ((compact_marks.f l0 l1).bind fun bt232 => (compact_Alike.l0 k l0 l1 bt232.2 bt232.1 (bt232.1.length : Int) 0)) = some r := h
 clear h
 replace H := Option.bind_eq_some_iff.mp H
 obtain ⟨⟨t232, t233⟩, A30, H⟩ := H
 replace H : (compact_Alike.l0 k l0 l1 t233 t232 (t232.length : Int) 0) = some r := H
 have A3 := Aside0.mk A30
 clear A30
 have H' := Aside0.mk H
 clear H
 go_enter Try.func18, Try.ntmps18
 go_wp2_with (first | ((with_reducible refine gate_callee (f := 56) rfl ?_); refine goesL_ (some 18) rfl rfl Try.func56 (by kernel_rfl) rfl #[.slice A0 l0.length c0, .slice A1 l1.length c1] rfl mS_ ?_; (with_reducible refine (compact_marks.calls _ _ l0 _ _ l1 t232 t233 _ ?side1 ?side2 ?side3 ?side4 A3.out).mono ?_); (case side1 => repeat (first | exact HR0.out | (with_reducible refine Kd.C_alloc ?_ _) | (with_reducible refine Kd.C_drewN ?_ _) | (with_reducible refine Kd.C_drew ?_))); (case side2 => exact HC0.out); (case side3 => repeat (first | exact HR1.out | (with_reducible refine Kd.C_alloc ?_ _) | (with_reducible refine Kd.C_drewN ?_ _) | (with_reducible refine Kd.C_drew ?_))); (case side4 => exact HC1.out); rintro e w4 ⟨v234, v236, rfl, ho0, ho1, hb⟩; refine ⟨_, rfl, ?_⟩; have n0_ := Aside0.mk (Kd.R_lower ho0 (wZ bW_)); have n1_ := Aside0.mk (Kd.R_lower ho1 (wZ bW_)); have n2_ := Aside0.mk (wT bW_ hb); clear HB; have HO235 := n0_; have HO237 := n1_; have HB := n2_; clear n0_ n1_ n2_; (try clear hb); (try clear hb2); (try clear hk); (try clear hi); (try clear ho0); (try clear ho1); obtain ⟨Ao5, co5, eo5⟩ := Kd.R_slice HO235.out; subst eo5))
 go_loopg [23] k (fun kq v23 w' => ∃ (x23_1 : Int), v23 = .int .i64 x23_1 ∧ Aside0 (compact_Alike.l0 kq l0 l1 t233 t232 (t232.length : Int) x23_1 = some r) ∧ Aside0 (kq ≤ k) ∧ Aside0 (Kd.R Kd.string 9 w' w.heap.size (fun k_ => some k_ ≠ ((.slice Ao5 t232.length co5) : Value).ownBlock) v236 t233) ∧ Aside0 (Kd.R Kd.string 9 w' w.heap.size (fun k_ => some k_ ≠ (v236 : Value).ownBlock) (.slice Ao5 t232.length co5) t232) ∧ Aside0 (Below w.heap.size w w'))
 case atStart => exact ⟨(0), (by first | rfl | (simp; done) | (simp [*]; done)), H', ⟨Nat.le_refl _⟩, ⟨by (with_reducible repeat (first | apply Kd.R_alloc | apply Kd.R_drewN | apply Kd.R_drew)); exact HO237.out⟩, ⟨by (with_reducible repeat (first | apply Kd.R_alloc | apply Kd.R_drewN | apply Kd.R_drew)); exact HO235.out⟩, ⟨by repeat (first | (with_reducible first | exact HB.out | apply wA | apply wN | apply w1) | exact HB.out)⟩⟩
 case round =>
  clear H'
  try clear c1
  try clear p2
  try clear c5
  obtain ⟨x23_1, rfl, HA, HK1, HO_6, HO_21, HB⟩ := hrel
  cases gk with
  | zero => exact absurd HA.out (by simp [compact_Alike.l0])
  | succ k1 =>
   have H := HA.out
   clear HA
   simp only [compact_Alike.l0] at H
   by_cases c6 : x23_1 < (t232.length : Int)
   ·rw [if_pos c6] at H
    have c6b0 : decide (x23_1 < (t232.length : Int)) = true := decide_eq_true c6
    clear c6
    by_cases c7 : 0 ≤ x23_1
    ·rw [if_pos c7] at H
     have c7b0 : decide (0 ≤ x23_1) = true := decide_eq_true c7
     clear c7
     by_cases c8 : x23_1 < (t232.length : Int)
     ·rw [if_pos c8] at H
      have c8b0 : decide (x23_1 < (t232.length : Int)) = true := decide_eq_true c8
      clear c8
      replace H := Option.bind_eq_some_iff.mp H
      obtain ⟨⟨t239, t240⟩, A90, H⟩ := H
      replace H : ((fold_Value.f k1 l1 (rdOf ByteArray.empty t232 x23_1) (⟨#[]⟩ : BA) false).bind fun bt241 => (if t239.toList = bt241.1.toList then (compact_Alike.j1 k1 l0 l1 t233 (rdOf ByteArray.empty t232 x23_1) t232 (t232.length : Int) x23_1 (t240 != bt241.2)) else (compact_Alike.j1 k1 l0 l1 t233 (rdOf ByteArray.empty t232 x23_1) t232 (t232.length : Int) x23_1 true))) = some r := H
      have A9 := Aside0.mk A90
      clear A90
      replace H := Option.bind_eq_some_iff.mp H
      obtain ⟨⟨t241, t242⟩, A100, H⟩ := H
      replace H : (if t239.toList = t241.toList then (compact_Alike.j1 k1 l0 l1 t233 (rdOf ByteArray.empty t232 x23_1) t232 (t232.length : Int) x23_1 (t240 != t242)) else (compact_Alike.j1 k1 l0 l1 t233 (rdOf ByteArray.empty t232 x23_1) t232 (t232.length : Int) x23_1 true)) = some r := H
      have A10 := Aside0.mk A100
      clear A100
      have HC11 := Aside0.mk H
      clear H
      have p238 : 0 ≤ (x23_1 : Int) := of_decide_eq_true (by first | (with_reducible assumption) | assumption)
      have q238 : x23_1 < (t232.length : Int) := of_decide_eq_true (by first | (with_reducible assumption) | assumption)
      obtain ⟨ad238, e238, hx238_0⟩ := Kd.at_string (Kd.R_reads' HO_21.out).2.2 x23_1 p238 q238
      cases e238
      replace p238 := eq_true p238
      replace q238 := eq_true q238
      go_upto_region 7 with (first | ((with_reducible refine gate_callee (f := 38) rfl ?_); refine goesL_ (some 30) rfl rfl Try.func38 (by kernel_rfl) rfl #[.slice A0 l0.length c0, .string (rdOf ByteArray.empty t232 x23_1), .string (⟨#[]⟩ : BA), .bool false] rfl mS_ ?_; (with_reducible refine (fold_Value.calls k1 _ _ l0 (rdOf ByteArray.empty t232 x23_1) (⟨#[]⟩ : BA) false t239 t240 _ ?side1 ?side2 A9.out).mono ?_); (case side1 => repeat (first | exact (Kd.C_below HR0.out HB.out) | (with_reducible refine Kd.C_alloc ?_ _) | (with_reducible refine Kd.C_drewN ?_ _) | (with_reducible refine Kd.C_drew ?_))); (case side2 => exact HC0.out); rintro e w12 ⟨rfl, hb⟩; refine ⟨_, rfl, ?_⟩; have n0_ := Aside0.mk (Kd.R_below (kR_ HO_6.out) hb); have n1_ := Aside0.mk (Kd.R_below (kR_ HO_21.out) hb); have n2_ := Aside0.mk (wT bW_ hb); clear HO_6; clear HO_21; clear HB; have HO_6 := n0_; have HO_21 := n1_; have HB := n2_; clear n0_ n1_ n2_; (try clear hb); (try clear hb2); (try clear hk); (try clear hi)) | ((with_reducible refine gate_callee (f := 38) rfl ?_); refine goesL_ (some 36) rfl rfl Try.func38 (by kernel_rfl) rfl #[.slice A1 l1.length c1, .string (rdOf ByteArray.empty t232 x23_1), .string (⟨#[]⟩ : BA), .bool false] rfl mS_ ?_; (with_reducible refine (fold_Value.calls k1 _ _ l1 (rdOf ByteArray.empty t232 x23_1) (⟨#[]⟩ : BA) false t241 t242 _ ?side1 ?side2 A10.out).mono ?_); (case side1 => repeat (first | exact (Kd.C_below HR1.out HB.out) | (with_reducible refine Kd.C_alloc ?_ _) | (with_reducible refine Kd.C_drewN ?_ _) | (with_reducible refine Kd.C_drew ?_))); (case side2 => exact HC1.out); rintro e w13 ⟨rfl, hb⟩; refine ⟨_, rfl, ?_⟩; have n0_ := Aside0.mk (Kd.R_below (kR_ HO_6.out) hb); have n1_ := Aside0.mk (Kd.R_below (kR_ HO_21.out) hb); have n2_ := Aside0.mk (wT bW_ hb); clear HO_6; clear HO_21; clear HB; have HO_6 := n0_; have HO_21 := n1_; have HB := n2_; clear n0_ n1_ n2_; (try clear hb); (try clear hb2); (try clear hk); (try clear hi)))
      (try simp only [Act.put, sA1, sA2, sA3])
      go_cut [46] (fun v46 wc => ∃ (kq : Nat) (x46_10 : Bool), v46 = .bool x46_10 ∧ Aside0 (compact_Alike.j1 kq l0 l1 t233 (rdOf ByteArray.empty t232 x23_1) t232 (t232.length : Int) x23_1 x46_10 = some r) ∧ Aside0 (kq ≤ k1) ∧ Aside0 (Kd.R Kd.string 9 wc w.heap.size (fun k_ => some k_ ≠ ((.slice (some ad238) t232.length co5) : Value).ownBlock) v236 t233) ∧ Aside0 (Kd.R Kd.string 9 wc w.heap.size (fun k_ => some k_ ≠ (v236 : Value).ownBlock) (.slice (some ad238) t232.length co5) t232) ∧ Aside0 (Below w.heap.size w wc))
      case first =>
       have H := HC11.out
       clear HC11
       by_cases c14 : t239.toList = t241.toList
       ·rw [if_pos c14] at H
        have c14b0 : (t239.toList == t241.toList) = true := beq_iff_eq.mpr c14
        have c14b1 : (t239.toList != t241.toList) = false := bne_eq_false_iff_eq.mpr c14
        clear c14
        (first | rw [c14b0] | (simp only [i64_w, i32_w]; rw [c14b0]) | skip)
        have H' := Aside0.mk H
        clear H
        go_wp2
        go_meet
        case rel => exact ⟨_, ((t240 != t242)), (by first | rfl | (simp; done) | (simp [*]; done)), H', ⟨by have := HK1.out; first | omega | exact Nat.le_refl _⟩, ⟨by (with_reducible repeat (first | apply Kd.R_alloc | apply Kd.R_drewN | apply Kd.R_drew)); exact HO_6.out⟩, ⟨by (with_reducible repeat (first | apply Kd.R_alloc | apply Kd.R_drewN | apply Kd.R_drew)); exact HO_21.out⟩, ⟨by repeat (first | (with_reducible first | exact HB.out | apply wA | apply wN | apply w1) | exact HB.out)⟩⟩
       ·rw [if_neg c14] at H
        have c14b0 : (t239.toList == t241.toList) = false := beq_eq_false_iff_ne.mpr c14
        have c14b1 : (t239.toList != t241.toList) = true := bne_iff_ne.mpr c14
        (first | rw [c14b0] | (simp only [i64_w, i32_w]; rw [c14b0]) | skip)
        have H' := Aside0.mk H
        clear H
        go_wp2
        go_meet
        case rel => exact ⟨_, (true), (by first | rfl | (simp; done) | (simp [*]; done)), H', ⟨by have := HK1.out; first | omega | exact Nat.le_refl _⟩, ⟨by (with_reducible repeat (first | apply Kd.R_alloc | apply Kd.R_drewN | apply Kd.R_drew)); exact HO_6.out⟩, ⟨by (with_reducible repeat (first | apply Kd.R_alloc | apply Kd.R_drewN | apply Kd.R_drew)); exact HO_21.out⟩, ⟨by repeat (first | (with_reducible first | exact HB.out | apply wA | apply wN | apply w1) | exact HB.out)⟩⟩
      case rest =>
       clear HC11
       try clear c1
       try clear p2
       try clear q2
       try clear hx2
       try clear c3
       try clear c5
       try clear c6
       try clear c6b0
       try clear c7
       try clear c7b0
       try clear c8
       try clear c8b0
       try clear c14
       try clear c14b0
       try clear c14b1
       try clear hx238_0
       try clear p2
       try clear p238
       try clear q238
       obtain ⟨kq, x46_10, rfl, HA, HJ10, HO_6, HO_21, HB⟩ := hcut
       cases kq with
       | zero => exact absurd HA.out (by simp [compact_Alike.j1])
       | succ kj10 =>
        have H := HA.out
        clear HA
        simp only [compact_Alike.j1] at H
        by_cases c15 : x46_10 = true
        ·subst c15
         have H1 : (some false) = some r := by rw [if_pos rfl] at H; exact H
         clear H
         have H := H1
         clear H1
         obtain rfl := Option.some.inj H
         go_wp2
         go_ret
         exact ⟨by first | rfl | (simp [errW_none, errW_some] <;> rfl) | (simp [*, errW_none, errW_some] <;> rfl), by repeat (first | (with_reducible first | exact HB.out | apply wA | apply wN | apply w1) | exact HB.out)⟩
        ·replace c15 := Bool.eq_false_iff.mpr c15
         subst c15
         have H1 : (compact_Alike.l1 kj10 l0 l1 t233 (rdOf ByteArray.empty t232 x23_1) t232 (t232.length : Int) x23_1 t233 (t233.length : Int) 0) = some r := by rw [if_neg (show ¬ (false = true) by decide)] at H; exact H
         clear H
         have H := H1
         clear H1
         have H' := Aside0.mk H
         clear H
         obtain ⟨Ao16, co16, eo16⟩ := Kd.R_slice HO_6.out
         subst eo16
         go_wp2
         go_loopg [49] kj10 (fun kq v49 w' => ∃ (x49_3 : Int), v49 = .int .i64 x49_3 ∧ Aside0 (compact_Alike.l1 kq l0 l1 t233 (rdOf ByteArray.empty t232 x23_1) t232 (t232.length : Int) x23_1 t233 (t233.length : Int) x49_3 = some r) ∧ Aside0 (kq ≤ kj10) ∧ Aside0 (Kd.R Kd.string 9 w' w.heap.size (fun k_ => some k_ ≠ ((.slice (some ad238) t232.length co5) : Value).ownBlock) (.slice Ao16 t233.length co16) t233) ∧ Aside0 (Kd.R Kd.string 9 w' w.heap.size (fun k_ => some k_ ≠ ((.slice Ao16 t233.length co16) : Value).ownBlock ∧ some k_ ≠ ((.slice Ao16 t233.length co16) : Value).ownBlock) (.slice (some ad238) t232.length co5) t232) ∧ Aside0 (Kd.R Kd.string 9 w' w.heap.size (fun k_ => some k_ ≠ ((.slice (some ad238) t232.length co5) : Value).ownBlock) (.slice Ao16 t233.length co16) t233) ∧ Aside0 (Below w.heap.size w w'))
         case atStart => exact ⟨(0), (by first | rfl | (simp; done) | (simp [*]; done)), H', ⟨Nat.le_refl _⟩, ⟨by (with_reducible repeat (first | apply Kd.R_alloc | apply Kd.R_drewN | apply Kd.R_drew)); exact HO_6.out⟩, ⟨by (with_reducible repeat (first | apply Kd.R_alloc | apply Kd.R_drewN | apply Kd.R_drew)); exact Kd.R_mono HO_21.out (fun _ hk => ⟨hk, hk⟩)⟩, ⟨by (with_reducible repeat (first | apply Kd.R_alloc | apply Kd.R_drewN | apply Kd.R_drew)); exact HO_6.out⟩, ⟨by repeat (first | (with_reducible first | exact HB.out | apply wA | apply wN | apply w1) | exact HB.out)⟩⟩
         case round =>
          clear H'
          try clear c1
          try clear p2
          try clear q2
          try clear hx2
          try clear c3
          try clear c5
          try clear c6
          try clear c6b0
          try clear c7
          try clear c7b0
          try clear c8
          try clear c8b0
          try clear c14
          try clear c14b0
          try clear c14b1
          try clear c15
          try clear hx238_0
          try clear p2
          try clear p238
          try clear q2
          try clear q238
          obtain ⟨x49_3, rfl, HA, HK3, HO_6, HO_21, HO_47, HB⟩ := hrel
          cases gk with
          | zero => exact absurd HA.out (by simp [compact_Alike.l1])
          | succ k3 =>
           have H := HA.out
           clear HA
           simp only [compact_Alike.l1] at H
           by_cases c17 : x49_3 < (t233.length : Int)
           ·rw [if_pos c17] at H
            have c17b0 : decide (x49_3 < (t233.length : Int)) = true := decide_eq_true c17
            clear c17
            by_cases c18 : 0 ≤ x49_3
            ·rw [if_pos c18] at H
             have c18b0 : decide (0 ≤ x49_3) = true := decide_eq_true c18
             clear c18
             by_cases c19 : x49_3 < (t233.length : Int)
             ·rw [if_pos c19] at H
              have c19b0 : decide (x49_3 < (t233.length : Int)) = true := decide_eq_true c19
              clear c19
              replace H := Option.bind_eq_some_iff.mp H
              obtain ⟨⟨t244, t245⟩, A200, H⟩ := H
              replace H : ((fold_Value.f k3 l1 (rdOf ByteArray.empty t232 x23_1) (rdOf ByteArray.empty t233 x49_3) true).bind fun bt246 => (if t244.toList = bt246.1.toList then (if (t245 != bt246.2) = true then (some false) else (compact_Alike.l1 k3 l0 l1 t233 (rdOf ByteArray.empty t232 x23_1) t232 (t232.length : Int) x23_1 t233 (t233.length : Int) (wrap64 (x49_3 + 1)))) else (some false))) = some r := H
              have A20 := Aside0.mk A200
              clear A200
              replace H := Option.bind_eq_some_iff.mp H
              obtain ⟨⟨t246, t247⟩, A210, H⟩ := H
              replace H : (if t244.toList = t246.toList then (if (t245 != t247) = true then (some false) else (compact_Alike.l1 k3 l0 l1 t233 (rdOf ByteArray.empty t232 x23_1) t232 (t232.length : Int) x23_1 t233 (t233.length : Int) (wrap64 (x49_3 + 1)))) else (some false)) = some r := H
              have A21 := Aside0.mk A210
              clear A210
              by_cases c22 : t244.toList = t246.toList
              ·rw [if_pos c22] at H
               have c22b0 : (t244.toList == t246.toList) = true := beq_iff_eq.mpr c22
               have c22b1 : (t244.toList != t246.toList) = false := bne_eq_false_iff_eq.mpr c22
               clear c22
               by_cases c23 : (t245 != t247) = true
               ·rw [if_pos c23] at H
                have c23b0 : (t245 != t247) = true := c23
                (try (have c23b1 : decide (t245 = t247) = false := by simpa using c23))
                (try (have c23b2 : (t245 == t247) = false := by simpa using c23))
                (try (have c23b3 : ¬ (t245 = t247) := by simpa using c23))
                clear c23
                obtain rfl := Option.some.inj H
                have p243 : 0 ≤ (x49_3 : Int) := of_decide_eq_true (by first | (with_reducible assumption) | assumption)
                have q243 : x49_3 < (t233.length : Int) := of_decide_eq_true (by first | (with_reducible assumption) | assumption)
                obtain ⟨ad243, e243, hx243_0⟩ := Kd.at_string (Kd.R_reads' HO_47.out).2.2 x49_3 p243 q243
                cases e243
                replace p243 := eq_true p243
                replace q243 := eq_true q243
                go_wp2_with (first | ((with_reducible refine gate_callee (f := 38) rfl ?_); refine goesL_ (some 57) rfl rfl Try.func38 (by kernel_rfl) rfl #[.slice A0 l0.length c0, .string (rdOf ByteArray.empty t232 x23_1), .string (rdOf ByteArray.empty t233 x49_3), .bool true] rfl mS_ ?_; (with_reducible refine (fold_Value.calls k3 _ _ l0 (rdOf ByteArray.empty t232 x23_1) (rdOf ByteArray.empty t233 x49_3) true t244 t245 _ ?side1 ?side2 A20.out).mono ?_); (case side1 => repeat (first | exact (Kd.C_below HR0.out HB.out) | (with_reducible refine Kd.C_alloc ?_ _) | (with_reducible refine Kd.C_drewN ?_ _) | (with_reducible refine Kd.C_drew ?_))); (case side2 => exact HC0.out); rintro e w24 ⟨rfl, hb⟩; refine ⟨_, rfl, ?_⟩; have n0_ := Aside0.mk (Kd.R_below (kR_ HO_6.out) hb); have n1_ := Aside0.mk (Kd.R_below (kR_ HO_21.out) hb); have n2_ := Aside0.mk (Kd.R_below (kR_ HO_47.out) hb); have n3_ := Aside0.mk (wT bW_ hb); clear HO_6; clear HO_21; clear HO_47; clear HB; have HO_6 := n0_; have HO_21 := n1_; have HO_47 := n2_; have HB := n3_; clear n0_ n1_ n2_ n3_; (try clear hb); (try clear hb2); (try clear hk); (try clear hi)) | ((with_reducible refine gate_callee (f := 38) rfl ?_); refine goesL_ (some 64) rfl rfl Try.func38 (by kernel_rfl) rfl #[.slice A1 l1.length c1, .string (rdOf ByteArray.empty t232 x23_1), .string (rdOf ByteArray.empty t233 x49_3), .bool true] rfl mS_ ?_; (with_reducible refine (fold_Value.calls k3 _ _ l1 (rdOf ByteArray.empty t232 x23_1) (rdOf ByteArray.empty t233 x49_3) true t246 t247 _ ?side1 ?side2 A21.out).mono ?_); (case side1 => repeat (first | exact (Kd.C_below HR1.out HB.out) | (with_reducible refine Kd.C_alloc ?_ _) | (with_reducible refine Kd.C_drewN ?_ _) | (with_reducible refine Kd.C_drew ?_))); (case side2 => exact HC1.out); rintro e w25 ⟨rfl, hb⟩; refine ⟨_, rfl, ?_⟩; have n0_ := Aside0.mk (Kd.R_below (kR_ HO_6.out) hb); have n1_ := Aside0.mk (Kd.R_below (kR_ HO_21.out) hb); have n2_ := Aside0.mk (Kd.R_below (kR_ HO_47.out) hb); have n3_ := Aside0.mk (wT bW_ hb); clear HO_6; clear HO_21; clear HO_47; clear HB; have HO_6 := n0_; have HO_21 := n1_; have HO_47 := n2_; have HB := n3_; clear n0_ n1_ n2_ n3_; (try clear hb); (try clear hb2); (try clear hk); (try clear hi)))
                go_ret
                exact ⟨by first | rfl | (simp [errW_none, errW_some] <;> rfl) | (simp [*, errW_none, errW_some] <;> rfl), by repeat (first | (with_reducible first | exact HB.out | apply wA | apply wN | apply w1) | exact HB.out)⟩
               ·rw [if_neg c23] at H
                have c23b0 : (t245 != t247) = false := by simpa using c23
                (try (have c23b1 : decide (t245 = t247) = true := by simpa using c23))
                (try (have c23b2 : (t245 == t247) = true := by simpa using c23))
                clear c23
                have H' := Aside0.mk H
                clear H
                have p243 : 0 ≤ (x49_3 : Int) := of_decide_eq_true (by first | (with_reducible assumption) | assumption)
                have q243 : x49_3 < (t233.length : Int) := of_decide_eq_true (by first | (with_reducible assumption) | assumption)
                obtain ⟨ad243, e243, hx243_0⟩ := Kd.at_string (Kd.R_reads' HO_47.out).2.2 x49_3 p243 q243
                cases e243
                replace p243 := eq_true p243
                replace q243 := eq_true q243
                go_wp2_with (first | ((with_reducible refine gate_callee (f := 38) rfl ?_); refine goesL_ (some 57) rfl rfl Try.func38 (by kernel_rfl) rfl #[.slice A0 l0.length c0, .string (rdOf ByteArray.empty t232 x23_1), .string (rdOf ByteArray.empty t233 x49_3), .bool true] rfl mS_ ?_; (with_reducible refine (fold_Value.calls k3 _ _ l0 (rdOf ByteArray.empty t232 x23_1) (rdOf ByteArray.empty t233 x49_3) true t244 t245 _ ?side1 ?side2 A20.out).mono ?_); (case side1 => repeat (first | exact (Kd.C_below HR0.out HB.out) | (with_reducible refine Kd.C_alloc ?_ _) | (with_reducible refine Kd.C_drewN ?_ _) | (with_reducible refine Kd.C_drew ?_))); (case side2 => exact HC0.out); rintro e w26 ⟨rfl, hb⟩; refine ⟨_, rfl, ?_⟩; have n0_ := Aside0.mk (Kd.R_below (kR_ HO_6.out) hb); have n1_ := Aside0.mk (Kd.R_below (kR_ HO_21.out) hb); have n2_ := Aside0.mk (Kd.R_below (kR_ HO_47.out) hb); have n3_ := Aside0.mk (wT bW_ hb); clear HO_6; clear HO_21; clear HO_47; clear HB; have HO_6 := n0_; have HO_21 := n1_; have HO_47 := n2_; have HB := n3_; clear n0_ n1_ n2_ n3_; (try clear hb); (try clear hb2); (try clear hk); (try clear hi)) | ((with_reducible refine gate_callee (f := 38) rfl ?_); refine goesL_ (some 64) rfl rfl Try.func38 (by kernel_rfl) rfl #[.slice A1 l1.length c1, .string (rdOf ByteArray.empty t232 x23_1), .string (rdOf ByteArray.empty t233 x49_3), .bool true] rfl mS_ ?_; (with_reducible refine (fold_Value.calls k3 _ _ l1 (rdOf ByteArray.empty t232 x23_1) (rdOf ByteArray.empty t233 x49_3) true t246 t247 _ ?side1 ?side2 A21.out).mono ?_); (case side1 => repeat (first | exact (Kd.C_below HR1.out HB.out) | (with_reducible refine Kd.C_alloc ?_ _) | (with_reducible refine Kd.C_drewN ?_ _) | (with_reducible refine Kd.C_drew ?_))); (case side2 => exact HC1.out); rintro e w27 ⟨rfl, hb⟩; refine ⟨_, rfl, ?_⟩; have n0_ := Aside0.mk (Kd.R_below (kR_ HO_6.out) hb); have n1_ := Aside0.mk (Kd.R_below (kR_ HO_21.out) hb); have n2_ := Aside0.mk (Kd.R_below (kR_ HO_47.out) hb); have n3_ := Aside0.mk (wT bW_ hb); clear HO_6; clear HO_21; clear HO_47; clear HB; have HO_6 := n0_; have HO_21 := n1_; have HO_47 := n2_; have HB := n3_; clear n0_ n1_ n2_ n3_; (try clear hb); (try clear hb2); (try clear hk); (try clear hi)))
                go_roundg k3
                case measure => have := HK1.out; have := HJ10.out; have := HK3.out; omega
                case rel => exact ⟨(wrap64 (x49_3 + 1)), (by first | rfl | (simp; done) | (simp [*]; done)), H', ⟨by have := HK1.out; have := HJ10.out; have := HK3.out; omega⟩, ⟨by (with_reducible repeat (first | apply Kd.R_alloc | apply Kd.R_drewN | apply Kd.R_drew)); exact HO_6.out⟩, ⟨by (with_reducible repeat (first | apply Kd.R_alloc | apply Kd.R_drewN | apply Kd.R_drew)); exact HO_21.out⟩, ⟨by (with_reducible repeat (first | apply Kd.R_alloc | apply Kd.R_drewN | apply Kd.R_drew)); exact HO_47.out⟩, ⟨by repeat (first | (with_reducible first | exact HB.out | apply wA | apply wN | apply w1) | exact HB.out)⟩⟩
              ·rw [if_neg c22] at H
               have c22b0 : (t244.toList == t246.toList) = false := beq_eq_false_iff_ne.mpr c22
               have c22b1 : (t244.toList != t246.toList) = true := bne_iff_ne.mpr c22
               obtain rfl := Option.some.inj H
               have p243 : 0 ≤ (x49_3 : Int) := of_decide_eq_true (by first | (with_reducible assumption) | assumption)
               have q243 : x49_3 < (t233.length : Int) := of_decide_eq_true (by first | (with_reducible assumption) | assumption)
               obtain ⟨ad243, e243, hx243_0⟩ := Kd.at_string (Kd.R_reads' HO_47.out).2.2 x49_3 p243 q243
               cases e243
               replace p243 := eq_true p243
               replace q243 := eq_true q243
               go_wp2_with (first | ((with_reducible refine gate_callee (f := 38) rfl ?_); refine goesL_ (some 57) rfl rfl Try.func38 (by kernel_rfl) rfl #[.slice A0 l0.length c0, .string (rdOf ByteArray.empty t232 x23_1), .string (rdOf ByteArray.empty t233 x49_3), .bool true] rfl mS_ ?_; (with_reducible refine (fold_Value.calls k3 _ _ l0 (rdOf ByteArray.empty t232 x23_1) (rdOf ByteArray.empty t233 x49_3) true t244 t245 _ ?side1 ?side2 A20.out).mono ?_); (case side1 => repeat (first | exact (Kd.C_below HR0.out HB.out) | (with_reducible refine Kd.C_alloc ?_ _) | (with_reducible refine Kd.C_drewN ?_ _) | (with_reducible refine Kd.C_drew ?_))); (case side2 => exact HC0.out); rintro e w28 ⟨rfl, hb⟩; refine ⟨_, rfl, ?_⟩; have n0_ := Aside0.mk (Kd.R_below (kR_ HO_6.out) hb); have n1_ := Aside0.mk (Kd.R_below (kR_ HO_21.out) hb); have n2_ := Aside0.mk (Kd.R_below (kR_ HO_47.out) hb); have n3_ := Aside0.mk (wT bW_ hb); clear HO_6; clear HO_21; clear HO_47; clear HB; have HO_6 := n0_; have HO_21 := n1_; have HO_47 := n2_; have HB := n3_; clear n0_ n1_ n2_ n3_; (try clear hb); (try clear hb2); (try clear hk); (try clear hi)) | ((with_reducible refine gate_callee (f := 38) rfl ?_); refine goesL_ (some 64) rfl rfl Try.func38 (by kernel_rfl) rfl #[.slice A1 l1.length c1, .string (rdOf ByteArray.empty t232 x23_1), .string (rdOf ByteArray.empty t233 x49_3), .bool true] rfl mS_ ?_; (with_reducible refine (fold_Value.calls k3 _ _ l1 (rdOf ByteArray.empty t232 x23_1) (rdOf ByteArray.empty t233 x49_3) true t246 t247 _ ?side1 ?side2 A21.out).mono ?_); (case side1 => repeat (first | exact (Kd.C_below HR1.out HB.out) | (with_reducible refine Kd.C_alloc ?_ _) | (with_reducible refine Kd.C_drewN ?_ _) | (with_reducible refine Kd.C_drew ?_))); (case side2 => exact HC1.out); rintro e w29 ⟨rfl, hb⟩; refine ⟨_, rfl, ?_⟩; have n0_ := Aside0.mk (Kd.R_below (kR_ HO_6.out) hb); have n1_ := Aside0.mk (Kd.R_below (kR_ HO_21.out) hb); have n2_ := Aside0.mk (Kd.R_below (kR_ HO_47.out) hb); have n3_ := Aside0.mk (wT bW_ hb); clear HO_6; clear HO_21; clear HO_47; clear HB; have HO_6 := n0_; have HO_21 := n1_; have HO_47 := n2_; have HB := n3_; clear n0_ n1_ n2_ n3_; (try clear hb); (try clear hb2); (try clear hk); (try clear hi)))
               go_ret
               exact ⟨by first | rfl | (simp [errW_none, errW_some] <;> rfl) | (simp [*, errW_none, errW_some] <;> rfl), by repeat (first | (with_reducible first | exact HB.out | apply wA | apply wN | apply w1) | exact HB.out)⟩
             ·rw [if_neg c19] at H
              exact absurd H (by simp)
            ·rw [if_neg c18] at H
             exact absurd H (by simp)
           ·rw [if_neg c17] at H
            have c17b0 : decide (x49_3 < (t233.length : Int)) = false := decide_eq_false c17
            clear c17
            have H' := Aside0.mk H
            clear H
            go_wp2
            go_roundg k3
            case measure => have := HK1.out; have := HJ10.out; have := HK3.out; omega
            case rel => exact ⟨(wrap64 (x23_1 + 1)), (by first | rfl | (simp; done) | (simp [*]; done)), H', ⟨by have := HK1.out; have := HJ10.out; have := HK3.out; omega⟩, ⟨by (with_reducible repeat (first | apply Kd.R_alloc | apply Kd.R_drewN | apply Kd.R_drew)); exact HO_6.out⟩, ⟨by (with_reducible repeat (first | apply Kd.R_alloc | apply Kd.R_drewN | apply Kd.R_drew)); exact Kd.R_mono HO_21.out (fun _ hk => hk.1)⟩, ⟨by repeat (first | (with_reducible first | exact HB.out | apply wA | apply wN | apply w1) | exact HB.out)⟩⟩
     ·rw [if_neg c8] at H
      exact absurd H (by simp)
    ·rw [if_neg c7] at H
     exact absurd H (by simp)
   ·rw [if_neg c6] at H
    have c6b0 : decide (x23_1 < (t232.length : Int)) = false := decide_eq_false c6
    clear c6
    obtain rfl := Option.some.inj H
    go_wp2
    go_ret
    exact ⟨by first | rfl | (simp [errW_none, errW_some] <;> rfl) | (simp [*, errW_none, errW_some] <;> rfl), by repeat (first | (with_reducible first | exact HB.out | apply wA | apply wN | apply w1) | exact HB.out)⟩
def catchmentlaw06_CompactAlike.j0 : Nat → List (S33) → List (S33) → ByteArray → ByteArray → Bool → Bool → Option (Bool)
 | 0, _, _, _, _, _, _ => none
 | k + 1, x0, x1, x2, x3, x9, x34 => if x34 = true then (some false) else ((catchmentlaw06_live.f k).bind fun t310 => (if t310 = true then (if x9 = true then ((catchmentref06_AlikeAt.f k x0 x1 x2 x3).bind fun t311 => (some t311)) else (some true)) else (some false)))
def catchmentlaw06_CompactAlike.f (k : Nat) (l0 : List (S33)) (l1 : List (S33)) (a2 : BA) (a3 : BA) : Option (Bool) := (catchmentlaw06_few.f l0).bind fun t297 => ((catchmentlaw06_few.f l1).bind fun t300 => ((compact_Alike.f k t297 t300).bind fun t303 => ((catchmentref06_Alike.f k t297 t300).bind fun t304 => (if (t303 != t304) = true then (catchmentlaw06_CompactAlike.j0 k t297 t300 a2 a3 t303 true) else ((compact_Alike.f k t297 t297).bind fun t305 => (if t305 = true then ((compact_List.f t297).bind fun t306 => ((compact_Alike.f k t297 t306).bind fun t309 => (catchmentlaw06_CompactAlike.j0 k t297 t300 a2 a3 t303 (!t309)))) else (catchmentlaw06_CompactAlike.j0 k t297 t300 a2 a3 t303 true)))))))
set_option maxHeartbeats 8000000 in
set_option maxRecDepth 100000 in
theorem catchmentlaw06_CompactAlike.calls (k : Nat) (A0 : Option Addr) (c0 : Nat) (l0 : List (S33)) (A1 : Option Addr) (c1 : Nat) (l1 : List (S33)) (a2 : BA) (a3 : BA) (r : Bool) (w : World) (hr0 : Kd.C k33 w A0 l0.length l0) (hc0 : l0.length ≤ c0) (hr1 : Kd.C k33 w A1 l1.length l1) (hc1 : l1.length ≤ c1) (h : catchmentlaw06_CompactAlike.f k l0 l1 a2 a3 = some r) :
  Calls Try.prog 5 #[.slice A0 l0.length c0, .slice A1 l1.length c1, .string a2, .string a3] w fun e w' => e = .returned (.bool r) ∧ Below w.heap.size w w' := by
 have HR0 := Aside0.mk hr0
 have HC0 := Aside0.mk hc0
 clear hr0 hc0
 have HR1 := Aside0.mk hr1
 have HC1 := Aside0.mk hc1
 clear hr1 hc1
 have HB := Aside0.mk (Below.refl w.heap.size w)
 have H : ((catchmentlaw06_few.f l0).bind fun t297 => ((catchmentlaw06_few.f l1).bind fun t300 => ((compact_Alike.f k t297 t300).bind fun t303 => ((catchmentref06_Alike.f k t297 t300).bind fun t304 => (if (t303 != t304) = true then (catchmentlaw06_CompactAlike.j0 k t297 t300 a2 a3 t303 true) else ((compact_Alike.f k t297 t297).bind fun t305 => (if t305 = true then ((compact_List.f t297).bind fun t306 => ((compact_Alike.f k t297 t306).bind fun t309 => (catchmentlaw06_CompactAlike.j0 k t297 t300 a2 a3 t303 (!t309)))) else (catchmentlaw06_CompactAlike.j0 k t297 t300 a2 a3 t303 true)))))))) = some r := h
 clear h
 replace H := Option.bind_eq_some_iff.mp H
 obtain ⟨t297, A50, H⟩ := H
 replace H : ((catchmentlaw06_few.f l1).bind fun t300 => ((compact_Alike.f k t297 t300).bind fun t303 => ((catchmentref06_Alike.f k t297 t300).bind fun t304 => (if (t303 != t304) = true then (catchmentlaw06_CompactAlike.j0 k t297 t300 a2 a3 t303 true) else ((compact_Alike.f k t297 t297).bind fun t305 => (if t305 = true then ((compact_List.f t297).bind fun t306 => ((compact_Alike.f k t297 t306).bind fun t309 => (catchmentlaw06_CompactAlike.j0 k t297 t300 a2 a3 t303 (!t309)))) else (catchmentlaw06_CompactAlike.j0 k t297 t300 a2 a3 t303 true))))))) = some r := H
 have A5 := Aside0.mk A50
 clear A50
 replace H := Option.bind_eq_some_iff.mp H
 obtain ⟨t300, A60, H⟩ := H
 replace H : ((compact_Alike.f k t297 t300).bind fun t303 => ((catchmentref06_Alike.f k t297 t300).bind fun t304 => (if (t303 != t304) = true then (catchmentlaw06_CompactAlike.j0 k t297 t300 a2 a3 t303 true) else ((compact_Alike.f k t297 t297).bind fun t305 => (if t305 = true then ((compact_List.f t297).bind fun t306 => ((compact_Alike.f k t297 t306).bind fun t309 => (catchmentlaw06_CompactAlike.j0 k t297 t300 a2 a3 t303 (!t309)))) else (catchmentlaw06_CompactAlike.j0 k t297 t300 a2 a3 t303 true)))))) = some r := H
 have A6 := Aside0.mk A60
 clear A60
 replace H := Option.bind_eq_some_iff.mp H
 obtain ⟨t303, A70, H⟩ := H
 replace H : ((catchmentref06_Alike.f k t297 t300).bind fun t304 => (if (t303 != t304) = true then (catchmentlaw06_CompactAlike.j0 k t297 t300 a2 a3 t303 true) else ((compact_Alike.f k t297 t297).bind fun t305 => (if t305 = true then ((compact_List.f t297).bind fun t306 => ((compact_Alike.f k t297 t306).bind fun t309 => (catchmentlaw06_CompactAlike.j0 k t297 t300 a2 a3 t303 (!t309)))) else (catchmentlaw06_CompactAlike.j0 k t297 t300 a2 a3 t303 true))))) = some r := H
 have A7 := Aside0.mk A70
 clear A70
 have HC8 := Aside0.mk H
 clear H
 go_enter Try.func5, Try.ntmps5
 go_upto_region 3 with (first | ((with_reducible refine gate_callee (f := 12) rfl ?_); refine goesL_ (some 11) rfl rfl Try.func12 (by kernel_rfl) rfl #[.slice A0 l0.length c0] rfl mS_ ?_; (with_reducible refine (catchmentlaw06_few.calls (fun k_ => k_ < w.heap.size) _ _ l0 t297 _ ?side1 A5.out).mono ?_); (case side1 => exact Kd.V_mk HC0.out (Kd.F_below (Kd.C_F k33_heap HR0.out) bW_)); rintro e w9 ⟨v298, rfl, ho0, hb⟩; refine ⟨_, rfl, ?_⟩; have n0_ := Aside0.mk (Kd.V_lower (Kd.V_mono (ok' := fun k_ => True) ho0 (fun k_ hk_ => trivial)) (wZ bW_)); have n1_ := Aside0.mk (wT bW_ hb); clear HB; have HO299 := n0_; have HB := n1_; clear n0_ n1_; (try clear hb); (try clear hb2); (try clear hk); (try clear hi); (try clear ho0)) | ((with_reducible refine gate_callee (f := 12) rfl ?_); refine goesL_ (some 13) rfl rfl Try.func12 (by kernel_rfl) rfl #[.slice A1 l1.length c1] rfl mS_ ?_; (with_reducible refine (catchmentlaw06_few.calls (fun k_ => k_ < w.heap.size) _ _ l1 t300 _ ?side1 A6.out).mono ?_); (case side1 => exact Kd.V_mk HC1.out (Kd.F_below (Kd.C_F k33_heap HR1.out) bW_)); rintro e w10 ⟨v301, rfl, ho0, hb⟩; refine ⟨_, rfl, ?_⟩; have n0_ := Aside0.mk (Kd.V_below (kV_ HO299.out) hb); have n1_ := Aside0.mk (Kd.V_lower (Kd.V_mono (ok' := fun k_ => True) ho0 (fun k_ hk_ => trivial)) (wZ bW_)); have n2_ := Aside0.mk (wT bW_ hb); clear HO299; clear HB; have HO299 := n0_; have HO302 := n1_; have HB := n2_; clear n0_ n1_ n2_; (try clear hb); (try clear hb2); (try clear hk); (try clear hi); (try clear ho0); obtain ⟨Ao11, co11, eo11⟩ := Kd.V_slice HO299.out; subst eo11; obtain ⟨Ao12, co12, eo12⟩ := Kd.V_slice HO302.out; subst eo12) | ((with_reducible refine gate_callee (f := 18) rfl ?_); refine goesL_ (some 16) rfl rfl Try.func18 (by kernel_rfl) rfl #[.slice Ao11 t297.length co11, .slice Ao12 t300.length co12] rfl mS_ ?_; (with_reducible refine (compact_Alike.calls k _ _ t297 _ _ t300 t303 _ ?side1 ?side2 ?side3 ?side4 A7.out).mono ?_); (case side1 => repeat (first | exact (Kd.V_reads' HO299.out).2.2 | (with_reducible refine Kd.C_alloc ?_ _) | (with_reducible refine Kd.C_drewN ?_ _) | (with_reducible refine Kd.C_drew ?_))); (case side2 => exact (Kd.V_reads' HO299.out).2.1); (case side3 => repeat (first | exact (Kd.V_reads' HO302.out).2.2 | (with_reducible refine Kd.C_alloc ?_ _) | (with_reducible refine Kd.C_drewN ?_ _) | (with_reducible refine Kd.C_drew ?_))); (case side4 => exact (Kd.V_reads' HO302.out).2.1); rintro e w13 ⟨rfl, hb⟩; refine ⟨_, rfl, ?_⟩; have n0_ := Aside0.mk (Kd.V_below (kV_ HO299.out) hb); have n1_ := Aside0.mk (Kd.V_below (kV_ HO302.out) hb); have n2_ := Aside0.mk (wT bW_ hb); clear HO299; clear HO302; clear HB; have HO299 := n0_; have HO302 := n1_; have HB := n2_; clear n0_ n1_ n2_; (try clear hb); (try clear hb2); (try clear hk); (try clear hi)))
 (try simp only [Act.put, sA1, sA2, sA3])
 go_cut [34] (fun v34 wc => ∃ (kq : Nat) (x34_7 : Bool), v34 = .bool x34_7 ∧ Aside0 (catchmentlaw06_CompactAlike.j0 kq t297 t300 a2 a3 t303 x34_7 = some r) ∧ Aside0 (kq ≤ k) ∧ Aside0 (Kd.V k33 33 wc w.heap.size (fun _ => True) (.slice Ao11 t297.length co11) t297) ∧ Aside0 (Kd.V k33 33 wc w.heap.size (fun _ => True) (.slice Ao12 t300.length co12) t300) ∧ Aside0 (Below w.heap.size w wc))
 case first =>
  have H := HC8.out
  clear HC8
  replace H := Option.bind_eq_some_iff.mp H
  obtain ⟨t304, A140, H⟩ := H
  replace H : (if (t303 != t304) = true then (catchmentlaw06_CompactAlike.j0 k t297 t300 a2 a3 t303 true) else ((compact_Alike.f k t297 t297).bind fun t305 => (if t305 = true then ((compact_List.f t297).bind fun t306 => ((compact_Alike.f k t297 t306).bind fun t309 => (catchmentlaw06_CompactAlike.j0 k t297 t300 a2 a3 t303 (!t309)))) else (catchmentlaw06_CompactAlike.j0 k t297 t300 a2 a3 t303 true)))) = some r := H
  have A14 := Aside0.mk A140
  clear A140
  by_cases c15 : (t303 != t304) = true
  ·rw [if_pos c15] at H
   have c15b0 : (t303 != t304) = true := c15
   (try (have c15b1 : decide (t303 = t304) = false := by simpa using c15))
   (try (have c15b2 : (t303 == t304) = false := by simpa using c15))
   (try (have c15b3 : ¬ (t303 = t304) := by simpa using c15))
   clear c15
   (first | rw [c15b0] | (simp only [i64_w, i32_w]; rw [c15b0]) | skip)
   have H' := Aside0.mk H
   clear H
   go_wp2_with (first | ((with_reducible refine gate_callee (f := 19) rfl ?_); refine goesL_ (some 20) rfl rfl Try.func19 (by kernel_rfl) rfl #[.slice Ao11 t297.length co11, .slice Ao12 t300.length co12] rfl mS_ ?_; (with_reducible refine (catchmentref06_Alike.calls k _ _ t297 _ _ t300 t304 _ ?side1 ?side2 ?side3 ?side4 A14.out).mono ?_); (case side1 => repeat (first | exact (Kd.V_reads' HO299.out).2.2 | (with_reducible refine Kd.C_alloc ?_ _) | (with_reducible refine Kd.C_drewN ?_ _) | (with_reducible refine Kd.C_drew ?_))); (case side2 => exact (Kd.V_reads' HO299.out).2.1); (case side3 => repeat (first | exact (Kd.V_reads' HO302.out).2.2 | (with_reducible refine Kd.C_alloc ?_ _) | (with_reducible refine Kd.C_drewN ?_ _) | (with_reducible refine Kd.C_drew ?_))); (case side4 => exact (Kd.V_reads' HO302.out).2.1); rintro e w16 ⟨rfl, hb⟩; refine ⟨_, rfl, ?_⟩; have n0_ := Aside0.mk (Kd.V_below (kV_ HO299.out) hb); have n1_ := Aside0.mk (Kd.V_below (kV_ HO302.out) hb); have n2_ := Aside0.mk (wT bW_ hb); clear HO299; clear HO302; clear HB; have HO299 := n0_; have HO302 := n1_; have HB := n2_; clear n0_ n1_ n2_; (try clear hb); (try clear hb2); (try clear hk); (try clear hi)))
   go_meet
   case rel => exact ⟨_, (true), (by first | rfl | (simp; done) | (simp [*]; done)), H', ⟨by first | omega | exact Nat.le_refl _⟩, ⟨by (with_reducible repeat (first | apply Kd.V_alloc | apply Kd.V_drewN | apply Kd.V_drew)); exact HO299.out⟩, ⟨by (with_reducible repeat (first | apply Kd.V_alloc | apply Kd.V_drewN | apply Kd.V_drew)); exact HO302.out⟩, ⟨by repeat (first | (with_reducible first | exact HB.out | apply wA | apply wN | apply w1) | exact HB.out)⟩⟩
  ·rw [if_neg c15] at H
   have c15b0 : (t303 != t304) = false := by simpa using c15
   (try (have c15b1 : decide (t303 = t304) = true := by simpa using c15))
   (try (have c15b2 : (t303 == t304) = true := by simpa using c15))
   clear c15
   (first | rw [c15b0] | (simp only [i64_w, i32_w]; rw [c15b0]) | skip)
   replace H := Option.bind_eq_some_iff.mp H
   obtain ⟨t305, A170, H⟩ := H
   replace H : (if t305 = true then ((compact_List.f t297).bind fun t306 => ((compact_Alike.f k t297 t306).bind fun t309 => (catchmentlaw06_CompactAlike.j0 k t297 t300 a2 a3 t303 (!t309)))) else (catchmentlaw06_CompactAlike.j0 k t297 t300 a2 a3 t303 true)) = some r := H
   have A17 := Aside0.mk A170
   clear A170
   by_cases c18 : t305 = true
   ·subst c18
    have H1 : ((compact_List.f t297).bind fun t306 => ((compact_Alike.f k t297 t306).bind fun t309 => (catchmentlaw06_CompactAlike.j0 k t297 t300 a2 a3 t303 (!t309)))) = some r := by rw [if_pos rfl] at H; exact H
    clear H
    have H := H1
    clear H1
    replace H := Option.bind_eq_some_iff.mp H
    obtain ⟨t306, A190, H⟩ := H
    replace H : ((compact_Alike.f k t297 t306).bind fun t309 => (catchmentlaw06_CompactAlike.j0 k t297 t300 a2 a3 t303 (!t309))) = some r := H
    have A19 := Aside0.mk A190
    clear A190
    replace H := Option.bind_eq_some_iff.mp H
    obtain ⟨t309, A200, H⟩ := H
    replace H : (catchmentlaw06_CompactAlike.j0 k t297 t300 a2 a3 t303 (!t309)) = some r := H
    have A20 := Aside0.mk A200
    clear A200
    have H' := Aside0.mk H
    clear H
    go_wp2_with (first | ((with_reducible refine gate_callee (f := 19) rfl ?_); refine goesL_ (some 20) rfl rfl Try.func19 (by kernel_rfl) rfl #[.slice Ao11 t297.length co11, .slice Ao12 t300.length co12] rfl mS_ ?_; (with_reducible refine (catchmentref06_Alike.calls k _ _ t297 _ _ t300 t304 _ ?side1 ?side2 ?side3 ?side4 A14.out).mono ?_); (case side1 => repeat (first | exact (Kd.V_reads' HO299.out).2.2 | (with_reducible refine Kd.C_alloc ?_ _) | (with_reducible refine Kd.C_drewN ?_ _) | (with_reducible refine Kd.C_drew ?_))); (case side2 => exact (Kd.V_reads' HO299.out).2.1); (case side3 => repeat (first | exact (Kd.V_reads' HO302.out).2.2 | (with_reducible refine Kd.C_alloc ?_ _) | (with_reducible refine Kd.C_drewN ?_ _) | (with_reducible refine Kd.C_drew ?_))); (case side4 => exact (Kd.V_reads' HO302.out).2.1); rintro e w21 ⟨rfl, hb⟩; refine ⟨_, rfl, ?_⟩; have n0_ := Aside0.mk (Kd.V_below (kV_ HO299.out) hb); have n1_ := Aside0.mk (Kd.V_below (kV_ HO302.out) hb); have n2_ := Aside0.mk (wT bW_ hb); clear HO299; clear HO302; clear HB; have HO299 := n0_; have HO302 := n1_; have HB := n2_; clear n0_ n1_ n2_; (try clear hb); (try clear hb2); (try clear hk); (try clear hi)) | (go_at_call 18; (with_reducible refine (compact_Alike.calls k _ _ t297 _ _ t297 true _ ?side1 ?side2 ?side3 ?side4 A17.out).mono ?_); (case side1 => repeat (first | exact (Kd.V_reads' HO299.out).2.2 | (with_reducible refine Kd.C_alloc ?_ _) | (with_reducible refine Kd.C_drewN ?_ _) | (with_reducible refine Kd.C_drew ?_))); (case side2 => exact (Kd.V_reads' HO299.out).2.1); (case side3 => repeat (first | exact (Kd.V_reads' HO299.out).2.2 | (with_reducible refine Kd.C_alloc ?_ _) | (with_reducible refine Kd.C_drewN ?_ _) | (with_reducible refine Kd.C_drew ?_))); (case side4 => exact (Kd.V_reads' HO299.out).2.1); rintro e w22 ⟨rfl, hb⟩; have n0_ := Aside0.mk (Kd.V_below (kV_ HO299.out) hb); have n1_ := Aside0.mk (Kd.V_below (kV_ HO302.out) hb); have n2_ := Aside0.mk (wT bW_ hb); clear HO299; clear HO302; clear HB; have HO299 := n0_; have HO302 := n1_; have HB := n2_; clear n0_ n1_ n2_; (try clear hb); (try clear hb2); (try clear hk); (try clear hi)) | (go_at_call 14; (with_reducible refine (compact_List.calls _ _ t297 t306 _ ?side1 ?side2 A19.out).mono ?_); (case side1 => repeat (first | exact (Kd.V_reads' HO299.out).2.2 | (with_reducible refine Kd.C_alloc ?_ _) | (with_reducible refine Kd.C_drewN ?_ _) | (with_reducible refine Kd.C_drew ?_))); (case side2 => exact (Kd.V_reads' HO299.out).2.1); rintro e w23 ⟨v307, rfl, ho0, hb⟩; have n0_ := Aside0.mk (Kd.V_elder' (kV_ HO299.out) (Kd.R_base ho0) hb); have n1_ := Aside0.mk (Kd.V_elder' (kV_ HO302.out) (Kd.R_base ho0) hb); have n2_ := Aside0.mk (Kd.R_lower ho0 (wZ bW_)); have n3_ := Aside0.mk (wT bW_ hb); clear HO299; clear HO302; clear HB; have HO299 := n0_; have HO302 := n1_; have HO308 := n2_; have HB := n3_; clear n0_ n1_ n2_ n3_; (try clear hb); (try clear hb2); (try clear hk); (try clear hi); (try clear ho0); obtain ⟨Ao24, co24, eo24⟩ := Kd.R_slice HO308.out; subst eo24) | (go_at_call 18; (with_reducible refine (compact_Alike.calls k _ _ t297 _ _ t306 t309 _ ?side1 ?side2 ?side3 ?side4 A20.out).mono ?_); (case side1 => repeat (first | exact (Kd.V_reads' HO299.out).2.2 | (with_reducible refine Kd.C_alloc ?_ _) | (with_reducible refine Kd.C_drewN ?_ _) | (with_reducible refine Kd.C_drew ?_))); (case side2 => exact (Kd.V_reads' HO299.out).2.1); (case side3 => repeat (first | exact (Kd.R_reads' HO308.out).2.2 | (with_reducible refine Kd.C_alloc ?_ _) | (with_reducible refine Kd.C_drewN ?_ _) | (with_reducible refine Kd.C_drew ?_))); (case side4 => exact (Kd.R_reads' HO308.out).2.1); rintro e w25 ⟨rfl, hb⟩; have n0_ := Aside0.mk (Kd.V_below (kV_ HO299.out) hb); have n1_ := Aside0.mk (Kd.V_below (kV_ HO302.out) hb); have n2_ := Aside0.mk (Kd.R_below (kR_ HO308.out) hb); have n3_ := Aside0.mk (wT bW_ hb); clear HO299; clear HO302; clear HO308; clear HB; have HO299 := n0_; have HO302 := n1_; have HO308 := n2_; have HB := n3_; clear n0_ n1_ n2_ n3_; (try clear hb); (try clear hb2); (try clear hk); (try clear hi)))
    go_meet
    case rel => exact ⟨_, (!t309), (by first | rfl | (simp; done) | (simp [*]; done)), H', ⟨by first | omega | exact Nat.le_refl _⟩, ⟨by (with_reducible repeat (first | apply Kd.V_alloc | apply Kd.V_drewN | apply Kd.V_drew)); exact Kd.V_mono HO299.out (fun _ hk => trivial)⟩, ⟨by (with_reducible repeat (first | apply Kd.V_alloc | apply Kd.V_drewN | apply Kd.V_drew)); exact Kd.V_mono HO302.out (fun _ hk => trivial)⟩, ⟨by repeat (first | (with_reducible first | exact HB.out | apply wA | apply wN | apply w1) | exact HB.out)⟩⟩
   ·replace c18 := Bool.eq_false_iff.mpr c18
    subst c18
    have H1 : (catchmentlaw06_CompactAlike.j0 k t297 t300 a2 a3 t303 true) = some r := by rw [if_neg (show ¬ (false = true) by decide)] at H; exact H
    clear H
    have H := H1
    clear H1
    have H' := Aside0.mk H
    clear H
    go_wp2_with (first | ((with_reducible refine gate_callee (f := 19) rfl ?_); refine goesL_ (some 20) rfl rfl Try.func19 (by kernel_rfl) rfl #[.slice Ao11 t297.length co11, .slice Ao12 t300.length co12] rfl mS_ ?_; (with_reducible refine (catchmentref06_Alike.calls k _ _ t297 _ _ t300 t304 _ ?side1 ?side2 ?side3 ?side4 A14.out).mono ?_); (case side1 => repeat (first | exact (Kd.V_reads' HO299.out).2.2 | (with_reducible refine Kd.C_alloc ?_ _) | (with_reducible refine Kd.C_drewN ?_ _) | (with_reducible refine Kd.C_drew ?_))); (case side2 => exact (Kd.V_reads' HO299.out).2.1); (case side3 => repeat (first | exact (Kd.V_reads' HO302.out).2.2 | (with_reducible refine Kd.C_alloc ?_ _) | (with_reducible refine Kd.C_drewN ?_ _) | (with_reducible refine Kd.C_drew ?_))); (case side4 => exact (Kd.V_reads' HO302.out).2.1); rintro e w26 ⟨rfl, hb⟩; refine ⟨_, rfl, ?_⟩; have n0_ := Aside0.mk (Kd.V_below (kV_ HO299.out) hb); have n1_ := Aside0.mk (Kd.V_below (kV_ HO302.out) hb); have n2_ := Aside0.mk (wT bW_ hb); clear HO299; clear HO302; clear HB; have HO299 := n0_; have HO302 := n1_; have HB := n2_; clear n0_ n1_ n2_; (try clear hb); (try clear hb2); (try clear hk); (try clear hi)) | (go_at_call 18; (with_reducible refine (compact_Alike.calls k _ _ t297 _ _ t297 false _ ?side1 ?side2 ?side3 ?side4 A17.out).mono ?_); (case side1 => repeat (first | exact (Kd.V_reads' HO299.out).2.2 | (with_reducible refine Kd.C_alloc ?_ _) | (with_reducible refine Kd.C_drewN ?_ _) | (with_reducible refine Kd.C_drew ?_))); (case side2 => exact (Kd.V_reads' HO299.out).2.1); (case side3 => repeat (first | exact (Kd.V_reads' HO299.out).2.2 | (with_reducible refine Kd.C_alloc ?_ _) | (with_reducible refine Kd.C_drewN ?_ _) | (with_reducible refine Kd.C_drew ?_))); (case side4 => exact (Kd.V_reads' HO299.out).2.1); rintro e w27 ⟨rfl, hb⟩; have n0_ := Aside0.mk (Kd.V_below (kV_ HO299.out) hb); have n1_ := Aside0.mk (Kd.V_below (kV_ HO302.out) hb); have n2_ := Aside0.mk (wT bW_ hb); clear HO299; clear HO302; clear HB; have HO299 := n0_; have HO302 := n1_; have HB := n2_; clear n0_ n1_ n2_; (try clear hb); (try clear hb2); (try clear hk); (try clear hi)))
    go_meet
    case rel => exact ⟨_, (true), (by first | rfl | (simp; done) | (simp [*]; done)), H', ⟨by first | omega | exact Nat.le_refl _⟩, ⟨by (with_reducible repeat (first | apply Kd.V_alloc | apply Kd.V_drewN | apply Kd.V_drew)); exact HO299.out⟩, ⟨by (with_reducible repeat (first | apply Kd.V_alloc | apply Kd.V_drewN | apply Kd.V_drew)); exact HO302.out⟩, ⟨by repeat (first | (with_reducible first | exact HB.out | apply wA | apply wN | apply w1) | exact HB.out)⟩⟩
 case rest =>
  clear HC8
  try clear c1
  try clear p2
  try clear c5
  try clear c12
  try clear c15
  try clear c15b0
  try clear c15b1
  try clear c15b2
  try clear c18
  try clear c19
  obtain ⟨kq, x34_7, rfl, HA, HJ7, HO_0, HO_1, HB⟩ := hcut
  cases kq with
  | zero => exact absurd HA.out (by simp [catchmentlaw06_CompactAlike.j0])
  | succ kj7 =>
   have H := HA.out
   clear HA
   simp only [catchmentlaw06_CompactAlike.j0] at H
   by_cases c28 : x34_7 = true
   ·subst c28
    have H1 : (some false) = some r := by rw [if_pos rfl] at H; exact H
    clear H
    have H := H1
    clear H1
    obtain rfl := Option.some.inj H
    go_wp2
    go_ret
    exact ⟨by first | rfl | (simp [errW_none, errW_some] <;> rfl) | (simp [*, errW_none, errW_some] <;> rfl), by repeat (first | (with_reducible first | exact HB.out | apply wA | apply wN | apply w1) | exact HB.out)⟩
   ·replace c28 := Bool.eq_false_iff.mpr c28
    subst c28
    have H1 : ((catchmentlaw06_live.f kj7).bind fun t310 => (if t310 = true then (if t303 = true then ((catchmentref06_AlikeAt.f kj7 t297 t300 a2 a3).bind fun t311 => (some t311)) else (some true)) else (some false))) = some r := by rw [if_neg (show ¬ (false = true) by decide)] at H; exact H
    clear H
    have H := H1
    clear H1
    replace H := Option.bind_eq_some_iff.mp H
    obtain ⟨t310, A290, H⟩ := H
    replace H : (if t310 = true then (if t303 = true then ((catchmentref06_AlikeAt.f kj7 t297 t300 a2 a3).bind fun t311 => (some t311)) else (some true)) else (some false)) = some r := H
    have A29 := Aside0.mk A290
    clear A290
    by_cases c30 : t310 = true
    ·subst c30
     have H1 : (if t303 = true then ((catchmentref06_AlikeAt.f kj7 t297 t300 a2 a3).bind fun t311 => (some t311)) else (some true)) = some r := by rw [if_pos rfl] at H; exact H
     clear H
     have H := H1
     clear H1
     by_cases c31 : t303 = true
     ·subst c31
      have H1 : ((catchmentref06_AlikeAt.f kj7 t297 t300 a2 a3).bind fun t311 => (some t311)) = some r := by rw [if_pos rfl] at H; exact H
      clear H
      have H := H1
      clear H1
      replace H := Option.bind_eq_some_iff.mp H
      obtain ⟨t311, A320, H⟩ := H
      replace H : (some t311) = some r := H
      have A32 := Aside0.mk A320
      clear A320
      obtain rfl := Option.some.inj H
      go_wp2_with (first | ((with_reducible refine gate_callee (f := 15) rfl ?_); refine goesL_ (some 35) rfl rfl Try.func15 (by kernel_rfl) rfl #[] rfl mS_ ?_; (with_reducible refine (catchmentlaw06_live.calls kj7  true _ A29.out).mono ?_); rintro e w33 ⟨rfl, hb⟩; refine ⟨_, rfl, ?_⟩; have n0_ := Aside0.mk (Kd.V_below (kV_ HO_0.out) hb); have n1_ := Aside0.mk (Kd.V_below (kV_ HO_1.out) hb); have n2_ := Aside0.mk (wT bW_ hb); clear HO_0; clear HO_1; clear HB; have HO_0 := n0_; have HO_1 := n1_; have HB := n2_; clear n0_ n1_ n2_; (try clear hb); (try clear hb2); (try clear hk); (try clear hi)) | (go_at_call 20; (with_reducible refine (catchmentref06_AlikeAt.calls kj7 _ _ t297 _ _ t300 a2 a3 t311 _ ?side1 ?side2 ?side3 ?side4 A32.out).mono ?_); (case side1 => repeat (first | exact (Kd.V_reads' HO_0.out).2.2 | (with_reducible refine Kd.C_alloc ?_ _) | (with_reducible refine Kd.C_drewN ?_ _) | (with_reducible refine Kd.C_drew ?_))); (case side2 => exact (Kd.V_reads' HO_0.out).2.1); (case side3 => repeat (first | exact (Kd.V_reads' HO_1.out).2.2 | (with_reducible refine Kd.C_alloc ?_ _) | (with_reducible refine Kd.C_drewN ?_ _) | (with_reducible refine Kd.C_drew ?_))); (case side4 => exact (Kd.V_reads' HO_1.out).2.1); rintro e w34 ⟨rfl, hb⟩; have n0_ := Aside0.mk (Kd.V_below (kV_ HO_0.out) hb); have n1_ := Aside0.mk (Kd.V_below (kV_ HO_1.out) hb); have n2_ := Aside0.mk (wT bW_ hb); clear HO_0; clear HO_1; clear HB; have HO_0 := n0_; have HO_1 := n1_; have HB := n2_; clear n0_ n1_ n2_; (try clear hb); (try clear hb2); (try clear hk); (try clear hi)))
      go_ret
      exact ⟨by first | rfl | (simp [errW_none, errW_some] <;> rfl) | (simp [*, errW_none, errW_some] <;> rfl), by repeat (first | (with_reducible first | exact HB.out | apply wA | apply wN | apply w1) | exact HB.out)⟩
     ·replace c31 := Bool.eq_false_iff.mpr c31
      subst c31
      have H1 : (some true) = some r := by rw [if_neg (show ¬ (false = true) by decide)] at H; exact H
      clear H
      have H := H1
      clear H1
      obtain rfl := Option.some.inj H
      go_wp2_with (first | ((with_reducible refine gate_callee (f := 15) rfl ?_); refine goesL_ (some 35) rfl rfl Try.func15 (by kernel_rfl) rfl #[] rfl mS_ ?_; (with_reducible refine (catchmentlaw06_live.calls kj7  true _ A29.out).mono ?_); rintro e w35 ⟨rfl, hb⟩; refine ⟨_, rfl, ?_⟩; have n0_ := Aside0.mk (Kd.V_below (kV_ HO_0.out) hb); have n1_ := Aside0.mk (Kd.V_below (kV_ HO_1.out) hb); have n2_ := Aside0.mk (wT bW_ hb); clear HO_0; clear HO_1; clear HB; have HO_0 := n0_; have HO_1 := n1_; have HB := n2_; clear n0_ n1_ n2_; (try clear hb); (try clear hb2); (try clear hk); (try clear hi)))
      go_ret
      exact ⟨by first | rfl | (simp [errW_none, errW_some] <;> rfl) | (simp [*, errW_none, errW_some] <;> rfl), by repeat (first | (with_reducible first | exact HB.out | apply wA | apply wN | apply w1) | exact HB.out)⟩
    ·replace c30 := Bool.eq_false_iff.mpr c30
     subst c30
     have H1 : (some false) = some r := by rw [if_neg (show ¬ (false = true) by decide)] at H; exact H
     clear H
     have H := H1
     clear H1
     obtain rfl := Option.some.inj H
     go_wp2_with (first | ((with_reducible refine gate_callee (f := 15) rfl ?_); refine goesL_ (some 35) rfl rfl Try.func15 (by kernel_rfl) rfl #[] rfl mS_ ?_; (with_reducible refine (catchmentlaw06_live.calls kj7  false _ A29.out).mono ?_); rintro e w36 ⟨rfl, hb⟩; refine ⟨_, rfl, ?_⟩; have n0_ := Aside0.mk (Kd.V_below (kV_ HO_0.out) hb); have n1_ := Aside0.mk (Kd.V_below (kV_ HO_1.out) hb); have n2_ := Aside0.mk (wT bW_ hb); clear HO_0; clear HO_1; clear HB; have HO_0 := n0_; have HO_1 := n1_; have HB := n2_; clear n0_ n1_ n2_; (try clear hb); (try clear hb2); (try clear hk); (try clear hi)))
     go_ret
     exact ⟨by first | rfl | (simp [errW_none, errW_some] <;> rfl) | (simp [*, errW_none, errW_some] <;> rfl), by repeat (first | (with_reducible first | exact HB.out | apply wA | apply wN | apply w1) | exact HB.out)⟩
end Go.Proofs.Ytidaiafmhidooaa.P
end
