/- Texts of one claim (laid by shake.py). -/
import Derived.Test.YtebejadiaooooaaZs4
import Derived.Test.YtebejadiaooooaaZs11
import Derived.Test.YtebejadiaooooaaZs31
import Derived.Test.YtebejadiaooooaaZs32
set_option linter.unusedVariables false
set_option linter.unusedSimpArgs false
section
namespace Go.Proofs.Ytebejadiaooooaa.P
open Go.RowKit Go.Proofs.YtebejadiaooooaaW.PrintWords Go.Proofs.YtebejadiaooooaaW.PrintLast Go.Proofs.YtebejadiaooooaaW.PrintMore Go.Proofs.Ytebejadiaooooaa.Own
open Go.Proofs.YtebejadiaooooaaW.PrintWords renaming pw_below_drewN → wN, below_drew1 → w1, below_alloc → wA, below_step → wT, below_size → wZ
open List renaming setIfInBounds_toArray → sA1, set_cons_zero → sA2, set_cons_succ → sA3, map_toArray → mA1, map_cons → mA2, map_nil → mA3, length_take → mA4, length_drop → mA5
attribute [local go_sem] max2_str max2_int min2_int max_two min_two max_three min_three max_four min_four   -- for this text's walks alone
mutual
def compact_Alike.l0 : Nat → List (S32) → List (S32) → List ByteArray → List ByteArray → Int → Int → Option (Bool)
 | 0, _, _, _, _, _, _ => none
 | k + 1, x0, x1, x6, x21, x22, x23 => if x23 < x22 then (if 0 ≤ x23 then (if x23 < (x21.length : Int) then ((fold_Value.f k x0 (rdOf ByteArray.empty x21 x23) (⟨#[]⟩ : BA) false).bind fun bt812 => ((fold_Value.f k x1 (rdOf ByteArray.empty x21 x23) (⟨#[]⟩ : BA) false).bind fun bt814 => (if bt812.1.toList = bt814.1.toList then (compact_Alike.j1 k x0 x1 x6 (rdOf ByteArray.empty x21 x23) x21 x22 x23 (bt812.2 != bt814.2)) else (compact_Alike.j1 k x0 x1 x6 (rdOf ByteArray.empty x21 x23) x21 x22 x23 true)))) else (none)) else (none)) else (some true)
def compact_Alike.j1 : Nat → List (S32) → List (S32) → List ByteArray → ByteArray → List ByteArray → Int → Int → Bool → Option (Bool)
 | 0, _, _, _, _, _, _, _, _ => none
 | k + 1, x0, x1, x6, x8, x21, x22, x23, x46 => if x46 = true then (some false) else (compact_Alike.l1 k x0 x1 x6 x8 x21 x22 x23 x6 (x6.length : Int) 0)
def compact_Alike.l1 : Nat → List (S32) → List (S32) → List ByteArray → ByteArray → List ByteArray → Int → Int → List ByteArray → Int → Int → Option (Bool)
 | 0, _, _, _, _, _, _, _, _, _, _ => none
 | k + 1, x0, x1, x6, x8, x21, x22, x23, x47, x48, x49 => if x49 < x48 then (if 0 ≤ x49 then (if x49 < (x47.length : Int) then ((fold_Value.f k x0 x8 (rdOf ByteArray.empty x47 x49) true).bind fun bt817 => ((fold_Value.f k x1 x8 (rdOf ByteArray.empty x47 x49) true).bind fun bt819 => (if bt817.1.toList = bt819.1.toList then (if (bt817.2 != bt819.2) = true then (some false) else (compact_Alike.l1 k x0 x1 x6 x8 x21 x22 x23 x47 x48 (wrap64 (x49 + 1)))) else (some false)))) else (none)) else (none)) else (compact_Alike.l0 k x0 x1 x6 x21 x22 (wrap64 (x23 + 1)))
end
def compact_Alike.f (k : Nat) (l0 : List (S32)) (l1 : List (S32)) : Option (Bool) := (compact_marks.f l0 l1).bind fun bt805 => (compact_Alike.l0 k l0 l1 bt805.2 bt805.1 (bt805.1.length : Int) 0)
set_option maxHeartbeats 8000000 in
set_option maxRecDepth 100000 in
theorem compact_Alike.calls (k : Nat) (A0 : Option Addr) (c0 : Nat) (l0 : List (S32)) (A1 : Option Addr) (c1 : Nat) (l1 : List (S32)) (r : Bool) (w : World) (hr0 : Kd.C k32 w A0 l0.length l0) (hc0 : l0.length ≤ c0) (hr1 : Kd.C k32 w A1 l1.length l1) (hc1 : l1.length ≤ c1) (h : compact_Alike.f k l0 l1 = some r) :
  Calls Try.prog 83 #[.slice A0 l0.length c0, .slice A1 l1.length c1] w fun e w' => e = .returned (.bool r) ∧ Below w.heap.size w w' := by
 have HR0 := Aside0.mk hr0
 have HC0 := Aside0.mk hc0
 clear hr0 hc0
 have HR1 := Aside0.mk hr1
 have HC1 := Aside0.mk hc1
 clear hr1 hc1
 have HB := Aside0.mk (Below.refl w.heap.size w)
 have H : ((compact_marks.f l0 l1).bind fun bt805 => (compact_Alike.l0 k l0 l1 bt805.2 bt805.1 (bt805.1.length : Int) 0)) = some r := h
 clear h
 replace H := Option.bind_eq_some_iff.mp H
 obtain ⟨⟨t805, t806⟩, A30, H⟩ := H
 replace H : (compact_Alike.l0 k l0 l1 t806 t805 (t805.length : Int) 0) = some r := H
 have A3 := Aside0.mk A30
 clear A30
 have H' := Aside0.mk H
 clear H
 go_enter Try.func83, Try.ntmps83
 go_wp2_with (first | ((with_reducible refine gate_callee (f := 112) rfl ?_); refine goesL_ (some 18) rfl rfl Try.func112 (by kernel_rfl) rfl #[.slice A0 l0.length c0, .slice A1 l1.length c1] rfl mS_ ?_; (with_reducible refine (compact_marks.calls _ _ l0 _ _ l1 t805 t806 _ ?side1 ?side2 ?side3 ?side4 A3.out).mono ?_); (case side1 => repeat (first | exact HR0.out | (with_reducible refine Kd.C_alloc ?_ _) | (with_reducible refine Kd.C_drewN ?_ _) | (with_reducible refine Kd.C_drew ?_))); (case side2 => exact HC0.out); (case side3 => repeat (first | exact HR1.out | (with_reducible refine Kd.C_alloc ?_ _) | (with_reducible refine Kd.C_drewN ?_ _) | (with_reducible refine Kd.C_drew ?_))); (case side4 => exact HC1.out); rintro e w4 ⟨v807, v809, rfl, ho0, ho1, hb⟩; refine ⟨_, rfl, ?_⟩; have n0_ := Aside0.mk (Kd.R_lower ho0 (wZ bW_)); have n1_ := Aside0.mk (Kd.R_lower ho1 (wZ bW_)); have n2_ := Aside0.mk (wT bW_ hb); clear HB; have HO808 := n0_; have HO810 := n1_; have HB := n2_; clear n0_ n1_ n2_; (try clear hb); (try clear hb2); (try clear hk); (try clear hi); (try clear ho0); (try clear ho1); obtain ⟨Ao5, co5, eo5⟩ := Kd.R_slice HO808.out; subst eo5))
 go_loopg [23] k (fun kq v23 w' => ∃ (x23_1 : Int), v23 = .int .i64 x23_1 ∧ Aside0 (compact_Alike.l0 kq l0 l1 t806 t805 (t805.length : Int) x23_1 = some r) ∧ Aside0 (kq ≤ k) ∧ Aside0 (Kd.R Kd.string 9 w' w.heap.size (fun k_ => some k_ ≠ ((.slice Ao5 t805.length co5) : Value).ownBlock) v809 t806) ∧ Aside0 (Kd.R Kd.string 9 w' w.heap.size (fun k_ => some k_ ≠ (v809 : Value).ownBlock) (.slice Ao5 t805.length co5) t805) ∧ Aside0 (Below w.heap.size w w'))
 case atStart => exact ⟨(0), (by first | rfl | (simp; done) | (simp [*]; done)), H', ⟨Nat.le_refl _⟩, ⟨by (with_reducible repeat (first | apply Kd.R_alloc | apply Kd.R_drewN | apply Kd.R_drew)); exact HO810.out⟩, ⟨by (with_reducible repeat (first | apply Kd.R_alloc | apply Kd.R_drewN | apply Kd.R_drew)); exact HO808.out⟩, ⟨by repeat (first | (with_reducible first | exact HB.out | apply wA | apply wN | apply w1) | exact HB.out)⟩⟩
 case round =>
  clear H'
  try clear c1
  try clear p2
  obtain ⟨x23_1, rfl, HA, HK1, HO_6, HO_21, HB⟩ := hrel
  cases gk with
  | zero => exact absurd HA.out (by simp [compact_Alike.l0])
  | succ k1 =>
   have H := HA.out
   clear HA
   simp only [compact_Alike.l0] at H
   by_cases c6 : x23_1 < (t805.length : Int)
   ·rw [if_pos c6] at H
    have c6b0 : decide (x23_1 < (t805.length : Int)) = true := decide_eq_true c6
    clear c6
    by_cases c7 : 0 ≤ x23_1
    ·rw [if_pos c7] at H
     have c7b0 : decide (0 ≤ x23_1) = true := decide_eq_true c7
     clear c7
     by_cases c8 : x23_1 < (t805.length : Int)
     ·rw [if_pos c8] at H
      have c8b0 : decide (x23_1 < (t805.length : Int)) = true := decide_eq_true c8
      clear c8
      replace H := Option.bind_eq_some_iff.mp H
      obtain ⟨⟨t812, t813⟩, A90, H⟩ := H
      replace H : ((fold_Value.f k1 l1 (rdOf ByteArray.empty t805 x23_1) (⟨#[]⟩ : BA) false).bind fun bt814 => (if t812.toList = bt814.1.toList then (compact_Alike.j1 k1 l0 l1 t806 (rdOf ByteArray.empty t805 x23_1) t805 (t805.length : Int) x23_1 (t813 != bt814.2)) else (compact_Alike.j1 k1 l0 l1 t806 (rdOf ByteArray.empty t805 x23_1) t805 (t805.length : Int) x23_1 true))) = some r := H
      have A9 := Aside0.mk A90
      clear A90
      replace H := Option.bind_eq_some_iff.mp H
      obtain ⟨⟨t814, t815⟩, A100, H⟩ := H
      replace H : (if t812.toList = t814.toList then (compact_Alike.j1 k1 l0 l1 t806 (rdOf ByteArray.empty t805 x23_1) t805 (t805.length : Int) x23_1 (t813 != t815)) else (compact_Alike.j1 k1 l0 l1 t806 (rdOf ByteArray.empty t805 x23_1) t805 (t805.length : Int) x23_1 true)) = some r := H
      have A10 := Aside0.mk A100
      clear A100
      have HC11 := Aside0.mk H
      clear H
      have p811 : 0 ≤ (x23_1 : Int) := of_decide_eq_true (by first | (with_reducible assumption) | assumption)
      have q811 : x23_1 < (t805.length : Int) := of_decide_eq_true (by first | (with_reducible assumption) | assumption)
      obtain ⟨ad811, e811, hx811_0⟩ := Kd.at_string (Kd.R_reads' HO_21.out).2.2 x23_1 p811 q811
      cases e811
      replace p811 := eq_true p811
      replace q811 := eq_true q811
      go_upto_region 7 with (first | ((with_reducible refine gate_callee (f := 34) rfl ?_); refine goesL_ (some 30) rfl rfl Try.func34 (by kernel_rfl) rfl #[.slice A0 l0.length c0, .string (rdOf ByteArray.empty t805 x23_1), .string (⟨#[]⟩ : BA), .bool false] rfl mS_ ?_; (with_reducible refine (fold_Value.calls k1 _ _ l0 (rdOf ByteArray.empty t805 x23_1) (⟨#[]⟩ : BA) false t812 t813 _ ?side1 ?side2 A9.out).mono ?_); (case side1 => repeat (first | exact (Kd.C_below HR0.out HB.out) | (with_reducible refine Kd.C_alloc ?_ _) | (with_reducible refine Kd.C_drewN ?_ _) | (with_reducible refine Kd.C_drew ?_))); (case side2 => exact HC0.out); rintro e w12 ⟨rfl, hb⟩; refine ⟨_, rfl, ?_⟩; have n0_ := Aside0.mk (Kd.R_below (kR_ HO_6.out) hb); have n1_ := Aside0.mk (Kd.R_below (kR_ HO_21.out) hb); have n2_ := Aside0.mk (wT bW_ hb); clear HO_6; clear HO_21; clear HB; have HO_6 := n0_; have HO_21 := n1_; have HB := n2_; clear n0_ n1_ n2_; (try clear hb); (try clear hb2); (try clear hk); (try clear hi)) | ((with_reducible refine gate_callee (f := 34) rfl ?_); refine goesL_ (some 36) rfl rfl Try.func34 (by kernel_rfl) rfl #[.slice A1 l1.length c1, .string (rdOf ByteArray.empty t805 x23_1), .string (⟨#[]⟩ : BA), .bool false] rfl mS_ ?_; (with_reducible refine (fold_Value.calls k1 _ _ l1 (rdOf ByteArray.empty t805 x23_1) (⟨#[]⟩ : BA) false t814 t815 _ ?side1 ?side2 A10.out).mono ?_); (case side1 => repeat (first | exact (Kd.C_below HR1.out HB.out) | (with_reducible refine Kd.C_alloc ?_ _) | (with_reducible refine Kd.C_drewN ?_ _) | (with_reducible refine Kd.C_drew ?_))); (case side2 => exact HC1.out); rintro e w13 ⟨rfl, hb⟩; refine ⟨_, rfl, ?_⟩; have n0_ := Aside0.mk (Kd.R_below (kR_ HO_6.out) hb); have n1_ := Aside0.mk (Kd.R_below (kR_ HO_21.out) hb); have n2_ := Aside0.mk (wT bW_ hb); clear HO_6; clear HO_21; clear HB; have HO_6 := n0_; have HO_21 := n1_; have HB := n2_; clear n0_ n1_ n2_; (try clear hb); (try clear hb2); (try clear hk); (try clear hi)))
      (try simp only [Act.put, sA1, sA2, sA3])
      go_cut [46] (fun v46 wc => ∃ (kq : Nat) (x46_10 : Bool), v46 = .bool x46_10 ∧ Aside0 (compact_Alike.j1 kq l0 l1 t806 (rdOf ByteArray.empty t805 x23_1) t805 (t805.length : Int) x23_1 x46_10 = some r) ∧ Aside0 (kq ≤ k1) ∧ Aside0 (Kd.R Kd.string 9 wc w.heap.size (fun k_ => some k_ ≠ ((.slice (some ad811) t805.length co5) : Value).ownBlock) v809 t806) ∧ Aside0 (Kd.R Kd.string 9 wc w.heap.size (fun k_ => some k_ ≠ (v809 : Value).ownBlock) (.slice (some ad811) t805.length co5) t805) ∧ Aside0 (Below w.heap.size w wc))
      case first =>
       have H := HC11.out
       clear HC11
       by_cases c14 : t812.toList = t814.toList
       ·rw [if_pos c14] at H
        have c14b0 : (t812.toList == t814.toList) = true := beq_iff_eq.mpr c14
        have c14b1 : (t812.toList != t814.toList) = false := bne_eq_false_iff_eq.mpr c14
        clear c14
        (first | rw [c14b0] | (simp only [i64_w, i32_w]; rw [c14b0]) | skip)
        have H' := Aside0.mk H
        clear H
        go_wp2
        go_meet
        case rel => exact ⟨_, ((t813 != t815)), (by first | rfl | (simp; done) | (simp [*]; done)), H', ⟨by have := HK1.out; first | omega | exact Nat.le_refl _⟩, ⟨by (with_reducible repeat (first | apply Kd.R_alloc | apply Kd.R_drewN | apply Kd.R_drew)); exact HO_6.out⟩, ⟨by (with_reducible repeat (first | apply Kd.R_alloc | apply Kd.R_drewN | apply Kd.R_drew)); exact HO_21.out⟩, ⟨by repeat (first | (with_reducible first | exact HB.out | apply wA | apply wN | apply w1) | exact HB.out)⟩⟩
       ·rw [if_neg c14] at H
        have c14b0 : (t812.toList == t814.toList) = false := beq_eq_false_iff_ne.mpr c14
        have c14b1 : (t812.toList != t814.toList) = true := bne_iff_ne.mpr c14
        (first | rw [c14b0] | (simp only [i64_w, i32_w]; rw [c14b0]) | skip)
        have H' := Aside0.mk H
        clear H
        go_wp2
        go_meet
        case rel => exact ⟨_, (true), (by first | rfl | (simp; done) | (simp [*]; done)), H', ⟨by have := HK1.out; first | omega | exact Nat.le_refl _⟩, ⟨by (with_reducible repeat (first | apply Kd.R_alloc | apply Kd.R_drewN | apply Kd.R_drew)); exact HO_6.out⟩, ⟨by (with_reducible repeat (first | apply Kd.R_alloc | apply Kd.R_drewN | apply Kd.R_drew)); exact HO_21.out⟩, ⟨by repeat (first | (with_reducible first | exact HB.out | apply wA | apply wN | apply w1) | exact HB.out)⟩⟩
      case rest =>
       clear HC11
       try clear c1
       try clear p2
       try clear c3
       try clear c6
       try clear c6b0
       try clear c7
       try clear c7b0
       try clear c8
       try clear c8b0
       try clear p8
       try clear q8
       try clear hx8
       try clear c11
       try clear c14
       try clear c14b0
       try clear c14b1
       try clear hx811_0
       try clear p2
       try clear p811
       try clear q811
       obtain ⟨kq, x46_10, rfl, HA, HJ10, HO_6, HO_21, HB⟩ := hcut
       cases kq with
       | zero => exact absurd HA.out (by simp [compact_Alike.j1])
       | succ kj10 =>
        have H := HA.out
        clear HA
        simp only [compact_Alike.j1] at H
        by_cases c15 : x46_10 = true
        ·subst c15
         have H1 : (some false) = some r := by rw [if_pos rfl] at H; exact H
         clear H
         have H := H1
         clear H1
         obtain rfl := Option.some.inj H
         go_wp2
         go_ret
         exact ⟨eR_, bW_⟩
        ·replace c15 := Bool.eq_false_iff.mpr c15
         subst c15
         have H1 : (compact_Alike.l1 kj10 l0 l1 t806 (rdOf ByteArray.empty t805 x23_1) t805 (t805.length : Int) x23_1 t806 (t806.length : Int) 0) = some r := by rw [if_neg (show ¬ (false = true) by decide)] at H; exact H
         clear H
         have H := H1
         clear H1
         have H' := Aside0.mk H
         clear H
         obtain ⟨Ao16, co16, eo16⟩ := Kd.R_slice HO_6.out
         subst eo16
         go_wp2
         go_loopg [49] kj10 (fun kq v49 w' => ∃ (x49_3 : Int), v49 = .int .i64 x49_3 ∧ Aside0 (compact_Alike.l1 kq l0 l1 t806 (rdOf ByteArray.empty t805 x23_1) t805 (t805.length : Int) x23_1 t806 (t806.length : Int) x49_3 = some r) ∧ Aside0 (kq ≤ kj10) ∧ Aside0 (Kd.R Kd.string 9 w' w.heap.size (fun k_ => some k_ ≠ ((.slice (some ad811) t805.length co5) : Value).ownBlock) (.slice Ao16 t806.length co16) t806) ∧ Aside0 (Kd.R Kd.string 9 w' w.heap.size (fun k_ => some k_ ≠ ((.slice Ao16 t806.length co16) : Value).ownBlock ∧ some k_ ≠ ((.slice Ao16 t806.length co16) : Value).ownBlock) (.slice (some ad811) t805.length co5) t805) ∧ Aside0 (Kd.R Kd.string 9 w' w.heap.size (fun k_ => some k_ ≠ ((.slice (some ad811) t805.length co5) : Value).ownBlock) (.slice Ao16 t806.length co16) t806) ∧ Aside0 (Below w.heap.size w w'))
         case atStart => exact ⟨(0), (by first | rfl | (simp; done) | (simp [*]; done)), H', ⟨Nat.le_refl _⟩, ⟨by (with_reducible repeat (first | apply Kd.R_alloc | apply Kd.R_drewN | apply Kd.R_drew)); exact HO_6.out⟩, ⟨by (with_reducible repeat (first | apply Kd.R_alloc | apply Kd.R_drewN | apply Kd.R_drew)); exact Kd.R_mono HO_21.out (fun _ hk => ⟨hk, hk⟩)⟩, ⟨by (with_reducible repeat (first | apply Kd.R_alloc | apply Kd.R_drewN | apply Kd.R_drew)); exact HO_6.out⟩, ⟨by repeat (first | (with_reducible first | exact HB.out | apply wA | apply wN | apply w1) | exact HB.out)⟩⟩
         case round =>
          clear H'
          try clear c1
          try clear p2
          try clear c3
          try clear c6
          try clear c6b0
          try clear c7
          try clear c7b0
          try clear c8
          try clear c8b0
          try clear p8
          try clear q8
          try clear hx8
          try clear c11
          try clear c14
          try clear c14b0
          try clear c14b1
          try clear c15
          try clear hx811_0
          try clear p2
          try clear p8
          try clear p811
          try clear q8
          try clear q811
          obtain ⟨x49_3, rfl, HA, HK3, HO_6, HO_21, HO_47, HB⟩ := hrel
          cases gk with
          | zero => exact absurd HA.out (by simp [compact_Alike.l1])
          | succ k3 =>
           have H := HA.out
           clear HA
           simp only [compact_Alike.l1] at H
           by_cases c17 : x49_3 < (t806.length : Int)
           ·rw [if_pos c17] at H
            have c17b0 : decide (x49_3 < (t806.length : Int)) = true := decide_eq_true c17
            clear c17
            by_cases c18 : 0 ≤ x49_3
            ·rw [if_pos c18] at H
             have c18b0 : decide (0 ≤ x49_3) = true := decide_eq_true c18
             clear c18
             by_cases c19 : x49_3 < (t806.length : Int)
             ·rw [if_pos c19] at H
              have c19b0 : decide (x49_3 < (t806.length : Int)) = true := decide_eq_true c19
              clear c19
              replace H := Option.bind_eq_some_iff.mp H
              obtain ⟨⟨t817, t818⟩, A200, H⟩ := H
              replace H : ((fold_Value.f k3 l1 (rdOf ByteArray.empty t805 x23_1) (rdOf ByteArray.empty t806 x49_3) true).bind fun bt819 => (if t817.toList = bt819.1.toList then (if (t818 != bt819.2) = true then (some false) else (compact_Alike.l1 k3 l0 l1 t806 (rdOf ByteArray.empty t805 x23_1) t805 (t805.length : Int) x23_1 t806 (t806.length : Int) (wrap64 (x49_3 + 1)))) else (some false))) = some r := H
              have A20 := Aside0.mk A200
              clear A200
              replace H := Option.bind_eq_some_iff.mp H
              obtain ⟨⟨t819, t820⟩, A210, H⟩ := H
              replace H : (if t817.toList = t819.toList then (if (t818 != t820) = true then (some false) else (compact_Alike.l1 k3 l0 l1 t806 (rdOf ByteArray.empty t805 x23_1) t805 (t805.length : Int) x23_1 t806 (t806.length : Int) (wrap64 (x49_3 + 1)))) else (some false)) = some r := H
              have A21 := Aside0.mk A210
              clear A210
              by_cases c22 : t817.toList = t819.toList
              ·rw [if_pos c22] at H
               have c22b0 : (t817.toList == t819.toList) = true := beq_iff_eq.mpr c22
               have c22b1 : (t817.toList != t819.toList) = false := bne_eq_false_iff_eq.mpr c22
               clear c22
               by_cases c23 : (t818 != t820) = true
               ·rw [if_pos c23] at H
                have c23b0 : (t818 != t820) = true := c23
                (try (have c23b1 : decide (t818 = t820) = false := by simpa using c23))
                (try (have c23b2 : (t818 == t820) = false := by simpa using c23))
                (try (have c23b3 : ¬ (t818 = t820) := by simpa using c23))
                clear c23
                obtain rfl := Option.some.inj H
                have p816 : 0 ≤ (x49_3 : Int) := of_decide_eq_true (by first | (with_reducible assumption) | assumption)
                have q816 : x49_3 < (t806.length : Int) := of_decide_eq_true (by first | (with_reducible assumption) | assumption)
                obtain ⟨ad816, e816, hx816_0⟩ := Kd.at_string (Kd.R_reads' HO_47.out).2.2 x49_3 p816 q816
                cases e816
                replace p816 := eq_true p816
                replace q816 := eq_true q816
                go_wp2_with (first | ((with_reducible refine gate_callee (f := 34) rfl ?_); refine goesL_ (some 57) rfl rfl Try.func34 (by kernel_rfl) rfl #[.slice A0 l0.length c0, .string (rdOf ByteArray.empty t805 x23_1), .string (rdOf ByteArray.empty t806 x49_3), .bool true] rfl mS_ ?_; (with_reducible refine (fold_Value.calls k3 _ _ l0 (rdOf ByteArray.empty t805 x23_1) (rdOf ByteArray.empty t806 x49_3) true t817 t818 _ ?side1 ?side2 A20.out).mono ?_); (case side1 => repeat (first | exact (Kd.C_below HR0.out HB.out) | (with_reducible refine Kd.C_alloc ?_ _) | (with_reducible refine Kd.C_drewN ?_ _) | (with_reducible refine Kd.C_drew ?_))); (case side2 => exact HC0.out); rintro e w24 ⟨rfl, hb⟩; refine ⟨_, rfl, ?_⟩; have n0_ := Aside0.mk (Kd.R_below (kR_ HO_6.out) hb); have n1_ := Aside0.mk (Kd.R_below (kR_ HO_21.out) hb); have n2_ := Aside0.mk (Kd.R_below (kR_ HO_47.out) hb); have n3_ := Aside0.mk (wT bW_ hb); clear HO_6; clear HO_21; clear HO_47; clear HB; have HO_6 := n0_; have HO_21 := n1_; have HO_47 := n2_; have HB := n3_; clear n0_ n1_ n2_ n3_; (try clear hb); (try clear hb2); (try clear hk); (try clear hi)) | ((with_reducible refine gate_callee (f := 34) rfl ?_); refine goesL_ (some 64) rfl rfl Try.func34 (by kernel_rfl) rfl #[.slice A1 l1.length c1, .string (rdOf ByteArray.empty t805 x23_1), .string (rdOf ByteArray.empty t806 x49_3), .bool true] rfl mS_ ?_; (with_reducible refine (fold_Value.calls k3 _ _ l1 (rdOf ByteArray.empty t805 x23_1) (rdOf ByteArray.empty t806 x49_3) true t819 t820 _ ?side1 ?side2 A21.out).mono ?_); (case side1 => repeat (first | exact (Kd.C_below HR1.out HB.out) | (with_reducible refine Kd.C_alloc ?_ _) | (with_reducible refine Kd.C_drewN ?_ _) | (with_reducible refine Kd.C_drew ?_))); (case side2 => exact HC1.out); rintro e w25 ⟨rfl, hb⟩; refine ⟨_, rfl, ?_⟩; have n0_ := Aside0.mk (Kd.R_below (kR_ HO_6.out) hb); have n1_ := Aside0.mk (Kd.R_below (kR_ HO_21.out) hb); have n2_ := Aside0.mk (Kd.R_below (kR_ HO_47.out) hb); have n3_ := Aside0.mk (wT bW_ hb); clear HO_6; clear HO_21; clear HO_47; clear HB; have HO_6 := n0_; have HO_21 := n1_; have HO_47 := n2_; have HB := n3_; clear n0_ n1_ n2_ n3_; (try clear hb); (try clear hb2); (try clear hk); (try clear hi)))
                go_ret
                exact ⟨eR_, bW_⟩
               ·rw [if_neg c23] at H
                have c23b0 : (t818 != t820) = false := by simpa using c23
                (try (have c23b1 : decide (t818 = t820) = true := by simpa using c23))
                (try (have c23b2 : (t818 == t820) = true := by simpa using c23))
                clear c23
                have H' := Aside0.mk H
                clear H
                have p816 : 0 ≤ (x49_3 : Int) := of_decide_eq_true (by first | (with_reducible assumption) | assumption)
                have q816 : x49_3 < (t806.length : Int) := of_decide_eq_true (by first | (with_reducible assumption) | assumption)
                obtain ⟨ad816, e816, hx816_0⟩ := Kd.at_string (Kd.R_reads' HO_47.out).2.2 x49_3 p816 q816
                cases e816
                replace p816 := eq_true p816
                replace q816 := eq_true q816
                go_wp2_with (first | ((with_reducible refine gate_callee (f := 34) rfl ?_); refine goesL_ (some 57) rfl rfl Try.func34 (by kernel_rfl) rfl #[.slice A0 l0.length c0, .string (rdOf ByteArray.empty t805 x23_1), .string (rdOf ByteArray.empty t806 x49_3), .bool true] rfl mS_ ?_; (with_reducible refine (fold_Value.calls k3 _ _ l0 (rdOf ByteArray.empty t805 x23_1) (rdOf ByteArray.empty t806 x49_3) true t817 t818 _ ?side1 ?side2 A20.out).mono ?_); (case side1 => repeat (first | exact (Kd.C_below HR0.out HB.out) | (with_reducible refine Kd.C_alloc ?_ _) | (with_reducible refine Kd.C_drewN ?_ _) | (with_reducible refine Kd.C_drew ?_))); (case side2 => exact HC0.out); rintro e w26 ⟨rfl, hb⟩; refine ⟨_, rfl, ?_⟩; have n0_ := Aside0.mk (Kd.R_below (kR_ HO_6.out) hb); have n1_ := Aside0.mk (Kd.R_below (kR_ HO_21.out) hb); have n2_ := Aside0.mk (Kd.R_below (kR_ HO_47.out) hb); have n3_ := Aside0.mk (wT bW_ hb); clear HO_6; clear HO_21; clear HO_47; clear HB; have HO_6 := n0_; have HO_21 := n1_; have HO_47 := n2_; have HB := n3_; clear n0_ n1_ n2_ n3_; (try clear hb); (try clear hb2); (try clear hk); (try clear hi)) | ((with_reducible refine gate_callee (f := 34) rfl ?_); refine goesL_ (some 64) rfl rfl Try.func34 (by kernel_rfl) rfl #[.slice A1 l1.length c1, .string (rdOf ByteArray.empty t805 x23_1), .string (rdOf ByteArray.empty t806 x49_3), .bool true] rfl mS_ ?_; (with_reducible refine (fold_Value.calls k3 _ _ l1 (rdOf ByteArray.empty t805 x23_1) (rdOf ByteArray.empty t806 x49_3) true t819 t820 _ ?side1 ?side2 A21.out).mono ?_); (case side1 => repeat (first | exact (Kd.C_below HR1.out HB.out) | (with_reducible refine Kd.C_alloc ?_ _) | (with_reducible refine Kd.C_drewN ?_ _) | (with_reducible refine Kd.C_drew ?_))); (case side2 => exact HC1.out); rintro e w27 ⟨rfl, hb⟩; refine ⟨_, rfl, ?_⟩; have n0_ := Aside0.mk (Kd.R_below (kR_ HO_6.out) hb); have n1_ := Aside0.mk (Kd.R_below (kR_ HO_21.out) hb); have n2_ := Aside0.mk (Kd.R_below (kR_ HO_47.out) hb); have n3_ := Aside0.mk (wT bW_ hb); clear HO_6; clear HO_21; clear HO_47; clear HB; have HO_6 := n0_; have HO_21 := n1_; have HO_47 := n2_; have HB := n3_; clear n0_ n1_ n2_ n3_; (try clear hb); (try clear hb2); (try clear hk); (try clear hi)))
                go_roundg k3
                case measure => have := HK1.out; have := HJ10.out; have := HK3.out; omega
                case rel => exact ⟨(wrap64 (x49_3 + 1)), (by first | rfl | (simp; done) | (simp [*]; done)), H', ⟨by have := HK1.out; have := HJ10.out; have := HK3.out; omega⟩, ⟨by (with_reducible repeat (first | apply Kd.R_alloc | apply Kd.R_drewN | apply Kd.R_drew)); exact HO_6.out⟩, ⟨by (with_reducible repeat (first | apply Kd.R_alloc | apply Kd.R_drewN | apply Kd.R_drew)); exact HO_21.out⟩, ⟨by (with_reducible repeat (first | apply Kd.R_alloc | apply Kd.R_drewN | apply Kd.R_drew)); exact HO_47.out⟩, ⟨by repeat (first | (with_reducible first | exact HB.out | apply wA | apply wN | apply w1) | exact HB.out)⟩⟩
              ·rw [if_neg c22] at H
               have c22b0 : (t817.toList == t819.toList) = false := beq_eq_false_iff_ne.mpr c22
               have c22b1 : (t817.toList != t819.toList) = true := bne_iff_ne.mpr c22
               obtain rfl := Option.some.inj H
               have p816 : 0 ≤ (x49_3 : Int) := of_decide_eq_true (by first | (with_reducible assumption) | assumption)
               have q816 : x49_3 < (t806.length : Int) := of_decide_eq_true (by first | (with_reducible assumption) | assumption)
               obtain ⟨ad816, e816, hx816_0⟩ := Kd.at_string (Kd.R_reads' HO_47.out).2.2 x49_3 p816 q816
               cases e816
               replace p816 := eq_true p816
               replace q816 := eq_true q816
               go_wp2_with (first | ((with_reducible refine gate_callee (f := 34) rfl ?_); refine goesL_ (some 57) rfl rfl Try.func34 (by kernel_rfl) rfl #[.slice A0 l0.length c0, .string (rdOf ByteArray.empty t805 x23_1), .string (rdOf ByteArray.empty t806 x49_3), .bool true] rfl mS_ ?_; (with_reducible refine (fold_Value.calls k3 _ _ l0 (rdOf ByteArray.empty t805 x23_1) (rdOf ByteArray.empty t806 x49_3) true t817 t818 _ ?side1 ?side2 A20.out).mono ?_); (case side1 => repeat (first | exact (Kd.C_below HR0.out HB.out) | (with_reducible refine Kd.C_alloc ?_ _) | (with_reducible refine Kd.C_drewN ?_ _) | (with_reducible refine Kd.C_drew ?_))); (case side2 => exact HC0.out); rintro e w28 ⟨rfl, hb⟩; refine ⟨_, rfl, ?_⟩; have n0_ := Aside0.mk (Kd.R_below (kR_ HO_6.out) hb); have n1_ := Aside0.mk (Kd.R_below (kR_ HO_21.out) hb); have n2_ := Aside0.mk (Kd.R_below (kR_ HO_47.out) hb); have n3_ := Aside0.mk (wT bW_ hb); clear HO_6; clear HO_21; clear HO_47; clear HB; have HO_6 := n0_; have HO_21 := n1_; have HO_47 := n2_; have HB := n3_; clear n0_ n1_ n2_ n3_; (try clear hb); (try clear hb2); (try clear hk); (try clear hi)) | ((with_reducible refine gate_callee (f := 34) rfl ?_); refine goesL_ (some 64) rfl rfl Try.func34 (by kernel_rfl) rfl #[.slice A1 l1.length c1, .string (rdOf ByteArray.empty t805 x23_1), .string (rdOf ByteArray.empty t806 x49_3), .bool true] rfl mS_ ?_; (with_reducible refine (fold_Value.calls k3 _ _ l1 (rdOf ByteArray.empty t805 x23_1) (rdOf ByteArray.empty t806 x49_3) true t819 t820 _ ?side1 ?side2 A21.out).mono ?_); (case side1 => repeat (first | exact (Kd.C_below HR1.out HB.out) | (with_reducible refine Kd.C_alloc ?_ _) | (with_reducible refine Kd.C_drewN ?_ _) | (with_reducible refine Kd.C_drew ?_))); (case side2 => exact HC1.out); rintro e w29 ⟨rfl, hb⟩; refine ⟨_, rfl, ?_⟩; have n0_ := Aside0.mk (Kd.R_below (kR_ HO_6.out) hb); have n1_ := Aside0.mk (Kd.R_below (kR_ HO_21.out) hb); have n2_ := Aside0.mk (Kd.R_below (kR_ HO_47.out) hb); have n3_ := Aside0.mk (wT bW_ hb); clear HO_6; clear HO_21; clear HO_47; clear HB; have HO_6 := n0_; have HO_21 := n1_; have HO_47 := n2_; have HB := n3_; clear n0_ n1_ n2_ n3_; (try clear hb); (try clear hb2); (try clear hk); (try clear hi)))
               go_ret
               exact ⟨eR_, bW_⟩
             ·rw [if_neg c19] at H
              exact absurd H (by simp)
            ·rw [if_neg c18] at H
             exact absurd H (by simp)
           ·rw [if_neg c17] at H
            have c17b0 : decide (x49_3 < (t806.length : Int)) = false := decide_eq_false c17
            clear c17
            have H' := Aside0.mk H
            clear H
            go_wp2
            go_roundg k3
            case measure => have := HK1.out; have := HJ10.out; have := HK3.out; omega
            case rel => exact ⟨(wrap64 (x23_1 + 1)), (by first | rfl | (simp; done) | (simp [*]; done)), H', ⟨by have := HK1.out; have := HJ10.out; have := HK3.out; omega⟩, ⟨by (with_reducible repeat (first | apply Kd.R_alloc | apply Kd.R_drewN | apply Kd.R_drew)); exact HO_6.out⟩, ⟨by (with_reducible repeat (first | apply Kd.R_alloc | apply Kd.R_drewN | apply Kd.R_drew)); exact Kd.R_mono HO_21.out (fun _ hk => hk.1)⟩, ⟨by repeat (first | (with_reducible first | exact HB.out | apply wA | apply wN | apply w1) | exact HB.out)⟩⟩
     ·rw [if_neg c8] at H
      exact absurd H (by simp)
    ·rw [if_neg c7] at H
     exact absurd H (by simp)
   ·rw [if_neg c6] at H
    have c6b0 : decide (x23_1 < (t805.length : Int)) = false := decide_eq_false c6
    clear c6
    obtain rfl := Option.some.inj H
    go_wp2
    go_ret
    exact ⟨eR_, bW_⟩
def api_Msg_84.f (l0 : List (List S32)) : Option (List S32) := Sw.concatF l0
theorem api_Msg_84.calls (A0 : Option Addr) (c0 : Nat) (l0 : List (List S32)) (r : List S32) (w : World) (hr0 : Kd.C (Kd.slice 32 k32) w A0 l0.length l0) (hc0 : l0.length ≤ c0) (h : api_Msg_84.f l0 = some r) :
  Calls Try.prog 84 #[.slice A0 l0.length c0] w fun e w' => ∃ v0_ : Value, e = .returned (v0_) ∧ Kd.R k32 32 w' w.heap.size (fun _ => True) v0_ r ∧ Below w.heap.size w w' :=
 Sw.concatF_calls hr0 hc0 h
def delta_Swap.f (k : Nat) (l0 : List (S32)) (l1 : List (S32)) : Option (Bool) := (api_Msg_84.f (([l0, l1] : List (List (S32))))).bind fun t824 => ((api_Msg_84.f (([l1, l0] : List (List (S32))))).bind fun t830 => ((compact_Alike.f k t824 t830).bind fun t833 => (some t833)))
set_option maxHeartbeats 8000000 in
set_option maxRecDepth 100000 in
theorem delta_Swap.calls (k : Nat) (P0_ : Nat → Prop) (A0 : Option Addr) (c0 : Nat) (l0 : List (S32)) (P1_ : Nat → Prop) (A1 : Option Addr) (c1 : Nat) (l1 : List (S32)) (r : Bool) (w : World) (hs0 : Kd.V k32 32 w w.heap.size (fun k_ => P0_ k_) (.slice A0 l0.length c0) l0) (hs1 : Kd.V k32 32 w w.heap.size (fun k_ => P1_ k_) (.slice A1 l1.length c1) l1) (h : delta_Swap.f k l0 l1 = some r) :
  Calls Try.prog 48 #[.slice A0 l0.length c0, .slice A1 l1.length c1] w fun e w' => e = .returned (.bool r) ∧ Below w.heap.size w w' := by
 have HO0 := Aside0.mk (show Kd.V k32 32 w w.heap.size (fun k_ => ((P0_ k_ ∨ P1_ k_) ∨ w.heap.size ≤ k_)) (.slice A0 l0.length c0) l0 from Kd.V_mono hs0 (fun k_ hk => .inl (.inl hk)))
 have HO1 := Aside0.mk (show Kd.V k32 32 w w.heap.size (fun k_ => ((P0_ k_ ∨ P1_ k_) ∨ w.heap.size ≤ k_)) (.slice A1 l1.length c1) l1 from Kd.V_mono hs1 (fun k_ hk => .inl (.inr hk)))
 have HB := Aside0.mk (Below.refl w.heap.size w)
 have H : ((api_Msg_84.f (([l0, l1] : List (List (S32))))).bind fun t824 => ((api_Msg_84.f (([l1, l0] : List (List (S32))))).bind fun t830 => ((compact_Alike.f k t824 t830).bind fun t833 => (some t833)))) = some r := h
 clear h
 obtain ⟨y821, hy821⟩ : ∃ y_ : List (List (S32)), y_ = (([l0, l1] : List (List (S32)))) := ⟨_, rfl⟩
 replace H : ((api_Msg_84.f y821).bind fun t824 => ((api_Msg_84.f (([l1, l0] : List (List (S32))))).bind fun t830 => ((compact_Alike.f k t824 t830).bind fun t833 => (some t833)))) = some r := by first | (rw [hy821]; with_reducible exact H) | (have H2_ := (Option.bind_some _ _).symm.trans H; rw [hy821]; with_reducible exact H2_) | (have H2_ := (Option.bind_some _ _).symm.trans H; with_reducible exact H2_) | with_reducible exact H | (rw [hy821]; exact H) | exact H
 have Ny821 := Aside0.mk hy821
 clear hy821
 replace H := Option.bind_eq_some_iff.mp H
 obtain ⟨t824, A30, H⟩ := H
 replace H : ((api_Msg_84.f (([l1, l0] : List (List (S32))))).bind fun t830 => ((compact_Alike.f k t824 t830).bind fun t833 => (some t833))) = some r := H
 have A3 := Aside0.mk A30
 clear A30
 obtain ⟨y827, hy827⟩ : ∃ y_ : List (List (S32)), y_ = (([l1, l0] : List (List (S32)))) := ⟨_, rfl⟩
 replace H : ((api_Msg_84.f y827).bind fun t830 => ((compact_Alike.f k t824 t830).bind fun t833 => (some t833))) = some r := by first | (rw [hy827]; with_reducible exact H) | (have H2_ := (Option.bind_some _ _).symm.trans H; rw [hy827]; with_reducible exact H2_) | (have H2_ := (Option.bind_some _ _).symm.trans H; with_reducible exact H2_) | with_reducible exact H | (rw [hy827]; exact H) | exact H
 have Ny827 := Aside0.mk hy827
 clear hy827
 replace H := Option.bind_eq_some_iff.mp H
 obtain ⟨t830, A40, H⟩ := H
 replace H : ((compact_Alike.f k t824 t830).bind fun t833 => (some t833)) = some r := H
 have A4 := Aside0.mk A40
 clear A40
 replace H := Option.bind_eq_some_iff.mp H
 obtain ⟨t833, A50, H⟩ := H
 replace H : (some t833) = some r := H
 have A5 := Aside0.mk A50
 clear A50
 obtain rfl := Option.some.inj H
 go_enter Try.func48, Try.ntmps48
 go_wp2_with (first | ((with_reducible refine gate_dst (N := 7) rfl ?_); refine Kd.N_lit (Kd.slice 32 k32) _ 22 ?hg (N' := 7) ?hd (xs := ([l0, l1] : List (List (S32)))) (inner := [.slice A0 l0.length c0, .slice A1 l1.length c1]) (ok := (fun k_ => ((P0_ k_ ∨ P1_ k_) ∨ w.heap.size ≤ k_))) (okp := (fun k_ => ((P0_ k_ ∨ P1_ k_) ∨ w.heap.size ≤ k_))) ?hr ?hp (fun _ hk => hk) ((show ∀ k_, w.heap.size ≤ k_ → (fun k_ => ((P0_ k_ ∨ P1_ k_) ∨ w.heap.size ≤ k_)) k_ from fun k_ hk => (.inr (Nat.le_trans (wZ bW_) hk))) _ (Nat.le_refl _)) (Below.refl _ _) (Nat.le_refl _) (by simp) ?_; (case hd => rfl); (case hg => rfl); (case hr => first | (go_simp; done) | (go_simp; rfl)); (case hp => exact (Reps.one (show Kd.FK (Kd.slice 32 k32) _ _ l0 [.slice A0 l0.length c0] from (Kd.FK_slice_mk (Kd.V_reads' (Kd.V_mono (ok' := (fun k_ => ((P0_ k_ ∨ P1_ k_) ∨ w.heap.size ≤ k_))) (HO0.out) (fun k_ hk => hk))).2.1 (Kd.V_F (Kd.V_mono (ok' := (fun k_ => ((P0_ k_ ∨ P1_ k_) ∨ w.heap.size ≤ k_))) (HO0.out) (fun k_ hk => hk))))) (Reps.one (show Kd.FK (Kd.slice 32 k32) _ _ l1 [.slice A1 l1.length c1] from (Kd.FK_slice_mk (Kd.V_reads' (Kd.V_mono (ok' := (fun k_ => ((P0_ k_ ∨ P1_ k_) ∨ w.heap.size ≤ k_))) (HO1.out) (fun k_ hk => hk))).2.1 (Kd.V_F (Kd.V_mono (ok' := (fun k_ => ((P0_ k_ ∨ P1_ k_) ∨ w.heap.size ≤ k_))) (HO1.out) (fun k_ hk => hk))))) (Reps.none _ _)))); intro v822 w6 ho7 hb hg_ hnew_; clear hg_ hnew_; (first | rw [← Ny821.out] at ho7 | (simp only [Int.reduceToNat] at ho7; rw [← Ny821.out] at ho7)); have n0_ := Aside0.mk (Kd.V_elder' (kV_ HO0.out) (Kd.N_base ho7) hb); have n1_ := Aside0.mk (Kd.V_elder' (kV_ HO1.out) (Kd.N_base ho7) hb); have n2_ := Aside0.mk (Kd.N_lower ho7 (wZ bW_)); have n3_ := Aside0.mk (wT bW_ hb); clear HO0; clear HO1; clear HB; have HO0 := n0_; have HO1 := n1_; have HO823 := n2_; have HB := n3_; clear n0_ n1_ n2_ n3_; clear hb ho7; obtain ⟨Ao8, co8, eo8⟩ := Kd.N_slice HO823.out; subst eo8) | ((with_reducible refine gate_callee (f := 84) rfl ?_); refine goesL_ (some 8) rfl rfl Try.func84 (by kernel_rfl) rfl #[.slice Ao8 y821.length co8] rfl mS_ ?_; (with_reducible refine (api_Msg_84.calls _ _ y821 t824 _ ?side1 ?side2 A3.out).mono ?_); (case side1 => repeat (first | exact (Kd.N_reads' HO823.out).2.2 | (with_reducible refine Kd.C_alloc ?_ _) | (with_reducible refine Kd.C_drewN ?_ _) | (with_reducible refine Kd.C_drew ?_))); (case side2 => exact (Kd.N_reads' HO823.out).2.1); rintro e w9 ⟨v825, rfl, ho0, hb⟩; refine ⟨_, rfl, ?_⟩; have n0_ := Aside0.mk (Kd.V_elder' (kV_ HO0.out) (Kd.R_base ho0) hb); have n1_ := Aside0.mk (Kd.V_elder' (kV_ HO1.out) (Kd.R_base ho0) hb); have n2_ := Aside0.mk (Kd.N_elder' (by (with_reducible repeat (first | apply Kd.N_alloc | apply Kd.N_drewN | apply Kd.N_drew)); exact HO823.out) (Kd.R_base ho0) hb); have n3_ := Aside0.mk (Kd.R_lower (Kd.R_newM (M := fun k_ => (w.heap.size ≤ k_)) ho0 (wZ bW_) (fun k_ h_ => h_)) (wZ bW_)); have n4_ := Aside0.mk (wT bW_ hb); clear HO0; clear HO1; clear HO823; clear HB; have HO0 := n0_; have HO1 := n1_; have HO823 := n2_; have HO826 := n3_; have HB := n4_; clear n0_ n1_ n2_ n3_ n4_; (try clear hb); (try clear hb2); (try clear hk); (try clear hi); (try clear ho0)) | ((with_reducible refine gate_dst (N := 11) rfl ?_); refine Kd.N_lit (Kd.slice 32 k32) _ 22 ?hg (N' := 11) ?hd (xs := ([l1, l0] : List (List (S32)))) (inner := [.slice A1 l1.length c1, .slice A0 l0.length c0]) (ok := (fun k_ => ((P0_ k_ ∨ P1_ k_) ∨ w.heap.size ≤ k_) ∧ some k_ ≠ (.slice Ao8 y821.length co8 : Value).ownBlock ∧ some k_ ≠ (v825 : Value).ownBlock)) (okp := (fun k_ => ((P0_ k_ ∨ P1_ k_) ∨ w.heap.size ≤ k_) ∧ some k_ ≠ (.slice Ao8 y821.length co8 : Value).ownBlock ∧ some k_ ≠ (v825 : Value).ownBlock)) ?hr ?hp (fun _ hk => hk) ((show ∀ k_, w9.heap.size ≤ k_ → (fun k_ => ((P0_ k_ ∨ P1_ k_) ∨ w.heap.size ≤ k_) ∧ some k_ ≠ (.slice Ao8 y821.length co8 : Value).ownBlock ∧ some k_ ≠ (v825 : Value).ownBlock) k_ from fun k_ hk => ⟨(.inr (Nat.le_trans (wZ bW_) hk)), Kd.fresh' (Kd.N_lt (by (with_reducible repeat (first | apply Kd.N_alloc | apply Kd.N_drewN | apply Kd.N_drew)); exact HO823.out)) k_ hk, Kd.fresh' (Kd.R_lt (kR_ HO826.out)) k_ hk⟩) _ (Nat.le_refl _)) (Below.refl _ _) (Nat.le_refl _) (by simp) ?_; (case hd => rfl); (case hg => rfl); (case hr => first | (go_simp; done) | (go_simp; rfl)); (case hp => exact (Reps.one (show Kd.FK (Kd.slice 32 k32) _ _ l1 [.slice A1 l1.length c1] from (Kd.FK_slice_mk (Kd.V_reads' (Kd.V_mono (ok' := (fun k_ => ((P0_ k_ ∨ P1_ k_) ∨ w.heap.size ≤ k_) ∧ some k_ ≠ (.slice Ao8 y821.length co8 : Value).ownBlock ∧ some k_ ≠ (v825 : Value).ownBlock)) (HO1.out) (fun k_ hk => ⟨hk.1.1, ⟨hk.1.2, hk.2⟩⟩))).2.1 (Kd.V_F (Kd.V_mono (ok' := (fun k_ => ((P0_ k_ ∨ P1_ k_) ∨ w.heap.size ≤ k_) ∧ some k_ ≠ (.slice Ao8 y821.length co8 : Value).ownBlock ∧ some k_ ≠ (v825 : Value).ownBlock)) (HO1.out) (fun k_ hk => ⟨hk.1.1, ⟨hk.1.2, hk.2⟩⟩))))) (Reps.one (show Kd.FK (Kd.slice 32 k32) _ _ l0 [.slice A0 l0.length c0] from (Kd.FK_slice_mk (Kd.V_reads' (Kd.V_mono (ok' := (fun k_ => ((P0_ k_ ∨ P1_ k_) ∨ w.heap.size ≤ k_) ∧ some k_ ≠ (.slice Ao8 y821.length co8 : Value).ownBlock ∧ some k_ ≠ (v825 : Value).ownBlock)) (HO0.out) (fun k_ hk => ⟨hk.1.1, ⟨hk.1.2, hk.2⟩⟩))).2.1 (Kd.V_F (Kd.V_mono (ok' := (fun k_ => ((P0_ k_ ∨ P1_ k_) ∨ w.heap.size ≤ k_) ∧ some k_ ≠ (.slice Ao8 y821.length co8 : Value).ownBlock ∧ some k_ ≠ (v825 : Value).ownBlock)) (HO0.out) (fun k_ hk => ⟨hk.1.1, ⟨hk.1.2, hk.2⟩⟩))))) (Reps.none _ _)))); intro v828 w10 ho11 hb hg_ hnew_; clear hg_ hnew_; (first | rw [← Ny827.out] at ho11 | (simp only [Int.reduceToNat] at ho11; rw [← Ny827.out] at ho11)); have n0_ := Aside0.mk (Kd.V_elder' (kV_ HO0.out) (Kd.N_base ho11) hb); have n1_ := Aside0.mk (Kd.V_elder' (kV_ HO1.out) (Kd.N_base ho11) hb); have n2_ := Aside0.mk (Kd.N_elder' (by (with_reducible repeat (first | apply Kd.N_alloc | apply Kd.N_drewN | apply Kd.N_drew)); exact HO823.out) (Kd.N_base ho11) hb); have n3_ := Aside0.mk (Kd.R_below (kR_ HO826.out) hb); have n4_ := Aside0.mk (Kd.N_lower ho11 (wZ bW_)); have n5_ := Aside0.mk (wT bW_ hb); clear HO0; clear HO1; clear HO823; clear HO826; clear HB; have HO0 := n0_; have HO1 := n1_; have HO823 := n2_; have HO826 := n3_; have HO829 := n4_; have HB := n5_; clear n0_ n1_ n2_ n3_ n4_ n5_; clear hb ho11; obtain ⟨Ao12, co12, eo12⟩ := Kd.N_slice HO829.out; subst eo12) | ((with_reducible refine gate_callee (f := 84) rfl ?_); refine goesL_ (some 12) rfl rfl Try.func84 (by kernel_rfl) rfl #[.slice Ao12 y827.length co12] rfl mS_ ?_; (with_reducible refine (api_Msg_84.calls _ _ y827 t830 _ ?side1 ?side2 A4.out).mono ?_); (case side1 => repeat (first | exact (Kd.N_reads' HO829.out).2.2 | (with_reducible refine Kd.C_alloc ?_ _) | (with_reducible refine Kd.C_drewN ?_ _) | (with_reducible refine Kd.C_drew ?_))); (case side2 => exact (Kd.N_reads' HO829.out).2.1); rintro e w13 ⟨v831, rfl, ho0, hb⟩; refine ⟨_, rfl, ?_⟩; have n0_ := Aside0.mk (Kd.V_elder' (kV_ HO0.out) (Kd.R_base ho0) hb); have n1_ := Aside0.mk (Kd.V_elder' (kV_ HO1.out) (Kd.R_base ho0) hb); have n2_ := Aside0.mk (Kd.N_elder' (by (with_reducible repeat (first | apply Kd.N_alloc | apply Kd.N_drewN | apply Kd.N_drew)); exact HO823.out) (Kd.R_base ho0) hb); have n3_ := Aside0.mk (Kd.R_elder' (kR_ HO826.out) (Kd.R_base ho0) hb); have n4_ := Aside0.mk (Kd.N_elder' (by (with_reducible repeat (first | apply Kd.N_alloc | apply Kd.N_drewN | apply Kd.N_drew)); exact HO829.out) (Kd.R_base ho0) hb); have n5_ := Aside0.mk (Kd.R_lower (Kd.R_new' (Kd.R_newM (M := fun k_ => (w.heap.size ≤ k_)) ho0 (wZ bW_) (fun k_ h_ => h_)) (Kd.R_lt (kR_ HO826.out))) (wZ bW_)); have n6_ := Aside0.mk (wT bW_ hb); clear HO0; clear HO1; clear HO823; clear HO826; clear HO829; clear HB; have HO0 := n0_; have HO1 := n1_; have HO823 := n2_; have HO826 := n3_; have HO829 := n4_; have HO832 := n5_; have HB := n6_; clear n0_ n1_ n2_ n3_ n4_ n5_ n6_; (try clear hb); (try clear hb2); (try clear hk); (try clear hi); (try clear ho0); obtain ⟨Ao14, co14, eo14⟩ := Kd.R_slice HO826.out; subst eo14; obtain ⟨Ao15, co15, eo15⟩ := Kd.R_slice HO832.out; subst eo15) | ((with_reducible refine gate_callee (f := 83) rfl ?_); refine goesL_ (some 13) rfl rfl Try.func83 (by kernel_rfl) rfl #[.slice Ao14 t824.length co14, .slice Ao15 t830.length co15] rfl mS_ ?_; (with_reducible refine (compact_Alike.calls k _ _ t824 _ _ t830 t833 _ ?side1 ?side2 ?side3 ?side4 A5.out).mono ?_); (case side1 => repeat (first | exact (Kd.R_reads' HO826.out).2.2 | (with_reducible refine Kd.C_alloc ?_ _) | (with_reducible refine Kd.C_drewN ?_ _) | (with_reducible refine Kd.C_drew ?_))); (case side2 => exact (Kd.R_reads' HO826.out).2.1); (case side3 => repeat (first | exact (Kd.R_reads' HO832.out).2.2 | (with_reducible refine Kd.C_alloc ?_ _) | (with_reducible refine Kd.C_drewN ?_ _) | (with_reducible refine Kd.C_drew ?_))); (case side4 => exact (Kd.R_reads' HO832.out).2.1); rintro e w16 ⟨rfl, hb⟩; refine ⟨_, rfl, ?_⟩; have n0_ := Aside0.mk (Kd.V_below (kV_ HO0.out) hb); have n1_ := Aside0.mk (Kd.V_below (kV_ HO1.out) hb); have n2_ := Aside0.mk (Kd.N_below (by (with_reducible repeat (first | apply Kd.N_alloc | apply Kd.N_drewN | apply Kd.N_drew)); exact HO823.out) hb); have n3_ := Aside0.mk (Kd.R_below (kR_ HO826.out) hb); have n4_ := Aside0.mk (Kd.N_below (by (with_reducible repeat (first | apply Kd.N_alloc | apply Kd.N_drewN | apply Kd.N_drew)); exact HO829.out) hb); have n5_ := Aside0.mk (Kd.R_below (kR_ HO832.out) hb); have n6_ := Aside0.mk (wT bW_ hb); clear HO0; clear HO1; clear HO823; clear HO826; clear HO829; clear HO832; clear HB; have HO0 := n0_; have HO1 := n1_; have HO823 := n2_; have HO826 := n3_; have HO829 := n4_; have HO832 := n5_; have HB := n6_; clear n0_ n1_ n2_ n3_ n4_ n5_ n6_; (try clear hb); (try clear hb2); (try clear hk); (try clear hi)))
 go_ret
 exact ⟨eR_, bW_⟩
end Go.Proofs.Ytebejadiaooooaa.P
end
