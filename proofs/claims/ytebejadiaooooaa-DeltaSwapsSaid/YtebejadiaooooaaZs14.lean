/- Texts of one claim (laid by shake.py). -/
import Derived.Test.YtebejadiaooooaaZs4
import Derived.Test.YtebejadiaooooaaZs8
import Derived.Test.YtebejadiaooooaaZs5
import Derived.Test.YtebejadiaooooaaZs11
import Derived.Test.YtebejadiaooooaaZs12
import Derived.Test.YtebejadiaooooaaZs13
set_option linter.unusedVariables false
set_option linter.unusedSimpArgs false
section
namespace Go.Proofs.Ytebejadiaooooaa.P
open Go.RowKit Go.Proofs.YtebejadiaooooaaW.PrintWords Go.Proofs.YtebejadiaooooaaW.PrintLast Go.Proofs.YtebejadiaooooaaW.PrintMore Go.Proofs.Ytebejadiaooooaa.Own
open Bool renaming true → YY, false → ZZ
open Go.Proofs.YtebejadiaooooaaW.PrintWords renaming blk_cell → bC, blk_frozen → bF, blk_drewN → bN, blk_alloc → bA, pw_below_drewN → wN, blk_drew → bD, below_drew1 → w1, below_set → wS, below_alloc → wA, blk_below → bB, below_step → wT, below_size → wZ, blk_put → bP
open List renaming setIfInBounds_toArray → sA1, set_cons_zero → sA2, set_cons_succ → sA3, map_toArray → mA1, map_cons → mA2, map_nil → mA3, length_take → mA4, length_drop → mA5
attribute [local go_sem] max2_str max2_int min2_int max_two min_two max_three min_three max_four min_four   -- for this text's walks alone
attribute [local go_sem high] eqA28
mutual
def catchmentref06_Alike.l0 : Nat → List (S32) → List (S32) → List ByteArray → List ByteArray → Int → Option (Bool)
 | 0, _, _, _, _, _ => none
 | k + 1, x0, x1, x6, x7, x8 => if x8 < (x6.length : Int) then (catchmentref06_Alike.l1 k x0 x1 x6 x7 x8 0) else (some true)
def catchmentref06_Alike.l1 : Nat → List (S32) → List (S32) → List ByteArray → List ByteArray → Int → Int → Option (Bool)
 | 0, _, _, _, _, _, _ => none
 | k + 1, x0, x1, x6, x7, x8, x9 => if x9 < (x7.length : Int) then (if 0 ≤ x8 then (if x8 < (x6.length : Int) then (if 0 ≤ x9 then ((catchmentref06_AlikeAt.f k x0 x1 (rdOf ByteArray.empty x6 x8) (rdOf ByteArray.empty x7 x9)).bind fun t882 => (if t882 = true then (catchmentref06_Alike.l1 k x0 x1 x6 x7 x8 (wrap64 (x9 + 1))) else (some false))) else (none)) else (none)) else (none)) else (catchmentref06_Alike.l0 k x0 x1 x6 x7 (wrap64 (x8 + 1)))
end
def catchmentref06_Alike.f (k : Nat) (l0 : List (S32)) (l1 : List (S32)) : Option (Bool) := (some (([] : List (S32)) : List (S32))).bind fun y865 => (if y865.length + l0.length < 1954687338268 then ((some (y865 ++ l0 : List (S32))).bind fun y868 => (if y868.length + l1.length < 1954687338268 then ((some (y868 ++ l1 : List (S32))).bind fun y871 => ((catchmentref06_keys.f k y871).bind fun t874 => ((catchmentref06_values.f k y871).bind fun t877 => (catchmentref06_Alike.l0 k l0 l1 t874 t877 0)))) else (none))) else (none))
def catchmentref06_Alike.T10 : Bool × List (List Nat × List Nat) := (true, [([], []), ([], []), ([], []), ([], []), ([2, 3], [2, 3]), ([4], [4]), ([], []), ([], []), ([6, 7], [6, 7]), ([8], [8]), ([0, 1, 5, 9], [0, 1, 5, 9]), ([10], [10])])
def catchmentref06_Alike.B10 : List Nat := [0, 0, 0, 0, 12, 28, 0, 0, 192, 448, 1023, 2047]
theorem catchmentref06_Alike.tab10 : rtab .any (opsOf Try.f85 10) = catchmentref06_Alike.T10 := by kernel_rfl
theorem catchmentref06_Alike.bits10 : waitsOk catchmentref06_Alike.T10.2 catchmentref06_Alike.B10 = true := by kernel_rfl
set_option maxHeartbeats 8000000 in
set_option maxRecDepth 100000 in
theorem catchmentref06_Alike.calls (k : Nat) (A0 : Option Addr) (c0 : Nat) (l0 : List (S32)) (A1 : Option Addr) (c1 : Nat) (l1 : List (S32)) (r : Bool) (w : World) (hr0 : Kd.C k32 w A0 l0.length l0) (hc0 : l0.length ≤ c0) (hr1 : Kd.C k32 w A1 l1.length l1) (hc1 : l1.length ≤ c1) (h : catchmentref06_Alike.f k l0 l1 = some r) :
  Calls Try.prog 85 #[.slice A0 l0.length c0, .slice A1 l1.length c1] w fun e w' => e = .returned (.bool r) ∧ Below w.heap.size w w' := by
 have HR0 := Aside0.mk hr0
 have HC0 := Aside0.mk hc0
 clear hr0 hc0
 have HR1 := Aside0.mk hr1
 have HC1 := Aside0.mk hc1
 clear hr1 hc1
 have HB := Aside0.mk (Below.refl w.heap.size w)
 have H : ((some (([] : List (S32)) : List (S32))).bind fun y865 => (if y865.length + l0.length < 1954687338268 then ((some (y865 ++ l0 : List (S32))).bind fun y868 => (if y868.length + l1.length < 1954687338268 then ((some (y868 ++ l1 : List (S32))).bind fun y871 => ((catchmentref06_keys.f k y871).bind fun t874 => ((catchmentref06_values.f k y871).bind fun t877 => (catchmentref06_Alike.l0 k l0 l1 t874 t877 0)))) else (none))) else (none))) = some r := h
 clear h
 obtain ⟨y865, hy865⟩ : ∃ y_ : List (S32), y_ = (([] : List (S32))) := ⟨_, rfl⟩
 replace H : (if y865.length + l0.length < 1954687338268 then ((some (y865 ++ l0 : List (S32))).bind fun y868 => (if y868.length + l1.length < 1954687338268 then ((some (y868 ++ l1 : List (S32))).bind fun y871 => ((catchmentref06_keys.f k y871).bind fun t874 => ((catchmentref06_values.f k y871).bind fun t877 => (catchmentref06_Alike.l0 k l0 l1 t874 t877 0)))) else (none))) else (none)) = some r := by first | (rw [hy865]; with_reducible exact H) | (have H2_ := (Option.bind_some _ _).symm.trans H; rw [hy865]; with_reducible exact H2_) | (have H2_ := (Option.bind_some _ _).symm.trans H; with_reducible exact H2_) | with_reducible exact H | (rw [hy865]; exact H) | exact H
 have Ny865 := Aside0.mk hy865
 clear hy865
 by_cases c3 : y865.length + l0.length < 1954687338268
 ·rw [if_pos c3] at H
  have LMc3 := Aside0.mk c3
  clear c3
  obtain ⟨y868, hy868⟩ : ∃ y_ : List (S32), y_ = (y865 ++ l0) := ⟨_, rfl⟩
  replace H : (if y868.length + l1.length < 1954687338268 then ((some (y868 ++ l1 : List (S32))).bind fun y871 => ((catchmentref06_keys.f k y871).bind fun t874 => ((catchmentref06_values.f k y871).bind fun t877 => (catchmentref06_Alike.l0 k l0 l1 t874 t877 0)))) else (none)) = some r := by first | (rw [hy868]; with_reducible exact H) | (have H2_ := (Option.bind_some _ _).symm.trans H; rw [hy868]; with_reducible exact H2_) | (have H2_ := (Option.bind_some _ _).symm.trans H; with_reducible exact H2_) | with_reducible exact H | (rw [hy868]; exact H) | exact H
  have Ny868 := Aside0.mk hy868
  clear hy868
  by_cases c4 : y868.length + l1.length < 1954687338268
  ·rw [if_pos c4] at H
   have LMc4 := Aside0.mk c4
   clear c4
   obtain ⟨y871, hy871⟩ : ∃ y_ : List (S32), y_ = (y868 ++ l1) := ⟨_, rfl⟩
   replace H : ((catchmentref06_keys.f k y871).bind fun t874 => ((catchmentref06_values.f k y871).bind fun t877 => (catchmentref06_Alike.l0 k l0 l1 t874 t877 0))) = some r := by first | (rw [hy871]; with_reducible exact H) | (have H2_ := (Option.bind_some _ _).symm.trans H; rw [hy871]; with_reducible exact H2_) | (have H2_ := (Option.bind_some _ _).symm.trans H; with_reducible exact H2_) | with_reducible exact H | (rw [hy871]; exact H) | exact H
   have Ny871 := Aside0.mk hy871
   clear hy871
   replace H := Option.bind_eq_some_iff.mp H
   obtain ⟨t874, A50, H⟩ := H
   replace H : ((catchmentref06_values.f k y871).bind fun t877 => (catchmentref06_Alike.l0 k l0 l1 t874 t877 0)) = some r := H
   have A5 := Aside0.mk A50
   clear A50
   replace H := Option.bind_eq_some_iff.mp H
   obtain ⟨t877, A60, H⟩ := H
   replace H : (catchmentref06_Alike.l0 k l0 l1 t874 t877 0) = some r := H
   have A6 := Aside0.mk A60
   clear A60
   have H' := Aside0.mk H
   clear H
   go_enter Try.func85, Try.ntmps85
   go_wp2_with (first | ((with_reducible refine gate_dst (N := 10) rfl ?_); refine Kd.R_lit k32 _ 32 ?hg (N := 10) ?hd (xs := ([] : List (S32))) (inner := []) (ok := fun _ => True) (okp := fun _ => True) ?hr ?hp (fun _ hk => hk) trivial (Below.refl _ _) (Nat.le_refl _) (by simp) ?_; (case hd => rfl); (case hg => rfl); (case hr => first | (go_simp; done) | (go_simp; rfl)); (case hp => exact (Reps.none _ _)); intro v866 w7 ho8 hb hg_ hnew_; clear hg_ hnew_; (first | rw [← Ny865.out] at ho8 | (simp only [Int.reduceToNat] at ho8; rw [← Ny865.out] at ho8)); have n0_ := Aside0.mk (Kd.R_lower ho8 (wZ bW_)); have n1_ := Aside0.mk (wT bW_ hb); clear HB; have HO867 := n0_; have HB := n1_; clear n0_ n1_; clear hb ho8) | ((with_reducible refine gate_builtin (b := .append) (xs := #[.tmp 10, .tmp 11]) rfl ?_); at_builtin; refine Kd.R_append_rows k32 (w0 := w) w.heap.size rfl (.tmp 10) (.tmp 11) 22 32 (.agg #[(.int .u8 0), (.int .i64 0), (.string ⟨#[]⟩), (.string ⟨#[]⟩), (.string ⟨#[]⟩), (.int .u64 0)]) 72 rfl Try.underlying22 info32 rfl (by decide) (by omega) v866 y865 l0 _ _ _ (fun _ => True) (fun _ => False) rfl rfl ?aO ?aR (fun _ _ h => h) (fun _ h => h.elim) ?aF ?aB ?aS ?aL ?_; (case aR => repeat (first | exact (Kd.C_below HR0.out HB.out) | (with_reducible refine Kd.C_alloc ?_ _) | (with_reducible refine Kd.C_drewN ?_ _) | (with_reducible refine Kd.C_drew ?_))); (case aB => exact bW_); (case aF => exact (fun _ _ => trivial)); (case aO => exact (kR_ HO867.out)); (case aS => exact (wZ bW_)); (case aL => have := LMc3.out; omega); intro v869 w9 ho hb hg hat; rw [← Ny868.out] at ho; have n0_ := Aside0.mk (hb); have n1_ := Aside0.mk (ho); clear HB; clear HO867; have HB := n0_; have HO870 := n1_; clear n0_ n1_; clear ho hb hg hat) | ((with_reducible refine gate_builtin (b := .append) (xs := #[.tmp 12, .tmp 13]) rfl ?_); at_builtin; refine Kd.R_append_rows k32 (w0 := w) w.heap.size rfl (.tmp 12) (.tmp 13) 22 32 (.agg #[(.int .u8 0), (.int .i64 0), (.string ⟨#[]⟩), (.string ⟨#[]⟩), (.string ⟨#[]⟩), (.int .u64 0)]) 72 rfl Try.underlying22 info32 rfl (by decide) (by omega) v869 y868 l1 _ _ _ (fun _ => True) (fun _ => False) rfl rfl ?aO ?aR (fun _ _ h => h) (fun _ h => h.elim) ?aF ?aB ?aS ?aL ?_; (case aR => repeat (first | exact (Kd.C_below HR1.out HB.out) | (with_reducible refine Kd.C_alloc ?_ _) | (with_reducible refine Kd.C_drewN ?_ _) | (with_reducible refine Kd.C_drew ?_))); (case aB => exact bW_); (case aF => exact (fun _ _ => trivial)); (case aO => exact (kR_ HO870.out)); (case aS => exact (wZ bW_)); (case aL => have := LMc4.out; omega); intro v872 w10 ho hb hg hat; rw [← Ny871.out] at ho; have n0_ := Aside0.mk (hb); have n1_ := Aside0.mk (ho); clear HB; clear HO870; have HB := n0_; have HO873 := n1_; clear n0_ n1_; clear ho hb hg hat; obtain ⟨Ao11, co11, eo11⟩ := Kd.R_slice HO873.out; subst eo11) | ((with_reducible refine gate_callee (f := 114) rfl ?_); refine goesL_ (some 16) rfl rfl Try.func114 (by kernel_rfl) rfl #[.slice Ao11 y871.length co11] rfl mS_ ?_; (with_reducible refine (catchmentref06_keys.calls k _ _ y871 t874 _ ?side1 ?side2 A5.out).mono ?_); (case side1 => repeat (first | exact (Kd.R_reads' HO873.out).2.2 | (with_reducible refine Kd.C_alloc ?_ _) | (with_reducible refine Kd.C_drewN ?_ _) | (with_reducible refine Kd.C_drew ?_))); (case side2 => exact (Kd.R_reads' HO873.out).2.1); rintro e w12 ⟨v875, rfl, ho0, hb⟩; refine ⟨_, rfl, ?_⟩; have n0_ := Aside0.mk (Kd.R_below (kR_ HO873.out) hb); have n1_ := Aside0.mk (Kd.R_lower ho0 (wZ bW_)); have n2_ := Aside0.mk (wT bW_ hb); clear HO873; clear HB; have HO873 := n0_; have HO876 := n1_; have HB := n2_; clear n0_ n1_ n2_; (try clear hb); (try clear hb2); (try clear hk); (try clear hi); (try clear ho0)) | ((with_reducible refine gate_callee (f := 115) rfl ?_); refine goesL_ (some 18) rfl rfl Try.func115 (by kernel_rfl) rfl #[.slice Ao11 y871.length co11] rfl mS_ ?_; (with_reducible refine (catchmentref06_values.calls k _ _ y871 t877 _ ?side1 ?side2 A6.out).mono ?_); (case side1 => repeat (first | exact (Kd.R_reads' HO873.out).2.2 | (with_reducible refine Kd.C_alloc ?_ _) | (with_reducible refine Kd.C_drewN ?_ _) | (with_reducible refine Kd.C_drew ?_))); (case side2 => exact (Kd.R_reads' HO873.out).2.1); rintro e w13 ⟨v878, rfl, ho0, hb⟩; refine ⟨_, rfl, ?_⟩; have n0_ := Aside0.mk (Kd.R_below (kR_ HO873.out) hb); have n1_ := Aside0.mk (Kd.R_elder' (kR_ HO876.out) (Kd.R_base ho0) hb); have n2_ := Aside0.mk (Kd.R_lower (Kd.R_new' ho0 (Kd.R_lt (kR_ HO876.out))) (wZ bW_)); have n3_ := Aside0.mk (wT bW_ hb); clear HO873; clear HO876; clear HB; have HO873 := n0_; have HO876 := n1_; have HO879 := n2_; have HB := n3_; clear n0_ n1_ n2_ n3_; (try clear hb); (try clear hb2); (try clear hk); (try clear hi); (try clear ho0)))
   go_loopg [8] k (fun kq v8 w' => ∃ (x8_1 : Int), v8 = .int .i64 x8_1 ∧ Aside0 (catchmentref06_Alike.l0 kq l0 l1 t874 t877 x8_1 = some r) ∧ Aside0 (kq ≤ k) ∧ Aside0 (Kd.R Kd.string 9 w' w.heap.size (fun k_ => some k_ ≠ (v878 : Value).ownBlock) v875 t874) ∧ Aside0 (Kd.R Kd.string 9 w' w.heap.size (fun k_ => some k_ ≠ (v875 : Value).ownBlock) v878 t877) ∧ Aside0 (Below w.heap.size w w'))
   case atStart => exact ⟨(0), (by first | rfl | (simp; done) | (simp [*]; done)), H', ⟨Nat.le_refl _⟩, ⟨by (with_reducible repeat (first | apply Kd.R_alloc | apply Kd.R_drewN | apply Kd.R_drew)); exact Kd.R_mono HO876.out (fun _ hk => hk.2)⟩, ⟨by (with_reducible repeat (first | apply Kd.R_alloc | apply Kd.R_drewN | apply Kd.R_drew)); exact Kd.R_mono HO879.out (fun _ hk => hk.2)⟩, ⟨by repeat (first | (with_reducible first | exact HB.out | apply wA | apply wN | apply w1) | exact HB.out)⟩⟩
   case round =>
    clear H'
    try clear c1
    try clear p2
    try clear c3
    try clear c4
    try clear c8
    try clear c11
    obtain ⟨x8_1, rfl, HA, HK1, HO_6, HO_7, HB⟩ := hrel
    cases gk with
    | zero => exact absurd HA.out (by simp [catchmentref06_Alike.l0])
    | succ k1 =>
     have H := HA.out
     clear HA
     simp only [catchmentref06_Alike.l0] at H
     by_cases c14 : x8_1 < (t874.length : Int)
     ·rw [if_pos c14] at H
      have c14b0 : decide (x8_1 < (t874.length : Int)) = true := decide_eq_true c14
      clear c14
      have H' := Aside0.mk H
      clear H
      obtain ⟨Ao15, co15, eo15⟩ := Kd.R_slice HO_6.out
      subst eo15
      go_wp2
      go_loopg [9] k1 (fun kq v9 w' => ∃ (x9_2 : Int), v9 = .int .i64 x9_2 ∧ Aside0 (catchmentref06_Alike.l1 kq l0 l1 t874 t877 x8_1 x9_2 = some r) ∧ Aside0 (kq ≤ k1) ∧ Aside0 (Kd.R Kd.string 9 w' w.heap.size (fun k_ => some k_ ≠ (v878 : Value).ownBlock) (.slice Ao15 t874.length co15) t874) ∧ Aside0 (Kd.R Kd.string 9 w' w.heap.size (fun k_ => some k_ ≠ ((.slice Ao15 t874.length co15) : Value).ownBlock) v878 t877) ∧ Aside0 (Below w.heap.size w w'))
      case atStart => exact ⟨(0), (by first | rfl | (simp; done) | (simp [*]; done)), H', ⟨Nat.le_refl _⟩, ⟨by (with_reducible repeat (first | apply Kd.R_alloc | apply Kd.R_drewN | apply Kd.R_drew)); exact HO_6.out⟩, ⟨by (with_reducible repeat (first | apply Kd.R_alloc | apply Kd.R_drewN | apply Kd.R_drew)); exact HO_7.out⟩, ⟨by repeat (first | (with_reducible first | exact HB.out | apply wA | apply wN | apply w1) | exact HB.out)⟩⟩
      case round =>
       clear H'
       try clear c1
       try clear p2
       try clear c3
       try clear c4
       try clear c8
       try clear c11
       try clear c14
       try clear c14b0
       try clear p2
       obtain ⟨x9_2, rfl, HA, HK2, HO_6, HO_7, HB⟩ := hrel
       cases gk with
       | zero => exact absurd HA.out (by simp [catchmentref06_Alike.l1])
       | succ k2 =>
        have H := HA.out
        clear HA
        simp only [catchmentref06_Alike.l1] at H
        by_cases c16 : x9_2 < (t877.length : Int)
        ·rw [if_pos c16] at H
         have c16b0 : decide (x9_2 < (t877.length : Int)) = true := decide_eq_true c16
         clear c16
         by_cases c17 : 0 ≤ x8_1
         ·rw [if_pos c17] at H
          have c17b0 : decide (0 ≤ x8_1) = true := decide_eq_true c17
          clear c17
          by_cases c18 : x8_1 < (t874.length : Int)
          ·rw [if_pos c18] at H
           have c18b0 : decide (x8_1 < (t874.length : Int)) = true := decide_eq_true c18
           clear c18
           by_cases c19 : 0 ≤ x9_2
           ·rw [if_pos c19] at H
            have c19b0 : decide (0 ≤ x9_2) = true := decide_eq_true c19
            clear c19
            replace H := Option.bind_eq_some_iff.mp H
            obtain ⟨t882, A200, H⟩ := H
            replace H : (if t882 = true then (catchmentref06_Alike.l1 k2 l0 l1 t874 t877 x8_1 (wrap64 (x9_2 + 1))) else (some false)) = some r := H
            have A20 := Aside0.mk A200
            clear A200
            by_cases c21 : t882 = true
            ·subst c21
             have H1 : (catchmentref06_Alike.l1 k2 l0 l1 t874 t877 x8_1 (wrap64 (x9_2 + 1))) = some r := by rw [if_pos rfl] at H; exact H
             clear H
             have H := H1
             clear H1
             have H' := Aside0.mk H
             clear H
             obtain ⟨Ao22, co22, eo22⟩ := Kd.R_slice HO_7.out
             subst eo22
             try go_wp2
             have n0_ := Aside0.mk (Kd.R_drew HO_6.out)
             have n1_ := Aside0.mk (Kd.R_drew HO_7.out)
             have n2_ := Aside0.mk (w1 HB.out)
             clear HO_6
             clear HO_7
             clear HB
             have HO_6 := n0_
             have HO_7 := n1_
             have HB := n2_
             clear n0_ n1_ n2_
             have p880 : 0 ≤ (x8_1 : Int) := of_decide_eq_true (by first | (with_reducible assumption) | assumption)
             have q880 : x8_1 < (t874.length : Int) := of_decide_eq_true (by first | (with_reducible assumption) | assumption)
             obtain ⟨ad880, e880, hx880_0⟩ := Kd.at_string (Kd.R_reads' HO_6.out).2.2 x8_1 p880 q880
             cases e880
             replace p880 := eq_true p880
             replace q880 := eq_true q880
             have p881 : 0 ≤ (x9_2 : Int) := of_decide_eq_true (by first | (with_reducible assumption) | assumption)
             have q881 : x9_2 < (t877.length : Int) := of_decide_eq_true (by first | (with_reducible assumption) | assumption)
             obtain ⟨ad881, e881, hx881_0⟩ := Kd.at_string (Kd.R_reads' HO_7.out).2.2 x9_2 p881 q881
             cases e881
             replace p881 := eq_true p881
             replace q881 := eq_true q881
             refine start_ (n := 12) (S := fun w' => w'.cell? (ad880.add (x8_1).toNat) = some (.string (rdOf ByteArray.empty t874 x8_1)) ∧ w'.cell? (ad881.add (x9_2).toNat) = some (.string (rdOf ByteArray.empty t877 x9_2))) (ds := []) #[ZZ,ZZ,ZZ,ZZ,ZZ,ZZ,ZZ,ZZ,ZZ,ZZ,ZZ,ZZ] (by kernel_rfl) rfl rfl ⟨hx880_0, hx881_0⟩ (fun hHeld => ?_); refine with_tabW catchmentref06_Alike.tab10 catchmentref06_Alike.bits10 (fun HT_ HW_ => ?_)
             generalize wr.drew = w23 at HO_6 HO_7 HB hx880_0 hx881_0 hHeld ⊢
             refine pU_ 0 31 #[YY,ZZ,ZZ,ZZ,ZZ,ZZ,ZZ,ZZ,ZZ,ZZ,ZZ,ZZ] ?_
             refine pU_ 1 32 #[YY,YY,ZZ,ZZ,ZZ,ZZ,ZZ,ZZ,ZZ,ZZ,ZZ,ZZ] ?_
             refine pU_ 2 33 #[YY,YY,YY,ZZ,ZZ,ZZ,ZZ,ZZ,ZZ,ZZ,ZZ,ZZ] ?_
             refine pU_ 3 34 #[YY,YY,YY,YY,ZZ,ZZ,ZZ,ZZ,ZZ,ZZ,ZZ,ZZ] ?_
             refine pU_ 4 35 #[YY,YY,YY,YY,YY,ZZ,ZZ,ZZ,ZZ,ZZ,ZZ,ZZ] ?_
             refine pU_ 6 37 #[YY,YY,YY,YY,YY,ZZ,YY,ZZ,ZZ,ZZ,ZZ,ZZ] ?_
             refine pU_ 7 38 #[YY,YY,YY,YY,YY,ZZ,YY,YY,ZZ,ZZ,ZZ,ZZ] ?_
             refine pU_ 8 39 #[YY,YY,YY,YY,YY,ZZ,YY,YY,YY,ZZ,ZZ,ZZ] ?_
             refine take_ (i := 5) (N := some 36) (v := ?_) (a' := ?_) #[YY,YY,YY,YY,YY,YY,YY,YY,YY,ZZ,ZZ,ZZ] rfl rfl (take_ofW HT_.out HW_.out (by kernel_rfl)) (fun _ _ _ h => h) (Or.inl ⟨by rfl, ?_⟩) hHeld ?_ ?_
             rotate_left
             ·rintro w' ⟨s0, s1⟩
              go_simp
              with_reducible rfl
             rotate_left
             ·simp only [Act.put, sA1, sA2, sA3, i64_w, i32_w]
              rfl
             refine take_ (i := 9) (N := some 40) (v := ?_) (a' := ?_) #[YY,YY,YY,YY,YY,YY,YY,YY,YY,YY,ZZ,ZZ] rfl rfl (take_ofW HT_.out HW_.out (by kernel_rfl)) (fun _ _ _ h => h) (Or.inl ⟨by rfl, ?_⟩) hHeld ?_ ?_
             rotate_left
             ·rintro w' ⟨s0, s1⟩
              go_simp
              with_reducible rfl
             rotate_left
             ·simp only [Act.put, sA1, sA2, sA3, i64_w, i32_w]
              rfl
             refine one_ (i := 10) (N := some 41) #[YY,YY,YY,YY,YY,YY,YY,YY,YY,YY,YY,ZZ] rfl rfl (one_of HT_.out (by kernel_rfl)) (by decide) (fun K hK => ?_)
             refine goes_ Try.func52 (by kernel_rfl) rfl #[.slice A0 l0.length c0, .slice A1 l1.length c1, .string (rdOf ByteArray.empty t874 x8_1), .string (rdOf ByteArray.empty t877 x9_2)] (by rfl) rfl rfl mS_ ?_
             with_reducible refine (catchmentref06_AlikeAt.calls k2 _ _ l0 _ _ l1 (rdOf ByteArray.empty t874 x8_1) (rdOf ByteArray.empty t877 x9_2) true _ ?side1 ?side2 ?side3 ?side4 A20.out).mono ?_
             (case side1 => repeat (first | exact (Kd.C_below HR0.out HB.out) | (with_reducible refine Kd.C_alloc ?_ _) | (with_reducible refine Kd.C_drewN ?_ _) | (with_reducible refine Kd.C_drew ?_)))
             (case side2 => exact HC0.out)
             (case side3 => repeat (first | exact (Kd.C_below HR1.out HB.out) | (with_reducible refine Kd.C_alloc ?_ _) | (with_reducible refine Kd.C_drewN ?_ _) | (with_reducible refine Kd.C_drew ?_)))
             (case side4 => exact HC1.out)
             rintro e w24 ⟨rfl, hb⟩
             have HS0_ := (hb.cell (World.block_lt_of_cell? _ _ (hHeld.1))).trans (hHeld.1)
             have HS1_ := (hb.cell (World.block_lt_of_cell? _ _ (hHeld.2))).trans (hHeld.2)
             refine ⟨_, rfl, ?_⟩
             have n0_ := Aside0.mk (Kd.R_below (kR_ HO_6.out) hb)
             have n1_ := Aside0.mk (Kd.R_below (kR_ HO_7.out) hb)
             have n2_ := Aside0.mk (wT bW_ hb)
             clear HO_6
             clear HO_7
             clear HB
             have HO_6 := n0_
             have HO_7 := n1_
             have HB := n2_
             clear n0_ n1_ n2_
             (try clear hb)
             (try clear hb2)
             (try clear hk)
             (try clear hi)
             refine hK.out _ _ ⟨HS0_, HS1_⟩ (fun hHeld => ?_)
             clear hK K
             refine norm_ (a' := ?_) ?_ ?_
             rotate_left
             ·show Act.put _ (some 41) _ = _
              simp only [Act.put, sA1, sA2, sA3, i64_w, i32_w]
              rfl
             refine pU_ 11 42 #[YY,YY,YY,YY,YY,YY,YY,YY,YY,YY,YY,YY] ?_
             refine done_ (done_of HT_.out (by kernel_rfl)) ?_
             try go_wp2
             go_roundg k2
             case measure => have := HK1.out; have := HK2.out; omega
             case rel => exact ⟨(wrap64 (x9_2 + 1)), (by first | rfl | (simp; done) | (simp [*]; done)), H', ⟨by have := HK1.out; have := HK2.out; omega⟩, ⟨by (with_reducible repeat (first | apply Kd.R_alloc | apply Kd.R_drewN | apply Kd.R_drew)); exact HO_6.out⟩, ⟨by (with_reducible repeat (first | apply Kd.R_alloc | apply Kd.R_drewN | apply Kd.R_drew)); exact HO_7.out⟩, ⟨by repeat (first | (with_reducible first | exact HB.out | apply wA | apply wN | apply w1) | exact HB.out)⟩⟩
            ·replace c21 := Bool.eq_false_iff.mpr c21
             subst c21
             have H1 : (some false) = some r := by rw [if_neg (show ¬ (false = true) by decide)] at H; exact H
             clear H
             have H := H1
             clear H1
             obtain rfl := Option.some.inj H
             obtain ⟨Ao25, co25, eo25⟩ := Kd.R_slice HO_7.out
             subst eo25
             try go_wp2
             have n0_ := Aside0.mk (Kd.R_drew HO_6.out)
             have n1_ := Aside0.mk (Kd.R_drew HO_7.out)
             have n2_ := Aside0.mk (w1 HB.out)
             clear HO_6
             clear HO_7
             clear HB
             have HO_6 := n0_
             have HO_7 := n1_
             have HB := n2_
             clear n0_ n1_ n2_
             have p880 : 0 ≤ (x8_1 : Int) := of_decide_eq_true (by first | (with_reducible assumption) | assumption)
             have q880 : x8_1 < (t874.length : Int) := of_decide_eq_true (by first | (with_reducible assumption) | assumption)
             obtain ⟨ad880, e880, hx880_0⟩ := Kd.at_string (Kd.R_reads' HO_6.out).2.2 x8_1 p880 q880
             cases e880
             replace p880 := eq_true p880
             replace q880 := eq_true q880
             have p881 : 0 ≤ (x9_2 : Int) := of_decide_eq_true (by first | (with_reducible assumption) | assumption)
             have q881 : x9_2 < (t877.length : Int) := of_decide_eq_true (by first | (with_reducible assumption) | assumption)
             obtain ⟨ad881, e881, hx881_0⟩ := Kd.at_string (Kd.R_reads' HO_7.out).2.2 x9_2 p881 q881
             cases e881
             replace p881 := eq_true p881
             replace q881 := eq_true q881
             refine start_ (n := 12) (S := fun w' => w'.cell? (ad880.add (x8_1).toNat) = some (.string (rdOf ByteArray.empty t874 x8_1)) ∧ w'.cell? (ad881.add (x9_2).toNat) = some (.string (rdOf ByteArray.empty t877 x9_2))) (ds := []) #[ZZ,ZZ,ZZ,ZZ,ZZ,ZZ,ZZ,ZZ,ZZ,ZZ,ZZ,ZZ] (by kernel_rfl) rfl rfl ⟨hx880_0, hx881_0⟩ (fun hHeld => ?_); refine with_tabW catchmentref06_Alike.tab10 catchmentref06_Alike.bits10 (fun HT_ HW_ => ?_)
             generalize wr.drew = w26 at HO_6 HO_7 HB hx880_0 hx881_0 hHeld ⊢
             refine pU_ 0 31 #[YY,ZZ,ZZ,ZZ,ZZ,ZZ,ZZ,ZZ,ZZ,ZZ,ZZ,ZZ] ?_
             refine pU_ 1 32 #[YY,YY,ZZ,ZZ,ZZ,ZZ,ZZ,ZZ,ZZ,ZZ,ZZ,ZZ] ?_
             refine pU_ 2 33 #[YY,YY,YY,ZZ,ZZ,ZZ,ZZ,ZZ,ZZ,ZZ,ZZ,ZZ] ?_
             refine pU_ 3 34 #[YY,YY,YY,YY,ZZ,ZZ,ZZ,ZZ,ZZ,ZZ,ZZ,ZZ] ?_
             refine pU_ 4 35 #[YY,YY,YY,YY,YY,ZZ,ZZ,ZZ,ZZ,ZZ,ZZ,ZZ] ?_
             refine pU_ 6 37 #[YY,YY,YY,YY,YY,ZZ,YY,ZZ,ZZ,ZZ,ZZ,ZZ] ?_
             refine pU_ 7 38 #[YY,YY,YY,YY,YY,ZZ,YY,YY,ZZ,ZZ,ZZ,ZZ] ?_
             refine pU_ 8 39 #[YY,YY,YY,YY,YY,ZZ,YY,YY,YY,ZZ,ZZ,ZZ] ?_
             refine take_ (i := 5) (N := some 36) (v := ?_) (a' := ?_) #[YY,YY,YY,YY,YY,YY,YY,YY,YY,ZZ,ZZ,ZZ] rfl rfl (take_ofW HT_.out HW_.out (by kernel_rfl)) (fun _ _ _ h => h) (Or.inl ⟨by rfl, ?_⟩) hHeld ?_ ?_
             rotate_left
             ·rintro w' ⟨s0, s1⟩
              go_simp
              with_reducible rfl
             rotate_left
             ·simp only [Act.put, sA1, sA2, sA3, i64_w, i32_w]
              rfl
             refine take_ (i := 9) (N := some 40) (v := ?_) (a' := ?_) #[YY,YY,YY,YY,YY,YY,YY,YY,YY,YY,ZZ,ZZ] rfl rfl (take_ofW HT_.out HW_.out (by kernel_rfl)) (fun _ _ _ h => h) (Or.inl ⟨by rfl, ?_⟩) hHeld ?_ ?_
             rotate_left
             ·rintro w' ⟨s0, s1⟩
              go_simp
              with_reducible rfl
             rotate_left
             ·simp only [Act.put, sA1, sA2, sA3, i64_w, i32_w]
              rfl
             refine one_ (i := 10) (N := some 41) #[YY,YY,YY,YY,YY,YY,YY,YY,YY,YY,YY,ZZ] rfl rfl (one_of HT_.out (by kernel_rfl)) (by decide) (fun K hK => ?_)
             refine goes_ Try.func52 (by kernel_rfl) rfl #[.slice A0 l0.length c0, .slice A1 l1.length c1, .string (rdOf ByteArray.empty t874 x8_1), .string (rdOf ByteArray.empty t877 x9_2)] (by rfl) rfl rfl mS_ ?_
             with_reducible refine (catchmentref06_AlikeAt.calls k2 _ _ l0 _ _ l1 (rdOf ByteArray.empty t874 x8_1) (rdOf ByteArray.empty t877 x9_2) false _ ?side1 ?side2 ?side3 ?side4 A20.out).mono ?_
             (case side1 => repeat (first | exact (Kd.C_below HR0.out HB.out) | (with_reducible refine Kd.C_alloc ?_ _) | (with_reducible refine Kd.C_drewN ?_ _) | (with_reducible refine Kd.C_drew ?_)))
             (case side2 => exact HC0.out)
             (case side3 => repeat (first | exact (Kd.C_below HR1.out HB.out) | (with_reducible refine Kd.C_alloc ?_ _) | (with_reducible refine Kd.C_drewN ?_ _) | (with_reducible refine Kd.C_drew ?_)))
             (case side4 => exact HC1.out)
             rintro e w27 ⟨rfl, hb⟩
             have HS0_ := (hb.cell (World.block_lt_of_cell? _ _ (hHeld.1))).trans (hHeld.1)
             have HS1_ := (hb.cell (World.block_lt_of_cell? _ _ (hHeld.2))).trans (hHeld.2)
             refine ⟨_, rfl, ?_⟩
             have n0_ := Aside0.mk (Kd.R_below (kR_ HO_6.out) hb)
             have n1_ := Aside0.mk (Kd.R_below (kR_ HO_7.out) hb)
             have n2_ := Aside0.mk (wT bW_ hb)
             clear HO_6
             clear HO_7
             clear HB
             have HO_6 := n0_
             have HO_7 := n1_
             have HB := n2_
             clear n0_ n1_ n2_
             (try clear hb)
             (try clear hb2)
             (try clear hk)
             (try clear hi)
             refine hK.out _ _ ⟨HS0_, HS1_⟩ (fun hHeld => ?_)
             clear hK K
             refine norm_ (a' := ?_) ?_ ?_
             rotate_left
             ·show Act.put _ (some 41) _ = _
              simp only [Act.put, sA1, sA2, sA3, i64_w, i32_w]
              rfl
             refine pU_ 11 42 #[YY,YY,YY,YY,YY,YY,YY,YY,YY,YY,YY,YY] ?_
             refine done_ (done_of HT_.out (by kernel_rfl)) ?_
             try go_wp2
             go_ret
             exact ⟨eR_, bW_⟩
           ·rw [if_neg c19] at H
            exact absurd H (by simp)
          ·rw [if_neg c18] at H
           exact absurd H (by simp)
         ·rw [if_neg c17] at H
          exact absurd H (by simp)
        ·rw [if_neg c16] at H
         have c16b0 : decide (x9_2 < (t877.length : Int)) = false := decide_eq_false c16
         clear c16
         have H' := Aside0.mk H
         clear H
         obtain ⟨Ao28, co28, eo28⟩ := Kd.R_slice HO_7.out
         subst eo28
         go_wp2
         go_roundg k2
         case measure => have := HK1.out; have := HK2.out; omega
         case rel => exact ⟨(wrap64 (x8_1 + 1)), (by first | rfl | (simp; done) | (simp [*]; done)), H', ⟨by have := HK1.out; have := HK2.out; omega⟩, ⟨by (with_reducible repeat (first | apply Kd.R_alloc | apply Kd.R_drewN | apply Kd.R_drew)); exact HO_6.out⟩, ⟨by (with_reducible repeat (first | apply Kd.R_alloc | apply Kd.R_drewN | apply Kd.R_drew)); exact HO_7.out⟩, ⟨by repeat (first | (with_reducible first | exact HB.out | apply wA | apply wN | apply w1) | exact HB.out)⟩⟩
     ·rw [if_neg c14] at H
      have c14b0 : decide (x8_1 < (t874.length : Int)) = false := decide_eq_false c14
      clear c14
      obtain rfl := Option.some.inj H
      obtain ⟨Ao29, co29, eo29⟩ := Kd.R_slice HO_6.out
      subst eo29
      go_wp2
      go_ret
      exact ⟨eR_, bW_⟩
  ·rw [if_neg c4] at H
   exact absurd H (by simp)
 ·rw [if_neg c3] at H
  exact absurd H (by simp)
def catchmentref37_Swap.f (k : Nat) (l0 : List (S32)) (l1 : List (S32)) : Option (Bool) := (some (([] : List (S32)) : List (S32))).bind fun y883 => (if y883.length + l0.length < 1954687338268 then ((some (y883 ++ l0 : List (S32))).bind fun y886 => (if y886.length + l1.length < 1954687338268 then ((some (([] : List (S32)) : List (S32))).bind fun y892 => (if y892.length + l1.length < 1954687338268 then ((some (y892 ++ l1 : List (S32))).bind fun y895 => (if y895.length + l0.length < 1954687338268 then ((catchmentref06_Alike.f k (y886 ++ l1) (y895 ++ l0)).bind fun t901 => (some t901)) else (none))) else (none))) else (none))) else (none))
set_option maxHeartbeats 8000000 in
set_option maxRecDepth 100000 in
theorem catchmentref37_Swap.calls (k : Nat) (A0 : Option Addr) (c0 : Nat) (l0 : List (S32)) (A1 : Option Addr) (c1 : Nat) (l1 : List (S32)) (r : Bool) (w : World) (hr0 : Kd.C k32 w A0 l0.length l0) (hc0 : l0.length ≤ c0) (hr1 : Kd.C k32 w A1 l1.length l1) (hc1 : l1.length ≤ c1) (h : catchmentref37_Swap.f k l0 l1 = some r) :
  Calls Try.prog 49 #[.slice A0 l0.length c0, .slice A1 l1.length c1] w fun e w' => e = .returned (.bool r) ∧ Below w.heap.size w w' := by
 have HR0 := Aside0.mk hr0
 have HC0 := Aside0.mk hc0
 clear hr0 hc0
 have HR1 := Aside0.mk hr1
 have HC1 := Aside0.mk hc1
 clear hr1 hc1
 have HB := Aside0.mk (Below.refl w.heap.size w)
 have H : ((some (([] : List (S32)) : List (S32))).bind fun y883 => (if y883.length + l0.length < 1954687338268 then ((some (y883 ++ l0 : List (S32))).bind fun y886 => (if y886.length + l1.length < 1954687338268 then ((some (([] : List (S32)) : List (S32))).bind fun y892 => (if y892.length + l1.length < 1954687338268 then ((some (y892 ++ l1 : List (S32))).bind fun y895 => (if y895.length + l0.length < 1954687338268 then ((catchmentref06_Alike.f k (y886 ++ l1) (y895 ++ l0)).bind fun t901 => (some t901)) else (none))) else (none))) else (none))) else (none))) = some r := h
 clear h
 obtain ⟨y883, hy883⟩ : ∃ y_ : List (S32), y_ = (([] : List (S32))) := ⟨_, rfl⟩
 replace H : (if y883.length + l0.length < 1954687338268 then ((some (y883 ++ l0 : List (S32))).bind fun y886 => (if y886.length + l1.length < 1954687338268 then ((some (([] : List (S32)) : List (S32))).bind fun y892 => (if y892.length + l1.length < 1954687338268 then ((some (y892 ++ l1 : List (S32))).bind fun y895 => (if y895.length + l0.length < 1954687338268 then ((catchmentref06_Alike.f k (y886 ++ l1) (y895 ++ l0)).bind fun t901 => (some t901)) else (none))) else (none))) else (none))) else (none)) = some r := by first | (rw [hy883]; with_reducible exact H) | (have H2_ := (Option.bind_some _ _).symm.trans H; rw [hy883]; with_reducible exact H2_) | (have H2_ := (Option.bind_some _ _).symm.trans H; with_reducible exact H2_) | with_reducible exact H | (rw [hy883]; exact H) | exact H
 have Ny883 := Aside0.mk hy883
 clear hy883
 by_cases c3 : y883.length + l0.length < 1954687338268
 ·rw [if_pos c3] at H
  have LMc3 := Aside0.mk c3
  clear c3
  obtain ⟨y886, hy886⟩ : ∃ y_ : List (S32), y_ = (y883 ++ l0) := ⟨_, rfl⟩
  replace H : (if y886.length + l1.length < 1954687338268 then ((some (([] : List (S32)) : List (S32))).bind fun y892 => (if y892.length + l1.length < 1954687338268 then ((some (y892 ++ l1 : List (S32))).bind fun y895 => (if y895.length + l0.length < 1954687338268 then ((catchmentref06_Alike.f k (y886 ++ l1) (y895 ++ l0)).bind fun t901 => (some t901)) else (none))) else (none))) else (none)) = some r := by first | (rw [hy886]; with_reducible exact H) | (have H2_ := (Option.bind_some _ _).symm.trans H; rw [hy886]; with_reducible exact H2_) | (have H2_ := (Option.bind_some _ _).symm.trans H; with_reducible exact H2_) | with_reducible exact H | (rw [hy886]; exact H) | exact H
  have Ny886 := Aside0.mk hy886
  clear hy886
  by_cases c4 : y886.length + l1.length < 1954687338268
  ·rw [if_pos c4] at H
   have LMc4 := Aside0.mk c4
   clear c4
   obtain ⟨y889, hy889⟩ : ∃ y_ : List (S32), y_ = (y886 ++ l1) := ⟨_, rfl⟩
   replace H : ((some (([] : List (S32)) : List (S32))).bind fun y892 => (if y892.length + l1.length < 1954687338268 then ((some (y892 ++ l1 : List (S32))).bind fun y895 => (if y895.length + l0.length < 1954687338268 then ((catchmentref06_Alike.f k y889 (y895 ++ l0)).bind fun t901 => (some t901)) else (none))) else (none))) = some r := by first | (rw [hy889]; with_reducible exact H) | (have H2_ := (Option.bind_some _ _).symm.trans H; rw [hy889]; with_reducible exact H2_) | (have H2_ := (Option.bind_some _ _).symm.trans H; with_reducible exact H2_) | with_reducible exact H | (rw [hy889]; exact H) | exact H
   have Ny889 := Aside0.mk hy889
   clear hy889
   obtain ⟨y892, hy892⟩ : ∃ y_ : List (S32), y_ = (([] : List (S32))) := ⟨_, rfl⟩
   replace H : (if y892.length + l1.length < 1954687338268 then ((some (y892 ++ l1 : List (S32))).bind fun y895 => (if y895.length + l0.length < 1954687338268 then ((catchmentref06_Alike.f k y889 (y895 ++ l0)).bind fun t901 => (some t901)) else (none))) else (none)) = some r := by first | (rw [hy892]; with_reducible exact H) | (have H2_ := (Option.bind_some _ _).symm.trans H; rw [hy892]; with_reducible exact H2_) | (have H2_ := (Option.bind_some _ _).symm.trans H; with_reducible exact H2_) | with_reducible exact H | (rw [hy892]; exact H) | exact H
   have Ny892 := Aside0.mk hy892
   clear hy892
   by_cases c5 : y892.length + l1.length < 1954687338268
   ·rw [if_pos c5] at H
    have LMc5 := Aside0.mk c5
    clear c5
    obtain ⟨y895, hy895⟩ : ∃ y_ : List (S32), y_ = (y892 ++ l1) := ⟨_, rfl⟩
    replace H : (if y895.length + l0.length < 1954687338268 then ((catchmentref06_Alike.f k y889 (y895 ++ l0)).bind fun t901 => (some t901)) else (none)) = some r := by first | (rw [hy895]; with_reducible exact H) | (have H2_ := (Option.bind_some _ _).symm.trans H; rw [hy895]; with_reducible exact H2_) | (have H2_ := (Option.bind_some _ _).symm.trans H; with_reducible exact H2_) | with_reducible exact H | (rw [hy895]; exact H) | exact H
    have Ny895 := Aside0.mk hy895
    clear hy895
    by_cases c6 : y895.length + l0.length < 1954687338268
    ·rw [if_pos c6] at H
     have LMc6 := Aside0.mk c6
     clear c6
     obtain ⟨y898, hy898⟩ : ∃ y_ : List (S32), y_ = (y895 ++ l0) := ⟨_, rfl⟩
     replace H : ((catchmentref06_Alike.f k y889 y898).bind fun t901 => (some t901)) = some r := by first | (rw [hy898]; with_reducible exact H) | (have H2_ := (Option.bind_some _ _).symm.trans H; rw [hy898]; with_reducible exact H2_) | (have H2_ := (Option.bind_some _ _).symm.trans H; with_reducible exact H2_) | with_reducible exact H | (rw [hy898]; exact H) | exact H
     have Ny898 := Aside0.mk hy898
     clear hy898
     replace H := Option.bind_eq_some_iff.mp H
     obtain ⟨t901, A70, H⟩ := H
     replace H : (some t901) = some r := H
     have A7 := Aside0.mk A70
     clear A70
     obtain rfl := Option.some.inj H
     go_enter Try.func49, Try.ntmps49
     go_wp2_with (first | ((with_reducible refine gate_dst (N := 7) rfl ?_); refine Kd.R_lit k32 _ 32 ?hg (N := 7) ?hd (xs := ([] : List (S32))) (inner := []) (ok := fun _ => True) (okp := fun _ => True) ?hr ?hp (fun _ hk => hk) trivial (Below.refl _ _) (Nat.le_refl _) (by simp) ?_; (case hd => rfl); (case hg => rfl); (case hr => first | (go_simp; done) | (go_simp; rfl)); (case hp => exact (Reps.none _ _)); intro v884 w8 ho9 hb hg_ hnew_; clear hg_ hnew_; (first | rw [← Ny883.out] at ho9 | (simp only [Int.reduceToNat] at ho9; rw [← Ny883.out] at ho9)); have n0_ := Aside0.mk (Kd.R_lower ho9 (wZ bW_)); have n1_ := Aside0.mk (wT bW_ hb); clear HB; have HO885 := n0_; have HB := n1_; clear n0_ n1_; clear hb ho9) | ((with_reducible refine gate_builtin (b := .append) (xs := #[.tmp 7, .tmp 8]) rfl ?_); at_builtin; refine Kd.R_append_rows k32 (w0 := w) w.heap.size rfl (.tmp 7) (.tmp 8) 22 32 (.agg #[(.int .u8 0), (.int .i64 0), (.string ⟨#[]⟩), (.string ⟨#[]⟩), (.string ⟨#[]⟩), (.int .u64 0)]) 72 rfl Try.underlying22 info32 rfl (by decide) (by omega) v884 y883 l0 _ _ _ (fun _ => True) (fun _ => False) rfl rfl ?aO ?aR (fun _ _ h => h) (fun _ h => h.elim) ?aF ?aB ?aS ?aL ?_; (case aR => repeat (first | exact (Kd.C_below HR0.out HB.out) | (with_reducible refine Kd.C_alloc ?_ _) | (with_reducible refine Kd.C_drewN ?_ _) | (with_reducible refine Kd.C_drew ?_))); (case aB => exact bW_); (case aF => exact (fun _ _ => trivial)); (case aO => exact (kR_ HO885.out)); (case aS => exact (wZ bW_)); (case aL => have := LMc3.out; omega); intro v887 w10 ho hb hg hat; rw [← Ny886.out] at ho; have n0_ := Aside0.mk (hb); have n1_ := Aside0.mk (ho); clear HB; clear HO885; have HB := n0_; have HO888 := n1_; clear n0_ n1_; clear ho hb hg hat) | ((with_reducible refine gate_builtin (b := .append) (xs := #[.tmp 9, .tmp 10]) rfl ?_); at_builtin; refine Kd.R_append_rows k32 (w0 := w) w.heap.size rfl (.tmp 9) (.tmp 10) 22 32 (.agg #[(.int .u8 0), (.int .i64 0), (.string ⟨#[]⟩), (.string ⟨#[]⟩), (.string ⟨#[]⟩), (.int .u64 0)]) 72 rfl Try.underlying22 info32 rfl (by decide) (by omega) v887 y886 l1 _ _ _ (fun _ => True) (fun _ => False) rfl rfl ?aO ?aR (fun _ _ h => h) (fun _ h => h.elim) ?aF ?aB ?aS ?aL ?_; (case aR => repeat (first | exact (Kd.C_below HR1.out HB.out) | (with_reducible refine Kd.C_alloc ?_ _) | (with_reducible refine Kd.C_drewN ?_ _) | (with_reducible refine Kd.C_drew ?_))); (case aB => exact bW_); (case aF => exact (fun _ _ => trivial)); (case aO => exact (kR_ HO888.out)); (case aS => exact (wZ bW_)); (case aL => have := LMc4.out; omega); intro v890 w11 ho hb hg hat; rw [← Ny889.out] at ho; have n0_ := Aside0.mk (hb); have n1_ := Aside0.mk (ho); clear HB; clear HO888; have HB := n0_; have HO891 := n1_; clear n0_ n1_; clear ho hb hg hat) | ((with_reducible refine gate_dst (N := 12) rfl ?_); refine Kd.R_lit k32 _ 32 ?hg (N := 12) ?hd (xs := ([] : List (S32))) (inner := []) (ok := fun _ => True) (okp := fun _ => True) ?hr ?hp (fun _ hk => hk) trivial (Below.refl _ _) (Nat.le_refl _) (by simp) ?_; (case hd => rfl); (case hg => rfl); (case hr => first | (go_simp; done) | (go_simp; rfl)); (case hp => exact (Reps.none _ _)); intro v893 w12 ho13 hb hg_ hnew_; clear hg_ hnew_; (first | rw [← Ny892.out] at ho13 | (simp only [Int.reduceToNat] at ho13; rw [← Ny892.out] at ho13)); have n0_ := Aside0.mk (Kd.R_elder' (kR_ HO891.out) (Kd.R_base ho13) hb); have n1_ := Aside0.mk (Kd.R_lower (Kd.R_new' ho13 (Kd.R_lt (kR_ HO891.out))) (wZ bW_)); have n2_ := Aside0.mk (wT bW_ hb); clear HO891; clear HB; have HO891 := n0_; have HO894 := n1_; have HB := n2_; clear n0_ n1_ n2_; clear hb ho13) | ((with_reducible refine gate_builtin (b := .append) (xs := #[.tmp 12, .tmp 13]) rfl ?_); at_builtin; refine Kd.R_append_rows k32 (w0 := w) w.heap.size rfl (.tmp 12) (.tmp 13) 22 32 (.agg #[(.int .u8 0), (.int .i64 0), (.string ⟨#[]⟩), (.string ⟨#[]⟩), (.string ⟨#[]⟩), (.int .u64 0)]) 72 rfl Try.underlying22 info32 rfl (by decide) (by omega) v893 y892 l1 _ _ _ (fun k_ => some k_ ≠ (v890 : Value).ownBlock) (fun _ => False) rfl rfl ?aO ?aR (fun _ _ h => h) (fun _ h => h.elim) ?aF ?aB ?aS ?aL ?_; (case aR => repeat (first | exact (Kd.C_below HR1.out HB.out) | (with_reducible refine Kd.C_alloc ?_ _) | (with_reducible refine Kd.C_drewN ?_ _) | (with_reducible refine Kd.C_drew ?_))); (case aB => exact bW_); (case aF => exact (fun k_ hk => Kd.fresh' (Kd.R_lt (kR_ HO891.out)) k_ hk)); (case aO => exact (by (with_reducible repeat (first | apply Kd.R_alloc | apply Kd.R_drewN | apply Kd.R_drew)); exact Kd.R_mono HO894.out (fun _ hk => hk.2))); (case aS => exact (wZ bW_)); (case aL => have := LMc5.out; omega); intro v896 w14 ho hb hg hat; rw [← Ny895.out] at ho; have n0_ := Aside0.mk (Kd.R_after (ok := (fun _ => True)) (kR_ HO891.out) hg hat); have n1_ := Aside0.mk (hb); have n2_ := Aside0.mk (ho); clear HO891; clear HB; clear HO894; have HO891 := n0_; have HB := n1_; have HO897 := n2_; clear n0_ n1_ n2_; clear ho hb hg hat) | ((with_reducible refine gate_builtin (b := .append) (xs := #[.tmp 14, .tmp 15]) rfl ?_); at_builtin; refine Kd.R_append_rows k32 (w0 := w) w.heap.size rfl (.tmp 14) (.tmp 15) 22 32 (.agg #[(.int .u8 0), (.int .i64 0), (.string ⟨#[]⟩), (.string ⟨#[]⟩), (.string ⟨#[]⟩), (.int .u64 0)]) 72 rfl Try.underlying22 info32 rfl (by decide) (by omega) v896 y895 l0 _ _ _ (fun k_ => some k_ ≠ (v890 : Value).ownBlock) (fun _ => False) rfl rfl ?aO ?aR (fun _ _ h => h) (fun _ h => h.elim) ?aF ?aB ?aS ?aL ?_; (case aR => repeat (first | exact (Kd.C_below HR0.out HB.out) | (with_reducible refine Kd.C_alloc ?_ _) | (with_reducible refine Kd.C_drewN ?_ _) | (with_reducible refine Kd.C_drew ?_))); (case aB => exact bW_); (case aF => exact (fun k_ hk => Kd.fresh' (Kd.R_lt (kR_ HO891.out)) k_ hk)); (case aO => exact (kR_ HO897.out)); (case aS => exact (wZ bW_)); (case aL => have := LMc6.out; omega); intro v899 w15 ho hb hg hat; rw [← Ny898.out] at ho; have n0_ := Aside0.mk (Kd.R_after (ok := (fun _ => True)) (kR_ HO891.out) hg hat); have n1_ := Aside0.mk (hb); have n2_ := Aside0.mk (ho); clear HO891; clear HB; clear HO897; have HO891 := n0_; have HB := n1_; have HO900 := n2_; clear n0_ n1_ n2_; clear ho hb hg hat; obtain ⟨Ao16, co16, eo16⟩ := Kd.R_slice HO891.out; subst eo16; obtain ⟨Ao17, co17, eo17⟩ := Kd.R_slice HO900.out; subst eo17) | ((with_reducible refine gate_callee (f := 85) rfl ?_); refine goesL_ (some 19) rfl rfl Try.func85 (by kernel_rfl) rfl #[.slice Ao16 y889.length co16, .slice Ao17 y898.length co17] rfl mS_ ?_; (with_reducible refine (catchmentref06_Alike.calls k _ _ y889 _ _ y898 t901 _ ?side1 ?side2 ?side3 ?side4 A7.out).mono ?_); (case side1 => repeat (first | exact (Kd.R_reads' HO891.out).2.2 | (with_reducible refine Kd.C_alloc ?_ _) | (with_reducible refine Kd.C_drewN ?_ _) | (with_reducible refine Kd.C_drew ?_))); (case side2 => exact (Kd.R_reads' HO891.out).2.1); (case side3 => repeat (first | exact (Kd.R_reads' HO900.out).2.2 | (with_reducible refine Kd.C_alloc ?_ _) | (with_reducible refine Kd.C_drewN ?_ _) | (with_reducible refine Kd.C_drew ?_))); (case side4 => exact (Kd.R_reads' HO900.out).2.1); rintro e w18 ⟨rfl, hb⟩; refine ⟨_, rfl, ?_⟩; have n0_ := Aside0.mk (Kd.R_below (kR_ HO891.out) hb); have n1_ := Aside0.mk (Kd.R_below (kR_ HO900.out) hb); have n2_ := Aside0.mk (wT bW_ hb); clear HO891; clear HO900; clear HB; have HO891 := n0_; have HO900 := n1_; have HB := n2_; clear n0_ n1_ n2_; (try clear hb); (try clear hb2); (try clear hk); (try clear hi)))
     go_ret
     exact ⟨eR_, bW_⟩
    ·rw [if_neg c6] at H
     exact absurd H (by simp)
   ·rw [if_neg c5] at H
    exact absurd H (by simp)
  ·rw [if_neg c4] at H
   exact absurd H (by simp)
 ·rw [if_neg c3] at H
  exact absurd H (by simp)
def catchmentref02_Meet.f (a0_0 : BA) (a0_1 : BA) (a1_0 : BA) (a1_1 : BA) : Option (ByteArray × ByteArray × Bool) := some (Wm.meet a0_0 a0_1 a1_0 a1_1)
theorem catchmentref02_Meet.calls (a0_0 : BA) (a0_1 : BA) (a1_0 : BA) (a1_1 : BA) (r1 : BA) (r2 : BA) (r3 : Bool) (w : World) (h : catchmentref02_Meet.f a0_0 a0_1 a1_0 a1_1 = some (r1, r2, r3)) :
  Calls Try.prog 50 #[.agg #[.string a0_0, .string a0_1], .agg #[.string a1_0, .string a1_1]] w fun e w' => e = .returned (.tuple #[.agg #[.string r1, .string r2], .bool r3]) ∧ Below w.heap.size w w' := by
 have h2 := Option.some.inj h
 have h3 := Wm.meet_any a0_0 a0_1 a1_0 a1_1 w
 rw [h2] at h3
 exact h3
def catchmentref04_Span.f (a0_0 : Int) (a0_1 : Int) (a0_2 : BA) (a0_3 : BA) (a0_4 : BA) (a0_5 : Int) : Option (ByteArray × ByteArray) := (catchmentref04_Point.f a0_0 a0_1 a0_2 a0_3 a0_4 a0_5).bind fun t904 => (if t904 = true then (if a0_2.size + 1 ≤ 9223372036854775807 then (some (a0_2, a0_2 ++ (⟨#[0]⟩ : BA))) else (none)) else (if a0_0 = 4 then (some (a0_2, a0_3)) else (some ((⟨#[]⟩ : BA), (⟨#[]⟩ : BA)))))
set_option maxHeartbeats 8000000 in
set_option maxRecDepth 100000 in
theorem catchmentref04_Span.calls (a0_0 : Int) (a0_1 : Int) (a0_2 : BA) (a0_3 : BA) (a0_4 : BA) (a0_5 : Int) (r1 : BA) (r2 : BA) (w : World) (h : catchmentref04_Span.f a0_0 a0_1 a0_2 a0_3 a0_4 a0_5 = some (r1, r2)) :
  Calls Try.prog 51 #[.agg #[.int .u8 a0_0, .int .i64 a0_1, .string a0_2, .string a0_3, .string a0_4, .int .u64 a0_5]] w fun e w' => e = .returned (.agg #[.string r1, .string r2]) ∧ Below w.heap.size w w' := by
 have hu32 := Try.underlying32
 have hu28 := Try.underlying28
 have HB := Aside0.mk (Below.refl w.heap.size w)
 have H : ((catchmentref04_Point.f a0_0 a0_1 a0_2 a0_3 a0_4 a0_5).bind fun t904 => (if t904 = true then (if a0_2.size + 1 ≤ 9223372036854775807 then (some (a0_2, a0_2 ++ (⟨#[0]⟩ : BA))) else (none)) else (if a0_0 = 4 then (some (a0_2, a0_3)) else (some ((⟨#[]⟩ : BA), (⟨#[]⟩ : BA)))))) = some (r1, r2) := h
 clear h
 replace H := Option.bind_eq_some_iff.mp H
 obtain ⟨t904, A20, H⟩ := H
 replace H : (if t904 = true then (if a0_2.size + 1 ≤ 9223372036854775807 then (some (a0_2, a0_2 ++ (⟨#[0]⟩ : BA))) else (none)) else (if a0_0 = 4 then (some (a0_2, a0_3)) else (some ((⟨#[]⟩ : BA), (⟨#[]⟩ : BA))))) = some (r1, r2) := H
 have A2 := Aside0.mk A20
 clear A20
 by_cases c3 : t904 = true
 ·subst c3
  have H1 : (if a0_2.size + 1 ≤ 9223372036854775807 then (some (a0_2, a0_2 ++ (⟨#[0]⟩ : BA))) else (none)) = some (r1, r2) := by rw [if_pos rfl] at H; exact H
  clear H
  have H := H1
  clear H1
  by_cases c4 : a0_2.size + 1 ≤ 9223372036854775807
  ·rw [if_pos c4] at H
   have c4b0 := eq_true c4
   have c4b1 : decide (a0_2.size + 1 ≤ 9223372036854775807) = true := decide_eq_true c4
   try have c4b2 : (9223372036854775807 < a0_2.size + 1) = False := eq_false (Nat.not_lt.2 c4)
   simp only [Option.some.injEq, Prod.mk.injEq] at H
   obtain ⟨rfl, rfl⟩ := H
   go_enter Try.func51, Try.ntmps51
   go_wp2_with (first | ((with_reducible refine gate_dst (N := 1) rfl ?_); refine box_event ?hg (N := 1) ?hd (cs := #[.int .u8 a0_0, .int .i64 a0_1, .string a0_2, .string a0_3, .string a0_4, .int .u64 a0_5]) (t := 32) ?hr ?_; (case hd => rfl); (case hg => rfl); (case hr => first | (go_simp; done) | (go_simp; rfl)); intro gb902 hg w5 hbox hb; have n0_ := Aside0.mk (wT bW_ hb); have n1_ := Aside0.mk (hbox); have n2_ := Aside0.mk ((by rw [hg]; exact (wZ bW_) : w.heap.size ≤ gb902)); have n3_ := n2_; clear HB; have HB := n0_; have BK902 := n1_; have GW902 := n2_; have GE902 := n3_; clear n0_ n1_ n2_ n3_; clear hb hbox hg) | ((with_reducible refine gate_dst (N := 2) rfl ?_); refine box_event ?hg (N := 2) ?hd (cs := #[.string (⟨#[]⟩ : BA), .string (⟨#[]⟩ : BA)]) (t := 28) ?hr ?_; (case hd => rfl); (case hg => rfl); (case hr => first | (go_simp; done) | (go_simp; rfl)); intro gb903 hg w6 hbox hb; have n0_ := Aside0.mk (bB (bX_ BK902.out) hb); have n1_ := Aside0.mk (wT (bS1_ GE902.out) hb); have n2_ := Aside0.mk (hbox); have n3_ := Aside0.mk ((by rw [hg]; exact (wZ (bS1_ GE902.out)) : w.heap.size ≤ gb903)); have n4_ := n3_; have n5_ := Aside0.mk ((by rw [hg]; exact Nat.ne_of_lt (blk_lt (g := gb902) (o := .cells #[.int .u8 a0_0, .int .i64 a0_1, .string a0_2, .string a0_3, .string a0_4, .int .u64 a0_5] 32 (0, 0)) (bX_ BK902.out)) : gb902 ≠ gb903)); have n6_ := Aside0.mk ((by rw [hg]; exact Nat.ne_of_gt (blk_lt (g := gb902) (o := .cells #[.int .u8 a0_0, .int .i64 a0_1, .string a0_2, .string a0_3, .string a0_4, .int .u64 a0_5] 32 (0, 0)) (bX_ BK902.out)) : gb903 ≠ gb902)); clear BK902; clear HB; have BK902 := n0_; have HB := n1_; have BK903 := n2_; have GW903 := n3_; have GE903 := n4_; have NB902_903 := n5_; have NB903_902 := n6_; clear n0_ n1_ n2_ n3_ n4_ n5_ n6_; clear hb hbox hg; have hnb7 := NB902_903.out; have hnc7 := NB903_902.out; have hcz8_0 := cz_ BK902.out 0; have hcz8_1 := cz_ BK902.out 1; have hcz8_2 := cz_ BK902.out 2; have hcz8_3 := cz_ BK902.out 3; have hcz8_4 := cz_ BK902.out 4; have hcz8_5 := cz_ BK902.out 5; have hfz8_0 := bF BK902.out 0; have hfz8_1 := bF BK902.out 1; have hfz8_2 := bF BK902.out 2; have hfz8_3 := bF BK902.out 3; have hfz8_4 := bF BK902.out 4; have hfz8_5 := bF BK902.out 5) | ((with_reducible refine gate_callee (f := 76) rfl ?_); refine goesL_ (some 4) rfl rfl Try.func76 (by kernel_rfl) rfl #[.agg #[.int .u8 a0_0, .int .i64 a0_1, .string a0_2, .string a0_3, .string a0_4, .int .u64 a0_5]] rfl mS_ ?_; (with_reducible refine (catchmentref04_Point.calls a0_0 a0_1 a0_2 a0_3 a0_4 a0_5 true _ A2.out).mono ?_); rintro e w9 ⟨rfl, hb⟩; refine ⟨_, rfl, ?_⟩; have n0_ := Aside0.mk (bB (bX_ BK902.out) hb); have n1_ := Aside0.mk (bB (bX_ BK903.out) hb); have n2_ := Aside0.mk (wT (bS2_ GE902.out GE903.out) hb); clear BK902; clear BK903; clear HB; have BK902 := n0_; have BK903 := n1_; have HB := n2_; clear n0_ n1_ n2_; (try clear hb); (try clear hb2); (try clear hk); (try clear hi); have hcz10_0 := cz_ BK902.out 0; have hcz10_1 := cz_ BK902.out 1; have hcz10_2 := cz_ BK902.out 2; have hcz10_3 := cz_ BK902.out 3; have hcz10_4 := cz_ BK902.out 4; have hcz10_5 := cz_ BK902.out 5; have hfz10_0 := bF BK902.out 0; have hfz10_1 := bF BK902.out 1; have hfz10_2 := bF BK902.out 2; have hfz10_3 := bF BK902.out 3; have hfz10_4 := bF BK902.out 4; have hfz10_5 := bF BK902.out 5; have hcz11_0 := cz_ BK903.out 0; have hcz11_1 := cz_ BK903.out 1; have hfz11_0 := bF BK903.out 0; have hfz11_1 := bF BK903.out 1))
   refine bodyPost_ret (results_cell_row rfl _ _ gb903 28 #[.string a0_2, .string (a0_2 ++ (⟨#[0]⟩ : BA))] (0, 0) _ rfl (by (with_reducible repeat (first | refine bN ?_ _ | refine bD ?_ | refine bA ?_ _)); refine bP (cs := #[.string a0_2, .string (⟨#[]⟩ : BA)]) ?_ 1 _ rfl; (with_reducible repeat (first | refine bN ?_ _ | refine bD ?_ | refine bA ?_ _)); refine bP (cs := #[.string (⟨#[]⟩ : BA), .string (⟨#[]⟩ : BA)]) ?_ 0 _ rfl; (with_reducible repeat (first | refine bN ?_ _ | refine bD ?_ | refine bA ?_ _)); exact BK903.out) Try.underlying28 rfl (by kernel_rfl)) rfl ?_
   exact ⟨by first | rfl | (simp [errW_none, errW_some] <;> rfl) | (simp [*, errW_none, errW_some] <;> rfl), by repeat (first | (with_reducible first | exact HB.out | apply wA | apply wN | apply w1 | refine wS ?_ GE902.out | refine wS ?_ GE903.out) | exact HB.out)⟩
  ·rw [if_neg c4] at H
   exact absurd H (by simp)
 ·replace c3 := Bool.eq_false_iff.mpr c3
  subst c3
  have H1 : (if a0_0 = 4 then (some (a0_2, a0_3)) else (some ((⟨#[]⟩ : BA), (⟨#[]⟩ : BA)))) = some (r1, r2) := by rw [if_neg (show ¬ (false = true) by decide)] at H; exact H
  clear H
  have H := H1
  clear H1
  by_cases c12 : a0_0 = 4
  ·rw [if_pos c12] at H
   have c12b0 : (a0_0 == 4) = true := beq_iff_eq.mpr c12
   have c12b1 : (a0_0 != 4) = false := bne_eq_false_iff_eq.mpr c12
   clear c12
   simp only [Option.some.injEq, Prod.mk.injEq] at H
   obtain ⟨rfl, rfl⟩ := H
   go_enter Try.func51, Try.ntmps51
   go_wp2_with (first | ((with_reducible refine gate_dst (N := 1) rfl ?_); refine box_event ?hg (N := 1) ?hd (cs := #[.int .u8 a0_0, .int .i64 a0_1, .string a0_2, .string a0_3, .string a0_4, .int .u64 a0_5]) (t := 32) ?hr ?_; (case hd => rfl); (case hg => rfl); (case hr => first | (go_simp; done) | (go_simp; rfl)); intro gb902 hg w13 hbox hb; have n0_ := Aside0.mk (wT bW_ hb); have n1_ := Aside0.mk (hbox); have n2_ := Aside0.mk ((by rw [hg]; exact (wZ bW_) : w.heap.size ≤ gb902)); have n3_ := n2_; clear HB; have HB := n0_; have BK902 := n1_; have GW902 := n2_; have GE902 := n3_; clear n0_ n1_ n2_ n3_; clear hb hbox hg) | ((with_reducible refine gate_dst (N := 2) rfl ?_); refine box_event ?hg (N := 2) ?hd (cs := #[.string (⟨#[]⟩ : BA), .string (⟨#[]⟩ : BA)]) (t := 28) ?hr ?_; (case hd => rfl); (case hg => rfl); (case hr => first | (go_simp; done) | (go_simp; rfl)); intro gb903 hg w14 hbox hb; have n0_ := Aside0.mk (bB (bX_ BK902.out) hb); have n1_ := Aside0.mk (wT (bS1_ GE902.out) hb); have n2_ := Aside0.mk (hbox); have n3_ := Aside0.mk ((by rw [hg]; exact (wZ (bS1_ GE902.out)) : w.heap.size ≤ gb903)); have n4_ := n3_; have n5_ := Aside0.mk ((by rw [hg]; exact Nat.ne_of_lt (blk_lt (g := gb902) (o := .cells #[.int .u8 a0_0, .int .i64 a0_1, .string a0_2, .string a0_3, .string a0_4, .int .u64 a0_5] 32 (0, 0)) (bX_ BK902.out)) : gb902 ≠ gb903)); have n6_ := Aside0.mk ((by rw [hg]; exact Nat.ne_of_gt (blk_lt (g := gb902) (o := .cells #[.int .u8 a0_0, .int .i64 a0_1, .string a0_2, .string a0_3, .string a0_4, .int .u64 a0_5] 32 (0, 0)) (bX_ BK902.out)) : gb903 ≠ gb902)); clear BK902; clear HB; have BK902 := n0_; have HB := n1_; have BK903 := n2_; have GW903 := n3_; have GE903 := n4_; have NB902_903 := n5_; have NB903_902 := n6_; clear n0_ n1_ n2_ n3_ n4_ n5_ n6_; clear hb hbox hg; have hnb15 := NB902_903.out; have hnc15 := NB903_902.out; have hcz16_0 := cz_ BK902.out 0; have hcz16_1 := cz_ BK902.out 1; have hcz16_2 := cz_ BK902.out 2; have hcz16_3 := cz_ BK902.out 3; have hcz16_4 := cz_ BK902.out 4; have hcz16_5 := cz_ BK902.out 5; have hfz16_0 := bF BK902.out 0; have hfz16_1 := bF BK902.out 1; have hfz16_2 := bF BK902.out 2; have hfz16_3 := bF BK902.out 3; have hfz16_4 := bF BK902.out 4; have hfz16_5 := bF BK902.out 5) | ((with_reducible refine gate_callee (f := 76) rfl ?_); refine goesL_ (some 4) rfl rfl Try.func76 (by kernel_rfl) rfl #[.agg #[.int .u8 a0_0, .int .i64 a0_1, .string a0_2, .string a0_3, .string a0_4, .int .u64 a0_5]] rfl mS_ ?_; (with_reducible refine (catchmentref04_Point.calls a0_0 a0_1 a0_2 a0_3 a0_4 a0_5 false _ A2.out).mono ?_); rintro e w17 ⟨rfl, hb⟩; refine ⟨_, rfl, ?_⟩; have n0_ := Aside0.mk (bB (bX_ BK902.out) hb); have n1_ := Aside0.mk (bB (bX_ BK903.out) hb); have n2_ := Aside0.mk (wT (bS2_ GE902.out GE903.out) hb); clear BK902; clear BK903; clear HB; have BK902 := n0_; have BK903 := n1_; have HB := n2_; clear n0_ n1_ n2_; (try clear hb); (try clear hb2); (try clear hk); (try clear hi); have hcz18_0 := cz_ BK902.out 0; have hcz18_1 := cz_ BK902.out 1; have hcz18_2 := cz_ BK902.out 2; have hcz18_3 := cz_ BK902.out 3; have hcz18_4 := cz_ BK902.out 4; have hcz18_5 := cz_ BK902.out 5; have hfz18_0 := bF BK902.out 0; have hfz18_1 := bF BK902.out 1; have hfz18_2 := bF BK902.out 2; have hfz18_3 := bF BK902.out 3; have hfz18_4 := bF BK902.out 4; have hfz18_5 := bF BK902.out 5; have hcz19_0 := cz_ BK903.out 0; have hcz19_1 := cz_ BK903.out 1; have hfz19_0 := bF BK903.out 0; have hfz19_1 := bF BK903.out 1))
   refine bodyPost_ret (results_cell_row rfl _ _ gb903 28 #[.string a0_2, .string a0_3] (0, 0) _ rfl (by (with_reducible repeat (first | refine bN ?_ _ | refine bD ?_ | refine bA ?_ _)); refine bP (cs := #[.string a0_2, .string (⟨#[]⟩ : BA)]) ?_ 1 _ rfl; (with_reducible repeat (first | refine bN ?_ _ | refine bD ?_ | refine bA ?_ _)); refine bP (cs := #[.string (⟨#[]⟩ : BA), .string (⟨#[]⟩ : BA)]) ?_ 0 _ rfl; (with_reducible repeat (first | refine bN ?_ _ | refine bD ?_ | refine bA ?_ _)); exact BK903.out) Try.underlying28 rfl (by kernel_rfl)) rfl ?_
   exact ⟨by first | rfl | (simp [errW_none, errW_some] <;> rfl) | (simp [*, errW_none, errW_some] <;> rfl), by repeat (first | (with_reducible first | exact HB.out | apply wA | apply wN | apply w1 | refine wS ?_ GE902.out | refine wS ?_ GE903.out) | exact HB.out)⟩
  ·rw [if_neg c12] at H
   have c12b0 : (a0_0 == 4) = false := beq_eq_false_iff_ne.mpr c12
   have c12b1 : (a0_0 != 4) = true := bne_iff_ne.mpr c12
   simp only [Option.some.injEq, Prod.mk.injEq] at H
   obtain ⟨rfl, rfl⟩ := H
   go_enter Try.func51, Try.ntmps51
   go_wp2_with (first | ((with_reducible refine gate_dst (N := 1) rfl ?_); refine box_event ?hg (N := 1) ?hd (cs := #[.int .u8 a0_0, .int .i64 a0_1, .string a0_2, .string a0_3, .string a0_4, .int .u64 a0_5]) (t := 32) ?hr ?_; (case hd => rfl); (case hg => rfl); (case hr => first | (go_simp; done) | (go_simp; rfl)); intro gb902 hg w20 hbox hb; have n0_ := Aside0.mk (wT bW_ hb); have n1_ := Aside0.mk (hbox); have n2_ := Aside0.mk ((by rw [hg]; exact (wZ bW_) : w.heap.size ≤ gb902)); have n3_ := n2_; clear HB; have HB := n0_; have BK902 := n1_; have GW902 := n2_; have GE902 := n3_; clear n0_ n1_ n2_ n3_; clear hb hbox hg) | ((with_reducible refine gate_dst (N := 2) rfl ?_); refine box_event ?hg (N := 2) ?hd (cs := #[.string (⟨#[]⟩ : BA), .string (⟨#[]⟩ : BA)]) (t := 28) ?hr ?_; (case hd => rfl); (case hg => rfl); (case hr => first | (go_simp; done) | (go_simp; rfl)); intro gb903 hg w21 hbox hb; have n0_ := Aside0.mk (bB (bX_ BK902.out) hb); have n1_ := Aside0.mk (wT (bS1_ GE902.out) hb); have n2_ := Aside0.mk (hbox); have n3_ := Aside0.mk ((by rw [hg]; exact (wZ (bS1_ GE902.out)) : w.heap.size ≤ gb903)); have n4_ := n3_; have n5_ := Aside0.mk ((by rw [hg]; exact Nat.ne_of_lt (blk_lt (g := gb902) (o := .cells #[.int .u8 a0_0, .int .i64 a0_1, .string a0_2, .string a0_3, .string a0_4, .int .u64 a0_5] 32 (0, 0)) (bX_ BK902.out)) : gb902 ≠ gb903)); have n6_ := Aside0.mk ((by rw [hg]; exact Nat.ne_of_gt (blk_lt (g := gb902) (o := .cells #[.int .u8 a0_0, .int .i64 a0_1, .string a0_2, .string a0_3, .string a0_4, .int .u64 a0_5] 32 (0, 0)) (bX_ BK902.out)) : gb903 ≠ gb902)); clear BK902; clear HB; have BK902 := n0_; have HB := n1_; have BK903 := n2_; have GW903 := n3_; have GE903 := n4_; have NB902_903 := n5_; have NB903_902 := n6_; clear n0_ n1_ n2_ n3_ n4_ n5_ n6_; clear hb hbox hg; have hnb22 := NB902_903.out; have hnc22 := NB903_902.out; have hcz23_0 := cz_ BK902.out 0; have hcz23_1 := cz_ BK902.out 1; have hcz23_2 := cz_ BK902.out 2; have hcz23_3 := cz_ BK902.out 3; have hcz23_4 := cz_ BK902.out 4; have hcz23_5 := cz_ BK902.out 5; have hfz23_0 := bF BK902.out 0; have hfz23_1 := bF BK902.out 1; have hfz23_2 := bF BK902.out 2; have hfz23_3 := bF BK902.out 3; have hfz23_4 := bF BK902.out 4; have hfz23_5 := bF BK902.out 5) | ((with_reducible refine gate_callee (f := 76) rfl ?_); refine goesL_ (some 4) rfl rfl Try.func76 (by kernel_rfl) rfl #[.agg #[.int .u8 a0_0, .int .i64 a0_1, .string a0_2, .string a0_3, .string a0_4, .int .u64 a0_5]] rfl mS_ ?_; (with_reducible refine (catchmentref04_Point.calls a0_0 a0_1 a0_2 a0_3 a0_4 a0_5 false _ A2.out).mono ?_); rintro e w24 ⟨rfl, hb⟩; refine ⟨_, rfl, ?_⟩; have n0_ := Aside0.mk (bB (bX_ BK902.out) hb); have n1_ := Aside0.mk (bB (bX_ BK903.out) hb); have n2_ := Aside0.mk (wT (bS2_ GE902.out GE903.out) hb); clear BK902; clear BK903; clear HB; have BK902 := n0_; have BK903 := n1_; have HB := n2_; clear n0_ n1_ n2_; (try clear hb); (try clear hb2); (try clear hk); (try clear hi); have hcz25_0 := cz_ BK902.out 0; have hcz25_1 := cz_ BK902.out 1; have hcz25_2 := cz_ BK902.out 2; have hcz25_3 := cz_ BK902.out 3; have hcz25_4 := cz_ BK902.out 4; have hcz25_5 := cz_ BK902.out 5; have hfz25_0 := bF BK902.out 0; have hfz25_1 := bF BK902.out 1; have hfz25_2 := bF BK902.out 2; have hfz25_3 := bF BK902.out 3; have hfz25_4 := bF BK902.out 4; have hfz25_5 := bF BK902.out 5; have hcz26_0 := cz_ BK903.out 0; have hcz26_1 := cz_ BK903.out 1; have hfz26_0 := bF BK903.out 0; have hfz26_1 := bF BK903.out 1))
   refine bodyPost_ret (results_cell_row rfl _ _ gb903 28 #[.string (⟨#[]⟩ : BA), .string (⟨#[]⟩ : BA)] (0, 0) _ rfl (by (with_reducible repeat (first | refine bN ?_ _ | refine bD ?_ | refine bA ?_ _)); refine bP (cs := #[.string (⟨#[]⟩ : BA), .string (⟨#[]⟩ : BA)]) ?_ 1 _ rfl; (with_reducible repeat (first | refine bN ?_ _ | refine bD ?_ | refine bA ?_ _)); refine bP (cs := #[.string (⟨#[]⟩ : BA), .string (⟨#[]⟩ : BA)]) ?_ 0 _ rfl; (with_reducible repeat (first | refine bN ?_ _ | refine bD ?_ | refine bA ?_ _)); exact BK903.out) Try.underlying28 rfl (by kernel_rfl)) rfl ?_
   exact ⟨by first | rfl | (simp [errW_none, errW_some] <;> rfl) | (simp [*, errW_none, errW_some] <;> rfl), by repeat (first | (with_reducible first | exact HB.out | apply wA | apply wN | apply w1 | refine wS ?_ GE902.out | refine wS ?_ GE903.out) | exact HB.out)⟩
end Go.Proofs.Ytebejadiaooooaa.P
end
