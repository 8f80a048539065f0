/- Texts of this seat's own and of the kit's print program, of one claim: only what the claim uses (laid by wip/tools/shake.py; Lean checks them). -/
import Derived.Test.YtidaiafmhidooaaZk2
import Derived.Test.YtidaiafmhidooaaZk7
import Derived.Test.YtidaiafmhidooaaZk9
import Derived.Test.YtidaiafmhidooaaZk18
section
namespace Go.Proofs.Ytidaiafmhidooaa.P
open Go.RowKit Go.Proofs.YtidaiafmhidooaaW.PrintWords Go.Proofs.YtidaiafmhidooaaW.PrintLast Go.Proofs.YtidaiafmhidooaaW.PrintMore Go.Proofs.Ytidaiafmhidooaa.Own
open Bool renaming true → YY, false → ZZ
open Go.Proofs.YtidaiafmhidooaaW.PrintWords renaming blk_cell → bC, blk_frozen → bF, blk_drewN → bN, blk_alloc → bA, pw_below_drewN → wN, blk_drew → bD, below_drew1 → w1, below_set → wS, below_alloc → wA, blk_below → bB, below_step → wT, below_size → wZ, cell_far → cF, blk_far → bR, blk_put → bP
open List renaming setIfInBounds_toArray → sA1, set_cons_zero → sA2, set_cons_succ → sA3, map_toArray → mA1, map_cons → mA2, map_nil → mA3, length_take → mA4, length_drop → mA5
attribute [local go_sem] max2_str max2_int min2_int max_two min_two max_three min_three max_four min_four   -- for this text's walks alone
set_option linter.unusedVariables false
set_option linter.unusedSimpArgs false
def catchmentlaw05_FoldClips.l0 : Nat → List (S33) → List (S55) → List (S33) → Int → ByteArray → ByteArray → Option (Bool)
 | 0, _, _, _, _, _, _ => none
 | k + 1, x0, x1, x7, x8, x334000, x334001 => if x8 < (x0.length : Int) then (if 0 ≤ x8 then ((catchmentref04_Clip.f k ((rd_T33 x0 x8).f0) ((rd_T33 x0 x8).f1) ((rd_T33 x0 x8).f2) ((rd_T33 x0 x8).f3) ((rd_T33 x0 x8).f4) ((rd_T33 x0 x8).f5) x334000 x334001).bind fun bt344 => (if bt344.2.2.2.2.2.2 = true then (if x7.length < 1954687338268 then (catchmentlaw05_FoldClips.l0 k x0 x1 (x7 ++ [(⟨bt344.1, bt344.2.1, bt344.2.2.1, bt344.2.2.2.1, bt344.2.2.2.2.1, bt344.2.2.2.2.2.1⟩ : S33)]) (wrap64 (x8 + 1)) x334000 x334001) else (none)) else (catchmentlaw05_FoldClips.l0 k x0 x1 x7 (wrap64 (x8 + 1)) x334000 x334001))) else (none)) else ((catchmentlaw05_live.f).bind fun t355 => (if t355 = true then ((fold_Entries.f x7 x1 x334000 x334001).bind fun t356 => ((fold_Entries.f x0 x1 x334000 x334001).bind fun t359 => ((catchmentref05_Same.f k t356 t359).bind fun t362 => (some t362)))) else (some false)))
def catchmentlaw05_FoldClips.f (k : Nat) (l0 : List (S33)) (l1 : List (S55)) (a2_0 : BA) (a2_1 : BA) : Option (Bool) := (catchmentlaw05_few.f l0).bind fun t334 => ((catchmentlaw05_some.f l1).bind fun t337 => (catchmentlaw05_FoldClips.l0 k t334 t337 (([] : List (S33))) 0 a2_0 a2_1))
def catchmentlaw05_FoldClips.T6 : Bool × List (List Nat × List Nat) := (true, [([], []), ([], []), ([0, 1], [0, 1]), ([2], [2]), ([], []), ([3, 4], [3, 4]), ([5], [5]), ([6], [6]), ([6], [6]), ([], []), ([9, 7, 5, 0, 1, 2, 3, 4, 5, 6, 7, 9], [7, 9]), ([8, 10, 0, 1, 2, 3, 4, 5, 6, 7, 8, 9, 10], [8])])
def catchmentlaw05_FoldClips.B6 : List Nat := [0, 0, 3, 7, 0, 31, 63, 127, 127, 0, 767, 2047]
theorem catchmentlaw05_FoldClips.tab6 : rtab .any (opsOf Try.f7 6) = catchmentlaw05_FoldClips.T6 := by kernel_rfl
theorem catchmentlaw05_FoldClips.bits6 : waitsOk catchmentlaw05_FoldClips.T6.2 catchmentlaw05_FoldClips.B6 = true := by kernel_rfl
def catchmentlaw05_FoldClips.T9 : Bool × List (List Nat × List Nat) := (true, [([], []), ([0, 0], [0]), ([1], [1]), ([1], [1]), ([1], [1]), ([2, 3, 4, 1, 1], [1, 2, 3, 4]), ([1], [1]), ([1], [1]), ([1], [1]), ([6, 7, 8, 5, 1], [1, 6, 7, 8]), ([5, 9, 9, 1], [1, 5, 9]), ([1, 10], [1, 10]), ([11, 10, 0, 1, 2, 3, 4, 5, 6, 7, 8, 9, 10, 11], [11])])
def catchmentlaw05_FoldClips.B9 : List Nat := [0, 1, 3, 3, 3, 31, 3, 3, 3, 511, 1023, 2047, 4095]
theorem catchmentlaw05_FoldClips.tab9 : rtab .any (opsOf Try.f7 9) = catchmentlaw05_FoldClips.T9 := by kernel_rfl
theorem catchmentlaw05_FoldClips.bits9 : waitsOk catchmentlaw05_FoldClips.T9.2 catchmentlaw05_FoldClips.B9 = true := by kernel_rfl
set_option maxHeartbeats 8000000 in
set_option maxRecDepth 100000 in
theorem catchmentlaw05_FoldClips.calls (k : Nat) (A0 : Option Addr) (c0 : Nat) (l0 : List (S33)) (A1 : Option Addr) (c1 : Nat) (l1 : List (S55)) (a2_0 : BA) (a2_1 : BA) (r : Bool) (w : World) (hr0 : Kd.C k33 w A0 l0.length l0) (hc0 : l0.length ≤ c0) (hr1 : Kd.C k55 w A1 l1.length l1) (hc1 : l1.length ≤ c1) (h : catchmentlaw05_FoldClips.f k l0 l1 a2_0 a2_1 = some r) :
  Calls Try.prog 7 #[.slice A0 l0.length c0, .slice A1 l1.length c1, .agg #[.string a2_0, .string a2_1]] w fun e w' => e = .returned (.bool r) ∧ Below w.heap.size w w' := by
 have hu38 := Try.underlying38
 have hu33 := Try.underlying33
 have HR0 := Aside0.mk hr0
 have HC0 := Aside0.mk hc0
 clear hr0 hc0
 have HR1 := Aside0.mk hr1
 have HC1 := Aside0.mk hc1
 clear hr1 hc1
 have HB := Aside0.mk (Below.refl w.heap.size w)
 have H : ((catchmentlaw05_few.f l0).bind fun t334 => ((catchmentlaw05_some.f l1).bind fun t337 => (catchmentlaw05_FoldClips.l0 k t334 t337 (([] : List (S33))) 0 a2_0 a2_1))) = some r := h
 clear h
 replace H := Option.bind_eq_some_iff.mp H
 obtain ⟨t334, A40, H⟩ := H
 replace H : ((catchmentlaw05_some.f l1).bind fun t337 => (catchmentlaw05_FoldClips.l0 k t334 t337 (([] : List (S33))) 0 a2_0 a2_1)) = some r := H
 have A4 := Aside0.mk A40
 clear A40
 replace H := Option.bind_eq_some_iff.mp H
 obtain ⟨t337, A50, H⟩ := H
 replace H : (catchmentlaw05_FoldClips.l0 k t334 t337 (([] : List (S33))) 0 a2_0 a2_1) = some r := H
 have A5 := Aside0.mk A50
 clear A50
 obtain ⟨y340, hy340⟩ : ∃ y_ : List (S33), y_ = (([] : List (S33))) := ⟨_, rfl⟩
 replace H : (catchmentlaw05_FoldClips.l0 k t334 t337 y340 0 a2_0 a2_1) = some r := by first | (rw [hy340]; with_reducible exact H) | (have H2_ := (Option.bind_some _ _).symm.trans H; rw [hy340]; with_reducible exact H2_) | (have H2_ := (Option.bind_some _ _).symm.trans H; with_reducible exact H2_) | with_reducible exact H | (rw [hy340]; exact H) | exact H
 have Ny340 := Aside0.mk hy340
 clear hy340
 have H' := Aside0.mk H
 clear H
 go_enter Try.func7, Try.ntmps7
 go_wp2_with (first | ((with_reducible refine gate_dst (N := 5) rfl ?_); refine box_event ?hg (N := 5) ?hd (cs := #[.string a2_0, .string a2_1]) (t := 38) ?hr ?_; (case hd => rfl); (case hg => rfl); (case hr => first | (go_simp; done) | (go_simp; rfl)); intro gb333 hg w6 hbox hb; have n0_ := Aside0.mk (wT (by repeat (first | (with_reducible first | exact HB.out | apply wA | apply wN | apply w1) | exact HB.out)) hb); have n1_ := Aside0.mk (hbox); have n2_ := Aside0.mk ((by rw [hg]; exact (wZ (by repeat (first | (with_reducible first | exact HB.out | apply wA | apply wN | apply w1) | exact HB.out))) : w.heap.size ≤ gb333)); have n3_ := n2_; clear HB; have HB := n0_; have BK333 := n1_; have GW333 := n2_; have GE333 := n3_; clear n0_ n1_ n2_ n3_; clear hb hbox hg) | ((with_reducible refine gate_callee (f := 21) rfl ?_); refine goesL_ (some 12) rfl rfl Try.func21 (by kernel_rfl) rfl #[.slice A0 l0.length c0] rfl (by (try simp only [mA1, mA2, mA3]); first | done | rfl | (simp only [mA5, mA4]; rfl)) ?_; (with_reducible refine (catchmentlaw05_few.calls (fun k_ => k_ < w.heap.size) _ _ l0 t334 _ ?side1 A4.out).mono ?_); (case side1 => exact Kd.V_mk HC0.out (Kd.F_below (Kd.C_F k33_heap HR0.out) (by repeat (first | (with_reducible first | exact HB.out | apply wA | apply wN | apply w1 | refine wS ?_ GE333.out) | exact HB.out)))); rintro e w7 ⟨v335, rfl, ho0, hb⟩; refine ⟨_, rfl, ?_⟩; have n0_ := Aside0.mk (Kd.V_lower (Kd.V_mono (ok' := fun k_ => k_ ≠ gb333) ho0 (fun k_ hk_ => Or.elim hk_ (fun hs_ => fun e_ => Nat.not_le.2 hs_ (by rw [e_]; exact GW333.out)) (fun hn_ => (Kd.freshB (g := gb333) (o := .cells #[.string a2_0, .string a2_1] 38 (0, 0)) (by (with_reducible repeat (first | refine bN ?_ _ | refine bD ?_ | refine bA ?_ _)); exact BK333.out) k_ hn_)))) (wZ (by repeat (first | (with_reducible first | exact HB.out | apply wA | apply wN | apply w1 | refine wS ?_ GE333.out) | exact HB.out)))); have n1_ := Aside0.mk (bB (g := gb333) (o := .cells #[.string a2_0, .string a2_1] 38 (0, 0)) (by (with_reducible repeat (first | refine bN ?_ _ | refine bD ?_ | refine bA ?_ _)); exact BK333.out) hb); have n2_ := Aside0.mk (wT (by repeat (first | (with_reducible first | exact HB.out | apply wA | apply wN | apply w1 | refine wS ?_ GE333.out) | exact HB.out)) hb); clear BK333; clear HB; have HO336 := n0_; have BK333 := n1_; have HB := n2_; clear n0_ n1_ n2_; (try clear hb); (try clear hb2); (try clear hk); (try clear hi); (try clear ho0)) | ((with_reducible refine gate_callee (f := 22) rfl ?_); refine goesL_ (some 14) rfl rfl Try.func22 (by kernel_rfl) rfl #[.slice A1 l1.length c1] rfl (by (try simp only [mA1, mA2, mA3]); first | done | rfl | (simp only [mA5, mA4]; rfl)) ?_; (with_reducible refine (catchmentlaw05_some.calls (fun k_ => k_ < w.heap.size) _ _ l1 t337 _ ?side1 A5.out).mono ?_); (case side1 => exact Kd.V_mk HC1.out (Kd.F_below (Kd.C_F k55_heap HR1.out) (by repeat (first | (with_reducible first | exact HB.out | apply wA | apply wN | apply w1 | refine wS ?_ GE333.out) | exact HB.out)))); rintro e w8 ⟨v338, rfl, ho0, hb⟩; refine ⟨_, rfl, ?_⟩; have n0_ := Aside0.mk (Kd.V_below (by (with_reducible repeat (first | apply Kd.V_alloc | apply Kd.V_drewN | apply Kd.V_drew)); exact HO336.out) hb); have n1_ := Aside0.mk (Kd.V_lower (Kd.V_mono (ok' := fun k_ => k_ ≠ gb333) ho0 (fun k_ hk_ => Or.elim hk_ (fun hs_ => fun e_ => Nat.not_le.2 hs_ (by rw [e_]; exact GW333.out)) (fun hn_ => (Kd.freshB (g := gb333) (o := .cells #[.string a2_0, .string a2_1] 38 (0, 0)) (by (with_reducible repeat (first | refine bN ?_ _ | refine bD ?_ | refine bA ?_ _)); exact BK333.out) k_ hn_)))) (wZ (by repeat (first | (with_reducible first | exact HB.out | apply wA | apply wN | apply w1 | refine wS ?_ GE333.out) | exact HB.out)))); have n2_ := Aside0.mk (bB (g := gb333) (o := .cells #[.string a2_0, .string a2_1] 38 (0, 0)) (by (with_reducible repeat (first | refine bN ?_ _ | refine bD ?_ | refine bA ?_ _)); exact BK333.out) hb); have n3_ := Aside0.mk (wT (by repeat (first | (with_reducible first | exact HB.out | apply wA | apply wN | apply w1 | refine wS ?_ GE333.out) | exact HB.out)) hb); clear HO336; clear BK333; clear HB; have HO336 := n0_; have HO339 := n1_; have BK333 := n2_; have HB := n3_; clear n0_ n1_ n2_ n3_; (try clear hb); (try clear hb2); (try clear hk); (try clear hi); (try clear ho0)) | ((with_reducible refine gate_dst (N := 15) rfl ?_); refine Kd.R_lit k33 _ 33 ?hg (N := 15) ?hd (xs := ([] : List (S33))) (inner := []) (ok := fun _ => True) (okp := fun _ => True) ?hr ?hp (fun _ hk => hk) trivial (Below.refl _ _) (Nat.le_refl _) (by simp) ?_; (case hd => rfl); (case hg => rfl); (case hr => first | (go_simp; done) | (go_simp; rfl)); (case hp => exact (Reps.none _ _)); intro v341 w9 ho10 hb hg_ hnew_; clear hg_ hnew_; (first | rw [← Ny340.out] at ho10 | (simp only [Int.reduceToNat] at ho10; rw [← Ny340.out] at ho10)); have n0_ := Aside0.mk (Kd.V_elder' (by (with_reducible repeat (first | apply Kd.V_alloc | apply Kd.V_drewN | apply Kd.V_drew)); exact HO336.out) (Kd.R_base ho10) hb); have n1_ := Aside0.mk (Kd.V_elder' (by (with_reducible repeat (first | apply Kd.V_alloc | apply Kd.V_drewN | apply Kd.V_drew)); exact HO339.out) (Kd.R_base ho10) hb); have n2_ := Aside0.mk (Kd.R_lower ho10 (wZ (by repeat (first | (with_reducible first | exact HB.out | apply wA | apply wN | apply w1 | refine wS ?_ GE333.out) | exact HB.out)))); have n3_ := Aside0.mk (bB (g := gb333) (o := .cells #[.string a2_0, .string a2_1] 38 (0, 0)) (by (with_reducible repeat (first | refine bN ?_ _ | refine bD ?_ | refine bA ?_ _)); exact BK333.out) hb); have n4_ := Aside0.mk (wT (by repeat (first | (with_reducible first | exact HB.out | apply wA | apply wN | apply w1 | refine wS ?_ GE333.out) | exact HB.out)) hb); clear HO336; clear HO339; clear BK333; clear HB; have HO336 := n0_; have HO339 := n1_; have HO342 := n2_; have BK333 := n3_; have HB := n4_; clear n0_ n1_ n2_ n3_ n4_; clear hb ho10))
 go_loopg [7, 8] k (fun kq v7 v8 w' => ∃ (x7_1 : List (S33)) (x8_1 : Int), v8 = .int .i64 x8_1 ∧ Aside0 (catchmentlaw05_FoldClips.l0 kq t334 t337 x7_1 x8_1 a2_0 a2_1 = some r) ∧ Aside0 (kq ≤ k) ∧ Aside0 (Kd.V k33 33 w' w.heap.size (fun k_ => some k_ ≠ (v7 : Value).ownBlock ∧ k_ ≠ gb333) v335 t334) ∧ Aside0 (Kd.V k55 55 w' w.heap.size (fun k_ => some k_ ≠ (v7 : Value).ownBlock ∧ k_ ≠ gb333) v338 t337) ∧ Aside0 (Kd.R k33 33 w' w.heap.size (fun _ => True) v7 x7_1) ∧ Aside0 (w'.heap[gb333]? = some (.cells #[.string a2_0, .string a2_1] 38 (0, 0))) ∧ Aside0 (Below w.heap.size w w'))
 case atStart => exact ⟨(y340), (0), (by first | rfl | (simp; done) | (simp [*]; done)), H', ⟨Nat.le_refl _⟩, ⟨by (with_reducible repeat (first | apply Kd.V_alloc | apply Kd.V_drewN | apply Kd.V_drew)); exact Kd.V_mono HO336.out (fun _ hk => ⟨hk.2, hk.1⟩)⟩, ⟨by (with_reducible repeat (first | apply Kd.V_alloc | apply Kd.V_drewN | apply Kd.V_drew)); exact Kd.V_mono HO339.out (fun _ hk => ⟨hk.2, hk.1⟩)⟩, ⟨by (with_reducible repeat (first | apply Kd.R_alloc | apply Kd.R_drewN | apply Kd.R_drew)); exact HO342.out⟩, ⟨by (with_reducible repeat (first | refine bN ?_ _ | refine bD ?_ | refine bA ?_ _)); exact BK333.out⟩, ⟨by repeat (first | (with_reducible first | exact HB.out | apply wA | apply wN | apply w1 | refine wS ?_ GE333.out) | exact HB.out)⟩⟩
 case round =>
  clear H'
  try clear c1
  try clear c2
  try clear p2
  try clear c7
  obtain ⟨x7_1, x8_1, rfl, HA, HK1, HO_0, HO_1, HO_7, BK333, HB⟩ := hrel
  cases gk with
  | zero => exact absurd HA.out (by simp [catchmentlaw05_FoldClips.l0])
  | succ k1 =>
   have H := HA.out
   clear HA
   simp only [catchmentlaw05_FoldClips.l0] at H
   by_cases c11 : x8_1 < (t334.length : Int)
   ·rw [if_pos c11] at H
    have c11b0 : decide (x8_1 < (t334.length : Int)) = true := decide_eq_true c11
    clear c11
    by_cases c12 : 0 ≤ x8_1
    ·rw [if_pos c12] at H
     have c12b0 : decide (0 ≤ x8_1) = true := decide_eq_true c12
     clear c12
     replace H := Option.bind_eq_some_iff.mp H
     obtain ⟨⟨t344, t345, t346, t347, t348, t349, t350⟩, A130, H⟩ := H
     replace H : (if t350 = true then (if x7_1.length < 1954687338268 then (catchmentlaw05_FoldClips.l0 k1 t334 t337 (x7_1 ++ [(⟨t344, t345, t346, t347, t348, t349⟩ : S33)]) (wrap64 (x8_1 + 1)) a2_0 a2_1) else (none)) else (catchmentlaw05_FoldClips.l0 k1 t334 t337 x7_1 (wrap64 (x8_1 + 1)) a2_0 a2_1)) = some r := H
     have A13 := Aside0.mk A130
     clear A130
     by_cases c14 : t350 = true
     ·subst c14
      have H1 : (if x7_1.length < 1954687338268 then (catchmentlaw05_FoldClips.l0 k1 t334 t337 (x7_1 ++ [(⟨t344, t345, t346, t347, t348, t349⟩ : S33)]) (wrap64 (x8_1 + 1)) a2_0 a2_1) else (none)) = some r := by rw [if_pos rfl] at H; exact H
      clear H
      have H := H1
      clear H1
      by_cases c15 : x7_1.length < 1954687338268
      ·rw [if_pos c15] at H
       have LMc15 := Aside0.mk c15
       clear c15
       obtain ⟨y352, hy352⟩ : ∃ y_ : List (S33), y_ = (x7_1 ++ [(⟨t344, t345, t346, t347, t348, t349⟩ : S33)]) := ⟨_, rfl⟩
       replace H : (catchmentlaw05_FoldClips.l0 k1 t334 t337 y352 (wrap64 (x8_1 + 1)) a2_0 a2_1) = some r := by first | (rw [hy352]; with_reducible exact H) | (have H2_ := (Option.bind_some _ _).symm.trans H; rw [hy352]; with_reducible exact H2_) | (have H2_ := (Option.bind_some _ _).symm.trans H; with_reducible exact H2_) | with_reducible exact H | (rw [hy352]; exact H) | exact H
       have Ny352 := Aside0.mk hy352
       clear hy352
       have H' := Aside0.mk H
       clear H
       obtain ⟨Ao16, co16, eo16⟩ := Kd.V_slice HO_0.out
       subst eo16
       try go_wp2
       have n0_ := Aside0.mk (Kd.V_drew HO_0.out)
       have n1_ := Aside0.mk (Kd.V_drew HO_1.out)
       have n2_ := Aside0.mk (Kd.R_drew HO_7.out)
       have n3_ := Aside0.mk (bD BK333.out)
       have n4_ := Aside0.mk (w1 HB.out)
       clear HO_0
       clear HO_1
       clear HO_7
       clear BK333
       clear HB
       have HO_0 := n0_
       have HO_1 := n1_
       have HO_7 := n2_
       have BK333 := n3_
       have HB := n4_
       clear n0_ n1_ n2_ n3_ n4_
       have p343 : 0 ≤ (x8_1 : Int) := of_decide_eq_true (by first | (with_reducible assumption) | assumption)
       have q343 : x8_1 < (t334.length : Int) := of_decide_eq_true (by first | (with_reducible assumption) | assumption)
       obtain ⟨ad343, e343, hx343_0, hx343_1, hx343_2, hx343_3, hx343_4, hx343_5⟩ := at_T33 (Kd.V_reads' HO_0.out).2.2 x8_1 p343 q343
       cases e343
       replace p343 := eq_true p343
       replace q343 := eq_true q343
       refine start_ (n := 12) (S := fun w' => w'.cell? ⟨gb333, 0, none⟩ = some (.string a2_0) ∧ w'.cell? ⟨gb333, 1, none⟩ = some (.string a2_1) ∧ w'.cell? (ad343.add ((x8_1).toNat * 6)) = some (.int .u8 ((rd_T33 t334 x8_1).f0)) ∧ w'.cell? ⟨(ad343.add ((x8_1).toNat * 6)).block, (ad343.add ((x8_1).toNat * 6)).off + 1, none⟩ = some (.int .i64 ((rd_T33 t334 x8_1).f1)) ∧ w'.cell? ⟨(ad343.add ((x8_1).toNat * 6)).block, (ad343.add ((x8_1).toNat * 6)).off + 2, none⟩ = some (.string ((rd_T33 t334 x8_1).f2)) ∧ w'.cell? ⟨(ad343.add ((x8_1).toNat * 6)).block, (ad343.add ((x8_1).toNat * 6)).off + 3, none⟩ = some (.string ((rd_T33 t334 x8_1).f3)) ∧ w'.cell? ⟨(ad343.add ((x8_1).toNat * 6)).block, (ad343.add ((x8_1).toNat * 6)).off + 4, none⟩ = some (.string ((rd_T33 t334 x8_1).f4)) ∧ w'.cell? ⟨(ad343.add ((x8_1).toNat * 6)).block, (ad343.add ((x8_1).toNat * 6)).off + 5, none⟩ = some (.int .u64 ((rd_T33 t334 x8_1).f5))) (ds := []) #[ZZ,ZZ,ZZ,ZZ,ZZ,ZZ,ZZ,ZZ,ZZ,ZZ,ZZ,ZZ] (by kernel_rfl) rfl rfl ⟨(bC BK333.out 0).trans rfl, (bC BK333.out 1).trans rfl, hx343_0, hx343_1, hx343_2, hx343_3, hx343_4, hx343_5⟩ (fun hHeld => ?_); refine with_tabW catchmentlaw05_FoldClips.tab6 catchmentlaw05_FoldClips.bits6 (fun HT_ HW_ => ?_)
       generalize wr.drew = w17 at HO_0 HO_1 HO_7 BK333 HB hx343_0 hx343_1 hx343_2 hx343_3 hx343_4 hx343_5 hHeld ⊢
       refine pure_ (i := 0) (N := some 23) (v := ?_) (a' := ?_) #[YY,ZZ,ZZ,ZZ,ZZ,ZZ,ZZ,ZZ,ZZ,ZZ,ZZ,ZZ] rfl rfl (any_of HT_.out (by kernel_rfl)) (fun _ _ _ h => h) (Or.inl ⟨by rfl, ?_⟩) ?_ ?_
       rotate_left
       ·intro w'
        go_simp
        with_reducible rfl
       rotate_left
       ·simp only [Act.put, sA1, sA2, sA3, i64_w, i32_w]
        rfl
       refine pure_ (i := 1) (N := some 24) (v := ?_) (a' := ?_) #[YY,YY,ZZ,ZZ,ZZ,ZZ,ZZ,ZZ,ZZ,ZZ,ZZ,ZZ] rfl rfl (any_of HT_.out (by kernel_rfl)) (fun _ _ _ h => h) (Or.inl ⟨by rfl, ?_⟩) ?_ ?_
       rotate_left
       ·intro w'
        go_simp
        with_reducible rfl
       rotate_left
       ·simp only [Act.put, sA1, sA2, sA3, i64_w, i32_w]
        rfl
       refine pure_ (i := 2) (N := some 25) (v := ?_) (a' := ?_) #[YY,YY,YY,ZZ,ZZ,ZZ,ZZ,ZZ,ZZ,ZZ,ZZ,ZZ] rfl rfl (any_of HT_.out (by kernel_rfl)) (fun _ _ _ h => h) (Or.inl ⟨by rfl, ?_⟩) ?_ ?_
       rotate_left
       ·intro w'
        go_simp
        with_reducible rfl
       rotate_left
       ·simp only [Act.put, sA1, sA2, sA3, i64_w, i32_w]
        rfl
       refine take_ (i := 3) (N := some 26) (v := ?_) (a' := ?_) #[YY,YY,YY,YY,ZZ,ZZ,ZZ,ZZ,ZZ,ZZ,ZZ,ZZ] rfl rfl (take_ofW HT_.out HW_.out (by kernel_rfl)) (fun _ _ _ h => h) (Or.inl ⟨by rfl, ?_⟩) hHeld ?_ ?_
       rotate_left
       ·rintro w' ⟨s0, s1, s2, s3, s4, s5, s6, s7⟩
        go_simp
        with_reducible rfl
       rotate_left
       ·simp only [Act.put, sA1, sA2, sA3, i64_w, i32_w]
        rfl
       refine take_ (i := 4) (N := some 27) (v := ?_) (a' := ?_) #[YY,YY,YY,YY,YY,ZZ,ZZ,ZZ,ZZ,ZZ,ZZ,ZZ] rfl rfl (take_ofW HT_.out HW_.out (by kernel_rfl)) (fun _ _ _ h => h) (Or.inl ⟨by rfl, ?_⟩) hHeld ?_ ?_
       rotate_left
       ·rintro w' ⟨s0, s1, s2, s3, s4, s5, s6, s7⟩
        go_simp
        with_reducible rfl
       rotate_left
       ·simp only [Act.put, sA1, sA2, sA3, i64_w, i32_w]
        rfl
       refine join_ (σ := Nat) 2 #[YY,YY,YY,YY,YY,YY,YY,YY,YY,YY,ZZ,ZZ] (fun s_ => [(28, .tuple #[.agg #[.int .u8 t344, .int .i64 t345, .string t346, .string t347, .string t348, .int .u64 t349], .bool true]), (9, .pointer (some ⟨s_, 0, none⟩)), (22, .tuple #[.agg #[.int .u8 t344, .int .i64 t345, .string t346, .string t347, .string t348, .int .u64 t349], .bool true]), (29, .agg #[.int .u8 t344, .int .i64 t345, .string t346, .string t347, .string t348, .int .u64 t349]), (30, .bool true)]) (fun s_ w' => (w'.cell? ⟨gb333, 0, none⟩ = some (.string a2_0) ∧ w'.cell? ⟨gb333, 1, none⟩ = some (.string a2_1) ∧ w'.cell? (ad343.add ((x8_1).toNat * 6)) = some (.int .u8 ((rd_T33 t334 x8_1).f0)) ∧ w'.cell? ⟨(ad343.add ((x8_1).toNat * 6)).block, (ad343.add ((x8_1).toNat * 6)).off + 1, none⟩ = some (.int .i64 ((rd_T33 t334 x8_1).f1)) ∧ w'.cell? ⟨(ad343.add ((x8_1).toNat * 6)).block, (ad343.add ((x8_1).toNat * 6)).off + 2, none⟩ = some (.string ((rd_T33 t334 x8_1).f2)) ∧ w'.cell? ⟨(ad343.add ((x8_1).toNat * 6)).block, (ad343.add ((x8_1).toNat * 6)).off + 3, none⟩ = some (.string ((rd_T33 t334 x8_1).f3)) ∧ w'.cell? ⟨(ad343.add ((x8_1).toNat * 6)).block, (ad343.add ((x8_1).toNat * 6)).off + 4, none⟩ = some (.string ((rd_T33 t334 x8_1).f4)) ∧ w'.cell? ⟨(ad343.add ((x8_1).toNat * 6)).block, (ad343.add ((x8_1).toNat * 6)).off + 5, none⟩ = some (.int .u64 ((rd_T33 t334 x8_1).f5))) ∧ (Kd.V k33 33 w' w.heap.size (fun k_ => some k_ ≠ (u7 : Value).ownBlock ∧ k_ ≠ gb333 ∧ k_ ≠ s_) (.slice (some ad343) t334.length co16) t334) ∧ (Kd.V k55 55 w' w.heap.size (fun k_ => some k_ ≠ (u7 : Value).ownBlock ∧ k_ ≠ gb333 ∧ k_ ≠ s_) v338 t337) ∧ (Kd.R k33 33 w' w.heap.size (fun k_ => k_ ≠ s_) u7 x7_1) ∧ (w'.heap[gb333]? = some (.cells #[.string a2_0, .string a2_1] 38 (0, 0))) ∧ (w'.heap[s_]? = some (.cells #[.int .u8 0, .int .i64 0, .string (⟨#[]⟩ : BA), .string (⟨#[]⟩ : BA), .string (⟨#[]⟩ : BA), .int .u64 0] 33 (0, 0))) ∧ (w.heap.size ≤ s_) ∧ (w.heap.size ≤ s_) ∧ (gb333 ≠ s_) ∧ (s_ ≠ gb333) ∧ (Below w.heap.size w w')) ?_ ?_
       rotate_left
       ·intro hCont
        refine two_ (i := 5) (j := 9) (Ni := some 28) (Nj := some 9) #[YY,YY,YY,YY,YY,YY,ZZ,ZZ,ZZ,ZZ,ZZ,ZZ] #[YY,YY,YY,YY,YY,ZZ,ZZ,ZZ,ZZ,YY,ZZ,ZZ] rfl rfl rfl rfl (two_of HT_.out (by kernel_rfl)) (by decide) (by decide) (fun K hK => ?_) (fun K hK => ?_)
        ·skip
         refine goes_ Try.func26 (by kernel_rfl) rfl #[.agg #[.int .u8 ((rd_T33 t334 x8_1).f0), .int .i64 ((rd_T33 t334 x8_1).f1), .string ((rd_T33 t334 x8_1).f2), .string ((rd_T33 t334 x8_1).f3), .string ((rd_T33 t334 x8_1).f4), .int .u64 ((rd_T33 t334 x8_1).f5)], .agg #[.string a2_0, .string a2_1]] (by rfl) rfl rfl (by (try simp only [mA1, mA2, mA3]); first | done | rfl | (simp only [mA5, mA4]; rfl)) ?_
         with_reducible refine (catchmentref04_Clip.calls k1 ((rd_T33 t334 x8_1).f0) ((rd_T33 t334 x8_1).f1) ((rd_T33 t334 x8_1).f2) ((rd_T33 t334 x8_1).f3) ((rd_T33 t334 x8_1).f4) ((rd_T33 t334 x8_1).f5) a2_0 a2_1 t344 t345 t346 t347 t348 t349 true _ A13.out).mono ?_
         rintro e w18 ⟨rfl, hb⟩
         have HS2_ := (hb.cell (World.block_lt_of_cell? _ _ (hHeld.2.2.1))).trans (hHeld.2.2.1)
         have HS3_ := (hb.cell (World.block_lt_of_cell? _ _ (hHeld.2.2.2.1))).trans (hHeld.2.2.2.1)
         have HS4_ := (hb.cell (World.block_lt_of_cell? _ _ (hHeld.2.2.2.2.1))).trans (hHeld.2.2.2.2.1)
         have HS5_ := (hb.cell (World.block_lt_of_cell? _ _ (hHeld.2.2.2.2.2.1))).trans (hHeld.2.2.2.2.2.1)
         have HS6_ := (hb.cell (World.block_lt_of_cell? _ _ (hHeld.2.2.2.2.2.2.1))).trans (hHeld.2.2.2.2.2.2.1)
         have HS7_ := (hb.cell (World.block_lt_of_cell? _ _ (hHeld.2.2.2.2.2.2.2))).trans (hHeld.2.2.2.2.2.2.2)
         refine ⟨_, rfl, ?_⟩
         have n0_ := Aside0.mk (Kd.V_below (by (with_reducible repeat (first | apply Kd.V_alloc | apply Kd.V_drewN | apply Kd.V_drew)); exact HO_0.out) hb)
         have n1_ := Aside0.mk (Kd.V_below (by (with_reducible repeat (first | apply Kd.V_alloc | apply Kd.V_drewN | apply Kd.V_drew)); exact HO_1.out) hb)
         have n2_ := Aside0.mk (Kd.R_below (by (with_reducible repeat (first | apply Kd.R_alloc | apply Kd.R_drewN | apply Kd.R_drew)); exact HO_7.out) hb)
         have n3_ := Aside0.mk (bB (g := gb333) (o := .cells #[.string a2_0, .string a2_1] 38 (0, 0)) (by (with_reducible repeat (first | refine bN ?_ _ | refine bD ?_ | refine bA ?_ _)); exact BK333.out) hb)
         have n4_ := Aside0.mk (wT (by repeat (first | (with_reducible first | exact HB.out | apply wA | apply wN | apply w1 | refine wS ?_ GE333.out) | exact HB.out)) hb)
         clear HO_0
         clear HO_1
         clear HO_7
         clear BK333
         clear HB
         have HO_0 := n0_
         have HO_1 := n1_
         have HO_7 := n2_
         have BK333 := n3_
         have HB := n4_
         clear n0_ n1_ n2_ n3_ n4_
         (try clear hb)
         (try clear hb2)
         (try clear hk)
         (try clear hi)
         refine hK.out _ _ ⟨(bC BK333.out 0).trans rfl, (bC BK333.out 1).trans rfl, HS2_, HS3_, HS4_, HS5_, HS6_, HS7_⟩ (fun hHeld => ?_)
         clear hK K
         refine norm_ (a' := ?_) ?_ ?_
         rotate_left
         ·show Act.put _ (some 28) _ = _
          simp only [Act.put, sA1, sA2, sA3, i64_w, i32_w]
          rfl
         refine pure_ (i := 6) (N := some 22) (v := ?_) (a' := ?_) #[YY,YY,YY,YY,YY,YY,YY,ZZ,ZZ,ZZ,ZZ,ZZ] rfl rfl (any_of HT_.out (by kernel_rfl)) (fun _ _ _ h => h) (Or.inl ⟨by rfl, ?_⟩) ?_ ?_
         rotate_left
         ·intro w'
          go_simp
          with_reducible rfl
         rotate_left
         ·simp only [Act.put, sA1, sA2, sA3, i64_w, i32_w]
          rfl
         refine pure_ (i := 7) (N := some 29) (v := ?_) (a' := ?_) #[YY,YY,YY,YY,YY,YY,YY,YY,ZZ,ZZ,ZZ,ZZ] rfl rfl (any_of HT_.out (by kernel_rfl)) (fun _ _ _ h => h) (Or.inl ⟨by rfl, ?_⟩) ?_ ?_
         rotate_left
         ·intro w'
          go_simp
          with_reducible rfl
         rotate_left
         ·simp only [Act.put, sA1, sA2, sA3, i64_w, i32_w]
          rfl
         refine pure_ (i := 8) (N := some 30) (v := ?_) (a' := ?_) #[YY,YY,YY,YY,YY,YY,YY,YY,YY,ZZ,ZZ,ZZ] rfl rfl (any_of HT_.out (by kernel_rfl)) (fun _ _ _ h => h) (Or.inl ⟨by rfl, ?_⟩) ?_ ?_
         rotate_left
         ·intro w'
          go_simp
          with_reducible rfl
         rotate_left
         ·simp only [Act.put, sA1, sA2, sA3, i64_w, i32_w]
          rfl
         refine one_ (i := 9) (N := some 9) #[YY,YY,YY,YY,YY,YY,YY,YY,YY,YY,ZZ,ZZ] rfl rfl (one_of HT_.out (by kernel_rfl)) (by decide) (fun K hK => ?_)
         refine box_step ?hg (N := 9) ?hd (cs := #[.int .u8 0, .int .i64 0, .string (⟨#[]⟩ : BA), .string (⟨#[]⟩ : BA), .string (⟨#[]⟩ : BA), .int .u64 0]) (t := 33) ?hr ?_; (case hd => rfl); (case hg => rfl); (case hr => first | (go_simp; done) | (go_simp; rfl))
         intro gb351 hg w19 hbox hb
         have HS2_ := (hb.cell (World.block_lt_of_cell? _ _ (hHeld.2.2.1))).trans (hHeld.2.2.1)
         have HS3_ := (hb.cell (World.block_lt_of_cell? _ _ (hHeld.2.2.2.1))).trans (hHeld.2.2.2.1)
         have HS4_ := (hb.cell (World.block_lt_of_cell? _ _ (hHeld.2.2.2.2.1))).trans (hHeld.2.2.2.2.1)
         have HS5_ := (hb.cell (World.block_lt_of_cell? _ _ (hHeld.2.2.2.2.2.1))).trans (hHeld.2.2.2.2.2.1)
         have HS6_ := (hb.cell (World.block_lt_of_cell? _ _ (hHeld.2.2.2.2.2.2.1))).trans (hHeld.2.2.2.2.2.2.1)
         have HS7_ := (hb.cell (World.block_lt_of_cell? _ _ (hHeld.2.2.2.2.2.2.2))).trans (hHeld.2.2.2.2.2.2.2)
         have n0_ := Aside0.mk (Kd.V_below (Kd.V_elderB (by (with_reducible repeat (first | apply Kd.V_alloc | apply Kd.V_drewN | apply Kd.V_drew)); exact HO_0.out) gb351 (Nat.le_of_eq hg.symm)) hb)
         have n1_ := Aside0.mk (Kd.V_below (Kd.V_elderB (by (with_reducible repeat (first | apply Kd.V_alloc | apply Kd.V_drewN | apply Kd.V_drew)); exact HO_1.out) gb351 (Nat.le_of_eq hg.symm)) hb)
         have n2_ := Aside0.mk (Kd.R_below (Kd.R_elderB (by (with_reducible repeat (first | apply Kd.R_alloc | apply Kd.R_drewN | apply Kd.R_drew)); exact HO_7.out) gb351 (Nat.le_of_eq hg.symm)) hb)
         have n3_ := Aside0.mk (bB (g := gb333) (o := .cells #[.string a2_0, .string a2_1] 38 (0, 0)) (by (with_reducible repeat (first | refine bN ?_ _ | refine bD ?_ | refine bA ?_ _)); exact BK333.out) hb)
         have n4_ := Aside0.mk (wT (by repeat (first | (with_reducible first | exact HB.out | apply wA | apply wN | apply w1 | refine wS ?_ GE333.out) | exact HB.out)) hb)
         have n5_ := Aside0.mk (hbox)
         have n6_ := Aside0.mk ((by rw [hg]; exact (wZ (by repeat (first | (with_reducible first | exact HB.out | apply wA | apply wN | apply w1 | refine wS ?_ GE333.out) | exact HB.out))) : w.heap.size ≤ gb351))
         have n7_ := Aside0.mk ((by rw [hg]; exact (wZ (by repeat (first | (with_reducible first | exact HB.out | apply wA | apply wN | apply w1 | refine wS ?_ GE333.out) | exact HB.out))) : w.heap.size ≤ gb351))
         have n8_ := Aside0.mk ((by rw [hg]; exact Nat.ne_of_lt (blk_lt (g := gb333) (o := .cells #[.string a2_0, .string a2_1] 38 (0, 0)) (by (with_reducible repeat (first | refine bN ?_ _ | refine bD ?_ | refine bA ?_ _)); exact BK333.out)) : gb333 ≠ gb351))
         have n9_ := Aside0.mk ((by rw [hg]; exact Nat.ne_of_gt (blk_lt (g := gb333) (o := .cells #[.string a2_0, .string a2_1] 38 (0, 0)) (by (with_reducible repeat (first | refine bN ?_ _ | refine bD ?_ | refine bA ?_ _)); exact BK333.out)) : gb351 ≠ gb333))
         clear HO_0
         clear HO_1
         clear HO_7
         clear BK333
         clear HB
         have HO_0 := n0_
         have HO_1 := n1_
         have HO_7 := n2_
         have BK333 := n3_
         have HB := n4_
         have BK351 := n5_
         have GW351 := n6_
         have GE351 := n7_
         have NB333_351 := n8_
         have NB351_333 := n9_
         clear n0_ n1_ n2_ n3_ n4_ n5_ n6_ n7_ n8_ n9_
         clear hb hbox hg
         refine hK.out _ _ ⟨(bC BK333.out 0).trans rfl, (bC BK333.out 1).trans rfl, HS2_, HS3_, HS4_, HS5_, HS6_, HS7_⟩ (fun hHeld => ?_)
         clear hK K
         refine norm_ (a' := ?_) ?_ ?_
         rotate_left
         ·show Act.put _ (some 9) _ = _
          simp only [Act.put, sA1, sA2, sA3, i64_w, i32_w]
          rfl
         exact norm_ (by simp only [putAll, Act.put, sA1, sA2, sA3]) (hCont (gb351) _ ⟨hHeld, (by (with_reducible repeat (first | apply Kd.V_alloc | apply Kd.V_drewN | apply Kd.V_drew)); exact Kd.V_mono HO_0.out (fun _ hk => ⟨hk.1.1, ⟨hk.1.2, hk.2⟩⟩)), (by (with_reducible repeat (first | apply Kd.V_alloc | apply Kd.V_drewN | apply Kd.V_drew)); exact Kd.V_mono HO_1.out (fun _ hk => ⟨hk.1.1, ⟨hk.1.2, hk.2⟩⟩)), (by (with_reducible repeat (first | apply Kd.R_alloc | apply Kd.R_drewN | apply Kd.R_drew)); exact Kd.R_mono HO_7.out (fun _ hk => hk.2)), (by (with_reducible repeat (first | refine bN ?_ _ | refine bD ?_ | refine bA ?_ _)); exact BK333.out), (by (with_reducible repeat (first | refine bN ?_ _ | refine bD ?_ | refine bA ?_ _)); exact BK351.out), GW351.out, GE351.out, NB333_351.out, NB351_333.out, (by repeat (first | (with_reducible first | exact HB.out | apply wA | apply wN | apply w1 | refine wS ?_ GE333.out | refine wS ?_ GE351.out) | exact HB.out))⟩)
        ·skip
         refine box_step ?hg (N := 9) ?hd (cs := #[.int .u8 0, .int .i64 0, .string (⟨#[]⟩ : BA), .string (⟨#[]⟩ : BA), .string (⟨#[]⟩ : BA), .int .u64 0]) (t := 33) ?hr ?_; (case hd => rfl); (case hg => rfl); (case hr => first | (go_simp; done) | (go_simp; rfl))
         intro gb351 hg w18 hbox hb
         have HS2_ := (hb.cell (World.block_lt_of_cell? _ _ (hHeld.2.2.1))).trans (hHeld.2.2.1)
         have HS3_ := (hb.cell (World.block_lt_of_cell? _ _ (hHeld.2.2.2.1))).trans (hHeld.2.2.2.1)
         have HS4_ := (hb.cell (World.block_lt_of_cell? _ _ (hHeld.2.2.2.2.1))).trans (hHeld.2.2.2.2.1)
         have HS5_ := (hb.cell (World.block_lt_of_cell? _ _ (hHeld.2.2.2.2.2.1))).trans (hHeld.2.2.2.2.2.1)
         have HS6_ := (hb.cell (World.block_lt_of_cell? _ _ (hHeld.2.2.2.2.2.2.1))).trans (hHeld.2.2.2.2.2.2.1)
         have HS7_ := (hb.cell (World.block_lt_of_cell? _ _ (hHeld.2.2.2.2.2.2.2))).trans (hHeld.2.2.2.2.2.2.2)
         have n0_ := Aside0.mk (Kd.V_below (Kd.V_elderB (by (with_reducible repeat (first | apply Kd.V_alloc | apply Kd.V_drewN | apply Kd.V_drew)); exact HO_0.out) gb351 (Nat.le_of_eq hg.symm)) hb)
         have n1_ := Aside0.mk (Kd.V_below (Kd.V_elderB (by (with_reducible repeat (first | apply Kd.V_alloc | apply Kd.V_drewN | apply Kd.V_drew)); exact HO_1.out) gb351 (Nat.le_of_eq hg.symm)) hb)
         have n2_ := Aside0.mk (Kd.R_below (Kd.R_elderB (by (with_reducible repeat (first | apply Kd.R_alloc | apply Kd.R_drewN | apply Kd.R_drew)); exact HO_7.out) gb351 (Nat.le_of_eq hg.symm)) hb)
         have n3_ := Aside0.mk (bB (g := gb333) (o := .cells #[.string a2_0, .string a2_1] 38 (0, 0)) (by (with_reducible repeat (first | refine bN ?_ _ | refine bD ?_ | refine bA ?_ _)); exact BK333.out) hb)
         have n4_ := Aside0.mk (wT (by repeat (first | (with_reducible first | exact HB.out | apply wA | apply wN | apply w1 | refine wS ?_ GE333.out) | exact HB.out)) hb)
         have n5_ := Aside0.mk (hbox)
         have n6_ := Aside0.mk ((by rw [hg]; exact (wZ (by repeat (first | (with_reducible first | exact HB.out | apply wA | apply wN | apply w1 | refine wS ?_ GE333.out) | exact HB.out))) : w.heap.size ≤ gb351))
         have n7_ := Aside0.mk ((by rw [hg]; exact (wZ (by repeat (first | (with_reducible first | exact HB.out | apply wA | apply wN | apply w1 | refine wS ?_ GE333.out) | exact HB.out))) : w.heap.size ≤ gb351))
         have n8_ := Aside0.mk ((by rw [hg]; exact Nat.ne_of_lt (blk_lt (g := gb333) (o := .cells #[.string a2_0, .string a2_1] 38 (0, 0)) (by (with_reducible repeat (first | refine bN ?_ _ | refine bD ?_ | refine bA ?_ _)); exact BK333.out)) : gb333 ≠ gb351))
         have n9_ := Aside0.mk ((by rw [hg]; exact Nat.ne_of_gt (blk_lt (g := gb333) (o := .cells #[.string a2_0, .string a2_1] 38 (0, 0)) (by (with_reducible repeat (first | refine bN ?_ _ | refine bD ?_ | refine bA ?_ _)); exact BK333.out)) : gb351 ≠ gb333))
         clear HO_0
         clear HO_1
         clear HO_7
         clear BK333
         clear HB
         have HO_0 := n0_
         have HO_1 := n1_
         have HO_7 := n2_
         have BK333 := n3_
         have HB := n4_
         have BK351 := n5_
         have GW351 := n6_
         have GE351 := n7_
         have NB333_351 := n8_
         have NB351_333 := n9_
         clear n0_ n1_ n2_ n3_ n4_ n5_ n6_ n7_ n8_ n9_
         clear hb hbox hg
         refine hK.out _ _ ⟨(bC BK333.out 0).trans rfl, (bC BK333.out 1).trans rfl, HS2_, HS3_, HS4_, HS5_, HS6_, HS7_⟩ (fun hHeld => ?_)
         clear hK K
         refine norm_ (a' := ?_) ?_ ?_
         rotate_left
         ·show Act.put _ (some 9) _ = _
          simp only [Act.put, sA1, sA2, sA3, i64_w, i32_w]
          rfl
         refine one_ (i := 5) (N := some 28) #[YY,YY,YY,YY,YY,YY,ZZ,ZZ,ZZ,YY,ZZ,ZZ] rfl rfl (one_of HT_.out (by kernel_rfl)) (by decide) (fun K hK => ?_)
         refine goes_ Try.func26 (by kernel_rfl) rfl #[.agg #[.int .u8 ((rd_T33 t334 x8_1).f0), .int .i64 ((rd_T33 t334 x8_1).f1), .string ((rd_T33 t334 x8_1).f2), .string ((rd_T33 t334 x8_1).f3), .string ((rd_T33 t334 x8_1).f4), .int .u64 ((rd_T33 t334 x8_1).f5)], .agg #[.string a2_0, .string a2_1]] (by rfl) rfl rfl (by (try simp only [mA1, mA2, mA3]); first | done | rfl | (simp only [mA5, mA4]; rfl)) ?_
         with_reducible refine (catchmentref04_Clip.calls k1 ((rd_T33 t334 x8_1).f0) ((rd_T33 t334 x8_1).f1) ((rd_T33 t334 x8_1).f2) ((rd_T33 t334 x8_1).f3) ((rd_T33 t334 x8_1).f4) ((rd_T33 t334 x8_1).f5) a2_0 a2_1 t344 t345 t346 t347 t348 t349 true _ A13.out).mono ?_
         rintro e w19 ⟨rfl, hb⟩
         have HS2_ := (hb.cell (World.block_lt_of_cell? _ _ (hHeld.2.2.1))).trans (hHeld.2.2.1)
         have HS3_ := (hb.cell (World.block_lt_of_cell? _ _ (hHeld.2.2.2.1))).trans (hHeld.2.2.2.1)
         have HS4_ := (hb.cell (World.block_lt_of_cell? _ _ (hHeld.2.2.2.2.1))).trans (hHeld.2.2.2.2.1)
         have HS5_ := (hb.cell (World.block_lt_of_cell? _ _ (hHeld.2.2.2.2.2.1))).trans (hHeld.2.2.2.2.2.1)
         have HS6_ := (hb.cell (World.block_lt_of_cell? _ _ (hHeld.2.2.2.2.2.2.1))).trans (hHeld.2.2.2.2.2.2.1)
         have HS7_ := (hb.cell (World.block_lt_of_cell? _ _ (hHeld.2.2.2.2.2.2.2))).trans (hHeld.2.2.2.2.2.2.2)
         refine ⟨_, rfl, ?_⟩
         have n0_ := Aside0.mk (Kd.V_below (by (with_reducible repeat (first | apply Kd.V_alloc | apply Kd.V_drewN | apply Kd.V_drew)); exact HO_0.out) hb)
         have n1_ := Aside0.mk (Kd.V_below (by (with_reducible repeat (first | apply Kd.V_alloc | apply Kd.V_drewN | apply Kd.V_drew)); exact HO_1.out) hb)
         have n2_ := Aside0.mk (Kd.R_below (by (with_reducible repeat (first | apply Kd.R_alloc | apply Kd.R_drewN | apply Kd.R_drew)); exact HO_7.out) hb)
         have n3_ := Aside0.mk (bB (g := gb333) (o := .cells #[.string a2_0, .string a2_1] 38 (0, 0)) (by (with_reducible repeat (first | refine bN ?_ _ | refine bD ?_ | refine bA ?_ _)); exact BK333.out) hb)
         have n4_ := Aside0.mk (bB (g := gb351) (o := .cells #[.int .u8 0, .int .i64 0, .string (⟨#[]⟩ : BA), .string (⟨#[]⟩ : BA), .string (⟨#[]⟩ : BA), .int .u64 0] 33 (0, 0)) (by (with_reducible repeat (first | refine bN ?_ _ | refine bD ?_ | refine bA ?_ _)); exact BK351.out) hb)
         have n5_ := Aside0.mk (wT (by repeat (first | (with_reducible first | exact HB.out | apply wA | apply wN | apply w1 | refine wS ?_ GE333.out | refine wS ?_ GE351.out) | exact HB.out)) hb)
         clear HO_0
         clear HO_1
         clear HO_7
         clear BK333
         clear BK351
         clear HB
         have HO_0 := n0_
         have HO_1 := n1_
         have HO_7 := n2_
         have BK333 := n3_
         have BK351 := n4_
         have HB := n5_
         clear n0_ n1_ n2_ n3_ n4_ n5_
         (try clear hb)
         (try clear hb2)
         (try clear hk)
         (try clear hi)
         refine hK.out _ _ ⟨(bC BK333.out 0).trans rfl, (bC BK333.out 1).trans rfl, HS2_, HS3_, HS4_, HS5_, HS6_, HS7_⟩ (fun hHeld => ?_)
         clear hK K
         refine norm_ (a' := ?_) ?_ ?_
         rotate_left
         ·show Act.put _ (some 28) _ = _
          simp only [Act.put, sA1, sA2, sA3, i64_w, i32_w]
          rfl
         refine pure_ (i := 6) (N := some 22) (v := ?_) (a' := ?_) #[YY,YY,YY,YY,YY,YY,YY,ZZ,ZZ,YY,ZZ,ZZ] rfl rfl (any_of HT_.out (by kernel_rfl)) (fun _ _ _ h => h) (Or.inl ⟨by rfl, ?_⟩) ?_ ?_
         rotate_left
         ·intro w'
          go_simp
          with_reducible rfl
         rotate_left
         ·simp only [Act.put, sA1, sA2, sA3, i64_w, i32_w]
          rfl
         refine pure_ (i := 7) (N := some 29) (v := ?_) (a' := ?_) #[YY,YY,YY,YY,YY,YY,YY,YY,ZZ,YY,ZZ,ZZ] rfl rfl (any_of HT_.out (by kernel_rfl)) (fun _ _ _ h => h) (Or.inl ⟨by rfl, ?_⟩) ?_ ?_
         rotate_left
         ·intro w'
          go_simp
          with_reducible rfl
         rotate_left
         ·simp only [Act.put, sA1, sA2, sA3, i64_w, i32_w]
          rfl
         refine pure_ (i := 8) (N := some 30) (v := ?_) (a' := ?_) #[YY,YY,YY,YY,YY,YY,YY,YY,YY,YY,ZZ,ZZ] rfl rfl (any_of HT_.out (by kernel_rfl)) (fun _ _ _ h => h) (Or.inl ⟨by rfl, ?_⟩) ?_ ?_
         rotate_left
         ·intro w'
          go_simp
          with_reducible rfl
         rotate_left
         ·simp only [Act.put, sA1, sA2, sA3, i64_w, i32_w]
          rfl
         exact norm_ (by simp only [putAll, Act.put, sA1, sA2, sA3]) (hCont (gb351) _ ⟨hHeld, (by (with_reducible repeat (first | apply Kd.V_alloc | apply Kd.V_drewN | apply Kd.V_drew)); exact Kd.V_mono HO_0.out (fun _ hk => ⟨hk.1.1, ⟨hk.1.2, hk.2⟩⟩)), (by (with_reducible repeat (first | apply Kd.V_alloc | apply Kd.V_drewN | apply Kd.V_drew)); exact Kd.V_mono HO_1.out (fun _ hk => ⟨hk.1.1, ⟨hk.1.2, hk.2⟩⟩)), (by (with_reducible repeat (first | apply Kd.R_alloc | apply Kd.R_drewN | apply Kd.R_drew)); exact Kd.R_mono HO_7.out (fun _ hk => hk.2)), (by (with_reducible repeat (first | refine bN ?_ _ | refine bD ?_ | refine bA ?_ _)); exact BK333.out), (by (with_reducible repeat (first | refine bN ?_ _ | refine bD ?_ | refine bA ?_ _)); exact BK351.out), GW351.out, GE351.out, NB333_351.out, NB351_333.out, (by repeat (first | (with_reducible first | exact HB.out | apply wA | apply wN | apply w1 | refine wS ?_ GE333.out | refine wS ?_ GE351.out) | exact HB.out))⟩)
       rintro gb351 w20 ⟨hS_, h0_, h1_, h2_, h3_, h4_, h5_, h6_, h7_, h8_, h9_⟩
       have n0_ : Aside0 (Kd.V k33 33 w20 w.heap.size (fun k_ => some k_ ≠ (u7 : Value).ownBlock ∧ k_ ≠ gb333 ∧ k_ ≠ gb351) (.slice (some ad343) t334.length co16) t334) := ⟨h0_⟩
       have n1_ : Aside0 (Kd.V k55 55 w20 w.heap.size (fun k_ => some k_ ≠ (u7 : Value).ownBlock ∧ k_ ≠ gb333 ∧ k_ ≠ gb351) v338 t337) := ⟨h1_⟩
       have n2_ : Aside0 (Kd.R k33 33 w20 w.heap.size (fun k_ => k_ ≠ gb351) u7 x7_1) := ⟨h2_⟩
       have n3_ : Aside0 (w20.heap[gb333]? = some (.cells #[.string a2_0, .string a2_1] 38 (0, 0))) := ⟨h3_⟩
       have n4_ : Aside0 (w20.heap[gb351]? = some (.cells #[.int .u8 0, .int .i64 0, .string (⟨#[]⟩ : BA), .string (⟨#[]⟩ : BA), .string (⟨#[]⟩ : BA), .int .u64 0] 33 (0, 0))) := ⟨h4_⟩
       have n5_ : Aside0 (w.heap.size ≤ gb351) := ⟨h5_⟩
       have n6_ : Aside0 (w.heap.size ≤ gb351) := ⟨h6_⟩
       have n7_ : Aside0 (gb333 ≠ gb351) := ⟨h7_⟩
       have n8_ : Aside0 (gb351 ≠ gb333) := ⟨h8_⟩
       have n9_ : Aside0 (Below w.heap.size w w20) := ⟨h9_⟩
       clear HO_0
       clear HO_1
       clear HO_7
       clear BK333
       clear HB
       clear h0_ h1_ h2_ h3_ h4_ h5_ h6_ h7_ h8_ h9_
       have HO_0 := n0_
       have HO_1 := n1_
       have HO_7 := n2_
       have BK333 := n3_
       have BK351 := n4_
       have GW351 := n5_
       have GE351 := n6_
       have NB333_351 := n7_
       have NB351_333 := n8_
       have HB := n9_
       clear n0_ n1_ n2_ n3_ n4_ n5_ n6_ n7_ n8_ n9_
       have hHeld : w20.cell? ⟨gb333, 0, none⟩ = some (.string a2_0) ∧ w20.cell? ⟨gb333, 1, none⟩ = some (.string a2_1) ∧ w20.cell? (ad343.add ((x8_1).toNat * 6)) = some (.int .u8 ((rd_T33 t334 x8_1).f0)) ∧ w20.cell? ⟨(ad343.add ((x8_1).toNat * 6)).block, (ad343.add ((x8_1).toNat * 6)).off + 1, none⟩ = some (.int .i64 ((rd_T33 t334 x8_1).f1)) ∧ w20.cell? ⟨(ad343.add ((x8_1).toNat * 6)).block, (ad343.add ((x8_1).toNat * 6)).off + 2, none⟩ = some (.string ((rd_T33 t334 x8_1).f2)) ∧ w20.cell? ⟨(ad343.add ((x8_1).toNat * 6)).block, (ad343.add ((x8_1).toNat * 6)).off + 3, none⟩ = some (.string ((rd_T33 t334 x8_1).f3)) ∧ w20.cell? ⟨(ad343.add ((x8_1).toNat * 6)).block, (ad343.add ((x8_1).toNat * 6)).off + 4, none⟩ = some (.string ((rd_T33 t334 x8_1).f4)) ∧ w20.cell? ⟨(ad343.add ((x8_1).toNat * 6)).block, (ad343.add ((x8_1).toNat * 6)).off + 5, none⟩ = some (.int .u64 ((rd_T33 t334 x8_1).f5)) := hS_
       refine norm_ (a' := ?_) ?_ ?_
       rotate_left
       ·simp only [putAll, Act.put, sA1, sA2, sA3]
        rfl
       refine one_ (i := 10) (N := none) #[YY,YY,YY,YY,YY,YY,YY,YY,YY,YY,YY,ZZ] rfl rfl (one_of HT_.out (by kernel_rfl)) (by decide) (fun K hK => ?_)
       have hs21 : w20.cell? ⟨gb351, 0, none⟩ = some (.int .u8 0) := (bC BK351.out 0).trans rfl
       have hfs21 := bF BK351.out 0
       have hns21_0 := NB333_351.out
       have hms21_0 := NB351_333.out
       have hs22 : w20.cell? ⟨gb351, 1, none⟩ = some (.int .i64 0) := (bC BK351.out 1).trans rfl
       have hfs22 := bF BK351.out 1
       have hns22_0 := NB333_351.out
       have hms22_0 := NB351_333.out
       have hs23 : w20.cell? ⟨gb351, 2, none⟩ = some (.string (⟨#[]⟩ : BA)) := (bC BK351.out 2).trans rfl
       have hfs23 := bF BK351.out 2
       have hns23_0 := NB333_351.out
       have hms23_0 := NB351_333.out
       have hs24 : w20.cell? ⟨gb351, 3, none⟩ = some (.string (⟨#[]⟩ : BA)) := (bC BK351.out 3).trans rfl
       have hfs24 := bF BK351.out 3
       have hns24_0 := NB333_351.out
       have hms24_0 := NB351_333.out
       have hs25 : w20.cell? ⟨gb351, 4, none⟩ = some (.string (⟨#[]⟩ : BA)) := (bC BK351.out 4).trans rfl
       have hfs25 := bF BK351.out 4
       have hns25_0 := NB333_351.out
       have hms25_0 := NB351_333.out
       have hs26 : w20.cell? ⟨gb351, 5, none⟩ = some (.int .u64 0) := (bC BK351.out 5).trans rfl
       have hfs26 := bF BK351.out 5
       have hns26_0 := NB333_351.out
       have hms26_0 := NB351_333.out
       refine skip_ (w1 := ?_) (by rfl) rfl ?_ ?_
       rotate_left
       ·go_simp
        rfl
       refine hK.out _ _ ⟨((cF (p := ⟨gb351, _, none⟩) NB333_351.out _).trans (((cF (p := ⟨gb351, _, none⟩) NB333_351.out _).trans (((cF (p := ⟨gb351, _, none⟩) NB333_351.out _).trans (((cF (p := ⟨gb351, _, none⟩) NB333_351.out _).trans (((cF (p := ⟨gb351, _, none⟩) NB333_351.out _).trans (((cF (p := ⟨gb351, _, none⟩) NB333_351.out _).trans (hHeld.1)))))))))))), ((cF (p := ⟨gb351, _, none⟩) NB333_351.out _).trans (((cF (p := ⟨gb351, _, none⟩) NB333_351.out _).trans (((cF (p := ⟨gb351, _, none⟩) NB333_351.out _).trans (((cF (p := ⟨gb351, _, none⟩) NB333_351.out _).trans (((cF (p := ⟨gb351, _, none⟩) NB333_351.out _).trans (((cF (p := ⟨gb351, _, none⟩) NB333_351.out _).trans (hHeld.2.1)))))))))))), ((cF (p := ⟨gb351, _, none⟩) (by first | exact V_awayB HO_0.out (by decide) (fun _ hk => hk.2.2) c12b0 c11b0 | (rw [add_block]; exact V_awayB HO_0.out (by decide) (fun _ hk => hk.2.2) c12b0 c11b0) | (show (Addr.add _ _).block ≠ _; rw [add_block]; exact V_awayB HO_0.out (by decide) (fun _ hk => hk.2.2) c12b0 c11b0) | (dsimp only; exact V_awayB HO_0.out (by decide) (fun _ hk => hk.2.2) c12b0 c11b0)) _).trans (((cF (p := ⟨gb351, _, none⟩) (by first | exact V_awayB HO_0.out (by decide) (fun _ hk => hk.2.2) c12b0 c11b0 | (rw [add_block]; exact V_awayB HO_0.out (by decide) (fun _ hk => hk.2.2) c12b0 c11b0) | (show (Addr.add _ _).block ≠ _; rw [add_block]; exact V_awayB HO_0.out (by decide) (fun _ hk => hk.2.2) c12b0 c11b0) | (dsimp only; exact V_awayB HO_0.out (by decide) (fun _ hk => hk.2.2) c12b0 c11b0)) _).trans (((cF (p := ⟨gb351, _, none⟩) (by first | exact V_awayB HO_0.out (by decide) (fun _ hk => hk.2.2) c12b0 c11b0 | (rw [add_block]; exact V_awayB HO_0.out (by decide) (fun _ hk => hk.2.2) c12b0 c11b0) | (show (Addr.add _ _).block ≠ _; rw [add_block]; exact V_awayB HO_0.out (by decide) (fun _ hk => hk.2.2) c12b0 c11b0) | (dsimp only; exact V_awayB HO_0.out (by decide) (fun _ hk => hk.2.2) c12b0 c11b0)) _).trans (((cF (p := ⟨gb351, _, none⟩) (by first | exact V_awayB HO_0.out (by decide) (fun _ hk => hk.2.2) c12b0 c11b0 | (rw [add_block]; exact V_awayB HO_0.out (by decide) (fun _ hk => hk.2.2) c12b0 c11b0) | (show (Addr.add _ _).block ≠ _; rw [add_block]; exact V_awayB HO_0.out (by decide) (fun _ hk => hk.2.2) c12b0 c11b0) | (dsimp only; exact V_awayB HO_0.out (by decide) (fun _ hk => hk.2.2) c12b0 c11b0)) _).trans (((cF (p := ⟨gb351, _, none⟩) (by first | exact V_awayB HO_0.out (by decide) (fun _ hk => hk.2.2) c12b0 c11b0 | (rw [add_block]; exact V_awayB HO_0.out (by decide) (fun _ hk => hk.2.2) c12b0 c11b0) | (show (Addr.add _ _).block ≠ _; rw [add_block]; exact V_awayB HO_0.out (by decide) (fun _ hk => hk.2.2) c12b0 c11b0) | (dsimp only; exact V_awayB HO_0.out (by decide) (fun _ hk => hk.2.2) c12b0 c11b0)) _).trans (((cF (p := ⟨gb351, _, none⟩) (by first | exact V_awayB HO_0.out (by decide) (fun _ hk => hk.2.2) c12b0 c11b0 | (rw [add_block]; exact V_awayB HO_0.out (by decide) (fun _ hk => hk.2.2) c12b0 c11b0) | (show (Addr.add _ _).block ≠ _; rw [add_block]; exact V_awayB HO_0.out (by decide) (fun _ hk => hk.2.2) c12b0 c11b0) | (dsimp only; exact V_awayB HO_0.out (by decide) (fun _ hk => hk.2.2) c12b0 c11b0)) _).trans (hHeld.2.2.1)))))))))))), ((cF (p := ⟨gb351, _, none⟩) (by first | exact V_awayB HO_0.out (by decide) (fun _ hk => hk.2.2) c12b0 c11b0 | (rw [add_block]; exact V_awayB HO_0.out (by decide) (fun _ hk => hk.2.2) c12b0 c11b0) | (show (Addr.add _ _).block ≠ _; rw [add_block]; exact V_awayB HO_0.out (by decide) (fun _ hk => hk.2.2) c12b0 c11b0) | (dsimp only; exact V_awayB HO_0.out (by decide) (fun _ hk => hk.2.2) c12b0 c11b0)) _).trans (((cF (p := ⟨gb351, _, none⟩) (by first | exact V_awayB HO_0.out (by decide) (fun _ hk => hk.2.2) c12b0 c11b0 | (rw [add_block]; exact V_awayB HO_0.out (by decide) (fun _ hk => hk.2.2) c12b0 c11b0) | (show (Addr.add _ _).block ≠ _; rw [add_block]; exact V_awayB HO_0.out (by decide) (fun _ hk => hk.2.2) c12b0 c11b0) | (dsimp only; exact V_awayB HO_0.out (by decide) (fun _ hk => hk.2.2) c12b0 c11b0)) _).trans (((cF (p := ⟨gb351, _, none⟩) (by first | exact V_awayB HO_0.out (by decide) (fun _ hk => hk.2.2) c12b0 c11b0 | (rw [add_block]; exact V_awayB HO_0.out (by decide) (fun _ hk => hk.2.2) c12b0 c11b0) | (show (Addr.add _ _).block ≠ _; rw [add_block]; exact V_awayB HO_0.out (by decide) (fun _ hk => hk.2.2) c12b0 c11b0) | (dsimp only; exact V_awayB HO_0.out (by decide) (fun _ hk => hk.2.2) c12b0 c11b0)) _).trans (((cF (p := ⟨gb351, _, none⟩) (by first | exact V_awayB HO_0.out (by decide) (fun _ hk => hk.2.2) c12b0 c11b0 | (rw [add_block]; exact V_awayB HO_0.out (by decide) (fun _ hk => hk.2.2) c12b0 c11b0) | (show (Addr.add _ _).block ≠ _; rw [add_block]; exact V_awayB HO_0.out (by decide) (fun _ hk => hk.2.2) c12b0 c11b0) | (dsimp only; exact V_awayB HO_0.out (by decide) (fun _ hk => hk.2.2) c12b0 c11b0)) _).trans (((cF (p := ⟨gb351, _, none⟩) (by first | exact V_awayB HO_0.out (by decide) (fun _ hk => hk.2.2) c12b0 c11b0 | (rw [add_block]; exact V_awayB HO_0.out (by decide) (fun _ hk => hk.2.2) c12b0 c11b0) | (show (Addr.add _ _).block ≠ _; rw [add_block]; exact V_awayB HO_0.out (by decide) (fun _ hk => hk.2.2) c12b0 c11b0) | (dsimp only; exact V_awayB HO_0.out (by decide) (fun _ hk => hk.2.2) c12b0 c11b0)) _).trans (((cF (p := ⟨gb351, _, none⟩) (by first | exact V_awayB HO_0.out (by decide) (fun _ hk => hk.2.2) c12b0 c11b0 | (rw [add_block]; exact V_awayB HO_0.out (by decide) (fun _ hk => hk.2.2) c12b0 c11b0) | (show (Addr.add _ _).block ≠ _; rw [add_block]; exact V_awayB HO_0.out (by decide) (fun _ hk => hk.2.2) c12b0 c11b0) | (dsimp only; exact V_awayB HO_0.out (by decide) (fun _ hk => hk.2.2) c12b0 c11b0)) _).trans (hHeld.2.2.2.1)))))))))))), ((cF (p := ⟨gb351, _, none⟩) (by first | exact V_awayB HO_0.out (by decide) (fun _ hk => hk.2.2) c12b0 c11b0 | (rw [add_block]; exact V_awayB HO_0.out (by decide) (fun _ hk => hk.2.2) c12b0 c11b0) | (show (Addr.add _ _).block ≠ _; rw [add_block]; exact V_awayB HO_0.out (by decide) (fun _ hk => hk.2.2) c12b0 c11b0) | (dsimp only; exact V_awayB HO_0.out (by decide) (fun _ hk => hk.2.2) c12b0 c11b0)) _).trans (((cF (p := ⟨gb351, _, none⟩) (by first | exact V_awayB HO_0.out (by decide) (fun _ hk => hk.2.2) c12b0 c11b0 | (rw [add_block]; exact V_awayB HO_0.out (by decide) (fun _ hk => hk.2.2) c12b0 c11b0) | (show (Addr.add _ _).block ≠ _; rw [add_block]; exact V_awayB HO_0.out (by decide) (fun _ hk => hk.2.2) c12b0 c11b0) | (dsimp only; exact V_awayB HO_0.out (by decide) (fun _ hk => hk.2.2) c12b0 c11b0)) _).trans (((cF (p := ⟨gb351, _, none⟩) (by first | exact V_awayB HO_0.out (by decide) (fun _ hk => hk.2.2) c12b0 c11b0 | (rw [add_block]; exact V_awayB HO_0.out (by decide) (fun _ hk => hk.2.2) c12b0 c11b0) | (show (Addr.add _ _).block ≠ _; rw [add_block]; exact V_awayB HO_0.out (by decide) (fun _ hk => hk.2.2) c12b0 c11b0) | (dsimp only; exact V_awayB HO_0.out (by decide) (fun _ hk => hk.2.2) c12b0 c11b0)) _).trans (((cF (p := ⟨gb351, _, none⟩) (by first | exact V_awayB HO_0.out (by decide) (fun _ hk => hk.2.2) c12b0 c11b0 | (rw [add_block]; exact V_awayB HO_0.out (by decide) (fun _ hk => hk.2.2) c12b0 c11b0) | (show (Addr.add _ _).block ≠ _; rw [add_block]; exact V_awayB HO_0.out (by decide) (fun _ hk => hk.2.2) c12b0 c11b0) | (dsimp only; exact V_awayB HO_0.out (by decide) (fun _ hk => hk.2.2) c12b0 c11b0)) _).trans (((cF (p := ⟨gb351, _, none⟩) (by first | exact V_awayB HO_0.out (by decide) (fun _ hk => hk.2.2) c12b0 c11b0 | (rw [add_block]; exact V_awayB HO_0.out (by decide) (fun _ hk => hk.2.2) c12b0 c11b0) | (show (Addr.add _ _).block ≠ _; rw [add_block]; exact V_awayB HO_0.out (by decide) (fun _ hk => hk.2.2) c12b0 c11b0) | (dsimp only; exact V_awayB HO_0.out (by decide) (fun _ hk => hk.2.2) c12b0 c11b0)) _).trans (((cF (p := ⟨gb351, _, none⟩) (by first | exact V_awayB HO_0.out (by decide) (fun _ hk => hk.2.2) c12b0 c11b0 | (rw [add_block]; exact V_awayB HO_0.out (by decide) (fun _ hk => hk.2.2) c12b0 c11b0) | (show (Addr.add _ _).block ≠ _; rw [add_block]; exact V_awayB HO_0.out (by decide) (fun _ hk => hk.2.2) c12b0 c11b0) | (dsimp only; exact V_awayB HO_0.out (by decide) (fun _ hk => hk.2.2) c12b0 c11b0)) _).trans (hHeld.2.2.2.2.1)))))))))))), ((cF (p := ⟨gb351, _, none⟩) (by first | exact V_awayB HO_0.out (by decide) (fun _ hk => hk.2.2) c12b0 c11b0 | (rw [add_block]; exact V_awayB HO_0.out (by decide) (fun _ hk => hk.2.2) c12b0 c11b0) | (show (Addr.add _ _).block ≠ _; rw [add_block]; exact V_awayB HO_0.out (by decide) (fun _ hk => hk.2.2) c12b0 c11b0) | (dsimp only; exact V_awayB HO_0.out (by decide) (fun _ hk => hk.2.2) c12b0 c11b0)) _).trans (((cF (p := ⟨gb351, _, none⟩) (by first | exact V_awayB HO_0.out (by decide) (fun _ hk => hk.2.2) c12b0 c11b0 | (rw [add_block]; exact V_awayB HO_0.out (by decide) (fun _ hk => hk.2.2) c12b0 c11b0) | (show (Addr.add _ _).block ≠ _; rw [add_block]; exact V_awayB HO_0.out (by decide) (fun _ hk => hk.2.2) c12b0 c11b0) | (dsimp only; exact V_awayB HO_0.out (by decide) (fun _ hk => hk.2.2) c12b0 c11b0)) _).trans (((cF (p := ⟨gb351, _, none⟩) (by first | exact V_awayB HO_0.out (by decide) (fun _ hk => hk.2.2) c12b0 c11b0 | (rw [add_block]; exact V_awayB HO_0.out (by decide) (fun _ hk => hk.2.2) c12b0 c11b0) | (show (Addr.add _ _).block ≠ _; rw [add_block]; exact V_awayB HO_0.out (by decide) (fun _ hk => hk.2.2) c12b0 c11b0) | (dsimp only; exact V_awayB HO_0.out (by decide) (fun _ hk => hk.2.2) c12b0 c11b0)) _).trans (((cF (p := ⟨gb351, _, none⟩) (by first | exact V_awayB HO_0.out (by decide) (fun _ hk => hk.2.2) c12b0 c11b0 | (rw [add_block]; exact V_awayB HO_0.out (by decide) (fun _ hk => hk.2.2) c12b0 c11b0) | (show (Addr.add _ _).block ≠ _; rw [add_block]; exact V_awayB HO_0.out (by decide) (fun _ hk => hk.2.2) c12b0 c11b0) | (dsimp only; exact V_awayB HO_0.out (by decide) (fun _ hk => hk.2.2) c12b0 c11b0)) _).trans (((cF (p := ⟨gb351, _, none⟩) (by first | exact V_awayB HO_0.out (by decide) (fun _ hk => hk.2.2) c12b0 c11b0 | (rw [add_block]; exact V_awayB HO_0.out (by decide) (fun _ hk => hk.2.2) c12b0 c11b0) | (show (Addr.add _ _).block ≠ _; rw [add_block]; exact V_awayB HO_0.out (by decide) (fun _ hk => hk.2.2) c12b0 c11b0) | (dsimp only; exact V_awayB HO_0.out (by decide) (fun _ hk => hk.2.2) c12b0 c11b0)) _).trans (((cF (p := ⟨gb351, _, none⟩) (by first | exact V_awayB HO_0.out (by decide) (fun _ hk => hk.2.2) c12b0 c11b0 | (rw [add_block]; exact V_awayB HO_0.out (by decide) (fun _ hk => hk.2.2) c12b0 c11b0) | (show (Addr.add _ _).block ≠ _; rw [add_block]; exact V_awayB HO_0.out (by decide) (fun _ hk => hk.2.2) c12b0 c11b0) | (dsimp only; exact V_awayB HO_0.out (by decide) (fun _ hk => hk.2.2) c12b0 c11b0)) _).trans (hHeld.2.2.2.2.2.1)))))))))))), ((cF (p := ⟨gb351, _, none⟩) (by first | exact V_awayB HO_0.out (by decide) (fun _ hk => hk.2.2) c12b0 c11b0 | (rw [add_block]; exact V_awayB HO_0.out (by decide) (fun _ hk => hk.2.2) c12b0 c11b0) | (show (Addr.add _ _).block ≠ _; rw [add_block]; exact V_awayB HO_0.out (by decide) (fun _ hk => hk.2.2) c12b0 c11b0) | (dsimp only; exact V_awayB HO_0.out (by decide) (fun _ hk => hk.2.2) c12b0 c11b0)) _).trans (((cF (p := ⟨gb351, _, none⟩) (by first | exact V_awayB HO_0.out (by decide) (fun _ hk => hk.2.2) c12b0 c11b0 | (rw [add_block]; exact V_awayB HO_0.out (by decide) (fun _ hk => hk.2.2) c12b0 c11b0) | (show (Addr.add _ _).block ≠ _; rw [add_block]; exact V_awayB HO_0.out (by decide) (fun _ hk => hk.2.2) c12b0 c11b0) | (dsimp only; exact V_awayB HO_0.out (by decide) (fun _ hk => hk.2.2) c12b0 c11b0)) _).trans (((cF (p := ⟨gb351, _, none⟩) (by first | exact V_awayB HO_0.out (by decide) (fun _ hk => hk.2.2) c12b0 c11b0 | (rw [add_block]; exact V_awayB HO_0.out (by decide) (fun _ hk => hk.2.2) c12b0 c11b0) | (show (Addr.add _ _).block ≠ _; rw [add_block]; exact V_awayB HO_0.out (by decide) (fun _ hk => hk.2.2) c12b0 c11b0) | (dsimp only; exact V_awayB HO_0.out (by decide) (fun _ hk => hk.2.2) c12b0 c11b0)) _).trans (((cF (p := ⟨gb351, _, none⟩) (by first | exact V_awayB HO_0.out (by decide) (fun _ hk => hk.2.2) c12b0 c11b0 | (rw [add_block]; exact V_awayB HO_0.out (by decide) (fun _ hk => hk.2.2) c12b0 c11b0) | (show (Addr.add _ _).block ≠ _; rw [add_block]; exact V_awayB HO_0.out (by decide) (fun _ hk => hk.2.2) c12b0 c11b0) | (dsimp only; exact V_awayB HO_0.out (by decide) (fun _ hk => hk.2.2) c12b0 c11b0)) _).trans (((cF (p := ⟨gb351, _, none⟩) (by first | exact V_awayB HO_0.out (by decide) (fun _ hk => hk.2.2) c12b0 c11b0 | (rw [add_block]; exact V_awayB HO_0.out (by decide) (fun _ hk => hk.2.2) c12b0 c11b0) | (show (Addr.add _ _).block ≠ _; rw [add_block]; exact V_awayB HO_0.out (by decide) (fun _ hk => hk.2.2) c12b0 c11b0) | (dsimp only; exact V_awayB HO_0.out (by decide) (fun _ hk => hk.2.2) c12b0 c11b0)) _).trans (((cF (p := ⟨gb351, _, none⟩) (by first | exact V_awayB HO_0.out (by decide) (fun _ hk => hk.2.2) c12b0 c11b0 | (rw [add_block]; exact V_awayB HO_0.out (by decide) (fun _ hk => hk.2.2) c12b0 c11b0) | (show (Addr.add _ _).block ≠ _; rw [add_block]; exact V_awayB HO_0.out (by decide) (fun _ hk => hk.2.2) c12b0 c11b0) | (dsimp only; exact V_awayB HO_0.out (by decide) (fun _ hk => hk.2.2) c12b0 c11b0)) _).trans (hHeld.2.2.2.2.2.2.1)))))))))))), ((cF (p := ⟨gb351, _, none⟩) (by first | exact V_awayB HO_0.out (by decide) (fun _ hk => hk.2.2) c12b0 c11b0 | (rw [add_block]; exact V_awayB HO_0.out (by decide) (fun _ hk => hk.2.2) c12b0 c11b0) | (show (Addr.add _ _).block ≠ _; rw [add_block]; exact V_awayB HO_0.out (by decide) (fun _ hk => hk.2.2) c12b0 c11b0) | (dsimp only; exact V_awayB HO_0.out (by decide) (fun _ hk => hk.2.2) c12b0 c11b0)) _).trans (((cF (p := ⟨gb351, _, none⟩) (by first | exact V_awayB HO_0.out (by decide) (fun _ hk => hk.2.2) c12b0 c11b0 | (rw [add_block]; exact V_awayB HO_0.out (by decide) (fun _ hk => hk.2.2) c12b0 c11b0) | (show (Addr.add _ _).block ≠ _; rw [add_block]; exact V_awayB HO_0.out (by decide) (fun _ hk => hk.2.2) c12b0 c11b0) | (dsimp only; exact V_awayB HO_0.out (by decide) (fun _ hk => hk.2.2) c12b0 c11b0)) _).trans (((cF (p := ⟨gb351, _, none⟩) (by first | exact V_awayB HO_0.out (by decide) (fun _ hk => hk.2.2) c12b0 c11b0 | (rw [add_block]; exact V_awayB HO_0.out (by decide) (fun _ hk => hk.2.2) c12b0 c11b0) | (show (Addr.add _ _).block ≠ _; rw [add_block]; exact V_awayB HO_0.out (by decide) (fun _ hk => hk.2.2) c12b0 c11b0) | (dsimp only; exact V_awayB HO_0.out (by decide) (fun _ hk => hk.2.2) c12b0 c11b0)) _).trans (((cF (p := ⟨gb351, _, none⟩) (by first | exact V_awayB HO_0.out (by decide) (fun _ hk => hk.2.2) c12b0 c11b0 | (rw [add_block]; exact V_awayB HO_0.out (by decide) (fun _ hk => hk.2.2) c12b0 c11b0) | (show (Addr.add _ _).block ≠ _; rw [add_block]; exact V_awayB HO_0.out (by decide) (fun _ hk => hk.2.2) c12b0 c11b0) | (dsimp only; exact V_awayB HO_0.out (by decide) (fun _ hk => hk.2.2) c12b0 c11b0)) _).trans (((cF (p := ⟨gb351, _, none⟩) (by first | exact V_awayB HO_0.out (by decide) (fun _ hk => hk.2.2) c12b0 c11b0 | (rw [add_block]; exact V_awayB HO_0.out (by decide) (fun _ hk => hk.2.2) c12b0 c11b0) | (show (Addr.add _ _).block ≠ _; rw [add_block]; exact V_awayB HO_0.out (by decide) (fun _ hk => hk.2.2) c12b0 c11b0) | (dsimp only; exact V_awayB HO_0.out (by decide) (fun _ hk => hk.2.2) c12b0 c11b0)) _).trans (((cF (p := ⟨gb351, _, none⟩) (by first | exact V_awayB HO_0.out (by decide) (fun _ hk => hk.2.2) c12b0 c11b0 | (rw [add_block]; exact V_awayB HO_0.out (by decide) (fun _ hk => hk.2.2) c12b0 c11b0) | (show (Addr.add _ _).block ≠ _; rw [add_block]; exact V_awayB HO_0.out (by decide) (fun _ hk => hk.2.2) c12b0 c11b0) | (dsimp only; exact V_awayB HO_0.out (by decide) (fun _ hk => hk.2.2) c12b0 c11b0)) _).trans (hHeld.2.2.2.2.2.2.2))))))))))))⟩ (fun hHeld => ?_)
       clear hK K
       refine pure_ (i := 11) (N := some 10) (v := ?_) (a' := ?_) #[YY,YY,YY,YY,YY,YY,YY,YY,YY,YY,YY,YY] rfl rfl (any_of HT_.out (by kernel_rfl)) (fun _ _ _ h => h) (Or.inl ⟨by rfl, ?_⟩) ?_ ?_
       rotate_left
       ·intro w'
        go_simp
        with_reducible rfl
       rotate_left
       ·simp only [Act.put, sA1, sA2, sA3, i64_w, i32_w]
        rfl
       refine done_ (done_of HT_.out (by kernel_rfl)) ?_
       have hnb27 := NB351_333.out
       have hnc27 := NB333_351.out
       have hcz28_0 : w20.cell? ⟨gb351, 0, none⟩ = some (.int .u8 0) := (bC BK351.out 0).trans rfl
       have hcz28_1 : w20.cell? ⟨gb351, 1, none⟩ = some (.int .i64 0) := (bC BK351.out 1).trans rfl
       have hcz28_2 : w20.cell? ⟨gb351, 2, none⟩ = some (.string (⟨#[]⟩ : BA)) := (bC BK351.out 2).trans rfl
       have hcz28_3 : w20.cell? ⟨gb351, 3, none⟩ = some (.string (⟨#[]⟩ : BA)) := (bC BK351.out 3).trans rfl
       have hcz28_4 : w20.cell? ⟨gb351, 4, none⟩ = some (.string (⟨#[]⟩ : BA)) := (bC BK351.out 4).trans rfl
       have hcz28_5 : w20.cell? ⟨gb351, 5, none⟩ = some (.int .u64 0) := (bC BK351.out 5).trans rfl
       have hfz28_0 := bF BK351.out 0
       have hfz28_1 := bF BK351.out 1
       have hfz28_2 := bF BK351.out 2
       have hfz28_3 := bF BK351.out 3
       have hfz28_4 := bF BK351.out 4
       have hfz28_5 := bF BK351.out 5
       try go_wp2_with (first | ((with_reducible refine gate_builtin (b := .append) (xs := #[.tmp 32, .tmp 34]) rfl ?_); at_builtin; refine Kd.R_append k33 (w0 := w) w.heap.size rfl (.tmp 32) (.tmp 34) 22 33 (.agg #[(.int .u8 0), (.int .i64 0), (.string ⟨#[]⟩), (.string ⟨#[]⟩), (.string ⟨#[]⟩), (.int .u64 0)]) 72 rfl Try.underlying22 info33 rfl (by decide) (by omega) u7 x7_1 (⟨t344, t345, t346, t347, t348, t349⟩ : S33) [.int .u8 t344, .int .i64 t345, .string t346, .string t347, .string t348, .int .u64 t349] (fun k_ => k_ ≠ gb351) (fun _ => False) rfl (by first | (go_simp; done) | (go_simp; rfl)) ?aP (fun _ hk => hk.elim) ?aF ?aO ?aB ?aS ?aL ?_; (case aP => exact k33_mkM _ _ _ (⟨t344, t345, t346, t347, t348, t349⟩ : S33)); (case aB => exact (by repeat (first | (with_reducible first | exact HB.out | apply wA | apply wN | apply w1 | refine wS ?_ GE333.out | refine wS ?_ GE351.out) | exact HB.out))); (case aF => exact (fun k_ hk => Kd.freshB (g := gb351) (o := .cells #[.int .u8 t344, .int .i64 t345, .string t346, .string t347, .string t348, .int .u64 t349] 33 (0, 0)) (by (with_reducible repeat (first | refine bN ?_ _ | refine bD ?_ | refine bA ?_ _)); refine bP (cs := #[.int .u8 t344, .int .i64 t345, .string t346, .string t347, .string t348, .int .u64 0]) ?_ 5 _ rfl; (with_reducible repeat (first | refine bN ?_ _ | refine bD ?_ | refine bA ?_ _)); refine bP (cs := #[.int .u8 t344, .int .i64 t345, .string t346, .string t347, .string (⟨#[]⟩ : BA), .int .u64 0]) ?_ 4 _ rfl; (with_reducible repeat (first | refine bN ?_ _ | refine bD ?_ | refine bA ?_ _)); refine bP (cs := #[.int .u8 t344, .int .i64 t345, .string t346, .string (⟨#[]⟩ : BA), .string (⟨#[]⟩ : BA), .int .u64 0]) ?_ 3 _ rfl; (with_reducible repeat (first | refine bN ?_ _ | refine bD ?_ | refine bA ?_ _)); refine bP (cs := #[.int .u8 t344, .int .i64 t345, .string (⟨#[]⟩ : BA), .string (⟨#[]⟩ : BA), .string (⟨#[]⟩ : BA), .int .u64 0]) ?_ 2 _ rfl; (with_reducible repeat (first | refine bN ?_ _ | refine bD ?_ | refine bA ?_ _)); refine bP (cs := #[.int .u8 t344, .int .i64 0, .string (⟨#[]⟩ : BA), .string (⟨#[]⟩ : BA), .string (⟨#[]⟩ : BA), .int .u64 0]) ?_ 1 _ rfl; (with_reducible repeat (first | refine bN ?_ _ | refine bD ?_ | refine bA ?_ _)); refine bP (cs := #[.int .u8 0, .int .i64 0, .string (⟨#[]⟩ : BA), .string (⟨#[]⟩ : BA), .string (⟨#[]⟩ : BA), .int .u64 0]) ?_ 0 _ rfl; (with_reducible repeat (first | refine bN ?_ _ | refine bD ?_ | refine bA ?_ _)); exact BK351.out) k_ hk)); (case aO => exact (by (with_reducible repeat (first | apply Kd.R_alloc | apply Kd.R_drewN | apply Kd.R_drew)); exact Kd.R_mono (Kd.R_far (p := ⟨gb351, 5, none⟩) (Kd.R_far (p := ⟨gb351, 4, none⟩) (Kd.R_far (p := ⟨gb351, 3, none⟩) (Kd.R_far (p := ⟨gb351, 2, none⟩) (Kd.R_far (p := ⟨gb351, 1, none⟩) (Kd.R_far (p := ⟨gb351, 0, none⟩) (Kd.R_mono HO_7.out (fun k_ hk => (⟨hk, hk⟩ : _ ∧ k_ ≠ gb351))) (fun _ hk => hk.2) (.int .u8 t344)) (fun _ hk => hk.2) (.int .i64 t345)) (fun _ hk => hk.2) (.string t346)) (fun _ hk => hk.2) (.string t347)) (fun _ hk => hk.2) (.string t348)) (fun _ hk => hk.2) (.int .u64 t349)) (fun _ hk => hk.1))); (case aS => exact (wZ (by repeat (first | (with_reducible first | exact HB.out | apply wA | apply wN | apply w1 | refine wS ?_ GE333.out | refine wS ?_ GE351.out) | exact HB.out)))); (case aL => have := LMc15.out; omega); intro v353 w29 ho hb hg hat; rw [← Ny352.out] at ho; have n0_ := Aside0.mk (Kd.V_afterv (ok := (fun k_ => k_ ≠ gb333 ∧ k_ ≠ gb351)) (by (with_reducible repeat (first | apply Kd.V_alloc | apply Kd.V_drewN | apply Kd.V_drew)); exact Kd.V_mono (Kd.V_far (p := ⟨gb351, 5, none⟩) (Kd.V_far (p := ⟨gb351, 4, none⟩) (Kd.V_far (p := ⟨gb351, 3, none⟩) (Kd.V_far (p := ⟨gb351, 2, none⟩) (Kd.V_far (p := ⟨gb351, 1, none⟩) (Kd.V_far (p := ⟨gb351, 0, none⟩) (Kd.V_mono HO_0.out (fun k_ hk => (⟨hk, hk.2.2⟩ : _ ∧ k_ ≠ gb351))) (fun _ hk => hk.2) (.int .u8 t344)) (fun _ hk => hk.2) (.int .i64 t345)) (fun _ hk => hk.2) (.string t346)) (fun _ hk => hk.2) (.string t347)) (fun _ hk => hk.2) (.string t348)) (fun _ hk => hk.2) (.int .u64 t349)) (fun _ hk => ⟨⟨hk.1.2.1, hk.1.2.2⟩, hk.1.1⟩)) hg hat); have n1_ := Aside0.mk (Kd.V_afterv (ok := (fun k_ => k_ ≠ gb333 ∧ k_ ≠ gb351)) (by (with_reducible repeat (first | apply Kd.V_alloc | apply Kd.V_drewN | apply Kd.V_drew)); exact Kd.V_mono (Kd.V_far (p := ⟨gb351, 5, none⟩) (Kd.V_far (p := ⟨gb351, 4, none⟩) (Kd.V_far (p := ⟨gb351, 3, none⟩) (Kd.V_far (p := ⟨gb351, 2, none⟩) (Kd.V_far (p := ⟨gb351, 1, none⟩) (Kd.V_far (p := ⟨gb351, 0, none⟩) (Kd.V_mono HO_1.out (fun k_ hk => (⟨hk, hk.2.2⟩ : _ ∧ k_ ≠ gb351))) (fun _ hk => hk.2) (.int .u8 t344)) (fun _ hk => hk.2) (.int .i64 t345)) (fun _ hk => hk.2) (.string t346)) (fun _ hk => hk.2) (.string t347)) (fun _ hk => hk.2) (.string t348)) (fun _ hk => hk.2) (.int .u64 t349)) (fun _ hk => ⟨⟨hk.1.2.1, hk.1.2.2⟩, hk.1.1⟩)) hg hat); have n2_ := Aside0.mk (blk_grown (g := gb333) (o := .cells #[.string a2_0, .string a2_1] 38 (0, 0)) (by (with_reducible repeat (first | refine bN ?_ _ | refine bD ?_ | refine bA ?_ _)); refine bR ?_ NB333_351.out _; (with_reducible repeat (first | refine bN ?_ _ | refine bD ?_ | refine bA ?_ _)); refine bR ?_ NB333_351.out _; (with_reducible repeat (first | refine bN ?_ _ | refine bD ?_ | refine bA ?_ _)); refine bR ?_ NB333_351.out _; (with_reducible repeat (first | refine bN ?_ _ | refine bD ?_ | refine bA ?_ _)); refine bR ?_ NB333_351.out _; (with_reducible repeat (first | refine bN ?_ _ | refine bD ?_ | refine bA ?_ _)); refine bR ?_ NB333_351.out _; (with_reducible repeat (first | refine bN ?_ _ | refine bD ?_ | refine bA ?_ _)); refine bR ?_ NB333_351.out _; (with_reducible repeat (first | refine bN ?_ _ | refine bD ?_ | refine bA ?_ _)); exact BK333.out) hg (Kd.R_ne HO_7.out BK333.out (by decide))); have n3_ := Aside0.mk (blk_grown (g := gb351) (o := .cells #[.int .u8 t344, .int .i64 t345, .string t346, .string t347, .string t348, .int .u64 t349] 33 (0, 0)) (by (with_reducible repeat (first | refine bN ?_ _ | refine bD ?_ | refine bA ?_ _)); refine bP (cs := #[.int .u8 t344, .int .i64 t345, .string t346, .string t347, .string t348, .int .u64 0]) ?_ 5 _ rfl; (with_reducible repeat (first | refine bN ?_ _ | refine bD ?_ | refine bA ?_ _)); refine bP (cs := #[.int .u8 t344, .int .i64 t345, .string t346, .string t347, .string (⟨#[]⟩ : BA), .int .u64 0]) ?_ 4 _ rfl; (with_reducible repeat (first | refine bN ?_ _ | refine bD ?_ | refine bA ?_ _)); refine bP (cs := #[.int .u8 t344, .int .i64 t345, .string t346, .string (⟨#[]⟩ : BA), .string (⟨#[]⟩ : BA), .int .u64 0]) ?_ 3 _ rfl; (with_reducible repeat (first | refine bN ?_ _ | refine bD ?_ | refine bA ?_ _)); refine bP (cs := #[.int .u8 t344, .int .i64 t345, .string (⟨#[]⟩ : BA), .string (⟨#[]⟩ : BA), .string (⟨#[]⟩ : BA), .int .u64 0]) ?_ 2 _ rfl; (with_reducible repeat (first | refine bN ?_ _ | refine bD ?_ | refine bA ?_ _)); refine bP (cs := #[.int .u8 t344, .int .i64 0, .string (⟨#[]⟩ : BA), .string (⟨#[]⟩ : BA), .string (⟨#[]⟩ : BA), .int .u64 0]) ?_ 1 _ rfl; (with_reducible repeat (first | refine bN ?_ _ | refine bD ?_ | refine bA ?_ _)); refine bP (cs := #[.int .u8 0, .int .i64 0, .string (⟨#[]⟩ : BA), .string (⟨#[]⟩ : BA), .string (⟨#[]⟩ : BA), .int .u64 0]) ?_ 0 _ rfl; (with_reducible repeat (first | refine bN ?_ _ | refine bD ?_ | refine bA ?_ _)); exact BK351.out) hg (Kd.R_away HO_7.out (fun _ hk => hk))); have n4_ := Aside0.mk (hb); have n5_ := Aside0.mk (ho); clear HO_0; clear HO_1; clear BK333; clear BK351; clear HB; clear HO_7; have HO_0 := n0_; have HO_1 := n1_; have BK333 := n2_; have BK351 := n3_; have HB := n4_; have HO354 := n5_; clear n0_ n1_ n2_ n3_ n4_ n5_; clear ho hb hg hat))
       go_roundg k1
       case measure => have := HK1.out; omega
       case rel => exact ⟨(y352), (wrap64 (x8_1 + 1)), (by first | rfl | (simp; done) | (simp [*]; done)), H', ⟨by have := HK1.out; omega⟩, ⟨by (with_reducible repeat (first | apply Kd.V_alloc | apply Kd.V_drewN | apply Kd.V_drew)); exact Kd.V_mono HO_0.out (fun _ hk => ⟨hk.2, hk.1.1⟩)⟩, ⟨by (with_reducible repeat (first | apply Kd.V_alloc | apply Kd.V_drewN | apply Kd.V_drew)); exact Kd.V_mono HO_1.out (fun _ hk => ⟨hk.2, hk.1.1⟩)⟩, ⟨by (with_reducible repeat (first | apply Kd.R_alloc | apply Kd.R_drewN | apply Kd.R_drew)); exact Kd.R_mono HO354.out (fun _ hk => trivial)⟩, ⟨by (with_reducible repeat (first | refine bN ?_ _ | refine bD ?_ | refine bA ?_ _)); exact BK333.out⟩, ⟨by repeat (first | (with_reducible first | exact HB.out | apply wA | apply wN | apply w1 | refine wS ?_ GE333.out | refine wS ?_ GE351.out) | exact HB.out)⟩⟩
      ·rw [if_neg c15] at H
       exact absurd H (by simp)
     ·replace c14 := Bool.eq_false_iff.mpr c14
      subst c14
      have H1 : (catchmentlaw05_FoldClips.l0 k1 t334 t337 x7_1 (wrap64 (x8_1 + 1)) a2_0 a2_1) = some r := by rw [if_neg (show ¬ (false = true) by decide)] at H; exact H
      clear H
      have H := H1
      clear H1
      have H' := Aside0.mk H
      clear H
      obtain ⟨Ao30, co30, eo30⟩ := Kd.V_slice HO_0.out
      subst eo30
      try go_wp2
      have n0_ := Aside0.mk (Kd.V_drew HO_0.out)
      have n1_ := Aside0.mk (Kd.V_drew HO_1.out)
      have n2_ := Aside0.mk (Kd.R_drew HO_7.out)
      have n3_ := Aside0.mk (bD BK333.out)
      have n4_ := Aside0.mk (w1 HB.out)
      clear HO_0
      clear HO_1
      clear HO_7
      clear BK333
      clear HB
      have HO_0 := n0_
      have HO_1 := n1_
      have HO_7 := n2_
      have BK333 := n3_
      have HB := n4_
      clear n0_ n1_ n2_ n3_ n4_
      have p343 : 0 ≤ (x8_1 : Int) := of_decide_eq_true (by first | (with_reducible assumption) | assumption)
      have q343 : x8_1 < (t334.length : Int) := of_decide_eq_true (by first | (with_reducible assumption) | assumption)
      obtain ⟨ad343, e343, hx343_0, hx343_1, hx343_2, hx343_3, hx343_4, hx343_5⟩ := at_T33 (Kd.V_reads' HO_0.out).2.2 x8_1 p343 q343
      cases e343
      replace p343 := eq_true p343
      replace q343 := eq_true q343
      refine start_ (n := 12) (S := fun w' => w'.cell? ⟨gb333, 0, none⟩ = some (.string a2_0) ∧ w'.cell? ⟨gb333, 1, none⟩ = some (.string a2_1) ∧ w'.cell? (ad343.add ((x8_1).toNat * 6)) = some (.int .u8 ((rd_T33 t334 x8_1).f0)) ∧ w'.cell? ⟨(ad343.add ((x8_1).toNat * 6)).block, (ad343.add ((x8_1).toNat * 6)).off + 1, none⟩ = some (.int .i64 ((rd_T33 t334 x8_1).f1)) ∧ w'.cell? ⟨(ad343.add ((x8_1).toNat * 6)).block, (ad343.add ((x8_1).toNat * 6)).off + 2, none⟩ = some (.string ((rd_T33 t334 x8_1).f2)) ∧ w'.cell? ⟨(ad343.add ((x8_1).toNat * 6)).block, (ad343.add ((x8_1).toNat * 6)).off + 3, none⟩ = some (.string ((rd_T33 t334 x8_1).f3)) ∧ w'.cell? ⟨(ad343.add ((x8_1).toNat * 6)).block, (ad343.add ((x8_1).toNat * 6)).off + 4, none⟩ = some (.string ((rd_T33 t334 x8_1).f4)) ∧ w'.cell? ⟨(ad343.add ((x8_1).toNat * 6)).block, (ad343.add ((x8_1).toNat * 6)).off + 5, none⟩ = some (.int .u64 ((rd_T33 t334 x8_1).f5))) (ds := []) #[ZZ,ZZ,ZZ,ZZ,ZZ,ZZ,ZZ,ZZ,ZZ,ZZ,ZZ,ZZ] (by kernel_rfl) rfl rfl ⟨(bC BK333.out 0).trans rfl, (bC BK333.out 1).trans rfl, hx343_0, hx343_1, hx343_2, hx343_3, hx343_4, hx343_5⟩ (fun hHeld => ?_); refine with_tabW catchmentlaw05_FoldClips.tab6 catchmentlaw05_FoldClips.bits6 (fun HT_ HW_ => ?_)
      generalize wr.drew = w31 at HO_0 HO_1 HO_7 BK333 HB hx343_0 hx343_1 hx343_2 hx343_3 hx343_4 hx343_5 hHeld ⊢
      refine pure_ (i := 0) (N := some 23) (v := ?_) (a' := ?_) #[YY,ZZ,ZZ,ZZ,ZZ,ZZ,ZZ,ZZ,ZZ,ZZ,ZZ,ZZ] rfl rfl (any_of HT_.out (by kernel_rfl)) (fun _ _ _ h => h) (Or.inl ⟨by rfl, ?_⟩) ?_ ?_
      rotate_left
      ·intro w'
       go_simp
       with_reducible rfl
      rotate_left
      ·simp only [Act.put, sA1, sA2, sA3, i64_w, i32_w]
       rfl
      refine pure_ (i := 1) (N := some 24) (v := ?_) (a' := ?_) #[YY,YY,ZZ,ZZ,ZZ,ZZ,ZZ,ZZ,ZZ,ZZ,ZZ,ZZ] rfl rfl (any_of HT_.out (by kernel_rfl)) (fun _ _ _ h => h) (Or.inl ⟨by rfl, ?_⟩) ?_ ?_
      rotate_left
      ·intro w'
       go_simp
       with_reducible rfl
      rotate_left
      ·simp only [Act.put, sA1, sA2, sA3, i64_w, i32_w]
       rfl
      refine pure_ (i := 2) (N := some 25) (v := ?_) (a' := ?_) #[YY,YY,YY,ZZ,ZZ,ZZ,ZZ,ZZ,ZZ,ZZ,ZZ,ZZ] rfl rfl (any_of HT_.out (by kernel_rfl)) (fun _ _ _ h => h) (Or.inl ⟨by rfl, ?_⟩) ?_ ?_
      rotate_left
      ·intro w'
       go_simp
       with_reducible rfl
      rotate_left
      ·simp only [Act.put, sA1, sA2, sA3, i64_w, i32_w]
       rfl
      refine take_ (i := 3) (N := some 26) (v := ?_) (a' := ?_) #[YY,YY,YY,YY,ZZ,ZZ,ZZ,ZZ,ZZ,ZZ,ZZ,ZZ] rfl rfl (take_ofW HT_.out HW_.out (by kernel_rfl)) (fun _ _ _ h => h) (Or.inl ⟨by rfl, ?_⟩) hHeld ?_ ?_
      rotate_left
      ·rintro w' ⟨s0, s1, s2, s3, s4, s5, s6, s7⟩
       go_simp
       with_reducible rfl
      rotate_left
      ·simp only [Act.put, sA1, sA2, sA3, i64_w, i32_w]
       rfl
      refine take_ (i := 4) (N := some 27) (v := ?_) (a' := ?_) #[YY,YY,YY,YY,YY,ZZ,ZZ,ZZ,ZZ,ZZ,ZZ,ZZ] rfl rfl (take_ofW HT_.out HW_.out (by kernel_rfl)) (fun _ _ _ h => h) (Or.inl ⟨by rfl, ?_⟩) hHeld ?_ ?_
      rotate_left
      ·rintro w' ⟨s0, s1, s2, s3, s4, s5, s6, s7⟩
       go_simp
       with_reducible rfl
      rotate_left
      ·simp only [Act.put, sA1, sA2, sA3, i64_w, i32_w]
       rfl
      refine join_ (σ := Nat) 2 #[YY,YY,YY,YY,YY,YY,YY,YY,YY,YY,ZZ,ZZ] (fun s_ => [(28, .tuple #[.agg #[.int .u8 t344, .int .i64 t345, .string t346, .string t347, .string t348, .int .u64 t349], .bool false]), (9, .pointer (some ⟨s_, 0, none⟩)), (22, .tuple #[.agg #[.int .u8 t344, .int .i64 t345, .string t346, .string t347, .string t348, .int .u64 t349], .bool false]), (29, .agg #[.int .u8 t344, .int .i64 t345, .string t346, .string t347, .string t348, .int .u64 t349]), (30, .bool false)]) (fun s_ w' => (w'.cell? ⟨gb333, 0, none⟩ = some (.string a2_0) ∧ w'.cell? ⟨gb333, 1, none⟩ = some (.string a2_1) ∧ w'.cell? (ad343.add ((x8_1).toNat * 6)) = some (.int .u8 ((rd_T33 t334 x8_1).f0)) ∧ w'.cell? ⟨(ad343.add ((x8_1).toNat * 6)).block, (ad343.add ((x8_1).toNat * 6)).off + 1, none⟩ = some (.int .i64 ((rd_T33 t334 x8_1).f1)) ∧ w'.cell? ⟨(ad343.add ((x8_1).toNat * 6)).block, (ad343.add ((x8_1).toNat * 6)).off + 2, none⟩ = some (.string ((rd_T33 t334 x8_1).f2)) ∧ w'.cell? ⟨(ad343.add ((x8_1).toNat * 6)).block, (ad343.add ((x8_1).toNat * 6)).off + 3, none⟩ = some (.string ((rd_T33 t334 x8_1).f3)) ∧ w'.cell? ⟨(ad343.add ((x8_1).toNat * 6)).block, (ad343.add ((x8_1).toNat * 6)).off + 4, none⟩ = some (.string ((rd_T33 t334 x8_1).f4)) ∧ w'.cell? ⟨(ad343.add ((x8_1).toNat * 6)).block, (ad343.add ((x8_1).toNat * 6)).off + 5, none⟩ = some (.int .u64 ((rd_T33 t334 x8_1).f5))) ∧ (Kd.V k33 33 w' w.heap.size (fun k_ => some k_ ≠ (u7 : Value).ownBlock ∧ k_ ≠ gb333 ∧ k_ ≠ s_) (.slice (some ad343) t334.length co30) t334) ∧ (Kd.V k55 55 w' w.heap.size (fun k_ => some k_ ≠ (u7 : Value).ownBlock ∧ k_ ≠ gb333 ∧ k_ ≠ s_) v338 t337) ∧ (Kd.R k33 33 w' w.heap.size (fun k_ => k_ ≠ s_) u7 x7_1) ∧ (w'.heap[gb333]? = some (.cells #[.string a2_0, .string a2_1] 38 (0, 0))) ∧ (w'.heap[s_]? = some (.cells #[.int .u8 0, .int .i64 0, .string (⟨#[]⟩ : BA), .string (⟨#[]⟩ : BA), .string (⟨#[]⟩ : BA), .int .u64 0] 33 (0, 0))) ∧ (w.heap.size ≤ s_) ∧ (w.heap.size ≤ s_) ∧ (gb333 ≠ s_) ∧ (s_ ≠ gb333) ∧ (Below w.heap.size w w')) ?_ ?_
      rotate_left
      ·intro hCont
       refine two_ (i := 5) (j := 9) (Ni := some 28) (Nj := some 9) #[YY,YY,YY,YY,YY,YY,ZZ,ZZ,ZZ,ZZ,ZZ,ZZ] #[YY,YY,YY,YY,YY,ZZ,ZZ,ZZ,ZZ,YY,ZZ,ZZ] rfl rfl rfl rfl (two_of HT_.out (by kernel_rfl)) (by decide) (by decide) (fun K hK => ?_) (fun K hK => ?_)
       ·skip
        refine goes_ Try.func26 (by kernel_rfl) rfl #[.agg #[.int .u8 ((rd_T33 t334 x8_1).f0), .int .i64 ((rd_T33 t334 x8_1).f1), .string ((rd_T33 t334 x8_1).f2), .string ((rd_T33 t334 x8_1).f3), .string ((rd_T33 t334 x8_1).f4), .int .u64 ((rd_T33 t334 x8_1).f5)], .agg #[.string a2_0, .string a2_1]] (by rfl) rfl rfl (by (try simp only [mA1, mA2, mA3]); first | done | rfl | (simp only [mA5, mA4]; rfl)) ?_
        with_reducible refine (catchmentref04_Clip.calls k1 ((rd_T33 t334 x8_1).f0) ((rd_T33 t334 x8_1).f1) ((rd_T33 t334 x8_1).f2) ((rd_T33 t334 x8_1).f3) ((rd_T33 t334 x8_1).f4) ((rd_T33 t334 x8_1).f5) a2_0 a2_1 t344 t345 t346 t347 t348 t349 false _ A13.out).mono ?_
        rintro e w32 ⟨rfl, hb⟩
        have HS2_ := (hb.cell (World.block_lt_of_cell? _ _ (hHeld.2.2.1))).trans (hHeld.2.2.1)
        have HS3_ := (hb.cell (World.block_lt_of_cell? _ _ (hHeld.2.2.2.1))).trans (hHeld.2.2.2.1)
        have HS4_ := (hb.cell (World.block_lt_of_cell? _ _ (hHeld.2.2.2.2.1))).trans (hHeld.2.2.2.2.1)
        have HS5_ := (hb.cell (World.block_lt_of_cell? _ _ (hHeld.2.2.2.2.2.1))).trans (hHeld.2.2.2.2.2.1)
        have HS6_ := (hb.cell (World.block_lt_of_cell? _ _ (hHeld.2.2.2.2.2.2.1))).trans (hHeld.2.2.2.2.2.2.1)
        have HS7_ := (hb.cell (World.block_lt_of_cell? _ _ (hHeld.2.2.2.2.2.2.2))).trans (hHeld.2.2.2.2.2.2.2)
        refine ⟨_, rfl, ?_⟩
        have n0_ := Aside0.mk (Kd.V_below (by (with_reducible repeat (first | apply Kd.V_alloc | apply Kd.V_drewN | apply Kd.V_drew)); exact HO_0.out) hb)
        have n1_ := Aside0.mk (Kd.V_below (by (with_reducible repeat (first | apply Kd.V_alloc | apply Kd.V_drewN | apply Kd.V_drew)); exact HO_1.out) hb)
        have n2_ := Aside0.mk (Kd.R_below (by (with_reducible repeat (first | apply Kd.R_alloc | apply Kd.R_drewN | apply Kd.R_drew)); exact HO_7.out) hb)
        have n3_ := Aside0.mk (bB (g := gb333) (o := .cells #[.string a2_0, .string a2_1] 38 (0, 0)) (by (with_reducible repeat (first | refine bN ?_ _ | refine bD ?_ | refine bA ?_ _)); exact BK333.out) hb)
        have n4_ := Aside0.mk (wT (by repeat (first | (with_reducible first | exact HB.out | apply wA | apply wN | apply w1 | refine wS ?_ GE333.out) | exact HB.out)) hb)
        clear HO_0
        clear HO_1
        clear HO_7
        clear BK333
        clear HB
        have HO_0 := n0_
        have HO_1 := n1_
        have HO_7 := n2_
        have BK333 := n3_
        have HB := n4_
        clear n0_ n1_ n2_ n3_ n4_
        (try clear hb)
        (try clear hb2)
        (try clear hk)
        (try clear hi)
        refine hK.out _ _ ⟨(bC BK333.out 0).trans rfl, (bC BK333.out 1).trans rfl, HS2_, HS3_, HS4_, HS5_, HS6_, HS7_⟩ (fun hHeld => ?_)
        clear hK K
        refine norm_ (a' := ?_) ?_ ?_
        rotate_left
        ·show Act.put _ (some 28) _ = _
         simp only [Act.put, sA1, sA2, sA3, i64_w, i32_w]
         rfl
        refine pure_ (i := 6) (N := some 22) (v := ?_) (a' := ?_) #[YY,YY,YY,YY,YY,YY,YY,ZZ,ZZ,ZZ,ZZ,ZZ] rfl rfl (any_of HT_.out (by kernel_rfl)) (fun _ _ _ h => h) (Or.inl ⟨by rfl, ?_⟩) ?_ ?_
        rotate_left
        ·intro w'
         go_simp
         with_reducible rfl
        rotate_left
        ·simp only [Act.put, sA1, sA2, sA3, i64_w, i32_w]
         rfl
        refine pure_ (i := 7) (N := some 29) (v := ?_) (a' := ?_) #[YY,YY,YY,YY,YY,YY,YY,YY,ZZ,ZZ,ZZ,ZZ] rfl rfl (any_of HT_.out (by kernel_rfl)) (fun _ _ _ h => h) (Or.inl ⟨by rfl, ?_⟩) ?_ ?_
        rotate_left
        ·intro w'
         go_simp
         with_reducible rfl
        rotate_left
        ·simp only [Act.put, sA1, sA2, sA3, i64_w, i32_w]
         rfl
        refine pure_ (i := 8) (N := some 30) (v := ?_) (a' := ?_) #[YY,YY,YY,YY,YY,YY,YY,YY,YY,ZZ,ZZ,ZZ] rfl rfl (any_of HT_.out (by kernel_rfl)) (fun _ _ _ h => h) (Or.inl ⟨by rfl, ?_⟩) ?_ ?_
        rotate_left
        ·intro w'
         go_simp
         with_reducible rfl
        rotate_left
        ·simp only [Act.put, sA1, sA2, sA3, i64_w, i32_w]
         rfl
        refine one_ (i := 9) (N := some 9) #[YY,YY,YY,YY,YY,YY,YY,YY,YY,YY,ZZ,ZZ] rfl rfl (one_of HT_.out (by kernel_rfl)) (by decide) (fun K hK => ?_)
        refine box_step ?hg (N := 9) ?hd (cs := #[.int .u8 0, .int .i64 0, .string (⟨#[]⟩ : BA), .string (⟨#[]⟩ : BA), .string (⟨#[]⟩ : BA), .int .u64 0]) (t := 33) ?hr ?_; (case hd => rfl); (case hg => rfl); (case hr => first | (go_simp; done) | (go_simp; rfl))
        intro gb351 hg w33 hbox hb
        have HS2_ := (hb.cell (World.block_lt_of_cell? _ _ (hHeld.2.2.1))).trans (hHeld.2.2.1)
        have HS3_ := (hb.cell (World.block_lt_of_cell? _ _ (hHeld.2.2.2.1))).trans (hHeld.2.2.2.1)
        have HS4_ := (hb.cell (World.block_lt_of_cell? _ _ (hHeld.2.2.2.2.1))).trans (hHeld.2.2.2.2.1)
        have HS5_ := (hb.cell (World.block_lt_of_cell? _ _ (hHeld.2.2.2.2.2.1))).trans (hHeld.2.2.2.2.2.1)
        have HS6_ := (hb.cell (World.block_lt_of_cell? _ _ (hHeld.2.2.2.2.2.2.1))).trans (hHeld.2.2.2.2.2.2.1)
        have HS7_ := (hb.cell (World.block_lt_of_cell? _ _ (hHeld.2.2.2.2.2.2.2))).trans (hHeld.2.2.2.2.2.2.2)
        have n0_ := Aside0.mk (Kd.V_below (Kd.V_elderB (by (with_reducible repeat (first | apply Kd.V_alloc | apply Kd.V_drewN | apply Kd.V_drew)); exact HO_0.out) gb351 (Nat.le_of_eq hg.symm)) hb)
        have n1_ := Aside0.mk (Kd.V_below (Kd.V_elderB (by (with_reducible repeat (first | apply Kd.V_alloc | apply Kd.V_drewN | apply Kd.V_drew)); exact HO_1.out) gb351 (Nat.le_of_eq hg.symm)) hb)
        have n2_ := Aside0.mk (Kd.R_below (Kd.R_elderB (by (with_reducible repeat (first | apply Kd.R_alloc | apply Kd.R_drewN | apply Kd.R_drew)); exact HO_7.out) gb351 (Nat.le_of_eq hg.symm)) hb)
        have n3_ := Aside0.mk (bB (g := gb333) (o := .cells #[.string a2_0, .string a2_1] 38 (0, 0)) (by (with_reducible repeat (first | refine bN ?_ _ | refine bD ?_ | refine bA ?_ _)); exact BK333.out) hb)
        have n4_ := Aside0.mk (wT (by repeat (first | (with_reducible first | exact HB.out | apply wA | apply wN | apply w1 | refine wS ?_ GE333.out) | exact HB.out)) hb)
        have n5_ := Aside0.mk (hbox)
        have n6_ := Aside0.mk ((by rw [hg]; exact (wZ (by repeat (first | (with_reducible first | exact HB.out | apply wA | apply wN | apply w1 | refine wS ?_ GE333.out) | exact HB.out))) : w.heap.size ≤ gb351))
        have n7_ := Aside0.mk ((by rw [hg]; exact (wZ (by repeat (first | (with_reducible first | exact HB.out | apply wA | apply wN | apply w1 | refine wS ?_ GE333.out) | exact HB.out))) : w.heap.size ≤ gb351))
        have n8_ := Aside0.mk ((by rw [hg]; exact Nat.ne_of_lt (blk_lt (g := gb333) (o := .cells #[.string a2_0, .string a2_1] 38 (0, 0)) (by (with_reducible repeat (first | refine bN ?_ _ | refine bD ?_ | refine bA ?_ _)); exact BK333.out)) : gb333 ≠ gb351))
        have n9_ := Aside0.mk ((by rw [hg]; exact Nat.ne_of_gt (blk_lt (g := gb333) (o := .cells #[.string a2_0, .string a2_1] 38 (0, 0)) (by (with_reducible repeat (first | refine bN ?_ _ | refine bD ?_ | refine bA ?_ _)); exact BK333.out)) : gb351 ≠ gb333))
        clear HO_0
        clear HO_1
        clear HO_7
        clear BK333
        clear HB
        have HO_0 := n0_
        have HO_1 := n1_
        have HO_7 := n2_
        have BK333 := n3_
        have HB := n4_
        have BK351 := n5_
        have GW351 := n6_
        have GE351 := n7_
        have NB333_351 := n8_
        have NB351_333 := n9_
        clear n0_ n1_ n2_ n3_ n4_ n5_ n6_ n7_ n8_ n9_
        clear hb hbox hg
        refine hK.out _ _ ⟨(bC BK333.out 0).trans rfl, (bC BK333.out 1).trans rfl, HS2_, HS3_, HS4_, HS5_, HS6_, HS7_⟩ (fun hHeld => ?_)
        clear hK K
        refine norm_ (a' := ?_) ?_ ?_
        rotate_left
        ·show Act.put _ (some 9) _ = _
         simp only [Act.put, sA1, sA2, sA3, i64_w, i32_w]
         rfl
        exact norm_ (by simp only [putAll, Act.put, sA1, sA2, sA3]) (hCont (gb351) _ ⟨hHeld, (by (with_reducible repeat (first | apply Kd.V_alloc | apply Kd.V_drewN | apply Kd.V_drew)); exact Kd.V_mono HO_0.out (fun _ hk => ⟨hk.1.1, ⟨hk.1.2, hk.2⟩⟩)), (by (with_reducible repeat (first | apply Kd.V_alloc | apply Kd.V_drewN | apply Kd.V_drew)); exact Kd.V_mono HO_1.out (fun _ hk => ⟨hk.1.1, ⟨hk.1.2, hk.2⟩⟩)), (by (with_reducible repeat (first | apply Kd.R_alloc | apply Kd.R_drewN | apply Kd.R_drew)); exact Kd.R_mono HO_7.out (fun _ hk => hk.2)), (by (with_reducible repeat (first | refine bN ?_ _ | refine bD ?_ | refine bA ?_ _)); exact BK333.out), (by (with_reducible repeat (first | refine bN ?_ _ | refine bD ?_ | refine bA ?_ _)); exact BK351.out), GW351.out, GE351.out, NB333_351.out, NB351_333.out, (by repeat (first | (with_reducible first | exact HB.out | apply wA | apply wN | apply w1 | refine wS ?_ GE333.out | refine wS ?_ GE351.out) | exact HB.out))⟩)
       ·skip
        refine box_step ?hg (N := 9) ?hd (cs := #[.int .u8 0, .int .i64 0, .string (⟨#[]⟩ : BA), .string (⟨#[]⟩ : BA), .string (⟨#[]⟩ : BA), .int .u64 0]) (t := 33) ?hr ?_; (case hd => rfl); (case hg => rfl); (case hr => first | (go_simp; done) | (go_simp; rfl))
        intro gb351 hg w32 hbox hb
        have HS2_ := (hb.cell (World.block_lt_of_cell? _ _ (hHeld.2.2.1))).trans (hHeld.2.2.1)
        have HS3_ := (hb.cell (World.block_lt_of_cell? _ _ (hHeld.2.2.2.1))).trans (hHeld.2.2.2.1)
        have HS4_ := (hb.cell (World.block_lt_of_cell? _ _ (hHeld.2.2.2.2.1))).trans (hHeld.2.2.2.2.1)
        have HS5_ := (hb.cell (World.block_lt_of_cell? _ _ (hHeld.2.2.2.2.2.1))).trans (hHeld.2.2.2.2.2.1)
        have HS6_ := (hb.cell (World.block_lt_of_cell? _ _ (hHeld.2.2.2.2.2.2.1))).trans (hHeld.2.2.2.2.2.2.1)
        have HS7_ := (hb.cell (World.block_lt_of_cell? _ _ (hHeld.2.2.2.2.2.2.2))).trans (hHeld.2.2.2.2.2.2.2)
        have n0_ := Aside0.mk (Kd.V_below (Kd.V_elderB (by (with_reducible repeat (first | apply Kd.V_alloc | apply Kd.V_drewN | apply Kd.V_drew)); exact HO_0.out) gb351 (Nat.le_of_eq hg.symm)) hb)
        have n1_ := Aside0.mk (Kd.V_below (Kd.V_elderB (by (with_reducible repeat (first | apply Kd.V_alloc | apply Kd.V_drewN | apply Kd.V_drew)); exact HO_1.out) gb351 (Nat.le_of_eq hg.symm)) hb)
        have n2_ := Aside0.mk (Kd.R_below (Kd.R_elderB (by (with_reducible repeat (first | apply Kd.R_alloc | apply Kd.R_drewN | apply Kd.R_drew)); exact HO_7.out) gb351 (Nat.le_of_eq hg.symm)) hb)
        have n3_ := Aside0.mk (bB (g := gb333) (o := .cells #[.string a2_0, .string a2_1] 38 (0, 0)) (by (with_reducible repeat (first | refine bN ?_ _ | refine bD ?_ | refine bA ?_ _)); exact BK333.out) hb)
        have n4_ := Aside0.mk (wT (by repeat (first | (with_reducible first | exact HB.out | apply wA | apply wN | apply w1 | refine wS ?_ GE333.out) | exact HB.out)) hb)
        have n5_ := Aside0.mk (hbox)
        have n6_ := Aside0.mk ((by rw [hg]; exact (wZ (by repeat (first | (with_reducible first | exact HB.out | apply wA | apply wN | apply w1 | refine wS ?_ GE333.out) | exact HB.out))) : w.heap.size ≤ gb351))
        have n7_ := Aside0.mk ((by rw [hg]; exact (wZ (by repeat (first | (with_reducible first | exact HB.out | apply wA | apply wN | apply w1 | refine wS ?_ GE333.out) | exact HB.out))) : w.heap.size ≤ gb351))
        have n8_ := Aside0.mk ((by rw [hg]; exact Nat.ne_of_lt (blk_lt (g := gb333) (o := .cells #[.string a2_0, .string a2_1] 38 (0, 0)) (by (with_reducible repeat (first | refine bN ?_ _ | refine bD ?_ | refine bA ?_ _)); exact BK333.out)) : gb333 ≠ gb351))
        have n9_ := Aside0.mk ((by rw [hg]; exact Nat.ne_of_gt (blk_lt (g := gb333) (o := .cells #[.string a2_0, .string a2_1] 38 (0, 0)) (by (with_reducible repeat (first | refine bN ?_ _ | refine bD ?_ | refine bA ?_ _)); exact BK333.out)) : gb351 ≠ gb333))
        clear HO_0
        clear HO_1
        clear HO_7
        clear BK333
        clear HB
        have HO_0 := n0_
        have HO_1 := n1_
        have HO_7 := n2_
        have BK333 := n3_
        have HB := n4_
        have BK351 := n5_
        have GW351 := n6_
        have GE351 := n7_
        have NB333_351 := n8_
        have NB351_333 := n9_
        clear n0_ n1_ n2_ n3_ n4_ n5_ n6_ n7_ n8_ n9_
        clear hb hbox hg
        refine hK.out _ _ ⟨(bC BK333.out 0).trans rfl, (bC BK333.out 1).trans rfl, HS2_, HS3_, HS4_, HS5_, HS6_, HS7_⟩ (fun hHeld => ?_)
        clear hK K
        refine norm_ (a' := ?_) ?_ ?_
        rotate_left
        ·show Act.put _ (some 9) _ = _
         simp only [Act.put, sA1, sA2, sA3, i64_w, i32_w]
         rfl
        refine one_ (i := 5) (N := some 28) #[YY,YY,YY,YY,YY,YY,ZZ,ZZ,ZZ,YY,ZZ,ZZ] rfl rfl (one_of HT_.out (by kernel_rfl)) (by decide) (fun K hK => ?_)
        refine goes_ Try.func26 (by kernel_rfl) rfl #[.agg #[.int .u8 ((rd_T33 t334 x8_1).f0), .int .i64 ((rd_T33 t334 x8_1).f1), .string ((rd_T33 t334 x8_1).f2), .string ((rd_T33 t334 x8_1).f3), .string ((rd_T33 t334 x8_1).f4), .int .u64 ((rd_T33 t334 x8_1).f5)], .agg #[.string a2_0, .string a2_1]] (by rfl) rfl rfl (by (try simp only [mA1, mA2, mA3]); first | done | rfl | (simp only [mA5, mA4]; rfl)) ?_
        with_reducible refine (catchmentref04_Clip.calls k1 ((rd_T33 t334 x8_1).f0) ((rd_T33 t334 x8_1).f1) ((rd_T33 t334 x8_1).f2) ((rd_T33 t334 x8_1).f3) ((rd_T33 t334 x8_1).f4) ((rd_T33 t334 x8_1).f5) a2_0 a2_1 t344 t345 t346 t347 t348 t349 false _ A13.out).mono ?_
        rintro e w33 ⟨rfl, hb⟩
        have HS2_ := (hb.cell (World.block_lt_of_cell? _ _ (hHeld.2.2.1))).trans (hHeld.2.2.1)
        have HS3_ := (hb.cell (World.block_lt_of_cell? _ _ (hHeld.2.2.2.1))).trans (hHeld.2.2.2.1)
        have HS4_ := (hb.cell (World.block_lt_of_cell? _ _ (hHeld.2.2.2.2.1))).trans (hHeld.2.2.2.2.1)
        have HS5_ := (hb.cell (World.block_lt_of_cell? _ _ (hHeld.2.2.2.2.2.1))).trans (hHeld.2.2.2.2.2.1)
        have HS6_ := (hb.cell (World.block_lt_of_cell? _ _ (hHeld.2.2.2.2.2.2.1))).trans (hHeld.2.2.2.2.2.2.1)
        have HS7_ := (hb.cell (World.block_lt_of_cell? _ _ (hHeld.2.2.2.2.2.2.2))).trans (hHeld.2.2.2.2.2.2.2)
        refine ⟨_, rfl, ?_⟩
        have n0_ := Aside0.mk (Kd.V_below (by (with_reducible repeat (first | apply Kd.V_alloc | apply Kd.V_drewN | apply Kd.V_drew)); exact HO_0.out) hb)
        have n1_ := Aside0.mk (Kd.V_below (by (with_reducible repeat (first | apply Kd.V_alloc | apply Kd.V_drewN | apply Kd.V_drew)); exact HO_1.out) hb)
        have n2_ := Aside0.mk (Kd.R_below (by (with_reducible repeat (first | apply Kd.R_alloc | apply Kd.R_drewN | apply Kd.R_drew)); exact HO_7.out) hb)
        have n3_ := Aside0.mk (bB (g := gb333) (o := .cells #[.string a2_0, .string a2_1] 38 (0, 0)) (by (with_reducible repeat (first | refine bN ?_ _ | refine bD ?_ | refine bA ?_ _)); exact BK333.out) hb)
        have n4_ := Aside0.mk (bB (g := gb351) (o := .cells #[.int .u8 0, .int .i64 0, .string (⟨#[]⟩ : BA), .string (⟨#[]⟩ : BA), .string (⟨#[]⟩ : BA), .int .u64 0] 33 (0, 0)) (by (with_reducible repeat (first | refine bN ?_ _ | refine bD ?_ | refine bA ?_ _)); exact BK351.out) hb)
        have n5_ := Aside0.mk (wT (by repeat (first | (with_reducible first | exact HB.out | apply wA | apply wN | apply w1 | refine wS ?_ GE333.out | refine wS ?_ GE351.out) | exact HB.out)) hb)
        clear HO_0
        clear HO_1
        clear HO_7
        clear BK333
        clear BK351
        clear HB
        have HO_0 := n0_
        have HO_1 := n1_
        have HO_7 := n2_
        have BK333 := n3_
        have BK351 := n4_
        have HB := n5_
        clear n0_ n1_ n2_ n3_ n4_ n5_
        (try clear hb)
        (try clear hb2)
        (try clear hk)
        (try clear hi)
        refine hK.out _ _ ⟨(bC BK333.out 0).trans rfl, (bC BK333.out 1).trans rfl, HS2_, HS3_, HS4_, HS5_, HS6_, HS7_⟩ (fun hHeld => ?_)
        clear hK K
        refine norm_ (a' := ?_) ?_ ?_
        rotate_left
        ·show Act.put _ (some 28) _ = _
         simp only [Act.put, sA1, sA2, sA3, i64_w, i32_w]
         rfl
        refine pure_ (i := 6) (N := some 22) (v := ?_) (a' := ?_) #[YY,YY,YY,YY,YY,YY,YY,ZZ,ZZ,YY,ZZ,ZZ] rfl rfl (any_of HT_.out (by kernel_rfl)) (fun _ _ _ h => h) (Or.inl ⟨by rfl, ?_⟩) ?_ ?_
        rotate_left
        ·intro w'
         go_simp
         with_reducible rfl
        rotate_left
        ·simp only [Act.put, sA1, sA2, sA3, i64_w, i32_w]
         rfl
        refine pure_ (i := 7) (N := some 29) (v := ?_) (a' := ?_) #[YY,YY,YY,YY,YY,YY,YY,YY,ZZ,YY,ZZ,ZZ] rfl rfl (any_of HT_.out (by kernel_rfl)) (fun _ _ _ h => h) (Or.inl ⟨by rfl, ?_⟩) ?_ ?_
        rotate_left
        ·intro w'
         go_simp
         with_reducible rfl
        rotate_left
        ·simp only [Act.put, sA1, sA2, sA3, i64_w, i32_w]
         rfl
        refine pure_ (i := 8) (N := some 30) (v := ?_) (a' := ?_) #[YY,YY,YY,YY,YY,YY,YY,YY,YY,YY,ZZ,ZZ] rfl rfl (any_of HT_.out (by kernel_rfl)) (fun _ _ _ h => h) (Or.inl ⟨by rfl, ?_⟩) ?_ ?_
        rotate_left
        ·intro w'
         go_simp
         with_reducible rfl
        rotate_left
        ·simp only [Act.put, sA1, sA2, sA3, i64_w, i32_w]
         rfl
        exact norm_ (by simp only [putAll, Act.put, sA1, sA2, sA3]) (hCont (gb351) _ ⟨hHeld, (by (with_reducible repeat (first | apply Kd.V_alloc | apply Kd.V_drewN | apply Kd.V_drew)); exact Kd.V_mono HO_0.out (fun _ hk => ⟨hk.1.1, ⟨hk.1.2, hk.2⟩⟩)), (by (with_reducible repeat (first | apply Kd.V_alloc | apply Kd.V_drewN | apply Kd.V_drew)); exact Kd.V_mono HO_1.out (fun _ hk => ⟨hk.1.1, ⟨hk.1.2, hk.2⟩⟩)), (by (with_reducible repeat (first | apply Kd.R_alloc | apply Kd.R_drewN | apply Kd.R_drew)); exact Kd.R_mono HO_7.out (fun _ hk => hk.2)), (by (with_reducible repeat (first | refine bN ?_ _ | refine bD ?_ | refine bA ?_ _)); exact BK333.out), (by (with_reducible repeat (first | refine bN ?_ _ | refine bD ?_ | refine bA ?_ _)); exact BK351.out), GW351.out, GE351.out, NB333_351.out, NB351_333.out, (by repeat (first | (with_reducible first | exact HB.out | apply wA | apply wN | apply w1 | refine wS ?_ GE333.out | refine wS ?_ GE351.out) | exact HB.out))⟩)
      rintro gb351 w34 ⟨hS_, h0_, h1_, h2_, h3_, h4_, h5_, h6_, h7_, h8_, h9_⟩
      have n0_ : Aside0 (Kd.V k33 33 w34 w.heap.size (fun k_ => some k_ ≠ (u7 : Value).ownBlock ∧ k_ ≠ gb333 ∧ k_ ≠ gb351) (.slice (some ad343) t334.length co30) t334) := ⟨h0_⟩
      have n1_ : Aside0 (Kd.V k55 55 w34 w.heap.size (fun k_ => some k_ ≠ (u7 : Value).ownBlock ∧ k_ ≠ gb333 ∧ k_ ≠ gb351) v338 t337) := ⟨h1_⟩
      have n2_ : Aside0 (Kd.R k33 33 w34 w.heap.size (fun k_ => k_ ≠ gb351) u7 x7_1) := ⟨h2_⟩
      have n3_ : Aside0 (w34.heap[gb333]? = some (.cells #[.string a2_0, .string a2_1] 38 (0, 0))) := ⟨h3_⟩
      have n4_ : Aside0 (w34.heap[gb351]? = some (.cells #[.int .u8 0, .int .i64 0, .string (⟨#[]⟩ : BA), .string (⟨#[]⟩ : BA), .string (⟨#[]⟩ : BA), .int .u64 0] 33 (0, 0))) := ⟨h4_⟩
      have n5_ : Aside0 (w.heap.size ≤ gb351) := ⟨h5_⟩
      have n6_ : Aside0 (w.heap.size ≤ gb351) := ⟨h6_⟩
      have n7_ : Aside0 (gb333 ≠ gb351) := ⟨h7_⟩
      have n8_ : Aside0 (gb351 ≠ gb333) := ⟨h8_⟩
      have n9_ : Aside0 (Below w.heap.size w w34) := ⟨h9_⟩
      clear HO_0
      clear HO_1
      clear HO_7
      clear BK333
      clear HB
      clear h0_ h1_ h2_ h3_ h4_ h5_ h6_ h7_ h8_ h9_
      have HO_0 := n0_
      have HO_1 := n1_
      have HO_7 := n2_
      have BK333 := n3_
      have BK351 := n4_
      have GW351 := n5_
      have GE351 := n6_
      have NB333_351 := n7_
      have NB351_333 := n8_
      have HB := n9_
      clear n0_ n1_ n2_ n3_ n4_ n5_ n6_ n7_ n8_ n9_
      have hHeld : w34.cell? ⟨gb333, 0, none⟩ = some (.string a2_0) ∧ w34.cell? ⟨gb333, 1, none⟩ = some (.string a2_1) ∧ w34.cell? (ad343.add ((x8_1).toNat * 6)) = some (.int .u8 ((rd_T33 t334 x8_1).f0)) ∧ w34.cell? ⟨(ad343.add ((x8_1).toNat * 6)).block, (ad343.add ((x8_1).toNat * 6)).off + 1, none⟩ = some (.int .i64 ((rd_T33 t334 x8_1).f1)) ∧ w34.cell? ⟨(ad343.add ((x8_1).toNat * 6)).block, (ad343.add ((x8_1).toNat * 6)).off + 2, none⟩ = some (.string ((rd_T33 t334 x8_1).f2)) ∧ w34.cell? ⟨(ad343.add ((x8_1).toNat * 6)).block, (ad343.add ((x8_1).toNat * 6)).off + 3, none⟩ = some (.string ((rd_T33 t334 x8_1).f3)) ∧ w34.cell? ⟨(ad343.add ((x8_1).toNat * 6)).block, (ad343.add ((x8_1).toNat * 6)).off + 4, none⟩ = some (.string ((rd_T33 t334 x8_1).f4)) ∧ w34.cell? ⟨(ad343.add ((x8_1).toNat * 6)).block, (ad343.add ((x8_1).toNat * 6)).off + 5, none⟩ = some (.int .u64 ((rd_T33 t334 x8_1).f5)) := hS_
      refine norm_ (a' := ?_) ?_ ?_
      rotate_left
      ·simp only [putAll, Act.put, sA1, sA2, sA3]
       rfl
      refine one_ (i := 10) (N := none) #[YY,YY,YY,YY,YY,YY,YY,YY,YY,YY,YY,ZZ] rfl rfl (one_of HT_.out (by kernel_rfl)) (by decide) (fun K hK => ?_)
      have hs35 : w34.cell? ⟨gb351, 0, none⟩ = some (.int .u8 0) := (bC BK351.out 0).trans rfl
      have hfs35 := bF BK351.out 0
      have hns35_0 := NB333_351.out
      have hms35_0 := NB351_333.out
      have hs36 : w34.cell? ⟨gb351, 1, none⟩ = some (.int .i64 0) := (bC BK351.out 1).trans rfl
      have hfs36 := bF BK351.out 1
      have hns36_0 := NB333_351.out
      have hms36_0 := NB351_333.out
      have hs37 : w34.cell? ⟨gb351, 2, none⟩ = some (.string (⟨#[]⟩ : BA)) := (bC BK351.out 2).trans rfl
      have hfs37 := bF BK351.out 2
      have hns37_0 := NB333_351.out
      have hms37_0 := NB351_333.out
      have hs38 : w34.cell? ⟨gb351, 3, none⟩ = some (.string (⟨#[]⟩ : BA)) := (bC BK351.out 3).trans rfl
      have hfs38 := bF BK351.out 3
      have hns38_0 := NB333_351.out
      have hms38_0 := NB351_333.out
      have hs39 : w34.cell? ⟨gb351, 4, none⟩ = some (.string (⟨#[]⟩ : BA)) := (bC BK351.out 4).trans rfl
      have hfs39 := bF BK351.out 4
      have hns39_0 := NB333_351.out
      have hms39_0 := NB351_333.out
      have hs40 : w34.cell? ⟨gb351, 5, none⟩ = some (.int .u64 0) := (bC BK351.out 5).trans rfl
      have hfs40 := bF BK351.out 5
      have hns40_0 := NB333_351.out
      have hms40_0 := NB351_333.out
      refine skip_ (w1 := ?_) (by rfl) rfl ?_ ?_
      rotate_left
      ·go_simp
       rfl
      refine hK.out _ _ ⟨((cF (p := ⟨gb351, _, none⟩) NB333_351.out _).trans (((cF (p := ⟨gb351, _, none⟩) NB333_351.out _).trans (((cF (p := ⟨gb351, _, none⟩) NB333_351.out _).trans (((cF (p := ⟨gb351, _, none⟩) NB333_351.out _).trans (((cF (p := ⟨gb351, _, none⟩) NB333_351.out _).trans (((cF (p := ⟨gb351, _, none⟩) NB333_351.out _).trans (hHeld.1)))))))))))), ((cF (p := ⟨gb351, _, none⟩) NB333_351.out _).trans (((cF (p := ⟨gb351, _, none⟩) NB333_351.out _).trans (((cF (p := ⟨gb351, _, none⟩) NB333_351.out _).trans (((cF (p := ⟨gb351, _, none⟩) NB333_351.out _).trans (((cF (p := ⟨gb351, _, none⟩) NB333_351.out _).trans (((cF (p := ⟨gb351, _, none⟩) NB333_351.out _).trans (hHeld.2.1)))))))))))), ((cF (p := ⟨gb351, _, none⟩) (by first | exact V_awayB HO_0.out (by decide) (fun _ hk => hk.2.2) c12b0 c11b0 | (rw [add_block]; exact V_awayB HO_0.out (by decide) (fun _ hk => hk.2.2) c12b0 c11b0) | (show (Addr.add _ _).block ≠ _; rw [add_block]; exact V_awayB HO_0.out (by decide) (fun _ hk => hk.2.2) c12b0 c11b0) | (dsimp only; exact V_awayB HO_0.out (by decide) (fun _ hk => hk.2.2) c12b0 c11b0)) _).trans (((cF (p := ⟨gb351, _, none⟩) (by first | exact V_awayB HO_0.out (by decide) (fun _ hk => hk.2.2) c12b0 c11b0 | (rw [add_block]; exact V_awayB HO_0.out (by decide) (fun _ hk => hk.2.2) c12b0 c11b0) | (show (Addr.add _ _).block ≠ _; rw [add_block]; exact V_awayB HO_0.out (by decide) (fun _ hk => hk.2.2) c12b0 c11b0) | (dsimp only; exact V_awayB HO_0.out (by decide) (fun _ hk => hk.2.2) c12b0 c11b0)) _).trans (((cF (p := ⟨gb351, _, none⟩) (by first | exact V_awayB HO_0.out (by decide) (fun _ hk => hk.2.2) c12b0 c11b0 | (rw [add_block]; exact V_awayB HO_0.out (by decide) (fun _ hk => hk.2.2) c12b0 c11b0) | (show (Addr.add _ _).block ≠ _; rw [add_block]; exact V_awayB HO_0.out (by decide) (fun _ hk => hk.2.2) c12b0 c11b0) | (dsimp only; exact V_awayB HO_0.out (by decide) (fun _ hk => hk.2.2) c12b0 c11b0)) _).trans (((cF (p := ⟨gb351, _, none⟩) (by first | exact V_awayB HO_0.out (by decide) (fun _ hk => hk.2.2) c12b0 c11b0 | (rw [add_block]; exact V_awayB HO_0.out (by decide) (fun _ hk => hk.2.2) c12b0 c11b0) | (show (Addr.add _ _).block ≠ _; rw [add_block]; exact V_awayB HO_0.out (by decide) (fun _ hk => hk.2.2) c12b0 c11b0) | (dsimp only; exact V_awayB HO_0.out (by decide) (fun _ hk => hk.2.2) c12b0 c11b0)) _).trans (((cF (p := ⟨gb351, _, none⟩) (by first | exact V_awayB HO_0.out (by decide) (fun _ hk => hk.2.2) c12b0 c11b0 | (rw [add_block]; exact V_awayB HO_0.out (by decide) (fun _ hk => hk.2.2) c12b0 c11b0) | (show (Addr.add _ _).block ≠ _; rw [add_block]; exact V_awayB HO_0.out (by decide) (fun _ hk => hk.2.2) c12b0 c11b0) | (dsimp only; exact V_awayB HO_0.out (by decide) (fun _ hk => hk.2.2) c12b0 c11b0)) _).trans (((cF (p := ⟨gb351, _, none⟩) (by first | exact V_awayB HO_0.out (by decide) (fun _ hk => hk.2.2) c12b0 c11b0 | (rw [add_block]; exact V_awayB HO_0.out (by decide) (fun _ hk => hk.2.2) c12b0 c11b0) | (show (Addr.add _ _).block ≠ _; rw [add_block]; exact V_awayB HO_0.out (by decide) (fun _ hk => hk.2.2) c12b0 c11b0) | (dsimp only; exact V_awayB HO_0.out (by decide) (fun _ hk => hk.2.2) c12b0 c11b0)) _).trans (hHeld.2.2.1)))))))))))), ((cF (p := ⟨gb351, _, none⟩) (by first | exact V_awayB HO_0.out (by decide) (fun _ hk => hk.2.2) c12b0 c11b0 | (rw [add_block]; exact V_awayB HO_0.out (by decide) (fun _ hk => hk.2.2) c12b0 c11b0) | (show (Addr.add _ _).block ≠ _; rw [add_block]; exact V_awayB HO_0.out (by decide) (fun _ hk => hk.2.2) c12b0 c11b0) | (dsimp only; exact V_awayB HO_0.out (by decide) (fun _ hk => hk.2.2) c12b0 c11b0)) _).trans (((cF (p := ⟨gb351, _, none⟩) (by first | exact V_awayB HO_0.out (by decide) (fun _ hk => hk.2.2) c12b0 c11b0 | (rw [add_block]; exact V_awayB HO_0.out (by decide) (fun _ hk => hk.2.2) c12b0 c11b0) | (show (Addr.add _ _).block ≠ _; rw [add_block]; exact V_awayB HO_0.out (by decide) (fun _ hk => hk.2.2) c12b0 c11b0) | (dsimp only; exact V_awayB HO_0.out (by decide) (fun _ hk => hk.2.2) c12b0 c11b0)) _).trans (((cF (p := ⟨gb351, _, none⟩) (by first | exact V_awayB HO_0.out (by decide) (fun _ hk => hk.2.2) c12b0 c11b0 | (rw [add_block]; exact V_awayB HO_0.out (by decide) (fun _ hk => hk.2.2) c12b0 c11b0) | (show (Addr.add _ _).block ≠ _; rw [add_block]; exact V_awayB HO_0.out (by decide) (fun _ hk => hk.2.2) c12b0 c11b0) | (dsimp only; exact V_awayB HO_0.out (by decide) (fun _ hk => hk.2.2) c12b0 c11b0)) _).trans (((cF (p := ⟨gb351, _, none⟩) (by first | exact V_awayB HO_0.out (by decide) (fun _ hk => hk.2.2) c12b0 c11b0 | (rw [add_block]; exact V_awayB HO_0.out (by decide) (fun _ hk => hk.2.2) c12b0 c11b0) | (show (Addr.add _ _).block ≠ _; rw [add_block]; exact V_awayB HO_0.out (by decide) (fun _ hk => hk.2.2) c12b0 c11b0) | (dsimp only; exact V_awayB HO_0.out (by decide) (fun _ hk => hk.2.2) c12b0 c11b0)) _).trans (((cF (p := ⟨gb351, _, none⟩) (by first | exact V_awayB HO_0.out (by decide) (fun _ hk => hk.2.2) c12b0 c11b0 | (rw [add_block]; exact V_awayB HO_0.out (by decide) (fun _ hk => hk.2.2) c12b0 c11b0) | (show (Addr.add _ _).block ≠ _; rw [add_block]; exact V_awayB HO_0.out (by decide) (fun _ hk => hk.2.2) c12b0 c11b0) | (dsimp only; exact V_awayB HO_0.out (by decide) (fun _ hk => hk.2.2) c12b0 c11b0)) _).trans (((cF (p := ⟨gb351, _, none⟩) (by first | exact V_awayB HO_0.out (by decide) (fun _ hk => hk.2.2) c12b0 c11b0 | (rw [add_block]; exact V_awayB HO_0.out (by decide) (fun _ hk => hk.2.2) c12b0 c11b0) | (show (Addr.add _ _).block ≠ _; rw [add_block]; exact V_awayB HO_0.out (by decide) (fun _ hk => hk.2.2) c12b0 c11b0) | (dsimp only; exact V_awayB HO_0.out (by decide) (fun _ hk => hk.2.2) c12b0 c11b0)) _).trans (hHeld.2.2.2.1)))))))))))), ((cF (p := ⟨gb351, _, none⟩) (by first | exact V_awayB HO_0.out (by decide) (fun _ hk => hk.2.2) c12b0 c11b0 | (rw [add_block]; exact V_awayB HO_0.out (by decide) (fun _ hk => hk.2.2) c12b0 c11b0) | (show (Addr.add _ _).block ≠ _; rw [add_block]; exact V_awayB HO_0.out (by decide) (fun _ hk => hk.2.2) c12b0 c11b0) | (dsimp only; exact V_awayB HO_0.out (by decide) (fun _ hk => hk.2.2) c12b0 c11b0)) _).trans (((cF (p := ⟨gb351, _, none⟩) (by first | exact V_awayB HO_0.out (by decide) (fun _ hk => hk.2.2) c12b0 c11b0 | (rw [add_block]; exact V_awayB HO_0.out (by decide) (fun _ hk => hk.2.2) c12b0 c11b0) | (show (Addr.add _ _).block ≠ _; rw [add_block]; exact V_awayB HO_0.out (by decide) (fun _ hk => hk.2.2) c12b0 c11b0) | (dsimp only; exact V_awayB HO_0.out (by decide) (fun _ hk => hk.2.2) c12b0 c11b0)) _).trans (((cF (p := ⟨gb351, _, none⟩) (by first | exact V_awayB HO_0.out (by decide) (fun _ hk => hk.2.2) c12b0 c11b0 | (rw [add_block]; exact V_awayB HO_0.out (by decide) (fun _ hk => hk.2.2) c12b0 c11b0) | (show (Addr.add _ _).block ≠ _; rw [add_block]; exact V_awayB HO_0.out (by decide) (fun _ hk => hk.2.2) c12b0 c11b0) | (dsimp only; exact V_awayB HO_0.out (by decide) (fun _ hk => hk.2.2) c12b0 c11b0)) _).trans (((cF (p := ⟨gb351, _, none⟩) (by first | exact V_awayB HO_0.out (by decide) (fun _ hk => hk.2.2) c12b0 c11b0 | (rw [add_block]; exact V_awayB HO_0.out (by decide) (fun _ hk => hk.2.2) c12b0 c11b0) | (show (Addr.add _ _).block ≠ _; rw [add_block]; exact V_awayB HO_0.out (by decide) (fun _ hk => hk.2.2) c12b0 c11b0) | (dsimp only; exact V_awayB HO_0.out (by decide) (fun _ hk => hk.2.2) c12b0 c11b0)) _).trans (((cF (p := ⟨gb351, _, none⟩) (by first | exact V_awayB HO_0.out (by decide) (fun _ hk => hk.2.2) c12b0 c11b0 | (rw [add_block]; exact V_awayB HO_0.out (by decide) (fun _ hk => hk.2.2) c12b0 c11b0) | (show (Addr.add _ _).block ≠ _; rw [add_block]; exact V_awayB HO_0.out (by decide) (fun _ hk => hk.2.2) c12b0 c11b0) | (dsimp only; exact V_awayB HO_0.out (by decide) (fun _ hk => hk.2.2) c12b0 c11b0)) _).trans (((cF (p := ⟨gb351, _, none⟩) (by first | exact V_awayB HO_0.out (by decide) (fun _ hk => hk.2.2) c12b0 c11b0 | (rw [add_block]; exact V_awayB HO_0.out (by decide) (fun _ hk => hk.2.2) c12b0 c11b0) | (show (Addr.add _ _).block ≠ _; rw [add_block]; exact V_awayB HO_0.out (by decide) (fun _ hk => hk.2.2) c12b0 c11b0) | (dsimp only; exact V_awayB HO_0.out (by decide) (fun _ hk => hk.2.2) c12b0 c11b0)) _).trans (hHeld.2.2.2.2.1)))))))))))), ((cF (p := ⟨gb351, _, none⟩) (by first | exact V_awayB HO_0.out (by decide) (fun _ hk => hk.2.2) c12b0 c11b0 | (rw [add_block]; exact V_awayB HO_0.out (by decide) (fun _ hk => hk.2.2) c12b0 c11b0) | (show (Addr.add _ _).block ≠ _; rw [add_block]; exact V_awayB HO_0.out (by decide) (fun _ hk => hk.2.2) c12b0 c11b0) | (dsimp only; exact V_awayB HO_0.out (by decide) (fun _ hk => hk.2.2) c12b0 c11b0)) _).trans (((cF (p := ⟨gb351, _, none⟩) (by first | exact V_awayB HO_0.out (by decide) (fun _ hk => hk.2.2) c12b0 c11b0 | (rw [add_block]; exact V_awayB HO_0.out (by decide) (fun _ hk => hk.2.2) c12b0 c11b0) | (show (Addr.add _ _).block ≠ _; rw [add_block]; exact V_awayB HO_0.out (by decide) (fun _ hk => hk.2.2) c12b0 c11b0) | (dsimp only; exact V_awayB HO_0.out (by decide) (fun _ hk => hk.2.2) c12b0 c11b0)) _).trans (((cF (p := ⟨gb351, _, none⟩) (by first | exact V_awayB HO_0.out (by decide) (fun _ hk => hk.2.2) c12b0 c11b0 | (rw [add_block]; exact V_awayB HO_0.out (by decide) (fun _ hk => hk.2.2) c12b0 c11b0) | (show (Addr.add _ _).block ≠ _; rw [add_block]; exact V_awayB HO_0.out (by decide) (fun _ hk => hk.2.2) c12b0 c11b0) | (dsimp only; exact V_awayB HO_0.out (by decide) (fun _ hk => hk.2.2) c12b0 c11b0)) _).trans (((cF (p := ⟨gb351, _, none⟩) (by first | exact V_awayB HO_0.out (by decide) (fun _ hk => hk.2.2) c12b0 c11b0 | (rw [add_block]; exact V_awayB HO_0.out (by decide) (fun _ hk => hk.2.2) c12b0 c11b0) | (show (Addr.add _ _).block ≠ _; rw [add_block]; exact V_awayB HO_0.out (by decide) (fun _ hk => hk.2.2) c12b0 c11b0) | (dsimp only; exact V_awayB HO_0.out (by decide) (fun _ hk => hk.2.2) c12b0 c11b0)) _).trans (((cF (p := ⟨gb351, _, none⟩) (by first | exact V_awayB HO_0.out (by decide) (fun _ hk => hk.2.2) c12b0 c11b0 | (rw [add_block]; exact V_awayB HO_0.out (by decide) (fun _ hk => hk.2.2) c12b0 c11b0) | (show (Addr.add _ _).block ≠ _; rw [add_block]; exact V_awayB HO_0.out (by decide) (fun _ hk => hk.2.2) c12b0 c11b0) | (dsimp only; exact V_awayB HO_0.out (by decide) (fun _ hk => hk.2.2) c12b0 c11b0)) _).trans (((cF (p := ⟨gb351, _, none⟩) (by first | exact V_awayB HO_0.out (by decide) (fun _ hk => hk.2.2) c12b0 c11b0 | (rw [add_block]; exact V_awayB HO_0.out (by decide) (fun _ hk => hk.2.2) c12b0 c11b0) | (show (Addr.add _ _).block ≠ _; rw [add_block]; exact V_awayB HO_0.out (by decide) (fun _ hk => hk.2.2) c12b0 c11b0) | (dsimp only; exact V_awayB HO_0.out (by decide) (fun _ hk => hk.2.2) c12b0 c11b0)) _).trans (hHeld.2.2.2.2.2.1)))))))))))), ((cF (p := ⟨gb351, _, none⟩) (by first | exact V_awayB HO_0.out (by decide) (fun _ hk => hk.2.2) c12b0 c11b0 | (rw [add_block]; exact V_awayB HO_0.out (by decide) (fun _ hk => hk.2.2) c12b0 c11b0) | (show (Addr.add _ _).block ≠ _; rw [add_block]; exact V_awayB HO_0.out (by decide) (fun _ hk => hk.2.2) c12b0 c11b0) | (dsimp only; exact V_awayB HO_0.out (by decide) (fun _ hk => hk.2.2) c12b0 c11b0)) _).trans (((cF (p := ⟨gb351, _, none⟩) (by first | exact V_awayB HO_0.out (by decide) (fun _ hk => hk.2.2) c12b0 c11b0 | (rw [add_block]; exact V_awayB HO_0.out (by decide) (fun _ hk => hk.2.2) c12b0 c11b0) | (show (Addr.add _ _).block ≠ _; rw [add_block]; exact V_awayB HO_0.out (by decide) (fun _ hk => hk.2.2) c12b0 c11b0) | (dsimp only; exact V_awayB HO_0.out (by decide) (fun _ hk => hk.2.2) c12b0 c11b0)) _).trans (((cF (p := ⟨gb351, _, none⟩) (by first | exact V_awayB HO_0.out (by decide) (fun _ hk => hk.2.2) c12b0 c11b0 | (rw [add_block]; exact V_awayB HO_0.out (by decide) (fun _ hk => hk.2.2) c12b0 c11b0) | (show (Addr.add _ _).block ≠ _; rw [add_block]; exact V_awayB HO_0.out (by decide) (fun _ hk => hk.2.2) c12b0 c11b0) | (dsimp only; exact V_awayB HO_0.out (by decide) (fun _ hk => hk.2.2) c12b0 c11b0)) _).trans (((cF (p := ⟨gb351, _, none⟩) (by first | exact V_awayB HO_0.out (by decide) (fun _ hk => hk.2.2) c12b0 c11b0 | (rw [add_block]; exact V_awayB HO_0.out (by decide) (fun _ hk => hk.2.2) c12b0 c11b0) | (show (Addr.add _ _).block ≠ _; rw [add_block]; exact V_awayB HO_0.out (by decide) (fun _ hk => hk.2.2) c12b0 c11b0) | (dsimp only; exact V_awayB HO_0.out (by decide) (fun _ hk => hk.2.2) c12b0 c11b0)) _).trans (((cF (p := ⟨gb351, _, none⟩) (by first | exact V_awayB HO_0.out (by decide) (fun _ hk => hk.2.2) c12b0 c11b0 | (rw [add_block]; exact V_awayB HO_0.out (by decide) (fun _ hk => hk.2.2) c12b0 c11b0) | (show (Addr.add _ _).block ≠ _; rw [add_block]; exact V_awayB HO_0.out (by decide) (fun _ hk => hk.2.2) c12b0 c11b0) | (dsimp only; exact V_awayB HO_0.out (by decide) (fun _ hk => hk.2.2) c12b0 c11b0)) _).trans (((cF (p := ⟨gb351, _, none⟩) (by first | exact V_awayB HO_0.out (by decide) (fun _ hk => hk.2.2) c12b0 c11b0 | (rw [add_block]; exact V_awayB HO_0.out (by decide) (fun _ hk => hk.2.2) c12b0 c11b0) | (show (Addr.add _ _).block ≠ _; rw [add_block]; exact V_awayB HO_0.out (by decide) (fun _ hk => hk.2.2) c12b0 c11b0) | (dsimp only; exact V_awayB HO_0.out (by decide) (fun _ hk => hk.2.2) c12b0 c11b0)) _).trans (hHeld.2.2.2.2.2.2.1)))))))))))), ((cF (p := ⟨gb351, _, none⟩) (by first | exact V_awayB HO_0.out (by decide) (fun _ hk => hk.2.2) c12b0 c11b0 | (rw [add_block]; exact V_awayB HO_0.out (by decide) (fun _ hk => hk.2.2) c12b0 c11b0) | (show (Addr.add _ _).block ≠ _; rw [add_block]; exact V_awayB HO_0.out (by decide) (fun _ hk => hk.2.2) c12b0 c11b0) | (dsimp only; exact V_awayB HO_0.out (by decide) (fun _ hk => hk.2.2) c12b0 c11b0)) _).trans (((cF (p := ⟨gb351, _, none⟩) (by first | exact V_awayB HO_0.out (by decide) (fun _ hk => hk.2.2) c12b0 c11b0 | (rw [add_block]; exact V_awayB HO_0.out (by decide) (fun _ hk => hk.2.2) c12b0 c11b0) | (show (Addr.add _ _).block ≠ _; rw [add_block]; exact V_awayB HO_0.out (by decide) (fun _ hk => hk.2.2) c12b0 c11b0) | (dsimp only; exact V_awayB HO_0.out (by decide) (fun _ hk => hk.2.2) c12b0 c11b0)) _).trans (((cF (p := ⟨gb351, _, none⟩) (by first | exact V_awayB HO_0.out (by decide) (fun _ hk => hk.2.2) c12b0 c11b0 | (rw [add_block]; exact V_awayB HO_0.out (by decide) (fun _ hk => hk.2.2) c12b0 c11b0) | (show (Addr.add _ _).block ≠ _; rw [add_block]; exact V_awayB HO_0.out (by decide) (fun _ hk => hk.2.2) c12b0 c11b0) | (dsimp only; exact V_awayB HO_0.out (by decide) (fun _ hk => hk.2.2) c12b0 c11b0)) _).trans (((cF (p := ⟨gb351, _, none⟩) (by first | exact V_awayB HO_0.out (by decide) (fun _ hk => hk.2.2) c12b0 c11b0 | (rw [add_block]; exact V_awayB HO_0.out (by decide) (fun _ hk => hk.2.2) c12b0 c11b0) | (show (Addr.add _ _).block ≠ _; rw [add_block]; exact V_awayB HO_0.out (by decide) (fun _ hk => hk.2.2) c12b0 c11b0) | (dsimp only; exact V_awayB HO_0.out (by decide) (fun _ hk => hk.2.2) c12b0 c11b0)) _).trans (((cF (p := ⟨gb351, _, none⟩) (by first | exact V_awayB HO_0.out (by decide) (fun _ hk => hk.2.2) c12b0 c11b0 | (rw [add_block]; exact V_awayB HO_0.out (by decide) (fun _ hk => hk.2.2) c12b0 c11b0) | (show (Addr.add _ _).block ≠ _; rw [add_block]; exact V_awayB HO_0.out (by decide) (fun _ hk => hk.2.2) c12b0 c11b0) | (dsimp only; exact V_awayB HO_0.out (by decide) (fun _ hk => hk.2.2) c12b0 c11b0)) _).trans (((cF (p := ⟨gb351, _, none⟩) (by first | exact V_awayB HO_0.out (by decide) (fun _ hk => hk.2.2) c12b0 c11b0 | (rw [add_block]; exact V_awayB HO_0.out (by decide) (fun _ hk => hk.2.2) c12b0 c11b0) | (show (Addr.add _ _).block ≠ _; rw [add_block]; exact V_awayB HO_0.out (by decide) (fun _ hk => hk.2.2) c12b0 c11b0) | (dsimp only; exact V_awayB HO_0.out (by decide) (fun _ hk => hk.2.2) c12b0 c11b0)) _).trans (hHeld.2.2.2.2.2.2.2))))))))))))⟩ (fun hHeld => ?_)
      clear hK K
      refine pure_ (i := 11) (N := some 10) (v := ?_) (a' := ?_) #[YY,YY,YY,YY,YY,YY,YY,YY,YY,YY,YY,YY] rfl rfl (any_of HT_.out (by kernel_rfl)) (fun _ _ _ h => h) (Or.inl ⟨by rfl, ?_⟩) ?_ ?_
      rotate_left
      ·intro w'
       go_simp
       with_reducible rfl
      rotate_left
      ·simp only [Act.put, sA1, sA2, sA3, i64_w, i32_w]
       rfl
      refine done_ (done_of HT_.out (by kernel_rfl)) ?_
      try go_wp2
      go_roundg k1
      case measure => have := HK1.out; omega
      case rel => exact ⟨(x7_1), (wrap64 (x8_1 + 1)), (by first | rfl | (simp; done) | (simp [*]; done)), H', ⟨by have := HK1.out; omega⟩, ⟨by (with_reducible repeat (first | apply Kd.V_alloc | apply Kd.V_drewN | apply Kd.V_drew)); exact Kd.V_mono (Kd.V_far (p := ⟨gb351, 5, none⟩) (Kd.V_far (p := ⟨gb351, 4, none⟩) (Kd.V_far (p := ⟨gb351, 3, none⟩) (Kd.V_far (p := ⟨gb351, 2, none⟩) (Kd.V_far (p := ⟨gb351, 1, none⟩) (Kd.V_far (p := ⟨gb351, 0, none⟩) (Kd.V_mono HO_0.out (fun k_ hk => (⟨hk, hk.2.2⟩ : _ ∧ k_ ≠ gb351))) (fun _ hk => hk.2) (.int .u8 t344)) (fun _ hk => hk.2) (.int .i64 t345)) (fun _ hk => hk.2) (.string t346)) (fun _ hk => hk.2) (.string t347)) (fun _ hk => hk.2) (.string t348)) (fun _ hk => hk.2) (.int .u64 t349)) (fun _ hk => ⟨hk.1.1, hk.1.2.1⟩)⟩, ⟨by (with_reducible repeat (first | apply Kd.V_alloc | apply Kd.V_drewN | apply Kd.V_drew)); exact Kd.V_mono (Kd.V_far (p := ⟨gb351, 5, none⟩) (Kd.V_far (p := ⟨gb351, 4, none⟩) (Kd.V_far (p := ⟨gb351, 3, none⟩) (Kd.V_far (p := ⟨gb351, 2, none⟩) (Kd.V_far (p := ⟨gb351, 1, none⟩) (Kd.V_far (p := ⟨gb351, 0, none⟩) (Kd.V_mono HO_1.out (fun k_ hk => (⟨hk, hk.2.2⟩ : _ ∧ k_ ≠ gb351))) (fun _ hk => hk.2) (.int .u8 t344)) (fun _ hk => hk.2) (.int .i64 t345)) (fun _ hk => hk.2) (.string t346)) (fun _ hk => hk.2) (.string t347)) (fun _ hk => hk.2) (.string t348)) (fun _ hk => hk.2) (.int .u64 t349)) (fun _ hk => ⟨hk.1.1, hk.1.2.1⟩)⟩, ⟨by (with_reducible repeat (first | apply Kd.R_alloc | apply Kd.R_drewN | apply Kd.R_drew)); exact Kd.R_mono (Kd.R_far (p := ⟨gb351, 5, none⟩) (Kd.R_far (p := ⟨gb351, 4, none⟩) (Kd.R_far (p := ⟨gb351, 3, none⟩) (Kd.R_far (p := ⟨gb351, 2, none⟩) (Kd.R_far (p := ⟨gb351, 1, none⟩) (Kd.R_far (p := ⟨gb351, 0, none⟩) (Kd.R_mono HO_7.out (fun k_ hk => (⟨hk, hk⟩ : _ ∧ k_ ≠ gb351))) (fun _ hk => hk.2) (.int .u8 t344)) (fun _ hk => hk.2) (.int .i64 t345)) (fun _ hk => hk.2) (.string t346)) (fun _ hk => hk.2) (.string t347)) (fun _ hk => hk.2) (.string t348)) (fun _ hk => hk.2) (.int .u64 t349)) (fun _ hk => trivial)⟩, ⟨by (with_reducible repeat (first | refine bN ?_ _ | refine bD ?_ | refine bA ?_ _)); refine bR ?_ NB333_351.out _; (with_reducible repeat (first | refine bN ?_ _ | refine bD ?_ | refine bA ?_ _)); refine bR ?_ NB333_351.out _; (with_reducible repeat (first | refine bN ?_ _ | refine bD ?_ | refine bA ?_ _)); refine bR ?_ NB333_351.out _; (with_reducible repeat (first | refine bN ?_ _ | refine bD ?_ | refine bA ?_ _)); refine bR ?_ NB333_351.out _; (with_reducible repeat (first | refine bN ?_ _ | refine bD ?_ | refine bA ?_ _)); refine bR ?_ NB333_351.out _; (with_reducible repeat (first | refine bN ?_ _ | refine bD ?_ | refine bA ?_ _)); refine bR ?_ NB333_351.out _; (with_reducible repeat (first | refine bN ?_ _ | refine bD ?_ | refine bA ?_ _)); exact BK333.out⟩, ⟨by repeat (first | (with_reducible first | exact HB.out | apply wA | apply wN | apply w1 | refine wS ?_ GE333.out | refine wS ?_ GE351.out) | exact HB.out)⟩⟩
    ·rw [if_neg c12] at H
     exact absurd H (by simp)
   ·rw [if_neg c11] at H
    have c11b0 : decide (x8_1 < (t334.length : Int)) = false := decide_eq_false c11
    clear c11
    replace H := Option.bind_eq_some_iff.mp H
    obtain ⟨t355, A410, H⟩ := H
    replace H : (if t355 = true then ((fold_Entries.f x7_1 t337 a2_0 a2_1).bind fun t356 => ((fold_Entries.f t334 t337 a2_0 a2_1).bind fun t359 => ((catchmentref05_Same.f k1 t356 t359).bind fun t362 => (some t362)))) else (some false)) = some r := H
    have A41 := Aside0.mk A410
    clear A410
    by_cases c42 : t355 = true
    ·subst c42
     have H1 : ((fold_Entries.f x7_1 t337 a2_0 a2_1).bind fun t356 => ((fold_Entries.f t334 t337 a2_0 a2_1).bind fun t359 => ((catchmentref05_Same.f k1 t356 t359).bind fun t362 => (some t362)))) = some r := by rw [if_pos rfl] at H; exact H
     clear H
     have H := H1
     clear H1
     replace H := Option.bind_eq_some_iff.mp H
     obtain ⟨t356, A430, H⟩ := H
     replace H : ((fold_Entries.f t334 t337 a2_0 a2_1).bind fun t359 => ((catchmentref05_Same.f k1 t356 t359).bind fun t362 => (some t362))) = some r := H
     have A43 := Aside0.mk A430
     clear A430
     replace H := Option.bind_eq_some_iff.mp H
     obtain ⟨t359, A440, H⟩ := H
     replace H : ((catchmentref05_Same.f k1 t356 t359).bind fun t362 => (some t362)) = some r := H
     have A44 := Aside0.mk A440
     clear A440
     replace H := Option.bind_eq_some_iff.mp H
     obtain ⟨t362, A450, H⟩ := H
     replace H : (some t362) = some r := H
     have A45 := Aside0.mk A450
     clear A450
     obtain rfl := Option.some.inj H
     obtain ⟨Ao46, co46, eo46⟩ := Kd.V_slice HO_0.out
     subst eo46
     try go_wp2
     have n0_ := Aside0.mk (Kd.V_drew HO_0.out)
     have n1_ := Aside0.mk (Kd.V_drew HO_1.out)
     have n2_ := Aside0.mk (Kd.R_drew HO_7.out)
     have n3_ := Aside0.mk (bD BK333.out)
     have n4_ := Aside0.mk (w1 HB.out)
     clear HO_0
     clear HO_1
     clear HO_7
     clear BK333
     clear HB
     have HO_0 := n0_
     have HO_1 := n1_
     have HO_7 := n2_
     have BK333 := n3_
     have HB := n4_
     clear n0_ n1_ n2_ n3_ n4_
     refine start_ (n := 13) (S := fun w' => w'.cell? ⟨gb333, 0, none⟩ = some (.string a2_0) ∧ w'.cell? ⟨gb333, 1, none⟩ = some (.string a2_1)) (ds := []) #[ZZ,ZZ,ZZ,ZZ,ZZ,ZZ,ZZ,ZZ,ZZ,ZZ,ZZ,ZZ,ZZ] (by kernel_rfl) rfl rfl ⟨(bC BK333.out 0).trans rfl, (bC BK333.out 1).trans rfl⟩ (fun hHeld => ?_); refine with_tabW catchmentlaw05_FoldClips.tab9 catchmentlaw05_FoldClips.bits9 (fun HT_ HW_ => ?_)
     generalize wr.drew = w47 at HO_0 HO_1 HO_7 BK333 HB hHeld ⊢
     refine one_ (i := 0) (N := some 36) #[YY,ZZ,ZZ,ZZ,ZZ,ZZ,ZZ,ZZ,ZZ,ZZ,ZZ,ZZ,ZZ] rfl rfl (one_of HT_.out (by kernel_rfl)) (by decide) (fun K hK => ?_)
     refine goes_ Try.func23 (by kernel_rfl) rfl #[] (by rfl) rfl rfl (by (try simp only [mA1, mA2, mA3]); first | done | rfl | (simp only [mA5, mA4]; rfl)) ?_
     with_reducible refine (catchmentlaw05_live.calls  true _ A41.out).mono ?_
     rintro e w48 ⟨rfl, hb⟩
     refine ⟨_, rfl, ?_⟩
     have n0_ := Aside0.mk (Kd.V_below (by (with_reducible repeat (first | apply Kd.V_alloc | apply Kd.V_drewN | apply Kd.V_drew)); exact HO_0.out) hb)
     have n1_ := Aside0.mk (Kd.V_below (by (with_reducible repeat (first | apply Kd.V_alloc | apply Kd.V_drewN | apply Kd.V_drew)); exact HO_1.out) hb)
     have n2_ := Aside0.mk (Kd.R_below (by (with_reducible repeat (first | apply Kd.R_alloc | apply Kd.R_drewN | apply Kd.R_drew)); exact HO_7.out) hb)
     have n3_ := Aside0.mk (bB (g := gb333) (o := .cells #[.string a2_0, .string a2_1] 38 (0, 0)) (by (with_reducible repeat (first | refine bN ?_ _ | refine bD ?_ | refine bA ?_ _)); exact BK333.out) hb)
     have n4_ := Aside0.mk (wT (by repeat (first | (with_reducible first | exact HB.out | apply wA | apply wN | apply w1 | refine wS ?_ GE333.out) | exact HB.out)) hb)
     clear HO_0
     clear HO_1
     clear HO_7
     clear BK333
     clear HB
     have HO_0 := n0_
     have HO_1 := n1_
     have HO_7 := n2_
     have BK333 := n3_
     have HB := n4_
     clear n0_ n1_ n2_ n3_ n4_
     (try clear hb)
     (try clear hb2)
     (try clear hk)
     (try clear hi)
     obtain ⟨Ao49, co49, eo49⟩ := Kd.R_slice HO_7.out
     (first | subst eo49 | (injection eo49 with f1_ f2_ f3_; have f4_ := f1_.symm; have f5_ := f3_.symm; clear f1_ f2_ f3_; subst f4_; subst f5_))
     obtain ⟨Ao50, co50, eo50⟩ := Kd.V_slice HO_1.out
     (first | subst eo50 | (injection eo50 with f1_ f2_ f3_; have f4_ := f1_.symm; have f5_ := f3_.symm; clear f1_ f2_ f3_; subst f4_; subst f5_))
     refine hK.out _ _ ⟨(bC BK333.out 0).trans rfl, (bC BK333.out 1).trans rfl⟩ (fun hHeld => ?_)
     clear hK K
     refine norm_ (a' := ?_) ?_ ?_
     rotate_left
     ·show Act.put _ (some 36) _ = _
      simp only [Act.put, sA1, sA2, sA3, i64_w, i32_w]
      rfl
     refine pure_ (i := 1) (N := some 37) (v := ?_) (a' := ?_) #[YY,YY,ZZ,ZZ,ZZ,ZZ,ZZ,ZZ,ZZ,ZZ,ZZ,ZZ,ZZ] rfl rfl (any_of HT_.out (by kernel_rfl)) (fun _ _ _ h => h) (Or.inl ⟨by rfl, ?_⟩) ?_ ?_
     rotate_left
     ·intro w'
      go_simp
      with_reducible rfl
     rotate_left
     ·simp only [Act.put, sA1, sA2, sA3, i64_w, i32_w]
      rfl
     refine pure_ (i := 2) (N := some 38) (v := ?_) (a' := ?_) #[YY,YY,YY,ZZ,ZZ,ZZ,ZZ,ZZ,ZZ,ZZ,ZZ,ZZ,ZZ] rfl rfl (any_of HT_.out (by kernel_rfl)) (fun _ _ _ h => h) (Or.inl ⟨by rfl, ?_⟩) ?_ ?_
     rotate_left
     ·intro w'
      go_simp
      with_reducible rfl
     rotate_left
     ·simp only [Act.put, sA1, sA2, sA3, i64_w, i32_w]
      rfl
     refine pure_ (i := 3) (N := some 39) (v := ?_) (a' := ?_) #[YY,YY,YY,YY,ZZ,ZZ,ZZ,ZZ,ZZ,ZZ,ZZ,ZZ,ZZ] rfl rfl (any_of HT_.out (by kernel_rfl)) (fun _ _ _ h => h) (Or.inl ⟨by rfl, ?_⟩) ?_ ?_
     rotate_left
     ·intro w'
      go_simp
      with_reducible rfl
     rotate_left
     ·simp only [Act.put, sA1, sA2, sA3, i64_w, i32_w]
      rfl
     refine pure_ (i := 6) (N := some 42) (v := ?_) (a' := ?_) #[YY,YY,YY,YY,ZZ,ZZ,YY,ZZ,ZZ,ZZ,ZZ,ZZ,ZZ] rfl rfl (any_of HT_.out (by kernel_rfl)) (fun _ _ _ h => h) (Or.inl ⟨by rfl, ?_⟩) ?_ ?_
     rotate_left
     ·intro w'
      go_simp
      with_reducible rfl
     rotate_left
     ·simp only [Act.put, sA1, sA2, sA3, i64_w, i32_w]
      rfl
     refine pure_ (i := 7) (N := some 43) (v := ?_) (a' := ?_) #[YY,YY,YY,YY,ZZ,ZZ,YY,YY,ZZ,ZZ,ZZ,ZZ,ZZ] rfl rfl (any_of HT_.out (by kernel_rfl)) (fun _ _ _ h => h) (Or.inl ⟨by rfl, ?_⟩) ?_ ?_
     rotate_left
     ·intro w'
      go_simp
      with_reducible rfl
     rotate_left
     ·simp only [Act.put, sA1, sA2, sA3, i64_w, i32_w]
      rfl
     refine take_ (i := 4) (N := some 40) (v := ?_) (a' := ?_) #[YY,YY,YY,YY,YY,ZZ,YY,YY,ZZ,ZZ,ZZ,ZZ,ZZ] rfl rfl (take_ofW HT_.out HW_.out (by kernel_rfl)) (fun _ _ _ h => h) (Or.inl ⟨by rfl, ?_⟩) hHeld ?_ ?_
     rotate_left
     ·rintro w' ⟨s0, s1⟩
      go_simp
      with_reducible rfl
     rotate_left
     ·simp only [Act.put, sA1, sA2, sA3, i64_w, i32_w]
      rfl
     refine take_ (i := 8) (N := some 44) (v := ?_) (a' := ?_) #[YY,YY,YY,YY,YY,ZZ,YY,YY,YY,ZZ,ZZ,ZZ,ZZ] rfl rfl (take_ofW HT_.out HW_.out (by kernel_rfl)) (fun _ _ _ h => h) (Or.inl ⟨by rfl, ?_⟩) hHeld ?_ ?_
     rotate_left
     ·rintro w' ⟨s0, s1⟩
      go_simp
      with_reducible rfl
     rotate_left
     ·simp only [Act.put, sA1, sA2, sA3, i64_w, i32_w]
      rfl
     refine one_ (i := 5) (N := some 41) #[YY,YY,YY,YY,YY,YY,YY,YY,YY,ZZ,ZZ,ZZ,ZZ] rfl rfl (one_of HT_.out (by kernel_rfl)) (by decide) (fun K hK => ?_)
     refine goes_ Try.func25 (by kernel_rfl) rfl #[.slice Ao49 x7_1.length co49, .slice Ao50 t337.length co50, .agg #[.string a2_0, .string a2_1]] (by rfl) rfl rfl (by (try simp only [mA1, mA2, mA3]); first | done | rfl | (simp only [mA5, mA4]; rfl)) ?_
     with_reducible refine (fold_Entries.calls _ _ x7_1 _ _ t337 a2_0 a2_1 t356 _ ?side1 ?side2 ?side3 ?side4 A43.out).mono ?_
     (case side1 => repeat (first | exact (Kd.R_reads' HO_7.out).2.2 | (with_reducible refine Kd.C_alloc ?_ _) | (with_reducible refine Kd.C_drewN ?_ _) | (with_reducible refine Kd.C_drew ?_)))
     (case side2 => exact (Kd.R_reads' HO_7.out).2.1)
     (case side3 => repeat (first | exact (Kd.V_reads' HO_1.out).2.2 | (with_reducible refine Kd.C_alloc ?_ _) | (with_reducible refine Kd.C_drewN ?_ _) | (with_reducible refine Kd.C_drew ?_)))
     (case side4 => exact (Kd.V_reads' HO_1.out).2.1)
     rintro e w51 ⟨v357, rfl, ho0, hb⟩
     refine ⟨_, rfl, ?_⟩
     have n0_ := Aside0.mk (Kd.V_elder' (by (with_reducible repeat (first | apply Kd.V_alloc | apply Kd.V_drewN | apply Kd.V_drew)); exact HO_0.out) (Kd.R_base ho0) hb)
     have n1_ := Aside0.mk (Kd.V_elder' (by (with_reducible repeat (first | apply Kd.V_alloc | apply Kd.V_drewN | apply Kd.V_drew)); exact HO_1.out) (Kd.R_base ho0) hb)
     have n2_ := Aside0.mk (Kd.R_below (by (with_reducible repeat (first | apply Kd.R_alloc | apply Kd.R_drewN | apply Kd.R_drew)); exact HO_7.out) hb)
     have n3_ := Aside0.mk (Kd.R_lower ho0 (wZ (by repeat (first | (with_reducible first | exact HB.out | apply wA | apply wN | apply w1 | refine wS ?_ GE333.out) | exact HB.out))))
     have n4_ := Aside0.mk (bB (g := gb333) (o := .cells #[.string a2_0, .string a2_1] 38 (0, 0)) (by (with_reducible repeat (first | refine bN ?_ _ | refine bD ?_ | refine bA ?_ _)); exact BK333.out) hb)
     have n5_ := Aside0.mk (wT (by repeat (first | (with_reducible first | exact HB.out | apply wA | apply wN | apply w1 | refine wS ?_ GE333.out) | exact HB.out)) hb)
     clear HO_0
     clear HO_1
     clear HO_7
     clear BK333
     clear HB
     have HO_0 := n0_
     have HO_1 := n1_
     have HO_7 := n2_
     have HO358 := n3_
     have BK333 := n4_
     have HB := n5_
     clear n0_ n1_ n2_ n3_ n4_ n5_
     (try clear hb)
     (try clear hb2)
     (try clear hk)
     (try clear hi)
     (try clear ho0)
     refine hK.out _ _ ⟨(bC BK333.out 0).trans rfl, (bC BK333.out 1).trans rfl⟩ (fun hHeld => ?_)
     clear hK K
     refine norm_ (a' := ?_) ?_ ?_
     rotate_left
     ·show Act.put _ (some 41) _ = _
      simp only [Act.put, sA1, sA2, sA3, i64_w, i32_w]
      rfl
     refine one_ (i := 9) (N := some 45) #[YY,YY,YY,YY,YY,YY,YY,YY,YY,YY,ZZ,ZZ,ZZ] rfl rfl (one_of HT_.out (by kernel_rfl)) (by decide) (fun K hK => ?_)
     refine goes_ Try.func25 (by kernel_rfl) rfl #[.slice Ao46 t334.length co46, .slice Ao50 t337.length co50, .agg #[.string a2_0, .string a2_1]] (by rfl) rfl rfl (by (try simp only [mA1, mA2, mA3]); first | done | rfl | (simp only [mA5, mA4]; rfl)) ?_
     with_reducible refine (fold_Entries.calls _ _ t334 _ _ t337 a2_0 a2_1 t359 _ ?side1 ?side2 ?side3 ?side4 A44.out).mono ?_
     (case side1 => repeat (first | exact (Kd.V_reads' HO_0.out).2.2 | (with_reducible refine Kd.C_alloc ?_ _) | (with_reducible refine Kd.C_drewN ?_ _) | (with_reducible refine Kd.C_drew ?_)))
     (case side2 => exact (Kd.V_reads' HO_0.out).2.1)
     (case side3 => repeat (first | exact (Kd.V_reads' HO_1.out).2.2 | (with_reducible refine Kd.C_alloc ?_ _) | (with_reducible refine Kd.C_drewN ?_ _) | (with_reducible refine Kd.C_drew ?_)))
     (case side4 => exact (Kd.V_reads' HO_1.out).2.1)
     rintro e w52 ⟨v360, rfl, ho0, hb⟩
     refine ⟨_, rfl, ?_⟩
     have n0_ := Aside0.mk (Kd.V_elder' (by (with_reducible repeat (first | apply Kd.V_alloc | apply Kd.V_drewN | apply Kd.V_drew)); exact HO_0.out) (Kd.R_base ho0) hb)
     have n1_ := Aside0.mk (Kd.V_elder' (by (with_reducible repeat (first | apply Kd.V_alloc | apply Kd.V_drewN | apply Kd.V_drew)); exact HO_1.out) (Kd.R_base ho0) hb)
     have n2_ := Aside0.mk (Kd.R_below (by (with_reducible repeat (first | apply Kd.R_alloc | apply Kd.R_drewN | apply Kd.R_drew)); exact HO_7.out) hb)
     have n3_ := Aside0.mk (Kd.R_elder' (by (with_reducible repeat (first | apply Kd.R_alloc | apply Kd.R_drewN | apply Kd.R_drew)); exact HO358.out) (Kd.R_base ho0) hb)
     have n4_ := Aside0.mk (Kd.R_lower (Kd.R_new' ho0 (Kd.R_lt (by (with_reducible repeat (first | apply Kd.R_alloc | apply Kd.R_drewN | apply Kd.R_drew)); exact HO358.out))) (wZ (by repeat (first | (with_reducible first | exact HB.out | apply wA | apply wN | apply w1 | refine wS ?_ GE333.out) | exact HB.out))))
     have n5_ := Aside0.mk (bB (g := gb333) (o := .cells #[.string a2_0, .string a2_1] 38 (0, 0)) (by (with_reducible repeat (first | refine bN ?_ _ | refine bD ?_ | refine bA ?_ _)); exact BK333.out) hb)
     have n6_ := Aside0.mk (wT (by repeat (first | (with_reducible first | exact HB.out | apply wA | apply wN | apply w1 | refine wS ?_ GE333.out) | exact HB.out)) hb)
     clear HO_0
     clear HO_1
     clear HO_7
     clear HO358
     clear BK333
     clear HB
     have HO_0 := n0_
     have HO_1 := n1_
     have HO_7 := n2_
     have HO358 := n3_
     have HO361 := n4_
     have BK333 := n5_
     have HB := n6_
     clear n0_ n1_ n2_ n3_ n4_ n5_ n6_
     (try clear hb)
     (try clear hb2)
     (try clear hk)
     (try clear hi)
     (try clear ho0)
     obtain ⟨Ao53, co53, eo53⟩ := Kd.R_slice HO358.out
     (first | subst eo53 | (injection eo53 with f1_ f2_ f3_; have f4_ := f1_.symm; have f5_ := f3_.symm; clear f1_ f2_ f3_; subst f4_; subst f5_))
     obtain ⟨Ao54, co54, eo54⟩ := Kd.R_slice HO361.out
     (first | subst eo54 | (injection eo54 with f1_ f2_ f3_; have f4_ := f1_.symm; have f5_ := f3_.symm; clear f1_ f2_ f3_; subst f4_; subst f5_))
     refine hK.out _ _ ⟨(bC BK333.out 0).trans rfl, (bC BK333.out 1).trans rfl⟩ (fun hHeld => ?_)
     clear hK K
     refine norm_ (a' := ?_) ?_ ?_
     rotate_left
     ·show Act.put _ (some 45) _ = _
      simp only [Act.put, sA1, sA2, sA3, i64_w, i32_w]
      rfl
     refine one_ (i := 10) (N := some 46) #[YY,YY,YY,YY,YY,YY,YY,YY,YY,YY,YY,ZZ,ZZ] rfl rfl (one_of HT_.out (by kernel_rfl)) (by decide) (fun K hK => ?_)
     refine goes_ Try.func24 (by kernel_rfl) rfl #[.slice Ao53 t356.length co53, .slice Ao54 t359.length co54] (by rfl) rfl rfl (by (try simp only [mA1, mA2, mA3]); first | done | rfl | (simp only [mA5, mA4]; rfl)) ?_
     with_reducible refine (catchmentref05_Same.calls k1 _ _ t356 _ _ t359 t362 _ ?side1 ?side2 ?side3 ?side4 A45.out).mono ?_
     (case side1 => repeat (first | exact (Kd.R_reads' HO358.out).2.2 | (with_reducible refine Kd.C_alloc ?_ _) | (with_reducible refine Kd.C_drewN ?_ _) | (with_reducible refine Kd.C_drew ?_)))
     (case side2 => exact (Kd.R_reads' HO358.out).2.1)
     (case side3 => repeat (first | exact (Kd.R_reads' HO361.out).2.2 | (with_reducible refine Kd.C_alloc ?_ _) | (with_reducible refine Kd.C_drewN ?_ _) | (with_reducible refine Kd.C_drew ?_)))
     (case side4 => exact (Kd.R_reads' HO361.out).2.1)
     rintro e w' ⟨rfl, ⟨nd, rfl⟩⟩
     refine ⟨_, rfl, ?_⟩
     refine hK.out _ _ ⟨(bC BK333.out 0).trans rfl, (bC BK333.out 1).trans rfl⟩ (fun hHeld => ?_)
     clear hK K
     refine norm_ (a' := ?_) ?_ ?_
     rotate_left
     ·show Act.put _ (some 46) _ = _
      simp only [Act.put, sA1, sA2, sA3, i64_w, i32_w]
      rfl
     refine pure_ (i := 11) (N := some 47) (v := ?_) (a' := ?_) #[YY,YY,YY,YY,YY,YY,YY,YY,YY,YY,YY,YY,ZZ] rfl rfl (any_of HT_.out (by kernel_rfl)) (fun _ _ _ h => h) (Or.inl ⟨by rfl, ?_⟩) ?_ ?_
     rotate_left
     ·intro w'
      go_simp
      with_reducible rfl
     rotate_left
     ·simp only [Act.put, sA1, sA2, sA3, i64_w, i32_w]
      rfl
     refine pure_ (i := 12) (N := some 6) (v := ?_) (a' := ?_) #[YY,YY,YY,YY,YY,YY,YY,YY,YY,YY,YY,YY,YY] rfl rfl (any_of HT_.out (by kernel_rfl)) (fun _ _ _ h => h) (Or.inl ⟨by rfl, ?_⟩) ?_ ?_
     rotate_left
     ·intro w'
      go_simp
      with_reducible rfl
     rotate_left
     ·simp only [Act.put, sA1, sA2, sA3, i64_w, i32_w]
      rfl
     refine done_ (done_of HT_.out (by kernel_rfl)) ?_
     try go_wp2
     go_ret
     exact ⟨by first | rfl | (simp [errW_none, errW_some] <;> rfl) | (simp [*, errW_none, errW_some] <;> rfl), by repeat (first | (with_reducible first | exact HB.out | apply wA | apply wN | apply w1 | refine wS ?_ GE333.out) | exact HB.out)⟩
    ·replace c42 := Bool.eq_false_iff.mpr c42
     subst c42
     have H1 : (some false) = some r := by rw [if_neg (show ¬ (false = true) by decide)] at H; exact H
     clear H
     have H := H1
     clear H1
     obtain rfl := Option.some.inj H
     obtain ⟨Ao55, co55, eo55⟩ := Kd.V_slice HO_0.out
     subst eo55
     try go_wp2
     have n0_ := Aside0.mk (Kd.V_drew HO_0.out)
     have n1_ := Aside0.mk (Kd.V_drew HO_1.out)
     have n2_ := Aside0.mk (Kd.R_drew HO_7.out)
     have n3_ := Aside0.mk (bD BK333.out)
     have n4_ := Aside0.mk (w1 HB.out)
     clear HO_0
     clear HO_1
     clear HO_7
     clear BK333
     clear HB
     have HO_0 := n0_
     have HO_1 := n1_
     have HO_7 := n2_
     have BK333 := n3_
     have HB := n4_
     clear n0_ n1_ n2_ n3_ n4_
     refine start_ (n := 13) (S := fun w' => True) (ds := []) #[ZZ,ZZ,ZZ,ZZ,ZZ,ZZ,ZZ,ZZ,ZZ,ZZ,ZZ,ZZ,ZZ] (by kernel_rfl) rfl rfl trivial (fun hHeld => ?_); refine with_tabW catchmentlaw05_FoldClips.tab9 catchmentlaw05_FoldClips.bits9 (fun HT_ HW_ => ?_)
     generalize wr.drew = w56 at HO_0 HO_1 HO_7 BK333 HB hHeld ⊢
     refine one_ (i := 0) (N := some 36) #[YY,ZZ,ZZ,ZZ,ZZ,ZZ,ZZ,ZZ,ZZ,ZZ,ZZ,ZZ,ZZ] rfl rfl (one_of HT_.out (by kernel_rfl)) (by decide) (fun K hK => ?_)
     refine goes_ Try.func23 (by kernel_rfl) rfl #[] (by rfl) rfl rfl (by (try simp only [mA1, mA2, mA3]); first | done | rfl | (simp only [mA5, mA4]; rfl)) ?_
     with_reducible refine (catchmentlaw05_live.calls  false _ A41.out).mono ?_
     rintro e w57 ⟨rfl, hb⟩
     refine ⟨_, rfl, ?_⟩
     have n0_ := Aside0.mk (Kd.V_below (by (with_reducible repeat (first | apply Kd.V_alloc | apply Kd.V_drewN | apply Kd.V_drew)); exact HO_0.out) hb)
     have n1_ := Aside0.mk (Kd.V_below (by (with_reducible repeat (first | apply Kd.V_alloc | apply Kd.V_drewN | apply Kd.V_drew)); exact HO_1.out) hb)
     have n2_ := Aside0.mk (Kd.R_below (by (with_reducible repeat (first | apply Kd.R_alloc | apply Kd.R_drewN | apply Kd.R_drew)); exact HO_7.out) hb)
     have n3_ := Aside0.mk (bB (g := gb333) (o := .cells #[.string a2_0, .string a2_1] 38 (0, 0)) (by (with_reducible repeat (first | refine bN ?_ _ | refine bD ?_ | refine bA ?_ _)); exact BK333.out) hb)
     have n4_ := Aside0.mk (wT (by repeat (first | (with_reducible first | exact HB.out | apply wA | apply wN | apply w1 | refine wS ?_ GE333.out) | exact HB.out)) hb)
     clear HO_0
     clear HO_1
     clear HO_7
     clear BK333
     clear HB
     have HO_0 := n0_
     have HO_1 := n1_
     have HO_7 := n2_
     have BK333 := n3_
     have HB := n4_
     clear n0_ n1_ n2_ n3_ n4_
     (try clear hb)
     (try clear hb2)
     (try clear hk)
     (try clear hi)
     refine hK.out _ _ trivial (fun hHeld => ?_)
     clear hK K
     refine norm_ (a' := ?_) ?_ ?_
     rotate_left
     ·show Act.put _ (some 36) _ = _
      simp only [Act.put, sA1, sA2, sA3, i64_w, i32_w]
      rfl
     refine pure_ (i := 1) (N := some 37) (v := ?_) (a' := ?_) #[YY,YY,ZZ,ZZ,ZZ,ZZ,ZZ,ZZ,ZZ,ZZ,ZZ,ZZ,ZZ] rfl rfl (any_of HT_.out (by kernel_rfl)) (fun _ _ _ h => h) (Or.inl ⟨by rfl, ?_⟩) ?_ ?_
     rotate_left
     ·intro w'
      go_simp
      with_reducible rfl
     rotate_left
     ·simp only [Act.put, sA1, sA2, sA3, i64_w, i32_w]
      rfl
     refine pure_ (i := 2) (N := some 38) (v := undef) (a' := ?_) #[YY,YY,YY,ZZ,ZZ,ZZ,ZZ,ZZ,ZZ,ZZ,ZZ,ZZ,ZZ] rfl rfl (any_of HT_.out (by kernel_rfl)) (fun _ _ _ h => h) (Or.inr ⟨by rfl, rfl⟩) ?_ ?_
     rotate_left
     ·simp only [Act.put, sA1, sA2, sA3, i64_w, i32_w]
      rfl
     refine pure_ (i := 3) (N := some 39) (v := undef) (a' := ?_) #[YY,YY,YY,YY,ZZ,ZZ,ZZ,ZZ,ZZ,ZZ,ZZ,ZZ,ZZ] rfl rfl (any_of HT_.out (by kernel_rfl)) (fun _ _ _ h => h) (Or.inr ⟨by rfl, rfl⟩) ?_ ?_
     rotate_left
     ·simp only [Act.put, sA1, sA2, sA3, i64_w, i32_w]
      rfl
     refine pure_ (i := 4) (N := some 40) (v := undef) (a' := ?_) #[YY,YY,YY,YY,YY,ZZ,ZZ,ZZ,ZZ,ZZ,ZZ,ZZ,ZZ] rfl rfl (any_of HT_.out (by kernel_rfl)) (fun _ _ _ h => h) (Or.inr ⟨by rfl, rfl⟩) ?_ ?_
     rotate_left
     ·simp only [Act.put, sA1, sA2, sA3, i64_w, i32_w]
      rfl
     refine pure_ (i := 5) (N := some 41) (v := undef) (a' := ?_) #[YY,YY,YY,YY,YY,YY,ZZ,ZZ,ZZ,ZZ,ZZ,ZZ,ZZ] rfl rfl (any_of HT_.out (by kernel_rfl)) (fun _ _ _ h => h) (Or.inr ⟨by rfl, rfl⟩) ?_ ?_
     rotate_left
     ·simp only [Act.put, sA1, sA2, sA3, i64_w, i32_w]
      rfl
     refine pure_ (i := 6) (N := some 42) (v := undef) (a' := ?_) #[YY,YY,YY,YY,YY,YY,YY,ZZ,ZZ,ZZ,ZZ,ZZ,ZZ] rfl rfl (any_of HT_.out (by kernel_rfl)) (fun _ _ _ h => h) (Or.inr ⟨by rfl, rfl⟩) ?_ ?_
     rotate_left
     ·simp only [Act.put, sA1, sA2, sA3, i64_w, i32_w]
      rfl
     refine pure_ (i := 7) (N := some 43) (v := undef) (a' := ?_) #[YY,YY,YY,YY,YY,YY,YY,YY,ZZ,ZZ,ZZ,ZZ,ZZ] rfl rfl (any_of HT_.out (by kernel_rfl)) (fun _ _ _ h => h) (Or.inr ⟨by rfl, rfl⟩) ?_ ?_
     rotate_left
     ·simp only [Act.put, sA1, sA2, sA3, i64_w, i32_w]
      rfl
     refine pure_ (i := 8) (N := some 44) (v := undef) (a' := ?_) #[YY,YY,YY,YY,YY,YY,YY,YY,YY,ZZ,ZZ,ZZ,ZZ] rfl rfl (any_of HT_.out (by kernel_rfl)) (fun _ _ _ h => h) (Or.inr ⟨by rfl, rfl⟩) ?_ ?_
     rotate_left
     ·simp only [Act.put, sA1, sA2, sA3, i64_w, i32_w]
      rfl
     refine pure_ (i := 9) (N := some 45) (v := undef) (a' := ?_) #[YY,YY,YY,YY,YY,YY,YY,YY,YY,YY,ZZ,ZZ,ZZ] rfl rfl (any_of HT_.out (by kernel_rfl)) (fun _ _ _ h => h) (Or.inr ⟨by rfl, rfl⟩) ?_ ?_
     rotate_left
     ·simp only [Act.put, sA1, sA2, sA3, i64_w, i32_w]
      rfl
     refine pure_ (i := 10) (N := some 46) (v := undef) (a' := ?_) #[YY,YY,YY,YY,YY,YY,YY,YY,YY,YY,YY,ZZ,ZZ] rfl rfl (any_of HT_.out (by kernel_rfl)) (fun _ _ _ h => h) (Or.inr ⟨by rfl, rfl⟩) ?_ ?_
     rotate_left
     ·simp only [Act.put, sA1, sA2, sA3, i64_w, i32_w]
      rfl
     refine pure_ (i := 11) (N := some 47) (v := ?_) (a' := ?_) #[YY,YY,YY,YY,YY,YY,YY,YY,YY,YY,YY,YY,ZZ] rfl rfl (any_of HT_.out (by kernel_rfl)) (fun _ _ _ h => h) (Or.inl ⟨by rfl, ?_⟩) ?_ ?_
     rotate_left
     ·intro w'
      go_simp
      with_reducible rfl
     rotate_left
     ·simp only [Act.put, sA1, sA2, sA3, i64_w, i32_w]
      rfl
     refine pure_ (i := 12) (N := some 6) (v := ?_) (a' := ?_) #[YY,YY,YY,YY,YY,YY,YY,YY,YY,YY,YY,YY,YY] rfl rfl (any_of HT_.out (by kernel_rfl)) (fun _ _ _ h => h) (Or.inl ⟨by rfl, ?_⟩) ?_ ?_
     rotate_left
     ·intro w'
      go_simp
      with_reducible rfl
     rotate_left
     ·simp only [Act.put, sA1, sA2, sA3, i64_w, i32_w]
      rfl
     refine done_ (done_of HT_.out (by kernel_rfl)) ?_
     try go_wp2
     go_ret
     exact ⟨by first | rfl | (simp [errW_none, errW_some] <;> rfl) | (simp [*, errW_none, errW_some] <;> rfl), by repeat (first | (with_reducible first | exact HB.out | apply wA | apply wN | apply w1 | refine wS ?_ GE333.out) | exact HB.out)⟩
end Go.Proofs.Ytidaiafmhidooaa.P
end
