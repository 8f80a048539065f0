/- Texts of one claim (laid by shake.py). -/
import Derived.Test.YtebejadiaooooaaZy3
import Derived.Test.YtebejadiaooooaaZy10
import Derived.Test.YtebejadiaooooaaZy11
import Derived.Test.YtebejadiaooooaaZy12
set_option linter.unusedVariables false
set_option linter.unusedSimpArgs false
section
namespace Go.Proofs.Ytebejadiaooooaa.P
open Go.RowKit Go.Proofs.YtebejadiaooooaaW.PrintWords Go.Proofs.YtebejadiaooooaaW.PrintLast Go.Proofs.YtebejadiaooooaaW.PrintMore Go.Proofs.Ytebejadiaooooaa.Own
open Bool renaming true → YY, false → ZZ
open Go.Proofs.YtebejadiaooooaaW.PrintWords renaming blk_cell → bC, blk_drewN → bN, blk_alloc → bA, pw_below_drewN → wN, blk_drew → bD, below_drew1 → w1, below_set → wS, below_alloc → wA, blk_below → bB, below_step → wT, below_size → wZ
open List renaming setIfInBounds_toArray → sA1, set_cons_zero → sA2, set_cons_succ → sA3, map_toArray → mA1, map_cons → mA2, map_nil → mA3, length_take → mA4, length_drop → mA5
attribute [local go_sem] max2_str max2_int min2_int max_two min_two max_three min_three max_four min_four   -- for this text's walks alone
def catchmentref05_Entries.l0 : Nat → List (S32) → List (S39) → List (S39) → List ByteArray → Int → ByteArray → ByteArray → Option ((List (S39)))
 | 0, _, _, _, _, _, _, _ => none
 | k + 1, x0, x1, x7, x8, x9, x280000, x280001 => if x9 < (x8.length : Int) then (if 0 ≤ x9 then ((catchmentref05_Find.f k x1 (rdOf ByteArray.empty x8 x9)).bind fun bt287 => ((catchmentref05_Value.f k x0 (rdOf ByteArray.empty x8 x9) bt287.1 bt287.2).bind fun bt290 => (if bt290.2 = true then ((catchmentref02_Right.f x280000 x280001).bind fun t292 => (if t292 = true then ((catchmentref02_Holds.f x280000 x280001 (rdOf ByteArray.empty x8 x9)).bind fun t294 => (if t294 = true then (if x7.length < 4398046511104 then (catchmentref05_Entries.l0 k x0 x1 (x7 ++ [(⟨rdOf ByteArray.empty x8 x9, bt290.1⟩ : S39)]) x8 (wrap64 (x9 + 1)) x280000 x280001) else (none)) else (catchmentref05_Entries.l0 k x0 x1 x7 x8 (wrap64 (x9 + 1)) x280000 x280001))) else (catchmentref05_Entries.l0 k x0 x1 x7 x8 (wrap64 (x9 + 1)) x280000 x280001))) else (catchmentref05_Entries.l0 k x0 x1 x7 x8 (wrap64 (x9 + 1)) x280000 x280001)))) else (none)) else (some x7)
def catchmentref05_Entries.f (k : Nat) (l0 : List (S32)) (l1 : List (S39)) (a2_0 : BA) (a2_1 : BA) : Option ((List (S39))) := (catchmentref05_Named.f k l0 l1).bind fun t283 => (catchmentref05_Entries.l0 k l0 l1 (([] : List (S39))) t283 0 a2_0 a2_1)
def catchmentref05_Entries.T8 : Bool × List (List Nat × List Nat) := (true, [([], []), ([0], [0]), ([1], [1]), ([2, 1, 1], [1, 2]), ([1, 3], [1, 3]), ([4, 3], [4]), ([5], [5]), ([5], [5]), ([5], [5]), ([7, 8, 5], [5, 7, 8]), ([9, 5], [5, 9]), ([6, 10, 5, 5], [5, 6, 10]), ([5, 11], [5, 11])])
def catchmentref05_Entries.B8 : List Nat := [0, 1, 3, 7, 15, 31, 63, 63, 63, 447, 959, 2047, 4095]
theorem catchmentref05_Entries.tab8 : rtab .any (opsOf Try.f19 8) = catchmentref05_Entries.T8 := by kernel_rfl
theorem catchmentref05_Entries.bits8 : waitsOk catchmentref05_Entries.T8.2 catchmentref05_Entries.B8 = true := by kernel_rfl
set_option maxHeartbeats 8000000 in
set_option maxRecDepth 100000 in
theorem catchmentref05_Entries.calls (k : Nat) (A0 : Option Addr) (c0 : Nat) (l0 : List (S32)) (A1 : Option Addr) (c1 : Nat) (l1 : List (S39)) (a2_0 : BA) (a2_1 : BA) (r : List (S39)) (w : World) (hr0 : Kd.C k32 w A0 l0.length l0) (hc0 : l0.length ≤ c0) (hr1 : Kd.C k39 w A1 l1.length l1) (hc1 : l1.length ≤ c1) (h : catchmentref05_Entries.f k l0 l1 a2_0 a2_1 = some r) :
  Calls Try.prog 19 #[.slice A0 l0.length c0, .slice A1 l1.length c1, .agg #[.string a2_0, .string a2_1]] w fun e w' => ∃ v0_ : Value, e = .returned (v0_) ∧ Kd.R k39 39 w' w.heap.size (fun _ => True) v0_ r ∧ Below w.heap.size w w' := by
 have hu28 := Try.underlying28
 have hu39 := Try.underlying39
 have HR0 := Aside0.mk hr0
 have HC0 := Aside0.mk hc0
 clear hr0 hc0
 have HR1 := Aside0.mk hr1
 have HC1 := Aside0.mk hc1
 clear hr1 hc1
 have HB := Aside0.mk (Below.refl w.heap.size w)
 have H : ((catchmentref05_Named.f k l0 l1).bind fun t283 => (catchmentref05_Entries.l0 k l0 l1 (([] : List (S39))) t283 0 a2_0 a2_1)) = some r := h
 clear h
 obtain ⟨y280, hy280⟩ : ∃ y_ : List (S39), y_ = (([] : List (S39))) := ⟨_, rfl⟩
 replace H : ((catchmentref05_Named.f k l0 l1).bind fun t283 => (catchmentref05_Entries.l0 k l0 l1 y280 t283 0 a2_0 a2_1)) = some r := by first | (rw [hy280]; with_reducible exact H) | (have H2_ := (Option.bind_some _ _).symm.trans H; rw [hy280]; with_reducible exact H2_) | (have H2_ := (Option.bind_some _ _).symm.trans H; with_reducible exact H2_) | with_reducible exact H | (rw [hy280]; exact H) | exact H
 have Ny280 := Aside0.mk hy280
 clear hy280
 replace H := Option.bind_eq_some_iff.mp H
 obtain ⟨t283, A40, H⟩ := H
 replace H : (catchmentref05_Entries.l0 k l0 l1 y280 t283 0 a2_0 a2_1) = some r := H
 have A4 := Aside0.mk A40
 clear A40
 have H' := Aside0.mk H
 clear H
 go_enter Try.func19, Try.ntmps19
 go_wp2_with (first | ((with_reducible refine gate_dst (N := 5) rfl ?_); refine box_event ?hg (N := 5) ?hd (cs := #[.string a2_0, .string a2_1]) (t := 28) ?hr ?_; (case hd => rfl); (case hg => rfl); (case hr => first | (go_simp; done) | (go_simp; rfl)); intro gb279 hg w5 hbox hb; have n0_ := Aside0.mk (wT bW_ hb); have n1_ := Aside0.mk (hbox); have n2_ := Aside0.mk ((by rw [hg]; exact (wZ bW_) : w.heap.size ≤ gb279)); have n3_ := n2_; clear HB; have HB := n0_; have BK279 := n1_; have GW279 := n2_; have GE279 := n3_; clear n0_ n1_ n2_ n3_; clear hb hbox hg) | ((with_reducible refine gate_dst (N := 12) rfl ?_); refine Kd.R_lit k39 _ 39 ?hg (N := 12) ?hd (xs := ([] : List (S39))) (inner := []) (ok := fun _ => True) (okp := fun _ => True) ?hr ?hp (fun _ hk => hk) trivial (Below.refl _ _) (Nat.le_refl _) (by simp) ?_; (case hd => rfl); (case hg => rfl); (case hr => first | (go_simp; done) | (go_simp; rfl)); (case hp => exact (Reps.none _ _)); intro v281 w6 ho7 hb hg_ hnew_; clear hg_ hnew_; (first | rw [← Ny280.out] at ho7 | (simp only [Int.reduceToNat] at ho7; rw [← Ny280.out] at ho7)); have n0_ := Aside0.mk (Kd.R_lower ho7 (wZ (bS1_ GE279.out))); have n1_ := Aside0.mk (bB (bX_ BK279.out) hb); have n2_ := Aside0.mk (wT (bS1_ GE279.out) hb); clear BK279; clear HB; have HO282 := n0_; have BK279 := n1_; have HB := n2_; clear n0_ n1_ n2_; clear hb ho7) | ((with_reducible refine gate_callee (f := 64) rfl ?_); refine goesL_ (some 15) rfl rfl Try.func64 (by kernel_rfl) rfl #[.slice A0 l0.length c0, .slice A1 l1.length c1] rfl mS_ ?_; (with_reducible refine (catchmentref05_Named.calls k _ _ l0 _ _ l1 t283 _ ?side1 ?side2 ?side3 ?side4 A4.out).mono ?_); (case side1 => repeat (first | exact (Kd.C_below HR0.out HB.out) | (with_reducible refine Kd.C_alloc ?_ _) | (with_reducible refine Kd.C_drewN ?_ _) | (with_reducible refine Kd.C_drew ?_))); (case side2 => exact HC0.out); (case side3 => repeat (first | exact (Kd.C_below HR1.out HB.out) | (with_reducible refine Kd.C_alloc ?_ _) | (with_reducible refine Kd.C_drewN ?_ _) | (with_reducible refine Kd.C_drew ?_))); (case side4 => exact HC1.out); rintro e w8 ⟨v284, rfl, ho0, hb⟩; refine ⟨_, rfl, ?_⟩; have n0_ := Aside0.mk (Kd.R_below (kR_ HO282.out) hb); have n1_ := Aside0.mk (Kd.V_lower (Kd.V_mono (ok' := fun k_ => some k_ ≠ (v281 : Value).ownBlock ∧ k_ ≠ gb279) ho0 (fun k_ hk_ => ⟨(Kd.fresh' (Kd.R_lt (kR_ HO282.out)) k_ hk_), (Kd.freshB (g := gb279) (o := .cells #[.string a2_0, .string a2_1] 28 (0, 0)) (bX_ BK279.out) k_ hk_)⟩)) (wZ (bS1_ GE279.out))); have n2_ := Aside0.mk (bB (bX_ BK279.out) hb); have n3_ := Aside0.mk (wT (bS1_ GE279.out) hb); clear HO282; clear BK279; clear HB; have HO282 := n0_; have HO285 := n1_; have BK279 := n2_; have HB := n3_; clear n0_ n1_ n2_ n3_; (try clear hb); (try clear hb2); (try clear hk); (try clear hi); (try clear ho0)))
 go_loopg [7, 9] k (fun kq v7 v9 w' => ∃ (x7_1 : List (S39)) (x9_1 : Int), v9 = .int .i64 x9_1 ∧ Aside0 (catchmentref05_Entries.l0 kq l0 l1 x7_1 t283 x9_1 a2_0 a2_1 = some r) ∧ Aside0 (kq ≤ k) ∧ Aside0 (Kd.R k39 39 w' w.heap.size (fun _ => True) v7 x7_1) ∧ Aside0 (Kd.V Kd.string 9 w' w.heap.size (fun k_ => some k_ ≠ (v7 : Value).ownBlock ∧ k_ ≠ gb279) v284 t283) ∧ Aside0 (w'.heap[gb279]? = some (.cells #[.string a2_0, .string a2_1] 28 (0, 0))) ∧ Aside0 (Below w.heap.size w w'))
 case atStart => exact ⟨(y280), (0), (by first | rfl | (simp; done) | (simp [*]; done)), H', ⟨Nat.le_refl _⟩, ⟨by (with_reducible repeat (first | apply Kd.R_alloc | apply Kd.R_drewN | apply Kd.R_drew)); exact HO282.out⟩, ⟨by (with_reducible repeat (first | apply Kd.V_alloc | apply Kd.V_drewN | apply Kd.V_drew)); exact HO285.out⟩, ⟨by (with_reducible repeat (first | refine bN ?_ _ | refine bD ?_ | refine bA ?_ _)); exact BK279.out⟩, ⟨by repeat (first | (with_reducible first | exact HB.out | apply wA | apply wN | apply w1 | refine wS ?_ GE279.out) | exact HB.out)⟩⟩
 case round =>
  clear H'
  try clear c1
  try clear p2
  try clear c6
  obtain ⟨x7_1, x9_1, rfl, HA, HK1, HO_7, HO_8, BK279, HB⟩ := hrel
  cases gk with
  | zero => exact absurd HA.out (by simp [catchmentref05_Entries.l0])
  | succ k1 =>
   have H := HA.out
   clear HA
   simp only [catchmentref05_Entries.l0] at H
   by_cases c9 : x9_1 < (t283.length : Int)
   ·rw [if_pos c9] at H
    have c9b0 : decide (x9_1 < (t283.length : Int)) = true := decide_eq_true c9
    clear c9
    by_cases c10 : 0 ≤ x9_1
    ·rw [if_pos c10] at H
     have c10b0 : decide (0 ≤ x9_1) = true := decide_eq_true c10
     clear c10
     replace H := Option.bind_eq_some_iff.mp H
     obtain ⟨⟨t287, t288⟩, A110, H⟩ := H
     replace H : ((catchmentref05_Value.f k1 l0 (rdOf ByteArray.empty t283 x9_1) t287 t288).bind fun bt290 => (if bt290.2 = true then ((catchmentref02_Right.f a2_0 a2_1).bind fun t292 => (if t292 = true then ((catchmentref02_Holds.f a2_0 a2_1 (rdOf ByteArray.empty t283 x9_1)).bind fun t294 => (if t294 = true then (if x7_1.length < 4398046511104 then (catchmentref05_Entries.l0 k1 l0 l1 (x7_1 ++ [(⟨rdOf ByteArray.empty t283 x9_1, bt290.1⟩ : S39)]) t283 (wrap64 (x9_1 + 1)) a2_0 a2_1) else (none)) else (catchmentref05_Entries.l0 k1 l0 l1 x7_1 t283 (wrap64 (x9_1 + 1)) a2_0 a2_1))) else (catchmentref05_Entries.l0 k1 l0 l1 x7_1 t283 (wrap64 (x9_1 + 1)) a2_0 a2_1))) else (catchmentref05_Entries.l0 k1 l0 l1 x7_1 t283 (wrap64 (x9_1 + 1)) a2_0 a2_1))) = some r := H
     have A11 := Aside0.mk A110
     clear A110
     replace H := Option.bind_eq_some_iff.mp H
     obtain ⟨⟨t290, t291⟩, A120, H⟩ := H
     replace H : (if t291 = true then ((catchmentref02_Right.f a2_0 a2_1).bind fun t292 => (if t292 = true then ((catchmentref02_Holds.f a2_0 a2_1 (rdOf ByteArray.empty t283 x9_1)).bind fun t294 => (if t294 = true then (if x7_1.length < 4398046511104 then (catchmentref05_Entries.l0 k1 l0 l1 (x7_1 ++ [(⟨rdOf ByteArray.empty t283 x9_1, t290⟩ : S39)]) t283 (wrap64 (x9_1 + 1)) a2_0 a2_1) else (none)) else (catchmentref05_Entries.l0 k1 l0 l1 x7_1 t283 (wrap64 (x9_1 + 1)) a2_0 a2_1))) else (catchmentref05_Entries.l0 k1 l0 l1 x7_1 t283 (wrap64 (x9_1 + 1)) a2_0 a2_1))) else (catchmentref05_Entries.l0 k1 l0 l1 x7_1 t283 (wrap64 (x9_1 + 1)) a2_0 a2_1)) = some r := H
     have A12 := Aside0.mk A120
     clear A120
     by_cases c13 : t291 = true
     ·subst c13
      have H1 : ((catchmentref02_Right.f a2_0 a2_1).bind fun t292 => (if t292 = true then ((catchmentref02_Holds.f a2_0 a2_1 (rdOf ByteArray.empty t283 x9_1)).bind fun t294 => (if t294 = true then (if x7_1.length < 4398046511104 then (catchmentref05_Entries.l0 k1 l0 l1 (x7_1 ++ [(⟨rdOf ByteArray.empty t283 x9_1, t290⟩ : S39)]) t283 (wrap64 (x9_1 + 1)) a2_0 a2_1) else (none)) else (catchmentref05_Entries.l0 k1 l0 l1 x7_1 t283 (wrap64 (x9_1 + 1)) a2_0 a2_1))) else (catchmentref05_Entries.l0 k1 l0 l1 x7_1 t283 (wrap64 (x9_1 + 1)) a2_0 a2_1))) = some r := by rw [if_pos rfl] at H; exact H
      clear H
      have H := H1
      clear H1
      replace H := Option.bind_eq_some_iff.mp H
      obtain ⟨t292, A140, H⟩ := H
      replace H : (if t292 = true then ((catchmentref02_Holds.f a2_0 a2_1 (rdOf ByteArray.empty t283 x9_1)).bind fun t294 => (if t294 = true then (if x7_1.length < 4398046511104 then (catchmentref05_Entries.l0 k1 l0 l1 (x7_1 ++ [(⟨rdOf ByteArray.empty t283 x9_1, t290⟩ : S39)]) t283 (wrap64 (x9_1 + 1)) a2_0 a2_1) else (none)) else (catchmentref05_Entries.l0 k1 l0 l1 x7_1 t283 (wrap64 (x9_1 + 1)) a2_0 a2_1))) else (catchmentref05_Entries.l0 k1 l0 l1 x7_1 t283 (wrap64 (x9_1 + 1)) a2_0 a2_1)) = some r := H
      have A14 := Aside0.mk A140
      clear A140
      by_cases c15 : t292 = true
      ·subst c15
       have H1 : ((catchmentref02_Holds.f a2_0 a2_1 (rdOf ByteArray.empty t283 x9_1)).bind fun t294 => (if t294 = true then (if x7_1.length < 4398046511104 then (catchmentref05_Entries.l0 k1 l0 l1 (x7_1 ++ [(⟨rdOf ByteArray.empty t283 x9_1, t290⟩ : S39)]) t283 (wrap64 (x9_1 + 1)) a2_0 a2_1) else (none)) else (catchmentref05_Entries.l0 k1 l0 l1 x7_1 t283 (wrap64 (x9_1 + 1)) a2_0 a2_1))) = some r := by rw [if_pos rfl] at H; exact H
       clear H
       have H := H1
       clear H1
       replace H := Option.bind_eq_some_iff.mp H
       obtain ⟨t294, A160, H⟩ := H
       replace H : (if t294 = true then (if x7_1.length < 4398046511104 then (catchmentref05_Entries.l0 k1 l0 l1 (x7_1 ++ [(⟨rdOf ByteArray.empty t283 x9_1, t290⟩ : S39)]) t283 (wrap64 (x9_1 + 1)) a2_0 a2_1) else (none)) else (catchmentref05_Entries.l0 k1 l0 l1 x7_1 t283 (wrap64 (x9_1 + 1)) a2_0 a2_1)) = some r := H
       have A16 := Aside0.mk A160
       clear A160
       by_cases c17 : t294 = true
       ·subst c17
        have H1 : (if x7_1.length < 4398046511104 then (catchmentref05_Entries.l0 k1 l0 l1 (x7_1 ++ [(⟨rdOf ByteArray.empty t283 x9_1, t290⟩ : S39)]) t283 (wrap64 (x9_1 + 1)) a2_0 a2_1) else (none)) = some r := by rw [if_pos rfl] at H; exact H
        clear H
        have H := H1
        clear H1
        by_cases c18 : x7_1.length < 4398046511104
        ·rw [if_pos c18] at H
         have LMc18 := Aside0.mk c18
         clear c18
         obtain ⟨y296, hy296⟩ : ∃ y_ : List (S39), y_ = (x7_1 ++ [(⟨rdOf ByteArray.empty t283 x9_1, t290⟩ : S39)]) := ⟨_, rfl⟩
         replace H : (catchmentref05_Entries.l0 k1 l0 l1 y296 t283 (wrap64 (x9_1 + 1)) a2_0 a2_1) = some r := by first | (rw [hy296]; with_reducible exact H) | (have H2_ := (Option.bind_some _ _).symm.trans H; rw [hy296]; with_reducible exact H2_) | (have H2_ := (Option.bind_some _ _).symm.trans H; with_reducible exact H2_) | with_reducible exact H | (rw [hy296]; exact H) | exact H
         have Ny296 := Aside0.mk hy296
         clear hy296
         have H' := Aside0.mk H
         clear H
         obtain ⟨Ao19, co19, eo19⟩ := Kd.V_slice HO_8.out
         subst eo19
         have p286 : 0 ≤ (x9_1 : Int) := of_decide_eq_true (by first | (with_reducible assumption) | assumption)
         have q286 : x9_1 < (t283.length : Int) := of_decide_eq_true (by first | (with_reducible assumption) | assumption)
         obtain ⟨ad286, e286, hx286_0⟩ := Kd.at_string (Kd.V_reads' HO_8.out).2.2 x9_1 p286 q286
         cases e286
         replace p286 := eq_true p286
         replace q286 := eq_true q286
         try go_wp2_with (first | ((with_reducible refine gate_callee (f := 31) rfl ?_); refine goesL_ (some 28) rfl rfl Try.func31 (by kernel_rfl) rfl #[.slice A1 l1.length c1, .string (rdOf ByteArray.empty t283 x9_1)] rfl mS_ ?_; (with_reducible refine (catchmentref05_Find.calls k1 _ _ l1 (rdOf ByteArray.empty t283 x9_1) t287 t288 _ ?side1 ?side2 A11.out).mono ?_); (case side1 => repeat (first | exact (Kd.C_below HR1.out HB.out) | (with_reducible refine Kd.C_alloc ?_ _) | (with_reducible refine Kd.C_drewN ?_ _) | (with_reducible refine Kd.C_drew ?_))); (case side2 => exact HC1.out); rintro e w' ⟨rfl, ⟨nd, rfl⟩⟩; refine ⟨_, rfl, ?_⟩; have p289 : 0 ≤ (x9_1 : Int) := of_decide_eq_true (by first | (with_reducible assumption) | assumption); have q289 : x9_1 < (t283.length : Int) := of_decide_eq_true (by first | (with_reducible assumption) | assumption); obtain ⟨ad289, e289, hx289_0⟩ := Kd.at_string (Kd.V_reads' HO_8.out).2.2 x9_1 p289 q289; obtain rfl : ad286 = ad289 := (by injection e289); replace p289 := eq_true p289; replace q289 := eq_true q289) | ((with_reducible refine gate_callee (f := 35) rfl ?_); refine goesL_ (some 39) rfl rfl Try.func35 (by kernel_rfl) rfl #[.slice A0 l0.length c0, .string (rdOf ByteArray.empty t283 x9_1), .string t287, .bool t288] rfl mS_ ?_; (with_reducible refine (catchmentref05_Value.calls k1 _ _ l0 (rdOf ByteArray.empty t283 x9_1) t287 t288 t290 true _ ?side1 ?side2 A12.out).mono ?_); (case side1 => repeat (first | exact (Kd.C_below HR0.out (bS1_ GE279.out)) | (with_reducible refine Kd.C_alloc ?_ _) | (with_reducible refine Kd.C_drewN ?_ _) | (with_reducible refine Kd.C_drew ?_))); (case side2 => exact HC0.out); rintro e w20 ⟨rfl, hb⟩; refine ⟨_, rfl, ?_⟩; have n0_ := Aside0.mk (Kd.R_below (kR_ HO_7.out) hb); have n1_ := Aside0.mk (Kd.V_below (kV_ HO_8.out) hb); have n2_ := Aside0.mk (bB (bX_ BK279.out) hb); have n3_ := Aside0.mk (wT (bS1_ GE279.out) hb); clear HO_7; clear HO_8; clear BK279; clear HB; have HO_7 := n0_; have HO_8 := n1_; have BK279 := n2_; have HB := n3_; clear n0_ n1_ n2_ n3_; (try clear hb); (try clear hb2); (try clear hk); (try clear hi)))
         have n0_ := Aside0.mk (Kd.R_drew HO_7.out)
         have n1_ := Aside0.mk (Kd.V_drew HO_8.out)
         have n2_ := Aside0.mk (bD BK279.out)
         have n3_ := Aside0.mk (w1 HB.out)
         clear HO_7
         clear HO_8
         clear BK279
         clear HB
         have HO_7 := n0_
         have HO_8 := n1_
         have BK279 := n2_
         have HB := n3_
         clear n0_ n1_ n2_ n3_
         have p293 : 0 ≤ (x9_1 : Int) := of_decide_eq_true (by first | (with_reducible assumption) | assumption)
         have q293 : x9_1 < (t283.length : Int) := of_decide_eq_true (by first | (with_reducible assumption) | assumption)
         obtain ⟨ad293, e293, hx293_0⟩ := Kd.at_string (Kd.V_reads' HO_8.out).2.2 x9_1 p293 q293
         obtain rfl : ad286 = ad293 := (by injection e293)
         replace p293 := eq_true p293
         replace q293 := eq_true q293
         refine start_ (n := 13) (S := fun w' => w'.cell? ⟨gb279, 0, none⟩ = some (.string a2_0) ∧ w'.cell? ⟨gb279, 1, none⟩ = some (.string a2_1) ∧ w'.cell? (ad286.add (x9_1).toNat) = some (.string (rdOf ByteArray.empty t283 x9_1))) (ds := []) #[ZZ,ZZ,ZZ,ZZ,ZZ,ZZ,ZZ,ZZ,ZZ,ZZ,ZZ,ZZ,ZZ] (by kernel_rfl) rfl rfl ⟨(bC BK279.out 0).trans rfl, (bC BK279.out 1).trans rfl, hx293_0⟩ (fun hHeld => ?_); refine with_tabW catchmentref05_Entries.tab8 catchmentref05_Entries.bits8 (fun HT_ HW_ => ?_)
         generalize w20.drew = w21 at HO_7 HO_8 BK279 HB hx293_0 hHeld ⊢
         refine pU_ 0 42 #[YY,ZZ,ZZ,ZZ,ZZ,ZZ,ZZ,ZZ,ZZ,ZZ,ZZ,ZZ,ZZ] ?_
         refine pU_ 1 43 #[YY,YY,ZZ,ZZ,ZZ,ZZ,ZZ,ZZ,ZZ,ZZ,ZZ,ZZ,ZZ] ?_
         refine take_ (i := 2) (N := some 44) (v := ?_) (a' := ?_) #[YY,YY,YY,ZZ,ZZ,ZZ,ZZ,ZZ,ZZ,ZZ,ZZ,ZZ,ZZ] rfl rfl (take_ofW HT_.out HW_.out (by kernel_rfl)) (fun _ _ _ h => h) (Or.inl ⟨by rfl, ?_⟩) hHeld ?_ ?_
         rotate_left
         ·rintro w' ⟨s0, s1, s2⟩
          go_simp
          with_reducible rfl
         rotate_left
         ·simp only [Act.put, sA1, sA2, sA3, i64_w, i32_w]
          rfl
         refine one_ (i := 3) (N := some 45) #[YY,YY,YY,YY,ZZ,ZZ,ZZ,ZZ,ZZ,ZZ,ZZ,ZZ,ZZ] rfl rfl (one_of HT_.out (by kernel_rfl)) (by decide) (fun K hK => ?_)
         refine goes_ Try.func65 (by kernel_rfl) rfl #[.agg #[.string a2_0, .string a2_1]] (by rfl) rfl rfl mS_ ?_
         with_reducible refine (catchmentref02_Right.calls a2_0 a2_1 true _ A14.out).mono ?_
         rintro e w22 ⟨rfl, hb⟩
         have HS2_ := (hb.cell (World.block_lt_of_cell? _ _ (hHeld.2.2))).trans (hHeld.2.2)
         refine ⟨_, rfl, ?_⟩
         have n0_ := Aside0.mk (Kd.R_below (kR_ HO_7.out) hb)
         have n1_ := Aside0.mk (Kd.V_below (kV_ HO_8.out) hb)
         have n2_ := Aside0.mk (bB (bX_ BK279.out) hb)
         have n3_ := Aside0.mk (wT (bS1_ GE279.out) hb)
         clear HO_7
         clear HO_8
         clear BK279
         clear HB
         have HO_7 := n0_
         have HO_8 := n1_
         have BK279 := n2_
         have HB := n3_
         clear n0_ n1_ n2_ n3_
         (try clear hb)
         (try clear hb2)
         (try clear hk)
         (try clear hi)
         refine hK.out _ _ ⟨(bC BK279.out 0).trans rfl, (bC BK279.out 1).trans rfl, HS2_⟩ (fun hHeld => ?_)
         clear hK K
         refine norm_ (a' := ?_) ?_ ?_
         rotate_left
         ·show Act.put _ (some 45) _ = _
          simp only [Act.put, sA1, sA2, sA3, i64_w, i32_w]
          rfl
         refine pU_ 4 46 #[YY,YY,YY,YY,YY,ZZ,ZZ,ZZ,ZZ,ZZ,ZZ,ZZ,ZZ] ?_
         refine pU_ 5 47 #[YY,YY,YY,YY,YY,YY,ZZ,ZZ,ZZ,ZZ,ZZ,ZZ,ZZ] ?_
         refine pU_ 7 49 #[YY,YY,YY,YY,YY,YY,ZZ,YY,ZZ,ZZ,ZZ,ZZ,ZZ] ?_
         refine pU_ 8 50 #[YY,YY,YY,YY,YY,YY,ZZ,YY,YY,ZZ,ZZ,ZZ,ZZ] ?_
         refine pU_ 9 51 #[YY,YY,YY,YY,YY,YY,ZZ,YY,YY,YY,ZZ,ZZ,ZZ] ?_
         refine take_ (i := 6) (N := some 48) (v := ?_) (a' := ?_) #[YY,YY,YY,YY,YY,YY,YY,YY,YY,YY,ZZ,ZZ,ZZ] rfl rfl (take_ofW HT_.out HW_.out (by kernel_rfl)) (fun _ _ _ h => h) (Or.inl ⟨by rfl, ?_⟩) hHeld ?_ ?_
         rotate_left
         ·rintro w' ⟨s0, s1, s2⟩
          go_simp
          with_reducible rfl
         rotate_left
         ·simp only [Act.put, sA1, sA2, sA3, i64_w, i32_w]
          rfl
         refine take_ (i := 10) (N := some 52) (v := ?_) (a' := ?_) #[YY,YY,YY,YY,YY,YY,YY,YY,YY,YY,YY,ZZ,ZZ] rfl rfl (take_ofW HT_.out HW_.out (by kernel_rfl)) (fun _ _ _ h => h) (Or.inl ⟨by rfl, ?_⟩) hHeld ?_ ?_
         rotate_left
         ·rintro w' ⟨s0, s1, s2⟩
          go_simp
          with_reducible rfl
         rotate_left
         ·simp only [Act.put, sA1, sA2, sA3, i64_w, i32_w]
          rfl
         refine one_ (i := 11) (N := some 53) #[YY,YY,YY,YY,YY,YY,YY,YY,YY,YY,YY,YY,ZZ] rfl rfl (one_of HT_.out (by kernel_rfl)) (by decide) (fun K hK => ?_)
         refine goes_ Try.func17 (by kernel_rfl) rfl #[.agg #[.string a2_0, .string a2_1], .string (rdOf ByteArray.empty t283 x9_1)] (by rfl) rfl rfl mS_ ?_
         with_reducible refine (catchmentref02_Holds.calls a2_0 a2_1 (rdOf ByteArray.empty t283 x9_1) true _ A16.out).mono ?_
         rintro e w23 ⟨rfl, hb⟩
         have HS2_ := (hb.cell (World.block_lt_of_cell? _ _ (hHeld.2.2))).trans (hHeld.2.2)
         refine ⟨_, rfl, ?_⟩
         have n0_ := Aside0.mk (Kd.R_below (kR_ HO_7.out) hb)
         have n1_ := Aside0.mk (Kd.V_below (kV_ HO_8.out) hb)
         have n2_ := Aside0.mk (bB (bX_ BK279.out) hb)
         have n3_ := Aside0.mk (wT (bS1_ GE279.out) hb)
         clear HO_7
         clear HO_8
         clear BK279
         clear HB
         have HO_7 := n0_
         have HO_8 := n1_
         have BK279 := n2_
         have HB := n3_
         clear n0_ n1_ n2_ n3_
         (try clear hb)
         (try clear hb2)
         (try clear hk)
         (try clear hi)
         refine hK.out _ _ ⟨(bC BK279.out 0).trans rfl, (bC BK279.out 1).trans rfl, HS2_⟩ (fun hHeld => ?_)
         clear hK K
         refine norm_ (a' := ?_) ?_ ?_
         rotate_left
         ·show Act.put _ (some 53) _ = _
          simp only [Act.put, sA1, sA2, sA3, i64_w, i32_w]
          rfl
         refine pU_ 12 54 #[YY,YY,YY,YY,YY,YY,YY,YY,YY,YY,YY,YY,YY] ?_
         refine done_ (done_of HT_.out (by kernel_rfl)) ?_
         have p295 : 0 ≤ (x9_1 : Int) := of_decide_eq_true (by first | (with_reducible assumption) | assumption)
         have q295 : x9_1 < (t283.length : Int) := of_decide_eq_true (by first | (with_reducible assumption) | assumption)
         obtain ⟨ad295, e295, hx295_0⟩ := Kd.at_string (Kd.V_reads' HO_8.out).2.2 x9_1 p295 q295
         obtain rfl : ad286 = ad295 := (by injection e295)
         replace p295 := eq_true p295
         replace q295 := eq_true q295
         try go_wp2_with (first | ((with_reducible refine gate_builtin (b := .append) (xs := #[.tmp 55, .tmp 62]) rfl ?_); at_builtin; refine Kd.R_append k39 (w0 := w) w.heap.size rfl (.tmp 55) (.tmp 62) 23 39 (.agg #[(.string ⟨#[]⟩), (.string ⟨#[]⟩)]) 32 rfl Try.underlying23 info39 rfl (by decide) (by omega) u7 x7_1 (⟨rdOf ByteArray.empty t283 x9_1, t290⟩ : S39) [.string (rdOf ByteArray.empty t283 x9_1), .string t290] (fun _ => True) (fun _ => False) rfl rfl ?aP (fun _ hk => hk.elim) ?aF ?aO ?aB ?aS ?aL ?_; (case aP => exact k39_mkM _ _ _ (⟨rdOf ByteArray.empty t283 x9_1, t290⟩ : S39)); (case aB => exact (bS1_ GE279.out)); (case aF => exact (fun _ _ => trivial)); (case aO => exact (kR_ HO_7.out)); (case aS => exact (wZ (bS1_ GE279.out))); (case aL => have := LMc18.out; omega); intro v297 w24 ho hb hg hat; rw [← Ny296.out] at ho; have n0_ := Aside0.mk (Kd.V_afterv (ok := (fun k_ => k_ ≠ gb279)) (by (with_reducible repeat (first | apply Kd.V_alloc | apply Kd.V_drewN | apply Kd.V_drew)); exact Kd.V_mono HO_8.out (fun _ hk => ⟨hk.2, hk.1⟩)) hg hat); have n1_ := Aside0.mk (blk_grown (g := gb279) (o := .cells #[.string a2_0, .string a2_1] 28 (0, 0)) (bX_ BK279.out) hg (Kd.R_ne HO_7.out BK279.out (by decide))); have n2_ := Aside0.mk (hb); have n3_ := Aside0.mk (ho); clear HO_8; clear BK279; clear HB; clear HO_7; have HO_8 := n0_; have BK279 := n1_; have HB := n2_; have HO298 := n3_; clear n0_ n1_ n2_ n3_; clear ho hb hg hat))
         go_roundg k1
         case measure => have := HK1.out; omega
         case rel => exact ⟨(y296), (wrap64 (x9_1 + 1)), (by first | rfl | (simp; done) | (simp [*]; done)), H', ⟨by have := HK1.out; omega⟩, ⟨by (with_reducible repeat (first | apply Kd.R_alloc | apply Kd.R_drewN | apply Kd.R_drew)); exact HO298.out⟩, ⟨by (with_reducible repeat (first | apply Kd.V_alloc | apply Kd.V_drewN | apply Kd.V_drew)); exact Kd.V_mono HO_8.out (fun _ hk => ⟨hk.2, hk.1⟩)⟩, ⟨by (with_reducible repeat (first | refine bN ?_ _ | refine bD ?_ | refine bA ?_ _)); exact BK279.out⟩, ⟨by repeat (first | (with_reducible first | exact HB.out | apply wA | apply wN | apply w1 | refine wS ?_ GE279.out) | exact HB.out)⟩⟩
        ·rw [if_neg c18] at H
         exact absurd H (by simp)
       ·replace c17 := Bool.eq_false_iff.mpr c17
        subst c17
        have H1 : (catchmentref05_Entries.l0 k1 l0 l1 x7_1 t283 (wrap64 (x9_1 + 1)) a2_0 a2_1) = some r := by rw [if_neg (show ¬ (false = true) by decide)] at H; exact H
        clear H
        have H := H1
        clear H1
        have H' := Aside0.mk H
        clear H
        obtain ⟨Ao25, co25, eo25⟩ := Kd.V_slice HO_8.out
        subst eo25
        have p286 : 0 ≤ (x9_1 : Int) := of_decide_eq_true (by first | (with_reducible assumption) | assumption)
        have q286 : x9_1 < (t283.length : Int) := of_decide_eq_true (by first | (with_reducible assumption) | assumption)
        obtain ⟨ad286, e286, hx286_0⟩ := Kd.at_string (Kd.V_reads' HO_8.out).2.2 x9_1 p286 q286
        cases e286
        replace p286 := eq_true p286
        replace q286 := eq_true q286
        try go_wp2_with (first | ((with_reducible refine gate_callee (f := 31) rfl ?_); refine goesL_ (some 28) rfl rfl Try.func31 (by kernel_rfl) rfl #[.slice A1 l1.length c1, .string (rdOf ByteArray.empty t283 x9_1)] rfl mS_ ?_; (with_reducible refine (catchmentref05_Find.calls k1 _ _ l1 (rdOf ByteArray.empty t283 x9_1) t287 t288 _ ?side1 ?side2 A11.out).mono ?_); (case side1 => repeat (first | exact (Kd.C_below HR1.out HB.out) | (with_reducible refine Kd.C_alloc ?_ _) | (with_reducible refine Kd.C_drewN ?_ _) | (with_reducible refine Kd.C_drew ?_))); (case side2 => exact HC1.out); rintro e w' ⟨rfl, ⟨nd, rfl⟩⟩; refine ⟨_, rfl, ?_⟩; have p289 : 0 ≤ (x9_1 : Int) := of_decide_eq_true (by first | (with_reducible assumption) | assumption); have q289 : x9_1 < (t283.length : Int) := of_decide_eq_true (by first | (with_reducible assumption) | assumption); obtain ⟨ad289, e289, hx289_0⟩ := Kd.at_string (Kd.V_reads' HO_8.out).2.2 x9_1 p289 q289; obtain rfl : ad286 = ad289 := (by injection e289); replace p289 := eq_true p289; replace q289 := eq_true q289) | ((with_reducible refine gate_callee (f := 35) rfl ?_); refine goesL_ (some 39) rfl rfl Try.func35 (by kernel_rfl) rfl #[.slice A0 l0.length c0, .string (rdOf ByteArray.empty t283 x9_1), .string t287, .bool t288] rfl mS_ ?_; (with_reducible refine (catchmentref05_Value.calls k1 _ _ l0 (rdOf ByteArray.empty t283 x9_1) t287 t288 t290 true _ ?side1 ?side2 A12.out).mono ?_); (case side1 => repeat (first | exact (Kd.C_below HR0.out (bS1_ GE279.out)) | (with_reducible refine Kd.C_alloc ?_ _) | (with_reducible refine Kd.C_drewN ?_ _) | (with_reducible refine Kd.C_drew ?_))); (case side2 => exact HC0.out); rintro e w26 ⟨rfl, hb⟩; refine ⟨_, rfl, ?_⟩; have n0_ := Aside0.mk (Kd.R_below (kR_ HO_7.out) hb); have n1_ := Aside0.mk (Kd.V_below (kV_ HO_8.out) hb); have n2_ := Aside0.mk (bB (bX_ BK279.out) hb); have n3_ := Aside0.mk (wT (bS1_ GE279.out) hb); clear HO_7; clear HO_8; clear BK279; clear HB; have HO_7 := n0_; have HO_8 := n1_; have BK279 := n2_; have HB := n3_; clear n0_ n1_ n2_ n3_; (try clear hb); (try clear hb2); (try clear hk); (try clear hi)))
        have n0_ := Aside0.mk (Kd.R_drew HO_7.out)
        have n1_ := Aside0.mk (Kd.V_drew HO_8.out)
        have n2_ := Aside0.mk (bD BK279.out)
        have n3_ := Aside0.mk (w1 HB.out)
        clear HO_7
        clear HO_8
        clear BK279
        clear HB
        have HO_7 := n0_
        have HO_8 := n1_
        have BK279 := n2_
        have HB := n3_
        clear n0_ n1_ n2_ n3_
        have p293 : 0 ≤ (x9_1 : Int) := of_decide_eq_true (by first | (with_reducible assumption) | assumption)
        have q293 : x9_1 < (t283.length : Int) := of_decide_eq_true (by first | (with_reducible assumption) | assumption)
        obtain ⟨ad293, e293, hx293_0⟩ := Kd.at_string (Kd.V_reads' HO_8.out).2.2 x9_1 p293 q293
        obtain rfl : ad286 = ad293 := (by injection e293)
        replace p293 := eq_true p293
        replace q293 := eq_true q293
        refine start_ (n := 13) (S := fun w' => w'.cell? ⟨gb279, 0, none⟩ = some (.string a2_0) ∧ w'.cell? ⟨gb279, 1, none⟩ = some (.string a2_1) ∧ w'.cell? (ad286.add (x9_1).toNat) = some (.string (rdOf ByteArray.empty t283 x9_1))) (ds := []) #[ZZ,ZZ,ZZ,ZZ,ZZ,ZZ,ZZ,ZZ,ZZ,ZZ,ZZ,ZZ,ZZ] (by kernel_rfl) rfl rfl ⟨(bC BK279.out 0).trans rfl, (bC BK279.out 1).trans rfl, hx293_0⟩ (fun hHeld => ?_); refine with_tabW catchmentref05_Entries.tab8 catchmentref05_Entries.bits8 (fun HT_ HW_ => ?_)
        generalize w26.drew = w27 at HO_7 HO_8 BK279 HB hx293_0 hHeld ⊢
        refine pU_ 0 42 #[YY,ZZ,ZZ,ZZ,ZZ,ZZ,ZZ,ZZ,ZZ,ZZ,ZZ,ZZ,ZZ] ?_
        refine pU_ 1 43 #[YY,YY,ZZ,ZZ,ZZ,ZZ,ZZ,ZZ,ZZ,ZZ,ZZ,ZZ,ZZ] ?_
        refine take_ (i := 2) (N := some 44) (v := ?_) (a' := ?_) #[YY,YY,YY,ZZ,ZZ,ZZ,ZZ,ZZ,ZZ,ZZ,ZZ,ZZ,ZZ] rfl rfl (take_ofW HT_.out HW_.out (by kernel_rfl)) (fun _ _ _ h => h) (Or.inl ⟨by rfl, ?_⟩) hHeld ?_ ?_
        rotate_left
        ·rintro w' ⟨s0, s1, s2⟩
         go_simp
         with_reducible rfl
        rotate_left
        ·simp only [Act.put, sA1, sA2, sA3, i64_w, i32_w]
         rfl
        refine one_ (i := 3) (N := some 45) #[YY,YY,YY,YY,ZZ,ZZ,ZZ,ZZ,ZZ,ZZ,ZZ,ZZ,ZZ] rfl rfl (one_of HT_.out (by kernel_rfl)) (by decide) (fun K hK => ?_)
        refine goes_ Try.func65 (by kernel_rfl) rfl #[.agg #[.string a2_0, .string a2_1]] (by rfl) rfl rfl mS_ ?_
        with_reducible refine (catchmentref02_Right.calls a2_0 a2_1 true _ A14.out).mono ?_
        rintro e w28 ⟨rfl, hb⟩
        have HS2_ := (hb.cell (World.block_lt_of_cell? _ _ (hHeld.2.2))).trans (hHeld.2.2)
        refine ⟨_, rfl, ?_⟩
        have n0_ := Aside0.mk (Kd.R_below (kR_ HO_7.out) hb)
        have n1_ := Aside0.mk (Kd.V_below (kV_ HO_8.out) hb)
        have n2_ := Aside0.mk (bB (bX_ BK279.out) hb)
        have n3_ := Aside0.mk (wT (bS1_ GE279.out) hb)
        clear HO_7
        clear HO_8
        clear BK279
        clear HB
        have HO_7 := n0_
        have HO_8 := n1_
        have BK279 := n2_
        have HB := n3_
        clear n0_ n1_ n2_ n3_
        (try clear hb)
        (try clear hb2)
        (try clear hk)
        (try clear hi)
        refine hK.out _ _ ⟨(bC BK279.out 0).trans rfl, (bC BK279.out 1).trans rfl, HS2_⟩ (fun hHeld => ?_)
        clear hK K
        refine norm_ (a' := ?_) ?_ ?_
        rotate_left
        ·show Act.put _ (some 45) _ = _
         simp only [Act.put, sA1, sA2, sA3, i64_w, i32_w]
         rfl
        refine pU_ 4 46 #[YY,YY,YY,YY,YY,ZZ,ZZ,ZZ,ZZ,ZZ,ZZ,ZZ,ZZ] ?_
        refine pU_ 5 47 #[YY,YY,YY,YY,YY,YY,ZZ,ZZ,ZZ,ZZ,ZZ,ZZ,ZZ] ?_
        refine pU_ 7 49 #[YY,YY,YY,YY,YY,YY,ZZ,YY,ZZ,ZZ,ZZ,ZZ,ZZ] ?_
        refine pU_ 8 50 #[YY,YY,YY,YY,YY,YY,ZZ,YY,YY,ZZ,ZZ,ZZ,ZZ] ?_
        refine pU_ 9 51 #[YY,YY,YY,YY,YY,YY,ZZ,YY,YY,YY,ZZ,ZZ,ZZ] ?_
        refine take_ (i := 6) (N := some 48) (v := ?_) (a' := ?_) #[YY,YY,YY,YY,YY,YY,YY,YY,YY,YY,ZZ,ZZ,ZZ] rfl rfl (take_ofW HT_.out HW_.out (by kernel_rfl)) (fun _ _ _ h => h) (Or.inl ⟨by rfl, ?_⟩) hHeld ?_ ?_
        rotate_left
        ·rintro w' ⟨s0, s1, s2⟩
         go_simp
         with_reducible rfl
        rotate_left
        ·simp only [Act.put, sA1, sA2, sA3, i64_w, i32_w]
         rfl
        refine take_ (i := 10) (N := some 52) (v := ?_) (a' := ?_) #[YY,YY,YY,YY,YY,YY,YY,YY,YY,YY,YY,ZZ,ZZ] rfl rfl (take_ofW HT_.out HW_.out (by kernel_rfl)) (fun _ _ _ h => h) (Or.inl ⟨by rfl, ?_⟩) hHeld ?_ ?_
        rotate_left
        ·rintro w' ⟨s0, s1, s2⟩
         go_simp
         with_reducible rfl
        rotate_left
        ·simp only [Act.put, sA1, sA2, sA3, i64_w, i32_w]
         rfl
        refine one_ (i := 11) (N := some 53) #[YY,YY,YY,YY,YY,YY,YY,YY,YY,YY,YY,YY,ZZ] rfl rfl (one_of HT_.out (by kernel_rfl)) (by decide) (fun K hK => ?_)
        refine goes_ Try.func17 (by kernel_rfl) rfl #[.agg #[.string a2_0, .string a2_1], .string (rdOf ByteArray.empty t283 x9_1)] (by rfl) rfl rfl mS_ ?_
        with_reducible refine (catchmentref02_Holds.calls a2_0 a2_1 (rdOf ByteArray.empty t283 x9_1) false _ A16.out).mono ?_
        rintro e w29 ⟨rfl, hb⟩
        have HS2_ := (hb.cell (World.block_lt_of_cell? _ _ (hHeld.2.2))).trans (hHeld.2.2)
        refine ⟨_, rfl, ?_⟩
        have n0_ := Aside0.mk (Kd.R_below (kR_ HO_7.out) hb)
        have n1_ := Aside0.mk (Kd.V_below (kV_ HO_8.out) hb)
        have n2_ := Aside0.mk (bB (bX_ BK279.out) hb)
        have n3_ := Aside0.mk (wT (bS1_ GE279.out) hb)
        clear HO_7
        clear HO_8
        clear BK279
        clear HB
        have HO_7 := n0_
        have HO_8 := n1_
        have BK279 := n2_
        have HB := n3_
        clear n0_ n1_ n2_ n3_
        (try clear hb)
        (try clear hb2)
        (try clear hk)
        (try clear hi)
        refine hK.out _ _ ⟨(bC BK279.out 0).trans rfl, (bC BK279.out 1).trans rfl, HS2_⟩ (fun hHeld => ?_)
        clear hK K
        refine norm_ (a' := ?_) ?_ ?_
        rotate_left
        ·show Act.put _ (some 53) _ = _
         simp only [Act.put, sA1, sA2, sA3, i64_w, i32_w]
         rfl
        refine pU_ 12 54 #[YY,YY,YY,YY,YY,YY,YY,YY,YY,YY,YY,YY,YY] ?_
        refine done_ (done_of HT_.out (by kernel_rfl)) ?_
        try go_wp2
        go_roundg k1
        case measure => have := HK1.out; omega
        case rel => exact ⟨(x7_1), (wrap64 (x9_1 + 1)), (by first | rfl | (simp; done) | (simp [*]; done)), H', ⟨by have := HK1.out; omega⟩, ⟨by (with_reducible repeat (first | apply Kd.R_alloc | apply Kd.R_drewN | apply Kd.R_drew)); exact HO_7.out⟩, ⟨by (with_reducible repeat (first | apply Kd.V_alloc | apply Kd.V_drewN | apply Kd.V_drew)); exact HO_8.out⟩, ⟨by (with_reducible repeat (first | refine bN ?_ _ | refine bD ?_ | refine bA ?_ _)); exact BK279.out⟩, ⟨by repeat (first | (with_reducible first | exact HB.out | apply wA | apply wN | apply w1 | refine wS ?_ GE279.out) | exact HB.out)⟩⟩
      ·replace c15 := Bool.eq_false_iff.mpr c15
       subst c15
       have H1 : (catchmentref05_Entries.l0 k1 l0 l1 x7_1 t283 (wrap64 (x9_1 + 1)) a2_0 a2_1) = some r := by rw [if_neg (show ¬ (false = true) by decide)] at H; exact H
       clear H
       have H := H1
       clear H1
       have H' := Aside0.mk H
       clear H
       obtain ⟨Ao30, co30, eo30⟩ := Kd.V_slice HO_8.out
       subst eo30
       have p286 : 0 ≤ (x9_1 : Int) := of_decide_eq_true (by first | (with_reducible assumption) | assumption)
       have q286 : x9_1 < (t283.length : Int) := of_decide_eq_true (by first | (with_reducible assumption) | assumption)
       obtain ⟨ad286, e286, hx286_0⟩ := Kd.at_string (Kd.V_reads' HO_8.out).2.2 x9_1 p286 q286
       cases e286
       replace p286 := eq_true p286
       replace q286 := eq_true q286
       try go_wp2_with (first | ((with_reducible refine gate_callee (f := 31) rfl ?_); refine goesL_ (some 28) rfl rfl Try.func31 (by kernel_rfl) rfl #[.slice A1 l1.length c1, .string (rdOf ByteArray.empty t283 x9_1)] rfl mS_ ?_; (with_reducible refine (catchmentref05_Find.calls k1 _ _ l1 (rdOf ByteArray.empty t283 x9_1) t287 t288 _ ?side1 ?side2 A11.out).mono ?_); (case side1 => repeat (first | exact (Kd.C_below HR1.out HB.out) | (with_reducible refine Kd.C_alloc ?_ _) | (with_reducible refine Kd.C_drewN ?_ _) | (with_reducible refine Kd.C_drew ?_))); (case side2 => exact HC1.out); rintro e w' ⟨rfl, ⟨nd, rfl⟩⟩; refine ⟨_, rfl, ?_⟩; have p289 : 0 ≤ (x9_1 : Int) := of_decide_eq_true (by first | (with_reducible assumption) | assumption); have q289 : x9_1 < (t283.length : Int) := of_decide_eq_true (by first | (with_reducible assumption) | assumption); obtain ⟨ad289, e289, hx289_0⟩ := Kd.at_string (Kd.V_reads' HO_8.out).2.2 x9_1 p289 q289; obtain rfl : ad286 = ad289 := (by injection e289); replace p289 := eq_true p289; replace q289 := eq_true q289) | ((with_reducible refine gate_callee (f := 35) rfl ?_); refine goesL_ (some 39) rfl rfl Try.func35 (by kernel_rfl) rfl #[.slice A0 l0.length c0, .string (rdOf ByteArray.empty t283 x9_1), .string t287, .bool t288] rfl mS_ ?_; (with_reducible refine (catchmentref05_Value.calls k1 _ _ l0 (rdOf ByteArray.empty t283 x9_1) t287 t288 t290 true _ ?side1 ?side2 A12.out).mono ?_); (case side1 => repeat (first | exact (Kd.C_below HR0.out (bS1_ GE279.out)) | (with_reducible refine Kd.C_alloc ?_ _) | (with_reducible refine Kd.C_drewN ?_ _) | (with_reducible refine Kd.C_drew ?_))); (case side2 => exact HC0.out); rintro e w31 ⟨rfl, hb⟩; refine ⟨_, rfl, ?_⟩; have n0_ := Aside0.mk (Kd.R_below (kR_ HO_7.out) hb); have n1_ := Aside0.mk (Kd.V_below (kV_ HO_8.out) hb); have n2_ := Aside0.mk (bB (bX_ BK279.out) hb); have n3_ := Aside0.mk (wT (bS1_ GE279.out) hb); clear HO_7; clear HO_8; clear BK279; clear HB; have HO_7 := n0_; have HO_8 := n1_; have BK279 := n2_; have HB := n3_; clear n0_ n1_ n2_ n3_; (try clear hb); (try clear hb2); (try clear hk); (try clear hi)))
       have n0_ := Aside0.mk (Kd.R_drew HO_7.out)
       have n1_ := Aside0.mk (Kd.V_drew HO_8.out)
       have n2_ := Aside0.mk (bD BK279.out)
       have n3_ := Aside0.mk (w1 HB.out)
       clear HO_7
       clear HO_8
       clear BK279
       clear HB
       have HO_7 := n0_
       have HO_8 := n1_
       have BK279 := n2_
       have HB := n3_
       clear n0_ n1_ n2_ n3_
       refine start_ (n := 13) (S := fun w' => w'.cell? ⟨gb279, 0, none⟩ = some (.string a2_0) ∧ w'.cell? ⟨gb279, 1, none⟩ = some (.string a2_1)) (ds := []) #[ZZ,ZZ,ZZ,ZZ,ZZ,ZZ,ZZ,ZZ,ZZ,ZZ,ZZ,ZZ,ZZ] (by kernel_rfl) rfl rfl ⟨(bC BK279.out 0).trans rfl, (bC BK279.out 1).trans rfl⟩ (fun hHeld => ?_); refine with_tabW catchmentref05_Entries.tab8 catchmentref05_Entries.bits8 (fun HT_ HW_ => ?_)
       generalize w31.drew = w32 at HO_7 HO_8 BK279 HB hHeld ⊢
       refine pU_ 0 42 #[YY,ZZ,ZZ,ZZ,ZZ,ZZ,ZZ,ZZ,ZZ,ZZ,ZZ,ZZ,ZZ] ?_
       refine pU_ 1 43 #[YY,YY,ZZ,ZZ,ZZ,ZZ,ZZ,ZZ,ZZ,ZZ,ZZ,ZZ,ZZ] ?_
       refine take_ (i := 2) (N := some 44) (v := ?_) (a' := ?_) #[YY,YY,YY,ZZ,ZZ,ZZ,ZZ,ZZ,ZZ,ZZ,ZZ,ZZ,ZZ] rfl rfl (take_ofW HT_.out HW_.out (by kernel_rfl)) (fun _ _ _ h => h) (Or.inl ⟨by rfl, ?_⟩) hHeld ?_ ?_
       rotate_left
       ·rintro w' ⟨s0, s1⟩
        go_simp
        with_reducible rfl
       rotate_left
       ·simp only [Act.put, sA1, sA2, sA3, i64_w, i32_w]
        rfl
       refine one_ (i := 3) (N := some 45) #[YY,YY,YY,YY,ZZ,ZZ,ZZ,ZZ,ZZ,ZZ,ZZ,ZZ,ZZ] rfl rfl (one_of HT_.out (by kernel_rfl)) (by decide) (fun K hK => ?_)
       refine goes_ Try.func65 (by kernel_rfl) rfl #[.agg #[.string a2_0, .string a2_1]] (by rfl) rfl rfl mS_ ?_
       with_reducible refine (catchmentref02_Right.calls a2_0 a2_1 false _ A14.out).mono ?_
       rintro e w33 ⟨rfl, hb⟩
       refine ⟨_, rfl, ?_⟩
       have n0_ := Aside0.mk (Kd.R_below (kR_ HO_7.out) hb)
       have n1_ := Aside0.mk (Kd.V_below (kV_ HO_8.out) hb)
       have n2_ := Aside0.mk (bB (bX_ BK279.out) hb)
       have n3_ := Aside0.mk (wT (bS1_ GE279.out) hb)
       clear HO_7
       clear HO_8
       clear BK279
       clear HB
       have HO_7 := n0_
       have HO_8 := n1_
       have BK279 := n2_
       have HB := n3_
       clear n0_ n1_ n2_ n3_
       (try clear hb)
       (try clear hb2)
       (try clear hk)
       (try clear hi)
       refine hK.out _ _ ⟨(bC BK279.out 0).trans rfl, (bC BK279.out 1).trans rfl⟩ (fun hHeld => ?_)
       clear hK K
       refine norm_ (a' := ?_) ?_ ?_
       rotate_left
       ·show Act.put _ (some 45) _ = _
        simp only [Act.put, sA1, sA2, sA3, i64_w, i32_w]
        rfl
       refine pU_ 4 46 #[YY,YY,YY,YY,YY,ZZ,ZZ,ZZ,ZZ,ZZ,ZZ,ZZ,ZZ] ?_
       refine pU_ 5 47 #[YY,YY,YY,YY,YY,YY,ZZ,ZZ,ZZ,ZZ,ZZ,ZZ,ZZ] ?_
       refine oF_ 6 48 #[YY,YY,YY,YY,YY,YY,YY,ZZ,ZZ,ZZ,ZZ,ZZ,ZZ] ?_
       refine oF_ 7 49 #[YY,YY,YY,YY,YY,YY,YY,YY,ZZ,ZZ,ZZ,ZZ,ZZ] ?_
       refine oF_ 8 50 #[YY,YY,YY,YY,YY,YY,YY,YY,YY,ZZ,ZZ,ZZ,ZZ] ?_
       refine oF_ 9 51 #[YY,YY,YY,YY,YY,YY,YY,YY,YY,YY,ZZ,ZZ,ZZ] ?_
       refine oF_ 10 52 #[YY,YY,YY,YY,YY,YY,YY,YY,YY,YY,YY,ZZ,ZZ] ?_
       refine oF_ 11 53 #[YY,YY,YY,YY,YY,YY,YY,YY,YY,YY,YY,YY,ZZ] ?_
       refine pU_ 12 54 #[YY,YY,YY,YY,YY,YY,YY,YY,YY,YY,YY,YY,YY] ?_
       refine done_ (done_of HT_.out (by kernel_rfl)) ?_
       try go_wp2
       go_roundg k1
       case measure => have := HK1.out; omega
       case rel => exact ⟨(x7_1), (wrap64 (x9_1 + 1)), (by first | rfl | (simp; done) | (simp [*]; done)), H', ⟨by have := HK1.out; omega⟩, ⟨by (with_reducible repeat (first | apply Kd.R_alloc | apply Kd.R_drewN | apply Kd.R_drew)); exact HO_7.out⟩, ⟨by (with_reducible repeat (first | apply Kd.V_alloc | apply Kd.V_drewN | apply Kd.V_drew)); exact HO_8.out⟩, ⟨by (with_reducible repeat (first | refine bN ?_ _ | refine bD ?_ | refine bA ?_ _)); exact BK279.out⟩, ⟨by repeat (first | (with_reducible first | exact HB.out | apply wA | apply wN | apply w1 | refine wS ?_ GE279.out) | exact HB.out)⟩⟩
     ·replace c13 := Bool.eq_false_iff.mpr c13
      subst c13
      have H1 : (catchmentref05_Entries.l0 k1 l0 l1 x7_1 t283 (wrap64 (x9_1 + 1)) a2_0 a2_1) = some r := by rw [if_neg (show ¬ (false = true) by decide)] at H; exact H
      clear H
      have H := H1
      clear H1
      have H' := Aside0.mk H
      clear H
      obtain ⟨Ao34, co34, eo34⟩ := Kd.V_slice HO_8.out
      subst eo34
      have p286 : 0 ≤ (x9_1 : Int) := of_decide_eq_true (by first | (with_reducible assumption) | assumption)
      have q286 : x9_1 < (t283.length : Int) := of_decide_eq_true (by first | (with_reducible assumption) | assumption)
      obtain ⟨ad286, e286, hx286_0⟩ := Kd.at_string (Kd.V_reads' HO_8.out).2.2 x9_1 p286 q286
      cases e286
      replace p286 := eq_true p286
      replace q286 := eq_true q286
      try go_wp2_with (first | ((with_reducible refine gate_callee (f := 31) rfl ?_); refine goesL_ (some 28) rfl rfl Try.func31 (by kernel_rfl) rfl #[.slice A1 l1.length c1, .string (rdOf ByteArray.empty t283 x9_1)] rfl mS_ ?_; (with_reducible refine (catchmentref05_Find.calls k1 _ _ l1 (rdOf ByteArray.empty t283 x9_1) t287 t288 _ ?side1 ?side2 A11.out).mono ?_); (case side1 => repeat (first | exact (Kd.C_below HR1.out HB.out) | (with_reducible refine Kd.C_alloc ?_ _) | (with_reducible refine Kd.C_drewN ?_ _) | (with_reducible refine Kd.C_drew ?_))); (case side2 => exact HC1.out); rintro e w' ⟨rfl, ⟨nd, rfl⟩⟩; refine ⟨_, rfl, ?_⟩; have p289 : 0 ≤ (x9_1 : Int) := of_decide_eq_true (by first | (with_reducible assumption) | assumption); have q289 : x9_1 < (t283.length : Int) := of_decide_eq_true (by first | (with_reducible assumption) | assumption); obtain ⟨ad289, e289, hx289_0⟩ := Kd.at_string (Kd.V_reads' HO_8.out).2.2 x9_1 p289 q289; obtain rfl : ad286 = ad289 := (by injection e289); replace p289 := eq_true p289; replace q289 := eq_true q289) | ((with_reducible refine gate_callee (f := 35) rfl ?_); refine goesL_ (some 39) rfl rfl Try.func35 (by kernel_rfl) rfl #[.slice A0 l0.length c0, .string (rdOf ByteArray.empty t283 x9_1), .string t287, .bool t288] rfl mS_ ?_; (with_reducible refine (catchmentref05_Value.calls k1 _ _ l0 (rdOf ByteArray.empty t283 x9_1) t287 t288 t290 false _ ?side1 ?side2 A12.out).mono ?_); (case side1 => repeat (first | exact (Kd.C_below HR0.out (bS1_ GE279.out)) | (with_reducible refine Kd.C_alloc ?_ _) | (with_reducible refine Kd.C_drewN ?_ _) | (with_reducible refine Kd.C_drew ?_))); (case side2 => exact HC0.out); rintro e w35 ⟨rfl, hb⟩; refine ⟨_, rfl, ?_⟩; have n0_ := Aside0.mk (Kd.R_below (kR_ HO_7.out) hb); have n1_ := Aside0.mk (Kd.V_below (kV_ HO_8.out) hb); have n2_ := Aside0.mk (bB (bX_ BK279.out) hb); have n3_ := Aside0.mk (wT (bS1_ GE279.out) hb); clear HO_7; clear HO_8; clear BK279; clear HB; have HO_7 := n0_; have HO_8 := n1_; have BK279 := n2_; have HB := n3_; clear n0_ n1_ n2_ n3_; (try clear hb); (try clear hb2); (try clear hk); (try clear hi)))
      have n0_ := Aside0.mk (Kd.R_drew HO_7.out)
      have n1_ := Aside0.mk (Kd.V_drew HO_8.out)
      have n2_ := Aside0.mk (bD BK279.out)
      have n3_ := Aside0.mk (w1 HB.out)
      clear HO_7
      clear HO_8
      clear BK279
      clear HB
      have HO_7 := n0_
      have HO_8 := n1_
      have BK279 := n2_
      have HB := n3_
      clear n0_ n1_ n2_ n3_
      refine start_ (n := 13) (S := fun w' => True) (ds := []) #[ZZ,ZZ,ZZ,ZZ,ZZ,ZZ,ZZ,ZZ,ZZ,ZZ,ZZ,ZZ,ZZ] (by kernel_rfl) rfl rfl trivial (fun hHeld => ?_); refine with_tabW catchmentref05_Entries.tab8 catchmentref05_Entries.bits8 (fun HT_ HW_ => ?_)
      generalize w35.drew = w36 at HO_7 HO_8 BK279 HB hHeld ⊢
      refine pU_ 0 42 #[YY,ZZ,ZZ,ZZ,ZZ,ZZ,ZZ,ZZ,ZZ,ZZ,ZZ,ZZ,ZZ] ?_
      refine pU_ 1 43 #[YY,YY,ZZ,ZZ,ZZ,ZZ,ZZ,ZZ,ZZ,ZZ,ZZ,ZZ,ZZ] ?_
      refine oF_ 2 44 #[YY,YY,YY,ZZ,ZZ,ZZ,ZZ,ZZ,ZZ,ZZ,ZZ,ZZ,ZZ] ?_
      refine oF_ 3 45 #[YY,YY,YY,YY,ZZ,ZZ,ZZ,ZZ,ZZ,ZZ,ZZ,ZZ,ZZ] ?_
      refine pU_ 4 46 #[YY,YY,YY,YY,YY,ZZ,ZZ,ZZ,ZZ,ZZ,ZZ,ZZ,ZZ] ?_
      refine pU_ 5 47 #[YY,YY,YY,YY,YY,YY,ZZ,ZZ,ZZ,ZZ,ZZ,ZZ,ZZ] ?_
      refine oF_ 6 48 #[YY,YY,YY,YY,YY,YY,YY,ZZ,ZZ,ZZ,ZZ,ZZ,ZZ] ?_
      refine oF_ 7 49 #[YY,YY,YY,YY,YY,YY,YY,YY,ZZ,ZZ,ZZ,ZZ,ZZ] ?_
      refine oF_ 8 50 #[YY,YY,YY,YY,YY,YY,YY,YY,YY,ZZ,ZZ,ZZ,ZZ] ?_
      refine oF_ 9 51 #[YY,YY,YY,YY,YY,YY,YY,YY,YY,YY,ZZ,ZZ,ZZ] ?_
      refine oF_ 10 52 #[YY,YY,YY,YY,YY,YY,YY,YY,YY,YY,YY,ZZ,ZZ] ?_
      refine oF_ 11 53 #[YY,YY,YY,YY,YY,YY,YY,YY,YY,YY,YY,YY,ZZ] ?_
      refine pU_ 12 54 #[YY,YY,YY,YY,YY,YY,YY,YY,YY,YY,YY,YY,YY] ?_
      refine done_ (done_of HT_.out (by kernel_rfl)) ?_
      try go_wp2
      go_roundg k1
      case measure => have := HK1.out; omega
      case rel => exact ⟨(x7_1), (wrap64 (x9_1 + 1)), (by first | rfl | (simp; done) | (simp [*]; done)), H', ⟨by have := HK1.out; omega⟩, ⟨by (with_reducible repeat (first | apply Kd.R_alloc | apply Kd.R_drewN | apply Kd.R_drew)); exact HO_7.out⟩, ⟨by (with_reducible repeat (first | apply Kd.V_alloc | apply Kd.V_drewN | apply Kd.V_drew)); exact HO_8.out⟩, ⟨by (with_reducible repeat (first | refine bN ?_ _ | refine bD ?_ | refine bA ?_ _)); exact BK279.out⟩, ⟨by repeat (first | (with_reducible first | exact HB.out | apply wA | apply wN | apply w1 | refine wS ?_ GE279.out) | exact HB.out)⟩⟩
    ·rw [if_neg c10] at H
     exact absurd H (by simp)
   ·rw [if_neg c9] at H
    have c9b0 : decide (x9_1 < (t283.length : Int)) = false := decide_eq_false c9
    clear c9
    obtain rfl := Option.some.inj H
    obtain ⟨Ao37, co37, eo37⟩ := Kd.V_slice HO_8.out
    subst eo37
    go_wp2
    go_ret
    exact ⟨_, by first | rfl | (simp [errW_none, errW_some] <;> rfl) | (simp [*, errW_none, errW_some] <;> rfl), by (with_reducible repeat (first | apply Kd.R_alloc | apply Kd.R_drewN | apply Kd.R_drew)); exact HO_7.out, by repeat (first | (with_reducible first | exact HB.out | apply wA | apply wN | apply w1 | refine wS ?_ GE279.out) | exact HB.out)⟩
end Go.Proofs.Ytebejadiaooooaa.P
end
