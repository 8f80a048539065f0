/- Texts of one claim (laid by shake.py). -/
import Derived.Test.YtidaiafmhidooaaZt3
import Derived.Test.YtidaiafmhidooaaZt4
import Derived.Test.YtidaiafmhidooaaZt5
import Derived.Test.YtidaiafmhidooaaZt10
import Derived.Test.YtidaiafmhidooaaZt12
import Derived.Test.YtidaiafmhidooaaZt13
import Derived.Test.YtidaiafmhidooaaZt15
import Derived.Test.YtidaiafmhidooaaZt23
import Derived.Test.YtidaiafmhidooaaZt32
set_option linter.unusedVariables false
set_option linter.unusedSimpArgs false
section
namespace Go.Proofs.Ytidaiafmhidooaa.P
open Go.RowKit Go.Proofs.YtidaiafmhidooaaW.PrintWords Go.Proofs.YtidaiafmhidooaaW.PrintLast Go.Proofs.YtidaiafmhidooaaW.PrintMore Go.Proofs.Ytidaiafmhidooaa.Own
open Bool renaming true → YY, false → ZZ
open Go.Proofs.YtidaiafmhidooaaW.PrintWords renaming blk_cell → bC, blk_frozen → bF, blk_drewN → bN, blk_alloc → bA, pw_below_drewN → wN, blk_drew → bD, below_drew1 → w1, below_set → wS, below_alloc → wA, blk_below → bB, below_step → wT, below_size → wZ, blk_put → bP
open List renaming setIfInBounds_toArray → sA1, set_cons_zero → sA2, set_cons_succ → sA3, map_toArray → mA1, map_cons → mA2, map_nil → mA3, length_take → mA4, length_drop → mA5
attribute [local go_sem] max2_str max2_int min2_int max_two min_two max_three min_three max_four min_four   -- for this text's walks alone
attribute [local go_sem high] eqA55
def fold_Changed.f (l0 : List S33) (l1 : List S55) : Option (List ByteArray) := Fo.changedF l0 l1
theorem fold_Changed.calls (A0 : Option Addr) (c0 : Nat) (l0 : List S33) (A1 : Option Addr) (c1 : Nat) (l1 : List S55) (r : List ByteArray) (w : World) (hr0 : Kd.C k33 w A0 l0.length l0) (hc0 : l0.length ≤ c0) (hr1 : Kd.C k55 w A1 l1.length l1) (hc1 : l1.length ≤ c1) (h : fold_Changed.f l0 l1 = some r) :
  Calls Try.prog 32 #[.slice A0 l0.length c0, .slice A1 l1.length c1] w fun e w' => ∃ v0_ : Value, e = .returned (v0_) ∧ Kd.R Kd.string 9 w' w.heap.size (fun _ => True) v0_ r ∧ Below w.heap.size w w' :=
 Fo.changedF_calls hr0 hc0 hr1 hc1 h
def compact_Inverse.l0 : Nat → List (S55) → List (S33) → List ByteArray → Int → Int → Option ((List (S33)))
 | 0, _, _, _, _, _ => none
 | k + 1, x1, x5, x13, x14, x15 => if x15 < x14 then (if 0 ≤ x15 then (if x15 < (x13.length : Int) then ((fold_Find.f k x1 (rdOf ByteArray.empty x13 x15)).bind fun bt397 => (if bt397.2 = true then (if x5.length < 1954687338268 then (compact_Inverse.l0 k x1 (x5 ++ [(⟨1, 0, rdOf ByteArray.empty x13 x15, (⟨#[]⟩ : BA), bt397.1, 0⟩ : S33)]) x13 x14 (wrap64 (x15 + 1))) else (none)) else (if x5.length < 1954687338268 then (compact_Inverse.l0 k x1 (x5 ++ [(⟨2, 0, rdOf ByteArray.empty x13 x15, (⟨#[]⟩ : BA), (⟨#[]⟩ : BA), 0⟩ : S33)]) x13 x14 (wrap64 (x15 + 1))) else (none)))) else (none)) else (none)) else (some x5)
def compact_Inverse.f (k : Nat) (l0 : List (S33)) (l1 : List (S55)) : Option ((List (S33))) := (fold_Changed.f l0 l1).bind fun t392 => (compact_Inverse.l0 k l1 ([] : List (S33)) t392 (t392.length : Int) 0)
set_option maxHeartbeats 8000000 in
set_option maxRecDepth 100000 in
theorem compact_Inverse.calls (k : Nat) (A0 : Option Addr) (c0 : Nat) (l0 : List (S33)) (A1 : Option Addr) (c1 : Nat) (l1 : List (S55)) (r : List (S33)) (w : World) (hr0 : Kd.C k33 w A0 l0.length l0) (hc0 : l0.length ≤ c0) (hr1 : Kd.C k55 w A1 l1.length l1) (hc1 : l1.length ≤ c1) (h : compact_Inverse.f k l0 l1 = some r) :
  Calls Try.prog 42 #[.slice A0 l0.length c0, .slice A1 l1.length c1] w fun e w' => ∃ v0_ : Value, e = .returned (v0_) ∧ Kd.R k33 33 w' w.heap.size (fun _ => True) v0_ r ∧ Below w.heap.size w w' := by
 have hu33 := Try.underlying33
 have HR0 := Aside0.mk hr0
 have HC0 := Aside0.mk hc0
 clear hr0 hc0
 have HR1 := Aside0.mk hr1
 have HC1 := Aside0.mk hc1
 clear hr1 hc1
 have HB := Aside0.mk (Below.refl w.heap.size w)
 have H : ((fold_Changed.f l0 l1).bind fun t392 => (compact_Inverse.l0 k l1 ([] : List (S33)) t392 (t392.length : Int) 0)) = some r := h
 clear h
 replace H := Option.bind_eq_some_iff.mp H
 obtain ⟨t392, A30, H⟩ := H
 replace H : (compact_Inverse.l0 k l1 ([] : List (S33)) t392 (t392.length : Int) 0) = some r := H
 have A3 := Aside0.mk A30
 clear A30
 have H' := Aside0.mk H
 clear H
 go_enter Try.func42, Try.ntmps42
 go_wp2_with (first | ((with_reducible refine gate_callee (f := 32) rfl ?_); refine goesL_ (some 13) rfl rfl Try.func32 (by kernel_rfl) rfl #[.slice A0 l0.length c0, .slice A1 l1.length c1] rfl mS_ ?_; (with_reducible refine (fold_Changed.calls _ _ l0 _ _ l1 t392 _ ?side1 ?side2 ?side3 ?side4 A3.out).mono ?_); (case side1 => repeat (first | exact HR0.out | (with_reducible refine Kd.C_alloc ?_ _) | (with_reducible refine Kd.C_drewN ?_ _) | (with_reducible refine Kd.C_drew ?_))); (case side2 => exact HC0.out); (case side3 => repeat (first | exact HR1.out | (with_reducible refine Kd.C_alloc ?_ _) | (with_reducible refine Kd.C_drewN ?_ _) | (with_reducible refine Kd.C_drew ?_))); (case side4 => exact HC1.out); rintro e w4 ⟨v393, rfl, ho0, hb⟩; refine ⟨_, rfl, ?_⟩; have n0_ := Aside0.mk (Kd.R_lower ho0 (wZ bW_)); have n1_ := Aside0.mk (wT bW_ hb); clear HB; have HO394 := n0_; have HB := n1_; clear n0_ n1_; (try clear hb); (try clear hb2); (try clear hk); (try clear hi); (try clear ho0); obtain ⟨Ao5, co5, eo5⟩ := Kd.R_slice HO394.out; subst eo5))
 go_loopg [5, 15] k (fun kq v5 v15 w' => ∃ (x5_1 : List (S33)) (x15_1 : Int), v15 = .int .i64 x15_1 ∧ Aside0 (compact_Inverse.l0 kq l1 x5_1 t392 (t392.length : Int) x15_1 = some r) ∧ Aside0 (kq ≤ k) ∧ Aside0 (Kd.R k33 33 w' w.heap.size (fun _ => True) v5 x5_1) ∧ Aside0 (Kd.R Kd.string 9 w' w.heap.size (fun _ => True) (.slice Ao5 t392.length co5) t392) ∧ Aside0 (Below w.heap.size w w'))
 case atStart => exact ⟨(([] : List (S33))), (0), (by first | rfl | (simp; done) | (simp [*]; done)), H', ⟨Nat.le_refl _⟩, ⟨by first | exact Kd.R_nil _ _ _ _ _ | exact Kd.N_nil _ _ _ _ _ | exact Kd.V_nil _ _ _ _ _ | exact Kd.Q_nil _ _ _ _ _ | exact Kd.S_nil _ _ _ _ _⟩, ⟨by (with_reducible repeat (first | apply Kd.R_alloc | apply Kd.R_drewN | apply Kd.R_drew)); exact HO394.out⟩, ⟨by repeat (first | (with_reducible first | exact HB.out | apply wA | apply wN | apply w1) | exact HB.out)⟩⟩
 case round =>
  clear H'
  try clear c1
  try clear p2
  try clear c3
  try clear c4
  obtain ⟨x5_1, x15_1, rfl, HA, HK1, HO_5, HO_13, HB⟩ := hrel
  cases gk with
  | zero => exact absurd HA.out (by simp [compact_Inverse.l0])
  | succ k1 =>
   have H := HA.out
   clear HA
   simp only [compact_Inverse.l0] at H
   by_cases c6 : x15_1 < (t392.length : Int)
   ·rw [if_pos c6] at H
    have c6b0 : decide (x15_1 < (t392.length : Int)) = true := decide_eq_true c6
    clear c6
    by_cases c7 : 0 ≤ x15_1
    ·rw [if_pos c7] at H
     have c7b0 : decide (0 ≤ x15_1) = true := decide_eq_true c7
     clear c7
     by_cases c8 : x15_1 < (t392.length : Int)
     ·rw [if_pos c8] at H
      have c8b0 : decide (x15_1 < (t392.length : Int)) = true := decide_eq_true c8
      clear c8
      replace H := Option.bind_eq_some_iff.mp H
      obtain ⟨⟨t397, t398⟩, A90, H⟩ := H
      replace H : (if t398 = true then (if x5_1.length < 1954687338268 then (compact_Inverse.l0 k1 l1 (x5_1 ++ [(⟨1, 0, rdOf ByteArray.empty t392 x15_1, (⟨#[]⟩ : BA), t397, 0⟩ : S33)]) t392 (t392.length : Int) (wrap64 (x15_1 + 1))) else (none)) else (if x5_1.length < 1954687338268 then (compact_Inverse.l0 k1 l1 (x5_1 ++ [(⟨2, 0, rdOf ByteArray.empty t392 x15_1, (⟨#[]⟩ : BA), (⟨#[]⟩ : BA), 0⟩ : S33)]) t392 (t392.length : Int) (wrap64 (x15_1 + 1))) else (none))) = some r := H
      have A9 := Aside0.mk A90
      clear A90
      by_cases c10 : t398 = true
      ·subst c10
       have H1 : (if x5_1.length < 1954687338268 then (compact_Inverse.l0 k1 l1 (x5_1 ++ [(⟨1, 0, rdOf ByteArray.empty t392 x15_1, (⟨#[]⟩ : BA), t397, 0⟩ : S33)]) t392 (t392.length : Int) (wrap64 (x15_1 + 1))) else (none)) = some r := by rw [if_pos rfl] at H; exact H
       clear H
       have H := H1
       clear H1
       by_cases c11 : x5_1.length < 1954687338268
       ·rw [if_pos c11] at H
        have LMc11 := Aside0.mk c11
        clear c11
        obtain ⟨y399, hy399⟩ : ∃ y_ : List (S33), y_ = (x5_1 ++ [(⟨1, 0, rdOf ByteArray.empty t392 x15_1, (⟨#[]⟩ : BA), t397, 0⟩ : S33)]) := ⟨_, rfl⟩
        replace H : (compact_Inverse.l0 k1 l1 y399 t392 (t392.length : Int) (wrap64 (x15_1 + 1))) = some r := by first | (rw [hy399]; with_reducible exact H) | (have H2_ := (Option.bind_some _ _).symm.trans H; rw [hy399]; with_reducible exact H2_) | (have H2_ := (Option.bind_some _ _).symm.trans H; with_reducible exact H2_) | with_reducible exact H | (rw [hy399]; exact H) | exact H
        have Ny399 := Aside0.mk hy399
        clear hy399
        have H' := Aside0.mk H
        clear H
        have p395 : 0 ≤ (x15_1 : Int) := of_decide_eq_true (by first | (with_reducible assumption) | assumption)
        have q395 : x15_1 < (t392.length : Int) := of_decide_eq_true (by first | (with_reducible assumption) | assumption)
        obtain ⟨ad395, e395, hx395_0⟩ := Kd.at_string (Kd.R_reads' HO_13.out).2.2 x15_1 p395 q395
        cases e395
        replace p395 := eq_true p395
        replace q395 := eq_true q395
        go_wp2_with (first | ((with_reducible refine gate_dst (N := 8) rfl ?_); refine box_event ?hg (N := 8) ?hd (cs := #[.int .u8 0, .int .i64 0, .string (⟨#[]⟩ : BA), .string (⟨#[]⟩ : BA), .string (⟨#[]⟩ : BA), .int .u64 0]) (t := 33) ?hr ?_; (case hd => rfl); (case hg => rfl); (case hr => first | (go_simp; done) | (go_simp; rfl)); intro gb396 hg w12 hbox hb; have n0_ := Aside0.mk (Kd.R_below (Kd.R_elderB (kR_ HO_5.out) gb396 (Nat.le_of_eq hg.symm)) hb); have n1_ := Aside0.mk (Kd.R_below (kR_ HO_13.out) hb); have n2_ := Aside0.mk (wT bW_ hb); have n3_ := Aside0.mk (hbox); have n4_ := Aside0.mk ((by rw [hg]; exact (wZ bW_) : w.heap.size ≤ gb396)); have n5_ := n4_; clear HO_5; clear HO_13; clear HB; have HO_5 := n0_; have HO_13 := n1_; have HB := n2_; have BK396 := n3_; have GW396 := n4_; have GE396 := n5_; clear n0_ n1_ n2_ n3_ n4_ n5_; clear hb hbox hg; have hcz13_0 : w12.cell? ⟨gb396, 0, none⟩ = some (.int .u8 0) := (bC BK396.out 0).trans rfl; have hcz13_1 : w12.cell? ⟨gb396, 1, none⟩ = some (.int .i64 0) := (bC BK396.out 1).trans rfl; have hcz13_2 : w12.cell? ⟨gb396, 2, none⟩ = some (.string (⟨#[]⟩ : BA)) := (bC BK396.out 2).trans rfl; have hcz13_3 : w12.cell? ⟨gb396, 3, none⟩ = some (.string (⟨#[]⟩ : BA)) := (bC BK396.out 3).trans rfl; have hcz13_4 : w12.cell? ⟨gb396, 4, none⟩ = some (.string (⟨#[]⟩ : BA)) := (bC BK396.out 4).trans rfl; have hcz13_5 : w12.cell? ⟨gb396, 5, none⟩ = some (.int .u64 0) := (bC BK396.out 5).trans rfl; have hfz13_0 := bF BK396.out 0; have hfz13_1 := bF BK396.out 1; have hfz13_2 := bF BK396.out 2; have hfz13_3 := bF BK396.out 3; have hfz13_4 := bF BK396.out 4; have hfz13_5 := bF BK396.out 5) | ((with_reducible refine gate_callee (f := 35) rfl ?_); refine goesL_ (some 24) rfl rfl Try.func35 (by kernel_rfl) rfl #[.slice A1 l1.length c1, .string (rdOf ByteArray.empty t392 x15_1)] rfl mS_ ?_; (with_reducible refine (fold_Find.calls k1 _ _ l1 (rdOf ByteArray.empty t392 x15_1) t397 true _ ?side1 ?side2 A9.out).mono ?_); (case side1 => exact Kd.C_below HR1.out (by repeat (first | (with_reducible first | exact HB.out | apply wA | apply wN | apply w1 | refine wS ?_ GE396.out) | exact HB.out))); (case side2 => exact HC1.out); rintro e w14 ⟨rfl, hb⟩; refine ⟨_, rfl, ?_⟩; have n0_ := Aside0.mk (Kd.R_below (by (with_reducible repeat (first | apply Kd.R_alloc | apply Kd.R_drewN | apply Kd.R_drew)); exact (Kd.R_mono (Kd.R_far (p := ⟨gb396, 5, none⟩) (Kd.R_far (p := ⟨gb396, 4, none⟩) (Kd.R_far (p := ⟨gb396, 3, none⟩) (Kd.R_far (p := ⟨gb396, 2, none⟩) (Kd.R_far (p := ⟨gb396, 1, none⟩) (Kd.R_far (p := ⟨gb396, 0, none⟩) (Kd.R_mono HO_5.out (fun k_ hk => (⟨hk, hk.2⟩ : _ ∧ k_ ≠ gb396))) (fun _ hk => hk.2) (.int .u8 2)) (fun _ hk => hk.2) (.int .i64 0)) (fun _ hk => hk.2) (.string (rdOf ByteArray.empty t392 x15_1))) (fun _ hk => hk.2) (.string (⟨#[]⟩ : BA))) (fun _ hk => hk.2) (.string (⟨#[]⟩ : BA))) (fun _ hk => hk.2) (.int .u64 0)) (fun _ h_ => h_.1))) hb); have n1_ := Aside0.mk (Kd.R_below (by (with_reducible repeat (first | apply Kd.R_alloc | apply Kd.R_drewN | apply Kd.R_drew)); exact (Kd.R_mono (Kd.R_far (p := ⟨gb396, 5, none⟩) (Kd.R_far (p := ⟨gb396, 4, none⟩) (Kd.R_far (p := ⟨gb396, 3, none⟩) (Kd.R_far (p := ⟨gb396, 2, none⟩) (Kd.R_far (p := ⟨gb396, 1, none⟩) (Kd.R_far (p := ⟨gb396, 0, none⟩) (Kd.R_types HO_13.out BK396.out (by decide)) (fun _ hk => hk.2) (.int .u8 2)) (fun _ hk => hk.2) (.int .i64 0)) (fun _ hk => hk.2) (.string (rdOf ByteArray.empty t392 x15_1))) (fun _ hk => hk.2) (.string (⟨#[]⟩ : BA))) (fun _ hk => hk.2) (.string (⟨#[]⟩ : BA))) (fun _ hk => hk.2) (.int .u64 0)) (fun _ h_ => h_.1))) hb); have n2_ := Aside0.mk (bB (g := gb396) (o := .cells #[.int .u8 2, .int .i64 0, .string (rdOf ByteArray.empty t392 x15_1), .string (⟨#[]⟩ : BA), .string (⟨#[]⟩ : BA), .int .u64 0] 33 (0, 0)) (by (with_reducible repeat (first | refine bN ?_ _ | refine bD ?_ | refine bA ?_ _)); refine bP (cs := #[.int .u8 2, .int .i64 0, .string (rdOf ByteArray.empty t392 x15_1), .string (⟨#[]⟩ : BA), .string (⟨#[]⟩ : BA), .int .u64 0]) ?_ 5 _ rfl; (with_reducible repeat (first | refine bN ?_ _ | refine bD ?_ | refine bA ?_ _)); refine bP (cs := #[.int .u8 2, .int .i64 0, .string (rdOf ByteArray.empty t392 x15_1), .string (⟨#[]⟩ : BA), .string (⟨#[]⟩ : BA), .int .u64 0]) ?_ 4 _ rfl; (with_reducible repeat (first | refine bN ?_ _ | refine bD ?_ | refine bA ?_ _)); refine bP (cs := #[.int .u8 2, .int .i64 0, .string (rdOf ByteArray.empty t392 x15_1), .string (⟨#[]⟩ : BA), .string (⟨#[]⟩ : BA), .int .u64 0]) ?_ 3 _ rfl; (with_reducible repeat (first | refine bN ?_ _ | refine bD ?_ | refine bA ?_ _)); refine bP (cs := #[.int .u8 2, .int .i64 0, .string (⟨#[]⟩ : BA), .string (⟨#[]⟩ : BA), .string (⟨#[]⟩ : BA), .int .u64 0]) ?_ 2 _ rfl; (with_reducible repeat (first | refine bN ?_ _ | refine bD ?_ | refine bA ?_ _)); refine bP (cs := #[.int .u8 2, .int .i64 0, .string (⟨#[]⟩ : BA), .string (⟨#[]⟩ : BA), .string (⟨#[]⟩ : BA), .int .u64 0]) ?_ 1 _ rfl; (with_reducible repeat (first | refine bN ?_ _ | refine bD ?_ | refine bA ?_ _)); refine bP (cs := #[.int .u8 0, .int .i64 0, .string (⟨#[]⟩ : BA), .string (⟨#[]⟩ : BA), .string (⟨#[]⟩ : BA), .int .u64 0]) ?_ 0 _ rfl; (with_reducible repeat (first | refine bN ?_ _ | refine bD ?_ | refine bA ?_ _)); exact BK396.out) hb); have n3_ := Aside0.mk (wT (by repeat (first | (with_reducible first | exact HB.out | apply wA | apply wN | apply w1 | refine wS ?_ GE396.out) | exact HB.out)) hb); clear HO_5; clear HO_13; clear BK396; clear HB; have HO_5 := n0_; have HO_13 := n1_; have BK396 := n2_; have HB := n3_; clear n0_ n1_ n2_ n3_; (try clear hb); (try clear hb2); (try clear hk); (try clear hi); have hcz15_0 : w14.cell? ⟨gb396, 0, none⟩ = some (.int .u8 2) := (bC BK396.out 0).trans rfl; have hcz15_1 : w14.cell? ⟨gb396, 1, none⟩ = some (.int .i64 0) := (bC BK396.out 1).trans rfl; have hcz15_2 : w14.cell? ⟨gb396, 2, none⟩ = some (.string (rdOf ByteArray.empty t392 x15_1)) := (bC BK396.out 2).trans rfl; have hcz15_3 : w14.cell? ⟨gb396, 3, none⟩ = some (.string (⟨#[]⟩ : BA)) := (bC BK396.out 3).trans rfl; have hcz15_4 : w14.cell? ⟨gb396, 4, none⟩ = some (.string (⟨#[]⟩ : BA)) := (bC BK396.out 4).trans rfl; have hcz15_5 : w14.cell? ⟨gb396, 5, none⟩ = some (.int .u64 0) := (bC BK396.out 5).trans rfl; have hfz15_0 := bF BK396.out 0; have hfz15_1 := bF BK396.out 1; have hfz15_2 := bF BK396.out 2; have hfz15_3 := bF BK396.out 3; have hfz15_4 := bF BK396.out 4; have hfz15_5 := bF BK396.out 5) | ((with_reducible refine gate_builtin (b := .append) (xs := #[.tmp 31, .tmp 33]) rfl ?_); at_builtin; refine Kd.R_append k33 (w0 := w) w.heap.size rfl (.tmp 31) (.tmp 33) 22 33 (.agg #[(.int .u8 0), (.int .i64 0), (.string ⟨#[]⟩), (.string ⟨#[]⟩), (.string ⟨#[]⟩), (.int .u64 0)]) 72 rfl Try.underlying22 info33 rfl (by decide) (by omega) u5 x5_1 (⟨1, 0, rdOf ByteArray.empty t392 x15_1, (⟨#[]⟩ : BA), t397, 0⟩ : S33) [.int .u8 1, .int .i64 0, .string (rdOf ByteArray.empty t392 x15_1), .string (⟨#[]⟩ : BA), .string t397, .int .u64 0] (fun k_ => k_ ≠ gb396) (fun _ => False) rfl (by first | (go_simp; done) | (go_simp; rfl)) ?aP (fun _ hk => hk.elim) ?aF ?aO ?aB ?aS ?aL ?_; (case aP => exact k33_mkM _ _ _ (⟨1, 0, rdOf ByteArray.empty t392 x15_1, (⟨#[]⟩ : BA), t397, 0⟩ : S33)); (case aB => exact (by repeat (first | (with_reducible first | exact HB.out | apply wA | apply wN | apply w1 | refine wS ?_ GE396.out) | exact HB.out))); (case aF => exact (fun k_ hk => Kd.freshB (g := gb396) (o := .cells #[.int .u8 1, .int .i64 0, .string (rdOf ByteArray.empty t392 x15_1), .string (⟨#[]⟩ : BA), .string t397, .int .u64 0] 33 (0, 0)) (by (with_reducible repeat (first | refine bN ?_ _ | refine bD ?_ | refine bA ?_ _)); refine bP (cs := #[.int .u8 1, .int .i64 0, .string (rdOf ByteArray.empty t392 x15_1), .string (⟨#[]⟩ : BA), .string (⟨#[]⟩ : BA), .int .u64 0]) ?_ 4 _ rfl; (with_reducible repeat (first | refine bN ?_ _ | refine bD ?_ | refine bA ?_ _)); refine bP (cs := #[.int .u8 2, .int .i64 0, .string (rdOf ByteArray.empty t392 x15_1), .string (⟨#[]⟩ : BA), .string (⟨#[]⟩ : BA), .int .u64 0]) ?_ 0 _ rfl; (with_reducible repeat (first | refine bN ?_ _ | refine bD ?_ | refine bA ?_ _)); exact BK396.out) k_ hk)); (case aO => exact (by (with_reducible repeat (first | apply Kd.R_alloc | apply Kd.R_drewN | apply Kd.R_drew)); exact Kd.R_mono (Kd.R_far (p := ⟨gb396, 4, none⟩) (Kd.R_far (p := ⟨gb396, 0, none⟩) (Kd.R_mono HO_5.out (fun k_ hk => (⟨hk, hk.2⟩ : _ ∧ k_ ≠ gb396))) (fun _ hk => hk.2) (.int .u8 1)) (fun _ hk => hk.2) (.string t397)) (fun _ hk => hk.1.2))); (case aS => exact (wZ (by repeat (first | (with_reducible first | exact HB.out | apply wA | apply wN | apply w1 | refine wS ?_ GE396.out) | exact HB.out)))); (case aL => have := LMc11.out; omega); intro v400 w16 ho hb hg hat; rw [← Ny399.out] at ho; have n0_ := Aside0.mk (Kd.R_over' (by (with_reducible repeat (first | apply Kd.R_alloc | apply Kd.R_drewN | apply Kd.R_drew)); exact (Kd.R_mono (Kd.R_far (p := ⟨gb396, 4, none⟩) (Kd.R_far (p := ⟨gb396, 0, none⟩) (Kd.R_types HO_13.out BK396.out (by decide)) (fun _ hk => hk.2) (.int .u8 1)) (fun _ hk => hk.2) (.string t397)) (fun _ h_ => h_.1))) (Kd.R_typed (by (with_reducible repeat (first | apply Kd.R_alloc | apply Kd.R_drewN | apply Kd.R_drew)); exact (Kd.R_mono (Kd.R_far (p := ⟨gb396, 4, none⟩) (Kd.R_far (p := ⟨gb396, 0, none⟩) (Kd.R_mono HO_5.out (fun k_ hk => (⟨hk, hk.2⟩ : _ ∧ k_ ≠ gb396))) (fun _ hk => hk.2) (.int .u8 1)) (fun _ hk => hk.2) (.string t397)) (fun _ h_ => h_.1)))) (by decide) hg); have n1_ := Aside0.mk (blk_grown (g := gb396) (o := .cells #[.int .u8 1, .int .i64 0, .string (rdOf ByteArray.empty t392 x15_1), .string (⟨#[]⟩ : BA), .string t397, .int .u64 0] 33 (0, 0)) (by (with_reducible repeat (first | refine bN ?_ _ | refine bD ?_ | refine bA ?_ _)); refine bP (cs := #[.int .u8 1, .int .i64 0, .string (rdOf ByteArray.empty t392 x15_1), .string (⟨#[]⟩ : BA), .string (⟨#[]⟩ : BA), .int .u64 0]) ?_ 4 _ rfl; (with_reducible repeat (first | refine bN ?_ _ | refine bD ?_ | refine bA ?_ _)); refine bP (cs := #[.int .u8 2, .int .i64 0, .string (rdOf ByteArray.empty t392 x15_1), .string (⟨#[]⟩ : BA), .string (⟨#[]⟩ : BA), .int .u64 0]) ?_ 0 _ rfl; (with_reducible repeat (first | refine bN ?_ _ | refine bD ?_ | refine bA ?_ _)); exact BK396.out) hg (Kd.R_away HO_5.out (fun _ hk => hk.2))); have n2_ := Aside0.mk (hb); have n3_ := Aside0.mk (ho); clear HO_13; clear BK396; clear HB; clear HO_5; have HO_13 := n0_; have BK396 := n1_; have HB := n2_; have HO401 := n3_; clear n0_ n1_ n2_ n3_; clear ho hb hg hat))
        go_roundg k1
        case measure => have := HK1.out; omega
        case rel => exact ⟨(y399), (wrap64 (x15_1 + 1)), (by first | rfl | (simp; done) | (simp [*]; done)), H', ⟨by have := HK1.out; omega⟩, ⟨by (with_reducible repeat (first | apply Kd.R_alloc | apply Kd.R_drewN | apply Kd.R_drew)); exact Kd.R_mono HO401.out (fun _ hk => trivial)⟩, ⟨by (with_reducible repeat (first | apply Kd.R_alloc | apply Kd.R_drewN | apply Kd.R_drew)); exact HO_13.out⟩, ⟨by repeat (first | (with_reducible first | exact HB.out | apply wA | apply wN | apply w1 | refine wS ?_ GE396.out) | exact HB.out)⟩⟩
       ·rw [if_neg c11] at H
        exact absurd H (by simp)
      ·replace c10 := Bool.eq_false_iff.mpr c10
       subst c10
       have H1 : (if x5_1.length < 1954687338268 then (compact_Inverse.l0 k1 l1 (x5_1 ++ [(⟨2, 0, rdOf ByteArray.empty t392 x15_1, (⟨#[]⟩ : BA), (⟨#[]⟩ : BA), 0⟩ : S33)]) t392 (t392.length : Int) (wrap64 (x15_1 + 1))) else (none)) = some r := by rw [if_neg (show ¬ (false = true) by decide)] at H; exact H
       clear H
       have H := H1
       clear H1
       by_cases c17 : x5_1.length < 1954687338268
       ·rw [if_pos c17] at H
        have LMc17 := Aside0.mk c17
        clear c17
        obtain ⟨y402, hy402⟩ : ∃ y_ : List (S33), y_ = (x5_1 ++ [(⟨2, 0, rdOf ByteArray.empty t392 x15_1, (⟨#[]⟩ : BA), (⟨#[]⟩ : BA), 0⟩ : S33)]) := ⟨_, rfl⟩
        replace H : (compact_Inverse.l0 k1 l1 y402 t392 (t392.length : Int) (wrap64 (x15_1 + 1))) = some r := by first | (rw [hy402]; with_reducible exact H) | (have H2_ := (Option.bind_some _ _).symm.trans H; rw [hy402]; with_reducible exact H2_) | (have H2_ := (Option.bind_some _ _).symm.trans H; with_reducible exact H2_) | with_reducible exact H | (rw [hy402]; exact H) | exact H
        have Ny402 := Aside0.mk hy402
        clear hy402
        have H' := Aside0.mk H
        clear H
        have p395 : 0 ≤ (x15_1 : Int) := of_decide_eq_true (by first | (with_reducible assumption) | assumption)
        have q395 : x15_1 < (t392.length : Int) := of_decide_eq_true (by first | (with_reducible assumption) | assumption)
        obtain ⟨ad395, e395, hx395_0⟩ := Kd.at_string (Kd.R_reads' HO_13.out).2.2 x15_1 p395 q395
        cases e395
        replace p395 := eq_true p395
        replace q395 := eq_true q395
        go_wp2_with (first | ((with_reducible refine gate_dst (N := 8) rfl ?_); refine box_event ?hg (N := 8) ?hd (cs := #[.int .u8 0, .int .i64 0, .string (⟨#[]⟩ : BA), .string (⟨#[]⟩ : BA), .string (⟨#[]⟩ : BA), .int .u64 0]) (t := 33) ?hr ?_; (case hd => rfl); (case hg => rfl); (case hr => first | (go_simp; done) | (go_simp; rfl)); intro gb396 hg w18 hbox hb; have n0_ := Aside0.mk (Kd.R_below (Kd.R_elderB (kR_ HO_5.out) gb396 (Nat.le_of_eq hg.symm)) hb); have n1_ := Aside0.mk (Kd.R_below (kR_ HO_13.out) hb); have n2_ := Aside0.mk (wT bW_ hb); have n3_ := Aside0.mk (hbox); have n4_ := Aside0.mk ((by rw [hg]; exact (wZ bW_) : w.heap.size ≤ gb396)); have n5_ := n4_; clear HO_5; clear HO_13; clear HB; have HO_5 := n0_; have HO_13 := n1_; have HB := n2_; have BK396 := n3_; have GW396 := n4_; have GE396 := n5_; clear n0_ n1_ n2_ n3_ n4_ n5_; clear hb hbox hg; have hcz19_0 : w18.cell? ⟨gb396, 0, none⟩ = some (.int .u8 0) := (bC BK396.out 0).trans rfl; have hcz19_1 : w18.cell? ⟨gb396, 1, none⟩ = some (.int .i64 0) := (bC BK396.out 1).trans rfl; have hcz19_2 : w18.cell? ⟨gb396, 2, none⟩ = some (.string (⟨#[]⟩ : BA)) := (bC BK396.out 2).trans rfl; have hcz19_3 : w18.cell? ⟨gb396, 3, none⟩ = some (.string (⟨#[]⟩ : BA)) := (bC BK396.out 3).trans rfl; have hcz19_4 : w18.cell? ⟨gb396, 4, none⟩ = some (.string (⟨#[]⟩ : BA)) := (bC BK396.out 4).trans rfl; have hcz19_5 : w18.cell? ⟨gb396, 5, none⟩ = some (.int .u64 0) := (bC BK396.out 5).trans rfl; have hfz19_0 := bF BK396.out 0; have hfz19_1 := bF BK396.out 1; have hfz19_2 := bF BK396.out 2; have hfz19_3 := bF BK396.out 3; have hfz19_4 := bF BK396.out 4; have hfz19_5 := bF BK396.out 5) | ((with_reducible refine gate_callee (f := 35) rfl ?_); refine goesL_ (some 24) rfl rfl Try.func35 (by kernel_rfl) rfl #[.slice A1 l1.length c1, .string (rdOf ByteArray.empty t392 x15_1)] rfl mS_ ?_; (with_reducible refine (fold_Find.calls k1 _ _ l1 (rdOf ByteArray.empty t392 x15_1) t397 false _ ?side1 ?side2 A9.out).mono ?_); (case side1 => exact Kd.C_below HR1.out (by repeat (first | (with_reducible first | exact HB.out | apply wA | apply wN | apply w1 | refine wS ?_ GE396.out) | exact HB.out))); (case side2 => exact HC1.out); rintro e w20 ⟨rfl, hb⟩; refine ⟨_, rfl, ?_⟩; have n0_ := Aside0.mk (Kd.R_below (by (with_reducible repeat (first | apply Kd.R_alloc | apply Kd.R_drewN | apply Kd.R_drew)); exact (Kd.R_mono (Kd.R_far (p := ⟨gb396, 5, none⟩) (Kd.R_far (p := ⟨gb396, 4, none⟩) (Kd.R_far (p := ⟨gb396, 3, none⟩) (Kd.R_far (p := ⟨gb396, 2, none⟩) (Kd.R_far (p := ⟨gb396, 1, none⟩) (Kd.R_far (p := ⟨gb396, 0, none⟩) (Kd.R_mono HO_5.out (fun k_ hk => (⟨hk, hk.2⟩ : _ ∧ k_ ≠ gb396))) (fun _ hk => hk.2) (.int .u8 2)) (fun _ hk => hk.2) (.int .i64 0)) (fun _ hk => hk.2) (.string (rdOf ByteArray.empty t392 x15_1))) (fun _ hk => hk.2) (.string (⟨#[]⟩ : BA))) (fun _ hk => hk.2) (.string (⟨#[]⟩ : BA))) (fun _ hk => hk.2) (.int .u64 0)) (fun _ h_ => h_.1))) hb); have n1_ := Aside0.mk (Kd.R_below (by (with_reducible repeat (first | apply Kd.R_alloc | apply Kd.R_drewN | apply Kd.R_drew)); exact (Kd.R_mono (Kd.R_far (p := ⟨gb396, 5, none⟩) (Kd.R_far (p := ⟨gb396, 4, none⟩) (Kd.R_far (p := ⟨gb396, 3, none⟩) (Kd.R_far (p := ⟨gb396, 2, none⟩) (Kd.R_far (p := ⟨gb396, 1, none⟩) (Kd.R_far (p := ⟨gb396, 0, none⟩) (Kd.R_types HO_13.out BK396.out (by decide)) (fun _ hk => hk.2) (.int .u8 2)) (fun _ hk => hk.2) (.int .i64 0)) (fun _ hk => hk.2) (.string (rdOf ByteArray.empty t392 x15_1))) (fun _ hk => hk.2) (.string (⟨#[]⟩ : BA))) (fun _ hk => hk.2) (.string (⟨#[]⟩ : BA))) (fun _ hk => hk.2) (.int .u64 0)) (fun _ h_ => h_.1))) hb); have n2_ := Aside0.mk (bB (g := gb396) (o := .cells #[.int .u8 2, .int .i64 0, .string (rdOf ByteArray.empty t392 x15_1), .string (⟨#[]⟩ : BA), .string (⟨#[]⟩ : BA), .int .u64 0] 33 (0, 0)) (by (with_reducible repeat (first | refine bN ?_ _ | refine bD ?_ | refine bA ?_ _)); refine bP (cs := #[.int .u8 2, .int .i64 0, .string (rdOf ByteArray.empty t392 x15_1), .string (⟨#[]⟩ : BA), .string (⟨#[]⟩ : BA), .int .u64 0]) ?_ 5 _ rfl; (with_reducible repeat (first | refine bN ?_ _ | refine bD ?_ | refine bA ?_ _)); refine bP (cs := #[.int .u8 2, .int .i64 0, .string (rdOf ByteArray.empty t392 x15_1), .string (⟨#[]⟩ : BA), .string (⟨#[]⟩ : BA), .int .u64 0]) ?_ 4 _ rfl; (with_reducible repeat (first | refine bN ?_ _ | refine bD ?_ | refine bA ?_ _)); refine bP (cs := #[.int .u8 2, .int .i64 0, .string (rdOf ByteArray.empty t392 x15_1), .string (⟨#[]⟩ : BA), .string (⟨#[]⟩ : BA), .int .u64 0]) ?_ 3 _ rfl; (with_reducible repeat (first | refine bN ?_ _ | refine bD ?_ | refine bA ?_ _)); refine bP (cs := #[.int .u8 2, .int .i64 0, .string (⟨#[]⟩ : BA), .string (⟨#[]⟩ : BA), .string (⟨#[]⟩ : BA), .int .u64 0]) ?_ 2 _ rfl; (with_reducible repeat (first | refine bN ?_ _ | refine bD ?_ | refine bA ?_ _)); refine bP (cs := #[.int .u8 2, .int .i64 0, .string (⟨#[]⟩ : BA), .string (⟨#[]⟩ : BA), .string (⟨#[]⟩ : BA), .int .u64 0]) ?_ 1 _ rfl; (with_reducible repeat (first | refine bN ?_ _ | refine bD ?_ | refine bA ?_ _)); refine bP (cs := #[.int .u8 0, .int .i64 0, .string (⟨#[]⟩ : BA), .string (⟨#[]⟩ : BA), .string (⟨#[]⟩ : BA), .int .u64 0]) ?_ 0 _ rfl; (with_reducible repeat (first | refine bN ?_ _ | refine bD ?_ | refine bA ?_ _)); exact BK396.out) hb); have n3_ := Aside0.mk (wT (by repeat (first | (with_reducible first | exact HB.out | apply wA | apply wN | apply w1 | refine wS ?_ GE396.out) | exact HB.out)) hb); clear HO_5; clear HO_13; clear BK396; clear HB; have HO_5 := n0_; have HO_13 := n1_; have BK396 := n2_; have HB := n3_; clear n0_ n1_ n2_ n3_; (try clear hb); (try clear hb2); (try clear hk); (try clear hi); have hcz21_0 : w20.cell? ⟨gb396, 0, none⟩ = some (.int .u8 2) := (bC BK396.out 0).trans rfl; have hcz21_1 : w20.cell? ⟨gb396, 1, none⟩ = some (.int .i64 0) := (bC BK396.out 1).trans rfl; have hcz21_2 : w20.cell? ⟨gb396, 2, none⟩ = some (.string (rdOf ByteArray.empty t392 x15_1)) := (bC BK396.out 2).trans rfl; have hcz21_3 : w20.cell? ⟨gb396, 3, none⟩ = some (.string (⟨#[]⟩ : BA)) := (bC BK396.out 3).trans rfl; have hcz21_4 : w20.cell? ⟨gb396, 4, none⟩ = some (.string (⟨#[]⟩ : BA)) := (bC BK396.out 4).trans rfl; have hcz21_5 : w20.cell? ⟨gb396, 5, none⟩ = some (.int .u64 0) := (bC BK396.out 5).trans rfl; have hfz21_0 := bF BK396.out 0; have hfz21_1 := bF BK396.out 1; have hfz21_2 := bF BK396.out 2; have hfz21_3 := bF BK396.out 3; have hfz21_4 := bF BK396.out 4; have hfz21_5 := bF BK396.out 5) | ((with_reducible refine gate_builtin (b := .append) (xs := #[.tmp 31, .tmp 33]) rfl ?_); at_builtin; refine Kd.R_append k33 (w0 := w) w.heap.size rfl (.tmp 31) (.tmp 33) 22 33 (.agg #[(.int .u8 0), (.int .i64 0), (.string ⟨#[]⟩), (.string ⟨#[]⟩), (.string ⟨#[]⟩), (.int .u64 0)]) 72 rfl Try.underlying22 info33 rfl (by decide) (by omega) u5 x5_1 (⟨2, 0, rdOf ByteArray.empty t392 x15_1, (⟨#[]⟩ : BA), (⟨#[]⟩ : BA), 0⟩ : S33) [.int .u8 2, .int .i64 0, .string (rdOf ByteArray.empty t392 x15_1), .string (⟨#[]⟩ : BA), .string (⟨#[]⟩ : BA), .int .u64 0] (fun k_ => k_ ≠ gb396) (fun _ => False) rfl rfl ?aP (fun _ hk => hk.elim) ?aF ?aO ?aB ?aS ?aL ?_; (case aP => exact k33_mkM _ _ _ (⟨2, 0, rdOf ByteArray.empty t392 x15_1, (⟨#[]⟩ : BA), (⟨#[]⟩ : BA), 0⟩ : S33)); (case aB => exact (by repeat (first | (with_reducible first | exact HB.out | apply wA | apply wN | apply w1 | refine wS ?_ GE396.out) | exact HB.out))); (case aF => exact (fun k_ hk => Kd.freshB (g := gb396) (o := .cells #[.int .u8 2, .int .i64 0, .string (rdOf ByteArray.empty t392 x15_1), .string (⟨#[]⟩ : BA), .string (⟨#[]⟩ : BA), .int .u64 0] 33 (0, 0)) (bX_ BK396.out) k_ hk)); (case aO => exact (by (with_reducible repeat (first | apply Kd.R_alloc | apply Kd.R_drewN | apply Kd.R_drew)); exact Kd.R_mono HO_5.out (fun _ hk => hk.2))); (case aS => exact (wZ (by repeat (first | (with_reducible first | exact HB.out | apply wA | apply wN | apply w1 | refine wS ?_ GE396.out) | exact HB.out)))); (case aL => have := LMc17.out; omega); intro v403 w22 ho hb hg hat; rw [← Ny402.out] at ho; have n0_ := Aside0.mk (Kd.R_over' (kR_ HO_13.out) (Kd.R_typed (kR_ HO_5.out)) (by decide) hg); have n1_ := Aside0.mk (blk_grown (g := gb396) (o := .cells #[.int .u8 2, .int .i64 0, .string (rdOf ByteArray.empty t392 x15_1), .string (⟨#[]⟩ : BA), .string (⟨#[]⟩ : BA), .int .u64 0] 33 (0, 0)) (bX_ BK396.out) hg (Kd.R_away HO_5.out (fun _ hk => hk.2))); have n2_ := Aside0.mk (hb); have n3_ := Aside0.mk (ho); clear HO_13; clear BK396; clear HB; clear HO_5; have HO_13 := n0_; have BK396 := n1_; have HB := n2_; have HO404 := n3_; clear n0_ n1_ n2_ n3_; clear ho hb hg hat))
        go_roundg k1
        case measure => have := HK1.out; omega
        case rel => exact ⟨(y402), (wrap64 (x15_1 + 1)), (by first | rfl | (simp; done) | (simp [*]; done)), H', ⟨by have := HK1.out; omega⟩, ⟨by (with_reducible repeat (first | apply Kd.R_alloc | apply Kd.R_drewN | apply Kd.R_drew)); exact Kd.R_mono HO404.out (fun _ hk => trivial)⟩, ⟨by (with_reducible repeat (first | apply Kd.R_alloc | apply Kd.R_drewN | apply Kd.R_drew)); exact HO_13.out⟩, ⟨by repeat (first | (with_reducible first | exact HB.out | apply wA | apply wN | apply w1 | refine wS ?_ GE396.out) | exact HB.out)⟩⟩
       ·rw [if_neg c17] at H
        exact absurd H (by simp)
     ·rw [if_neg c8] at H
      exact absurd H (by simp)
    ·rw [if_neg c7] at H
     exact absurd H (by simp)
   ·rw [if_neg c6] at H
    have c6b0 : decide (x15_1 < (t392.length : Int)) = false := decide_eq_false c6
    clear c6
    obtain rfl := Option.some.inj H
    go_wp2
    go_ret
    exact ⟨_, by first | rfl | (simp [errW_none, errW_some] <;> rfl) | (simp [*, errW_none, errW_some] <;> rfl), by (with_reducible repeat (first | apply Kd.R_alloc | apply Kd.R_drewN | apply Kd.R_drew)); exact HO_5.out, by repeat (first | (with_reducible first | exact HB.out | apply wA | apply wN | apply w1) | exact HB.out)⟩
def catchmentlaw06_CompactTurns.f (k : Nat) (l0 : List (S33)) (l1 : List (S55)) : Option (Bool) := (catchmentlaw06_few.f l0).bind fun t444 => (if 0 ≤ (mn (l1.length : Int) 40) then (if (mn (l1.length : Int) 40) ≤ (l1.length : Int) then ((some (l1.take ((mn (l1.length : Int) 40) : Int).toNat : List (S55))).bind fun y447 => ((compact_Inverse.f k t444 y447).bind fun t451 => ((catchmentref06_Inverse.f k t444 y447).bind fun t454 => ((catchmentref04_Same.f k t451 t454).bind fun t457 => (if t457 = true then ((catchmentref05_Rises.f k y447).bind fun t458 => (if t458 = true then ((catchmentlaw06_live.f k).bind fun t459 => (if t459 = true then ((some (([] : List (S33)) : List (S33))).bind fun y460 => (if y460.length + t444.length < 1954687338268 then ((some (y460 ++ t444 : List (S33))).bind fun y463 => (if y463.length + t451.length < 1954687338268 then ((catchmentref05_Entries.f k (y463 ++ t451) y447 (⟨#[]⟩ : BA) (⟨#[]⟩ : BA)).bind fun t469 => ((catchmentref05_Same.f k t469 y447).bind fun t472 => (some t472))) else (none))) else (none))) else (some false))) else ((catchmentlaw06_live.f k).bind fun t473 => (some t473)))) else (some false)))))) else (none)) else (none))
def catchmentlaw06_CompactTurns.T1 : Bool × List (List Nat × List Nat) := (true, [([], []), ([0], [0]), ([], []), ([], []), ([3], [3]), ([4], [4]), ([2, 5], [2, 5]), ([1, 1, 0, 1], [0, 1]), ([6, 7, 0, 1, 2, 3, 4, 5, 6, 7], [2, 3, 6])])
def catchmentlaw06_CompactTurns.B1 : List Nat := [0, 1, 0, 0, 8, 24, 60, 3, 255]
theorem catchmentlaw06_CompactTurns.tab1 : rtab .any (opsOf Try.f11 1) = catchmentlaw06_CompactTurns.T1 := by kernel_rfl
theorem catchmentlaw06_CompactTurns.bits1 : waitsOk catchmentlaw06_CompactTurns.T1.2 catchmentlaw06_CompactTurns.B1 = true := by kernel_rfl
set_option maxHeartbeats 8000000 in
set_option maxRecDepth 100000 in
theorem catchmentlaw06_CompactTurns.calls (k : Nat) (A0 : Option Addr) (c0 : Nat) (l0 : List (S33)) (A1 : Option Addr) (c1 : Nat) (l1 : List (S55)) (r : Bool) (w : World) (hr0 : Kd.C k33 w A0 l0.length l0) (hc0 : l0.length ≤ c0) (hr1 : Kd.C k55 w A1 l1.length l1) (hc1 : l1.length ≤ c1) (h : catchmentlaw06_CompactTurns.f k l0 l1 = some r) :
  Calls Try.prog 11 #[.slice A0 l0.length c0, .slice A1 l1.length c1] w fun e w' => e = .returned (.bool r) ∧ Below w.heap.size w w' := by
 have hu38 := Try.underlying38
 have HR0 := Aside0.mk hr0
 have HC0 := Aside0.mk hc0
 clear hr0 hc0
 have HR1 := Aside0.mk hr1
 have HC1 := Aside0.mk hc1
 clear hr1 hc1
 have HB := Aside0.mk (Below.refl w.heap.size w)
 have H : ((catchmentlaw06_few.f l0).bind fun t444 => (if 0 ≤ (mn (l1.length : Int) 40) then (if (mn (l1.length : Int) 40) ≤ (l1.length : Int) then ((some (l1.take ((mn (l1.length : Int) 40) : Int).toNat : List (S55))).bind fun y447 => ((compact_Inverse.f k t444 y447).bind fun t451 => ((catchmentref06_Inverse.f k t444 y447).bind fun t454 => ((catchmentref04_Same.f k t451 t454).bind fun t457 => (if t457 = true then ((catchmentref05_Rises.f k y447).bind fun t458 => (if t458 = true then ((catchmentlaw06_live.f k).bind fun t459 => (if t459 = true then ((some (([] : List (S33)) : List (S33))).bind fun y460 => (if y460.length + t444.length < 1954687338268 then ((some (y460 ++ t444 : List (S33))).bind fun y463 => (if y463.length + t451.length < 1954687338268 then ((catchmentref05_Entries.f k (y463 ++ t451) y447 (⟨#[]⟩ : BA) (⟨#[]⟩ : BA)).bind fun t469 => ((catchmentref05_Same.f k t469 y447).bind fun t472 => (some t472))) else (none))) else (none))) else (some false))) else ((catchmentlaw06_live.f k).bind fun t473 => (some t473)))) else (some false)))))) else (none)) else (none))) = some r := h
 clear h
 replace H := Option.bind_eq_some_iff.mp H
 obtain ⟨t444, A30, H⟩ := H
 replace H : (if 0 ≤ (mn (l1.length : Int) 40) then (if (mn (l1.length : Int) 40) ≤ (l1.length : Int) then ((some (l1.take ((mn (l1.length : Int) 40) : Int).toNat : List (S55))).bind fun y447 => ((compact_Inverse.f k t444 y447).bind fun t451 => ((catchmentref06_Inverse.f k t444 y447).bind fun t454 => ((catchmentref04_Same.f k t451 t454).bind fun t457 => (if t457 = true then ((catchmentref05_Rises.f k y447).bind fun t458 => (if t458 = true then ((catchmentlaw06_live.f k).bind fun t459 => (if t459 = true then ((some (([] : List (S33)) : List (S33))).bind fun y460 => (if y460.length + t444.length < 1954687338268 then ((some (y460 ++ t444 : List (S33))).bind fun y463 => (if y463.length + t451.length < 1954687338268 then ((catchmentref05_Entries.f k (y463 ++ t451) y447 (⟨#[]⟩ : BA) (⟨#[]⟩ : BA)).bind fun t469 => ((catchmentref05_Same.f k t469 y447).bind fun t472 => (some t472))) else (none))) else (none))) else (some false))) else ((catchmentlaw06_live.f k).bind fun t473 => (some t473)))) else (some false)))))) else (none)) else (none)) = some r := H
 have A3 := Aside0.mk A30
 clear A30
 obtain ⟨ji4, hji4⟩ : ∃ j_ : Int, (mn (l1.length : Int) 40) = j_ := ⟨_, rfl⟩
 replace H : (if 0 ≤ (ji4) then (if (ji4) ≤ (l1.length : Int) then ((some (l1.take ((ji4) : Int).toNat : List (S55))).bind fun y447 => ((compact_Inverse.f k t444 y447).bind fun t451 => ((catchmentref06_Inverse.f k t444 y447).bind fun t454 => ((catchmentref04_Same.f k t451 t454).bind fun t457 => (if t457 = true then ((catchmentref05_Rises.f k y447).bind fun t458 => (if t458 = true then ((catchmentlaw06_live.f k).bind fun t459 => (if t459 = true then ((some (([] : List (S33)) : List (S33))).bind fun y460 => (if y460.length + t444.length < 1954687338268 then ((some (y460 ++ t444 : List (S33))).bind fun y463 => (if y463.length + t451.length < 1954687338268 then ((catchmentref05_Entries.f k (y463 ++ t451) y447 (⟨#[]⟩ : BA) (⟨#[]⟩ : BA)).bind fun t469 => ((catchmentref05_Same.f k t469 y447).bind fun t472 => (some t472))) else (none))) else (none))) else (some false))) else ((catchmentlaw06_live.f k).bind fun t473 => (some t473)))) else (some false)))))) else (none)) else (none)) = some r := by first | (rw [hji4] at H; exact H) | (simp only [hji4] at H ⊢; exact H)
 (try rw [hji4] at A3)
 (try (have hji4h : ji4 ≤ 40 := by (rw [← hji4]; unfold mn; (repeat' split) <;> omega)))
 (try (have hji4g : ji4 ≤ 64 := by omega))
 (try (have hji4l : 0 ≤ ji4 := by (rw [← hji4]; unfold mn; (repeat' split) <;> omega)))
 (try (have hji4m : 0 ≤ ji4 := by omega))
 have hji4_ : (if 40 < (l1.length : Int) then 40 else (l1.length : Int)) = ji4 := hji4
 by_cases c5 : 0 ≤ (ji4)
 ·rw [if_pos c5] at H
  have c5b0 := eq_true c5
  have c5b1 : decide (0 ≤ (ji4)) = true := decide_eq_true c5
  clear c5
  by_cases c6 : (ji4) ≤ (l1.length : Int)
  ·rw [if_pos c6] at H
   have c6b0 := eq_true c6
   have c6b1 : decide ((ji4) ≤ (l1.length : Int)) = true := decide_eq_true c6
   clear c6
   obtain ⟨y447, hy447⟩ : ∃ y_ : List (S55), y_ = (l1.take ((ji4) : Int).toNat) := ⟨_, rfl⟩
   replace H : ((compact_Inverse.f k t444 y447).bind fun t451 => ((catchmentref06_Inverse.f k t444 y447).bind fun t454 => ((catchmentref04_Same.f k t451 t454).bind fun t457 => (if t457 = true then ((catchmentref05_Rises.f k y447).bind fun t458 => (if t458 = true then ((catchmentlaw06_live.f k).bind fun t459 => (if t459 = true then ((some (([] : List (S33)) : List (S33))).bind fun y460 => (if y460.length + t444.length < 1954687338268 then ((some (y460 ++ t444 : List (S33))).bind fun y463 => (if y463.length + t451.length < 1954687338268 then ((catchmentref05_Entries.f k (y463 ++ t451) y447 (⟨#[]⟩ : BA) (⟨#[]⟩ : BA)).bind fun t469 => ((catchmentref05_Same.f k t469 y447).bind fun t472 => (some t472))) else (none))) else (none))) else (some false))) else ((catchmentlaw06_live.f k).bind fun t473 => (some t473)))) else (some false))))) = some r := by first | (rw [hy447]; with_reducible exact H) | (have H2_ := (Option.bind_some _ _).symm.trans H; rw [hy447]; with_reducible exact H2_) | (have H2_ := (Option.bind_some _ _).symm.trans H; with_reducible exact H2_) | with_reducible exact H | (rw [hy447]; exact H) | exact H
   have Ny447 := Aside0.mk hy447
   clear hy447
   replace H := Option.bind_eq_some_iff.mp H
   obtain ⟨t451, A70, H⟩ := H
   replace H : ((catchmentref06_Inverse.f k t444 y447).bind fun t454 => ((catchmentref04_Same.f k t451 t454).bind fun t457 => (if t457 = true then ((catchmentref05_Rises.f k y447).bind fun t458 => (if t458 = true then ((catchmentlaw06_live.f k).bind fun t459 => (if t459 = true then ((some (([] : List (S33)) : List (S33))).bind fun y460 => (if y460.length + t444.length < 1954687338268 then ((some (y460 ++ t444 : List (S33))).bind fun y463 => (if y463.length + t451.length < 1954687338268 then ((catchmentref05_Entries.f k (y463 ++ t451) y447 (⟨#[]⟩ : BA) (⟨#[]⟩ : BA)).bind fun t469 => ((catchmentref05_Same.f k t469 y447).bind fun t472 => (some t472))) else (none))) else (none))) else (some false))) else ((catchmentlaw06_live.f k).bind fun t473 => (some t473)))) else (some false)))) = some r := H
   have A7 := Aside0.mk A70
   clear A70
   replace H := Option.bind_eq_some_iff.mp H
   obtain ⟨t454, A80, H⟩ := H
   replace H : ((catchmentref04_Same.f k t451 t454).bind fun t457 => (if t457 = true then ((catchmentref05_Rises.f k y447).bind fun t458 => (if t458 = true then ((catchmentlaw06_live.f k).bind fun t459 => (if t459 = true then ((some (([] : List (S33)) : List (S33))).bind fun y460 => (if y460.length + t444.length < 1954687338268 then ((some (y460 ++ t444 : List (S33))).bind fun y463 => (if y463.length + t451.length < 1954687338268 then ((catchmentref05_Entries.f k (y463 ++ t451) y447 (⟨#[]⟩ : BA) (⟨#[]⟩ : BA)).bind fun t469 => ((catchmentref05_Same.f k t469 y447).bind fun t472 => (some t472))) else (none))) else (none))) else (some false))) else ((catchmentlaw06_live.f k).bind fun t473 => (some t473)))) else (some false))) = some r := H
   have A8 := Aside0.mk A80
   clear A80
   replace H := Option.bind_eq_some_iff.mp H
   obtain ⟨t457, A90, H⟩ := H
   replace H : (if t457 = true then ((catchmentref05_Rises.f k y447).bind fun t458 => (if t458 = true then ((catchmentlaw06_live.f k).bind fun t459 => (if t459 = true then ((some (([] : List (S33)) : List (S33))).bind fun y460 => (if y460.length + t444.length < 1954687338268 then ((some (y460 ++ t444 : List (S33))).bind fun y463 => (if y463.length + t451.length < 1954687338268 then ((catchmentref05_Entries.f k (y463 ++ t451) y447 (⟨#[]⟩ : BA) (⟨#[]⟩ : BA)).bind fun t469 => ((catchmentref05_Same.f k t469 y447).bind fun t472 => (some t472))) else (none))) else (none))) else (some false))) else ((catchmentlaw06_live.f k).bind fun t473 => (some t473)))) else (some false)) = some r := H
   have A9 := Aside0.mk A90
   clear A90
   by_cases c10 : t457 = true
   ·subst c10
    have H1 : ((catchmentref05_Rises.f k y447).bind fun t458 => (if t458 = true then ((catchmentlaw06_live.f k).bind fun t459 => (if t459 = true then ((some (([] : List (S33)) : List (S33))).bind fun y460 => (if y460.length + t444.length < 1954687338268 then ((some (y460 ++ t444 : List (S33))).bind fun y463 => (if y463.length + t451.length < 1954687338268 then ((catchmentref05_Entries.f k (y463 ++ t451) y447 (⟨#[]⟩ : BA) (⟨#[]⟩ : BA)).bind fun t469 => ((catchmentref05_Same.f k t469 y447).bind fun t472 => (some t472))) else (none))) else (none))) else (some false))) else ((catchmentlaw06_live.f k).bind fun t473 => (some t473)))) = some r := by rw [if_pos rfl] at H; exact H
    clear H
    have H := H1
    clear H1
    replace H := Option.bind_eq_some_iff.mp H
    obtain ⟨t458, A110, H⟩ := H
    replace H : (if t458 = true then ((catchmentlaw06_live.f k).bind fun t459 => (if t459 = true then ((some (([] : List (S33)) : List (S33))).bind fun y460 => (if y460.length + t444.length < 1954687338268 then ((some (y460 ++ t444 : List (S33))).bind fun y463 => (if y463.length + t451.length < 1954687338268 then ((catchmentref05_Entries.f k (y463 ++ t451) y447 (⟨#[]⟩ : BA) (⟨#[]⟩ : BA)).bind fun t469 => ((catchmentref05_Same.f k t469 y447).bind fun t472 => (some t472))) else (none))) else (none))) else (some false))) else ((catchmentlaw06_live.f k).bind fun t473 => (some t473))) = some r := H
    have A11 := Aside0.mk A110
    clear A110
    by_cases c12 : t458 = true
    ·subst c12
     have H1 : ((catchmentlaw06_live.f k).bind fun t459 => (if t459 = true then ((some (([] : List (S33)) : List (S33))).bind fun y460 => (if y460.length + t444.length < 1954687338268 then ((some (y460 ++ t444 : List (S33))).bind fun y463 => (if y463.length + t451.length < 1954687338268 then ((catchmentref05_Entries.f k (y463 ++ t451) y447 (⟨#[]⟩ : BA) (⟨#[]⟩ : BA)).bind fun t469 => ((catchmentref05_Same.f k t469 y447).bind fun t472 => (some t472))) else (none))) else (none))) else (some false))) = some r := by rw [if_pos rfl] at H; exact H
     clear H
     have H := H1
     clear H1
     replace H := Option.bind_eq_some_iff.mp H
     obtain ⟨t459, A130, H⟩ := H
     replace H : (if t459 = true then ((some (([] : List (S33)) : List (S33))).bind fun y460 => (if y460.length + t444.length < 1954687338268 then ((some (y460 ++ t444 : List (S33))).bind fun y463 => (if y463.length + t451.length < 1954687338268 then ((catchmentref05_Entries.f k (y463 ++ t451) y447 (⟨#[]⟩ : BA) (⟨#[]⟩ : BA)).bind fun t469 => ((catchmentref05_Same.f k t469 y447).bind fun t472 => (some t472))) else (none))) else (none))) else (some false)) = some r := H
     have A13 := Aside0.mk A130
     clear A130
     by_cases c14 : t459 = true
     ·subst c14
      have H1 : ((some (([] : List (S33)) : List (S33))).bind fun y460 => (if y460.length + t444.length < 1954687338268 then ((some (y460 ++ t444 : List (S33))).bind fun y463 => (if y463.length + t451.length < 1954687338268 then ((catchmentref05_Entries.f k (y463 ++ t451) y447 (⟨#[]⟩ : BA) (⟨#[]⟩ : BA)).bind fun t469 => ((catchmentref05_Same.f k t469 y447).bind fun t472 => (some t472))) else (none))) else (none))) = some r := by rw [if_pos rfl] at H; exact H
      clear H
      have H := H1
      clear H1
      obtain ⟨y460, hy460⟩ : ∃ y_ : List (S33), y_ = (([] : List (S33))) := ⟨_, rfl⟩
      replace H : (if y460.length + t444.length < 1954687338268 then ((some (y460 ++ t444 : List (S33))).bind fun y463 => (if y463.length + t451.length < 1954687338268 then ((catchmentref05_Entries.f k (y463 ++ t451) y447 (⟨#[]⟩ : BA) (⟨#[]⟩ : BA)).bind fun t469 => ((catchmentref05_Same.f k t469 y447).bind fun t472 => (some t472))) else (none))) else (none)) = some r := by first | (rw [hy460]; with_reducible exact H) | (have H2_ := (Option.bind_some _ _).symm.trans H; rw [hy460]; with_reducible exact H2_) | (have H2_ := (Option.bind_some _ _).symm.trans H; with_reducible exact H2_) | with_reducible exact H | (rw [hy460]; exact H) | exact H
      have Ny460 := Aside0.mk hy460
      clear hy460
      by_cases c15 : y460.length + t444.length < 1954687338268
      ·rw [if_pos c15] at H
       have LMc15 := Aside0.mk c15
       clear c15
       obtain ⟨y463, hy463⟩ : ∃ y_ : List (S33), y_ = (y460 ++ t444) := ⟨_, rfl⟩
       replace H : (if y463.length + t451.length < 1954687338268 then ((catchmentref05_Entries.f k (y463 ++ t451) y447 (⟨#[]⟩ : BA) (⟨#[]⟩ : BA)).bind fun t469 => ((catchmentref05_Same.f k t469 y447).bind fun t472 => (some t472))) else (none)) = some r := by first | (rw [hy463]; with_reducible exact H) | (have H2_ := (Option.bind_some _ _).symm.trans H; rw [hy463]; with_reducible exact H2_) | (have H2_ := (Option.bind_some _ _).symm.trans H; with_reducible exact H2_) | with_reducible exact H | (rw [hy463]; exact H) | exact H
       have Ny463 := Aside0.mk hy463
       clear hy463
       by_cases c16 : y463.length + t451.length < 1954687338268
       ·rw [if_pos c16] at H
        have LMc16 := Aside0.mk c16
        clear c16
        obtain ⟨y466, hy466⟩ : ∃ y_ : List (S33), y_ = (y463 ++ t451) := ⟨_, rfl⟩
        replace H : ((catchmentref05_Entries.f k y466 y447 (⟨#[]⟩ : BA) (⟨#[]⟩ : BA)).bind fun t469 => ((catchmentref05_Same.f k t469 y447).bind fun t472 => (some t472))) = some r := by first | (rw [hy466]; with_reducible exact H) | (have H2_ := (Option.bind_some _ _).symm.trans H; rw [hy466]; with_reducible exact H2_) | (have H2_ := (Option.bind_some _ _).symm.trans H; with_reducible exact H2_) | with_reducible exact H | (rw [hy466]; exact H) | exact H
        have Ny466 := Aside0.mk hy466
        clear hy466
        replace H := Option.bind_eq_some_iff.mp H
        obtain ⟨t469, A170, H⟩ := H
        replace H : ((catchmentref05_Same.f k t469 y447).bind fun t472 => (some t472)) = some r := H
        have A17 := Aside0.mk A170
        clear A170
        replace H := Option.bind_eq_some_iff.mp H
        obtain ⟨t472, A180, H⟩ := H
        replace H : (some t472) = some r := H
        have A18 := Aside0.mk A180
        clear A180
        obtain rfl := Option.some.inj H
        go_enter Try.func11, Try.ntmps11
        try go_wp2
        have n0_ := Aside0.mk (w1 HB.out)
        clear HB
        have HB := n0_
        clear n0_
        have q20 : ((ji4) : Int) ≤ ((l1.length : Int) : Int) := of_decide_eq_true (by first | (with_reducible assumption) | assumption)
        obtain ⟨i020, hi020, _, hsz20, _⟩ := info_parts info55
        have hroom20 : l1.length ≤ c1 := HC1.out
        have hC20 : Kd.C k55 _ A1 l1.length l1 := HR1.out
        have hcut20 := cut_to (P := Try.prog) 36 55 .i64 Try.underlying36 hi020 A1 l1.length c1 (ji4) (of_decide_eq_true (by first | (with_reducible assumption) | assumption)) q20 hroom20
        have hr20 := Kd.C_take (m := ((ji4) : Int).toNat) hC20 (by omega)
        have hy20 : y447.length = ((ji4) : Int).toNat := (by rw [Ny447.out, mA4]; omega)
        rw [← Ny447.out] at hr20
        rw [← hy20] at hcut20
        have HR450 := Aside0.mk hr20
        have HC450 := Aside0.mk (show y447.length ≤ c1 from by omega)
        clear hr20 hC20 hroom20 hi020 hsz20
        have KY20 := Aside0.mk hy20
        clear hy20
        replace q20 := eq_true q20
        refine start_ (n := 9) (S := fun w' => True) (ds := []) #[ZZ,ZZ,ZZ,ZZ,ZZ,ZZ,ZZ,ZZ,ZZ] (by kernel_rfl) rfl rfl trivial (fun hHeld => ?_); refine with_tabW catchmentlaw06_CompactTurns.tab1 catchmentlaw06_CompactTurns.bits1 (fun HT_ HW_ => ?_)
        generalize w.drew = w19 at HB HR450 hHeld ⊢
        refine pure_ (i := 0) (N := some 6) (v := ?_) (a' := ?_) #[YY,ZZ,ZZ,ZZ,ZZ,ZZ,ZZ,ZZ,ZZ] rfl rfl (any_of HT_.out (by kernel_rfl)) (fun _ _ _ h => h) (Or.inl ⟨by rfl, ?_⟩) ?_ ?_
        rotate_left
        ·intro w'
         go_simp
         with_reducible rfl
        rotate_left
        ·simp only [Act.put, sA1, sA2, sA3, i64_w, i32_w]
         rfl
        refine pure_ (i := 2) (N := some 8) (v := ?_) (a' := ?_) #[YY,ZZ,YY,ZZ,ZZ,ZZ,ZZ,ZZ,ZZ] rfl rfl (any_of HT_.out (by kernel_rfl)) (fun _ _ _ h => h) (Or.inl ⟨by rfl, ?_⟩) ?_ ?_
        rotate_left
        ·intro w'
         go_simp
         with_reducible rfl
        rotate_left
        ·simp only [Act.put, sA1, sA2, sA3, i64_w, i32_w]
         rfl
        refine pure_ (i := 3) (N := some 9) (v := ?_) (a' := ?_) #[YY,ZZ,YY,YY,ZZ,ZZ,ZZ,ZZ,ZZ] rfl rfl (any_of HT_.out (by kernel_rfl)) (fun _ _ _ h => h) (Or.inl ⟨by rfl, ?_⟩) ?_ ?_
        rotate_left
        ·intro w'
         go_simp
         with_reducible rfl
        rotate_left
        ·simp only [Act.put, sA1, sA2, sA3, i64_w, i32_w]
         rfl
        refine pure_ (i := 4) (N := some 10) (v := ?_) (a' := ?_) #[YY,ZZ,YY,YY,YY,ZZ,ZZ,ZZ,ZZ] rfl rfl (any_of HT_.out (by kernel_rfl)) (fun _ _ _ h => h) (Or.inl ⟨by rfl, ?_⟩) ?_ ?_
        rotate_left
        ·intro w'
         go_simp
         with_reducible rfl
        rotate_left
        ·simp only [Act.put, sA1, sA2, sA3, i64_w, i32_w]
         rfl
        refine pure_ (i := 5) (N := some 11) (v := ?_) (a' := ?_) #[YY,ZZ,YY,YY,YY,YY,ZZ,ZZ,ZZ] rfl rfl (any_of HT_.out (by kernel_rfl)) (fun _ _ _ h => h) (Or.inl ⟨by rfl, ?_⟩) ?_ ?_
        rotate_left
        ·intro w'
         go_simp
         with_reducible rfl
        rotate_left
        ·simp only [Act.put, sA1, sA2, sA3, i64_w, i32_w]
         rfl
        refine pure_ (i := 6) (N := some 12) (v := ?_) (a' := ?_) #[YY,ZZ,YY,YY,YY,YY,YY,ZZ,ZZ] rfl rfl (any_of HT_.out (by kernel_rfl)) (fun _ _ _ h => h) (Or.inl ⟨by rfl, ?_⟩) ?_ ?_
        rotate_left
        ·intro w'
         go_simp
         with_reducible rfl
        rotate_left
        ·simp only [Act.put, sA1, sA2, sA3, i64_w, i32_w]
         rfl
        refine one_ (i := 1) (N := some 7) #[YY,YY,YY,YY,YY,YY,YY,ZZ,ZZ] rfl rfl (one_of HT_.out (by kernel_rfl)) (by decide) (fun K hK => ?_)
        refine goes_ Try.func12 (by kernel_rfl) rfl #[.slice A0 l0.length c0] (by rfl) rfl rfl mS_ ?_
        with_reducible refine (catchmentlaw06_few.calls (fun k_ => k_ < w.heap.size) _ _ l0 t444 _ ?side1 A3.out).mono ?_
        (case side1 => exact Kd.V_mk HC0.out (Kd.F_below (Kd.C_F k33_heap HR0.out) bW_))
        rintro e w21 ⟨v445, rfl, ho0, hb⟩
        refine ⟨_, rfl, ?_⟩
        have n0_ := Aside0.mk (Kd.V_lower (Kd.V_mono (ok' := fun k_ => True) ho0 (fun k_ hk_ => trivial)) (wZ bW_))
        have n1_ := Aside0.mk (wT bW_ hb)
        clear HB
        have HO446 := n0_
        have HB := n1_
        clear n0_ n1_
        (try clear hb)
        (try clear hb2)
        (try clear hk)
        (try clear hi)
        (try clear ho0)
        refine hK.out _ _ trivial (fun hHeld => ?_)
        clear hK K
        refine norm_ (a' := ?_) ?_ ?_
        rotate_left
        ·show Act.put _ (some 7) _ = _
         simp only [Act.put, sA1, sA2, sA3, i64_w, i32_w]
         rfl
        refine pure_ (i := 7) (N := some 0) (v := ?_) (a' := ?_) #[YY,YY,YY,YY,YY,YY,YY,YY,ZZ] rfl rfl (any_of HT_.out (by kernel_rfl)) (fun _ _ _ h => h) (Or.inl ⟨by rfl, ?_⟩) ?_ ?_
        rotate_left
        ·intro w'
         go_simp
         with_reducible rfl
        rotate_left
        ·simp only [Act.put, sA1, sA2, sA3, i64_w, i32_w]
         rfl
        refine pure_ (i := 8) (N := some 1) (v := ?_) (a' := ?_) #[YY,YY,YY,YY,YY,YY,YY,YY,YY] rfl rfl (any_of HT_.out (by kernel_rfl)) (fun _ _ _ h => h) (Or.inl ⟨by rfl, ?_⟩) ?_ ?_
        rotate_left
        ·intro w'
         go_simp
         with_reducible rfl
        rotate_left
        ·simp only [Act.put, sA1, sA2, sA3, i64_w, i32_w]
         rfl
        refine done_ (done_of HT_.out (by kernel_rfl)) ?_
        obtain ⟨Ao22, co22, eo22⟩ := Kd.V_slice HO446.out
        subst eo22
        try go_wp2_with (first | ((with_reducible refine gate_callee (f := 42) rfl ?_); refine goesL_ (some 15) rfl rfl Try.func42 (by kernel_rfl) rfl #[.slice Ao22 t444.length co22, .slice A1 y447.length c1] rfl mS_ ?_; (with_reducible refine (compact_Inverse.calls k _ _ t444 _ _ y447 t451 _ ?side1 ?side2 ?side3 ?side4 A7.out).mono ?_); (case side1 => repeat (first | exact (Kd.V_reads' HO446.out).2.2 | (with_reducible refine Kd.C_alloc ?_ _) | (with_reducible refine Kd.C_drewN ?_ _) | (with_reducible refine Kd.C_drew ?_))); (case side2 => exact (Kd.V_reads' HO446.out).2.1); (case side3 => repeat (first | exact (Kd.C_below HR450.out HB.out) | (with_reducible refine Kd.C_alloc ?_ _) | (with_reducible refine Kd.C_drewN ?_ _) | (with_reducible refine Kd.C_drew ?_))); (case side4 => exact HC450.out); rintro e w23 ⟨v452, rfl, ho0, hb⟩; refine ⟨_, rfl, ?_⟩; have n0_ := Aside0.mk (Kd.V_elder' (kV_ HO446.out) (Kd.R_base ho0) hb); have n1_ := Aside0.mk (Kd.R_lower ho0 (wZ bW_)); have n2_ := Aside0.mk (wT bW_ hb); clear HO446; clear HB; have HO446 := n0_; have HO453 := n1_; have HB := n2_; clear n0_ n1_ n2_; (try clear hb); (try clear hb2); (try clear hk); (try clear hi); (try clear ho0)) | ((with_reducible refine gate_callee (f := 44) rfl ?_); refine goesL_ (some 19) rfl rfl Try.func44 (by kernel_rfl) rfl #[.slice Ao22 t444.length co22, .slice A1 y447.length c1] rfl mS_ ?_; (with_reducible refine (catchmentref06_Inverse.calls k _ _ t444 _ _ y447 t454 _ ?side1 ?side2 ?side3 ?side4 A8.out).mono ?_); (case side1 => repeat (first | exact (Kd.V_reads' HO446.out).2.2 | (with_reducible refine Kd.C_alloc ?_ _) | (with_reducible refine Kd.C_drewN ?_ _) | (with_reducible refine Kd.C_drew ?_))); (case side2 => exact (Kd.V_reads' HO446.out).2.1); (case side3 => repeat (first | exact (Kd.C_below HR450.out HB.out) | (with_reducible refine Kd.C_alloc ?_ _) | (with_reducible refine Kd.C_drewN ?_ _) | (with_reducible refine Kd.C_drew ?_))); (case side4 => exact HC450.out); rintro e w24 ⟨v455, rfl, ho0, hb⟩; refine ⟨_, rfl, ?_⟩; have n0_ := Aside0.mk (Kd.V_elder' (kV_ HO446.out) (Kd.R_base ho0) hb); have n1_ := Aside0.mk (Kd.R_elder' (kR_ HO453.out) (Kd.R_base ho0) hb); have n2_ := Aside0.mk (Kd.R_lower (Kd.R_new' ho0 (Kd.R_lt (kR_ HO453.out))) (wZ bW_)); have n3_ := Aside0.mk (wT bW_ hb); clear HO446; clear HO453; clear HB; have HO446 := n0_; have HO453 := n1_; have HO456 := n2_; have HB := n3_; clear n0_ n1_ n2_ n3_; (try clear hb); (try clear hb2); (try clear hk); (try clear hi); (try clear ho0); obtain ⟨Ao25, co25, eo25⟩ := Kd.R_slice HO453.out; subst eo25; obtain ⟨Ao26, co26, eo26⟩ := Kd.R_slice HO456.out; subst eo26) | ((with_reducible refine gate_callee (f := 43) rfl ?_); refine goesL_ (some 20) rfl rfl Try.func43 (by kernel_rfl) rfl #[.slice Ao25 t451.length co25, .slice Ao26 t454.length co26] rfl mS_ ?_; (with_reducible refine (catchmentref04_Same.calls k _ _ t451 _ _ t454 true _ ?side1 ?side2 ?side3 ?side4 A9.out).mono ?_); (case side1 => repeat (first | exact (Kd.R_reads' HO453.out).2.2 | (with_reducible refine Kd.C_alloc ?_ _) | (with_reducible refine Kd.C_drewN ?_ _) | (with_reducible refine Kd.C_drew ?_))); (case side2 => exact (Kd.R_reads' HO453.out).2.1); (case side3 => repeat (first | exact (Kd.R_reads' HO456.out).2.2 | (with_reducible refine Kd.C_alloc ?_ _) | (with_reducible refine Kd.C_drewN ?_ _) | (with_reducible refine Kd.C_drew ?_))); (case side4 => exact (Kd.R_reads' HO456.out).2.1); rintro e w' ⟨rfl, ⟨nd, rfl⟩⟩; refine ⟨_, rfl, ?_⟩) | ((with_reducible refine gate_callee (f := 41) rfl ?_); refine goesL_ (some 23) rfl rfl Try.func41 (by kernel_rfl) rfl #[.slice A1 y447.length c1] rfl mS_ ?_; (with_reducible refine (catchmentref05_Rises.calls k _ _ y447 true _ ?side1 ?side2 A11.out).mono ?_); (case side1 => repeat (first | exact (Kd.C_below HR450.out bW_) | (with_reducible refine Kd.C_alloc ?_ _) | (with_reducible refine Kd.C_drewN ?_ _) | (with_reducible refine Kd.C_drew ?_))); (case side2 => exact HC450.out); rintro e w' ⟨rfl, ⟨nd, rfl⟩⟩; refine ⟨_, rfl, ?_⟩) | ((with_reducible refine gate_callee (f := 15) rfl ?_); refine goesL_ (some 26) rfl rfl Try.func15 (by kernel_rfl) rfl #[] rfl mS_ ?_; (with_reducible refine (catchmentlaw06_live.calls k  true _ A13.out).mono ?_); rintro e w27 ⟨rfl, hb⟩; refine ⟨_, rfl, ?_⟩; have n0_ := Aside0.mk (Kd.V_below (kV_ HO446.out) hb); have n1_ := Aside0.mk (Kd.R_below (kR_ HO453.out) hb); have n2_ := Aside0.mk (Kd.R_below (kR_ HO456.out) hb); have n3_ := Aside0.mk (wT bW_ hb); clear HO446; clear HO453; clear HO456; clear HB; have HO446 := n0_; have HO453 := n1_; have HO456 := n2_; have HB := n3_; clear n0_ n1_ n2_ n3_; (try clear hb); (try clear hb2); (try clear hk); (try clear hi)) | ((with_reducible refine gate_dst (N := 28) rfl ?_); (try (refine gate_guard (by rfl) ?_; dsimp only)); refine Kd.R_lit k33 _ 33 ?hg (N := 28) ?hd (xs := ([] : List (S33))) (inner := []) (ok := fun _ => True) (okp := fun _ => True) ?hr ?hp (fun _ hk => hk) trivial (Below.refl _ _) (Nat.le_refl _) (by simp) ?_; (case hd => rfl); (case hg => rfl); (case hr => first | (go_simp; done) | (go_simp; rfl)); (case hp => exact (Reps.none _ _)); intro v461 w28 ho29 hb hg_ hnew_; clear hg_ hnew_; (first | rw [← Ny460.out] at ho29 | (simp only [Int.reduceToNat] at ho29; rw [← Ny460.out] at ho29)); have n0_ := Aside0.mk (Kd.V_elder' (kV_ HO446.out) (Kd.R_base ho29) hb); have n1_ := Aside0.mk (Kd.R_elder' (kR_ HO453.out) (Kd.R_base ho29) hb); have n2_ := Aside0.mk (Kd.R_elder' (kR_ HO456.out) (Kd.R_base ho29) hb); have n3_ := Aside0.mk (Kd.R_lower (Kd.R_new' (Kd.R_new' ho29 (Kd.R_lt (kR_ HO453.out))) (Kd.R_lt (kR_ HO456.out))) (wZ bW_)); have n4_ := Aside0.mk (wT bW_ hb); clear HO446; clear HO453; clear HO456; clear HB; have HO446 := n0_; have HO453 := n1_; have HO456 := n2_; have HO462 := n3_; have HB := n4_; clear n0_ n1_ n2_ n3_ n4_; clear hb ho29) | ((with_reducible refine gate_builtin (b := .append) (xs := #[.tmp 28, .tmp 29]) rfl ?_); (try (refine gate_guard (by rfl) ?_; dsimp only)); at_builtin; refine Kd.R_append_rows k33 (w0 := w) w.heap.size rfl (.tmp 28) (.tmp 29) 22 33 (.agg #[(.int .u8 0), (.int .i64 0), (.string ⟨#[]⟩), (.string ⟨#[]⟩), (.string ⟨#[]⟩), (.int .u64 0)]) 72 rfl Try.underlying22 info33 rfl (by decide) (by omega) v461 y460 t444 _ _ _ (fun k_ => some k_ ≠ (.slice Ao25 t451.length co25 : Value).ownBlock ∧ some k_ ≠ (.slice Ao26 t454.length co26 : Value).ownBlock) (fun _ => False) rfl rfl ?aO ?aR (fun _ _ h => h) (fun _ h => h.elim) ?aF ?aB ?aS ?aL ?_; (case aR => repeat (first | exact (Kd.V_reads' HO446.out).2.2 | (with_reducible refine Kd.C_alloc ?_ _) | (with_reducible refine Kd.C_drewN ?_ _) | (with_reducible refine Kd.C_drew ?_))); (case aB => exact bW_); (case aF => exact (fun k_ hk => ⟨Kd.fresh' (Kd.R_lt (kR_ HO453.out)) k_ hk, Kd.fresh' (Kd.R_lt (kR_ HO456.out)) k_ hk⟩)); (case aO => exact (by (with_reducible repeat (first | apply Kd.R_alloc | apply Kd.R_drewN | apply Kd.R_drew)); exact Kd.R_mono HO462.out (fun _ hk => ⟨hk.1.2, hk.2⟩))); (case aS => exact (wZ bW_)); (case aL => have := LMc15.out; omega); intro v464 w30 ho hb hg hat; rw [← Ny463.out] at ho; have n0_ := Aside0.mk (Kd.V_afterv (ok := (fun k_ => some k_ ≠ (.slice Ao25 t451.length co25 : Value).ownBlock ∧ some k_ ≠ (.slice Ao26 t454.length co26 : Value).ownBlock)) (by (with_reducible repeat (first | apply Kd.V_alloc | apply Kd.V_drewN | apply Kd.V_drew)); exact Kd.V_mono HO446.out (fun _ hk => ⟨⟨hk.1.1.2, hk.1.2⟩, hk.2⟩)) hg hat); have n1_ := Aside0.mk (Kd.R_after (ok := (fun k_ => some k_ ≠ (.slice Ao26 t454.length co26 : Value).ownBlock)) (by (with_reducible repeat (first | apply Kd.R_alloc | apply Kd.R_drewN | apply Kd.R_drew)); exact Kd.R_mono HO453.out (fun _ hk => ⟨hk.1.2, hk.2⟩)) hg hat); have n2_ := Aside0.mk (Kd.R_after (ok := (fun k_ => some k_ ≠ (.slice Ao25 t451.length co25 : Value).ownBlock)) (by (with_reducible repeat (first | apply Kd.R_alloc | apply Kd.R_drewN | apply Kd.R_drew)); exact Kd.R_mono HO456.out (fun _ hk => ⟨hk.1.2, hk.2⟩)) hg hat); have n3_ := Aside0.mk (hb); have n4_ := Aside0.mk (ho); clear HO446; clear HO453; clear HO456; clear HB; clear HO462; have HO446 := n0_; have HO453 := n1_; have HO456 := n2_; have HB := n3_; have HO465 := n4_; clear n0_ n1_ n2_ n3_ n4_; clear ho hb hg hat) | ((with_reducible refine gate_builtin (b := .append) (xs := #[.tmp 30, .tmp 31]) rfl ?_); (try (refine gate_guard (by rfl) ?_; dsimp only)); at_builtin; refine Kd.R_append_rows k33 (w0 := w) w.heap.size rfl (.tmp 30) (.tmp 31) 22 33 (.agg #[(.int .u8 0), (.int .i64 0), (.string ⟨#[]⟩), (.string ⟨#[]⟩), (.string ⟨#[]⟩), (.int .u64 0)]) 72 rfl Try.underlying22 info33 rfl (by decide) (by omega) v464 y463 t451 _ _ _ (fun k_ => some k_ ≠ (.slice Ao25 t451.length co25 : Value).ownBlock ∧ some k_ ≠ (.slice Ao26 t454.length co26 : Value).ownBlock) (fun _ => False) rfl rfl ?aO ?aR (fun _ _ h => h) (fun _ h => h.elim) ?aF ?aB ?aS ?aL ?_; (case aR => repeat (first | exact (Kd.R_reads' HO453.out).2.2 | (with_reducible refine Kd.C_alloc ?_ _) | (with_reducible refine Kd.C_drewN ?_ _) | (with_reducible refine Kd.C_drew ?_))); (case aB => exact bW_); (case aF => exact (fun k_ hk => ⟨Kd.fresh' (Kd.R_lt (kR_ HO453.out)) k_ hk, Kd.fresh' (Kd.R_lt (kR_ HO456.out)) k_ hk⟩)); (case aO => exact (kR_ HO465.out)); (case aS => exact (wZ bW_)); (case aL => have := LMc16.out; omega); intro v467 w31 ho hb hg hat; rw [← Ny466.out] at ho; have n0_ := Aside0.mk (Kd.V_afterv (ok := (fun k_ => some k_ ≠ (.slice Ao25 t451.length co25 : Value).ownBlock ∧ some k_ ≠ (.slice Ao26 t454.length co26 : Value).ownBlock)) (kV_ HO446.out) hg hat); have n1_ := Aside0.mk (Kd.R_after (ok := (fun k_ => some k_ ≠ (.slice Ao26 t454.length co26 : Value).ownBlock)) (kR_ HO453.out) hg hat); have n2_ := Aside0.mk (Kd.R_after (ok := (fun k_ => some k_ ≠ (.slice Ao25 t451.length co25 : Value).ownBlock)) (kR_ HO456.out) hg hat); have n3_ := Aside0.mk (hb); have n4_ := Aside0.mk (ho); clear HO446; clear HO453; clear HO456; clear HB; clear HO465; have HO446 := n0_; have HO453 := n1_; have HO456 := n2_; have HB := n3_; have HO468 := n4_; clear n0_ n1_ n2_ n3_ n4_; clear ho hb hg hat; obtain ⟨Ao32, co32, eo32⟩ := Kd.R_slice HO468.out; subst eo32) | (go_at_call 27; (with_reducible refine (catchmentref05_Entries.calls k _ _ y466 _ _ y447 (⟨#[]⟩ : BA) (⟨#[]⟩ : BA) t469 _ ?side1 ?side2 ?side3 ?side4 A17.out).mono ?_); (case side1 => repeat (first | exact (Kd.R_reads' HO468.out).2.2 | (with_reducible refine Kd.C_alloc ?_ _) | (with_reducible refine Kd.C_drewN ?_ _) | (with_reducible refine Kd.C_drew ?_))); (case side2 => exact (Kd.R_reads' HO468.out).2.1); (case side3 => repeat (first | exact (Kd.C_below HR450.out HB.out) | (with_reducible refine Kd.C_alloc ?_ _) | (with_reducible refine Kd.C_drewN ?_ _) | (with_reducible refine Kd.C_drew ?_))); (case side4 => exact HC450.out); rintro e w33 ⟨v470, rfl, ho0, hb⟩; have n0_ := Aside0.mk (Kd.V_elder' (kV_ HO446.out) (Kd.R_base ho0) hb); have n1_ := Aside0.mk (Kd.R_below (kR_ HO453.out) hb); have n2_ := Aside0.mk (Kd.R_below (kR_ HO456.out) hb); have n3_ := Aside0.mk (Kd.R_below (kR_ HO468.out) hb); have n4_ := Aside0.mk (Kd.R_lower ho0 (wZ bW_)); have n5_ := Aside0.mk (wT bW_ hb); clear HO446; clear HO453; clear HO456; clear HO468; clear HB; have HO446 := n0_; have HO453 := n1_; have HO456 := n2_; have HO468 := n3_; have HO471 := n4_; have HB := n5_; clear n0_ n1_ n2_ n3_ n4_ n5_; (try clear hb); (try clear hb2); (try clear hk); (try clear hi); (try clear ho0); obtain ⟨Ao34, co34, eo34⟩ := Kd.R_slice HO471.out; subst eo34) | (go_at_call 24; (with_reducible refine (catchmentref05_Same.calls k _ _ t469 _ _ y447 t472 _ ?side1 ?side2 ?side3 ?side4 A18.out).mono ?_); (case side1 => repeat (first | exact (Kd.R_reads' HO471.out).2.2 | (with_reducible refine Kd.C_alloc ?_ _) | (with_reducible refine Kd.C_drewN ?_ _) | (with_reducible refine Kd.C_drew ?_))); (case side2 => exact (Kd.R_reads' HO471.out).2.1); (case side3 => repeat (first | exact (Kd.C_below HR450.out HB.out) | (with_reducible refine Kd.C_alloc ?_ _) | (with_reducible refine Kd.C_drewN ?_ _) | (with_reducible refine Kd.C_drew ?_))); (case side4 => exact HC450.out); rintro e w' ⟨rfl, ⟨nd, rfl⟩⟩))
        go_ret
        exact ⟨by first | rfl | (simp [errW_none, errW_some] <;> rfl) | (simp only [← hji4]; first | rfl | (simp [errW_none, errW_some] <;> rfl)) | (simp [*, errW_none, errW_some] <;> rfl), by repeat (first | (with_reducible first | exact HB.out | apply wA | apply wN | apply w1) | exact HB.out)⟩
       ·rw [if_neg c16] at H
        exact absurd H (by simp)
      ·rw [if_neg c15] at H
       exact absurd H (by simp)
     ·replace c14 := Bool.eq_false_iff.mpr c14
      subst c14
      have H1 : (some false) = some r := by rw [if_neg (show ¬ (false = true) by decide)] at H; exact H
      clear H
      have H := H1
      clear H1
      obtain rfl := Option.some.inj H
      go_enter Try.func11, Try.ntmps11
      try go_wp2
      have n0_ := Aside0.mk (w1 HB.out)
      clear HB
      have HB := n0_
      clear n0_
      have q36 : ((ji4) : Int) ≤ ((l1.length : Int) : Int) := of_decide_eq_true (by first | (with_reducible assumption) | assumption)
      obtain ⟨i036, hi036, _, hsz36, _⟩ := info_parts info55
      have hroom36 : l1.length ≤ c1 := HC1.out
      have hC36 : Kd.C k55 _ A1 l1.length l1 := HR1.out
      have hcut36 := cut_to (P := Try.prog) 36 55 .i64 Try.underlying36 hi036 A1 l1.length c1 (ji4) (of_decide_eq_true (by first | (with_reducible assumption) | assumption)) q36 hroom36
      have hr36 := Kd.C_take (m := ((ji4) : Int).toNat) hC36 (by omega)
      have hy36 : y447.length = ((ji4) : Int).toNat := (by rw [Ny447.out, mA4]; omega)
      rw [← Ny447.out] at hr36
      rw [← hy36] at hcut36
      have HR450 := Aside0.mk hr36
      have HC450 := Aside0.mk (show y447.length ≤ c1 from by omega)
      clear hr36 hC36 hroom36 hi036 hsz36
      have KY36 := Aside0.mk hy36
      clear hy36
      replace q36 := eq_true q36
      refine start_ (n := 9) (S := fun w' => True) (ds := []) #[ZZ,ZZ,ZZ,ZZ,ZZ,ZZ,ZZ,ZZ,ZZ] (by kernel_rfl) rfl rfl trivial (fun hHeld => ?_); refine with_tabW catchmentlaw06_CompactTurns.tab1 catchmentlaw06_CompactTurns.bits1 (fun HT_ HW_ => ?_)
      generalize w.drew = w35 at HB HR450 hHeld ⊢
      refine pure_ (i := 0) (N := some 6) (v := ?_) (a' := ?_) #[YY,ZZ,ZZ,ZZ,ZZ,ZZ,ZZ,ZZ,ZZ] rfl rfl (any_of HT_.out (by kernel_rfl)) (fun _ _ _ h => h) (Or.inl ⟨by rfl, ?_⟩) ?_ ?_
      rotate_left
      ·intro w'
       go_simp
       with_reducible rfl
      rotate_left
      ·simp only [Act.put, sA1, sA2, sA3, i64_w, i32_w]
       rfl
      refine pure_ (i := 2) (N := some 8) (v := ?_) (a' := ?_) #[YY,ZZ,YY,ZZ,ZZ,ZZ,ZZ,ZZ,ZZ] rfl rfl (any_of HT_.out (by kernel_rfl)) (fun _ _ _ h => h) (Or.inl ⟨by rfl, ?_⟩) ?_ ?_
      rotate_left
      ·intro w'
       go_simp
       with_reducible rfl
      rotate_left
      ·simp only [Act.put, sA1, sA2, sA3, i64_w, i32_w]
       rfl
      refine pure_ (i := 3) (N := some 9) (v := ?_) (a' := ?_) #[YY,ZZ,YY,YY,ZZ,ZZ,ZZ,ZZ,ZZ] rfl rfl (any_of HT_.out (by kernel_rfl)) (fun _ _ _ h => h) (Or.inl ⟨by rfl, ?_⟩) ?_ ?_
      rotate_left
      ·intro w'
       go_simp
       with_reducible rfl
      rotate_left
      ·simp only [Act.put, sA1, sA2, sA3, i64_w, i32_w]
       rfl
      refine pure_ (i := 4) (N := some 10) (v := ?_) (a' := ?_) #[YY,ZZ,YY,YY,YY,ZZ,ZZ,ZZ,ZZ] rfl rfl (any_of HT_.out (by kernel_rfl)) (fun _ _ _ h => h) (Or.inl ⟨by rfl, ?_⟩) ?_ ?_
      rotate_left
      ·intro w'
       go_simp
       with_reducible rfl
      rotate_left
      ·simp only [Act.put, sA1, sA2, sA3, i64_w, i32_w]
       rfl
      refine pure_ (i := 5) (N := some 11) (v := ?_) (a' := ?_) #[YY,ZZ,YY,YY,YY,YY,ZZ,ZZ,ZZ] rfl rfl (any_of HT_.out (by kernel_rfl)) (fun _ _ _ h => h) (Or.inl ⟨by rfl, ?_⟩) ?_ ?_
      rotate_left
      ·intro w'
       go_simp
       with_reducible rfl
      rotate_left
      ·simp only [Act.put, sA1, sA2, sA3, i64_w, i32_w]
       rfl
      refine pure_ (i := 6) (N := some 12) (v := ?_) (a' := ?_) #[YY,ZZ,YY,YY,YY,YY,YY,ZZ,ZZ] rfl rfl (any_of HT_.out (by kernel_rfl)) (fun _ _ _ h => h) (Or.inl ⟨by rfl, ?_⟩) ?_ ?_
      rotate_left
      ·intro w'
       go_simp
       with_reducible rfl
      rotate_left
      ·simp only [Act.put, sA1, sA2, sA3, i64_w, i32_w]
       rfl
      refine one_ (i := 1) (N := some 7) #[YY,YY,YY,YY,YY,YY,YY,ZZ,ZZ] rfl rfl (one_of HT_.out (by kernel_rfl)) (by decide) (fun K hK => ?_)
      refine goes_ Try.func12 (by kernel_rfl) rfl #[.slice A0 l0.length c0] (by rfl) rfl rfl mS_ ?_
      with_reducible refine (catchmentlaw06_few.calls (fun k_ => k_ < w.heap.size) _ _ l0 t444 _ ?side1 A3.out).mono ?_
      (case side1 => exact Kd.V_mk HC0.out (Kd.F_below (Kd.C_F k33_heap HR0.out) bW_))
      rintro e w37 ⟨v445, rfl, ho0, hb⟩
      refine ⟨_, rfl, ?_⟩
      have n0_ := Aside0.mk (Kd.V_lower (Kd.V_mono (ok' := fun k_ => True) ho0 (fun k_ hk_ => trivial)) (wZ bW_))
      have n1_ := Aside0.mk (wT bW_ hb)
      clear HB
      have HO446 := n0_
      have HB := n1_
      clear n0_ n1_
      (try clear hb)
      (try clear hb2)
      (try clear hk)
      (try clear hi)
      (try clear ho0)
      refine hK.out _ _ trivial (fun hHeld => ?_)
      clear hK K
      refine norm_ (a' := ?_) ?_ ?_
      rotate_left
      ·show Act.put _ (some 7) _ = _
       simp only [Act.put, sA1, sA2, sA3, i64_w, i32_w]
       rfl
      refine pure_ (i := 7) (N := some 0) (v := ?_) (a' := ?_) #[YY,YY,YY,YY,YY,YY,YY,YY,ZZ] rfl rfl (any_of HT_.out (by kernel_rfl)) (fun _ _ _ h => h) (Or.inl ⟨by rfl, ?_⟩) ?_ ?_
      rotate_left
      ·intro w'
       go_simp
       with_reducible rfl
      rotate_left
      ·simp only [Act.put, sA1, sA2, sA3, i64_w, i32_w]
       rfl
      refine pure_ (i := 8) (N := some 1) (v := ?_) (a' := ?_) #[YY,YY,YY,YY,YY,YY,YY,YY,YY] rfl rfl (any_of HT_.out (by kernel_rfl)) (fun _ _ _ h => h) (Or.inl ⟨by rfl, ?_⟩) ?_ ?_
      rotate_left
      ·intro w'
       go_simp
       with_reducible rfl
      rotate_left
      ·simp only [Act.put, sA1, sA2, sA3, i64_w, i32_w]
       rfl
      refine done_ (done_of HT_.out (by kernel_rfl)) ?_
      obtain ⟨Ao38, co38, eo38⟩ := Kd.V_slice HO446.out
      subst eo38
      try go_wp2_with (first | ((with_reducible refine gate_callee (f := 42) rfl ?_); refine goesL_ (some 15) rfl rfl Try.func42 (by kernel_rfl) rfl #[.slice Ao38 t444.length co38, .slice A1 y447.length c1] rfl mS_ ?_; (with_reducible refine (compact_Inverse.calls k _ _ t444 _ _ y447 t451 _ ?side1 ?side2 ?side3 ?side4 A7.out).mono ?_); (case side1 => repeat (first | exact (Kd.V_reads' HO446.out).2.2 | (with_reducible refine Kd.C_alloc ?_ _) | (with_reducible refine Kd.C_drewN ?_ _) | (with_reducible refine Kd.C_drew ?_))); (case side2 => exact (Kd.V_reads' HO446.out).2.1); (case side3 => repeat (first | exact (Kd.C_below HR450.out HB.out) | (with_reducible refine Kd.C_alloc ?_ _) | (with_reducible refine Kd.C_drewN ?_ _) | (with_reducible refine Kd.C_drew ?_))); (case side4 => exact HC450.out); rintro e w39 ⟨v452, rfl, ho0, hb⟩; refine ⟨_, rfl, ?_⟩; have n0_ := Aside0.mk (Kd.V_elder' (kV_ HO446.out) (Kd.R_base ho0) hb); have n1_ := Aside0.mk (Kd.R_lower ho0 (wZ bW_)); have n2_ := Aside0.mk (wT bW_ hb); clear HO446; clear HB; have HO446 := n0_; have HO453 := n1_; have HB := n2_; clear n0_ n1_ n2_; (try clear hb); (try clear hb2); (try clear hk); (try clear hi); (try clear ho0)) | ((with_reducible refine gate_callee (f := 44) rfl ?_); refine goesL_ (some 19) rfl rfl Try.func44 (by kernel_rfl) rfl #[.slice Ao38 t444.length co38, .slice A1 y447.length c1] rfl mS_ ?_; (with_reducible refine (catchmentref06_Inverse.calls k _ _ t444 _ _ y447 t454 _ ?side1 ?side2 ?side3 ?side4 A8.out).mono ?_); (case side1 => repeat (first | exact (Kd.V_reads' HO446.out).2.2 | (with_reducible refine Kd.C_alloc ?_ _) | (with_reducible refine Kd.C_drewN ?_ _) | (with_reducible refine Kd.C_drew ?_))); (case side2 => exact (Kd.V_reads' HO446.out).2.1); (case side3 => repeat (first | exact (Kd.C_below HR450.out HB.out) | (with_reducible refine Kd.C_alloc ?_ _) | (with_reducible refine Kd.C_drewN ?_ _) | (with_reducible refine Kd.C_drew ?_))); (case side4 => exact HC450.out); rintro e w40 ⟨v455, rfl, ho0, hb⟩; refine ⟨_, rfl, ?_⟩; have n0_ := Aside0.mk (Kd.V_elder' (kV_ HO446.out) (Kd.R_base ho0) hb); have n1_ := Aside0.mk (Kd.R_elder' (kR_ HO453.out) (Kd.R_base ho0) hb); have n2_ := Aside0.mk (Kd.R_lower (Kd.R_new' ho0 (Kd.R_lt (kR_ HO453.out))) (wZ bW_)); have n3_ := Aside0.mk (wT bW_ hb); clear HO446; clear HO453; clear HB; have HO446 := n0_; have HO453 := n1_; have HO456 := n2_; have HB := n3_; clear n0_ n1_ n2_ n3_; (try clear hb); (try clear hb2); (try clear hk); (try clear hi); (try clear ho0); obtain ⟨Ao41, co41, eo41⟩ := Kd.R_slice HO453.out; subst eo41; obtain ⟨Ao42, co42, eo42⟩ := Kd.R_slice HO456.out; subst eo42) | ((with_reducible refine gate_callee (f := 43) rfl ?_); refine goesL_ (some 20) rfl rfl Try.func43 (by kernel_rfl) rfl #[.slice Ao41 t451.length co41, .slice Ao42 t454.length co42] rfl mS_ ?_; (with_reducible refine (catchmentref04_Same.calls k _ _ t451 _ _ t454 true _ ?side1 ?side2 ?side3 ?side4 A9.out).mono ?_); (case side1 => repeat (first | exact (Kd.R_reads' HO453.out).2.2 | (with_reducible refine Kd.C_alloc ?_ _) | (with_reducible refine Kd.C_drewN ?_ _) | (with_reducible refine Kd.C_drew ?_))); (case side2 => exact (Kd.R_reads' HO453.out).2.1); (case side3 => repeat (first | exact (Kd.R_reads' HO456.out).2.2 | (with_reducible refine Kd.C_alloc ?_ _) | (with_reducible refine Kd.C_drewN ?_ _) | (with_reducible refine Kd.C_drew ?_))); (case side4 => exact (Kd.R_reads' HO456.out).2.1); rintro e w' ⟨rfl, ⟨nd, rfl⟩⟩; refine ⟨_, rfl, ?_⟩) | ((with_reducible refine gate_callee (f := 41) rfl ?_); refine goesL_ (some 23) rfl rfl Try.func41 (by kernel_rfl) rfl #[.slice A1 y447.length c1] rfl mS_ ?_; (with_reducible refine (catchmentref05_Rises.calls k _ _ y447 true _ ?side1 ?side2 A11.out).mono ?_); (case side1 => repeat (first | exact (Kd.C_below HR450.out bW_) | (with_reducible refine Kd.C_alloc ?_ _) | (with_reducible refine Kd.C_drewN ?_ _) | (with_reducible refine Kd.C_drew ?_))); (case side2 => exact HC450.out); rintro e w' ⟨rfl, ⟨nd, rfl⟩⟩; refine ⟨_, rfl, ?_⟩) | ((with_reducible refine gate_callee (f := 15) rfl ?_); refine goesL_ (some 26) rfl rfl Try.func15 (by kernel_rfl) rfl #[] rfl mS_ ?_; (with_reducible refine (catchmentlaw06_live.calls k  false _ A13.out).mono ?_); rintro e w43 ⟨rfl, hb⟩; refine ⟨_, rfl, ?_⟩; have n0_ := Aside0.mk (Kd.V_below (kV_ HO446.out) hb); have n1_ := Aside0.mk (Kd.R_below (kR_ HO453.out) hb); have n2_ := Aside0.mk (Kd.R_below (kR_ HO456.out) hb); have n3_ := Aside0.mk (wT bW_ hb); clear HO446; clear HO453; clear HO456; clear HB; have HO446 := n0_; have HO453 := n1_; have HO456 := n2_; have HB := n3_; clear n0_ n1_ n2_ n3_; (try clear hb); (try clear hb2); (try clear hk); (try clear hi)))
      go_ret
      exact ⟨by first | rfl | (simp [errW_none, errW_some] <;> rfl) | (simp only [← hji4]; first | rfl | (simp [errW_none, errW_some] <;> rfl)) | (simp [*, errW_none, errW_some] <;> rfl), by repeat (first | (with_reducible first | exact HB.out | apply wA | apply wN | apply w1) | exact HB.out)⟩
    ·replace c12 := Bool.eq_false_iff.mpr c12
     subst c12
     have H1 : ((catchmentlaw06_live.f k).bind fun t473 => (some t473)) = some r := by rw [if_neg (show ¬ (false = true) by decide)] at H; exact H
     clear H
     have H := H1
     clear H1
     replace H := Option.bind_eq_some_iff.mp H
     obtain ⟨t473, A440, H⟩ := H
     replace H : (some t473) = some r := H
     have A44 := Aside0.mk A440
     clear A440
     obtain rfl := Option.some.inj H
     go_enter Try.func11, Try.ntmps11
     try go_wp2
     have n0_ := Aside0.mk (w1 HB.out)
     clear HB
     have HB := n0_
     clear n0_
     have q46 : ((ji4) : Int) ≤ ((l1.length : Int) : Int) := of_decide_eq_true (by first | (with_reducible assumption) | assumption)
     obtain ⟨i046, hi046, _, hsz46, _⟩ := info_parts info55
     have hroom46 : l1.length ≤ c1 := HC1.out
     have hC46 : Kd.C k55 _ A1 l1.length l1 := HR1.out
     have hcut46 := cut_to (P := Try.prog) 36 55 .i64 Try.underlying36 hi046 A1 l1.length c1 (ji4) (of_decide_eq_true (by first | (with_reducible assumption) | assumption)) q46 hroom46
     have hr46 := Kd.C_take (m := ((ji4) : Int).toNat) hC46 (by omega)
     have hy46 : y447.length = ((ji4) : Int).toNat := (by rw [Ny447.out, mA4]; omega)
     rw [← Ny447.out] at hr46
     rw [← hy46] at hcut46
     have HR450 := Aside0.mk hr46
     have HC450 := Aside0.mk (show y447.length ≤ c1 from by omega)
     clear hr46 hC46 hroom46 hi046 hsz46
     have KY46 := Aside0.mk hy46
     clear hy46
     replace q46 := eq_true q46
     refine start_ (n := 9) (S := fun w' => True) (ds := []) #[ZZ,ZZ,ZZ,ZZ,ZZ,ZZ,ZZ,ZZ,ZZ] (by kernel_rfl) rfl rfl trivial (fun hHeld => ?_); refine with_tabW catchmentlaw06_CompactTurns.tab1 catchmentlaw06_CompactTurns.bits1 (fun HT_ HW_ => ?_)
     generalize w.drew = w45 at HB HR450 hHeld ⊢
     refine pure_ (i := 0) (N := some 6) (v := ?_) (a' := ?_) #[YY,ZZ,ZZ,ZZ,ZZ,ZZ,ZZ,ZZ,ZZ] rfl rfl (any_of HT_.out (by kernel_rfl)) (fun _ _ _ h => h) (Or.inl ⟨by rfl, ?_⟩) ?_ ?_
     rotate_left
     ·intro w'
      go_simp
      with_reducible rfl
     rotate_left
     ·simp only [Act.put, sA1, sA2, sA3, i64_w, i32_w]
      rfl
     refine pure_ (i := 2) (N := some 8) (v := ?_) (a' := ?_) #[YY,ZZ,YY,ZZ,ZZ,ZZ,ZZ,ZZ,ZZ] rfl rfl (any_of HT_.out (by kernel_rfl)) (fun _ _ _ h => h) (Or.inl ⟨by rfl, ?_⟩) ?_ ?_
     rotate_left
     ·intro w'
      go_simp
      with_reducible rfl
     rotate_left
     ·simp only [Act.put, sA1, sA2, sA3, i64_w, i32_w]
      rfl
     refine pure_ (i := 3) (N := some 9) (v := ?_) (a' := ?_) #[YY,ZZ,YY,YY,ZZ,ZZ,ZZ,ZZ,ZZ] rfl rfl (any_of HT_.out (by kernel_rfl)) (fun _ _ _ h => h) (Or.inl ⟨by rfl, ?_⟩) ?_ ?_
     rotate_left
     ·intro w'
      go_simp
      with_reducible rfl
     rotate_left
     ·simp only [Act.put, sA1, sA2, sA3, i64_w, i32_w]
      rfl
     refine pure_ (i := 4) (N := some 10) (v := ?_) (a' := ?_) #[YY,ZZ,YY,YY,YY,ZZ,ZZ,ZZ,ZZ] rfl rfl (any_of HT_.out (by kernel_rfl)) (fun _ _ _ h => h) (Or.inl ⟨by rfl, ?_⟩) ?_ ?_
     rotate_left
     ·intro w'
      go_simp
      with_reducible rfl
     rotate_left
     ·simp only [Act.put, sA1, sA2, sA3, i64_w, i32_w]
      rfl
     refine pure_ (i := 5) (N := some 11) (v := ?_) (a' := ?_) #[YY,ZZ,YY,YY,YY,YY,ZZ,ZZ,ZZ] rfl rfl (any_of HT_.out (by kernel_rfl)) (fun _ _ _ h => h) (Or.inl ⟨by rfl, ?_⟩) ?_ ?_
     rotate_left
     ·intro w'
      go_simp
      with_reducible rfl
     rotate_left
     ·simp only [Act.put, sA1, sA2, sA3, i64_w, i32_w]
      rfl
     refine pure_ (i := 6) (N := some 12) (v := ?_) (a' := ?_) #[YY,ZZ,YY,YY,YY,YY,YY,ZZ,ZZ] rfl rfl (any_of HT_.out (by kernel_rfl)) (fun _ _ _ h => h) (Or.inl ⟨by rfl, ?_⟩) ?_ ?_
     rotate_left
     ·intro w'
      go_simp
      with_reducible rfl
     rotate_left
     ·simp only [Act.put, sA1, sA2, sA3, i64_w, i32_w]
      rfl
     refine one_ (i := 1) (N := some 7) #[YY,YY,YY,YY,YY,YY,YY,ZZ,ZZ] rfl rfl (one_of HT_.out (by kernel_rfl)) (by decide) (fun K hK => ?_)
     refine goes_ Try.func12 (by kernel_rfl) rfl #[.slice A0 l0.length c0] (by rfl) rfl rfl mS_ ?_
     with_reducible refine (catchmentlaw06_few.calls (fun k_ => k_ < w.heap.size) _ _ l0 t444 _ ?side1 A3.out).mono ?_
     (case side1 => exact Kd.V_mk HC0.out (Kd.F_below (Kd.C_F k33_heap HR0.out) bW_))
     rintro e w47 ⟨v445, rfl, ho0, hb⟩
     refine ⟨_, rfl, ?_⟩
     have n0_ := Aside0.mk (Kd.V_lower (Kd.V_mono (ok' := fun k_ => True) ho0 (fun k_ hk_ => trivial)) (wZ bW_))
     have n1_ := Aside0.mk (wT bW_ hb)
     clear HB
     have HO446 := n0_
     have HB := n1_
     clear n0_ n1_
     (try clear hb)
     (try clear hb2)
     (try clear hk)
     (try clear hi)
     (try clear ho0)
     refine hK.out _ _ trivial (fun hHeld => ?_)
     clear hK K
     refine norm_ (a' := ?_) ?_ ?_
     rotate_left
     ·show Act.put _ (some 7) _ = _
      simp only [Act.put, sA1, sA2, sA3, i64_w, i32_w]
      rfl
     refine pure_ (i := 7) (N := some 0) (v := ?_) (a' := ?_) #[YY,YY,YY,YY,YY,YY,YY,YY,ZZ] rfl rfl (any_of HT_.out (by kernel_rfl)) (fun _ _ _ h => h) (Or.inl ⟨by rfl, ?_⟩) ?_ ?_
     rotate_left
     ·intro w'
      go_simp
      with_reducible rfl
     rotate_left
     ·simp only [Act.put, sA1, sA2, sA3, i64_w, i32_w]
      rfl
     refine pure_ (i := 8) (N := some 1) (v := ?_) (a' := ?_) #[YY,YY,YY,YY,YY,YY,YY,YY,YY] rfl rfl (any_of HT_.out (by kernel_rfl)) (fun _ _ _ h => h) (Or.inl ⟨by rfl, ?_⟩) ?_ ?_
     rotate_left
     ·intro w'
      go_simp
      with_reducible rfl
     rotate_left
     ·simp only [Act.put, sA1, sA2, sA3, i64_w, i32_w]
      rfl
     refine done_ (done_of HT_.out (by kernel_rfl)) ?_
     obtain ⟨Ao48, co48, eo48⟩ := Kd.V_slice HO446.out
     subst eo48
     try go_wp2_with (first | ((with_reducible refine gate_callee (f := 42) rfl ?_); refine goesL_ (some 15) rfl rfl Try.func42 (by kernel_rfl) rfl #[.slice Ao48 t444.length co48, .slice A1 y447.length c1] rfl mS_ ?_; (with_reducible refine (compact_Inverse.calls k _ _ t444 _ _ y447 t451 _ ?side1 ?side2 ?side3 ?side4 A7.out).mono ?_); (case side1 => repeat (first | exact (Kd.V_reads' HO446.out).2.2 | (with_reducible refine Kd.C_alloc ?_ _) | (with_reducible refine Kd.C_drewN ?_ _) | (with_reducible refine Kd.C_drew ?_))); (case side2 => exact (Kd.V_reads' HO446.out).2.1); (case side3 => repeat (first | exact (Kd.C_below HR450.out HB.out) | (with_reducible refine Kd.C_alloc ?_ _) | (with_reducible refine Kd.C_drewN ?_ _) | (with_reducible refine Kd.C_drew ?_))); (case side4 => exact HC450.out); rintro e w49 ⟨v452, rfl, ho0, hb⟩; refine ⟨_, rfl, ?_⟩; have n0_ := Aside0.mk (Kd.V_elder' (kV_ HO446.out) (Kd.R_base ho0) hb); have n1_ := Aside0.mk (Kd.R_lower ho0 (wZ bW_)); have n2_ := Aside0.mk (wT bW_ hb); clear HO446; clear HB; have HO446 := n0_; have HO453 := n1_; have HB := n2_; clear n0_ n1_ n2_; (try clear hb); (try clear hb2); (try clear hk); (try clear hi); (try clear ho0)) | ((with_reducible refine gate_callee (f := 44) rfl ?_); refine goesL_ (some 19) rfl rfl Try.func44 (by kernel_rfl) rfl #[.slice Ao48 t444.length co48, .slice A1 y447.length c1] rfl mS_ ?_; (with_reducible refine (catchmentref06_Inverse.calls k _ _ t444 _ _ y447 t454 _ ?side1 ?side2 ?side3 ?side4 A8.out).mono ?_); (case side1 => repeat (first | exact (Kd.V_reads' HO446.out).2.2 | (with_reducible refine Kd.C_alloc ?_ _) | (with_reducible refine Kd.C_drewN ?_ _) | (with_reducible refine Kd.C_drew ?_))); (case side2 => exact (Kd.V_reads' HO446.out).2.1); (case side3 => repeat (first | exact (Kd.C_below HR450.out HB.out) | (with_reducible refine Kd.C_alloc ?_ _) | (with_reducible refine Kd.C_drewN ?_ _) | (with_reducible refine Kd.C_drew ?_))); (case side4 => exact HC450.out); rintro e w50 ⟨v455, rfl, ho0, hb⟩; refine ⟨_, rfl, ?_⟩; have n0_ := Aside0.mk (Kd.V_elder' (kV_ HO446.out) (Kd.R_base ho0) hb); have n1_ := Aside0.mk (Kd.R_elder' (kR_ HO453.out) (Kd.R_base ho0) hb); have n2_ := Aside0.mk (Kd.R_lower (Kd.R_new' ho0 (Kd.R_lt (kR_ HO453.out))) (wZ bW_)); have n3_ := Aside0.mk (wT bW_ hb); clear HO446; clear HO453; clear HB; have HO446 := n0_; have HO453 := n1_; have HO456 := n2_; have HB := n3_; clear n0_ n1_ n2_ n3_; (try clear hb); (try clear hb2); (try clear hk); (try clear hi); (try clear ho0); obtain ⟨Ao51, co51, eo51⟩ := Kd.R_slice HO453.out; subst eo51; obtain ⟨Ao52, co52, eo52⟩ := Kd.R_slice HO456.out; subst eo52) | ((with_reducible refine gate_callee (f := 43) rfl ?_); refine goesL_ (some 20) rfl rfl Try.func43 (by kernel_rfl) rfl #[.slice Ao51 t451.length co51, .slice Ao52 t454.length co52] rfl mS_ ?_; (with_reducible refine (catchmentref04_Same.calls k _ _ t451 _ _ t454 true _ ?side1 ?side2 ?side3 ?side4 A9.out).mono ?_); (case side1 => repeat (first | exact (Kd.R_reads' HO453.out).2.2 | (with_reducible refine Kd.C_alloc ?_ _) | (with_reducible refine Kd.C_drewN ?_ _) | (with_reducible refine Kd.C_drew ?_))); (case side2 => exact (Kd.R_reads' HO453.out).2.1); (case side3 => repeat (first | exact (Kd.R_reads' HO456.out).2.2 | (with_reducible refine Kd.C_alloc ?_ _) | (with_reducible refine Kd.C_drewN ?_ _) | (with_reducible refine Kd.C_drew ?_))); (case side4 => exact (Kd.R_reads' HO456.out).2.1); rintro e w' ⟨rfl, ⟨nd, rfl⟩⟩; refine ⟨_, rfl, ?_⟩) | ((with_reducible refine gate_callee (f := 41) rfl ?_); refine goesL_ (some 23) rfl rfl Try.func41 (by kernel_rfl) rfl #[.slice A1 y447.length c1] rfl mS_ ?_; (with_reducible refine (catchmentref05_Rises.calls k _ _ y447 false _ ?side1 ?side2 A11.out).mono ?_); (case side1 => repeat (first | exact (Kd.C_below HR450.out bW_) | (with_reducible refine Kd.C_alloc ?_ _) | (with_reducible refine Kd.C_drewN ?_ _) | (with_reducible refine Kd.C_drew ?_))); (case side2 => exact HC450.out); rintro e w' ⟨rfl, ⟨nd, rfl⟩⟩; refine ⟨_, rfl, ?_⟩) | ((with_reducible refine gate_callee (f := 15) rfl ?_); refine goesL_ (some 25) rfl rfl Try.func15 (by kernel_rfl) rfl #[] rfl mS_ ?_; (with_reducible refine (catchmentlaw06_live.calls k  t473 _ A44.out).mono ?_); rintro e w53 ⟨rfl, hb⟩; refine ⟨_, rfl, ?_⟩; have n0_ := Aside0.mk (Kd.V_below (kV_ HO446.out) hb); have n1_ := Aside0.mk (Kd.R_below (kR_ HO453.out) hb); have n2_ := Aside0.mk (Kd.R_below (kR_ HO456.out) hb); have n3_ := Aside0.mk (wT bW_ hb); clear HO446; clear HO453; clear HO456; clear HB; have HO446 := n0_; have HO453 := n1_; have HO456 := n2_; have HB := n3_; clear n0_ n1_ n2_ n3_; (try clear hb); (try clear hb2); (try clear hk); (try clear hi)))
     go_ret
     exact ⟨by first | rfl | (simp [errW_none, errW_some] <;> rfl) | (simp only [← hji4]; first | rfl | (simp [errW_none, errW_some] <;> rfl)) | (simp [*, errW_none, errW_some] <;> rfl), by repeat (first | (with_reducible first | exact HB.out | apply wA | apply wN | apply w1) | exact HB.out)⟩
   ·replace c10 := Bool.eq_false_iff.mpr c10
    subst c10
    have H1 : (some false) = some r := by rw [if_neg (show ¬ (false = true) by decide)] at H; exact H
    clear H
    have H := H1
    clear H1
    obtain rfl := Option.some.inj H
    go_enter Try.func11, Try.ntmps11
    try go_wp2
    have n0_ := Aside0.mk (w1 HB.out)
    clear HB
    have HB := n0_
    clear n0_
    have q55 : ((ji4) : Int) ≤ ((l1.length : Int) : Int) := of_decide_eq_true (by first | (with_reducible assumption) | assumption)
    obtain ⟨i055, hi055, _, hsz55, _⟩ := info_parts info55
    have hroom55 : l1.length ≤ c1 := HC1.out
    have hC55 : Kd.C k55 _ A1 l1.length l1 := HR1.out
    have hcut55 := cut_to (P := Try.prog) 36 55 .i64 Try.underlying36 hi055 A1 l1.length c1 (ji4) (of_decide_eq_true (by first | (with_reducible assumption) | assumption)) q55 hroom55
    have hr55 := Kd.C_take (m := ((ji4) : Int).toNat) hC55 (by omega)
    have hy55 : y447.length = ((ji4) : Int).toNat := (by rw [Ny447.out, mA4]; omega)
    rw [← Ny447.out] at hr55
    rw [← hy55] at hcut55
    have HR450 := Aside0.mk hr55
    have HC450 := Aside0.mk (show y447.length ≤ c1 from by omega)
    clear hr55 hC55 hroom55 hi055 hsz55
    have KY55 := Aside0.mk hy55
    clear hy55
    replace q55 := eq_true q55
    refine start_ (n := 9) (S := fun w' => True) (ds := []) #[ZZ,ZZ,ZZ,ZZ,ZZ,ZZ,ZZ,ZZ,ZZ] (by kernel_rfl) rfl rfl trivial (fun hHeld => ?_); refine with_tabW catchmentlaw06_CompactTurns.tab1 catchmentlaw06_CompactTurns.bits1 (fun HT_ HW_ => ?_)
    generalize w.drew = w54 at HB HR450 hHeld ⊢
    refine pure_ (i := 0) (N := some 6) (v := ?_) (a' := ?_) #[YY,ZZ,ZZ,ZZ,ZZ,ZZ,ZZ,ZZ,ZZ] rfl rfl (any_of HT_.out (by kernel_rfl)) (fun _ _ _ h => h) (Or.inl ⟨by rfl, ?_⟩) ?_ ?_
    rotate_left
    ·intro w'
     go_simp
     with_reducible rfl
    rotate_left
    ·simp only [Act.put, sA1, sA2, sA3, i64_w, i32_w]
     rfl
    refine pure_ (i := 2) (N := some 8) (v := ?_) (a' := ?_) #[YY,ZZ,YY,ZZ,ZZ,ZZ,ZZ,ZZ,ZZ] rfl rfl (any_of HT_.out (by kernel_rfl)) (fun _ _ _ h => h) (Or.inl ⟨by rfl, ?_⟩) ?_ ?_
    rotate_left
    ·intro w'
     go_simp
     with_reducible rfl
    rotate_left
    ·simp only [Act.put, sA1, sA2, sA3, i64_w, i32_w]
     rfl
    refine pure_ (i := 3) (N := some 9) (v := ?_) (a' := ?_) #[YY,ZZ,YY,YY,ZZ,ZZ,ZZ,ZZ,ZZ] rfl rfl (any_of HT_.out (by kernel_rfl)) (fun _ _ _ h => h) (Or.inl ⟨by rfl, ?_⟩) ?_ ?_
    rotate_left
    ·intro w'
     go_simp
     with_reducible rfl
    rotate_left
    ·simp only [Act.put, sA1, sA2, sA3, i64_w, i32_w]
     rfl
    refine pure_ (i := 4) (N := some 10) (v := ?_) (a' := ?_) #[YY,ZZ,YY,YY,YY,ZZ,ZZ,ZZ,ZZ] rfl rfl (any_of HT_.out (by kernel_rfl)) (fun _ _ _ h => h) (Or.inl ⟨by rfl, ?_⟩) ?_ ?_
    rotate_left
    ·intro w'
     go_simp
     with_reducible rfl
    rotate_left
    ·simp only [Act.put, sA1, sA2, sA3, i64_w, i32_w]
     rfl
    refine pure_ (i := 5) (N := some 11) (v := ?_) (a' := ?_) #[YY,ZZ,YY,YY,YY,YY,ZZ,ZZ,ZZ] rfl rfl (any_of HT_.out (by kernel_rfl)) (fun _ _ _ h => h) (Or.inl ⟨by rfl, ?_⟩) ?_ ?_
    rotate_left
    ·intro w'
     go_simp
     with_reducible rfl
    rotate_left
    ·simp only [Act.put, sA1, sA2, sA3, i64_w, i32_w]
     rfl
    refine pure_ (i := 6) (N := some 12) (v := ?_) (a' := ?_) #[YY,ZZ,YY,YY,YY,YY,YY,ZZ,ZZ] rfl rfl (any_of HT_.out (by kernel_rfl)) (fun _ _ _ h => h) (Or.inl ⟨by rfl, ?_⟩) ?_ ?_
    rotate_left
    ·intro w'
     go_simp
     with_reducible rfl
    rotate_left
    ·simp only [Act.put, sA1, sA2, sA3, i64_w, i32_w]
     rfl
    refine one_ (i := 1) (N := some 7) #[YY,YY,YY,YY,YY,YY,YY,ZZ,ZZ] rfl rfl (one_of HT_.out (by kernel_rfl)) (by decide) (fun K hK => ?_)
    refine goes_ Try.func12 (by kernel_rfl) rfl #[.slice A0 l0.length c0] (by rfl) rfl rfl mS_ ?_
    with_reducible refine (catchmentlaw06_few.calls (fun k_ => k_ < w.heap.size) _ _ l0 t444 _ ?side1 A3.out).mono ?_
    (case side1 => exact Kd.V_mk HC0.out (Kd.F_below (Kd.C_F k33_heap HR0.out) bW_))
    rintro e w56 ⟨v445, rfl, ho0, hb⟩
    refine ⟨_, rfl, ?_⟩
    have n0_ := Aside0.mk (Kd.V_lower (Kd.V_mono (ok' := fun k_ => True) ho0 (fun k_ hk_ => trivial)) (wZ bW_))
    have n1_ := Aside0.mk (wT bW_ hb)
    clear HB
    have HO446 := n0_
    have HB := n1_
    clear n0_ n1_
    (try clear hb)
    (try clear hb2)
    (try clear hk)
    (try clear hi)
    (try clear ho0)
    refine hK.out _ _ trivial (fun hHeld => ?_)
    clear hK K
    refine norm_ (a' := ?_) ?_ ?_
    rotate_left
    ·show Act.put _ (some 7) _ = _
     simp only [Act.put, sA1, sA2, sA3, i64_w, i32_w]
     rfl
    refine pure_ (i := 7) (N := some 0) (v := ?_) (a' := ?_) #[YY,YY,YY,YY,YY,YY,YY,YY,ZZ] rfl rfl (any_of HT_.out (by kernel_rfl)) (fun _ _ _ h => h) (Or.inl ⟨by rfl, ?_⟩) ?_ ?_
    rotate_left
    ·intro w'
     go_simp
     with_reducible rfl
    rotate_left
    ·simp only [Act.put, sA1, sA2, sA3, i64_w, i32_w]
     rfl
    refine pure_ (i := 8) (N := some 1) (v := ?_) (a' := ?_) #[YY,YY,YY,YY,YY,YY,YY,YY,YY] rfl rfl (any_of HT_.out (by kernel_rfl)) (fun _ _ _ h => h) (Or.inl ⟨by rfl, ?_⟩) ?_ ?_
    rotate_left
    ·intro w'
     go_simp
     with_reducible rfl
    rotate_left
    ·simp only [Act.put, sA1, sA2, sA3, i64_w, i32_w]
     rfl
    refine done_ (done_of HT_.out (by kernel_rfl)) ?_
    obtain ⟨Ao57, co57, eo57⟩ := Kd.V_slice HO446.out
    subst eo57
    try go_wp2_with (first | ((with_reducible refine gate_callee (f := 42) rfl ?_); refine goesL_ (some 15) rfl rfl Try.func42 (by kernel_rfl) rfl #[.slice Ao57 t444.length co57, .slice A1 y447.length c1] rfl mS_ ?_; (with_reducible refine (compact_Inverse.calls k _ _ t444 _ _ y447 t451 _ ?side1 ?side2 ?side3 ?side4 A7.out).mono ?_); (case side1 => repeat (first | exact (Kd.V_reads' HO446.out).2.2 | (with_reducible refine Kd.C_alloc ?_ _) | (with_reducible refine Kd.C_drewN ?_ _) | (with_reducible refine Kd.C_drew ?_))); (case side2 => exact (Kd.V_reads' HO446.out).2.1); (case side3 => repeat (first | exact (Kd.C_below HR450.out HB.out) | (with_reducible refine Kd.C_alloc ?_ _) | (with_reducible refine Kd.C_drewN ?_ _) | (with_reducible refine Kd.C_drew ?_))); (case side4 => exact HC450.out); rintro e w58 ⟨v452, rfl, ho0, hb⟩; refine ⟨_, rfl, ?_⟩; have n0_ := Aside0.mk (Kd.V_elder' (kV_ HO446.out) (Kd.R_base ho0) hb); have n1_ := Aside0.mk (Kd.R_lower ho0 (wZ bW_)); have n2_ := Aside0.mk (wT bW_ hb); clear HO446; clear HB; have HO446 := n0_; have HO453 := n1_; have HB := n2_; clear n0_ n1_ n2_; (try clear hb); (try clear hb2); (try clear hk); (try clear hi); (try clear ho0)) | ((with_reducible refine gate_callee (f := 44) rfl ?_); refine goesL_ (some 19) rfl rfl Try.func44 (by kernel_rfl) rfl #[.slice Ao57 t444.length co57, .slice A1 y447.length c1] rfl mS_ ?_; (with_reducible refine (catchmentref06_Inverse.calls k _ _ t444 _ _ y447 t454 _ ?side1 ?side2 ?side3 ?side4 A8.out).mono ?_); (case side1 => repeat (first | exact (Kd.V_reads' HO446.out).2.2 | (with_reducible refine Kd.C_alloc ?_ _) | (with_reducible refine Kd.C_drewN ?_ _) | (with_reducible refine Kd.C_drew ?_))); (case side2 => exact (Kd.V_reads' HO446.out).2.1); (case side3 => repeat (first | exact (Kd.C_below HR450.out HB.out) | (with_reducible refine Kd.C_alloc ?_ _) | (with_reducible refine Kd.C_drewN ?_ _) | (with_reducible refine Kd.C_drew ?_))); (case side4 => exact HC450.out); rintro e w59 ⟨v455, rfl, ho0, hb⟩; refine ⟨_, rfl, ?_⟩; have n0_ := Aside0.mk (Kd.V_elder' (kV_ HO446.out) (Kd.R_base ho0) hb); have n1_ := Aside0.mk (Kd.R_elder' (kR_ HO453.out) (Kd.R_base ho0) hb); have n2_ := Aside0.mk (Kd.R_lower (Kd.R_new' ho0 (Kd.R_lt (kR_ HO453.out))) (wZ bW_)); have n3_ := Aside0.mk (wT bW_ hb); clear HO446; clear HO453; clear HB; have HO446 := n0_; have HO453 := n1_; have HO456 := n2_; have HB := n3_; clear n0_ n1_ n2_ n3_; (try clear hb); (try clear hb2); (try clear hk); (try clear hi); (try clear ho0); obtain ⟨Ao60, co60, eo60⟩ := Kd.R_slice HO453.out; subst eo60; obtain ⟨Ao61, co61, eo61⟩ := Kd.R_slice HO456.out; subst eo61) | ((with_reducible refine gate_callee (f := 43) rfl ?_); refine goesL_ (some 20) rfl rfl Try.func43 (by kernel_rfl) rfl #[.slice Ao60 t451.length co60, .slice Ao61 t454.length co61] rfl mS_ ?_; (with_reducible refine (catchmentref04_Same.calls k _ _ t451 _ _ t454 false _ ?side1 ?side2 ?side3 ?side4 A9.out).mono ?_); (case side1 => repeat (first | exact (Kd.R_reads' HO453.out).2.2 | (with_reducible refine Kd.C_alloc ?_ _) | (with_reducible refine Kd.C_drewN ?_ _) | (with_reducible refine Kd.C_drew ?_))); (case side2 => exact (Kd.R_reads' HO453.out).2.1); (case side3 => repeat (first | exact (Kd.R_reads' HO456.out).2.2 | (with_reducible refine Kd.C_alloc ?_ _) | (with_reducible refine Kd.C_drewN ?_ _) | (with_reducible refine Kd.C_drew ?_))); (case side4 => exact (Kd.R_reads' HO456.out).2.1); rintro e w' ⟨rfl, ⟨nd, rfl⟩⟩; refine ⟨_, rfl, ?_⟩))
    go_ret
    exact ⟨by first | rfl | (simp [errW_none, errW_some] <;> rfl) | (simp only [← hji4]; first | rfl | (simp [errW_none, errW_some] <;> rfl)) | (simp [*, errW_none, errW_some] <;> rfl), by repeat (first | (with_reducible first | exact HB.out | apply wA | apply wN | apply w1) | exact HB.out)⟩
  ·rw [if_neg c6] at H
   exact absurd H (by simp)
 ·rw [if_neg c5] at H
  exact absurd H (by simp)
end Go.Proofs.Ytidaiafmhidooaa.P
end
