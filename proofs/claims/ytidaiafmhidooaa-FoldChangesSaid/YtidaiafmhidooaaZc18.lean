/- Texts of this seat's own and of the kit's print program, of one claim: only what the claim uses (laid by wip/tools/shake.py; Lean checks them). -/
import Derived.Test.YtidaiafmhidooaaZc2
import Derived.Test.YtidaiafmhidooaaZc7
import Derived.Test.YtidaiafmhidooaaZc17
import Derived.Test.YtidaiafmhidooaaZc3
import Derived.Test.YtidaiafmhidooaaZc6
import Derived.Test.YtidaiafmhidooaaZc8
section
namespace Go.Proofs.Ytidaiafmhidooaa.P
open Go.RowKit Go.Proofs.YtidaiafmhidooaaW.PrintWords Go.Proofs.YtidaiafmhidooaaW.PrintLast Go.Proofs.YtidaiafmhidooaaW.PrintMore Go.Proofs.Ytidaiafmhidooaa.Own
open Bool renaming true → YY, false → ZZ
open Go.Proofs.YtidaiafmhidooaaW.PrintWords renaming blk_cell → bC, blk_drewN → bN, blk_alloc → bA, pw_below_drewN → wN, blk_drew → bD, below_drew1 → w1, below_set → wS, below_alloc → wA, blk_below → bB, below_step → wT, below_size → wZ
open List renaming setIfInBounds_toArray → sA1, set_cons_zero → sA2, set_cons_succ → sA3, map_toArray → mA1, map_cons → mA2, map_nil → mA3, length_take → mA4, length_drop → mA5
attribute [local go_sem] max2_str max2_int min2_int max_two min_two max_three min_three max_four min_four   -- for this text's walks alone
set_option linter.unusedVariables false
set_option linter.unusedSimpArgs false
attribute [local go_sem high] eqA55
def fold_Entries.f (l0 : List S33) (l1 : List S55) (a2_0 : BA) (a2_1 : BA) : Option (List S55) := Fo.entriesF l0 l1 a2_0 a2_1
theorem fold_Entries.calls (A0 : Option Addr) (c0 : Nat) (l0 : List S33) (A1 : Option Addr) (c1 : Nat) (l1 : List S55) (a2_0 : BA) (a2_1 : BA) (r : List S55) (w : World) (hr0 : Kd.C k33 w A0 l0.length l0) (hc0 : l0.length ≤ c0) (hr1 : Kd.C k55 w A1 l1.length l1) (hc1 : l1.length ≤ c1) (h : fold_Entries.f l0 l1 a2_0 a2_1 = some r) :
  Calls Try.prog 25 #[.slice A0 l0.length c0, .slice A1 l1.length c1, .agg #[.string a2_0, .string a2_1]] w fun e w' => ∃ v0_ : Value, e = .returned (v0_) ∧ Kd.R k55 55 w' w.heap.size (fun _ => True) v0_ r ∧ Below w.heap.size w w' :=
 Fo.entriesF_calls hr0 hc0 hr1 hc1 h
def catchmentlaw05_live.f  : Option (Bool) := (fold_Entries.f (([(⟨1, 0, (⟨#[98]⟩ : BA), (⟨#[]⟩ : BA), (⟨#[50]⟩ : BA), 0⟩ : S33), (⟨4, 0, (⟨#[97]⟩ : BA), (⟨#[98]⟩ : BA), (⟨#[]⟩ : BA), 0⟩ : S33)] : List (S33))) (([(⟨(⟨#[97]⟩ : BA), (⟨#[49]⟩ : BA)⟩ : S55)] : List (S55))) (⟨#[]⟩ : BA) (⟨#[]⟩ : BA)).bind fun t287 => (if (t287.length : Int) = 1 then (if 0 < (t287.length : Int) then (some ((((rd_T55 t287 0).f0).toList) == ([98] : List UInt8) && ((((rd_T55 t287 0).f1).toList) == ([50] : List UInt8)))) else (none)) else (some false))
set_option maxHeartbeats 8000000 in
set_option maxRecDepth 100000 in
theorem catchmentlaw05_live.calls  (r : Bool) (w : World) (h : catchmentlaw05_live.f  = some r) :
  Calls Try.prog 23 #[] w fun e w' => e = .returned (.bool r) ∧ Below w.heap.size w w' := by
 have hu33 := Try.underlying33
 have hu55 := Try.underlying55
 have hu38 := Try.underlying38
 have HB := Aside0.mk (Below.refl w.heap.size w)
 have H : ((fold_Entries.f (([(⟨1, 0, (⟨#[98]⟩ : BA), (⟨#[]⟩ : BA), (⟨#[50]⟩ : BA), 0⟩ : S33), (⟨4, 0, (⟨#[97]⟩ : BA), (⟨#[98]⟩ : BA), (⟨#[]⟩ : BA), 0⟩ : S33)] : List (S33))) (([(⟨(⟨#[97]⟩ : BA), (⟨#[49]⟩ : BA)⟩ : S55)] : List (S55))) (⟨#[]⟩ : BA) (⟨#[]⟩ : BA)).bind fun t287 => (if (t287.length : Int) = 1 then (if 0 < (t287.length : Int) then (some ((((rd_T55 t287 0).f0).toList) == ([98] : List UInt8) && ((((rd_T55 t287 0).f1).toList) == ([50] : List UInt8)))) else (none)) else (some false))) = some r := h
 clear h
 obtain ⟨y281, hy281⟩ : ∃ y_ : List (S33), y_ = (([(⟨1, 0, (⟨#[98]⟩ : BA), (⟨#[]⟩ : BA), (⟨#[50]⟩ : BA), 0⟩ : S33), (⟨4, 0, (⟨#[97]⟩ : BA), (⟨#[98]⟩ : BA), (⟨#[]⟩ : BA), 0⟩ : S33)] : List (S33))) := ⟨_, rfl⟩
 replace H : ((fold_Entries.f y281 (([(⟨(⟨#[97]⟩ : BA), (⟨#[49]⟩ : BA)⟩ : S55)] : List (S55))) (⟨#[]⟩ : BA) (⟨#[]⟩ : BA)).bind fun t287 => (if (t287.length : Int) = 1 then (if 0 < (t287.length : Int) then (some ((((rd_T55 t287 0).f0).toList) == ([98] : List UInt8) && ((((rd_T55 t287 0).f1).toList) == ([50] : List UInt8)))) else (none)) else (some false))) = some r := by first | (rw [hy281]; with_reducible exact H) | (have H2_ := (Option.bind_some _ _).symm.trans H; rw [hy281]; with_reducible exact H2_) | (have H2_ := (Option.bind_some _ _).symm.trans H; with_reducible exact H2_) | with_reducible exact H | (rw [hy281]; exact H) | exact H
 have Ny281 := Aside0.mk hy281
 clear hy281
 obtain ⟨y284, hy284⟩ : ∃ y_ : List (S55), y_ = (([(⟨(⟨#[97]⟩ : BA), (⟨#[49]⟩ : BA)⟩ : S55)] : List (S55))) := ⟨_, rfl⟩
 replace H : ((fold_Entries.f y281 y284 (⟨#[]⟩ : BA) (⟨#[]⟩ : BA)).bind fun t287 => (if (t287.length : Int) = 1 then (if 0 < (t287.length : Int) then (some ((((rd_T55 t287 0).f0).toList) == ([98] : List UInt8) && ((((rd_T55 t287 0).f1).toList) == ([50] : List UInt8)))) else (none)) else (some false))) = some r := by first | (rw [hy284]; with_reducible exact H) | (have H2_ := (Option.bind_some _ _).symm.trans H; rw [hy284]; with_reducible exact H2_) | (have H2_ := (Option.bind_some _ _).symm.trans H; with_reducible exact H2_) | with_reducible exact H | (rw [hy284]; exact H) | exact H
 have Ny284 := Aside0.mk hy284
 clear hy284
 replace H := Option.bind_eq_some_iff.mp H
 obtain ⟨t287, A10, H⟩ := H
 replace H : (if (t287.length : Int) = 1 then (if 0 < (t287.length : Int) then (some ((((rd_T55 t287 0).f0).toList) == ([98] : List UInt8) && ((((rd_T55 t287 0).f1).toList) == ([50] : List UInt8)))) else (none)) else (some false)) = some r := H
 have A1 := Aside0.mk A10
 clear A10
 by_cases c2 : (t287.length : Int) = 1
 ·rw [if_pos c2] at H
  have c2b0 : ((t287.length : Int) == 1) = true := beq_iff_eq.mpr c2
  have c2b1 : ((t287.length : Int) != 1) = false := bne_eq_false_iff_eq.mpr c2
  clear c2
  by_cases c3 : 0 < (t287.length : Int)
  ·rw [if_pos c3] at H
   have c3b0 : decide (0 < (t287.length : Int)) = true := decide_eq_true c3
   have c3b1 : decide (0 < t287.length) = true := decide_eq_true (by omega)
   clear c3
   obtain rfl := Option.some.inj H
   go_enter Try.func23, Try.ntmps23
   go_wp2_with (first | ((with_reducible refine gate_dst (N := 4) rfl ?_); refine Kd.R_lit k33 _ 33 ?hg (N := 4) ?hd (xs := ([(⟨1, 0, (⟨#[98]⟩ : BA), (⟨#[]⟩ : BA), (⟨#[50]⟩ : BA), 0⟩ : S33), (⟨4, 0, (⟨#[97]⟩ : BA), (⟨#[98]⟩ : BA), (⟨#[]⟩ : BA), 0⟩ : S33)] : List (S33))) (inner := [.int .u8 1, .int .i64 0, .string (⟨#[98]⟩ : BA), .string (⟨#[]⟩ : BA), .string (⟨#[50]⟩ : BA), .int .u64 0, .int .u8 4, .int .i64 0, .string (⟨#[97]⟩ : BA), .string (⟨#[98]⟩ : BA), .string (⟨#[]⟩ : BA), .int .u64 0]) (ok := fun _ => True) (okp := fun _ => True) ?hr ?hp (fun _ hk => hk) trivial (Below.refl _ _) (Nat.le_refl _) (by simp) ?_; (case hd => rfl); (case hg => rfl); (case hr => first | (go_simp; done) | (go_simp; rfl)); (case hp => exact (Reps.c6 (show Kd.M k33 _ _ _ (⟨1, 0, (⟨#[98]⟩ : BA), (⟨#[]⟩ : BA), (⟨#[50]⟩ : BA), 0⟩ : S33) [.int .u8 1, .int .i64 0, .string (⟨#[98]⟩ : BA), .string (⟨#[]⟩ : BA), .string (⟨#[50]⟩ : BA), .int .u64 0] from (k33_mkM _ _ _ (⟨1, 0, (⟨#[98]⟩ : BA), (⟨#[]⟩ : BA), (⟨#[50]⟩ : BA), 0⟩ : S33) )) (Reps.c6 (show Kd.M k33 _ _ _ (⟨4, 0, (⟨#[97]⟩ : BA), (⟨#[98]⟩ : BA), (⟨#[]⟩ : BA), 0⟩ : S33) [.int .u8 4, .int .i64 0, .string (⟨#[97]⟩ : BA), .string (⟨#[98]⟩ : BA), .string (⟨#[]⟩ : BA), .int .u64 0] from (k33_mkM _ _ _ (⟨4, 0, (⟨#[97]⟩ : BA), (⟨#[98]⟩ : BA), (⟨#[]⟩ : BA), 0⟩ : S33) )) (Reps.none _ _)))); intro v282 w4 ho5 hb hg_ hnew_; clear hg_ hnew_; (first | rw [← Ny281.out] at ho5 | (simp only [Int.reduceToNat] at ho5; rw [← Ny281.out] at ho5)); have n0_ := Aside0.mk (Kd.R_lower ho5 (wZ (by repeat (first | (with_reducible first | exact HB.out | apply wA | apply wN | apply w1) | exact HB.out)))); have n1_ := Aside0.mk (wT (by repeat (first | (with_reducible first | exact HB.out | apply wA | apply wN | apply w1) | exact HB.out)) hb); clear HB; have HO283 := n0_; have HB := n1_; clear n0_ n1_; clear hb ho5) | ((with_reducible refine gate_dst (N := 6) rfl ?_); refine Kd.R_lit k55 _ 55 ?hg (N := 6) ?hd (xs := ([(⟨(⟨#[97]⟩ : BA), (⟨#[49]⟩ : BA)⟩ : S55)] : List (S55))) (inner := [.string (⟨#[97]⟩ : BA), .string (⟨#[49]⟩ : BA)]) (ok := fun _ => True) (okp := fun _ => True) ?hr ?hp (fun _ hk => hk) trivial (Below.refl _ _) (Nat.le_refl _) (by simp) ?_; (case hd => rfl); (case hg => rfl); (case hr => first | (go_simp; done) | (go_simp; rfl)); (case hp => exact (Reps.c2 (show Kd.M k55 _ _ _ (⟨(⟨#[97]⟩ : BA), (⟨#[49]⟩ : BA)⟩ : S55) [.string (⟨#[97]⟩ : BA), .string (⟨#[49]⟩ : BA)] from (k55_mkM _ _ _ (⟨(⟨#[97]⟩ : BA), (⟨#[49]⟩ : BA)⟩ : S55) )) (Reps.none _ _))); intro v285 w6 ho7 hb hg_ hnew_; clear hg_ hnew_; (first | rw [← Ny284.out] at ho7 | (simp only [Int.reduceToNat] at ho7; rw [← Ny284.out] at ho7)); have n0_ := Aside0.mk (Kd.R_below (by (with_reducible repeat (first | apply Kd.R_alloc | apply Kd.R_drewN | apply Kd.R_drew)); exact HO283.out) hb); have n1_ := Aside0.mk (Kd.R_lower ho7 (wZ (by repeat (first | (with_reducible first | exact HB.out | apply wA | apply wN | apply w1) | exact HB.out)))); have n2_ := Aside0.mk (wT (by repeat (first | (with_reducible first | exact HB.out | apply wA | apply wN | apply w1) | exact HB.out)) hb); clear HO283; clear HB; have HO283 := n0_; have HO286 := n1_; have HB := n2_; clear n0_ n1_ n2_; clear hb ho7; obtain ⟨Ao8, co8, eo8⟩ := Kd.R_slice HO283.out; subst eo8; obtain ⟨Ao9, co9, eo9⟩ := Kd.R_slice HO286.out; subst eo9) | ((with_reducible refine gate_callee (f := 25) rfl ?_); refine goesL_ (some 8) rfl rfl Try.func25 (by kernel_rfl) rfl #[.slice Ao8 y281.length co8, .slice Ao9 y284.length co9, .agg #[.string (⟨#[]⟩ : BA), .string (⟨#[]⟩ : BA)]] rfl (by (try simp only [mA1, mA2, mA3]); first | done | rfl | (simp only [mA5, mA4]; rfl)) ?_; (with_reducible refine (fold_Entries.calls _ _ y281 _ _ y284 (⟨#[]⟩ : BA) (⟨#[]⟩ : BA) t287 _ ?side1 ?side2 ?side3 ?side4 A1.out).mono ?_); (case side1 => repeat (first | exact (Kd.R_reads' HO283.out).2.2 | (with_reducible refine Kd.C_alloc ?_ _) | (with_reducible refine Kd.C_drewN ?_ _) | (with_reducible refine Kd.C_drew ?_))); (case side2 => exact (Kd.R_reads' HO283.out).2.1); (case side3 => repeat (first | exact (Kd.R_reads' HO286.out).2.2 | (with_reducible refine Kd.C_alloc ?_ _) | (with_reducible refine Kd.C_drewN ?_ _) | (with_reducible refine Kd.C_drew ?_))); (case side4 => exact (Kd.R_reads' HO286.out).2.1); rintro e w10 ⟨v288, rfl, ho0, hb⟩; refine ⟨_, rfl, ?_⟩; have n0_ := Aside0.mk (Kd.R_below (by (with_reducible repeat (first | apply Kd.R_alloc | apply Kd.R_drewN | apply Kd.R_drew)); exact HO283.out) hb); have n1_ := Aside0.mk (Kd.R_elder' (by (with_reducible repeat (first | apply Kd.R_alloc | apply Kd.R_drewN | apply Kd.R_drew)); exact HO286.out) (Kd.R_base ho0) hb); have n2_ := Aside0.mk (Kd.R_lower (Kd.R_new' ho0 (Kd.R_lt (by (with_reducible repeat (first | apply Kd.R_alloc | apply Kd.R_drewN | apply Kd.R_drew)); exact HO286.out))) (wZ (by repeat (first | (with_reducible first | exact HB.out | apply wA | apply wN | apply w1) | exact HB.out)))); have n3_ := Aside0.mk (wT (by repeat (first | (with_reducible first | exact HB.out | apply wA | apply wN | apply w1) | exact HB.out)) hb); clear HO283; clear HO286; clear HB; have HO283 := n0_; have HO286 := n1_; have HO289 := n2_; have HB := n3_; clear n0_ n1_ n2_ n3_; (try clear hb); (try clear hb2); (try clear hk); (try clear hi); (try clear ho0); obtain ⟨Ao11, co11, eo11⟩ := Kd.R_slice HO289.out; subst eo11; have p290 : 0 ≤ (0 : Int) := (by omega); have q290 : 0 < (t287.length : Int) := of_decide_eq_true (by first | (with_reducible assumption) | assumption); obtain ⟨ad290, e290, hx290_0, hx290_1⟩ := at_T55 (Kd.R_reads' HO289.out).2.2 0 p290 q290; cases e290; have qi290 : (0 < t287.length) = True := eq_true (by omega); (try rw [show ((0 : Int)).toNat = 0 from rfl] at hx290_0); (try rw [show 0 * 2 = 0 from rfl] at hx290_0); (try rw [Addr.add_zero'] at hx290_0); (try rw [show ((0 : Int)).toNat = 0 from rfl] at hx290_1); (try rw [show 0 * 2 = 0 from rfl] at hx290_1); (try rw [Addr.add_zero'] at hx290_1); replace p290 := eq_true p290; replace q290 := eq_true q290))
   go_ret
   exact ⟨by first | rfl | (simp [errW_none, errW_some] <;> rfl) | (simp [*, errW_none, errW_some] <;> rfl), by repeat (first | (with_reducible first | exact HB.out | apply wA | apply wN | apply w1) | exact HB.out)⟩
  ·rw [if_neg c3] at H
   exact absurd H (by simp)
 ·rw [if_neg c2] at H
  have c2b0 : ((t287.length : Int) == 1) = false := beq_eq_false_iff_ne.mpr c2
  have c2b1 : ((t287.length : Int) != 1) = true := bne_iff_ne.mpr c2
  obtain rfl := Option.some.inj H
  go_enter Try.func23, Try.ntmps23
  go_wp2_with (first | ((with_reducible refine gate_dst (N := 4) rfl ?_); refine Kd.R_lit k33 _ 33 ?hg (N := 4) ?hd (xs := ([(⟨1, 0, (⟨#[98]⟩ : BA), (⟨#[]⟩ : BA), (⟨#[50]⟩ : BA), 0⟩ : S33), (⟨4, 0, (⟨#[97]⟩ : BA), (⟨#[98]⟩ : BA), (⟨#[]⟩ : BA), 0⟩ : S33)] : List (S33))) (inner := [.int .u8 1, .int .i64 0, .string (⟨#[98]⟩ : BA), .string (⟨#[]⟩ : BA), .string (⟨#[50]⟩ : BA), .int .u64 0, .int .u8 4, .int .i64 0, .string (⟨#[97]⟩ : BA), .string (⟨#[98]⟩ : BA), .string (⟨#[]⟩ : BA), .int .u64 0]) (ok := fun _ => True) (okp := fun _ => True) ?hr ?hp (fun _ hk => hk) trivial (Below.refl _ _) (Nat.le_refl _) (by simp) ?_; (case hd => rfl); (case hg => rfl); (case hr => first | (go_simp; done) | (go_simp; rfl)); (case hp => exact (Reps.c6 (show Kd.M k33 _ _ _ (⟨1, 0, (⟨#[98]⟩ : BA), (⟨#[]⟩ : BA), (⟨#[50]⟩ : BA), 0⟩ : S33) [.int .u8 1, .int .i64 0, .string (⟨#[98]⟩ : BA), .string (⟨#[]⟩ : BA), .string (⟨#[50]⟩ : BA), .int .u64 0] from (k33_mkM _ _ _ (⟨1, 0, (⟨#[98]⟩ : BA), (⟨#[]⟩ : BA), (⟨#[50]⟩ : BA), 0⟩ : S33) )) (Reps.c6 (show Kd.M k33 _ _ _ (⟨4, 0, (⟨#[97]⟩ : BA), (⟨#[98]⟩ : BA), (⟨#[]⟩ : BA), 0⟩ : S33) [.int .u8 4, .int .i64 0, .string (⟨#[97]⟩ : BA), .string (⟨#[98]⟩ : BA), .string (⟨#[]⟩ : BA), .int .u64 0] from (k33_mkM _ _ _ (⟨4, 0, (⟨#[97]⟩ : BA), (⟨#[98]⟩ : BA), (⟨#[]⟩ : BA), 0⟩ : S33) )) (Reps.none _ _)))); intro v282 w12 ho13 hb hg_ hnew_; clear hg_ hnew_; (first | rw [← Ny281.out] at ho13 | (simp only [Int.reduceToNat] at ho13; rw [← Ny281.out] at ho13)); have n0_ := Aside0.mk (Kd.R_lower ho13 (wZ (by repeat (first | (with_reducible first | exact HB.out | apply wA | apply wN | apply w1) | exact HB.out)))); have n1_ := Aside0.mk (wT (by repeat (first | (with_reducible first | exact HB.out | apply wA | apply wN | apply w1) | exact HB.out)) hb); clear HB; have HO283 := n0_; have HB := n1_; clear n0_ n1_; clear hb ho13) | ((with_reducible refine gate_dst (N := 6) rfl ?_); refine Kd.R_lit k55 _ 55 ?hg (N := 6) ?hd (xs := ([(⟨(⟨#[97]⟩ : BA), (⟨#[49]⟩ : BA)⟩ : S55)] : List (S55))) (inner := [.string (⟨#[97]⟩ : BA), .string (⟨#[49]⟩ : BA)]) (ok := fun _ => True) (okp := fun _ => True) ?hr ?hp (fun _ hk => hk) trivial (Below.refl _ _) (Nat.le_refl _) (by simp) ?_; (case hd => rfl); (case hg => rfl); (case hr => first | (go_simp; done) | (go_simp; rfl)); (case hp => exact (Reps.c2 (show Kd.M k55 _ _ _ (⟨(⟨#[97]⟩ : BA), (⟨#[49]⟩ : BA)⟩ : S55) [.string (⟨#[97]⟩ : BA), .string (⟨#[49]⟩ : BA)] from (k55_mkM _ _ _ (⟨(⟨#[97]⟩ : BA), (⟨#[49]⟩ : BA)⟩ : S55) )) (Reps.none _ _))); intro v285 w14 ho15 hb hg_ hnew_; clear hg_ hnew_; (first | rw [← Ny284.out] at ho15 | (simp only [Int.reduceToNat] at ho15; rw [← Ny284.out] at ho15)); have n0_ := Aside0.mk (Kd.R_below (by (with_reducible repeat (first | apply Kd.R_alloc | apply Kd.R_drewN | apply Kd.R_drew)); exact HO283.out) hb); have n1_ := Aside0.mk (Kd.R_lower ho15 (wZ (by repeat (first | (with_reducible first | exact HB.out | apply wA | apply wN | apply w1) | exact HB.out)))); have n2_ := Aside0.mk (wT (by repeat (first | (with_reducible first | exact HB.out | apply wA | apply wN | apply w1) | exact HB.out)) hb); clear HO283; clear HB; have HO283 := n0_; have HO286 := n1_; have HB := n2_; clear n0_ n1_ n2_; clear hb ho15; obtain ⟨Ao16, co16, eo16⟩ := Kd.R_slice HO283.out; subst eo16; obtain ⟨Ao17, co17, eo17⟩ := Kd.R_slice HO286.out; subst eo17) | ((with_reducible refine gate_callee (f := 25) rfl ?_); refine goesL_ (some 8) rfl rfl Try.func25 (by kernel_rfl) rfl #[.slice Ao16 y281.length co16, .slice Ao17 y284.length co17, .agg #[.string (⟨#[]⟩ : BA), .string (⟨#[]⟩ : BA)]] rfl (by (try simp only [mA1, mA2, mA3]); first | done | rfl | (simp only [mA5, mA4]; rfl)) ?_; (with_reducible refine (fold_Entries.calls _ _ y281 _ _ y284 (⟨#[]⟩ : BA) (⟨#[]⟩ : BA) t287 _ ?side1 ?side2 ?side3 ?side4 A1.out).mono ?_); (case side1 => repeat (first | exact (Kd.R_reads' HO283.out).2.2 | (with_reducible refine Kd.C_alloc ?_ _) | (with_reducible refine Kd.C_drewN ?_ _) | (with_reducible refine Kd.C_drew ?_))); (case side2 => exact (Kd.R_reads' HO283.out).2.1); (case side3 => repeat (first | exact (Kd.R_reads' HO286.out).2.2 | (with_reducible refine Kd.C_alloc ?_ _) | (with_reducible refine Kd.C_drewN ?_ _) | (with_reducible refine Kd.C_drew ?_))); (case side4 => exact (Kd.R_reads' HO286.out).2.1); rintro e w18 ⟨v288, rfl, ho0, hb⟩; refine ⟨_, rfl, ?_⟩; have n0_ := Aside0.mk (Kd.R_below (by (with_reducible repeat (first | apply Kd.R_alloc | apply Kd.R_drewN | apply Kd.R_drew)); exact HO283.out) hb); have n1_ := Aside0.mk (Kd.R_elder' (by (with_reducible repeat (first | apply Kd.R_alloc | apply Kd.R_drewN | apply Kd.R_drew)); exact HO286.out) (Kd.R_base ho0) hb); have n2_ := Aside0.mk (Kd.R_lower (Kd.R_new' ho0 (Kd.R_lt (by (with_reducible repeat (first | apply Kd.R_alloc | apply Kd.R_drewN | apply Kd.R_drew)); exact HO286.out))) (wZ (by repeat (first | (with_reducible first | exact HB.out | apply wA | apply wN | apply w1) | exact HB.out)))); have n3_ := Aside0.mk (wT (by repeat (first | (with_reducible first | exact HB.out | apply wA | apply wN | apply w1) | exact HB.out)) hb); clear HO283; clear HO286; clear HB; have HO283 := n0_; have HO286 := n1_; have HO289 := n2_; have HB := n3_; clear n0_ n1_ n2_ n3_; (try clear hb); (try clear hb2); (try clear hk); (try clear hi); (try clear ho0); obtain ⟨Ao19, co19, eo19⟩ := Kd.R_slice HO289.out; subst eo19))
  go_ret
  exact ⟨by first | rfl | (simp [errW_none, errW_some] <;> rfl) | (simp [*, errW_none, errW_some] <;> rfl), by repeat (first | (with_reducible first | exact HB.out | apply wA | apply wN | apply w1) | exact HB.out)⟩
end Go.Proofs.Ytidaiafmhidooaa.P
end
section
namespace Go.Proofs.Ytidaiafmhidooaa.P
open Go.RowKit Go.Proofs.YtidaiafmhidooaaW.PrintWords Go.Proofs.YtidaiafmhidooaaW.PrintLast Go.Proofs.YtidaiafmhidooaaW.PrintMore Go.Proofs.Ytidaiafmhidooaa.Own
attribute [local go_sem] max2_str max2_int min2_int max_two min_two max_three min_three max_four min_four   -- for this text's walks alone
set_option linter.unusedVariables false
set_option linter.unusedSimpArgs false
def fold_Changed.f (l0 : List S33) (l1 : List S55) : Option (List ByteArray) := Fo.changedF l0 l1
theorem fold_Changed.calls (A0 : Option Addr) (c0 : Nat) (l0 : List S33) (A1 : Option Addr) (c1 : Nat) (l1 : List S55) (r : List ByteArray) (w : World) (hr0 : Kd.C k33 w A0 l0.length l0) (hc0 : l0.length ≤ c0) (hr1 : Kd.C k55 w A1 l1.length l1) (hc1 : l1.length ≤ c1) (h : fold_Changed.f l0 l1 = some r) :
  Calls Try.prog 32 #[.slice A0 l0.length c0, .slice A1 l1.length c1] w fun e w' => ∃ v0_ : Value, e = .returned (v0_) ∧ Kd.R Kd.string 9 w' w.heap.size (fun _ => True) v0_ r ∧ Below w.heap.size w w' :=
 Fo.changedF_calls hr0 hc0 hr1 hc1 h
end Go.Proofs.Ytidaiafmhidooaa.P
end
section
namespace Go.Proofs.Ytidaiafmhidooaa.P
open Go.RowKit Go.Proofs.YtidaiafmhidooaaW.PrintWords Go.Proofs.YtidaiafmhidooaaW.PrintLast Go.Proofs.YtidaiafmhidooaaW.PrintMore Go.Proofs.Ytidaiafmhidooaa.Own
open Go.Proofs.YtidaiafmhidooaaW.PrintWords renaming blk_cell → bC, blk_frozen → bF, blk_drewN → bN, blk_alloc → bA, pw_below_drewN → wN, blk_drew → bD, below_drew1 → w1, below_set → wS, below_alloc → wA, blk_below → bB, below_step → wT, below_size → wZ, blk_put → bP
open List renaming setIfInBounds_toArray → sA1, set_cons_zero → sA2, set_cons_succ → sA3, map_toArray → mA1, map_cons → mA2, map_nil → mA3, length_take → mA4, length_drop → mA5
attribute [local go_sem] max2_str max2_int min2_int max_two min_two max_three min_three max_four min_four   -- for this text's walks alone
set_option linter.unusedVariables false
set_option linter.unusedSimpArgs false
mutual
def catchmentlaw05_FoldChanges.l0 : Nat → List (S33) → List (S55) → ByteArray → List ByteArray → Bool → Int → Option (Bool)
 | 0, _, _, _, _, _, _ => none
 | k + 1, x0, x1, x2, x7, x8, x9 => if x9 < (x7.length : Int) then (if x8 = true then (catchmentlaw05_FoldChanges.l0 k x0 x1 x2 x7 true (wrap64 (x9 + 1))) else (if 0 ≤ x9 then (catchmentlaw05_FoldChanges.l0 k x0 x1 x2 x7 ((rdOf ByteArray.empty x7 x9).toList == x2.toList) (wrap64 (x9 + 1))) else (none))) else ((fold_Entries.f x0 x1 (⟨#[]⟩ : BA) (⟨#[]⟩ : BA)).bind fun t530 => ((catchmentref05_Find.f k x1 x2).bind fun bt533 => ((fold_Find.f k t530 x2).bind fun bt535 => (if bt533.1.toList = bt535.1.toList then (if (x8 == (bt533.2 == bt535.2)) = true then (catchmentlaw05_FoldChanges.j1 k t530 true) else ((fold_Rises.f k t530).bind fun t537 => (catchmentlaw05_FoldChanges.j1 k t530 (!t537)))) else (if (x8 == false) = true then (catchmentlaw05_FoldChanges.j1 k t530 true) else ((fold_Rises.f k t530).bind fun t538 => (catchmentlaw05_FoldChanges.j1 k t530 (!t538))))))))
def catchmentlaw05_FoldChanges.j1 : Nat → List (S55) → Bool → Option (Bool)
 | 0, _, _ => none
 | k + 1, x10, x68 => if x68 = true then (some false) else (catchmentlaw05_FoldChanges.l1 k x10 0)
def catchmentlaw05_FoldChanges.l1 : Nat → List (S55) → Int → Option (Bool)
 | 0, _, _ => none
 | k + 1, x10, x15 => if x15 < (x10.length : Int) then (if 0 ≤ x15 then ((catchmentref02_Holds.f (⟨#[]⟩ : BA) (⟨#[]⟩ : BA) ((rd_T55 x10 x15).f0)).bind fun t540 => (if t540 = true then (catchmentlaw05_FoldChanges.l1 k x10 (wrap64 (x15 + 1))) else (some false))) else (none)) else ((catchmentlaw05_live.f).bind fun t541 => (some t541))
end
def catchmentlaw05_FoldChanges.f (k : Nat) (l0 : List (S33)) (l1 : List (S55)) (a2 : BA) : Option (Bool) := (catchmentlaw05_few.f l0).bind fun t520 => ((catchmentlaw05_some.f l1).bind fun t523 => ((fold_Changed.f t520 t523).bind fun t526 => (catchmentlaw05_FoldChanges.l0 k t520 t523 a2 t526 false 0)))
set_option maxHeartbeats 8000000 in
set_option maxRecDepth 100000 in
theorem catchmentlaw05_FoldChanges.calls (k : Nat) (A0 : Option Addr) (c0 : Nat) (l0 : List (S33)) (A1 : Option Addr) (c1 : Nat) (l1 : List (S55)) (a2 : BA) (r : Bool) (w : World) (hr0 : Kd.C k33 w A0 l0.length l0) (hc0 : l0.length ≤ c0) (hr1 : Kd.C k55 w A1 l1.length l1) (hc1 : l1.length ≤ c1) (h : catchmentlaw05_FoldChanges.f k l0 l1 a2 = some r) :
  Calls Try.prog 9 #[.slice A0 l0.length c0, .slice A1 l1.length c1, .string a2] w fun e w' => e = .returned (.bool r) ∧ Below w.heap.size w w' := by
 have hu38 := Try.underlying38
 have HR0 := Aside0.mk hr0
 have HC0 := Aside0.mk hc0
 clear hr0 hc0
 have HR1 := Aside0.mk hr1
 have HC1 := Aside0.mk hc1
 clear hr1 hc1
 have HB := Aside0.mk (Below.refl w.heap.size w)
 have H : ((catchmentlaw05_few.f l0).bind fun t520 => ((catchmentlaw05_some.f l1).bind fun t523 => ((fold_Changed.f t520 t523).bind fun t526 => (catchmentlaw05_FoldChanges.l0 k t520 t523 a2 t526 false 0)))) = some r := h
 clear h
 replace H := Option.bind_eq_some_iff.mp H
 obtain ⟨t520, A40, H⟩ := H
 replace H : ((catchmentlaw05_some.f l1).bind fun t523 => ((fold_Changed.f t520 t523).bind fun t526 => (catchmentlaw05_FoldChanges.l0 k t520 t523 a2 t526 false 0))) = some r := H
 have A4 := Aside0.mk A40
 clear A40
 replace H := Option.bind_eq_some_iff.mp H
 obtain ⟨t523, A50, H⟩ := H
 replace H : ((fold_Changed.f t520 t523).bind fun t526 => (catchmentlaw05_FoldChanges.l0 k t520 t523 a2 t526 false 0)) = some r := H
 have A5 := Aside0.mk A50
 clear A50
 replace H := Option.bind_eq_some_iff.mp H
 obtain ⟨t526, A60, H⟩ := H
 replace H : (catchmentlaw05_FoldChanges.l0 k t520 t523 a2 t526 false 0) = some r := H
 have A6 := Aside0.mk A60
 clear A60
 have H' := Aside0.mk H
 clear H
 go_enter Try.func9, Try.ntmps9
 go_wp2_with (first | ((with_reducible refine gate_callee (f := 21) rfl ?_); refine goesL_ (some 17) rfl rfl Try.func21 (by kernel_rfl) rfl #[.slice A0 l0.length c0] rfl (by (try simp only [mA1, mA2, mA3]); first | done | rfl | (simp only [mA5, mA4]; rfl)) ?_; (with_reducible refine (catchmentlaw05_few.calls (fun k_ => k_ < w.heap.size) _ _ l0 t520 _ ?side1 A4.out).mono ?_); (case side1 => exact Kd.V_mk HC0.out (Kd.F_below (Kd.C_F k33_heap HR0.out) (by repeat (first | (with_reducible first | exact HB.out | apply wA | apply wN | apply w1) | exact HB.out)))); rintro e w7 ⟨v521, rfl, ho0, hb⟩; refine ⟨_, rfl, ?_⟩; have n0_ := Aside0.mk (Kd.V_lower (Kd.V_mono (ok' := fun k_ => True) ho0 (fun k_ hk_ => trivial)) (wZ (by repeat (first | (with_reducible first | exact HB.out | apply wA | apply wN | apply w1) | exact HB.out)))); have n1_ := Aside0.mk (wT (by repeat (first | (with_reducible first | exact HB.out | apply wA | apply wN | apply w1) | exact HB.out)) hb); clear HB; have HO522 := n0_; have HB := n1_; clear n0_ n1_; (try clear hb); (try clear hb2); (try clear hk); (try clear hi); (try clear ho0)) | ((with_reducible refine gate_callee (f := 22) rfl ?_); refine goesL_ (some 19) rfl rfl Try.func22 (by kernel_rfl) rfl #[.slice A1 l1.length c1] rfl (by (try simp only [mA1, mA2, mA3]); first | done | rfl | (simp only [mA5, mA4]; rfl)) ?_; (with_reducible refine (catchmentlaw05_some.calls (fun k_ => k_ < w.heap.size) _ _ l1 t523 _ ?side1 A5.out).mono ?_); (case side1 => exact Kd.V_mk HC1.out (Kd.F_below (Kd.C_F k55_heap HR1.out) (by repeat (first | (with_reducible first | exact HB.out | apply wA | apply wN | apply w1) | exact HB.out)))); rintro e w8 ⟨v524, rfl, ho0, hb⟩; refine ⟨_, rfl, ?_⟩; have n0_ := Aside0.mk (Kd.V_below (by (with_reducible repeat (first | apply Kd.V_alloc | apply Kd.V_drewN | apply Kd.V_drew)); exact HO522.out) hb); have n1_ := Aside0.mk (Kd.V_lower (Kd.V_mono (ok' := fun k_ => True) ho0 (fun k_ hk_ => trivial)) (wZ (by repeat (first | (with_reducible first | exact HB.out | apply wA | apply wN | apply w1) | exact HB.out)))); have n2_ := Aside0.mk (wT (by repeat (first | (with_reducible first | exact HB.out | apply wA | apply wN | apply w1) | exact HB.out)) hb); clear HO522; clear HB; have HO522 := n0_; have HO525 := n1_; have HB := n2_; clear n0_ n1_ n2_; (try clear hb); (try clear hb2); (try clear hk); (try clear hi); (try clear ho0); obtain ⟨Ao9, co9, eo9⟩ := Kd.V_slice HO522.out; subst eo9; obtain ⟨Ao10, co10, eo10⟩ := Kd.V_slice HO525.out; subst eo10) | ((with_reducible refine gate_callee (f := 32) rfl ?_); refine goesL_ (some 22) rfl rfl Try.func32 (by kernel_rfl) rfl #[.slice Ao9 t520.length co9, .slice Ao10 t523.length co10] rfl (by (try simp only [mA1, mA2, mA3]); first | done | rfl | (simp only [mA5, mA4]; rfl)) ?_; (with_reducible refine (fold_Changed.calls _ _ t520 _ _ t523 t526 _ ?side1 ?side2 ?side3 ?side4 A6.out).mono ?_); (case side1 => repeat (first | exact (Kd.V_reads' HO522.out).2.2 | (with_reducible refine Kd.C_alloc ?_ _) | (with_reducible refine Kd.C_drewN ?_ _) | (with_reducible refine Kd.C_drew ?_))); (case side2 => exact (Kd.V_reads' HO522.out).2.1); (case side3 => repeat (first | exact (Kd.V_reads' HO525.out).2.2 | (with_reducible refine Kd.C_alloc ?_ _) | (with_reducible refine Kd.C_drewN ?_ _) | (with_reducible refine Kd.C_drew ?_))); (case side4 => exact (Kd.V_reads' HO525.out).2.1); rintro e w11 ⟨v527, rfl, ho0, hb⟩; refine ⟨_, rfl, ?_⟩; have n0_ := Aside0.mk (Kd.V_elder' (by (with_reducible repeat (first | apply Kd.V_alloc | apply Kd.V_drewN | apply Kd.V_drew)); exact HO522.out) (Kd.R_base ho0) hb); have n1_ := Aside0.mk (Kd.V_elder' (by (with_reducible repeat (first | apply Kd.V_alloc | apply Kd.V_drewN | apply Kd.V_drew)); exact HO525.out) (Kd.R_base ho0) hb); have n2_ := Aside0.mk (Kd.R_lower ho0 (wZ (by repeat (first | (with_reducible first | exact HB.out | apply wA | apply wN | apply w1) | exact HB.out)))); have n3_ := Aside0.mk (wT (by repeat (first | (with_reducible first | exact HB.out | apply wA | apply wN | apply w1) | exact HB.out)) hb); clear HO522; clear HO525; clear HB; have HO522 := n0_; have HO525 := n1_; have HO528 := n2_; have HB := n3_; clear n0_ n1_ n2_ n3_; (try clear hb); (try clear hb2); (try clear hk); (try clear hi); (try clear ho0)))
 go_loopg [8, 9] k (fun kq v8 v9 w' => ∃ (x8_1 : Bool) (x9_1 : Int), v8 = .bool x8_1 ∧ v9 = .int .i64 x9_1 ∧ Aside0 (catchmentlaw05_FoldChanges.l0 kq t520 t523 a2 t526 x8_1 x9_1 = some r) ∧ Aside0 (kq ≤ k) ∧ Aside0 (Kd.V k33 33 w' w.heap.size (fun k_ => some k_ ≠ (v527 : Value).ownBlock) (.slice Ao9 t520.length co9) t520) ∧ Aside0 (Kd.V k55 55 w' w.heap.size (fun k_ => some k_ ≠ (v527 : Value).ownBlock) (.slice Ao10 t523.length co10) t523) ∧ Aside0 (Kd.R Kd.string 9 w' w.heap.size (fun _ => True) v527 t526) ∧ Aside0 (Below w.heap.size w w'))
 case atStart => exact ⟨(false), (0), (by first | rfl | (simp; done) | (simp [*]; done)), (by first | rfl | (simp; done) | (simp [*]; done)), H', ⟨Nat.le_refl _⟩, ⟨by (with_reducible repeat (first | apply Kd.V_alloc | apply Kd.V_drewN | apply Kd.V_drew)); exact Kd.V_mono HO522.out (fun _ hk => hk.2)⟩, ⟨by (with_reducible repeat (first | apply Kd.V_alloc | apply Kd.V_drewN | apply Kd.V_drew)); exact Kd.V_mono HO525.out (fun _ hk => hk.2)⟩, ⟨by (with_reducible repeat (first | apply Kd.R_alloc | apply Kd.R_drewN | apply Kd.R_drew)); exact HO528.out⟩, ⟨by repeat (first | (with_reducible first | exact HB.out | apply wA | apply wN | apply w1) | exact HB.out)⟩⟩
 case round =>
  clear H'
  try clear c1
  try clear c2
  try clear p2
  try clear c3
  try clear c9
  obtain ⟨x8_1, x9_1, rfl, rfl, HA, HK1, HO_0, HO_1, HO_7, HB⟩ := hrel
  cases gk with
  | zero => exact absurd HA.out (by simp [catchmentlaw05_FoldChanges.l0])
  | succ k1 =>
   have H := HA.out
   clear HA
   simp only [catchmentlaw05_FoldChanges.l0] at H
   by_cases c12 : x9_1 < (t526.length : Int)
   ·rw [if_pos c12] at H
    have c12b0 : decide (x9_1 < (t526.length : Int)) = true := decide_eq_true c12
    clear c12
    by_cases c13 : x8_1 = true
    ·subst c13
     have H1 : (catchmentlaw05_FoldChanges.l0 k1 t520 t523 a2 t526 true (wrap64 (x9_1 + 1))) = some r := by rw [if_pos rfl] at H; exact H
     clear H
     have H := H1
     clear H1
     have H' := Aside0.mk H
     clear H
     obtain ⟨Ao14, co14, eo14⟩ := Kd.R_slice HO_7.out
     subst eo14
     go_wp2
     go_roundg k1
     case measure => have := HK1.out; omega
     case rel => exact ⟨(true), (wrap64 (x9_1 + 1)), (by first | rfl | (simp; done) | (simp [*]; done)), (by first | rfl | (simp; done) | (simp [*]; done)), H', ⟨by have := HK1.out; omega⟩, ⟨by (with_reducible repeat (first | apply Kd.V_alloc | apply Kd.V_drewN | apply Kd.V_drew)); exact HO_0.out⟩, ⟨by (with_reducible repeat (first | apply Kd.V_alloc | apply Kd.V_drewN | apply Kd.V_drew)); exact HO_1.out⟩, ⟨by (with_reducible repeat (first | apply Kd.R_alloc | apply Kd.R_drewN | apply Kd.R_drew)); exact HO_7.out⟩, ⟨by repeat (first | (with_reducible first | exact HB.out | apply wA | apply wN | apply w1) | exact HB.out)⟩⟩
    ·replace c13 := Bool.eq_false_iff.mpr c13
     subst c13
     have H1 : (if 0 ≤ x9_1 then (catchmentlaw05_FoldChanges.l0 k1 t520 t523 a2 t526 ((rdOf ByteArray.empty t526 x9_1).toList == a2.toList) (wrap64 (x9_1 + 1))) else (none)) = some r := by rw [if_neg (show ¬ (false = true) by decide)] at H; exact H
     clear H
     have H := H1
     clear H1
     by_cases c15 : 0 ≤ x9_1
     ·rw [if_pos c15] at H
      have c15b0 : decide (0 ≤ x9_1) = true := decide_eq_true c15
      clear c15
      have H' := Aside0.mk H
      clear H
      obtain ⟨Ao16, co16, eo16⟩ := Kd.R_slice HO_7.out
      subst eo16
      have p529 : 0 ≤ (x9_1 : Int) := of_decide_eq_true (by first | (with_reducible assumption) | assumption)
      have q529 : x9_1 < (t526.length : Int) := of_decide_eq_true (by first | (with_reducible assumption) | assumption)
      obtain ⟨ad529, e529, hx529_0⟩ := Kd.at_string (Kd.R_reads' HO_7.out).2.2 x9_1 p529 q529
      cases e529
      replace p529 := eq_true p529
      replace q529 := eq_true q529
      go_wp2
      go_roundg k1
      case measure => have := HK1.out; omega
      case rel => exact ⟨(((rdOf ByteArray.empty t526 x9_1).toList == a2.toList)), (wrap64 (x9_1 + 1)), (by first | rfl | (simp; done) | (simp [*]; done)), (by first | rfl | (simp; done) | (simp [*]; done)), H', ⟨by have := HK1.out; omega⟩, ⟨by (with_reducible repeat (first | apply Kd.V_alloc | apply Kd.V_drewN | apply Kd.V_drew)); exact HO_0.out⟩, ⟨by (with_reducible repeat (first | apply Kd.V_alloc | apply Kd.V_drewN | apply Kd.V_drew)); exact HO_1.out⟩, ⟨by (with_reducible repeat (first | apply Kd.R_alloc | apply Kd.R_drewN | apply Kd.R_drew)); exact HO_7.out⟩, ⟨by repeat (first | (with_reducible first | exact HB.out | apply wA | apply wN | apply w1) | exact HB.out)⟩⟩
     ·rw [if_neg c15] at H
      exact absurd H (by simp)
   ·rw [if_neg c12] at H
    have c12b0 : decide (x9_1 < (t526.length : Int)) = false := decide_eq_false c12
    clear c12
    replace H := Option.bind_eq_some_iff.mp H
    obtain ⟨t530, A170, H⟩ := H
    replace H : ((catchmentref05_Find.f k1 t523 a2).bind fun bt533 => ((fold_Find.f k1 t530 a2).bind fun bt535 => (if bt533.1.toList = bt535.1.toList then (if (x8_1 == (bt533.2 == bt535.2)) = true then (catchmentlaw05_FoldChanges.j1 k1 t530 true) else ((fold_Rises.f k1 t530).bind fun t537 => (catchmentlaw05_FoldChanges.j1 k1 t530 (!t537)))) else (if (x8_1 == false) = true then (catchmentlaw05_FoldChanges.j1 k1 t530 true) else ((fold_Rises.f k1 t530).bind fun t538 => (catchmentlaw05_FoldChanges.j1 k1 t530 (!t538))))))) = some r := H
    have A17 := Aside0.mk A170
    clear A170
    replace H := Option.bind_eq_some_iff.mp H
    obtain ⟨⟨t533, t534⟩, A180, H⟩ := H
    replace H : ((fold_Find.f k1 t530 a2).bind fun bt535 => (if t533.toList = bt535.1.toList then (if (x8_1 == (t534 == bt535.2)) = true then (catchmentlaw05_FoldChanges.j1 k1 t530 true) else ((fold_Rises.f k1 t530).bind fun t537 => (catchmentlaw05_FoldChanges.j1 k1 t530 (!t537)))) else (if (x8_1 == false) = true then (catchmentlaw05_FoldChanges.j1 k1 t530 true) else ((fold_Rises.f k1 t530).bind fun t538 => (catchmentlaw05_FoldChanges.j1 k1 t530 (!t538)))))) = some r := H
    have A18 := Aside0.mk A180
    clear A180
    replace H := Option.bind_eq_some_iff.mp H
    obtain ⟨⟨t535, t536⟩, A190, H⟩ := H
    replace H : (if t533.toList = t535.toList then (if (x8_1 == (t534 == t536)) = true then (catchmentlaw05_FoldChanges.j1 k1 t530 true) else ((fold_Rises.f k1 t530).bind fun t537 => (catchmentlaw05_FoldChanges.j1 k1 t530 (!t537)))) else (if (x8_1 == false) = true then (catchmentlaw05_FoldChanges.j1 k1 t530 true) else ((fold_Rises.f k1 t530).bind fun t538 => (catchmentlaw05_FoldChanges.j1 k1 t530 (!t538))))) = some r := H
    have A19 := Aside0.mk A190
    clear A190
    have HC20 := Aside0.mk H
    clear H
    obtain ⟨Ao21, co21, eo21⟩ := Kd.R_slice HO_7.out
    subst eo21
    go_upto_region 11 with (first | ((with_reducible refine gate_callee (f := 25) rfl ?_); refine goesL_ (some 41) rfl rfl Try.func25 (by kernel_rfl) rfl #[.slice Ao9 t520.length co9, .slice Ao10 t523.length co10, .agg #[.string (⟨#[]⟩ : BA), .string (⟨#[]⟩ : BA)]] rfl (by (try simp only [mA1, mA2, mA3]); first | done | rfl | (simp only [mA5, mA4]; rfl)) ?_; (with_reducible refine (fold_Entries.calls _ _ t520 _ _ t523 (⟨#[]⟩ : BA) (⟨#[]⟩ : BA) t530 _ ?side1 ?side2 ?side3 ?side4 A17.out).mono ?_); (case side1 => repeat (first | exact (Kd.V_reads' HO_0.out).2.2 | (with_reducible refine Kd.C_alloc ?_ _) | (with_reducible refine Kd.C_drewN ?_ _) | (with_reducible refine Kd.C_drew ?_))); (case side2 => exact (Kd.V_reads' HO_0.out).2.1); (case side3 => repeat (first | exact (Kd.V_reads' HO_1.out).2.2 | (with_reducible refine Kd.C_alloc ?_ _) | (with_reducible refine Kd.C_drewN ?_ _) | (with_reducible refine Kd.C_drew ?_))); (case side4 => exact (Kd.V_reads' HO_1.out).2.1); rintro e w22 ⟨v531, rfl, ho0, hb⟩; refine ⟨_, rfl, ?_⟩; have n0_ := Aside0.mk (Kd.V_elder' (by (with_reducible repeat (first | apply Kd.V_alloc | apply Kd.V_drewN | apply Kd.V_drew)); exact HO_0.out) (Kd.R_base ho0) hb); have n1_ := Aside0.mk (Kd.V_elder' (by (with_reducible repeat (first | apply Kd.V_alloc | apply Kd.V_drewN | apply Kd.V_drew)); exact HO_1.out) (Kd.R_base ho0) hb); have n2_ := Aside0.mk (Kd.R_below (by (with_reducible repeat (first | apply Kd.R_alloc | apply Kd.R_drewN | apply Kd.R_drew)); exact HO_7.out) hb); have n3_ := Aside0.mk (Kd.R_lower ho0 (wZ (by repeat (first | (with_reducible first | exact HB.out | apply wA | apply wN | apply w1) | exact HB.out)))); have n4_ := Aside0.mk (wT (by repeat (first | (with_reducible first | exact HB.out | apply wA | apply wN | apply w1) | exact HB.out)) hb); clear HO_0; clear HO_1; clear HO_7; clear HB; have HO_0 := n0_; have HO_1 := n1_; have HO_7 := n2_; have HO532 := n3_; have HB := n4_; clear n0_ n1_ n2_ n3_ n4_; (try clear hb); (try clear hb2); (try clear hk); (try clear hi); (try clear ho0)) | ((with_reducible refine gate_callee (f := 34) rfl ?_); refine goesL_ (some 45) rfl rfl Try.func34 (by kernel_rfl) rfl #[.slice Ao10 t523.length co10, .string a2] rfl (by (try simp only [mA1, mA2, mA3]); first | done | rfl | (simp only [mA5, mA4]; rfl)) ?_; (with_reducible refine (catchmentref05_Find.calls k1 _ _ t523 a2 t533 t534 _ ?side1 ?side2 A18.out).mono ?_); (case side1 => repeat (first | exact (Kd.V_reads' HO_1.out).2.2 | (with_reducible refine Kd.C_alloc ?_ _) | (with_reducible refine Kd.C_drewN ?_ _) | (with_reducible refine Kd.C_drew ?_))); (case side2 => exact (Kd.V_reads' HO_1.out).2.1); rintro e w' ⟨rfl, ⟨nd, rfl⟩⟩; refine ⟨_, rfl, ?_⟩; obtain ⟨Ao23, co23, eo23⟩ := Kd.R_slice HO532.out; subst eo23) | ((with_reducible refine gate_callee (f := 35) rfl ?_); refine goesL_ (some 51) rfl rfl Try.func35 (by kernel_rfl) rfl #[.slice Ao23 t530.length co23, .string a2] rfl (by (try simp only [mA1, mA2, mA3]); first | done | rfl | (simp only [mA5, mA4]; rfl)) ?_; (with_reducible refine (fold_Find.calls k1 _ _ t530 a2 t535 t536 _ ?side1 ?side2 A19.out).mono ?_); (case side1 => repeat (first | exact (Kd.R_reads' HO532.out).2.2 | (with_reducible refine Kd.C_alloc ?_ _) | (with_reducible refine Kd.C_drewN ?_ _) | (with_reducible refine Kd.C_drew ?_))); (case side2 => exact (Kd.R_reads' HO532.out).2.1); rintro e w24 ⟨rfl, hb⟩; refine ⟨_, rfl, ?_⟩; have n0_ := Aside0.mk (Kd.V_below (by (with_reducible repeat (first | apply Kd.V_alloc | apply Kd.V_drewN | apply Kd.V_drew)); exact HO_0.out) hb); have n1_ := Aside0.mk (Kd.V_below (by (with_reducible repeat (first | apply Kd.V_alloc | apply Kd.V_drewN | apply Kd.V_drew)); exact HO_1.out) hb); have n2_ := Aside0.mk (Kd.R_below (by (with_reducible repeat (first | apply Kd.R_alloc | apply Kd.R_drewN | apply Kd.R_drew)); exact HO_7.out) hb); have n3_ := Aside0.mk (Kd.R_below (by (with_reducible repeat (first | apply Kd.R_alloc | apply Kd.R_drewN | apply Kd.R_drew)); exact HO532.out) hb); have n4_ := Aside0.mk (wT (by repeat (first | (with_reducible first | exact HB.out | apply wA | apply wN | apply w1) | exact HB.out)) hb); clear HO_0; clear HO_1; clear HO_7; clear HO532; clear HB; have HO_0 := n0_; have HO_1 := n1_; have HO_7 := n2_; have HO532 := n3_; have HB := n4_; clear n0_ n1_ n2_ n3_ n4_; (try clear hb); (try clear hb2); (try clear hk); (try clear hi)))
    (try simp only [Act.put, sA1, sA2, sA3])
    go_cut [68] (fun v68 wc => ∃ (kq : Nat) (x68_19 : Bool), v68 = .bool x68_19 ∧ Aside0 (catchmentlaw05_FoldChanges.j1 kq t530 x68_19 = some r) ∧ Aside0 (kq ≤ k1) ∧ Aside0 (Kd.R k55 55 wc w.heap.size (fun _ => True) (.slice Ao23 t530.length co23) t530) ∧ Aside0 (Below w.heap.size w wc))
    case first =>
     have H := HC20.out
     clear HC20
     by_cases c25 : t533.toList = t535.toList
     ·rw [if_pos c25] at H
      have c25b0 : (t533.toList == t535.toList) = true := beq_iff_eq.mpr c25
      have c25b1 : (t533.toList != t535.toList) = false := bne_eq_false_iff_eq.mpr c25
      clear c25
      (first | rw [c25b0] | (simp only [i64_w, i32_w]; rw [c25b0]) | skip)
      by_cases c26 : (x8_1 == (t534 == t536)) = true
      ·rw [if_pos c26] at H
       have c26b0 : (x8_1 == (t534 == t536)) = true := c26
       (try (have c26b1 : decide (x8_1 = (t534 == t536)) = true := by simpa using c26))
       (try (have c26b2 : (x8_1 == (t534 == t536)) = true := by simpa using c26))
       clear c26
       have H' := Aside0.mk H
       clear H
       go_wp2
       go_meet
       case rel => exact ⟨_, (true), (by first | rfl | (simp; done) | (simp [*]; done)), H', ⟨by have := HK1.out; first | omega | exact Nat.le_refl _⟩, ⟨by (with_reducible repeat (first | apply Kd.R_alloc | apply Kd.R_drewN | apply Kd.R_drew)); exact HO532.out⟩, ⟨by repeat (first | (with_reducible first | exact HB.out | apply wA | apply wN | apply w1) | exact HB.out)⟩⟩
      ·rw [if_neg c26] at H
       have c26b0 : (x8_1 == (t534 == t536)) = false := by simpa using c26
       (try (have c26b1 : decide (x8_1 = (t534 == t536)) = false := by simpa using c26))
       (try (have c26b2 : (x8_1 == (t534 == t536)) = false := by simpa using c26))
       (try (have c26b3 : ¬ (x8_1 = (t534 == t536)) := by simpa using c26))
       clear c26
       replace H := Option.bind_eq_some_iff.mp H
       obtain ⟨t537, A270, H⟩ := H
       replace H : (catchmentlaw05_FoldChanges.j1 k1 t530 (!t537)) = some r := H
       have A27 := Aside0.mk A270
       clear A270
       have H' := Aside0.mk H
       clear H
       go_wp2_with (first | (go_at_call 36; (with_reducible refine (fold_Rises.calls k1 _ _ t530 t537 _ ?side1 ?side2 A27.out).mono ?_); (case side1 => repeat (first | exact (Kd.R_reads' HO532.out).2.2 | (with_reducible refine Kd.C_alloc ?_ _) | (with_reducible refine Kd.C_drewN ?_ _) | (with_reducible refine Kd.C_drew ?_))); (case side2 => exact (Kd.R_reads' HO532.out).2.1); rintro e w' ⟨rfl, ⟨nd, rfl⟩⟩))
       go_meet
       case rel => exact ⟨_, (!t537), (by first | rfl | (simp; done) | (simp [*]; done)), H', ⟨by have := HK1.out; first | omega | exact Nat.le_refl _⟩, ⟨by (with_reducible repeat (first | apply Kd.R_alloc | apply Kd.R_drewN | apply Kd.R_drew)); exact HO532.out⟩, ⟨by repeat (first | (with_reducible first | exact HB.out | apply wA | apply wN | apply w1) | exact HB.out)⟩⟩
     ·rw [if_neg c25] at H
      have c25b0 : (t533.toList == t535.toList) = false := beq_eq_false_iff_ne.mpr c25
      have c25b1 : (t533.toList != t535.toList) = true := bne_iff_ne.mpr c25
      (first | rw [c25b0] | (simp only [i64_w, i32_w]; rw [c25b0]) | skip)
      by_cases c28 : (x8_1 == false) = true
      ·rw [if_pos c28] at H
       have c28b0 : (x8_1 == false) = true := c28
       (try (have c28b1 : decide (x8_1 = false) = true := by simpa using c28))
       (try (have c28b2 : (x8_1 == false) = true := by simpa using c28))
       clear c28
       have H' := Aside0.mk H
       clear H
       go_wp2
       go_meet
       case rel => exact ⟨_, (true), (by first | rfl | (simp; done) | (simp [*]; done)), H', ⟨by have := HK1.out; first | omega | exact Nat.le_refl _⟩, ⟨by (with_reducible repeat (first | apply Kd.R_alloc | apply Kd.R_drewN | apply Kd.R_drew)); exact HO532.out⟩, ⟨by repeat (first | (with_reducible first | exact HB.out | apply wA | apply wN | apply w1) | exact HB.out)⟩⟩
      ·rw [if_neg c28] at H
       have c28b0 : (x8_1 == false) = false := by simpa using c28
       (try (have c28b1 : decide (x8_1 = false) = false := by simpa using c28))
       (try (have c28b2 : (x8_1 == false) = false := by simpa using c28))
       (try (have c28b3 : ¬ (x8_1 = false) := by simpa using c28))
       have hx28 : x8_1 = true := by simpa using c28
       subst hx28
       clear c28
       replace H := Option.bind_eq_some_iff.mp H
       obtain ⟨t538, A290, H⟩ := H
       replace H : (catchmentlaw05_FoldChanges.j1 k1 t530 (!t538)) = some r := H
       have A29 := Aside0.mk A290
       clear A290
       have H' := Aside0.mk H
       clear H
       go_wp2_with (first | (go_at_call 36; (with_reducible refine (fold_Rises.calls k1 _ _ t530 t538 _ ?side1 ?side2 A29.out).mono ?_); (case side1 => repeat (first | exact (Kd.R_reads' HO532.out).2.2 | (with_reducible refine Kd.C_alloc ?_ _) | (with_reducible refine Kd.C_drewN ?_ _) | (with_reducible refine Kd.C_drew ?_))); (case side2 => exact (Kd.R_reads' HO532.out).2.1); rintro e w' ⟨rfl, ⟨nd, rfl⟩⟩))
       go_meet
       case rel => exact ⟨_, (!t538), (by first | rfl | (simp; done) | (simp [*]; done)), H', ⟨by have := HK1.out; first | omega | exact Nat.le_refl _⟩, ⟨by (with_reducible repeat (first | apply Kd.R_alloc | apply Kd.R_drewN | apply Kd.R_drew)); exact HO532.out⟩, ⟨by repeat (first | (with_reducible first | exact HB.out | apply wA | apply wN | apply w1) | exact HB.out)⟩⟩
    case rest =>
     clear HC20
     try clear c1
     try clear c2
     try clear p2
     try clear c3
     try clear p5
     try clear q5
     try clear hx5
     try clear p6
     try clear c9
     try clear c12
     try clear c12b0
     try clear c13
     try clear c15
     try clear c15b0
     try clear c21
     try clear c22
     try clear c25
     try clear c25b0
     try clear c25b1
     try clear c26
     try clear c26b0
     try clear c26b1
     try clear c26b2
     try clear c28
     try clear c28b0
     try clear c28b1
     try clear c28b2
     try clear hx529_0
     try clear p2
     try clear p529
     try clear q529
     obtain ⟨kq, x68_19, rfl, HA, HJ19, HO_10, HB⟩ := hcut
     cases kq with
     | zero => exact absurd HA.out (by simp [catchmentlaw05_FoldChanges.j1])
     | succ kj19 =>
      have H := HA.out
      clear HA
      simp only [catchmentlaw05_FoldChanges.j1] at H
      by_cases c30 : x68_19 = true
      ·subst c30
       have H1 : (some false) = some r := by rw [if_pos rfl] at H; exact H
       clear H
       have H := H1
       clear H1
       obtain rfl := Option.some.inj H
       go_wp2
       go_ret
       exact ⟨by first | rfl | (simp [errW_none, errW_some] <;> rfl) | (simp [*, errW_none, errW_some] <;> rfl), by repeat (first | (with_reducible first | exact HB.out | apply wA | apply wN | apply w1) | exact HB.out)⟩
      ·replace c30 := Bool.eq_false_iff.mpr c30
       subst c30
       have H1 : (catchmentlaw05_FoldChanges.l1 kj19 t530 0) = some r := by rw [if_neg (show ¬ (false = true) by decide)] at H; exact H
       clear H
       have H := H1
       clear H1
       have H' := Aside0.mk H
       clear H
       go_wp2
       go_loopg [15] kj19 (fun kq v15 w' => ∃ (x15_3 : Int), v15 = .int .i64 x15_3 ∧ Aside0 (catchmentlaw05_FoldChanges.l1 kq t530 x15_3 = some r) ∧ Aside0 (kq ≤ kj19) ∧ Aside0 (Kd.R k55 55 w' w.heap.size (fun _ => True) (.slice Ao23 t530.length co23) t530) ∧ Aside0 (Below w.heap.size w w'))
       case atStart => exact ⟨(0), (by first | rfl | (simp; done) | (simp [*]; done)), H', ⟨Nat.le_refl _⟩, ⟨by (with_reducible repeat (first | apply Kd.R_alloc | apply Kd.R_drewN | apply Kd.R_drew)); exact HO_10.out⟩, ⟨by repeat (first | (with_reducible first | exact HB.out | apply wA | apply wN | apply w1) | exact HB.out)⟩⟩
       case round =>
        clear H'
        try clear c1
        try clear c2
        try clear p2
        try clear c3
        try clear p5
        try clear q5
        try clear hx5
        try clear p6
        try clear c9
        try clear c12
        try clear c12b0
        try clear c13
        try clear c15
        try clear c15b0
        try clear c21
        try clear c22
        try clear c25
        try clear c25b0
        try clear c25b1
        try clear c26
        try clear c26b0
        try clear c26b1
        try clear c26b2
        try clear c28
        try clear c28b0
        try clear c28b1
        try clear c28b2
        try clear c30
        try clear hx529_0
        try clear p2
        try clear p5
        try clear p529
        try clear p6
        try clear q5
        try clear q529
        obtain ⟨x15_3, rfl, HA, HK3, HO_10, HB⟩ := hrel
        cases gk with
        | zero => exact absurd HA.out (by simp [catchmentlaw05_FoldChanges.l1])
        | succ k3 =>
         have H := HA.out
         clear HA
         simp only [catchmentlaw05_FoldChanges.l1] at H
         by_cases c31 : x15_3 < (t530.length : Int)
         ·rw [if_pos c31] at H
          have c31b0 : decide (x15_3 < (t530.length : Int)) = true := decide_eq_true c31
          clear c31
          by_cases c32 : 0 ≤ x15_3
          ·rw [if_pos c32] at H
           have c32b0 : decide (0 ≤ x15_3) = true := decide_eq_true c32
           clear c32
           replace H := Option.bind_eq_some_iff.mp H
           obtain ⟨t540, A330, H⟩ := H
           replace H : (if t540 = true then (catchmentlaw05_FoldChanges.l1 k3 t530 (wrap64 (x15_3 + 1))) else (some false)) = some r := H
           have A33 := Aside0.mk A330
           clear A330
           by_cases c34 : t540 = true
           ·subst c34
            have H1 : (catchmentlaw05_FoldChanges.l1 k3 t530 (wrap64 (x15_3 + 1))) = some r := by rw [if_pos rfl] at H; exact H
            clear H
            have H := H1
            clear H1
            have H' := Aside0.mk H
            clear H
            have p539 : 0 ≤ (x15_3 : Int) := of_decide_eq_true (by first | (with_reducible assumption) | assumption)
            have q539 : x15_3 < (t530.length : Int) := of_decide_eq_true (by first | (with_reducible assumption) | assumption)
            obtain ⟨ad539, e539, hx539_0, hx539_1⟩ := at_T55 (Kd.R_reads' HO_10.out).2.2 x15_3 p539 q539
            cases e539
            replace p539 := eq_true p539
            replace q539 := eq_true q539
            go_wp2_with (first | ((with_reducible refine gate_callee (f := 37) rfl ?_); refine goesL_ (some 81) rfl rfl Try.func37 (by kernel_rfl) rfl #[.agg #[.string (⟨#[]⟩ : BA), .string (⟨#[]⟩ : BA)], .string ((rd_T55 t530 x15_3).f0)] rfl (by (try simp only [mA1, mA2, mA3]); first | done | rfl | (simp only [mA5, mA4]; rfl)) ?_; (with_reducible refine (catchmentref02_Holds.calls (⟨#[]⟩ : BA) (⟨#[]⟩ : BA) ((rd_T55 t530 x15_3).f0) true _ A33.out).mono ?_); rintro e w35 ⟨rfl, hb⟩; refine ⟨_, rfl, ?_⟩; have n0_ := Aside0.mk (Kd.R_below (by (with_reducible repeat (first | apply Kd.R_alloc | apply Kd.R_drewN | apply Kd.R_drew)); exact HO_10.out) hb); have n1_ := Aside0.mk (wT (by repeat (first | (with_reducible first | exact HB.out | apply wA | apply wN | apply w1) | exact HB.out)) hb); clear HO_10; clear HB; have HO_10 := n0_; have HB := n1_; clear n0_ n1_; (try clear hb); (try clear hb2); (try clear hk); (try clear hi)))
            go_roundg k3
            case measure => have := HK1.out; have := HJ19.out; have := HK3.out; omega
            case rel => exact ⟨(wrap64 (x15_3 + 1)), (by first | rfl | (simp; done) | (simp [*]; done)), H', ⟨by have := HK1.out; have := HJ19.out; have := HK3.out; omega⟩, ⟨by (with_reducible repeat (first | apply Kd.R_alloc | apply Kd.R_drewN | apply Kd.R_drew)); exact HO_10.out⟩, ⟨by repeat (first | (with_reducible first | exact HB.out | apply wA | apply wN | apply w1) | exact HB.out)⟩⟩
           ·replace c34 := Bool.eq_false_iff.mpr c34
            subst c34
            have H1 : (some false) = some r := by rw [if_neg (show ¬ (false = true) by decide)] at H; exact H
            clear H
            have H := H1
            clear H1
            obtain rfl := Option.some.inj H
            have p539 : 0 ≤ (x15_3 : Int) := of_decide_eq_true (by first | (with_reducible assumption) | assumption)
            have q539 : x15_3 < (t530.length : Int) := of_decide_eq_true (by first | (with_reducible assumption) | assumption)
            obtain ⟨ad539, e539, hx539_0, hx539_1⟩ := at_T55 (Kd.R_reads' HO_10.out).2.2 x15_3 p539 q539
            cases e539
            replace p539 := eq_true p539
            replace q539 := eq_true q539
            go_wp2_with (first | ((with_reducible refine gate_callee (f := 37) rfl ?_); refine goesL_ (some 81) rfl rfl Try.func37 (by kernel_rfl) rfl #[.agg #[.string (⟨#[]⟩ : BA), .string (⟨#[]⟩ : BA)], .string ((rd_T55 t530 x15_3).f0)] rfl (by (try simp only [mA1, mA2, mA3]); first | done | rfl | (simp only [mA5, mA4]; rfl)) ?_; (with_reducible refine (catchmentref02_Holds.calls (⟨#[]⟩ : BA) (⟨#[]⟩ : BA) ((rd_T55 t530 x15_3).f0) false _ A33.out).mono ?_); rintro e w36 ⟨rfl, hb⟩; refine ⟨_, rfl, ?_⟩; have n0_ := Aside0.mk (Kd.R_below (by (with_reducible repeat (first | apply Kd.R_alloc | apply Kd.R_drewN | apply Kd.R_drew)); exact HO_10.out) hb); have n1_ := Aside0.mk (wT (by repeat (first | (with_reducible first | exact HB.out | apply wA | apply wN | apply w1) | exact HB.out)) hb); clear HO_10; clear HB; have HO_10 := n0_; have HB := n1_; clear n0_ n1_; (try clear hb); (try clear hb2); (try clear hk); (try clear hi)))
            go_ret
            exact ⟨by first | rfl | (simp [errW_none, errW_some] <;> rfl) | (simp [*, errW_none, errW_some] <;> rfl), by repeat (first | (with_reducible first | exact HB.out | apply wA | apply wN | apply w1) | exact HB.out)⟩
          ·rw [if_neg c32] at H
           exact absurd H (by simp)
         ·rw [if_neg c31] at H
          have c31b0 : decide (x15_3 < (t530.length : Int)) = false := decide_eq_false c31
          clear c31
          replace H := Option.bind_eq_some_iff.mp H
          obtain ⟨t541, A370, H⟩ := H
          replace H : (some t541) = some r := H
          have A37 := Aside0.mk A370
          clear A370
          obtain rfl := Option.some.inj H
          go_wp2_with (first | ((with_reducible refine gate_callee (f := 23) rfl ?_); refine goesL_ (some 83) rfl rfl Try.func23 (by kernel_rfl) rfl #[] rfl (by (try simp only [mA1, mA2, mA3]); first | done | rfl | (simp only [mA5, mA4]; rfl)) ?_; (with_reducible refine (catchmentlaw05_live.calls  t541 _ A37.out).mono ?_); rintro e w38 ⟨rfl, hb⟩; refine ⟨_, rfl, ?_⟩; have n0_ := Aside0.mk (Kd.R_below (by (with_reducible repeat (first | apply Kd.R_alloc | apply Kd.R_drewN | apply Kd.R_drew)); exact HO_10.out) hb); have n1_ := Aside0.mk (wT (by repeat (first | (with_reducible first | exact HB.out | apply wA | apply wN | apply w1) | exact HB.out)) hb); clear HO_10; clear HB; have HO_10 := n0_; have HB := n1_; clear n0_ n1_; (try clear hb); (try clear hb2); (try clear hk); (try clear hi)))
          go_ret
          exact ⟨by first | rfl | (simp [errW_none, errW_some] <;> rfl) | (simp [*, errW_none, errW_some] <;> rfl), by repeat (first | (with_reducible first | exact HB.out | apply wA | apply wN | apply w1) | exact HB.out)⟩
end Go.Proofs.Ytidaiafmhidooaa.P
end
