/- Texts of this seat's own and of the kit's print program, of one claim: only what the claim uses (laid by wip/tools/shake.py; Lean checks them). -/
import Derived.Test.YtidaiafmhidooaaZk2
import Derived.Test.YtidaiafmhidooaaZk3
import Derived.Test.YtidaiafmhidooaaZk7
import Derived.Test.YtidaiafmhidooaaZk8
section
namespace Go.Proofs.Ytidaiafmhidooaa.P
open Go.RowKit Go.Proofs.YtidaiafmhidooaaW.PrintWords Go.Proofs.YtidaiafmhidooaaW.PrintLast Go.Proofs.YtidaiafmhidooaaW.PrintMore Go.Proofs.Ytidaiafmhidooaa.Own
open Go.Proofs.YtidaiafmhidooaaW.PrintWords renaming blk_cell → bC, blk_frozen → bF, blk_drewN → bN, blk_alloc → bA, pw_below_drewN → wN, blk_drew → bD, below_drew1 → w1, below_set → wS, below_alloc → wA, blk_below → bB, below_step → wT, below_size → wZ, blk_far → bR, blk_put → bP
open List renaming setIfInBounds_toArray → sA1, set_cons_zero → sA2, set_cons_succ → sA3, map_toArray → mA1, map_cons → mA2, map_nil → mA3, length_take → mA4, length_drop → mA5
attribute [local go_sem] max2_str max2_int min2_int max_two min_two max_three min_three max_four min_four   -- for this text's walks alone
set_option linter.unusedVariables false
set_option linter.unusedSimpArgs false
def catchmentref02_Meet.f (a0_0 : BA) (a0_1 : BA) (a1_0 : BA) (a1_1 : BA) : Option (ByteArray × ByteArray × Bool) := some (Wm.meet a0_0 a0_1 a1_0 a1_1)
theorem catchmentref02_Meet.calls (a0_0 : BA) (a0_1 : BA) (a1_0 : BA) (a1_1 : BA) (r1 : BA) (r2 : BA) (r3 : Bool) (w : World) (h : catchmentref02_Meet.f a0_0 a0_1 a1_0 a1_1 = some (r1, r2, r3)) :
  Calls Try.prog 61 #[.agg #[.string a0_0, .string a0_1], .agg #[.string a1_0, .string a1_1]] w fun e w' => e = .returned (.tuple #[.agg #[.string r1, .string r2], .bool r3]) ∧ Below w.heap.size w w' := by
 have h2 := Option.some.inj h
 have h3 := Wm.meet_any a0_0 a0_1 a1_0 a1_1 w
 rw [h2] at h3
 exact h3
def catchmentref04_Clip.j0 : Nat → Bool → Int → Int → ByteArray → ByteArray → ByteArray → Int → ByteArray → ByteArray → Option (Int × Int × ByteArray × ByteArray × ByteArray × Int × Bool)
 | 0, _, _, _, _, _, _, _, _, _ => none
 | k + 1, x19, x324000, x324001, x324002, x324003, x324004, x324005, x325000, x325001 => if x19 = true then (some (x324000, x324001, x324002, x324003, x324004, x324005, true)) else ((catchmentref02_Meet.f x324002 x324003 x325000 x325001).bind fun bt329 => (if x324000 = 4 then (if bt329.2.2 = true then (some (x324000, x324001, bt329.1, bt329.2.1, x324004, x324005, true)) else (some (0, 0, (⟨#[]⟩ : BA), (⟨#[]⟩ : BA), (⟨#[]⟩ : BA), 0, false))) else (some (0, 0, (⟨#[]⟩ : BA), (⟨#[]⟩ : BA), (⟨#[]⟩ : BA), 0, false))))
def catchmentref04_Clip.f (k : Nat) (a0_0 : Int) (a0_1 : Int) (a0_2 : BA) (a0_3 : BA) (a0_4 : BA) (a0_5 : Int) (a1_0 : BA) (a1_1 : BA) : Option (Int × Int × ByteArray × ByteArray × ByteArray × Int × Bool) := (catchmentref04_Point.f a0_0 a0_1 a0_2 a0_3 a0_4 a0_5).bind fun t326 => (if t326 = true then ((catchmentref02_Right.f a1_0 a1_1).bind fun t327 => (if t327 = true then ((catchmentref02_Holds.f a1_0 a1_1 a0_2).bind fun t328 => (catchmentref04_Clip.j0 k t328 a0_0 a0_1 a0_2 a0_3 a0_4 a0_5 a1_0 a1_1)) else (catchmentref04_Clip.j0 k false a0_0 a0_1 a0_2 a0_3 a0_4 a0_5 a1_0 a1_1))) else (catchmentref04_Clip.j0 k false a0_0 a0_1 a0_2 a0_3 a0_4 a0_5 a1_0 a1_1))
set_option maxHeartbeats 8000000 in
set_option maxRecDepth 100000 in
theorem catchmentref04_Clip.calls (k : Nat) (a0_0 : Int) (a0_1 : Int) (a0_2 : BA) (a0_3 : BA) (a0_4 : BA) (a0_5 : Int) (a1_0 : BA) (a1_1 : BA) (r1 : Int) (r2 : Int) (r3 : BA) (r4 : BA) (r5 : BA) (r6 : Int) (r7 : Bool) (w : World) (h : catchmentref04_Clip.f k a0_0 a0_1 a0_2 a0_3 a0_4 a0_5 a1_0 a1_1 = some (r1, r2, r3, r4, r5, r6, r7)) :
  Calls Try.prog 26 #[.agg #[.int .u8 a0_0, .int .i64 a0_1, .string a0_2, .string a0_3, .string a0_4, .int .u64 a0_5], .agg #[.string a1_0, .string a1_1]] w fun e w' => e = .returned (.tuple #[.agg #[.int .u8 r1, .int .i64 r2, .string r3, .string r4, .string r5, .int .u64 r6], .bool r7]) ∧ Below w.heap.size w w' := by
 have hu33 := Try.underlying33
 have hu38 := Try.underlying38
 have HB := Aside0.mk (Below.refl w.heap.size w)
 have H : ((catchmentref04_Point.f a0_0 a0_1 a0_2 a0_3 a0_4 a0_5).bind fun t326 => (if t326 = true then ((catchmentref02_Right.f a1_0 a1_1).bind fun t327 => (if t327 = true then ((catchmentref02_Holds.f a1_0 a1_1 a0_2).bind fun t328 => (catchmentref04_Clip.j0 k t328 a0_0 a0_1 a0_2 a0_3 a0_4 a0_5 a1_0 a1_1)) else (catchmentref04_Clip.j0 k false a0_0 a0_1 a0_2 a0_3 a0_4 a0_5 a1_0 a1_1))) else (catchmentref04_Clip.j0 k false a0_0 a0_1 a0_2 a0_3 a0_4 a0_5 a1_0 a1_1))) = some (r1, r2, r3, r4, r5, r6, r7) := h
 clear h
 have HC3 := Aside0.mk H
 clear H
 go_enter Try.func26, Try.ntmps26
 go_upto_region 1 with (first | ((with_reducible refine gate_dst (N := 2) rfl ?_); refine box_event ?hg (N := 2) ?hd (cs := #[.int .u8 a0_0, .int .i64 a0_1, .string a0_2, .string a0_3, .string a0_4, .int .u64 a0_5]) (t := 33) ?hr ?_; (case hd => rfl); (case hg => rfl); (case hr => first | (go_simp; done) | (go_simp; rfl)); intro gb323 hg w4 hbox hb; have n0_ := Aside0.mk (wT (by repeat (first | (with_reducible first | exact HB.out | apply wA | apply wN | apply w1) | exact HB.out)) hb); have n1_ := Aside0.mk (hbox); have n2_ := Aside0.mk ((by rw [hg]; exact (wZ (by repeat (first | (with_reducible first | exact HB.out | apply wA | apply wN | apply w1) | exact HB.out))) : w.heap.size ≤ gb323)); have n3_ := n2_; clear HB; have HB := n0_; have BK323 := n1_; have GW323 := n2_; have GE323 := n3_; clear n0_ n1_ n2_ n3_; clear hb hbox hg) | ((with_reducible refine gate_dst (N := 3) rfl ?_); refine box_event ?hg (N := 3) ?hd (cs := #[.string a1_0, .string a1_1]) (t := 38) ?hr ?_; (case hd => rfl); (case hg => rfl); (case hr => first | (go_simp; done) | (go_simp; rfl)); intro gb324 hg w5 hbox hb; have n0_ := Aside0.mk (bB (g := gb323) (o := .cells #[.int .u8 a0_0, .int .i64 a0_1, .string a0_2, .string a0_3, .string a0_4, .int .u64 a0_5] 33 (0, 0)) (by (with_reducible repeat (first | refine bN ?_ _ | refine bD ?_ | refine bA ?_ _)); exact BK323.out) hb); have n1_ := Aside0.mk (wT (by repeat (first | (with_reducible first | exact HB.out | apply wA | apply wN | apply w1 | refine wS ?_ GE323.out) | exact HB.out)) hb); have n2_ := Aside0.mk (hbox); have n3_ := Aside0.mk ((by rw [hg]; exact (wZ (by repeat (first | (with_reducible first | exact HB.out | apply wA | apply wN | apply w1 | refine wS ?_ GE323.out) | exact HB.out))) : w.heap.size ≤ gb324)); have n4_ := n3_; have n5_ := Aside0.mk ((by rw [hg]; exact Nat.ne_of_lt (blk_lt (g := gb323) (o := .cells #[.int .u8 a0_0, .int .i64 a0_1, .string a0_2, .string a0_3, .string a0_4, .int .u64 a0_5] 33 (0, 0)) (by (with_reducible repeat (first | refine bN ?_ _ | refine bD ?_ | refine bA ?_ _)); exact BK323.out)) : gb323 ≠ gb324)); have n6_ := Aside0.mk ((by rw [hg]; exact Nat.ne_of_gt (blk_lt (g := gb323) (o := .cells #[.int .u8 a0_0, .int .i64 a0_1, .string a0_2, .string a0_3, .string a0_4, .int .u64 a0_5] 33 (0, 0)) (by (with_reducible repeat (first | refine bN ?_ _ | refine bD ?_ | refine bA ?_ _)); exact BK323.out)) : gb324 ≠ gb323)); clear BK323; clear HB; have BK323 := n0_; have HB := n1_; have BK324 := n2_; have GW324 := n3_; have GE324 := n4_; have NB323_324 := n5_; have NB324_323 := n6_; clear n0_ n1_ n2_ n3_ n4_ n5_ n6_; clear hb hbox hg) | ((with_reducible refine gate_dst (N := 4) rfl ?_); refine box_event ?hg (N := 4) ?hd (cs := #[.int .u8 0, .int .i64 0, .string (⟨#[]⟩ : BA), .string (⟨#[]⟩ : BA), .string (⟨#[]⟩ : BA), .int .u64 0]) (t := 33) ?hr ?_; (case hd => rfl); (case hg => rfl); (case hr => first | (go_simp; done) | (go_simp; rfl)); intro gb325 hg w6 hbox hb; have n0_ := Aside0.mk (bB (g := gb323) (o := .cells #[.int .u8 a0_0, .int .i64 a0_1, .string a0_2, .string a0_3, .string a0_4, .int .u64 a0_5] 33 (0, 0)) (by (with_reducible repeat (first | refine bN ?_ _ | refine bD ?_ | refine bA ?_ _)); exact BK323.out) hb); have n1_ := Aside0.mk (bB (g := gb324) (o := .cells #[.string a1_0, .string a1_1] 38 (0, 0)) (by (with_reducible repeat (first | refine bN ?_ _ | refine bD ?_ | refine bA ?_ _)); exact BK324.out) hb); have n2_ := Aside0.mk (wT (by repeat (first | (with_reducible first | exact HB.out | apply wA | apply wN | apply w1 | refine wS ?_ GE323.out | refine wS ?_ GE324.out) | exact HB.out)) hb); have n3_ := Aside0.mk (hbox); have n4_ := Aside0.mk ((by rw [hg]; exact (wZ (by repeat (first | (with_reducible first | exact HB.out | apply wA | apply wN | apply w1 | refine wS ?_ GE323.out | refine wS ?_ GE324.out) | exact HB.out))) : w.heap.size ≤ gb325)); have n5_ := n4_; have n6_ := Aside0.mk ((by rw [hg]; exact Nat.ne_of_lt (blk_lt (g := gb323) (o := .cells #[.int .u8 a0_0, .int .i64 a0_1, .string a0_2, .string a0_3, .string a0_4, .int .u64 a0_5] 33 (0, 0)) (by (with_reducible repeat (first | refine bN ?_ _ | refine bD ?_ | refine bA ?_ _)); exact BK323.out)) : gb323 ≠ gb325)); have n7_ := Aside0.mk ((by rw [hg]; exact Nat.ne_of_gt (blk_lt (g := gb323) (o := .cells #[.int .u8 a0_0, .int .i64 a0_1, .string a0_2, .string a0_3, .string a0_4, .int .u64 a0_5] 33 (0, 0)) (by (with_reducible repeat (first | refine bN ?_ _ | refine bD ?_ | refine bA ?_ _)); exact BK323.out)) : gb325 ≠ gb323)); have n8_ := Aside0.mk ((by rw [hg]; exact Nat.ne_of_lt (blk_lt (g := gb324) (o := .cells #[.string a1_0, .string a1_1] 38 (0, 0)) (by (with_reducible repeat (first | refine bN ?_ _ | refine bD ?_ | refine bA ?_ _)); exact BK324.out)) : gb324 ≠ gb325)); have n9_ := Aside0.mk ((by rw [hg]; exact Nat.ne_of_gt (blk_lt (g := gb324) (o := .cells #[.string a1_0, .string a1_1] 38 (0, 0)) (by (with_reducible repeat (first | refine bN ?_ _ | refine bD ?_ | refine bA ?_ _)); exact BK324.out)) : gb325 ≠ gb324)); clear BK323; clear BK324; clear HB; have BK323 := n0_; have BK324 := n1_; have HB := n2_; have BK325 := n3_; have GW325 := n4_; have GE325 := n5_; have NB323_325 := n6_; have NB325_323 := n7_; have NB324_325 := n8_; have NB325_324 := n9_; clear n0_ n1_ n2_ n3_ n4_ n5_ n6_ n7_ n8_ n9_; clear hb hbox hg))
 (try simp only [Act.put, sA1, sA2, sA3])
 go_cut [19] (fun v19 wc => ∃ (kq : Nat) (x19_2 : Bool), v19 = .bool x19_2 ∧ Aside0 (catchmentref04_Clip.j0 kq x19_2 a0_0 a0_1 a0_2 a0_3 a0_4 a0_5 a1_0 a1_1 = some (r1, r2, r3, r4, r5, r6, r7)) ∧ Aside0 (kq ≤ k) ∧ Aside0 (wc.heap[gb323]? = some (.cells #[.int .u8 a0_0, .int .i64 a0_1, .string a0_2, .string a0_3, .string a0_4, .int .u64 a0_5] 33 (0, 0))) ∧ Aside0 (wc.heap[gb324]? = some (.cells #[.string a1_0, .string a1_1] 38 (0, 0))) ∧ Aside0 (wc.heap[gb325]? = some (.cells #[.int .u8 0, .int .i64 0, .string (⟨#[]⟩ : BA), .string (⟨#[]⟩ : BA), .string (⟨#[]⟩ : BA), .int .u64 0] 33 (0, 0))) ∧ Aside0 (Below w.heap.size w wc))
 case first =>
  have H := HC3.out
  clear HC3
  replace H := Option.bind_eq_some_iff.mp H
  obtain ⟨t326, A70, H⟩ := H
  replace H : (if t326 = true then ((catchmentref02_Right.f a1_0 a1_1).bind fun t327 => (if t327 = true then ((catchmentref02_Holds.f a1_0 a1_1 a0_2).bind fun t328 => (catchmentref04_Clip.j0 k t328 a0_0 a0_1 a0_2 a0_3 a0_4 a0_5 a1_0 a1_1)) else (catchmentref04_Clip.j0 k false a0_0 a0_1 a0_2 a0_3 a0_4 a0_5 a1_0 a1_1))) else (catchmentref04_Clip.j0 k false a0_0 a0_1 a0_2 a0_3 a0_4 a0_5 a1_0 a1_1)) = some (r1, r2, r3, r4, r5, r6, r7) := H
  have A7 := Aside0.mk A70
  clear A70
  by_cases c8 : t326 = true
  ·subst c8
   have H1 : ((catchmentref02_Right.f a1_0 a1_1).bind fun t327 => (if t327 = true then ((catchmentref02_Holds.f a1_0 a1_1 a0_2).bind fun t328 => (catchmentref04_Clip.j0 k t328 a0_0 a0_1 a0_2 a0_3 a0_4 a0_5 a1_0 a1_1)) else (catchmentref04_Clip.j0 k false a0_0 a0_1 a0_2 a0_3 a0_4 a0_5 a1_0 a1_1))) = some (r1, r2, r3, r4, r5, r6, r7) := by rw [if_pos rfl] at H; exact H
   clear H
   have H := H1
   clear H1
   replace H := Option.bind_eq_some_iff.mp H
   obtain ⟨t327, A90, H⟩ := H
   replace H : (if t327 = true then ((catchmentref02_Holds.f a1_0 a1_1 a0_2).bind fun t328 => (catchmentref04_Clip.j0 k t328 a0_0 a0_1 a0_2 a0_3 a0_4 a0_5 a1_0 a1_1)) else (catchmentref04_Clip.j0 k false a0_0 a0_1 a0_2 a0_3 a0_4 a0_5 a1_0 a1_1)) = some (r1, r2, r3, r4, r5, r6, r7) := H
   have A9 := Aside0.mk A90
   clear A90
   by_cases c10 : t327 = true
   ·subst c10
    have H1 : ((catchmentref02_Holds.f a1_0 a1_1 a0_2).bind fun t328 => (catchmentref04_Clip.j0 k t328 a0_0 a0_1 a0_2 a0_3 a0_4 a0_5 a1_0 a1_1)) = some (r1, r2, r3, r4, r5, r6, r7) := by rw [if_pos rfl] at H; exact H
    clear H
    have H := H1
    clear H1
    replace H := Option.bind_eq_some_iff.mp H
    obtain ⟨t328, A110, H⟩ := H
    replace H : (catchmentref04_Clip.j0 k t328 a0_0 a0_1 a0_2 a0_3 a0_4 a0_5 a1_0 a1_1) = some (r1, r2, r3, r4, r5, r6, r7) := H
    have A11 := Aside0.mk A110
    clear A110
    have H' := Aside0.mk H
    clear H
    have hnb12 := NB323_324.out
    have hnc12 := NB324_323.out
    have hnb13 := NB323_325.out
    have hnc13 := NB325_323.out
    have hcz14_0 : w6.cell? ⟨gb323, 0, none⟩ = some (.int .u8 a0_0) := (bC BK323.out 0).trans rfl
    have hcz14_1 : w6.cell? ⟨gb323, 1, none⟩ = some (.int .i64 a0_1) := (bC BK323.out 1).trans rfl
    have hcz14_2 : w6.cell? ⟨gb323, 2, none⟩ = some (.string a0_2) := (bC BK323.out 2).trans rfl
    have hcz14_3 : w6.cell? ⟨gb323, 3, none⟩ = some (.string a0_3) := (bC BK323.out 3).trans rfl
    have hcz14_4 : w6.cell? ⟨gb323, 4, none⟩ = some (.string a0_4) := (bC BK323.out 4).trans rfl
    have hcz14_5 : w6.cell? ⟨gb323, 5, none⟩ = some (.int .u64 a0_5) := (bC BK323.out 5).trans rfl
    have hfz14_0 := bF BK323.out 0
    have hfz14_1 := bF BK323.out 1
    have hfz14_2 := bF BK323.out 2
    have hfz14_3 := bF BK323.out 3
    have hfz14_4 := bF BK323.out 4
    have hfz14_5 := bF BK323.out 5
    go_wp2_with (first | ((with_reducible refine gate_callee (f := 17) rfl ?_); refine goesL_ (some 9) rfl rfl Try.func17 (by kernel_rfl) rfl #[.agg #[.int .u8 a0_0, .int .i64 a0_1, .string a0_2, .string a0_3, .string a0_4, .int .u64 a0_5]] rfl (by (try simp only [mA1, mA2, mA3]); first | done | rfl | (simp only [mA5, mA4]; rfl)) ?_; (with_reducible refine (catchmentref04_Point.calls a0_0 a0_1 a0_2 a0_3 a0_4 a0_5 true _ A7.out).mono ?_); rintro e w15 ⟨rfl, hb⟩; refine ⟨_, rfl, ?_⟩; have n0_ := Aside0.mk (bB (g := gb323) (o := .cells #[.int .u8 a0_0, .int .i64 a0_1, .string a0_2, .string a0_3, .string a0_4, .int .u64 a0_5] 33 (0, 0)) (by (with_reducible repeat (first | refine bN ?_ _ | refine bD ?_ | refine bA ?_ _)); exact BK323.out) hb); have n1_ := Aside0.mk (bB (g := gb324) (o := .cells #[.string a1_0, .string a1_1] 38 (0, 0)) (by (with_reducible repeat (first | refine bN ?_ _ | refine bD ?_ | refine bA ?_ _)); exact BK324.out) hb); have n2_ := Aside0.mk (bB (g := gb325) (o := .cells #[.int .u8 0, .int .i64 0, .string (⟨#[]⟩ : BA), .string (⟨#[]⟩ : BA), .string (⟨#[]⟩ : BA), .int .u64 0] 33 (0, 0)) (by (with_reducible repeat (first | refine bN ?_ _ | refine bD ?_ | refine bA ?_ _)); exact BK325.out) hb); have n3_ := Aside0.mk (wT (by repeat (first | (with_reducible first | exact HB.out | apply wA | apply wN | apply w1 | refine wS ?_ GE323.out | refine wS ?_ GE324.out | refine wS ?_ GE325.out) | exact HB.out)) hb); clear BK323; clear BK324; clear BK325; clear HB; have BK323 := n0_; have BK324 := n1_; have BK325 := n2_; have HB := n3_; clear n0_ n1_ n2_ n3_; (try clear hb); (try clear hb2); (try clear hk); (try clear hi); have hnb16 := NB324_325.out; have hnc16 := NB325_324.out; have hcz17_0 : w15.cell? ⟨gb324, 0, none⟩ = some (.string a1_0) := (bC BK324.out 0).trans rfl; have hcz17_1 : w15.cell? ⟨gb324, 1, none⟩ = some (.string a1_1) := (bC BK324.out 1).trans rfl; have hfz17_0 := bF BK324.out 0; have hfz17_1 := bF BK324.out 1) | (go_at_call 60; (with_reducible refine (catchmentref02_Right.calls a1_0 a1_1 true _ A9.out).mono ?_); rintro e w18 ⟨rfl, hb⟩; have n0_ := Aside0.mk (bB (g := gb323) (o := .cells #[.int .u8 a0_0, .int .i64 a0_1, .string a0_2, .string a0_3, .string a0_4, .int .u64 a0_5] 33 (0, 0)) (by (with_reducible repeat (first | refine bN ?_ _ | refine bD ?_ | refine bA ?_ _)); exact BK323.out) hb); have n1_ := Aside0.mk (bB (g := gb324) (o := .cells #[.string a1_0, .string a1_1] 38 (0, 0)) (by (with_reducible repeat (first | refine bN ?_ _ | refine bD ?_ | refine bA ?_ _)); exact BK324.out) hb); have n2_ := Aside0.mk (bB (g := gb325) (o := .cells #[.int .u8 0, .int .i64 0, .string (⟨#[]⟩ : BA), .string (⟨#[]⟩ : BA), .string (⟨#[]⟩ : BA), .int .u64 0] 33 (0, 0)) (by (with_reducible repeat (first | refine bN ?_ _ | refine bD ?_ | refine bA ?_ _)); exact BK325.out) hb); have n3_ := Aside0.mk (wT (by repeat (first | (with_reducible first | exact HB.out | apply wA | apply wN | apply w1 | refine wS ?_ GE323.out | refine wS ?_ GE324.out | refine wS ?_ GE325.out) | exact HB.out)) hb); clear BK323; clear BK324; clear BK325; clear HB; have BK323 := n0_; have BK324 := n1_; have BK325 := n2_; have HB := n3_; clear n0_ n1_ n2_ n3_; (try clear hb); (try clear hb2); (try clear hk); (try clear hi); have hcz19_0 : w18.cell? ⟨gb324, 0, none⟩ = some (.string a1_0) := (bC BK324.out 0).trans rfl; have hcz19_1 : w18.cell? ⟨gb324, 1, none⟩ = some (.string a1_1) := (bC BK324.out 1).trans rfl; have hfz19_0 := bF BK324.out 0; have hfz19_1 := bF BK324.out 1; have hcz20_0 : w18.cell? ⟨gb323, 0, none⟩ = some (.int .u8 a0_0) := (bC BK323.out 0).trans rfl; have hcz20_1 : w18.cell? ⟨gb323, 1, none⟩ = some (.int .i64 a0_1) := (bC BK323.out 1).trans rfl; have hcz20_2 : w18.cell? ⟨gb323, 2, none⟩ = some (.string a0_2) := (bC BK323.out 2).trans rfl; have hcz20_3 : w18.cell? ⟨gb323, 3, none⟩ = some (.string a0_3) := (bC BK323.out 3).trans rfl; have hcz20_4 : w18.cell? ⟨gb323, 4, none⟩ = some (.string a0_4) := (bC BK323.out 4).trans rfl; have hcz20_5 : w18.cell? ⟨gb323, 5, none⟩ = some (.int .u64 a0_5) := (bC BK323.out 5).trans rfl; have hfz20_0 := bF BK323.out 0; have hfz20_1 := bF BK323.out 1; have hfz20_2 := bF BK323.out 2; have hfz20_3 := bF BK323.out 3; have hfz20_4 := bF BK323.out 4; have hfz20_5 := bF BK323.out 5) | (go_at_call 37; (with_reducible refine (catchmentref02_Holds.calls a1_0 a1_1 a0_2 t328 _ A11.out).mono ?_); rintro e w21 ⟨rfl, hb⟩; have n0_ := Aside0.mk (bB (g := gb323) (o := .cells #[.int .u8 a0_0, .int .i64 a0_1, .string a0_2, .string a0_3, .string a0_4, .int .u64 a0_5] 33 (0, 0)) (by (with_reducible repeat (first | refine bN ?_ _ | refine bD ?_ | refine bA ?_ _)); exact BK323.out) hb); have n1_ := Aside0.mk (bB (g := gb324) (o := .cells #[.string a1_0, .string a1_1] 38 (0, 0)) (by (with_reducible repeat (first | refine bN ?_ _ | refine bD ?_ | refine bA ?_ _)); exact BK324.out) hb); have n2_ := Aside0.mk (bB (g := gb325) (o := .cells #[.int .u8 0, .int .i64 0, .string (⟨#[]⟩ : BA), .string (⟨#[]⟩ : BA), .string (⟨#[]⟩ : BA), .int .u64 0] 33 (0, 0)) (by (with_reducible repeat (first | refine bN ?_ _ | refine bD ?_ | refine bA ?_ _)); exact BK325.out) hb); have n3_ := Aside0.mk (wT (by repeat (first | (with_reducible first | exact HB.out | apply wA | apply wN | apply w1 | refine wS ?_ GE323.out | refine wS ?_ GE324.out | refine wS ?_ GE325.out) | exact HB.out)) hb); clear BK323; clear BK324; clear BK325; clear HB; have BK323 := n0_; have BK324 := n1_; have BK325 := n2_; have HB := n3_; clear n0_ n1_ n2_ n3_; (try clear hb); (try clear hb2); (try clear hk); (try clear hi)))
    go_meet
    case rel => exact ⟨_, (t328), (by first | rfl | (simp; done) | (simp [*]; done)), H', ⟨by first | omega | exact Nat.le_refl _⟩, ⟨by (with_reducible repeat (first | refine bN ?_ _ | refine bD ?_ | refine bA ?_ _)); exact BK323.out⟩, ⟨by (with_reducible repeat (first | refine bN ?_ _ | refine bD ?_ | refine bA ?_ _)); exact BK324.out⟩, ⟨by (with_reducible repeat (first | refine bN ?_ _ | refine bD ?_ | refine bA ?_ _)); exact BK325.out⟩, ⟨by repeat (first | (with_reducible first | exact HB.out | apply wA | apply wN | apply w1 | refine wS ?_ GE323.out | refine wS ?_ GE324.out | refine wS ?_ GE325.out) | exact HB.out)⟩⟩
   ·replace c10 := Bool.eq_false_iff.mpr c10
    subst c10
    have H1 : (catchmentref04_Clip.j0 k false a0_0 a0_1 a0_2 a0_3 a0_4 a0_5 a1_0 a1_1) = some (r1, r2, r3, r4, r5, r6, r7) := by rw [if_neg (show ¬ (false = true) by decide)] at H; exact H
    clear H
    have H := H1
    clear H1
    have H' := Aside0.mk H
    clear H
    have hnb22 := NB323_324.out
    have hnc22 := NB324_323.out
    have hnb23 := NB323_325.out
    have hnc23 := NB325_323.out
    have hcz24_0 : w6.cell? ⟨gb323, 0, none⟩ = some (.int .u8 a0_0) := (bC BK323.out 0).trans rfl
    have hcz24_1 : w6.cell? ⟨gb323, 1, none⟩ = some (.int .i64 a0_1) := (bC BK323.out 1).trans rfl
    have hcz24_2 : w6.cell? ⟨gb323, 2, none⟩ = some (.string a0_2) := (bC BK323.out 2).trans rfl
    have hcz24_3 : w6.cell? ⟨gb323, 3, none⟩ = some (.string a0_3) := (bC BK323.out 3).trans rfl
    have hcz24_4 : w6.cell? ⟨gb323, 4, none⟩ = some (.string a0_4) := (bC BK323.out 4).trans rfl
    have hcz24_5 : w6.cell? ⟨gb323, 5, none⟩ = some (.int .u64 a0_5) := (bC BK323.out 5).trans rfl
    have hfz24_0 := bF BK323.out 0
    have hfz24_1 := bF BK323.out 1
    have hfz24_2 := bF BK323.out 2
    have hfz24_3 := bF BK323.out 3
    have hfz24_4 := bF BK323.out 4
    have hfz24_5 := bF BK323.out 5
    go_wp2_with (first | ((with_reducible refine gate_callee (f := 17) rfl ?_); refine goesL_ (some 9) rfl rfl Try.func17 (by kernel_rfl) rfl #[.agg #[.int .u8 a0_0, .int .i64 a0_1, .string a0_2, .string a0_3, .string a0_4, .int .u64 a0_5]] rfl (by (try simp only [mA1, mA2, mA3]); first | done | rfl | (simp only [mA5, mA4]; rfl)) ?_; (with_reducible refine (catchmentref04_Point.calls a0_0 a0_1 a0_2 a0_3 a0_4 a0_5 true _ A7.out).mono ?_); rintro e w25 ⟨rfl, hb⟩; refine ⟨_, rfl, ?_⟩; have n0_ := Aside0.mk (bB (g := gb323) (o := .cells #[.int .u8 a0_0, .int .i64 a0_1, .string a0_2, .string a0_3, .string a0_4, .int .u64 a0_5] 33 (0, 0)) (by (with_reducible repeat (first | refine bN ?_ _ | refine bD ?_ | refine bA ?_ _)); exact BK323.out) hb); have n1_ := Aside0.mk (bB (g := gb324) (o := .cells #[.string a1_0, .string a1_1] 38 (0, 0)) (by (with_reducible repeat (first | refine bN ?_ _ | refine bD ?_ | refine bA ?_ _)); exact BK324.out) hb); have n2_ := Aside0.mk (bB (g := gb325) (o := .cells #[.int .u8 0, .int .i64 0, .string (⟨#[]⟩ : BA), .string (⟨#[]⟩ : BA), .string (⟨#[]⟩ : BA), .int .u64 0] 33 (0, 0)) (by (with_reducible repeat (first | refine bN ?_ _ | refine bD ?_ | refine bA ?_ _)); exact BK325.out) hb); have n3_ := Aside0.mk (wT (by repeat (first | (with_reducible first | exact HB.out | apply wA | apply wN | apply w1 | refine wS ?_ GE323.out | refine wS ?_ GE324.out | refine wS ?_ GE325.out) | exact HB.out)) hb); clear BK323; clear BK324; clear BK325; clear HB; have BK323 := n0_; have BK324 := n1_; have BK325 := n2_; have HB := n3_; clear n0_ n1_ n2_ n3_; (try clear hb); (try clear hb2); (try clear hk); (try clear hi); have hnb26 := NB324_325.out; have hnc26 := NB325_324.out; have hcz27_0 : w25.cell? ⟨gb324, 0, none⟩ = some (.string a1_0) := (bC BK324.out 0).trans rfl; have hcz27_1 : w25.cell? ⟨gb324, 1, none⟩ = some (.string a1_1) := (bC BK324.out 1).trans rfl; have hfz27_0 := bF BK324.out 0; have hfz27_1 := bF BK324.out 1) | (go_at_call 60; (with_reducible refine (catchmentref02_Right.calls a1_0 a1_1 false _ A9.out).mono ?_); rintro e w28 ⟨rfl, hb⟩; have n0_ := Aside0.mk (bB (g := gb323) (o := .cells #[.int .u8 a0_0, .int .i64 a0_1, .string a0_2, .string a0_3, .string a0_4, .int .u64 a0_5] 33 (0, 0)) (by (with_reducible repeat (first | refine bN ?_ _ | refine bD ?_ | refine bA ?_ _)); exact BK323.out) hb); have n1_ := Aside0.mk (bB (g := gb324) (o := .cells #[.string a1_0, .string a1_1] 38 (0, 0)) (by (with_reducible repeat (first | refine bN ?_ _ | refine bD ?_ | refine bA ?_ _)); exact BK324.out) hb); have n2_ := Aside0.mk (bB (g := gb325) (o := .cells #[.int .u8 0, .int .i64 0, .string (⟨#[]⟩ : BA), .string (⟨#[]⟩ : BA), .string (⟨#[]⟩ : BA), .int .u64 0] 33 (0, 0)) (by (with_reducible repeat (first | refine bN ?_ _ | refine bD ?_ | refine bA ?_ _)); exact BK325.out) hb); have n3_ := Aside0.mk (wT (by repeat (first | (with_reducible first | exact HB.out | apply wA | apply wN | apply w1 | refine wS ?_ GE323.out | refine wS ?_ GE324.out | refine wS ?_ GE325.out) | exact HB.out)) hb); clear BK323; clear BK324; clear BK325; clear HB; have BK323 := n0_; have BK324 := n1_; have BK325 := n2_; have HB := n3_; clear n0_ n1_ n2_ n3_; (try clear hb); (try clear hb2); (try clear hk); (try clear hi)))
    go_meet
    case rel => exact ⟨_, (false), (by first | rfl | (simp; done) | (simp [*]; done)), H', ⟨by first | omega | exact Nat.le_refl _⟩, ⟨by (with_reducible repeat (first | refine bN ?_ _ | refine bD ?_ | refine bA ?_ _)); exact BK323.out⟩, ⟨by (with_reducible repeat (first | refine bN ?_ _ | refine bD ?_ | refine bA ?_ _)); exact BK324.out⟩, ⟨by (with_reducible repeat (first | refine bN ?_ _ | refine bD ?_ | refine bA ?_ _)); exact BK325.out⟩, ⟨by repeat (first | (with_reducible first | exact HB.out | apply wA | apply wN | apply w1 | refine wS ?_ GE323.out | refine wS ?_ GE324.out | refine wS ?_ GE325.out) | exact HB.out)⟩⟩
  ·replace c8 := Bool.eq_false_iff.mpr c8
   subst c8
   have H1 : (catchmentref04_Clip.j0 k false a0_0 a0_1 a0_2 a0_3 a0_4 a0_5 a1_0 a1_1) = some (r1, r2, r3, r4, r5, r6, r7) := by rw [if_neg (show ¬ (false = true) by decide)] at H; exact H
   clear H
   have H := H1
   clear H1
   have H' := Aside0.mk H
   clear H
   have hnb29 := NB323_324.out
   have hnc29 := NB324_323.out
   have hnb30 := NB323_325.out
   have hnc30 := NB325_323.out
   have hcz31_0 : w6.cell? ⟨gb323, 0, none⟩ = some (.int .u8 a0_0) := (bC BK323.out 0).trans rfl
   have hcz31_1 : w6.cell? ⟨gb323, 1, none⟩ = some (.int .i64 a0_1) := (bC BK323.out 1).trans rfl
   have hcz31_2 : w6.cell? ⟨gb323, 2, none⟩ = some (.string a0_2) := (bC BK323.out 2).trans rfl
   have hcz31_3 : w6.cell? ⟨gb323, 3, none⟩ = some (.string a0_3) := (bC BK323.out 3).trans rfl
   have hcz31_4 : w6.cell? ⟨gb323, 4, none⟩ = some (.string a0_4) := (bC BK323.out 4).trans rfl
   have hcz31_5 : w6.cell? ⟨gb323, 5, none⟩ = some (.int .u64 a0_5) := (bC BK323.out 5).trans rfl
   have hfz31_0 := bF BK323.out 0
   have hfz31_1 := bF BK323.out 1
   have hfz31_2 := bF BK323.out 2
   have hfz31_3 := bF BK323.out 3
   have hfz31_4 := bF BK323.out 4
   have hfz31_5 := bF BK323.out 5
   go_wp2_with (first | ((with_reducible refine gate_callee (f := 17) rfl ?_); refine goesL_ (some 9) rfl rfl Try.func17 (by kernel_rfl) rfl #[.agg #[.int .u8 a0_0, .int .i64 a0_1, .string a0_2, .string a0_3, .string a0_4, .int .u64 a0_5]] rfl (by (try simp only [mA1, mA2, mA3]); first | done | rfl | (simp only [mA5, mA4]; rfl)) ?_; (with_reducible refine (catchmentref04_Point.calls a0_0 a0_1 a0_2 a0_3 a0_4 a0_5 false _ A7.out).mono ?_); rintro e w32 ⟨rfl, hb⟩; refine ⟨_, rfl, ?_⟩; have n0_ := Aside0.mk (bB (g := gb323) (o := .cells #[.int .u8 a0_0, .int .i64 a0_1, .string a0_2, .string a0_3, .string a0_4, .int .u64 a0_5] 33 (0, 0)) (by (with_reducible repeat (first | refine bN ?_ _ | refine bD ?_ | refine bA ?_ _)); exact BK323.out) hb); have n1_ := Aside0.mk (bB (g := gb324) (o := .cells #[.string a1_0, .string a1_1] 38 (0, 0)) (by (with_reducible repeat (first | refine bN ?_ _ | refine bD ?_ | refine bA ?_ _)); exact BK324.out) hb); have n2_ := Aside0.mk (bB (g := gb325) (o := .cells #[.int .u8 0, .int .i64 0, .string (⟨#[]⟩ : BA), .string (⟨#[]⟩ : BA), .string (⟨#[]⟩ : BA), .int .u64 0] 33 (0, 0)) (by (with_reducible repeat (first | refine bN ?_ _ | refine bD ?_ | refine bA ?_ _)); exact BK325.out) hb); have n3_ := Aside0.mk (wT (by repeat (first | (with_reducible first | exact HB.out | apply wA | apply wN | apply w1 | refine wS ?_ GE323.out | refine wS ?_ GE324.out | refine wS ?_ GE325.out) | exact HB.out)) hb); clear BK323; clear BK324; clear BK325; clear HB; have BK323 := n0_; have BK324 := n1_; have BK325 := n2_; have HB := n3_; clear n0_ n1_ n2_ n3_; (try clear hb); (try clear hb2); (try clear hk); (try clear hi)))
   go_meet
   case rel => exact ⟨_, (false), (by first | rfl | (simp; done) | (simp [*]; done)), H', ⟨by first | omega | exact Nat.le_refl _⟩, ⟨by (with_reducible repeat (first | refine bN ?_ _ | refine bD ?_ | refine bA ?_ _)); exact BK323.out⟩, ⟨by (with_reducible repeat (first | refine bN ?_ _ | refine bD ?_ | refine bA ?_ _)); exact BK324.out⟩, ⟨by (with_reducible repeat (first | refine bN ?_ _ | refine bD ?_ | refine bA ?_ _)); exact BK325.out⟩, ⟨by repeat (first | (with_reducible first | exact HB.out | apply wA | apply wN | apply w1 | refine wS ?_ GE323.out | refine wS ?_ GE324.out | refine wS ?_ GE325.out) | exact HB.out)⟩⟩
 case rest =>
  clear HC3
  try clear c1
  try clear c2
  try clear p2
  try clear c3
  try clear c8
  try clear c10
  try clear c12
  try clear c13
  try clear c16
  try clear c17
  try clear c22
  try clear c23
  try clear c26
  try clear c29
  try clear c30
  try clear hcz14_0
  try clear hcz14_1
  try clear hcz14_2
  try clear hcz14_3
  try clear hcz14_4
  try clear hcz14_5
  try clear hcz17_0
  try clear hcz17_1
  try clear hcz19_0
  try clear hcz19_1
  try clear hcz20_0
  try clear hcz20_1
  try clear hcz20_2
  try clear hcz20_3
  try clear hcz20_4
  try clear hcz20_5
  try clear hcz24_0
  try clear hcz24_1
  try clear hcz24_2
  try clear hcz24_3
  try clear hcz24_4
  try clear hcz24_5
  try clear hcz27_0
  try clear hcz27_1
  try clear hcz31_0
  try clear hcz31_1
  try clear hcz31_2
  try clear hcz31_3
  try clear hcz31_4
  try clear hcz31_5
  try clear hfz14_0
  try clear hfz14_1
  try clear hfz14_2
  try clear hfz14_3
  try clear hfz14_4
  try clear hfz14_5
  try clear hfz17_0
  try clear hfz17_1
  try clear hfz19_0
  try clear hfz19_1
  try clear hfz20_0
  try clear hfz20_1
  try clear hfz20_2
  try clear hfz20_3
  try clear hfz20_4
  try clear hfz20_5
  try clear hfz24_0
  try clear hfz24_1
  try clear hfz24_2
  try clear hfz24_3
  try clear hfz24_4
  try clear hfz24_5
  try clear hfz27_0
  try clear hfz27_1
  try clear hfz31_0
  try clear hfz31_1
  try clear hfz31_2
  try clear hfz31_3
  try clear hfz31_4
  try clear hfz31_5
  obtain ⟨kq, x19_2, rfl, HA, HJ2, BK323, BK324, BK325, HB⟩ := hcut
  cases kq with
  | zero => exact absurd HA.out (by simp [catchmentref04_Clip.j0])
  | succ kj2 =>
   have H := HA.out
   clear HA
   simp only [catchmentref04_Clip.j0] at H
   by_cases c33 : x19_2 = true
   ·subst c33
    have H1 : (some (a0_0, a0_1, a0_2, a0_3, a0_4, a0_5, true)) = some (r1, r2, r3, r4, r5, r6, r7) := by rw [if_pos rfl] at H; exact H
    clear H
    have H := H1
    clear H1
    simp only [Option.some.injEq, Prod.mk.injEq] at H
    obtain ⟨rfl, rfl, rfl, rfl, rfl, rfl, rfl⟩ := H
    have hnb34 := NB323_324.out
    have hnc34 := NB324_323.out
    have hnb35 := NB323_325.out
    have hnc35 := NB325_323.out
    have hcz36_0 : wc.cell? ⟨gb323, 0, none⟩ = some (.int .u8 a0_0) := (bC BK323.out 0).trans rfl
    have hcz36_1 : wc.cell? ⟨gb323, 1, none⟩ = some (.int .i64 a0_1) := (bC BK323.out 1).trans rfl
    have hcz36_2 : wc.cell? ⟨gb323, 2, none⟩ = some (.string a0_2) := (bC BK323.out 2).trans rfl
    have hcz36_3 : wc.cell? ⟨gb323, 3, none⟩ = some (.string a0_3) := (bC BK323.out 3).trans rfl
    have hcz36_4 : wc.cell? ⟨gb323, 4, none⟩ = some (.string a0_4) := (bC BK323.out 4).trans rfl
    have hcz36_5 : wc.cell? ⟨gb323, 5, none⟩ = some (.int .u64 a0_5) := (bC BK323.out 5).trans rfl
    have hfz36_0 := bF BK323.out 0
    have hfz36_1 := bF BK323.out 1
    have hfz36_2 := bF BK323.out 2
    have hfz36_3 := bF BK323.out 3
    have hfz36_4 := bF BK323.out 4
    have hfz36_5 := bF BK323.out 5
    have hnb37 := NB325_324.out
    have hnc37 := NB324_325.out
    have hcz38_0 : wc.cell? ⟨gb325, 0, none⟩ = some (.int .u8 0) := (bC BK325.out 0).trans rfl
    have hcz38_1 : wc.cell? ⟨gb325, 1, none⟩ = some (.int .i64 0) := (bC BK325.out 1).trans rfl
    have hcz38_2 : wc.cell? ⟨gb325, 2, none⟩ = some (.string (⟨#[]⟩ : BA)) := (bC BK325.out 2).trans rfl
    have hcz38_3 : wc.cell? ⟨gb325, 3, none⟩ = some (.string (⟨#[]⟩ : BA)) := (bC BK325.out 3).trans rfl
    have hcz38_4 : wc.cell? ⟨gb325, 4, none⟩ = some (.string (⟨#[]⟩ : BA)) := (bC BK325.out 4).trans rfl
    have hcz38_5 : wc.cell? ⟨gb325, 5, none⟩ = some (.int .u64 0) := (bC BK325.out 5).trans rfl
    have hfz38_0 := bF BK325.out 0
    have hfz38_1 := bF BK325.out 1
    have hfz38_2 := bF BK325.out 2
    have hfz38_3 := bF BK325.out 3
    have hfz38_4 := bF BK325.out 4
    have hfz38_5 := bF BK325.out 5
    go_wp2
    refine bodyPost_ret (results_ct rfl _ _ gb325 33 #[.int .u8 a0_0, .int .i64 a0_1, .string a0_2, .string a0_3, .string a0_4, .int .u64 a0_5] (0, 0) _ rfl (by (with_reducible repeat (first | refine bN ?_ _ | refine bD ?_ | refine bA ?_ _)); refine bP (cs := #[.int .u8 a0_0, .int .i64 a0_1, .string a0_2, .string a0_3, .string a0_4, .int .u64 0]) ?_ 5 _ rfl; (with_reducible repeat (first | refine bN ?_ _ | refine bD ?_ | refine bA ?_ _)); refine bP (cs := #[.int .u8 a0_0, .int .i64 a0_1, .string a0_2, .string a0_3, .string (⟨#[]⟩ : BA), .int .u64 0]) ?_ 4 _ rfl; (with_reducible repeat (first | refine bN ?_ _ | refine bD ?_ | refine bA ?_ _)); refine bP (cs := #[.int .u8 a0_0, .int .i64 a0_1, .string a0_2, .string (⟨#[]⟩ : BA), .string (⟨#[]⟩ : BA), .int .u64 0]) ?_ 3 _ rfl; (with_reducible repeat (first | refine bN ?_ _ | refine bD ?_ | refine bA ?_ _)); refine bP (cs := #[.int .u8 a0_0, .int .i64 a0_1, .string (⟨#[]⟩ : BA), .string (⟨#[]⟩ : BA), .string (⟨#[]⟩ : BA), .int .u64 0]) ?_ 2 _ rfl; (with_reducible repeat (first | refine bN ?_ _ | refine bD ?_ | refine bA ?_ _)); refine bP (cs := #[.int .u8 a0_0, .int .i64 0, .string (⟨#[]⟩ : BA), .string (⟨#[]⟩ : BA), .string (⟨#[]⟩ : BA), .int .u64 0]) ?_ 1 _ rfl; (with_reducible repeat (first | refine bN ?_ _ | refine bD ?_ | refine bA ?_ _)); refine bP (cs := #[.int .u8 0, .int .i64 0, .string (⟨#[]⟩ : BA), .string (⟨#[]⟩ : BA), .string (⟨#[]⟩ : BA), .int .u64 0]) ?_ 0 _ rfl; (with_reducible repeat (first | refine bN ?_ _ | refine bD ?_ | refine bA ?_ _)); exact BK325.out) Try.underlying33 rfl (by kernel_rfl)) rfl ?_
    exact ⟨by first | rfl | (simp [errW_none, errW_some] <;> rfl) | (simp [*, errW_none, errW_some] <;> rfl), by repeat (first | (with_reducible first | exact HB.out | apply wA | apply wN | apply w1 | refine wS ?_ GE323.out | refine wS ?_ GE324.out | refine wS ?_ GE325.out) | exact HB.out)⟩
   ·replace c33 := Bool.eq_false_iff.mpr c33
    subst c33
    have H1 : ((catchmentref02_Meet.f a0_2 a0_3 a1_0 a1_1).bind fun bt329 => (if a0_0 = 4 then (if bt329.2.2 = true then (some (a0_0, a0_1, bt329.1, bt329.2.1, a0_4, a0_5, true)) else (some (0, 0, (⟨#[]⟩ : BA), (⟨#[]⟩ : BA), (⟨#[]⟩ : BA), 0, false))) else (some (0, 0, (⟨#[]⟩ : BA), (⟨#[]⟩ : BA), (⟨#[]⟩ : BA), 0, false)))) = some (r1, r2, r3, r4, r5, r6, r7) := by rw [if_neg (show ¬ (false = true) by decide)] at H; exact H
    clear H
    have H := H1
    clear H1
    replace H := Option.bind_eq_some_iff.mp H
    obtain ⟨⟨t329, t330, t331⟩, A390, H⟩ := H
    replace H : (if a0_0 = 4 then (if t331 = true then (some (a0_0, a0_1, t329, t330, a0_4, a0_5, true)) else (some (0, 0, (⟨#[]⟩ : BA), (⟨#[]⟩ : BA), (⟨#[]⟩ : BA), 0, false))) else (some (0, 0, (⟨#[]⟩ : BA), (⟨#[]⟩ : BA), (⟨#[]⟩ : BA), 0, false))) = some (r1, r2, r3, r4, r5, r6, r7) := H
    have A39 := Aside0.mk A390
    clear A390
    by_cases c40 : a0_0 = 4
    ·rw [if_pos c40] at H
     have c40b0 : (a0_0 == 4) = true := beq_iff_eq.mpr c40
     have c40b1 : (a0_0 != 4) = false := bne_eq_false_iff_eq.mpr c40
     clear c40
     by_cases c41 : t331 = true
     ·subst c41
      have H1 : (some (a0_0, a0_1, t329, t330, a0_4, a0_5, true)) = some (r1, r2, r3, r4, r5, r6, r7) := by rw [if_pos rfl] at H; exact H
      clear H
      have H := H1
      clear H1
      simp only [Option.some.injEq, Prod.mk.injEq] at H
      obtain ⟨rfl, rfl, rfl, rfl, rfl, rfl, rfl⟩ := H
      have hnb42 := NB323_324.out
      have hnc42 := NB324_323.out
      have hnb43 := NB323_325.out
      have hnc43 := NB325_323.out
      have hcz44_0 : wc.cell? ⟨gb323, 0, none⟩ = some (.int .u8 a0_0) := (bC BK323.out 0).trans rfl
      have hcz44_1 : wc.cell? ⟨gb323, 1, none⟩ = some (.int .i64 a0_1) := (bC BK323.out 1).trans rfl
      have hcz44_2 : wc.cell? ⟨gb323, 2, none⟩ = some (.string a0_2) := (bC BK323.out 2).trans rfl
      have hcz44_3 : wc.cell? ⟨gb323, 3, none⟩ = some (.string a0_3) := (bC BK323.out 3).trans rfl
      have hcz44_4 : wc.cell? ⟨gb323, 4, none⟩ = some (.string a0_4) := (bC BK323.out 4).trans rfl
      have hcz44_5 : wc.cell? ⟨gb323, 5, none⟩ = some (.int .u64 a0_5) := (bC BK323.out 5).trans rfl
      have hfz44_0 := bF BK323.out 0
      have hfz44_1 := bF BK323.out 1
      have hfz44_2 := bF BK323.out 2
      have hfz44_3 := bF BK323.out 3
      have hfz44_4 := bF BK323.out 4
      have hfz44_5 := bF BK323.out 5
      have hnb45 := NB324_325.out
      have hnc45 := NB325_324.out
      have hcz46_0 : wc.cell? ⟨gb324, 0, none⟩ = some (.string a1_0) := (bC BK324.out 0).trans rfl
      have hcz46_1 : wc.cell? ⟨gb324, 1, none⟩ = some (.string a1_1) := (bC BK324.out 1).trans rfl
      have hfz46_0 := bF BK324.out 0
      have hfz46_1 := bF BK324.out 1
      go_wp2_with (first | ((with_reducible refine gate_callee (f := 61) rfl ?_); refine goesL_ (some 28) rfl rfl Try.func61 (by kernel_rfl) rfl #[.agg #[.string a0_2, .string a0_3], .agg #[.string a1_0, .string a1_1]] rfl (by (try simp only [mA1, mA2, mA3]); first | done | rfl | (simp only [mA5, mA4]; rfl)) ?_; (with_reducible refine (catchmentref02_Meet.calls a0_2 a0_3 a1_0 a1_1 t329 t330 true _ A39.out).mono ?_); rintro e w47 ⟨rfl, hb⟩; refine ⟨_, rfl, ?_⟩; have n0_ := Aside0.mk (bB (g := gb323) (o := .cells #[.int .u8 a0_0, .int .i64 a0_1, .string a0_2, .string a0_3, .string a0_4, .int .u64 a0_5] 33 (0, 0)) (by (with_reducible repeat (first | refine bN ?_ _ | refine bD ?_ | refine bA ?_ _)); exact BK323.out) hb); have n1_ := Aside0.mk (bB (g := gb324) (o := .cells #[.string a1_0, .string a1_1] 38 (0, 0)) (by (with_reducible repeat (first | refine bN ?_ _ | refine bD ?_ | refine bA ?_ _)); exact BK324.out) hb); have n2_ := Aside0.mk (bB (g := gb325) (o := .cells #[.int .u8 0, .int .i64 0, .string (⟨#[]⟩ : BA), .string (⟨#[]⟩ : BA), .string (⟨#[]⟩ : BA), .int .u64 0] 33 (0, 0)) (by (with_reducible repeat (first | refine bN ?_ _ | refine bD ?_ | refine bA ?_ _)); exact BK325.out) hb); have n3_ := Aside0.mk (wT (by repeat (first | (with_reducible first | exact HB.out | apply wA | apply wN | apply w1 | refine wS ?_ GE323.out | refine wS ?_ GE324.out | refine wS ?_ GE325.out) | exact HB.out)) hb); clear BK323; clear BK324; clear BK325; clear HB; have BK323 := n0_; have BK324 := n1_; have BK325 := n2_; have HB := n3_; clear n0_ n1_ n2_ n3_; (try clear hb); (try clear hb2); (try clear hk); (try clear hi)) | ((with_reducible refine gate_dst (N := 6) rfl ?_); refine box_event ?hg (N := 6) ?hd (cs := #[.string (⟨#[]⟩ : BA), .string (⟨#[]⟩ : BA)]) (t := 38) ?hr ?_; (case hd => rfl); (case hg => rfl); (case hr => first | (go_simp; done) | (go_simp; rfl)); intro gb332 hg w48 hbox hb; have n0_ := Aside0.mk (bB (g := gb323) (o := .cells #[.int .u8 a0_0, .int .i64 a0_1, .string a0_2, .string a0_3, .string a0_4, .int .u64 a0_5] 33 (0, 0)) (by (with_reducible repeat (first | refine bN ?_ _ | refine bD ?_ | refine bA ?_ _)); exact BK323.out) hb); have n1_ := Aside0.mk (bB (g := gb324) (o := .cells #[.string a1_0, .string a1_1] 38 (0, 0)) (by (with_reducible repeat (first | refine bN ?_ _ | refine bD ?_ | refine bA ?_ _)); exact BK324.out) hb); have n2_ := Aside0.mk (bB (g := gb325) (o := .cells #[.int .u8 0, .int .i64 0, .string (⟨#[]⟩ : BA), .string (⟨#[]⟩ : BA), .string (⟨#[]⟩ : BA), .int .u64 0] 33 (0, 0)) (by (with_reducible repeat (first | refine bN ?_ _ | refine bD ?_ | refine bA ?_ _)); exact BK325.out) hb); have n3_ := Aside0.mk (wT (by repeat (first | (with_reducible first | exact HB.out | apply wA | apply wN | apply w1 | refine wS ?_ GE323.out | refine wS ?_ GE324.out | refine wS ?_ GE325.out) | exact HB.out)) hb); have n4_ := Aside0.mk (hbox); have n5_ := Aside0.mk ((by rw [hg]; exact (wZ (by repeat (first | (with_reducible first | exact HB.out | apply wA | apply wN | apply w1 | refine wS ?_ GE323.out | refine wS ?_ GE324.out | refine wS ?_ GE325.out) | exact HB.out))) : w.heap.size ≤ gb332)); have n6_ := n5_; have n7_ := Aside0.mk ((by rw [hg]; exact Nat.ne_of_lt (blk_lt (g := gb323) (o := .cells #[.int .u8 a0_0, .int .i64 a0_1, .string a0_2, .string a0_3, .string a0_4, .int .u64 a0_5] 33 (0, 0)) (by (with_reducible repeat (first | refine bN ?_ _ | refine bD ?_ | refine bA ?_ _)); exact BK323.out)) : gb323 ≠ gb332)); have n8_ := Aside0.mk ((by rw [hg]; exact Nat.ne_of_gt (blk_lt (g := gb323) (o := .cells #[.int .u8 a0_0, .int .i64 a0_1, .string a0_2, .string a0_3, .string a0_4, .int .u64 a0_5] 33 (0, 0)) (by (with_reducible repeat (first | refine bN ?_ _ | refine bD ?_ | refine bA ?_ _)); exact BK323.out)) : gb332 ≠ gb323)); have n9_ := Aside0.mk ((by rw [hg]; exact Nat.ne_of_lt (blk_lt (g := gb324) (o := .cells #[.string a1_0, .string a1_1] 38 (0, 0)) (by (with_reducible repeat (first | refine bN ?_ _ | refine bD ?_ | refine bA ?_ _)); exact BK324.out)) : gb324 ≠ gb332)); have n10_ := Aside0.mk ((by rw [hg]; exact Nat.ne_of_gt (blk_lt (g := gb324) (o := .cells #[.string a1_0, .string a1_1] 38 (0, 0)) (by (with_reducible repeat (first | refine bN ?_ _ | refine bD ?_ | refine bA ?_ _)); exact BK324.out)) : gb332 ≠ gb324)); have n11_ := Aside0.mk ((by rw [hg]; exact Nat.ne_of_lt (blk_lt (g := gb325) (o := .cells #[.int .u8 0, .int .i64 0, .string (⟨#[]⟩ : BA), .string (⟨#[]⟩ : BA), .string (⟨#[]⟩ : BA), .int .u64 0] 33 (0, 0)) (by (with_reducible repeat (first | refine bN ?_ _ | refine bD ?_ | refine bA ?_ _)); exact BK325.out)) : gb325 ≠ gb332)); have n12_ := Aside0.mk ((by rw [hg]; exact Nat.ne_of_gt (blk_lt (g := gb325) (o := .cells #[.int .u8 0, .int .i64 0, .string (⟨#[]⟩ : BA), .string (⟨#[]⟩ : BA), .string (⟨#[]⟩ : BA), .int .u64 0] 33 (0, 0)) (by (with_reducible repeat (first | refine bN ?_ _ | refine bD ?_ | refine bA ?_ _)); exact BK325.out)) : gb332 ≠ gb325)); clear BK323; clear BK324; clear BK325; clear HB; have BK323 := n0_; have BK324 := n1_; have BK325 := n2_; have HB := n3_; have BK332 := n4_; have GW332 := n5_; have GE332 := n6_; have NB323_332 := n7_; have NB332_323 := n8_; have NB324_332 := n9_; have NB332_324 := n10_; have NB325_332 := n11_; have NB332_325 := n12_; clear n0_ n1_ n2_ n3_ n4_ n5_ n6_ n7_ n8_ n9_ n10_ n11_ n12_; clear hb hbox hg; have hnb49 := NB332_323.out; have hnc49 := NB323_332.out; have hnb50 := NB332_324.out; have hnc50 := NB324_332.out; have hnb51 := NB332_325.out; have hnc51 := NB325_332.out; have hcz52_0 : w48.cell? ⟨gb332, 0, none⟩ = some (.string (⟨#[]⟩ : BA)) := (bC BK332.out 0).trans rfl; have hcz52_1 : w48.cell? ⟨gb332, 1, none⟩ = some (.string (⟨#[]⟩ : BA)) := (bC BK332.out 1).trans rfl; have hfz52_0 := bF BK332.out 0; have hfz52_1 := bF BK332.out 1; have hcz53_0 : w48.cell? ⟨gb323, 0, none⟩ = some (.int .u8 a0_0) := (bC BK323.out 0).trans rfl; have hcz53_1 : w48.cell? ⟨gb323, 1, none⟩ = some (.int .i64 a0_1) := (bC BK323.out 1).trans rfl; have hcz53_2 : w48.cell? ⟨gb323, 2, none⟩ = some (.string a0_2) := (bC BK323.out 2).trans rfl; have hcz53_3 : w48.cell? ⟨gb323, 3, none⟩ = some (.string a0_3) := (bC BK323.out 3).trans rfl; have hcz53_4 : w48.cell? ⟨gb323, 4, none⟩ = some (.string a0_4) := (bC BK323.out 4).trans rfl; have hcz53_5 : w48.cell? ⟨gb323, 5, none⟩ = some (.int .u64 a0_5) := (bC BK323.out 5).trans rfl; have hfz53_0 := bF BK323.out 0; have hfz53_1 := bF BK323.out 1; have hfz53_2 := bF BK323.out 2; have hfz53_3 := bF BK323.out 3; have hfz53_4 := bF BK323.out 4; have hfz53_5 := bF BK323.out 5; have hcz54_0 : w48.cell? ⟨gb325, 0, none⟩ = some (.int .u8 0) := (bC BK325.out 0).trans rfl; have hcz54_1 : w48.cell? ⟨gb325, 1, none⟩ = some (.int .i64 0) := (bC BK325.out 1).trans rfl; have hcz54_2 : w48.cell? ⟨gb325, 2, none⟩ = some (.string (⟨#[]⟩ : BA)) := (bC BK325.out 2).trans rfl; have hcz54_3 : w48.cell? ⟨gb325, 3, none⟩ = some (.string (⟨#[]⟩ : BA)) := (bC BK325.out 3).trans rfl; have hcz54_4 : w48.cell? ⟨gb325, 4, none⟩ = some (.string (⟨#[]⟩ : BA)) := (bC BK325.out 4).trans rfl; have hcz54_5 : w48.cell? ⟨gb325, 5, none⟩ = some (.int .u64 0) := (bC BK325.out 5).trans rfl; have hfz54_0 := bF BK325.out 0; have hfz54_1 := bF BK325.out 1; have hfz54_2 := bF BK325.out 2; have hfz54_3 := bF BK325.out 3; have hfz54_4 := bF BK325.out 4; have hfz54_5 := bF BK325.out 5))
      refine bodyPost_ret (results_ct rfl _ _ gb325 33 #[.int .u8 a0_0, .int .i64 a0_1, .string t329, .string t330, .string a0_4, .int .u64 a0_5] (0, 0) _ rfl (by (with_reducible repeat (first | refine bN ?_ _ | refine bD ?_ | refine bA ?_ _)); refine bP (cs := #[.int .u8 a0_0, .int .i64 a0_1, .string t329, .string t330, .string a0_4, .int .u64 0]) ?_ 5 _ rfl; (with_reducible repeat (first | refine bN ?_ _ | refine bD ?_ | refine bA ?_ _)); refine bP (cs := #[.int .u8 a0_0, .int .i64 a0_1, .string t329, .string t330, .string (⟨#[]⟩ : BA), .int .u64 0]) ?_ 4 _ rfl; (with_reducible repeat (first | refine bN ?_ _ | refine bD ?_ | refine bA ?_ _)); refine bP (cs := #[.int .u8 a0_0, .int .i64 a0_1, .string t329, .string (⟨#[]⟩ : BA), .string (⟨#[]⟩ : BA), .int .u64 0]) ?_ 3 _ rfl; (with_reducible repeat (first | refine bN ?_ _ | refine bD ?_ | refine bA ?_ _)); refine bP (cs := #[.int .u8 a0_0, .int .i64 a0_1, .string (⟨#[]⟩ : BA), .string (⟨#[]⟩ : BA), .string (⟨#[]⟩ : BA), .int .u64 0]) ?_ 2 _ rfl; (with_reducible repeat (first | refine bN ?_ _ | refine bD ?_ | refine bA ?_ _)); refine bP (cs := #[.int .u8 a0_0, .int .i64 0, .string (⟨#[]⟩ : BA), .string (⟨#[]⟩ : BA), .string (⟨#[]⟩ : BA), .int .u64 0]) ?_ 1 _ rfl; (with_reducible repeat (first | refine bN ?_ _ | refine bD ?_ | refine bA ?_ _)); refine bP (cs := #[.int .u8 0, .int .i64 0, .string (⟨#[]⟩ : BA), .string (⟨#[]⟩ : BA), .string (⟨#[]⟩ : BA), .int .u64 0]) ?_ 0 _ rfl; (with_reducible repeat (first | refine bN ?_ _ | refine bD ?_ | refine bA ?_ _)); refine bR ?_ NB325_323.out _; (with_reducible repeat (first | refine bN ?_ _ | refine bD ?_ | refine bA ?_ _)); refine bR ?_ NB325_323.out _; (with_reducible repeat (first | refine bN ?_ _ | refine bD ?_ | refine bA ?_ _)); refine bR ?_ NB325_332.out _; (with_reducible repeat (first | refine bN ?_ _ | refine bD ?_ | refine bA ?_ _)); refine bR ?_ NB325_332.out _; (with_reducible repeat (first | refine bN ?_ _ | refine bD ?_ | refine bA ?_ _)); exact BK325.out) Try.underlying33 rfl (by kernel_rfl)) rfl ?_
      exact ⟨by first | rfl | (simp [errW_none, errW_some] <;> rfl) | (simp [*, errW_none, errW_some] <;> rfl), by repeat (first | (with_reducible first | exact HB.out | apply wA | apply wN | apply w1 | refine wS ?_ GE323.out | refine wS ?_ GE324.out | refine wS ?_ GE325.out | refine wS ?_ GE332.out) | exact HB.out)⟩
     ·replace c41 := Bool.eq_false_iff.mpr c41
      subst c41
      have H1 : (some (0, 0, (⟨#[]⟩ : BA), (⟨#[]⟩ : BA), (⟨#[]⟩ : BA), 0, false)) = some (r1, r2, r3, r4, r5, r6, r7) := by rw [if_neg (show ¬ (false = true) by decide)] at H; exact H
      clear H
      have H := H1
      clear H1
      simp only [Option.some.injEq, Prod.mk.injEq] at H
      obtain ⟨rfl, rfl, rfl, rfl, rfl, rfl, rfl⟩ := H
      have hnb55 := NB323_324.out
      have hnc55 := NB324_323.out
      have hnb56 := NB323_325.out
      have hnc56 := NB325_323.out
      have hcz57_0 : wc.cell? ⟨gb323, 0, none⟩ = some (.int .u8 a0_0) := (bC BK323.out 0).trans rfl
      have hcz57_1 : wc.cell? ⟨gb323, 1, none⟩ = some (.int .i64 a0_1) := (bC BK323.out 1).trans rfl
      have hcz57_2 : wc.cell? ⟨gb323, 2, none⟩ = some (.string a0_2) := (bC BK323.out 2).trans rfl
      have hcz57_3 : wc.cell? ⟨gb323, 3, none⟩ = some (.string a0_3) := (bC BK323.out 3).trans rfl
      have hcz57_4 : wc.cell? ⟨gb323, 4, none⟩ = some (.string a0_4) := (bC BK323.out 4).trans rfl
      have hcz57_5 : wc.cell? ⟨gb323, 5, none⟩ = some (.int .u64 a0_5) := (bC BK323.out 5).trans rfl
      have hfz57_0 := bF BK323.out 0
      have hfz57_1 := bF BK323.out 1
      have hfz57_2 := bF BK323.out 2
      have hfz57_3 := bF BK323.out 3
      have hfz57_4 := bF BK323.out 4
      have hfz57_5 := bF BK323.out 5
      have hnb58 := NB324_325.out
      have hnc58 := NB325_324.out
      have hcz59_0 : wc.cell? ⟨gb324, 0, none⟩ = some (.string a1_0) := (bC BK324.out 0).trans rfl
      have hcz59_1 : wc.cell? ⟨gb324, 1, none⟩ = some (.string a1_1) := (bC BK324.out 1).trans rfl
      have hfz59_0 := bF BK324.out 0
      have hfz59_1 := bF BK324.out 1
      go_wp2_with (first | ((with_reducible refine gate_callee (f := 61) rfl ?_); refine goesL_ (some 28) rfl rfl Try.func61 (by kernel_rfl) rfl #[.agg #[.string a0_2, .string a0_3], .agg #[.string a1_0, .string a1_1]] rfl (by (try simp only [mA1, mA2, mA3]); first | done | rfl | (simp only [mA5, mA4]; rfl)) ?_; (with_reducible refine (catchmentref02_Meet.calls a0_2 a0_3 a1_0 a1_1 t329 t330 false _ A39.out).mono ?_); rintro e w60 ⟨rfl, hb⟩; refine ⟨_, rfl, ?_⟩; have n0_ := Aside0.mk (bB (g := gb323) (o := .cells #[.int .u8 a0_0, .int .i64 a0_1, .string a0_2, .string a0_3, .string a0_4, .int .u64 a0_5] 33 (0, 0)) (by (with_reducible repeat (first | refine bN ?_ _ | refine bD ?_ | refine bA ?_ _)); exact BK323.out) hb); have n1_ := Aside0.mk (bB (g := gb324) (o := .cells #[.string a1_0, .string a1_1] 38 (0, 0)) (by (with_reducible repeat (first | refine bN ?_ _ | refine bD ?_ | refine bA ?_ _)); exact BK324.out) hb); have n2_ := Aside0.mk (bB (g := gb325) (o := .cells #[.int .u8 0, .int .i64 0, .string (⟨#[]⟩ : BA), .string (⟨#[]⟩ : BA), .string (⟨#[]⟩ : BA), .int .u64 0] 33 (0, 0)) (by (with_reducible repeat (first | refine bN ?_ _ | refine bD ?_ | refine bA ?_ _)); exact BK325.out) hb); have n3_ := Aside0.mk (wT (by repeat (first | (with_reducible first | exact HB.out | apply wA | apply wN | apply w1 | refine wS ?_ GE323.out | refine wS ?_ GE324.out | refine wS ?_ GE325.out) | exact HB.out)) hb); clear BK323; clear BK324; clear BK325; clear HB; have BK323 := n0_; have BK324 := n1_; have BK325 := n2_; have HB := n3_; clear n0_ n1_ n2_ n3_; (try clear hb); (try clear hb2); (try clear hk); (try clear hi)) | ((with_reducible refine gate_dst (N := 6) rfl ?_); refine box_event ?hg (N := 6) ?hd (cs := #[.string (⟨#[]⟩ : BA), .string (⟨#[]⟩ : BA)]) (t := 38) ?hr ?_; (case hd => rfl); (case hg => rfl); (case hr => first | (go_simp; done) | (go_simp; rfl)); intro gb332 hg w61 hbox hb; have n0_ := Aside0.mk (bB (g := gb323) (o := .cells #[.int .u8 a0_0, .int .i64 a0_1, .string a0_2, .string a0_3, .string a0_4, .int .u64 a0_5] 33 (0, 0)) (by (with_reducible repeat (first | refine bN ?_ _ | refine bD ?_ | refine bA ?_ _)); exact BK323.out) hb); have n1_ := Aside0.mk (bB (g := gb324) (o := .cells #[.string a1_0, .string a1_1] 38 (0, 0)) (by (with_reducible repeat (first | refine bN ?_ _ | refine bD ?_ | refine bA ?_ _)); exact BK324.out) hb); have n2_ := Aside0.mk (bB (g := gb325) (o := .cells #[.int .u8 0, .int .i64 0, .string (⟨#[]⟩ : BA), .string (⟨#[]⟩ : BA), .string (⟨#[]⟩ : BA), .int .u64 0] 33 (0, 0)) (by (with_reducible repeat (first | refine bN ?_ _ | refine bD ?_ | refine bA ?_ _)); exact BK325.out) hb); have n3_ := Aside0.mk (wT (by repeat (first | (with_reducible first | exact HB.out | apply wA | apply wN | apply w1 | refine wS ?_ GE323.out | refine wS ?_ GE324.out | refine wS ?_ GE325.out) | exact HB.out)) hb); have n4_ := Aside0.mk (hbox); have n5_ := Aside0.mk ((by rw [hg]; exact (wZ (by repeat (first | (with_reducible first | exact HB.out | apply wA | apply wN | apply w1 | refine wS ?_ GE323.out | refine wS ?_ GE324.out | refine wS ?_ GE325.out) | exact HB.out))) : w.heap.size ≤ gb332)); have n6_ := n5_; have n7_ := Aside0.mk ((by rw [hg]; exact Nat.ne_of_lt (blk_lt (g := gb323) (o := .cells #[.int .u8 a0_0, .int .i64 a0_1, .string a0_2, .string a0_3, .string a0_4, .int .u64 a0_5] 33 (0, 0)) (by (with_reducible repeat (first | refine bN ?_ _ | refine bD ?_ | refine bA ?_ _)); exact BK323.out)) : gb323 ≠ gb332)); have n8_ := Aside0.mk ((by rw [hg]; exact Nat.ne_of_gt (blk_lt (g := gb323) (o := .cells #[.int .u8 a0_0, .int .i64 a0_1, .string a0_2, .string a0_3, .string a0_4, .int .u64 a0_5] 33 (0, 0)) (by (with_reducible repeat (first | refine bN ?_ _ | refine bD ?_ | refine bA ?_ _)); exact BK323.out)) : gb332 ≠ gb323)); have n9_ := Aside0.mk ((by rw [hg]; exact Nat.ne_of_lt (blk_lt (g := gb324) (o := .cells #[.string a1_0, .string a1_1] 38 (0, 0)) (by (with_reducible repeat (first | refine bN ?_ _ | refine bD ?_ | refine bA ?_ _)); exact BK324.out)) : gb324 ≠ gb332)); have n10_ := Aside0.mk ((by rw [hg]; exact Nat.ne_of_gt (blk_lt (g := gb324) (o := .cells #[.string a1_0, .string a1_1] 38 (0, 0)) (by (with_reducible repeat (first | refine bN ?_ _ | refine bD ?_ | refine bA ?_ _)); exact BK324.out)) : gb332 ≠ gb324)); have n11_ := Aside0.mk ((by rw [hg]; exact Nat.ne_of_lt (blk_lt (g := gb325) (o := .cells #[.int .u8 0, .int .i64 0, .string (⟨#[]⟩ : BA), .string (⟨#[]⟩ : BA), .string (⟨#[]⟩ : BA), .int .u64 0] 33 (0, 0)) (by (with_reducible repeat (first | refine bN ?_ _ | refine bD ?_ | refine bA ?_ _)); exact BK325.out)) : gb325 ≠ gb332)); have n12_ := Aside0.mk ((by rw [hg]; exact Nat.ne_of_gt (blk_lt (g := gb325) (o := .cells #[.int .u8 0, .int .i64 0, .string (⟨#[]⟩ : BA), .string (⟨#[]⟩ : BA), .string (⟨#[]⟩ : BA), .int .u64 0] 33 (0, 0)) (by (with_reducible repeat (first | refine bN ?_ _ | refine bD ?_ | refine bA ?_ _)); exact BK325.out)) : gb332 ≠ gb325)); clear BK323; clear BK324; clear BK325; clear HB; have BK323 := n0_; have BK324 := n1_; have BK325 := n2_; have HB := n3_; have BK332 := n4_; have GW332 := n5_; have GE332 := n6_; have NB323_332 := n7_; have NB332_323 := n8_; have NB324_332 := n9_; have NB332_324 := n10_; have NB325_332 := n11_; have NB332_325 := n12_; clear n0_ n1_ n2_ n3_ n4_ n5_ n6_ n7_ n8_ n9_ n10_ n11_ n12_; clear hb hbox hg; have hnb62 := NB332_323.out; have hnc62 := NB323_332.out; have hnb63 := NB332_324.out; have hnc63 := NB324_332.out; have hnb64 := NB332_325.out; have hnc64 := NB325_332.out; have hcz65_0 : w61.cell? ⟨gb332, 0, none⟩ = some (.string (⟨#[]⟩ : BA)) := (bC BK332.out 0).trans rfl; have hcz65_1 : w61.cell? ⟨gb332, 1, none⟩ = some (.string (⟨#[]⟩ : BA)) := (bC BK332.out 1).trans rfl; have hfz65_0 := bF BK332.out 0; have hfz65_1 := bF BK332.out 1; have hcz66_0 : w61.cell? ⟨gb323, 0, none⟩ = some (.int .u8 a0_0) := (bC BK323.out 0).trans rfl; have hcz66_1 : w61.cell? ⟨gb323, 1, none⟩ = some (.int .i64 a0_1) := (bC BK323.out 1).trans rfl; have hcz66_2 : w61.cell? ⟨gb323, 2, none⟩ = some (.string a0_2) := (bC BK323.out 2).trans rfl; have hcz66_3 : w61.cell? ⟨gb323, 3, none⟩ = some (.string a0_3) := (bC BK323.out 3).trans rfl; have hcz66_4 : w61.cell? ⟨gb323, 4, none⟩ = some (.string a0_4) := (bC BK323.out 4).trans rfl; have hcz66_5 : w61.cell? ⟨gb323, 5, none⟩ = some (.int .u64 a0_5) := (bC BK323.out 5).trans rfl; have hfz66_0 := bF BK323.out 0; have hfz66_1 := bF BK323.out 1; have hfz66_2 := bF BK323.out 2; have hfz66_3 := bF BK323.out 3; have hfz66_4 := bF BK323.out 4; have hfz66_5 := bF BK323.out 5; have hcz67_0 : w61.cell? ⟨gb325, 0, none⟩ = some (.int .u8 0) := (bC BK325.out 0).trans rfl; have hcz67_1 : w61.cell? ⟨gb325, 1, none⟩ = some (.int .i64 0) := (bC BK325.out 1).trans rfl; have hcz67_2 : w61.cell? ⟨gb325, 2, none⟩ = some (.string (⟨#[]⟩ : BA)) := (bC BK325.out 2).trans rfl; have hcz67_3 : w61.cell? ⟨gb325, 3, none⟩ = some (.string (⟨#[]⟩ : BA)) := (bC BK325.out 3).trans rfl; have hcz67_4 : w61.cell? ⟨gb325, 4, none⟩ = some (.string (⟨#[]⟩ : BA)) := (bC BK325.out 4).trans rfl; have hcz67_5 : w61.cell? ⟨gb325, 5, none⟩ = some (.int .u64 0) := (bC BK325.out 5).trans rfl; have hfz67_0 := bF BK325.out 0; have hfz67_1 := bF BK325.out 1; have hfz67_2 := bF BK325.out 2; have hfz67_3 := bF BK325.out 3; have hfz67_4 := bF BK325.out 4; have hfz67_5 := bF BK325.out 5))
      refine bodyPost_ret (results_ct rfl _ _ gb325 33 #[.int .u8 0, .int .i64 0, .string (⟨#[]⟩ : BA), .string (⟨#[]⟩ : BA), .string (⟨#[]⟩ : BA), .int .u64 0] (0, 0) _ rfl (by (with_reducible repeat (first | refine bN ?_ _ | refine bD ?_ | refine bA ?_ _)); refine bP (cs := #[.int .u8 0, .int .i64 0, .string (⟨#[]⟩ : BA), .string (⟨#[]⟩ : BA), .string (⟨#[]⟩ : BA), .int .u64 0]) ?_ 5 _ rfl; (with_reducible repeat (first | refine bN ?_ _ | refine bD ?_ | refine bA ?_ _)); refine bP (cs := #[.int .u8 0, .int .i64 0, .string (⟨#[]⟩ : BA), .string (⟨#[]⟩ : BA), .string (⟨#[]⟩ : BA), .int .u64 0]) ?_ 4 _ rfl; (with_reducible repeat (first | refine bN ?_ _ | refine bD ?_ | refine bA ?_ _)); refine bP (cs := #[.int .u8 0, .int .i64 0, .string (⟨#[]⟩ : BA), .string (⟨#[]⟩ : BA), .string (⟨#[]⟩ : BA), .int .u64 0]) ?_ 3 _ rfl; (with_reducible repeat (first | refine bN ?_ _ | refine bD ?_ | refine bA ?_ _)); refine bP (cs := #[.int .u8 0, .int .i64 0, .string (⟨#[]⟩ : BA), .string (⟨#[]⟩ : BA), .string (⟨#[]⟩ : BA), .int .u64 0]) ?_ 2 _ rfl; (with_reducible repeat (first | refine bN ?_ _ | refine bD ?_ | refine bA ?_ _)); refine bP (cs := #[.int .u8 0, .int .i64 0, .string (⟨#[]⟩ : BA), .string (⟨#[]⟩ : BA), .string (⟨#[]⟩ : BA), .int .u64 0]) ?_ 1 _ rfl; (with_reducible repeat (first | refine bN ?_ _ | refine bD ?_ | refine bA ?_ _)); refine bP (cs := #[.int .u8 0, .int .i64 0, .string (⟨#[]⟩ : BA), .string (⟨#[]⟩ : BA), .string (⟨#[]⟩ : BA), .int .u64 0]) ?_ 0 _ rfl; (with_reducible repeat (first | refine bN ?_ _ | refine bD ?_ | refine bA ?_ _)); refine bR ?_ NB325_332.out _; (with_reducible repeat (first | refine bN ?_ _ | refine bD ?_ | refine bA ?_ _)); refine bR ?_ NB325_332.out _; (with_reducible repeat (first | refine bN ?_ _ | refine bD ?_ | refine bA ?_ _)); exact BK325.out) Try.underlying33 rfl (by kernel_rfl)) rfl ?_
      exact ⟨by first | rfl | (simp [errW_none, errW_some] <;> rfl) | (simp [*, errW_none, errW_some] <;> rfl), by repeat (first | (with_reducible first | exact HB.out | apply wA | apply wN | apply w1 | refine wS ?_ GE323.out | refine wS ?_ GE324.out | refine wS ?_ GE325.out | refine wS ?_ GE332.out) | exact HB.out)⟩
    ·rw [if_neg c40] at H
     have c40b0 : (a0_0 == 4) = false := beq_eq_false_iff_ne.mpr c40
     have c40b1 : (a0_0 != 4) = true := bne_iff_ne.mpr c40
     simp only [Option.some.injEq, Prod.mk.injEq] at H
     obtain ⟨rfl, rfl, rfl, rfl, rfl, rfl, rfl⟩ := H
     have hnb68 := NB323_324.out
     have hnc68 := NB324_323.out
     have hnb69 := NB323_325.out
     have hnc69 := NB325_323.out
     have hcz70_0 : wc.cell? ⟨gb323, 0, none⟩ = some (.int .u8 a0_0) := (bC BK323.out 0).trans rfl
     have hcz70_1 : wc.cell? ⟨gb323, 1, none⟩ = some (.int .i64 a0_1) := (bC BK323.out 1).trans rfl
     have hcz70_2 : wc.cell? ⟨gb323, 2, none⟩ = some (.string a0_2) := (bC BK323.out 2).trans rfl
     have hcz70_3 : wc.cell? ⟨gb323, 3, none⟩ = some (.string a0_3) := (bC BK323.out 3).trans rfl
     have hcz70_4 : wc.cell? ⟨gb323, 4, none⟩ = some (.string a0_4) := (bC BK323.out 4).trans rfl
     have hcz70_5 : wc.cell? ⟨gb323, 5, none⟩ = some (.int .u64 a0_5) := (bC BK323.out 5).trans rfl
     have hfz70_0 := bF BK323.out 0
     have hfz70_1 := bF BK323.out 1
     have hfz70_2 := bF BK323.out 2
     have hfz70_3 := bF BK323.out 3
     have hfz70_4 := bF BK323.out 4
     have hfz70_5 := bF BK323.out 5
     have hnb71 := NB324_325.out
     have hnc71 := NB325_324.out
     have hcz72_0 : wc.cell? ⟨gb324, 0, none⟩ = some (.string a1_0) := (bC BK324.out 0).trans rfl
     have hcz72_1 : wc.cell? ⟨gb324, 1, none⟩ = some (.string a1_1) := (bC BK324.out 1).trans rfl
     have hfz72_0 := bF BK324.out 0
     have hfz72_1 := bF BK324.out 1
     go_wp2_with (first | ((with_reducible refine gate_callee (f := 61) rfl ?_); refine goesL_ (some 28) rfl rfl Try.func61 (by kernel_rfl) rfl #[.agg #[.string a0_2, .string a0_3], .agg #[.string a1_0, .string a1_1]] rfl (by (try simp only [mA1, mA2, mA3]); first | done | rfl | (simp only [mA5, mA4]; rfl)) ?_; (with_reducible refine (catchmentref02_Meet.calls a0_2 a0_3 a1_0 a1_1 t329 t330 t331 _ A39.out).mono ?_); rintro e w73 ⟨rfl, hb⟩; refine ⟨_, rfl, ?_⟩; have n0_ := Aside0.mk (bB (g := gb323) (o := .cells #[.int .u8 a0_0, .int .i64 a0_1, .string a0_2, .string a0_3, .string a0_4, .int .u64 a0_5] 33 (0, 0)) (by (with_reducible repeat (first | refine bN ?_ _ | refine bD ?_ | refine bA ?_ _)); exact BK323.out) hb); have n1_ := Aside0.mk (bB (g := gb324) (o := .cells #[.string a1_0, .string a1_1] 38 (0, 0)) (by (with_reducible repeat (first | refine bN ?_ _ | refine bD ?_ | refine bA ?_ _)); exact BK324.out) hb); have n2_ := Aside0.mk (bB (g := gb325) (o := .cells #[.int .u8 0, .int .i64 0, .string (⟨#[]⟩ : BA), .string (⟨#[]⟩ : BA), .string (⟨#[]⟩ : BA), .int .u64 0] 33 (0, 0)) (by (with_reducible repeat (first | refine bN ?_ _ | refine bD ?_ | refine bA ?_ _)); exact BK325.out) hb); have n3_ := Aside0.mk (wT (by repeat (first | (with_reducible first | exact HB.out | apply wA | apply wN | apply w1 | refine wS ?_ GE323.out | refine wS ?_ GE324.out | refine wS ?_ GE325.out) | exact HB.out)) hb); clear BK323; clear BK324; clear BK325; clear HB; have BK323 := n0_; have BK324 := n1_; have BK325 := n2_; have HB := n3_; clear n0_ n1_ n2_ n3_; (try clear hb); (try clear hb2); (try clear hk); (try clear hi)) | ((with_reducible refine gate_dst (N := 6) rfl ?_); refine box_event ?hg (N := 6) ?hd (cs := #[.string (⟨#[]⟩ : BA), .string (⟨#[]⟩ : BA)]) (t := 38) ?hr ?_; (case hd => rfl); (case hg => rfl); (case hr => first | (go_simp; done) | (go_simp; rfl)); intro gb332 hg w74 hbox hb; have n0_ := Aside0.mk (bB (g := gb323) (o := .cells #[.int .u8 a0_0, .int .i64 a0_1, .string a0_2, .string a0_3, .string a0_4, .int .u64 a0_5] 33 (0, 0)) (by (with_reducible repeat (first | refine bN ?_ _ | refine bD ?_ | refine bA ?_ _)); exact BK323.out) hb); have n1_ := Aside0.mk (bB (g := gb324) (o := .cells #[.string a1_0, .string a1_1] 38 (0, 0)) (by (with_reducible repeat (first | refine bN ?_ _ | refine bD ?_ | refine bA ?_ _)); exact BK324.out) hb); have n2_ := Aside0.mk (bB (g := gb325) (o := .cells #[.int .u8 0, .int .i64 0, .string (⟨#[]⟩ : BA), .string (⟨#[]⟩ : BA), .string (⟨#[]⟩ : BA), .int .u64 0] 33 (0, 0)) (by (with_reducible repeat (first | refine bN ?_ _ | refine bD ?_ | refine bA ?_ _)); exact BK325.out) hb); have n3_ := Aside0.mk (wT (by repeat (first | (with_reducible first | exact HB.out | apply wA | apply wN | apply w1 | refine wS ?_ GE323.out | refine wS ?_ GE324.out | refine wS ?_ GE325.out) | exact HB.out)) hb); have n4_ := Aside0.mk (hbox); have n5_ := Aside0.mk ((by rw [hg]; exact (wZ (by repeat (first | (with_reducible first | exact HB.out | apply wA | apply wN | apply w1 | refine wS ?_ GE323.out | refine wS ?_ GE324.out | refine wS ?_ GE325.out) | exact HB.out))) : w.heap.size ≤ gb332)); have n6_ := n5_; have n7_ := Aside0.mk ((by rw [hg]; exact Nat.ne_of_lt (blk_lt (g := gb323) (o := .cells #[.int .u8 a0_0, .int .i64 a0_1, .string a0_2, .string a0_3, .string a0_4, .int .u64 a0_5] 33 (0, 0)) (by (with_reducible repeat (first | refine bN ?_ _ | refine bD ?_ | refine bA ?_ _)); exact BK323.out)) : gb323 ≠ gb332)); have n8_ := Aside0.mk ((by rw [hg]; exact Nat.ne_of_gt (blk_lt (g := gb323) (o := .cells #[.int .u8 a0_0, .int .i64 a0_1, .string a0_2, .string a0_3, .string a0_4, .int .u64 a0_5] 33 (0, 0)) (by (with_reducible repeat (first | refine bN ?_ _ | refine bD ?_ | refine bA ?_ _)); exact BK323.out)) : gb332 ≠ gb323)); have n9_ := Aside0.mk ((by rw [hg]; exact Nat.ne_of_lt (blk_lt (g := gb324) (o := .cells #[.string a1_0, .string a1_1] 38 (0, 0)) (by (with_reducible repeat (first | refine bN ?_ _ | refine bD ?_ | refine bA ?_ _)); exact BK324.out)) : gb324 ≠ gb332)); have n10_ := Aside0.mk ((by rw [hg]; exact Nat.ne_of_gt (blk_lt (g := gb324) (o := .cells #[.string a1_0, .string a1_1] 38 (0, 0)) (by (with_reducible repeat (first | refine bN ?_ _ | refine bD ?_ | refine bA ?_ _)); exact BK324.out)) : gb332 ≠ gb324)); have n11_ := Aside0.mk ((by rw [hg]; exact Nat.ne_of_lt (blk_lt (g := gb325) (o := .cells #[.int .u8 0, .int .i64 0, .string (⟨#[]⟩ : BA), .string (⟨#[]⟩ : BA), .string (⟨#[]⟩ : BA), .int .u64 0] 33 (0, 0)) (by (with_reducible repeat (first | refine bN ?_ _ | refine bD ?_ | refine bA ?_ _)); exact BK325.out)) : gb325 ≠ gb332)); have n12_ := Aside0.mk ((by rw [hg]; exact Nat.ne_of_gt (blk_lt (g := gb325) (o := .cells #[.int .u8 0, .int .i64 0, .string (⟨#[]⟩ : BA), .string (⟨#[]⟩ : BA), .string (⟨#[]⟩ : BA), .int .u64 0] 33 (0, 0)) (by (with_reducible repeat (first | refine bN ?_ _ | refine bD ?_ | refine bA ?_ _)); exact BK325.out)) : gb332 ≠ gb325)); clear BK323; clear BK324; clear BK325; clear HB; have BK323 := n0_; have BK324 := n1_; have BK325 := n2_; have HB := n3_; have BK332 := n4_; have GW332 := n5_; have GE332 := n6_; have NB323_332 := n7_; have NB332_323 := n8_; have NB324_332 := n9_; have NB332_324 := n10_; have NB325_332 := n11_; have NB332_325 := n12_; clear n0_ n1_ n2_ n3_ n4_ n5_ n6_ n7_ n8_ n9_ n10_ n11_ n12_; clear hb hbox hg; have hnb75 := NB332_323.out; have hnc75 := NB323_332.out; have hnb76 := NB332_324.out; have hnc76 := NB324_332.out; have hnb77 := NB332_325.out; have hnc77 := NB325_332.out; have hcz78_0 : w74.cell? ⟨gb332, 0, none⟩ = some (.string (⟨#[]⟩ : BA)) := (bC BK332.out 0).trans rfl; have hcz78_1 : w74.cell? ⟨gb332, 1, none⟩ = some (.string (⟨#[]⟩ : BA)) := (bC BK332.out 1).trans rfl; have hfz78_0 := bF BK332.out 0; have hfz78_1 := bF BK332.out 1; have hcz79_0 : w74.cell? ⟨gb323, 0, none⟩ = some (.int .u8 a0_0) := (bC BK323.out 0).trans rfl; have hcz79_1 : w74.cell? ⟨gb323, 1, none⟩ = some (.int .i64 a0_1) := (bC BK323.out 1).trans rfl; have hcz79_2 : w74.cell? ⟨gb323, 2, none⟩ = some (.string a0_2) := (bC BK323.out 2).trans rfl; have hcz79_3 : w74.cell? ⟨gb323, 3, none⟩ = some (.string a0_3) := (bC BK323.out 3).trans rfl; have hcz79_4 : w74.cell? ⟨gb323, 4, none⟩ = some (.string a0_4) := (bC BK323.out 4).trans rfl; have hcz79_5 : w74.cell? ⟨gb323, 5, none⟩ = some (.int .u64 a0_5) := (bC BK323.out 5).trans rfl; have hfz79_0 := bF BK323.out 0; have hfz79_1 := bF BK323.out 1; have hfz79_2 := bF BK323.out 2; have hfz79_3 := bF BK323.out 3; have hfz79_4 := bF BK323.out 4; have hfz79_5 := bF BK323.out 5; have hcz80_0 : w74.cell? ⟨gb325, 0, none⟩ = some (.int .u8 0) := (bC BK325.out 0).trans rfl; have hcz80_1 : w74.cell? ⟨gb325, 1, none⟩ = some (.int .i64 0) := (bC BK325.out 1).trans rfl; have hcz80_2 : w74.cell? ⟨gb325, 2, none⟩ = some (.string (⟨#[]⟩ : BA)) := (bC BK325.out 2).trans rfl; have hcz80_3 : w74.cell? ⟨gb325, 3, none⟩ = some (.string (⟨#[]⟩ : BA)) := (bC BK325.out 3).trans rfl; have hcz80_4 : w74.cell? ⟨gb325, 4, none⟩ = some (.string (⟨#[]⟩ : BA)) := (bC BK325.out 4).trans rfl; have hcz80_5 : w74.cell? ⟨gb325, 5, none⟩ = some (.int .u64 0) := (bC BK325.out 5).trans rfl; have hfz80_0 := bF BK325.out 0; have hfz80_1 := bF BK325.out 1; have hfz80_2 := bF BK325.out 2; have hfz80_3 := bF BK325.out 3; have hfz80_4 := bF BK325.out 4; have hfz80_5 := bF BK325.out 5))
     refine bodyPost_ret (results_ct rfl _ _ gb325 33 #[.int .u8 0, .int .i64 0, .string (⟨#[]⟩ : BA), .string (⟨#[]⟩ : BA), .string (⟨#[]⟩ : BA), .int .u64 0] (0, 0) _ rfl (by (with_reducible repeat (first | refine bN ?_ _ | refine bD ?_ | refine bA ?_ _)); refine bP (cs := #[.int .u8 0, .int .i64 0, .string (⟨#[]⟩ : BA), .string (⟨#[]⟩ : BA), .string (⟨#[]⟩ : BA), .int .u64 0]) ?_ 5 _ rfl; (with_reducible repeat (first | refine bN ?_ _ | refine bD ?_ | refine bA ?_ _)); refine bP (cs := #[.int .u8 0, .int .i64 0, .string (⟨#[]⟩ : BA), .string (⟨#[]⟩ : BA), .string (⟨#[]⟩ : BA), .int .u64 0]) ?_ 4 _ rfl; (with_reducible repeat (first | refine bN ?_ _ | refine bD ?_ | refine bA ?_ _)); refine bP (cs := #[.int .u8 0, .int .i64 0, .string (⟨#[]⟩ : BA), .string (⟨#[]⟩ : BA), .string (⟨#[]⟩ : BA), .int .u64 0]) ?_ 3 _ rfl; (with_reducible repeat (first | refine bN ?_ _ | refine bD ?_ | refine bA ?_ _)); refine bP (cs := #[.int .u8 0, .int .i64 0, .string (⟨#[]⟩ : BA), .string (⟨#[]⟩ : BA), .string (⟨#[]⟩ : BA), .int .u64 0]) ?_ 2 _ rfl; (with_reducible repeat (first | refine bN ?_ _ | refine bD ?_ | refine bA ?_ _)); refine bP (cs := #[.int .u8 0, .int .i64 0, .string (⟨#[]⟩ : BA), .string (⟨#[]⟩ : BA), .string (⟨#[]⟩ : BA), .int .u64 0]) ?_ 1 _ rfl; (with_reducible repeat (first | refine bN ?_ _ | refine bD ?_ | refine bA ?_ _)); refine bP (cs := #[.int .u8 0, .int .i64 0, .string (⟨#[]⟩ : BA), .string (⟨#[]⟩ : BA), .string (⟨#[]⟩ : BA), .int .u64 0]) ?_ 0 _ rfl; (with_reducible repeat (first | refine bN ?_ _ | refine bD ?_ | refine bA ?_ _)); refine bR ?_ NB325_332.out _; (with_reducible repeat (first | refine bN ?_ _ | refine bD ?_ | refine bA ?_ _)); refine bR ?_ NB325_332.out _; (with_reducible repeat (first | refine bN ?_ _ | refine bD ?_ | refine bA ?_ _)); exact BK325.out) Try.underlying33 rfl (by kernel_rfl)) rfl ?_
     exact ⟨by first | rfl | (simp [errW_none, errW_some] <;> rfl) | (simp [*, errW_none, errW_some] <;> rfl), by repeat (first | (with_reducible first | exact HB.out | apply wA | apply wN | apply w1 | refine wS ?_ GE323.out | refine wS ?_ GE324.out | refine wS ?_ GE325.out | refine wS ?_ GE332.out) | exact HB.out)⟩
end Go.Proofs.Ytidaiafmhidooaa.P
end
