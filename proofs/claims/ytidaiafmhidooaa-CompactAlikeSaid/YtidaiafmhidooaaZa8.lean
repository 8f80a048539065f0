/- Texts of one claim (laid by shake.py). -/
import Derived.Test.YtidaiafmhidooaaZa3
import Derived.Test.YtidaiafmhidooaaZa7
import Derived.Test.YtidaiafmhidooaaZa4
import Derived.Test.YtidaiafmhidooaaZa6
set_option linter.unusedVariables false
set_option linter.unusedSimpArgs false
section
namespace Go.Proofs.Ytidaiafmhidooaa.P
open Go.RowKit Go.Proofs.YtidaiafmhidooaaW.PrintWords Go.Proofs.YtidaiafmhidooaaW.PrintLast Go.Proofs.YtidaiafmhidooaaW.PrintMore Go.Proofs.Ytidaiafmhidooaa.Own
open Go.Proofs.YtidaiafmhidooaaW.PrintWords renaming blk_cell → bC, blk_frozen → bF, blk_drewN → bN, blk_alloc → bA, pw_below_drewN → wN, blk_drew → bD, below_drew1 → w1, below_set → wS, below_alloc → wA, blk_below → bB, below_step → wT, below_size → wZ, blk_far → bR, blk_put → bP
open List renaming setIfInBounds_toArray → sA1, set_cons_zero → sA2, set_cons_succ → sA3, map_toArray → mA1, map_cons → mA2, map_nil → mA3, length_take → mA4, length_drop → mA5
attribute [local go_sem] max2_str max2_int min2_int max_two min_two max_three min_three max_four min_four   -- for this text's walks alone
attribute [local go_sem high] eqA33
def msg_Join.j0 : Nat → Bool → Int → Int → ByteArray → ByteArray → ByteArray → Int → Int → Int → ByteArray → ByteArray → ByteArray → Int → Option (Int × Int × ByteArray × ByteArray × ByteArray × Int × Bool)
 | 0, _, _, _, _, _, _, _, _, _, _, _, _, _ => none
 | k + 1, x22, x149000, x149001, x149002, x149003, x149004, x149005, x150000, x150001, x150002, x150003, x150004, x150005 => if x22 = true then (some (0, 0, (⟨#[]⟩ : BA), (⟨#[]⟩ : BA), (⟨#[]⟩ : BA), 0, false)) else (if x150000 = 3 then (if x149000 = 3 then (some (x150000, x150001, x150002, x150003, x150004, IntKind.u64.wrap (x150005 + x149005), true)) else ((msg_Apply.f k x149000 x149001 x149002 x149003 x149004 x149005 (⟨#[]⟩ : BA) false).bind fun bt153 => ((msg_Apply.f k x150000 x150001 x150002 x150003 x150004 x150005 bt153.1 bt153.2).bind fun bt155 => (some (1, x150001, x150002, (⟨#[]⟩ : BA), bt155.1, 0, true))))) else (some (x150000, x150001, x150002, x150003, x150004, x150005, true)))
def msg_Join.f (k : Nat) (a0_0 : Int) (a0_1 : Int) (a0_2 : BA) (a0_3 : BA) (a0_4 : BA) (a0_5 : Int) (a1_0 : Int) (a1_1 : Int) (a1_2 : BA) (a1_3 : BA) (a1_4 : BA) (a1_5 : Int) : Option (Int × Int × ByteArray × ByteArray × ByteArray × Int × Bool) := (msg_IsPoint.f a0_0 a0_1 a0_2 a0_3 a0_4 a0_5).bind fun t151 => (if t151 = true then ((msg_IsPoint.f a1_0 a1_1 a1_2 a1_3 a1_4 a1_5).bind fun t152 => (if t152 = true then (msg_Join.j0 k (a0_2.toList != a1_2.toList) a0_0 a0_1 a0_2 a0_3 a0_4 a0_5 a1_0 a1_1 a1_2 a1_3 a1_4 a1_5) else (msg_Join.j0 k true a0_0 a0_1 a0_2 a0_3 a0_4 a0_5 a1_0 a1_1 a1_2 a1_3 a1_4 a1_5))) else (msg_Join.j0 k true a0_0 a0_1 a0_2 a0_3 a0_4 a0_5 a1_0 a1_1 a1_2 a1_3 a1_4 a1_5))
set_option maxHeartbeats 8000000 in
set_option maxRecDepth 100000 in
theorem msg_Join.calls (k : Nat) (a0_0 : Int) (a0_1 : Int) (a0_2 : BA) (a0_3 : BA) (a0_4 : BA) (a0_5 : Int) (a1_0 : Int) (a1_1 : Int) (a1_2 : BA) (a1_3 : BA) (a1_4 : BA) (a1_5 : Int) (r1 : Int) (r2 : Int) (r3 : BA) (r4 : BA) (r5 : BA) (r6 : Int) (r7 : Bool) (w : World) (h : msg_Join.f k a0_0 a0_1 a0_2 a0_3 a0_4 a0_5 a1_0 a1_1 a1_2 a1_3 a1_4 a1_5 = some (r1, r2, r3, r4, r5, r6, r7)) :
  Calls Try.prog 77 #[.agg #[.int .u8 a0_0, .int .i64 a0_1, .string a0_2, .string a0_3, .string a0_4, .int .u64 a0_5], .agg #[.int .u8 a1_0, .int .i64 a1_1, .string a1_2, .string a1_3, .string a1_4, .int .u64 a1_5]] w fun e w' => e = .returned (.tuple #[.agg #[.int .u8 r1, .int .i64 r2, .string r3, .string r4, .string r5, .int .u64 r6], .bool r7]) ∧ Below w.heap.size w w' := by
 have hu33 := Try.underlying33
 have HB := Aside0.mk (Below.refl w.heap.size w)
 have H : ((msg_IsPoint.f a0_0 a0_1 a0_2 a0_3 a0_4 a0_5).bind fun t151 => (if t151 = true then ((msg_IsPoint.f a1_0 a1_1 a1_2 a1_3 a1_4 a1_5).bind fun t152 => (if t152 = true then (msg_Join.j0 k (a0_2.toList != a1_2.toList) a0_0 a0_1 a0_2 a0_3 a0_4 a0_5 a1_0 a1_1 a1_2 a1_3 a1_4 a1_5) else (msg_Join.j0 k true a0_0 a0_1 a0_2 a0_3 a0_4 a0_5 a1_0 a1_1 a1_2 a1_3 a1_4 a1_5))) else (msg_Join.j0 k true a0_0 a0_1 a0_2 a0_3 a0_4 a0_5 a1_0 a1_1 a1_2 a1_3 a1_4 a1_5))) = some (r1, r2, r3, r4, r5, r6, r7) := h
 clear h
 have HC3 := Aside0.mk H
 clear H
 go_enter Try.func77, Try.ntmps77
 go_upto_region 1 with (first | ((with_reducible refine gate_dst (N := 2) rfl ?_); refine box_event ?hg (N := 2) ?hd (cs := #[.int .u8 a0_0, .int .i64 a0_1, .string a0_2, .string a0_3, .string a0_4, .int .u64 a0_5]) (t := 33) ?hr ?_; (case hd => rfl); (case hg => rfl); (case hr => first | (go_simp; done) | (go_simp; rfl)); intro gb148 hg w4 hbox hb; have n0_ := Aside0.mk (wT bW_ hb); have n1_ := Aside0.mk (hbox); have n2_ := Aside0.mk ((by rw [hg]; exact (wZ bW_) : w.heap.size ≤ gb148)); have n3_ := n2_; clear HB; have HB := n0_; have BK148 := n1_; have GW148 := n2_; have GE148 := n3_; clear n0_ n1_ n2_ n3_; clear hb hbox hg) | ((with_reducible refine gate_dst (N := 3) rfl ?_); refine box_event ?hg (N := 3) ?hd (cs := #[.int .u8 a1_0, .int .i64 a1_1, .string a1_2, .string a1_3, .string a1_4, .int .u64 a1_5]) (t := 33) ?hr ?_; (case hd => rfl); (case hg => rfl); (case hr => first | (go_simp; done) | (go_simp; rfl)); intro gb149 hg w5 hbox hb; have n0_ := Aside0.mk (bB (g := gb148) (o := .cells #[.int .u8 a0_0, .int .i64 a0_1, .string a0_2, .string a0_3, .string a0_4, .int .u64 a0_5] 33 (0, 0)) (bX_ BK148.out) hb); have n1_ := Aside0.mk (wT (by repeat (first | (with_reducible first | exact HB.out | apply wA | apply wN | apply w1 | refine wS ?_ GE148.out) | exact HB.out)) hb); have n2_ := Aside0.mk (hbox); have n3_ := Aside0.mk ((by rw [hg]; exact (wZ (by repeat (first | (with_reducible first | exact HB.out | apply wA | apply wN | apply w1 | refine wS ?_ GE148.out) | exact HB.out))) : w.heap.size ≤ gb149)); have n4_ := n3_; have n5_ := Aside0.mk ((by rw [hg]; exact Nat.ne_of_lt (blk_lt (g := gb148) (o := .cells #[.int .u8 a0_0, .int .i64 a0_1, .string a0_2, .string a0_3, .string a0_4, .int .u64 a0_5] 33 (0, 0)) (bX_ BK148.out)) : gb148 ≠ gb149)); have n6_ := Aside0.mk ((by rw [hg]; exact Nat.ne_of_gt (blk_lt (g := gb148) (o := .cells #[.int .u8 a0_0, .int .i64 a0_1, .string a0_2, .string a0_3, .string a0_4, .int .u64 a0_5] 33 (0, 0)) (bX_ BK148.out)) : gb149 ≠ gb148)); clear BK148; clear HB; have BK148 := n0_; have HB := n1_; have BK149 := n2_; have GW149 := n3_; have GE149 := n4_; have NB148_149 := n5_; have NB149_148 := n6_; clear n0_ n1_ n2_ n3_ n4_ n5_ n6_; clear hb hbox hg) | ((with_reducible refine gate_dst (N := 4) rfl ?_); refine box_event ?hg (N := 4) ?hd (cs := #[.int .u8 0, .int .i64 0, .string (⟨#[]⟩ : BA), .string (⟨#[]⟩ : BA), .string (⟨#[]⟩ : BA), .int .u64 0]) (t := 33) ?hr ?_; (case hd => rfl); (case hg => rfl); (case hr => first | (go_simp; done) | (go_simp; rfl)); intro gb150 hg w6 hbox hb; have n0_ := Aside0.mk (bB (g := gb148) (o := .cells #[.int .u8 a0_0, .int .i64 a0_1, .string a0_2, .string a0_3, .string a0_4, .int .u64 a0_5] 33 (0, 0)) (bX_ BK148.out) hb); have n1_ := Aside0.mk (bB (g := gb149) (o := .cells #[.int .u8 a1_0, .int .i64 a1_1, .string a1_2, .string a1_3, .string a1_4, .int .u64 a1_5] 33 (0, 0)) (bX_ BK149.out) hb); have n2_ := Aside0.mk (wT (by repeat (first | (with_reducible first | exact HB.out | apply wA | apply wN | apply w1 | refine wS ?_ GE148.out | refine wS ?_ GE149.out) | exact HB.out)) hb); have n3_ := Aside0.mk (hbox); have n4_ := Aside0.mk ((by rw [hg]; exact (wZ (by repeat (first | (with_reducible first | exact HB.out | apply wA | apply wN | apply w1 | refine wS ?_ GE148.out | refine wS ?_ GE149.out) | exact HB.out))) : w.heap.size ≤ gb150)); have n5_ := n4_; have n6_ := Aside0.mk ((by rw [hg]; exact Nat.ne_of_lt (blk_lt (g := gb148) (o := .cells #[.int .u8 a0_0, .int .i64 a0_1, .string a0_2, .string a0_3, .string a0_4, .int .u64 a0_5] 33 (0, 0)) (bX_ BK148.out)) : gb148 ≠ gb150)); have n7_ := Aside0.mk ((by rw [hg]; exact Nat.ne_of_gt (blk_lt (g := gb148) (o := .cells #[.int .u8 a0_0, .int .i64 a0_1, .string a0_2, .string a0_3, .string a0_4, .int .u64 a0_5] 33 (0, 0)) (bX_ BK148.out)) : gb150 ≠ gb148)); have n8_ := Aside0.mk ((by rw [hg]; exact Nat.ne_of_lt (blk_lt (g := gb149) (o := .cells #[.int .u8 a1_0, .int .i64 a1_1, .string a1_2, .string a1_3, .string a1_4, .int .u64 a1_5] 33 (0, 0)) (bX_ BK149.out)) : gb149 ≠ gb150)); have n9_ := Aside0.mk ((by rw [hg]; exact Nat.ne_of_gt (blk_lt (g := gb149) (o := .cells #[.int .u8 a1_0, .int .i64 a1_1, .string a1_2, .string a1_3, .string a1_4, .int .u64 a1_5] 33 (0, 0)) (bX_ BK149.out)) : gb150 ≠ gb149)); clear BK148; clear BK149; clear HB; have BK148 := n0_; have BK149 := n1_; have HB := n2_; have BK150 := n3_; have GW150 := n4_; have GE150 := n5_; have NB148_150 := n6_; have NB150_148 := n7_; have NB149_150 := n8_; have NB150_149 := n9_; clear n0_ n1_ n2_ n3_ n4_ n5_ n6_ n7_ n8_ n9_; clear hb hbox hg))
 (try simp only [Act.put, sA1, sA2, sA3])
 go_cut [22] (fun v22 wc => ∃ (kq : Nat) (x22_2 : Bool), v22 = .bool x22_2 ∧ Aside0 (msg_Join.j0 kq x22_2 a0_0 a0_1 a0_2 a0_3 a0_4 a0_5 a1_0 a1_1 a1_2 a1_3 a1_4 a1_5 = some (r1, r2, r3, r4, r5, r6, r7)) ∧ Aside0 (kq ≤ k) ∧ Aside0 (wc.heap[gb148]? = some (.cells #[.int .u8 a0_0, .int .i64 a0_1, .string a0_2, .string a0_3, .string a0_4, .int .u64 a0_5] 33 (0, 0))) ∧ Aside0 (wc.heap[gb149]? = some (.cells #[.int .u8 a1_0, .int .i64 a1_1, .string a1_2, .string a1_3, .string a1_4, .int .u64 a1_5] 33 (0, 0))) ∧ Aside0 (wc.heap[gb150]? = some (.cells #[.int .u8 0, .int .i64 0, .string (⟨#[]⟩ : BA), .string (⟨#[]⟩ : BA), .string (⟨#[]⟩ : BA), .int .u64 0] 33 (0, 0))) ∧ Aside0 (Below w.heap.size w wc))
 case first =>
  have H := HC3.out
  clear HC3
  replace H := Option.bind_eq_some_iff.mp H
  obtain ⟨t151, A70, H⟩ := H
  replace H : (if t151 = true then ((msg_IsPoint.f a1_0 a1_1 a1_2 a1_3 a1_4 a1_5).bind fun t152 => (if t152 = true then (msg_Join.j0 k (a0_2.toList != a1_2.toList) a0_0 a0_1 a0_2 a0_3 a0_4 a0_5 a1_0 a1_1 a1_2 a1_3 a1_4 a1_5) else (msg_Join.j0 k true a0_0 a0_1 a0_2 a0_3 a0_4 a0_5 a1_0 a1_1 a1_2 a1_3 a1_4 a1_5))) else (msg_Join.j0 k true a0_0 a0_1 a0_2 a0_3 a0_4 a0_5 a1_0 a1_1 a1_2 a1_3 a1_4 a1_5)) = some (r1, r2, r3, r4, r5, r6, r7) := H
  have A7 := Aside0.mk A70
  clear A70
  by_cases c8 : t151 = true
  ·subst c8
   have H1 : ((msg_IsPoint.f a1_0 a1_1 a1_2 a1_3 a1_4 a1_5).bind fun t152 => (if t152 = true then (msg_Join.j0 k (a0_2.toList != a1_2.toList) a0_0 a0_1 a0_2 a0_3 a0_4 a0_5 a1_0 a1_1 a1_2 a1_3 a1_4 a1_5) else (msg_Join.j0 k true a0_0 a0_1 a0_2 a0_3 a0_4 a0_5 a1_0 a1_1 a1_2 a1_3 a1_4 a1_5))) = some (r1, r2, r3, r4, r5, r6, r7) := by rw [if_pos rfl] at H; exact H
   clear H
   have H := H1
   clear H1
   replace H := Option.bind_eq_some_iff.mp H
   obtain ⟨t152, A90, H⟩ := H
   replace H : (if t152 = true then (msg_Join.j0 k (a0_2.toList != a1_2.toList) a0_0 a0_1 a0_2 a0_3 a0_4 a0_5 a1_0 a1_1 a1_2 a1_3 a1_4 a1_5) else (msg_Join.j0 k true a0_0 a0_1 a0_2 a0_3 a0_4 a0_5 a1_0 a1_1 a1_2 a1_3 a1_4 a1_5)) = some (r1, r2, r3, r4, r5, r6, r7) := H
   have A9 := Aside0.mk A90
   clear A90
   by_cases c10 : t152 = true
   ·subst c10
    have H1 : (msg_Join.j0 k (a0_2.toList != a1_2.toList) a0_0 a0_1 a0_2 a0_3 a0_4 a0_5 a1_0 a1_1 a1_2 a1_3 a1_4 a1_5) = some (r1, r2, r3, r4, r5, r6, r7) := by rw [if_pos rfl] at H; exact H
    clear H
    have H := H1
    clear H1
    have H' := Aside0.mk H
    clear H
    have hnb11 := NB148_149.out
    have hnc11 := NB149_148.out
    have hnb12 := NB148_150.out
    have hnc12 := NB150_148.out
    have hcz13_0 : w6.cell? ⟨gb148, 0, none⟩ = some (.int .u8 a0_0) := (bC BK148.out 0).trans rfl
    have hcz13_1 : w6.cell? ⟨gb148, 1, none⟩ = some (.int .i64 a0_1) := (bC BK148.out 1).trans rfl
    have hcz13_2 : w6.cell? ⟨gb148, 2, none⟩ = some (.string a0_2) := (bC BK148.out 2).trans rfl
    have hcz13_3 : w6.cell? ⟨gb148, 3, none⟩ = some (.string a0_3) := (bC BK148.out 3).trans rfl
    have hcz13_4 : w6.cell? ⟨gb148, 4, none⟩ = some (.string a0_4) := (bC BK148.out 4).trans rfl
    have hcz13_5 : w6.cell? ⟨gb148, 5, none⟩ = some (.int .u64 a0_5) := (bC BK148.out 5).trans rfl
    have hfz13_0 := bF BK148.out 0
    have hfz13_1 := bF BK148.out 1
    have hfz13_2 := bF BK148.out 2
    have hfz13_3 := bF BK148.out 3
    have hfz13_4 := bF BK148.out 4
    have hfz13_5 := bF BK148.out 5
    go_wp2_with (first | ((with_reducible refine gate_callee (f := 47) rfl ?_); refine goesL_ (some 9) rfl rfl Try.func47 (by kernel_rfl) rfl #[.agg #[.int .u8 a0_0, .int .i64 a0_1, .string a0_2, .string a0_3, .string a0_4, .int .u64 a0_5]] rfl mS_ ?_; (with_reducible refine (msg_IsPoint.calls a0_0 a0_1 a0_2 a0_3 a0_4 a0_5 true _ A7.out).mono ?_); rintro e w14 ⟨rfl, hb⟩; refine ⟨_, rfl, ?_⟩; have n0_ := Aside0.mk (bB (g := gb148) (o := .cells #[.int .u8 a0_0, .int .i64 a0_1, .string a0_2, .string a0_3, .string a0_4, .int .u64 a0_5] 33 (0, 0)) (bX_ BK148.out) hb); have n1_ := Aside0.mk (bB (g := gb149) (o := .cells #[.int .u8 a1_0, .int .i64 a1_1, .string a1_2, .string a1_3, .string a1_4, .int .u64 a1_5] 33 (0, 0)) (bX_ BK149.out) hb); have n2_ := Aside0.mk (bB (g := gb150) (o := .cells #[.int .u8 0, .int .i64 0, .string (⟨#[]⟩ : BA), .string (⟨#[]⟩ : BA), .string (⟨#[]⟩ : BA), .int .u64 0] 33 (0, 0)) (bX_ BK150.out) hb); have n3_ := Aside0.mk (wT (by repeat (first | (with_reducible first | exact HB.out | apply wA | apply wN | apply w1 | refine wS ?_ GE148.out | refine wS ?_ GE149.out | refine wS ?_ GE150.out) | exact HB.out)) hb); clear BK148; clear BK149; clear BK150; clear HB; have BK148 := n0_; have BK149 := n1_; have BK150 := n2_; have HB := n3_; clear n0_ n1_ n2_ n3_; (try clear hb); (try clear hb2); (try clear hk); (try clear hi); have hnb15 := NB149_150.out; have hnc15 := NB150_149.out; have hcz16_0 : w14.cell? ⟨gb149, 0, none⟩ = some (.int .u8 a1_0) := (bC BK149.out 0).trans rfl; have hcz16_1 : w14.cell? ⟨gb149, 1, none⟩ = some (.int .i64 a1_1) := (bC BK149.out 1).trans rfl; have hcz16_2 : w14.cell? ⟨gb149, 2, none⟩ = some (.string a1_2) := (bC BK149.out 2).trans rfl; have hcz16_3 : w14.cell? ⟨gb149, 3, none⟩ = some (.string a1_3) := (bC BK149.out 3).trans rfl; have hcz16_4 : w14.cell? ⟨gb149, 4, none⟩ = some (.string a1_4) := (bC BK149.out 4).trans rfl; have hcz16_5 : w14.cell? ⟨gb149, 5, none⟩ = some (.int .u64 a1_5) := (bC BK149.out 5).trans rfl; have hfz16_0 := bF BK149.out 0; have hfz16_1 := bF BK149.out 1; have hfz16_2 := bF BK149.out 2; have hfz16_3 := bF BK149.out 3; have hfz16_4 := bF BK149.out 4; have hfz16_5 := bF BK149.out 5) | (go_at_call 47; (with_reducible refine (msg_IsPoint.calls a1_0 a1_1 a1_2 a1_3 a1_4 a1_5 true _ A9.out).mono ?_); rintro e w17 ⟨rfl, hb⟩; have n0_ := Aside0.mk (bB (g := gb148) (o := .cells #[.int .u8 a0_0, .int .i64 a0_1, .string a0_2, .string a0_3, .string a0_4, .int .u64 a0_5] 33 (0, 0)) (bX_ BK148.out) hb); have n1_ := Aside0.mk (bB (g := gb149) (o := .cells #[.int .u8 a1_0, .int .i64 a1_1, .string a1_2, .string a1_3, .string a1_4, .int .u64 a1_5] 33 (0, 0)) (bX_ BK149.out) hb); have n2_ := Aside0.mk (bB (g := gb150) (o := .cells #[.int .u8 0, .int .i64 0, .string (⟨#[]⟩ : BA), .string (⟨#[]⟩ : BA), .string (⟨#[]⟩ : BA), .int .u64 0] 33 (0, 0)) (bX_ BK150.out) hb); have n3_ := Aside0.mk (wT (by repeat (first | (with_reducible first | exact HB.out | apply wA | apply wN | apply w1 | refine wS ?_ GE148.out | refine wS ?_ GE149.out | refine wS ?_ GE150.out) | exact HB.out)) hb); clear BK148; clear BK149; clear BK150; clear HB; have BK148 := n0_; have BK149 := n1_; have BK150 := n2_; have HB := n3_; clear n0_ n1_ n2_ n3_; (try clear hb); (try clear hb2); (try clear hk); (try clear hi); have hcz18_0 : w17.cell? ⟨gb148, 0, none⟩ = some (.int .u8 a0_0) := (bC BK148.out 0).trans rfl; have hcz18_1 : w17.cell? ⟨gb148, 1, none⟩ = some (.int .i64 a0_1) := (bC BK148.out 1).trans rfl; have hcz18_2 : w17.cell? ⟨gb148, 2, none⟩ = some (.string a0_2) := (bC BK148.out 2).trans rfl; have hcz18_3 : w17.cell? ⟨gb148, 3, none⟩ = some (.string a0_3) := (bC BK148.out 3).trans rfl; have hcz18_4 : w17.cell? ⟨gb148, 4, none⟩ = some (.string a0_4) := (bC BK148.out 4).trans rfl; have hcz18_5 : w17.cell? ⟨gb148, 5, none⟩ = some (.int .u64 a0_5) := (bC BK148.out 5).trans rfl; have hfz18_0 := bF BK148.out 0; have hfz18_1 := bF BK148.out 1; have hfz18_2 := bF BK148.out 2; have hfz18_3 := bF BK148.out 3; have hfz18_4 := bF BK148.out 4; have hfz18_5 := bF BK148.out 5; have hcz19_0 : w17.cell? ⟨gb149, 0, none⟩ = some (.int .u8 a1_0) := (bC BK149.out 0).trans rfl; have hcz19_1 : w17.cell? ⟨gb149, 1, none⟩ = some (.int .i64 a1_1) := (bC BK149.out 1).trans rfl; have hcz19_2 : w17.cell? ⟨gb149, 2, none⟩ = some (.string a1_2) := (bC BK149.out 2).trans rfl; have hcz19_3 : w17.cell? ⟨gb149, 3, none⟩ = some (.string a1_3) := (bC BK149.out 3).trans rfl; have hcz19_4 : w17.cell? ⟨gb149, 4, none⟩ = some (.string a1_4) := (bC BK149.out 4).trans rfl; have hcz19_5 : w17.cell? ⟨gb149, 5, none⟩ = some (.int .u64 a1_5) := (bC BK149.out 5).trans rfl; have hfz19_0 := bF BK149.out 0; have hfz19_1 := bF BK149.out 1; have hfz19_2 := bF BK149.out 2; have hfz19_3 := bF BK149.out 3; have hfz19_4 := bF BK149.out 4; have hfz19_5 := bF BK149.out 5))
    go_meet
    case rel => exact ⟨_, ((a0_2.toList != a1_2.toList)), (by first | rfl | (simp; done) | (simp [*]; done)), H', ⟨by first | omega | exact Nat.le_refl _⟩, ⟨by (with_reducible repeat (first | refine bN ?_ _ | refine bD ?_ | refine bA ?_ _)); exact BK148.out⟩, ⟨by (with_reducible repeat (first | refine bN ?_ _ | refine bD ?_ | refine bA ?_ _)); exact BK149.out⟩, ⟨by (with_reducible repeat (first | refine bN ?_ _ | refine bD ?_ | refine bA ?_ _)); exact BK150.out⟩, ⟨by repeat (first | (with_reducible first | exact HB.out | apply wA | apply wN | apply w1 | refine wS ?_ GE148.out | refine wS ?_ GE149.out | refine wS ?_ GE150.out) | exact HB.out)⟩⟩
   ·replace c10 := Bool.eq_false_iff.mpr c10
    subst c10
    have H1 : (msg_Join.j0 k true a0_0 a0_1 a0_2 a0_3 a0_4 a0_5 a1_0 a1_1 a1_2 a1_3 a1_4 a1_5) = some (r1, r2, r3, r4, r5, r6, r7) := by rw [if_neg (show ¬ (false = true) by decide)] at H; exact H
    clear H
    have H := H1
    clear H1
    have H' := Aside0.mk H
    clear H
    have hnb20 := NB148_149.out
    have hnc20 := NB149_148.out
    have hnb21 := NB148_150.out
    have hnc21 := NB150_148.out
    have hcz22_0 : w6.cell? ⟨gb148, 0, none⟩ = some (.int .u8 a0_0) := (bC BK148.out 0).trans rfl
    have hcz22_1 : w6.cell? ⟨gb148, 1, none⟩ = some (.int .i64 a0_1) := (bC BK148.out 1).trans rfl
    have hcz22_2 : w6.cell? ⟨gb148, 2, none⟩ = some (.string a0_2) := (bC BK148.out 2).trans rfl
    have hcz22_3 : w6.cell? ⟨gb148, 3, none⟩ = some (.string a0_3) := (bC BK148.out 3).trans rfl
    have hcz22_4 : w6.cell? ⟨gb148, 4, none⟩ = some (.string a0_4) := (bC BK148.out 4).trans rfl
    have hcz22_5 : w6.cell? ⟨gb148, 5, none⟩ = some (.int .u64 a0_5) := (bC BK148.out 5).trans rfl
    have hfz22_0 := bF BK148.out 0
    have hfz22_1 := bF BK148.out 1
    have hfz22_2 := bF BK148.out 2
    have hfz22_3 := bF BK148.out 3
    have hfz22_4 := bF BK148.out 4
    have hfz22_5 := bF BK148.out 5
    go_wp2_with (first | ((with_reducible refine gate_callee (f := 47) rfl ?_); refine goesL_ (some 9) rfl rfl Try.func47 (by kernel_rfl) rfl #[.agg #[.int .u8 a0_0, .int .i64 a0_1, .string a0_2, .string a0_3, .string a0_4, .int .u64 a0_5]] rfl mS_ ?_; (with_reducible refine (msg_IsPoint.calls a0_0 a0_1 a0_2 a0_3 a0_4 a0_5 true _ A7.out).mono ?_); rintro e w23 ⟨rfl, hb⟩; refine ⟨_, rfl, ?_⟩; have n0_ := Aside0.mk (bB (g := gb148) (o := .cells #[.int .u8 a0_0, .int .i64 a0_1, .string a0_2, .string a0_3, .string a0_4, .int .u64 a0_5] 33 (0, 0)) (bX_ BK148.out) hb); have n1_ := Aside0.mk (bB (g := gb149) (o := .cells #[.int .u8 a1_0, .int .i64 a1_1, .string a1_2, .string a1_3, .string a1_4, .int .u64 a1_5] 33 (0, 0)) (bX_ BK149.out) hb); have n2_ := Aside0.mk (bB (g := gb150) (o := .cells #[.int .u8 0, .int .i64 0, .string (⟨#[]⟩ : BA), .string (⟨#[]⟩ : BA), .string (⟨#[]⟩ : BA), .int .u64 0] 33 (0, 0)) (bX_ BK150.out) hb); have n3_ := Aside0.mk (wT (by repeat (first | (with_reducible first | exact HB.out | apply wA | apply wN | apply w1 | refine wS ?_ GE148.out | refine wS ?_ GE149.out | refine wS ?_ GE150.out) | exact HB.out)) hb); clear BK148; clear BK149; clear BK150; clear HB; have BK148 := n0_; have BK149 := n1_; have BK150 := n2_; have HB := n3_; clear n0_ n1_ n2_ n3_; (try clear hb); (try clear hb2); (try clear hk); (try clear hi); have hnb24 := NB149_150.out; have hnc24 := NB150_149.out; have hcz25_0 : w23.cell? ⟨gb149, 0, none⟩ = some (.int .u8 a1_0) := (bC BK149.out 0).trans rfl; have hcz25_1 : w23.cell? ⟨gb149, 1, none⟩ = some (.int .i64 a1_1) := (bC BK149.out 1).trans rfl; have hcz25_2 : w23.cell? ⟨gb149, 2, none⟩ = some (.string a1_2) := (bC BK149.out 2).trans rfl; have hcz25_3 : w23.cell? ⟨gb149, 3, none⟩ = some (.string a1_3) := (bC BK149.out 3).trans rfl; have hcz25_4 : w23.cell? ⟨gb149, 4, none⟩ = some (.string a1_4) := (bC BK149.out 4).trans rfl; have hcz25_5 : w23.cell? ⟨gb149, 5, none⟩ = some (.int .u64 a1_5) := (bC BK149.out 5).trans rfl; have hfz25_0 := bF BK149.out 0; have hfz25_1 := bF BK149.out 1; have hfz25_2 := bF BK149.out 2; have hfz25_3 := bF BK149.out 3; have hfz25_4 := bF BK149.out 4; have hfz25_5 := bF BK149.out 5) | (go_at_call 47; (with_reducible refine (msg_IsPoint.calls a1_0 a1_1 a1_2 a1_3 a1_4 a1_5 false _ A9.out).mono ?_); rintro e w26 ⟨rfl, hb⟩; have n0_ := Aside0.mk (bB (g := gb148) (o := .cells #[.int .u8 a0_0, .int .i64 a0_1, .string a0_2, .string a0_3, .string a0_4, .int .u64 a0_5] 33 (0, 0)) (bX_ BK148.out) hb); have n1_ := Aside0.mk (bB (g := gb149) (o := .cells #[.int .u8 a1_0, .int .i64 a1_1, .string a1_2, .string a1_3, .string a1_4, .int .u64 a1_5] 33 (0, 0)) (bX_ BK149.out) hb); have n2_ := Aside0.mk (bB (g := gb150) (o := .cells #[.int .u8 0, .int .i64 0, .string (⟨#[]⟩ : BA), .string (⟨#[]⟩ : BA), .string (⟨#[]⟩ : BA), .int .u64 0] 33 (0, 0)) (bX_ BK150.out) hb); have n3_ := Aside0.mk (wT (by repeat (first | (with_reducible first | exact HB.out | apply wA | apply wN | apply w1 | refine wS ?_ GE148.out | refine wS ?_ GE149.out | refine wS ?_ GE150.out) | exact HB.out)) hb); clear BK148; clear BK149; clear BK150; clear HB; have BK148 := n0_; have BK149 := n1_; have BK150 := n2_; have HB := n3_; clear n0_ n1_ n2_ n3_; (try clear hb); (try clear hb2); (try clear hk); (try clear hi)))
    go_meet
    case rel => exact ⟨_, (true), (by first | rfl | (simp; done) | (simp [*]; done)), H', ⟨by first | omega | exact Nat.le_refl _⟩, ⟨by (with_reducible repeat (first | refine bN ?_ _ | refine bD ?_ | refine bA ?_ _)); exact BK148.out⟩, ⟨by (with_reducible repeat (first | refine bN ?_ _ | refine bD ?_ | refine bA ?_ _)); exact BK149.out⟩, ⟨by (with_reducible repeat (first | refine bN ?_ _ | refine bD ?_ | refine bA ?_ _)); exact BK150.out⟩, ⟨by repeat (first | (with_reducible first | exact HB.out | apply wA | apply wN | apply w1 | refine wS ?_ GE148.out | refine wS ?_ GE149.out | refine wS ?_ GE150.out) | exact HB.out)⟩⟩
  ·replace c8 := Bool.eq_false_iff.mpr c8
   subst c8
   have H1 : (msg_Join.j0 k true a0_0 a0_1 a0_2 a0_3 a0_4 a0_5 a1_0 a1_1 a1_2 a1_3 a1_4 a1_5) = some (r1, r2, r3, r4, r5, r6, r7) := by rw [if_neg (show ¬ (false = true) by decide)] at H; exact H
   clear H
   have H := H1
   clear H1
   have H' := Aside0.mk H
   clear H
   have hnb27 := NB148_149.out
   have hnc27 := NB149_148.out
   have hnb28 := NB148_150.out
   have hnc28 := NB150_148.out
   have hcz29_0 : w6.cell? ⟨gb148, 0, none⟩ = some (.int .u8 a0_0) := (bC BK148.out 0).trans rfl
   have hcz29_1 : w6.cell? ⟨gb148, 1, none⟩ = some (.int .i64 a0_1) := (bC BK148.out 1).trans rfl
   have hcz29_2 : w6.cell? ⟨gb148, 2, none⟩ = some (.string a0_2) := (bC BK148.out 2).trans rfl
   have hcz29_3 : w6.cell? ⟨gb148, 3, none⟩ = some (.string a0_3) := (bC BK148.out 3).trans rfl
   have hcz29_4 : w6.cell? ⟨gb148, 4, none⟩ = some (.string a0_4) := (bC BK148.out 4).trans rfl
   have hcz29_5 : w6.cell? ⟨gb148, 5, none⟩ = some (.int .u64 a0_5) := (bC BK148.out 5).trans rfl
   have hfz29_0 := bF BK148.out 0
   have hfz29_1 := bF BK148.out 1
   have hfz29_2 := bF BK148.out 2
   have hfz29_3 := bF BK148.out 3
   have hfz29_4 := bF BK148.out 4
   have hfz29_5 := bF BK148.out 5
   go_wp2_with (first | ((with_reducible refine gate_callee (f := 47) rfl ?_); refine goesL_ (some 9) rfl rfl Try.func47 (by kernel_rfl) rfl #[.agg #[.int .u8 a0_0, .int .i64 a0_1, .string a0_2, .string a0_3, .string a0_4, .int .u64 a0_5]] rfl mS_ ?_; (with_reducible refine (msg_IsPoint.calls a0_0 a0_1 a0_2 a0_3 a0_4 a0_5 false _ A7.out).mono ?_); rintro e w30 ⟨rfl, hb⟩; refine ⟨_, rfl, ?_⟩; have n0_ := Aside0.mk (bB (g := gb148) (o := .cells #[.int .u8 a0_0, .int .i64 a0_1, .string a0_2, .string a0_3, .string a0_4, .int .u64 a0_5] 33 (0, 0)) (bX_ BK148.out) hb); have n1_ := Aside0.mk (bB (g := gb149) (o := .cells #[.int .u8 a1_0, .int .i64 a1_1, .string a1_2, .string a1_3, .string a1_4, .int .u64 a1_5] 33 (0, 0)) (bX_ BK149.out) hb); have n2_ := Aside0.mk (bB (g := gb150) (o := .cells #[.int .u8 0, .int .i64 0, .string (⟨#[]⟩ : BA), .string (⟨#[]⟩ : BA), .string (⟨#[]⟩ : BA), .int .u64 0] 33 (0, 0)) (bX_ BK150.out) hb); have n3_ := Aside0.mk (wT (by repeat (first | (with_reducible first | exact HB.out | apply wA | apply wN | apply w1 | refine wS ?_ GE148.out | refine wS ?_ GE149.out | refine wS ?_ GE150.out) | exact HB.out)) hb); clear BK148; clear BK149; clear BK150; clear HB; have BK148 := n0_; have BK149 := n1_; have BK150 := n2_; have HB := n3_; clear n0_ n1_ n2_ n3_; (try clear hb); (try clear hb2); (try clear hk); (try clear hi)))
   go_meet
   case rel => exact ⟨_, (true), (by first | rfl | (simp; done) | (simp [*]; done)), H', ⟨by first | omega | exact Nat.le_refl _⟩, ⟨by (with_reducible repeat (first | refine bN ?_ _ | refine bD ?_ | refine bA ?_ _)); exact BK148.out⟩, ⟨by (with_reducible repeat (first | refine bN ?_ _ | refine bD ?_ | refine bA ?_ _)); exact BK149.out⟩, ⟨by (with_reducible repeat (first | refine bN ?_ _ | refine bD ?_ | refine bA ?_ _)); exact BK150.out⟩, ⟨by repeat (first | (with_reducible first | exact HB.out | apply wA | apply wN | apply w1 | refine wS ?_ GE148.out | refine wS ?_ GE149.out | refine wS ?_ GE150.out) | exact HB.out)⟩⟩
 case rest =>
  clear HC3
  try clear c1
  try clear c2
  try clear p2
  try clear c4
  try clear c7
  try clear c8
  try clear c10
  try clear c11
  try clear c12
  try clear c15
  try clear c20
  try clear c21
  try clear c24
  try clear c27
  try clear c28
  try clear hcz13_0
  try clear hcz13_1
  try clear hcz13_2
  try clear hcz13_3
  try clear hcz13_4
  try clear hcz13_5
  try clear hcz16_0
  try clear hcz16_1
  try clear hcz16_2
  try clear hcz16_3
  try clear hcz16_4
  try clear hcz16_5
  try clear hcz18_0
  try clear hcz18_1
  try clear hcz18_2
  try clear hcz18_3
  try clear hcz18_4
  try clear hcz18_5
  try clear hcz19_0
  try clear hcz19_1
  try clear hcz19_2
  try clear hcz19_3
  try clear hcz19_4
  try clear hcz19_5
  try clear hcz22_0
  try clear hcz22_1
  try clear hcz22_2
  try clear hcz22_3
  try clear hcz22_4
  try clear hcz22_5
  try clear hcz25_0
  try clear hcz25_1
  try clear hcz25_2
  try clear hcz25_3
  try clear hcz25_4
  try clear hcz25_5
  try clear hcz29_0
  try clear hcz29_1
  try clear hcz29_2
  try clear hcz29_3
  try clear hcz29_4
  try clear hcz29_5
  try clear hfz13_0
  try clear hfz13_1
  try clear hfz13_2
  try clear hfz13_3
  try clear hfz13_4
  try clear hfz13_5
  try clear hfz16_0
  try clear hfz16_1
  try clear hfz16_2
  try clear hfz16_3
  try clear hfz16_4
  try clear hfz16_5
  try clear hfz18_0
  try clear hfz18_1
  try clear hfz18_2
  try clear hfz18_3
  try clear hfz18_4
  try clear hfz18_5
  try clear hfz19_0
  try clear hfz19_1
  try clear hfz19_2
  try clear hfz19_3
  try clear hfz19_4
  try clear hfz19_5
  try clear hfz22_0
  try clear hfz22_1
  try clear hfz22_2
  try clear hfz22_3
  try clear hfz22_4
  try clear hfz22_5
  try clear hfz25_0
  try clear hfz25_1
  try clear hfz25_2
  try clear hfz25_3
  try clear hfz25_4
  try clear hfz25_5
  try clear hfz29_0
  try clear hfz29_1
  try clear hfz29_2
  try clear hfz29_3
  try clear hfz29_4
  try clear hfz29_5
  obtain ⟨kq, x22_2, rfl, HA, HJ2, BK148, BK149, BK150, HB⟩ := hcut
  cases kq with
  | zero => exact absurd HA.out (by simp [msg_Join.j0])
  | succ kj2 =>
   have H := HA.out
   clear HA
   simp only [msg_Join.j0] at H
   by_cases c31 : x22_2 = true
   ·subst c31
    have H1 : (some (0, 0, (⟨#[]⟩ : BA), (⟨#[]⟩ : BA), (⟨#[]⟩ : BA), 0, false)) = some (r1, r2, r3, r4, r5, r6, r7) := by rw [if_pos rfl] at H; exact H
    clear H
    have H := H1
    clear H1
    simp only [Option.some.injEq, Prod.mk.injEq] at H
    obtain ⟨rfl, rfl, rfl, rfl, rfl, rfl, rfl⟩ := H
    have hnb32 := NB150_148.out
    have hnc32 := NB148_150.out
    have hnb33 := NB150_149.out
    have hnc33 := NB149_150.out
    have hcz34_0 : wc.cell? ⟨gb150, 0, none⟩ = some (.int .u8 0) := (bC BK150.out 0).trans rfl
    have hcz34_1 : wc.cell? ⟨gb150, 1, none⟩ = some (.int .i64 0) := (bC BK150.out 1).trans rfl
    have hcz34_2 : wc.cell? ⟨gb150, 2, none⟩ = some (.string (⟨#[]⟩ : BA)) := (bC BK150.out 2).trans rfl
    have hcz34_3 : wc.cell? ⟨gb150, 3, none⟩ = some (.string (⟨#[]⟩ : BA)) := (bC BK150.out 3).trans rfl
    have hcz34_4 : wc.cell? ⟨gb150, 4, none⟩ = some (.string (⟨#[]⟩ : BA)) := (bC BK150.out 4).trans rfl
    have hcz34_5 : wc.cell? ⟨gb150, 5, none⟩ = some (.int .u64 0) := (bC BK150.out 5).trans rfl
    have hfz34_0 := bF BK150.out 0
    have hfz34_1 := bF BK150.out 1
    have hfz34_2 := bF BK150.out 2
    have hfz34_3 := bF BK150.out 3
    have hfz34_4 := bF BK150.out 4
    have hfz34_5 := bF BK150.out 5
    go_wp2
    refine bodyPost_ret (results_ct rfl _ _ gb150 33 #[.int .u8 0, .int .i64 0, .string (⟨#[]⟩ : BA), .string (⟨#[]⟩ : BA), .string (⟨#[]⟩ : BA), .int .u64 0] (0, 0) _ rfl (by (with_reducible repeat (first | refine bN ?_ _ | refine bD ?_ | refine bA ?_ _)); refine bP (cs := #[.int .u8 0, .int .i64 0, .string (⟨#[]⟩ : BA), .string (⟨#[]⟩ : BA), .string (⟨#[]⟩ : BA), .int .u64 0]) ?_ 5 _ rfl; (with_reducible repeat (first | refine bN ?_ _ | refine bD ?_ | refine bA ?_ _)); refine bP (cs := #[.int .u8 0, .int .i64 0, .string (⟨#[]⟩ : BA), .string (⟨#[]⟩ : BA), .string (⟨#[]⟩ : BA), .int .u64 0]) ?_ 4 _ rfl; (with_reducible repeat (first | refine bN ?_ _ | refine bD ?_ | refine bA ?_ _)); refine bP (cs := #[.int .u8 0, .int .i64 0, .string (⟨#[]⟩ : BA), .string (⟨#[]⟩ : BA), .string (⟨#[]⟩ : BA), .int .u64 0]) ?_ 3 _ rfl; (with_reducible repeat (first | refine bN ?_ _ | refine bD ?_ | refine bA ?_ _)); refine bP (cs := #[.int .u8 0, .int .i64 0, .string (⟨#[]⟩ : BA), .string (⟨#[]⟩ : BA), .string (⟨#[]⟩ : BA), .int .u64 0]) ?_ 2 _ rfl; (with_reducible repeat (first | refine bN ?_ _ | refine bD ?_ | refine bA ?_ _)); refine bP (cs := #[.int .u8 0, .int .i64 0, .string (⟨#[]⟩ : BA), .string (⟨#[]⟩ : BA), .string (⟨#[]⟩ : BA), .int .u64 0]) ?_ 1 _ rfl; (with_reducible repeat (first | refine bN ?_ _ | refine bD ?_ | refine bA ?_ _)); refine bP (cs := #[.int .u8 0, .int .i64 0, .string (⟨#[]⟩ : BA), .string (⟨#[]⟩ : BA), .string (⟨#[]⟩ : BA), .int .u64 0]) ?_ 0 _ rfl; (with_reducible repeat (first | refine bN ?_ _ | refine bD ?_ | refine bA ?_ _)); exact BK150.out) Try.underlying33 rfl (by kernel_rfl)) rfl ?_
    exact ⟨by first | rfl | (simp [errW_none, errW_some] <;> rfl) | (simp [*, errW_none, errW_some] <;> rfl), by repeat (first | (with_reducible first | exact HB.out | apply wA | apply wN | apply w1 | refine wS ?_ GE148.out | refine wS ?_ GE149.out | refine wS ?_ GE150.out) | exact HB.out)⟩
   ·replace c31 := Bool.eq_false_iff.mpr c31
    subst c31
    have H1 : (if a1_0 = 3 then (if a0_0 = 3 then (some (a1_0, a1_1, a1_2, a1_3, a1_4, IntKind.u64.wrap (a1_5 + a0_5), true)) else ((msg_Apply.f kj2 a0_0 a0_1 a0_2 a0_3 a0_4 a0_5 (⟨#[]⟩ : BA) false).bind fun bt153 => ((msg_Apply.f kj2 a1_0 a1_1 a1_2 a1_3 a1_4 a1_5 bt153.1 bt153.2).bind fun bt155 => (some (1, a1_1, a1_2, (⟨#[]⟩ : BA), bt155.1, 0, true))))) else (some (a1_0, a1_1, a1_2, a1_3, a1_4, a1_5, true))) = some (r1, r2, r3, r4, r5, r6, r7) := by rw [if_neg (show ¬ (false = true) by decide)] at H; exact H
    clear H
    have H := H1
    clear H1
    by_cases c35 : a1_0 = 3
    ·rw [if_pos c35] at H
     have c35b0 : (a1_0 == 3) = true := beq_iff_eq.mpr c35
     have c35b1 : (a1_0 != 3) = false := bne_eq_false_iff_eq.mpr c35
     clear c35
     by_cases c36 : a0_0 = 3
     ·rw [if_pos c36] at H
      have c36b0 : (a0_0 == 3) = true := beq_iff_eq.mpr c36
      have c36b1 : (a0_0 != 3) = false := bne_eq_false_iff_eq.mpr c36
      clear c36
      simp only [Option.some.injEq, Prod.mk.injEq] at H
      obtain ⟨rfl, rfl, rfl, rfl, rfl, rfl, rfl⟩ := H
      have hnb37 := NB149_148.out
      have hnc37 := NB148_149.out
      have hnb38 := NB149_150.out
      have hnc38 := NB150_149.out
      have hcz39_0 : wc.cell? ⟨gb149, 0, none⟩ = some (.int .u8 a1_0) := (bC BK149.out 0).trans rfl
      have hcz39_1 : wc.cell? ⟨gb149, 1, none⟩ = some (.int .i64 a1_1) := (bC BK149.out 1).trans rfl
      have hcz39_2 : wc.cell? ⟨gb149, 2, none⟩ = some (.string a1_2) := (bC BK149.out 2).trans rfl
      have hcz39_3 : wc.cell? ⟨gb149, 3, none⟩ = some (.string a1_3) := (bC BK149.out 3).trans rfl
      have hcz39_4 : wc.cell? ⟨gb149, 4, none⟩ = some (.string a1_4) := (bC BK149.out 4).trans rfl
      have hcz39_5 : wc.cell? ⟨gb149, 5, none⟩ = some (.int .u64 a1_5) := (bC BK149.out 5).trans rfl
      have hfz39_0 := bF BK149.out 0
      have hfz39_1 := bF BK149.out 1
      have hfz39_2 := bF BK149.out 2
      have hfz39_3 := bF BK149.out 3
      have hfz39_4 := bF BK149.out 4
      have hfz39_5 := bF BK149.out 5
      have hnb40 := NB148_150.out
      have hnc40 := NB150_148.out
      have hcz41_0 : wc.cell? ⟨gb148, 0, none⟩ = some (.int .u8 a0_0) := (bC BK148.out 0).trans rfl
      have hcz41_1 : wc.cell? ⟨gb148, 1, none⟩ = some (.int .i64 a0_1) := (bC BK148.out 1).trans rfl
      have hcz41_2 : wc.cell? ⟨gb148, 2, none⟩ = some (.string a0_2) := (bC BK148.out 2).trans rfl
      have hcz41_3 : wc.cell? ⟨gb148, 3, none⟩ = some (.string a0_3) := (bC BK148.out 3).trans rfl
      have hcz41_4 : wc.cell? ⟨gb148, 4, none⟩ = some (.string a0_4) := (bC BK148.out 4).trans rfl
      have hcz41_5 : wc.cell? ⟨gb148, 5, none⟩ = some (.int .u64 a0_5) := (bC BK148.out 5).trans rfl
      have hfz41_0 := bF BK148.out 0
      have hfz41_1 := bF BK148.out 1
      have hfz41_2 := bF BK148.out 2
      have hfz41_3 := bF BK148.out 3
      have hfz41_4 := bF BK148.out 4
      have hfz41_5 := bF BK148.out 5
      have hcz42_0 : wc.cell? ⟨gb150, 0, none⟩ = some (.int .u8 0) := (bC BK150.out 0).trans rfl
      have hcz42_1 : wc.cell? ⟨gb150, 1, none⟩ = some (.int .i64 0) := (bC BK150.out 1).trans rfl
      have hcz42_2 : wc.cell? ⟨gb150, 2, none⟩ = some (.string (⟨#[]⟩ : BA)) := (bC BK150.out 2).trans rfl
      have hcz42_3 : wc.cell? ⟨gb150, 3, none⟩ = some (.string (⟨#[]⟩ : BA)) := (bC BK150.out 3).trans rfl
      have hcz42_4 : wc.cell? ⟨gb150, 4, none⟩ = some (.string (⟨#[]⟩ : BA)) := (bC BK150.out 4).trans rfl
      have hcz42_5 : wc.cell? ⟨gb150, 5, none⟩ = some (.int .u64 0) := (bC BK150.out 5).trans rfl
      have hfz42_0 := bF BK150.out 0
      have hfz42_1 := bF BK150.out 1
      have hfz42_2 := bF BK150.out 2
      have hfz42_3 := bF BK150.out 3
      have hfz42_4 := bF BK150.out 4
      have hfz42_5 := bF BK150.out 5
      go_wp2
      refine bodyPost_ret (results_ct rfl _ _ gb150 33 #[.int .u8 a1_0, .int .i64 a1_1, .string a1_2, .string a1_3, .string a1_4, .int .u64 (IntKind.u64.wrap (a1_5 + a0_5))] (0, 0) _ rfl (by (with_reducible repeat (first | refine bN ?_ _ | refine bD ?_ | refine bA ?_ _)); refine bP (cs := #[.int .u8 a1_0, .int .i64 a1_1, .string a1_2, .string a1_3, .string a1_4, .int .u64 0]) ?_ 5 _ rfl; (with_reducible repeat (first | refine bN ?_ _ | refine bD ?_ | refine bA ?_ _)); refine bP (cs := #[.int .u8 a1_0, .int .i64 a1_1, .string a1_2, .string a1_3, .string (⟨#[]⟩ : BA), .int .u64 0]) ?_ 4 _ rfl; (with_reducible repeat (first | refine bN ?_ _ | refine bD ?_ | refine bA ?_ _)); refine bP (cs := #[.int .u8 a1_0, .int .i64 a1_1, .string a1_2, .string (⟨#[]⟩ : BA), .string (⟨#[]⟩ : BA), .int .u64 0]) ?_ 3 _ rfl; (with_reducible repeat (first | refine bN ?_ _ | refine bD ?_ | refine bA ?_ _)); refine bP (cs := #[.int .u8 a1_0, .int .i64 a1_1, .string (⟨#[]⟩ : BA), .string (⟨#[]⟩ : BA), .string (⟨#[]⟩ : BA), .int .u64 0]) ?_ 2 _ rfl; (with_reducible repeat (first | refine bN ?_ _ | refine bD ?_ | refine bA ?_ _)); refine bP (cs := #[.int .u8 a1_0, .int .i64 0, .string (⟨#[]⟩ : BA), .string (⟨#[]⟩ : BA), .string (⟨#[]⟩ : BA), .int .u64 0]) ?_ 1 _ rfl; (with_reducible repeat (first | refine bN ?_ _ | refine bD ?_ | refine bA ?_ _)); refine bP (cs := #[.int .u8 0, .int .i64 0, .string (⟨#[]⟩ : BA), .string (⟨#[]⟩ : BA), .string (⟨#[]⟩ : BA), .int .u64 0]) ?_ 0 _ rfl; (with_reducible repeat (first | refine bN ?_ _ | refine bD ?_ | refine bA ?_ _)); refine bR ?_ NB150_149.out _; (with_reducible repeat (first | refine bN ?_ _ | refine bD ?_ | refine bA ?_ _)); exact BK150.out) Try.underlying33 rfl (by kernel_rfl)) rfl ?_
      exact ⟨by first | rfl | (simp [errW_none, errW_some] <;> rfl) | (simp [*, errW_none, errW_some] <;> rfl), by repeat (first | (with_reducible first | exact HB.out | apply wA | apply wN | apply w1 | refine wS ?_ GE148.out | refine wS ?_ GE149.out | refine wS ?_ GE150.out) | exact HB.out)⟩
     ·rw [if_neg c36] at H
      have c36b0 : (a0_0 == 3) = false := beq_eq_false_iff_ne.mpr c36
      have c36b1 : (a0_0 != 3) = true := bne_iff_ne.mpr c36
      replace H := Option.bind_eq_some_iff.mp H
      obtain ⟨⟨t153, t154⟩, A430, H⟩ := H
      replace H : ((msg_Apply.f kj2 a1_0 a1_1 a1_2 a1_3 a1_4 a1_5 t153 t154).bind fun bt155 => (some (1, a1_1, a1_2, (⟨#[]⟩ : BA), bt155.1, 0, true))) = some (r1, r2, r3, r4, r5, r6, r7) := H
      have A43 := Aside0.mk A430
      clear A430
      replace H := Option.bind_eq_some_iff.mp H
      obtain ⟨⟨t155, t156⟩, A440, H⟩ := H
      replace H : (some (1, a1_1, a1_2, (⟨#[]⟩ : BA), t155, 0, true)) = some (r1, r2, r3, r4, r5, r6, r7) := H
      have A44 := Aside0.mk A440
      clear A440
      simp only [Option.some.injEq, Prod.mk.injEq] at H
      obtain ⟨rfl, rfl, rfl, rfl, rfl, rfl, rfl⟩ := H
      have hnb45 := NB149_148.out
      have hnc45 := NB148_149.out
      have hnb46 := NB149_150.out
      have hnc46 := NB150_149.out
      have hcz47_0 : wc.cell? ⟨gb149, 0, none⟩ = some (.int .u8 a1_0) := (bC BK149.out 0).trans rfl
      have hcz47_1 : wc.cell? ⟨gb149, 1, none⟩ = some (.int .i64 a1_1) := (bC BK149.out 1).trans rfl
      have hcz47_2 : wc.cell? ⟨gb149, 2, none⟩ = some (.string a1_2) := (bC BK149.out 2).trans rfl
      have hcz47_3 : wc.cell? ⟨gb149, 3, none⟩ = some (.string a1_3) := (bC BK149.out 3).trans rfl
      have hcz47_4 : wc.cell? ⟨gb149, 4, none⟩ = some (.string a1_4) := (bC BK149.out 4).trans rfl
      have hcz47_5 : wc.cell? ⟨gb149, 5, none⟩ = some (.int .u64 a1_5) := (bC BK149.out 5).trans rfl
      have hfz47_0 := bF BK149.out 0
      have hfz47_1 := bF BK149.out 1
      have hfz47_2 := bF BK149.out 2
      have hfz47_3 := bF BK149.out 3
      have hfz47_4 := bF BK149.out 4
      have hfz47_5 := bF BK149.out 5
      have hnb48 := NB148_150.out
      have hnc48 := NB150_148.out
      have hcz49_0 : wc.cell? ⟨gb148, 0, none⟩ = some (.int .u8 a0_0) := (bC BK148.out 0).trans rfl
      have hcz49_1 : wc.cell? ⟨gb148, 1, none⟩ = some (.int .i64 a0_1) := (bC BK148.out 1).trans rfl
      have hcz49_2 : wc.cell? ⟨gb148, 2, none⟩ = some (.string a0_2) := (bC BK148.out 2).trans rfl
      have hcz49_3 : wc.cell? ⟨gb148, 3, none⟩ = some (.string a0_3) := (bC BK148.out 3).trans rfl
      have hcz49_4 : wc.cell? ⟨gb148, 4, none⟩ = some (.string a0_4) := (bC BK148.out 4).trans rfl
      have hcz49_5 : wc.cell? ⟨gb148, 5, none⟩ = some (.int .u64 a0_5) := (bC BK148.out 5).trans rfl
      have hfz49_0 := bF BK148.out 0
      have hfz49_1 := bF BK148.out 1
      have hfz49_2 := bF BK148.out 2
      have hfz49_3 := bF BK148.out 3
      have hfz49_4 := bF BK148.out 4
      have hfz49_5 := bF BK148.out 5
      go_wp2_with (first | ((with_reducible refine gate_callee (f := 70) rfl ?_); refine goesL_ (some 26) rfl rfl Try.func70 (by kernel_rfl) rfl #[.agg #[.int .u8 a0_0, .int .i64 a0_1, .string a0_2, .string a0_3, .string a0_4, .int .u64 a0_5], .string (⟨#[]⟩ : BA), .bool false] rfl mS_ ?_; (with_reducible refine (msg_Apply.calls kj2 a0_0 a0_1 a0_2 a0_3 a0_4 a0_5 (⟨#[]⟩ : BA) false t153 t154 _ A43.out).mono ?_); rintro e w50 ⟨rfl, hb⟩; refine ⟨_, rfl, ?_⟩; have n0_ := Aside0.mk (bB (g := gb148) (o := .cells #[.int .u8 a0_0, .int .i64 a0_1, .string a0_2, .string a0_3, .string a0_4, .int .u64 a0_5] 33 (0, 0)) (bX_ BK148.out) hb); have n1_ := Aside0.mk (bB (g := gb149) (o := .cells #[.int .u8 a1_0, .int .i64 a1_1, .string a1_2, .string a1_3, .string a1_4, .int .u64 a1_5] 33 (0, 0)) (bX_ BK149.out) hb); have n2_ := Aside0.mk (bB (g := gb150) (o := .cells #[.int .u8 0, .int .i64 0, .string (⟨#[]⟩ : BA), .string (⟨#[]⟩ : BA), .string (⟨#[]⟩ : BA), .int .u64 0] 33 (0, 0)) (bX_ BK150.out) hb); have n3_ := Aside0.mk (wT (by repeat (first | (with_reducible first | exact HB.out | apply wA | apply wN | apply w1 | refine wS ?_ GE148.out | refine wS ?_ GE149.out | refine wS ?_ GE150.out) | exact HB.out)) hb); clear BK148; clear BK149; clear BK150; clear HB; have BK148 := n0_; have BK149 := n1_; have BK150 := n2_; have HB := n3_; clear n0_ n1_ n2_ n3_; (try clear hb); (try clear hb2); (try clear hk); (try clear hi); have hcz51_0 : w50.cell? ⟨gb149, 0, none⟩ = some (.int .u8 a1_0) := (bC BK149.out 0).trans rfl; have hcz51_1 : w50.cell? ⟨gb149, 1, none⟩ = some (.int .i64 a1_1) := (bC BK149.out 1).trans rfl; have hcz51_2 : w50.cell? ⟨gb149, 2, none⟩ = some (.string a1_2) := (bC BK149.out 2).trans rfl; have hcz51_3 : w50.cell? ⟨gb149, 3, none⟩ = some (.string a1_3) := (bC BK149.out 3).trans rfl; have hcz51_4 : w50.cell? ⟨gb149, 4, none⟩ = some (.string a1_4) := (bC BK149.out 4).trans rfl; have hcz51_5 : w50.cell? ⟨gb149, 5, none⟩ = some (.int .u64 a1_5) := (bC BK149.out 5).trans rfl; have hfz51_0 := bF BK149.out 0; have hfz51_1 := bF BK149.out 1; have hfz51_2 := bF BK149.out 2; have hfz51_3 := bF BK149.out 3; have hfz51_4 := bF BK149.out 4; have hfz51_5 := bF BK149.out 5) | ((with_reducible refine gate_callee (f := 70) rfl ?_); refine goesL_ (some 33) rfl rfl Try.func70 (by kernel_rfl) rfl #[.agg #[.int .u8 a1_0, .int .i64 a1_1, .string a1_2, .string a1_3, .string a1_4, .int .u64 a1_5], .string t153, .bool t154] rfl mS_ ?_; (with_reducible refine (msg_Apply.calls kj2 a1_0 a1_1 a1_2 a1_3 a1_4 a1_5 t153 t154 t155 t156 _ A44.out).mono ?_); rintro e w52 ⟨rfl, hb⟩; refine ⟨_, rfl, ?_⟩; have n0_ := Aside0.mk (bB (g := gb148) (o := .cells #[.int .u8 a0_0, .int .i64 a0_1, .string a0_2, .string a0_3, .string a0_4, .int .u64 a0_5] 33 (0, 0)) (bX_ BK148.out) hb); have n1_ := Aside0.mk (bB (g := gb149) (o := .cells #[.int .u8 a1_0, .int .i64 a1_1, .string a1_2, .string a1_3, .string a1_4, .int .u64 a1_5] 33 (0, 0)) (bX_ BK149.out) hb); have n2_ := Aside0.mk (bB (g := gb150) (o := .cells #[.int .u8 0, .int .i64 0, .string (⟨#[]⟩ : BA), .string (⟨#[]⟩ : BA), .string (⟨#[]⟩ : BA), .int .u64 0] 33 (0, 0)) (bX_ BK150.out) hb); have n3_ := Aside0.mk (wT (by repeat (first | (with_reducible first | exact HB.out | apply wA | apply wN | apply w1 | refine wS ?_ GE148.out | refine wS ?_ GE149.out | refine wS ?_ GE150.out) | exact HB.out)) hb); clear BK148; clear BK149; clear BK150; clear HB; have BK148 := n0_; have BK149 := n1_; have BK150 := n2_; have HB := n3_; clear n0_ n1_ n2_ n3_; (try clear hb); (try clear hb2); (try clear hk); (try clear hi); have hcz53_0 : w52.cell? ⟨gb149, 0, none⟩ = some (.int .u8 a1_0) := (bC BK149.out 0).trans rfl; have hcz53_1 : w52.cell? ⟨gb149, 1, none⟩ = some (.int .i64 a1_1) := (bC BK149.out 1).trans rfl; have hcz53_2 : w52.cell? ⟨gb149, 2, none⟩ = some (.string a1_2) := (bC BK149.out 2).trans rfl; have hcz53_3 : w52.cell? ⟨gb149, 3, none⟩ = some (.string a1_3) := (bC BK149.out 3).trans rfl; have hcz53_4 : w52.cell? ⟨gb149, 4, none⟩ = some (.string a1_4) := (bC BK149.out 4).trans rfl; have hcz53_5 : w52.cell? ⟨gb149, 5, none⟩ = some (.int .u64 a1_5) := (bC BK149.out 5).trans rfl; have hfz53_0 := bF BK149.out 0; have hfz53_1 := bF BK149.out 1; have hfz53_2 := bF BK149.out 2; have hfz53_3 := bF BK149.out 3; have hfz53_4 := bF BK149.out 4; have hfz53_5 := bF BK149.out 5; have hcz54_0 : w52.cell? ⟨gb150, 0, none⟩ = some (.int .u8 0) := (bC BK150.out 0).trans rfl; have hcz54_1 : w52.cell? ⟨gb150, 1, none⟩ = some (.int .i64 0) := (bC BK150.out 1).trans rfl; have hcz54_2 : w52.cell? ⟨gb150, 2, none⟩ = some (.string (⟨#[]⟩ : BA)) := (bC BK150.out 2).trans rfl; have hcz54_3 : w52.cell? ⟨gb150, 3, none⟩ = some (.string (⟨#[]⟩ : BA)) := (bC BK150.out 3).trans rfl; have hcz54_4 : w52.cell? ⟨gb150, 4, none⟩ = some (.string (⟨#[]⟩ : BA)) := (bC BK150.out 4).trans rfl; have hcz54_5 : w52.cell? ⟨gb150, 5, none⟩ = some (.int .u64 0) := (bC BK150.out 5).trans rfl; have hfz54_0 := bF BK150.out 0; have hfz54_1 := bF BK150.out 1; have hfz54_2 := bF BK150.out 2; have hfz54_3 := bF BK150.out 3; have hfz54_4 := bF BK150.out 4; have hfz54_5 := bF BK150.out 5))
      refine bodyPost_ret (results_ct rfl _ _ gb150 33 #[.int .u8 1, .int .i64 a1_1, .string a1_2, .string (⟨#[]⟩ : BA), .string t155, .int .u64 0] (0, 0) _ rfl (by (with_reducible repeat (first | refine bN ?_ _ | refine bD ?_ | refine bA ?_ _)); refine bP (cs := #[.int .u8 1, .int .i64 a1_1, .string a1_2, .string (⟨#[]⟩ : BA), .string t155, .int .u64 0]) ?_ 5 _ rfl; (with_reducible repeat (first | refine bN ?_ _ | refine bD ?_ | refine bA ?_ _)); refine bP (cs := #[.int .u8 1, .int .i64 a1_1, .string a1_2, .string (⟨#[]⟩ : BA), .string (⟨#[]⟩ : BA), .int .u64 0]) ?_ 4 _ rfl; (with_reducible repeat (first | refine bN ?_ _ | refine bD ?_ | refine bA ?_ _)); refine bP (cs := #[.int .u8 1, .int .i64 a1_1, .string a1_2, .string (⟨#[]⟩ : BA), .string (⟨#[]⟩ : BA), .int .u64 0]) ?_ 3 _ rfl; (with_reducible repeat (first | refine bN ?_ _ | refine bD ?_ | refine bA ?_ _)); refine bP (cs := #[.int .u8 1, .int .i64 a1_1, .string (⟨#[]⟩ : BA), .string (⟨#[]⟩ : BA), .string (⟨#[]⟩ : BA), .int .u64 0]) ?_ 2 _ rfl; (with_reducible repeat (first | refine bN ?_ _ | refine bD ?_ | refine bA ?_ _)); refine bP (cs := #[.int .u8 1, .int .i64 0, .string (⟨#[]⟩ : BA), .string (⟨#[]⟩ : BA), .string (⟨#[]⟩ : BA), .int .u64 0]) ?_ 1 _ rfl; (with_reducible repeat (first | refine bN ?_ _ | refine bD ?_ | refine bA ?_ _)); refine bP (cs := #[.int .u8 0, .int .i64 0, .string (⟨#[]⟩ : BA), .string (⟨#[]⟩ : BA), .string (⟨#[]⟩ : BA), .int .u64 0]) ?_ 0 _ rfl; (with_reducible repeat (first | refine bN ?_ _ | refine bD ?_ | refine bA ?_ _)); refine bR ?_ NB150_149.out _; (with_reducible repeat (first | refine bN ?_ _ | refine bD ?_ | refine bA ?_ _)); refine bR ?_ NB150_149.out _; (with_reducible repeat (first | refine bN ?_ _ | refine bD ?_ | refine bA ?_ _)); refine bR ?_ NB150_149.out _; (with_reducible repeat (first | refine bN ?_ _ | refine bD ?_ | refine bA ?_ _)); refine bR ?_ NB150_149.out _; (with_reducible repeat (first | refine bN ?_ _ | refine bD ?_ | refine bA ?_ _)); refine bR ?_ NB150_149.out _; (with_reducible repeat (first | refine bN ?_ _ | refine bD ?_ | refine bA ?_ _)); refine bR ?_ NB150_149.out _; (with_reducible repeat (first | refine bN ?_ _ | refine bD ?_ | refine bA ?_ _)); exact BK150.out) Try.underlying33 rfl (by kernel_rfl)) rfl ?_
      exact ⟨by first | rfl | (simp [errW_none, errW_some] <;> rfl) | (simp [*, errW_none, errW_some] <;> rfl), by repeat (first | (with_reducible first | exact HB.out | apply wA | apply wN | apply w1 | refine wS ?_ GE148.out | refine wS ?_ GE149.out | refine wS ?_ GE150.out) | exact HB.out)⟩
    ·rw [if_neg c35] at H
     have c35b0 : (a1_0 == 3) = false := beq_eq_false_iff_ne.mpr c35
     have c35b1 : (a1_0 != 3) = true := bne_iff_ne.mpr c35
     simp only [Option.some.injEq, Prod.mk.injEq] at H
     obtain ⟨rfl, rfl, rfl, rfl, rfl, rfl, rfl⟩ := H
     have hnb55 := NB149_148.out
     have hnc55 := NB148_149.out
     have hnb56 := NB149_150.out
     have hnc56 := NB150_149.out
     have hcz57_0 : wc.cell? ⟨gb149, 0, none⟩ = some (.int .u8 a1_0) := (bC BK149.out 0).trans rfl
     have hcz57_1 : wc.cell? ⟨gb149, 1, none⟩ = some (.int .i64 a1_1) := (bC BK149.out 1).trans rfl
     have hcz57_2 : wc.cell? ⟨gb149, 2, none⟩ = some (.string a1_2) := (bC BK149.out 2).trans rfl
     have hcz57_3 : wc.cell? ⟨gb149, 3, none⟩ = some (.string a1_3) := (bC BK149.out 3).trans rfl
     have hcz57_4 : wc.cell? ⟨gb149, 4, none⟩ = some (.string a1_4) := (bC BK149.out 4).trans rfl
     have hcz57_5 : wc.cell? ⟨gb149, 5, none⟩ = some (.int .u64 a1_5) := (bC BK149.out 5).trans rfl
     have hfz57_0 := bF BK149.out 0
     have hfz57_1 := bF BK149.out 1
     have hfz57_2 := bF BK149.out 2
     have hfz57_3 := bF BK149.out 3
     have hfz57_4 := bF BK149.out 4
     have hfz57_5 := bF BK149.out 5
     have hnb58 := NB150_148.out
     have hnc58 := NB148_150.out
     have hcz59_0 : wc.cell? ⟨gb150, 0, none⟩ = some (.int .u8 0) := (bC BK150.out 0).trans rfl
     have hcz59_1 : wc.cell? ⟨gb150, 1, none⟩ = some (.int .i64 0) := (bC BK150.out 1).trans rfl
     have hcz59_2 : wc.cell? ⟨gb150, 2, none⟩ = some (.string (⟨#[]⟩ : BA)) := (bC BK150.out 2).trans rfl
     have hcz59_3 : wc.cell? ⟨gb150, 3, none⟩ = some (.string (⟨#[]⟩ : BA)) := (bC BK150.out 3).trans rfl
     have hcz59_4 : wc.cell? ⟨gb150, 4, none⟩ = some (.string (⟨#[]⟩ : BA)) := (bC BK150.out 4).trans rfl
     have hcz59_5 : wc.cell? ⟨gb150, 5, none⟩ = some (.int .u64 0) := (bC BK150.out 5).trans rfl
     have hfz59_0 := bF BK150.out 0
     have hfz59_1 := bF BK150.out 1
     have hfz59_2 := bF BK150.out 2
     have hfz59_3 := bF BK150.out 3
     have hfz59_4 := bF BK150.out 4
     have hfz59_5 := bF BK150.out 5
     go_wp2
     refine bodyPost_ret (results_ct rfl _ _ gb150 33 #[.int .u8 a1_0, .int .i64 a1_1, .string a1_2, .string a1_3, .string a1_4, .int .u64 a1_5] (0, 0) _ rfl (by (with_reducible repeat (first | refine bN ?_ _ | refine bD ?_ | refine bA ?_ _)); refine bP (cs := #[.int .u8 a1_0, .int .i64 a1_1, .string a1_2, .string a1_3, .string a1_4, .int .u64 0]) ?_ 5 _ rfl; (with_reducible repeat (first | refine bN ?_ _ | refine bD ?_ | refine bA ?_ _)); refine bP (cs := #[.int .u8 a1_0, .int .i64 a1_1, .string a1_2, .string a1_3, .string (⟨#[]⟩ : BA), .int .u64 0]) ?_ 4 _ rfl; (with_reducible repeat (first | refine bN ?_ _ | refine bD ?_ | refine bA ?_ _)); refine bP (cs := #[.int .u8 a1_0, .int .i64 a1_1, .string a1_2, .string (⟨#[]⟩ : BA), .string (⟨#[]⟩ : BA), .int .u64 0]) ?_ 3 _ rfl; (with_reducible repeat (first | refine bN ?_ _ | refine bD ?_ | refine bA ?_ _)); refine bP (cs := #[.int .u8 a1_0, .int .i64 a1_1, .string (⟨#[]⟩ : BA), .string (⟨#[]⟩ : BA), .string (⟨#[]⟩ : BA), .int .u64 0]) ?_ 2 _ rfl; (with_reducible repeat (first | refine bN ?_ _ | refine bD ?_ | refine bA ?_ _)); refine bP (cs := #[.int .u8 a1_0, .int .i64 0, .string (⟨#[]⟩ : BA), .string (⟨#[]⟩ : BA), .string (⟨#[]⟩ : BA), .int .u64 0]) ?_ 1 _ rfl; (with_reducible repeat (first | refine bN ?_ _ | refine bD ?_ | refine bA ?_ _)); refine bP (cs := #[.int .u8 0, .int .i64 0, .string (⟨#[]⟩ : BA), .string (⟨#[]⟩ : BA), .string (⟨#[]⟩ : BA), .int .u64 0]) ?_ 0 _ rfl; (with_reducible repeat (first | refine bN ?_ _ | refine bD ?_ | refine bA ?_ _)); exact BK150.out) Try.underlying33 rfl (by kernel_rfl)) rfl ?_
     exact ⟨by first | rfl | (simp [errW_none, errW_some] <;> rfl) | (simp [*, errW_none, errW_some] <;> rfl), by repeat (first | (with_reducible first | exact HB.out | apply wA | apply wN | apply w1 | refine wS ?_ GE148.out | refine wS ?_ GE149.out | refine wS ?_ GE150.out) | exact HB.out)⟩
def key_RightRange.f (a0_0 : BA) (a0_1 : BA) : Option (Bool) := (key_ahead.f a0_0 a0_1).bind fun t173 => (some t173)
set_option maxHeartbeats 8000000 in
set_option maxRecDepth 100000 in
theorem key_RightRange.calls (a0_0 : BA) (a0_1 : BA) (r : Bool) (w : World) (h : key_RightRange.f a0_0 a0_1 = some r) :
  Calls Try.prog 49 #[.agg #[.string a0_0, .string a0_1]] w fun e w' => e = .returned (.bool r) ∧ Below w.heap.size w w' := by
 have hu38 := Try.underlying38
 have HB := Aside0.mk (Below.refl w.heap.size w)
 have H : ((key_ahead.f a0_0 a0_1).bind fun t173 => (some t173)) = some r := h
 clear h
 replace H := Option.bind_eq_some_iff.mp H
 obtain ⟨t173, A20, H⟩ := H
 replace H : (some t173) = some r := H
 have A2 := Aside0.mk A20
 clear A20
 obtain rfl := Option.some.inj H
 go_enter Try.func49, Try.ntmps49
 go_wp2_with (first | ((with_reducible refine gate_dst (N := 1) rfl ?_); refine box_event ?hg (N := 1) ?hd (cs := #[.string a0_0, .string a0_1]) (t := 38) ?hr ?_; (case hd => rfl); (case hg => rfl); (case hr => first | (go_simp; done) | (go_simp; rfl)); intro gb172 hg w3 hbox hb; have n0_ := Aside0.mk (wT bW_ hb); have n1_ := Aside0.mk (hbox); have n2_ := Aside0.mk ((by rw [hg]; exact (wZ bW_) : w.heap.size ≤ gb172)); have n3_ := n2_; clear HB; have HB := n0_; have BK172 := n1_; have GW172 := n2_; have GE172 := n3_; clear n0_ n1_ n2_ n3_; clear hb hbox hg; have hcz4_0 : w3.cell? ⟨gb172, 0, none⟩ = some (.string a0_0) := (bC BK172.out 0).trans rfl; have hcz4_1 : w3.cell? ⟨gb172, 1, none⟩ = some (.string a0_1) := (bC BK172.out 1).trans rfl; have hfz4_0 := bF BK172.out 0; have hfz4_1 := bF BK172.out 1) | ((with_reducible refine gate_callee (f := 80) rfl ?_); refine goesL_ (some 7) rfl rfl Try.func80 (by kernel_rfl) rfl #[.string a0_0, .string a0_1] rfl mS_ ?_; (with_reducible refine (key_ahead.calls a0_0 a0_1 t173 _ A2.out).mono ?_); rintro e w' ⟨rfl, ⟨nd, rfl⟩⟩; refine ⟨_, rfl, ?_⟩))
 go_ret
 exact ⟨by first | rfl | (simp [errW_none, errW_some] <;> rfl) | (simp [*, errW_none, errW_some] <;> rfl), by repeat (first | (with_reducible first | exact HB.out | apply wA | apply wN | apply w1 | refine wS ?_ GE172.out) | exact HB.out)⟩
def msg_Size.f (a0_0 : Int) (a0_1 : Int) (a0_2 : BA) (a0_3 : BA) (a0_4 : BA) (a0_5 : Int) : Option (Int) := some (wrap64 ((wrap64 ((wrap64 (16 + (a0_2.size : Int))) + (a0_3.size : Int))) + (a0_4.size : Int)))
set_option maxHeartbeats 8000000 in
set_option maxRecDepth 100000 in
theorem msg_Size.calls (a0_0 : Int) (a0_1 : Int) (a0_2 : BA) (a0_3 : BA) (a0_4 : BA) (a0_5 : Int) (r : Int) (w : World) (h : msg_Size.f a0_0 a0_1 a0_2 a0_3 a0_4 a0_5 = some r) :
  Calls Try.prog 83 #[.agg #[.int .u8 a0_0, .int .i64 a0_1, .string a0_2, .string a0_3, .string a0_4, .int .u64 a0_5]] w fun e w' => e = .returned (.int .i64 r) ∧ Below w.heap.size w w' := by
 have hu33 := Try.underlying33
 have HB := Aside0.mk (Below.refl w.heap.size w)
 have H : (some (wrap64 ((wrap64 ((wrap64 (16 + (a0_2.size : Int))) + (a0_3.size : Int))) + (a0_4.size : Int)))) = some r := h
 clear h
 obtain rfl := Option.some.inj H
 go_enter Try.func83, Try.ntmps83
 go_wp2_with (first | ((with_reducible refine gate_dst (N := 1) rfl ?_); refine box_event ?hg (N := 1) ?hd (cs := #[.int .u8 a0_0, .int .i64 a0_1, .string a0_2, .string a0_3, .string a0_4, .int .u64 a0_5]) (t := 33) ?hr ?_; (case hd => rfl); (case hg => rfl); (case hr => first | (go_simp; done) | (go_simp; rfl)); intro gb174 hg w2 hbox hb; have n0_ := Aside0.mk (wT bW_ hb); have n1_ := Aside0.mk (hbox); have n2_ := Aside0.mk ((by rw [hg]; exact (wZ bW_) : w.heap.size ≤ gb174)); have n3_ := n2_; clear HB; have HB := n0_; have BK174 := n1_; have GW174 := n2_; have GE174 := n3_; clear n0_ n1_ n2_ n3_; clear hb hbox hg; have hcz3_0 : w2.cell? ⟨gb174, 0, none⟩ = some (.int .u8 a0_0) := (bC BK174.out 0).trans rfl; have hcz3_1 : w2.cell? ⟨gb174, 1, none⟩ = some (.int .i64 a0_1) := (bC BK174.out 1).trans rfl; have hcz3_2 : w2.cell? ⟨gb174, 2, none⟩ = some (.string a0_2) := (bC BK174.out 2).trans rfl; have hcz3_3 : w2.cell? ⟨gb174, 3, none⟩ = some (.string a0_3) := (bC BK174.out 3).trans rfl; have hcz3_4 : w2.cell? ⟨gb174, 4, none⟩ = some (.string a0_4) := (bC BK174.out 4).trans rfl; have hcz3_5 : w2.cell? ⟨gb174, 5, none⟩ = some (.int .u64 a0_5) := (bC BK174.out 5).trans rfl; have hfz3_0 := bF BK174.out 0; have hfz3_1 := bF BK174.out 1; have hfz3_2 := bF BK174.out 2; have hfz3_3 := bF BK174.out 3; have hfz3_4 := bF BK174.out 4; have hfz3_5 := bF BK174.out 5))
 go_ret
 exact ⟨by first | rfl | (simp [errW_none, errW_some] <;> rfl) | (simp [*, errW_none, errW_some] <;> rfl), by repeat (first | (with_reducible first | exact HB.out | apply wA | apply wN | apply w1 | refine wS ?_ GE174.out) | exact HB.out)⟩
def compact_Bytes.l0 : Nat → Int → List (S33) → Int → Int → Option (Int)
 | 0, _, _, _, _ => none
 | k + 1, x3, x6, x7, x8 => if x8 < x7 then (if 0 ≤ x8 then (if x8 < (x6.length : Int) then ((msg_Size.f ((rd_T33 x6 x8).f0) ((rd_T33 x6 x8).f1) ((rd_T33 x6 x8).f2) ((rd_T33 x6 x8).f3) ((rd_T33 x6 x8).f4) ((rd_T33 x6 x8).f5)).bind fun t177 => (compact_Bytes.l0 k (wrap64 (x3 + t177)) x6 x7 (wrap64 (x8 + 1)))) else (none)) else (none)) else (some x3)
def compact_Bytes.f (k : Nat) (l0 : List (S33)) : Option (Int) := compact_Bytes.l0 k 0 l0 (l0.length : Int) 0
set_option maxHeartbeats 8000000 in
set_option maxRecDepth 100000 in
theorem compact_Bytes.calls (k : Nat) (A0 : Option Addr) (c0 : Nat) (l0 : List (S33)) (r : Int) (w : World) (hr0 : Kd.C k33 w A0 l0.length l0) (hc0 : l0.length ≤ c0) (h : compact_Bytes.f k l0 = some r) :
  Calls Try.prog 54 #[.slice A0 l0.length c0] w fun e w' => e = .returned (.int .i64 r) ∧ Below w.heap.size w w' := by
 have hu33 := Try.underlying33
 have HR0 := Aside0.mk hr0
 have HC0 := Aside0.mk hc0
 clear hr0 hc0
 have HB := Aside0.mk (Below.refl w.heap.size w)
 have H : (compact_Bytes.l0 k 0 l0 (l0.length : Int) 0) = some r := h
 clear h
 have H' := Aside0.mk H
 clear H
 go_enter Try.func54, Try.ntmps54
 go_wp2
 go_loopg [3, 8] k (fun kq v3 v8 w' => ∃ (x3_1 : Int) (x8_1 : Int), v3 = .int .i64 x3_1 ∧ v8 = .int .i64 x8_1 ∧ Aside0 (compact_Bytes.l0 kq x3_1 l0 (l0.length : Int) x8_1 = some r) ∧ Aside0 (kq ≤ k) ∧ Aside0 (Below w.heap.size w w'))
 case atStart => exact ⟨(0), (0), (by first | rfl | (simp; done) | (simp [*]; done)), (by first | rfl | (simp; done) | (simp [*]; done)), H', ⟨Nat.le_refl _⟩, ⟨by repeat (first | (with_reducible first | exact HB.out | apply wA | apply wN | apply w1) | exact HB.out)⟩⟩
 case round =>
  clear H'
  obtain ⟨x3_1, x8_1, rfl, rfl, HA, HK1, HB⟩ := hrel
  cases gk with
  | zero => exact absurd HA.out (by simp [compact_Bytes.l0])
  | succ k1 =>
   have H := HA.out
   clear HA
   simp only [compact_Bytes.l0] at H
   by_cases c2 : x8_1 < (l0.length : Int)
   ·rw [if_pos c2] at H
    have c2b0 : decide (x8_1 < (l0.length : Int)) = true := decide_eq_true c2
    clear c2
    by_cases c3 : 0 ≤ x8_1
    ·rw [if_pos c3] at H
     have c3b0 : decide (0 ≤ x8_1) = true := decide_eq_true c3
     clear c3
     by_cases c4 : x8_1 < (l0.length : Int)
     ·rw [if_pos c4] at H
      have c4b0 : decide (x8_1 < (l0.length : Int)) = true := decide_eq_true c4
      clear c4
      replace H := Option.bind_eq_some_iff.mp H
      obtain ⟨t177, A50, H⟩ := H
      replace H : (compact_Bytes.l0 k1 (wrap64 (x3_1 + t177)) l0 (l0.length : Int) (wrap64 (x8_1 + 1))) = some r := H
      have A5 := Aside0.mk A50
      clear A50
      have H' := Aside0.mk H
      clear H
      have p175 : 0 ≤ (x8_1 : Int) := of_decide_eq_true (by first | (with_reducible assumption) | assumption)
      have q175 : x8_1 < (l0.length : Int) := of_decide_eq_true (by first | (with_reducible assumption) | assumption)
      obtain ⟨ad175, e175, hx175_0, hx175_1, hx175_2, hx175_3, hx175_4, hx175_5⟩ := at_T33 HR0.out x8_1 p175 q175
      cases e175
      replace hx175_0 := (HB.out.cell (World.block_lt_of_cell? w _ hx175_0)).trans hx175_0
      replace hx175_1 := (HB.out.cell (World.block_lt_of_cell? w _ hx175_1)).trans hx175_1
      replace hx175_2 := (HB.out.cell (World.block_lt_of_cell? w _ hx175_2)).trans hx175_2
      replace hx175_3 := (HB.out.cell (World.block_lt_of_cell? w _ hx175_3)).trans hx175_3
      replace hx175_4 := (HB.out.cell (World.block_lt_of_cell? w _ hx175_4)).trans hx175_4
      replace hx175_5 := (HB.out.cell (World.block_lt_of_cell? w _ hx175_5)).trans hx175_5
      replace p175 := eq_true p175
      replace q175 := eq_true q175
      go_wp2_with (first | ((with_reducible refine gate_dst (N := 5) rfl ?_); refine box_event ?hg (N := 5) ?hd (cs := #[.int .u8 0, .int .i64 0, .string (⟨#[]⟩ : BA), .string (⟨#[]⟩ : BA), .string (⟨#[]⟩ : BA), .int .u64 0]) (t := 33) ?hr ?_; (case hd => rfl); (case hg => rfl); (case hr => first | (go_simp; done) | (go_simp; rfl)); intro gb176 hg w6 hbox hb; have n0_ := Aside0.mk (wT bW_ hb); have n1_ := Aside0.mk (hbox); have n2_ := Aside0.mk ((by rw [hg]; exact (wZ bW_) : w.heap.size ≤ gb176)); have n3_ := n2_; clear HB; have HB := n0_; have BK176 := n1_; have GW176 := n2_; have GE176 := n3_; clear n0_ n1_ n2_ n3_; clear hb hbox hg; have hcz7_0 : w6.cell? ⟨gb176, 0, none⟩ = some (.int .u8 0) := (bC BK176.out 0).trans rfl; have hcz7_1 : w6.cell? ⟨gb176, 1, none⟩ = some (.int .i64 0) := (bC BK176.out 1).trans rfl; have hcz7_2 : w6.cell? ⟨gb176, 2, none⟩ = some (.string (⟨#[]⟩ : BA)) := (bC BK176.out 2).trans rfl; have hcz7_3 : w6.cell? ⟨gb176, 3, none⟩ = some (.string (⟨#[]⟩ : BA)) := (bC BK176.out 3).trans rfl; have hcz7_4 : w6.cell? ⟨gb176, 4, none⟩ = some (.string (⟨#[]⟩ : BA)) := (bC BK176.out 4).trans rfl; have hcz7_5 : w6.cell? ⟨gb176, 5, none⟩ = some (.int .u64 0) := (bC BK176.out 5).trans rfl; have hfz7_0 := bF BK176.out 0; have hfz7_1 := bF BK176.out 1; have hfz7_2 := bF BK176.out 2; have hfz7_3 := bF BK176.out 3; have hfz7_4 := bF BK176.out 4; have hfz7_5 := bF BK176.out 5) | ((with_reducible refine gate_callee (f := 83) rfl ?_); refine goesL_ (some 14) rfl rfl Try.func83 (by kernel_rfl) rfl #[.agg #[.int .u8 ((rd_T33 l0 x8_1).f0), .int .i64 ((rd_T33 l0 x8_1).f1), .string ((rd_T33 l0 x8_1).f2), .string ((rd_T33 l0 x8_1).f3), .string ((rd_T33 l0 x8_1).f4), .int .u64 ((rd_T33 l0 x8_1).f5)]] rfl mS_ ?_; (with_reducible refine (msg_Size.calls ((rd_T33 l0 x8_1).f0) ((rd_T33 l0 x8_1).f1) ((rd_T33 l0 x8_1).f2) ((rd_T33 l0 x8_1).f3) ((rd_T33 l0 x8_1).f4) ((rd_T33 l0 x8_1).f5) t177 _ A5.out).mono ?_); rintro e w8 ⟨rfl, hb⟩; refine ⟨_, rfl, ?_⟩; have n0_ := Aside0.mk (bB (g := gb176) (o := .cells #[.int .u8 ((rd_T33 l0 x8_1).f0), .int .i64 ((rd_T33 l0 x8_1).f1), .string ((rd_T33 l0 x8_1).f2), .string ((rd_T33 l0 x8_1).f3), .string ((rd_T33 l0 x8_1).f4), .int .u64 ((rd_T33 l0 x8_1).f5)] 33 (0, 0)) (by (with_reducible repeat (first | refine bN ?_ _ | refine bD ?_ | refine bA ?_ _)); refine bP (cs := #[.int .u8 ((rd_T33 l0 x8_1).f0), .int .i64 ((rd_T33 l0 x8_1).f1), .string ((rd_T33 l0 x8_1).f2), .string ((rd_T33 l0 x8_1).f3), .string ((rd_T33 l0 x8_1).f4), .int .u64 0]) ?_ 5 _ rfl; (with_reducible repeat (first | refine bN ?_ _ | refine bD ?_ | refine bA ?_ _)); refine bP (cs := #[.int .u8 ((rd_T33 l0 x8_1).f0), .int .i64 ((rd_T33 l0 x8_1).f1), .string ((rd_T33 l0 x8_1).f2), .string ((rd_T33 l0 x8_1).f3), .string (⟨#[]⟩ : BA), .int .u64 0]) ?_ 4 _ rfl; (with_reducible repeat (first | refine bN ?_ _ | refine bD ?_ | refine bA ?_ _)); refine bP (cs := #[.int .u8 ((rd_T33 l0 x8_1).f0), .int .i64 ((rd_T33 l0 x8_1).f1), .string ((rd_T33 l0 x8_1).f2), .string (⟨#[]⟩ : BA), .string (⟨#[]⟩ : BA), .int .u64 0]) ?_ 3 _ rfl; (with_reducible repeat (first | refine bN ?_ _ | refine bD ?_ | refine bA ?_ _)); refine bP (cs := #[.int .u8 ((rd_T33 l0 x8_1).f0), .int .i64 ((rd_T33 l0 x8_1).f1), .string (⟨#[]⟩ : BA), .string (⟨#[]⟩ : BA), .string (⟨#[]⟩ : BA), .int .u64 0]) ?_ 2 _ rfl; (with_reducible repeat (first | refine bN ?_ _ | refine bD ?_ | refine bA ?_ _)); refine bP (cs := #[.int .u8 ((rd_T33 l0 x8_1).f0), .int .i64 0, .string (⟨#[]⟩ : BA), .string (⟨#[]⟩ : BA), .string (⟨#[]⟩ : BA), .int .u64 0]) ?_ 1 _ rfl; (with_reducible repeat (first | refine bN ?_ _ | refine bD ?_ | refine bA ?_ _)); refine bP (cs := #[.int .u8 0, .int .i64 0, .string (⟨#[]⟩ : BA), .string (⟨#[]⟩ : BA), .string (⟨#[]⟩ : BA), .int .u64 0]) ?_ 0 _ rfl; (with_reducible repeat (first | refine bN ?_ _ | refine bD ?_ | refine bA ?_ _)); exact BK176.out) hb); have n1_ := Aside0.mk (wT (by repeat (first | (with_reducible first | exact HB.out | apply wA | apply wN | apply w1 | refine wS ?_ GE176.out) | exact HB.out)) hb); clear BK176; clear HB; have BK176 := n0_; have HB := n1_; clear n0_ n1_; (try clear hb); (try clear hb2); (try clear hk); (try clear hi)))
      go_roundg k1
      case measure => have := HK1.out; omega
      case rel => exact ⟨(wrap64 (x3_1 + t177)), (wrap64 (x8_1 + 1)), (by first | rfl | (simp; done) | (simp [*]; done)), (by first | rfl | (simp; done) | (simp [*]; done)), H', ⟨by have := HK1.out; omega⟩, ⟨by repeat (first | (with_reducible first | exact HB.out | apply wA | apply wN | apply w1 | refine wS ?_ GE176.out) | exact HB.out)⟩⟩
     ·rw [if_neg c4] at H
      exact absurd H (by simp)
    ·rw [if_neg c3] at H
     exact absurd H (by simp)
   ·rw [if_neg c2] at H
    have c2b0 : decide (x8_1 < (l0.length : Int)) = false := decide_eq_false c2
    clear c2
    obtain rfl := Option.some.inj H
    go_wp2
    go_ret
    exact ⟨by first | rfl | (simp [errW_none, errW_some] <;> rfl) | (simp [*, errW_none, errW_some] <;> rfl), by repeat (first | (with_reducible first | exact HB.out | apply wA | apply wN | apply w1) | exact HB.out)⟩
def msg_On.f (k : Nat) (a0_0 : Int) (a0_1 : Int) (a0_2 : BA) (a0_3 : BA) (a0_4 : BA) (a0_5 : Int) (a1 : BA) (a2 : BA) (a3 : Bool) : Option (ByteArray × Bool) := (msg_Touches.f a0_0 a0_1 a0_2 a0_3 a0_4 a0_5 a1).bind fun t221 => (if t221 = true then ((msg_Apply.f k a0_0 a0_1 a0_2 a0_3 a0_4 a0_5 a2 a3).bind fun bt222 => (some (bt222.1, bt222.2))) else ((msg_Apply.f k 0 0 (⟨#[]⟩ : BA) (⟨#[]⟩ : BA) (⟨#[]⟩ : BA) 0 a2 a3).bind fun bt224 => (some (bt224.1, bt224.2))))
set_option maxHeartbeats 8000000 in
set_option maxRecDepth 100000 in
theorem msg_On.calls (k : Nat) (a0_0 : Int) (a0_1 : Int) (a0_2 : BA) (a0_3 : BA) (a0_4 : BA) (a0_5 : Int) (a1 : BA) (a2 : BA) (a3 : Bool) (r1 : BA) (r2 : Bool) (w : World) (h : msg_On.f k a0_0 a0_1 a0_2 a0_3 a0_4 a0_5 a1 a2 a3 = some (r1, r2)) :
  Calls Try.prog 71 #[.agg #[.int .u8 a0_0, .int .i64 a0_1, .string a0_2, .string a0_3, .string a0_4, .int .u64 a0_5], .string a1, .string a2, .bool a3] w fun e w' => e = .returned (.tuple #[.string r1, .bool r2]) ∧ Below w.heap.size w w' := by
 have hu33 := Try.underlying33
 have HB := Aside0.mk (Below.refl w.heap.size w)
 have H : ((msg_Touches.f a0_0 a0_1 a0_2 a0_3 a0_4 a0_5 a1).bind fun t221 => (if t221 = true then ((msg_Apply.f k a0_0 a0_1 a0_2 a0_3 a0_4 a0_5 a2 a3).bind fun bt222 => (some (bt222.1, bt222.2))) else ((msg_Apply.f k 0 0 (⟨#[]⟩ : BA) (⟨#[]⟩ : BA) (⟨#[]⟩ : BA) 0 a2 a3).bind fun bt224 => (some (bt224.1, bt224.2))))) = some (r1, r2) := h
 clear h
 replace H := Option.bind_eq_some_iff.mp H
 obtain ⟨t221, A50, H⟩ := H
 replace H : (if t221 = true then ((msg_Apply.f k a0_0 a0_1 a0_2 a0_3 a0_4 a0_5 a2 a3).bind fun bt222 => (some (bt222.1, bt222.2))) else ((msg_Apply.f k 0 0 (⟨#[]⟩ : BA) (⟨#[]⟩ : BA) (⟨#[]⟩ : BA) 0 a2 a3).bind fun bt224 => (some (bt224.1, bt224.2)))) = some (r1, r2) := H
 have A5 := Aside0.mk A50
 clear A50
 by_cases c6 : t221 = true
 ·subst c6
  have H1 : ((msg_Apply.f k a0_0 a0_1 a0_2 a0_3 a0_4 a0_5 a2 a3).bind fun bt222 => (some (bt222.1, bt222.2))) = some (r1, r2) := by rw [if_pos rfl] at H; exact H
  clear H
  have H := H1
  clear H1
  replace H := Option.bind_eq_some_iff.mp H
  obtain ⟨⟨t222, t223⟩, A70, H⟩ := H
  replace H : (some (t222, t223)) = some (r1, r2) := H
  have A7 := Aside0.mk A70
  clear A70
  simp only [Option.some.injEq, Prod.mk.injEq] at H
  obtain ⟨rfl, rfl⟩ := H
  go_enter Try.func71, Try.ntmps71
  go_wp2_with (first | ((with_reducible refine gate_dst (N := 4) rfl ?_); refine box_event ?hg (N := 4) ?hd (cs := #[.int .u8 a0_0, .int .i64 a0_1, .string a0_2, .string a0_3, .string a0_4, .int .u64 a0_5]) (t := 33) ?hr ?_; (case hd => rfl); (case hg => rfl); (case hr => first | (go_simp; done) | (go_simp; rfl)); intro gb220 hg w8 hbox hb; have n0_ := Aside0.mk (wT bW_ hb); have n1_ := Aside0.mk (hbox); have n2_ := Aside0.mk ((by rw [hg]; exact (wZ bW_) : w.heap.size ≤ gb220)); have n3_ := n2_; clear HB; have HB := n0_; have BK220 := n1_; have GW220 := n2_; have GE220 := n3_; clear n0_ n1_ n2_ n3_; clear hb hbox hg; have hcz9_0 : w8.cell? ⟨gb220, 0, none⟩ = some (.int .u8 a0_0) := (bC BK220.out 0).trans rfl; have hcz9_1 : w8.cell? ⟨gb220, 1, none⟩ = some (.int .i64 a0_1) := (bC BK220.out 1).trans rfl; have hcz9_2 : w8.cell? ⟨gb220, 2, none⟩ = some (.string a0_2) := (bC BK220.out 2).trans rfl; have hcz9_3 : w8.cell? ⟨gb220, 3, none⟩ = some (.string a0_3) := (bC BK220.out 3).trans rfl; have hcz9_4 : w8.cell? ⟨gb220, 4, none⟩ = some (.string a0_4) := (bC BK220.out 4).trans rfl; have hcz9_5 : w8.cell? ⟨gb220, 5, none⟩ = some (.int .u64 a0_5) := (bC BK220.out 5).trans rfl; have hfz9_0 := bF BK220.out 0; have hfz9_1 := bF BK220.out 1; have hfz9_2 := bF BK220.out 2; have hfz9_3 := bF BK220.out 3; have hfz9_4 := bF BK220.out 4; have hfz9_5 := bF BK220.out 5) | ((with_reducible refine gate_callee (f := 101) rfl ?_); refine goesL_ (some 12) rfl rfl Try.func101 (by kernel_rfl) rfl #[.agg #[.int .u8 a0_0, .int .i64 a0_1, .string a0_2, .string a0_3, .string a0_4, .int .u64 a0_5], .string a1] rfl mS_ ?_; (with_reducible refine (msg_Touches.calls a0_0 a0_1 a0_2 a0_3 a0_4 a0_5 a1 true _ A5.out).mono ?_); rintro e w10 ⟨rfl, hb⟩; refine ⟨_, rfl, ?_⟩; have n0_ := Aside0.mk (bB (g := gb220) (o := .cells #[.int .u8 a0_0, .int .i64 a0_1, .string a0_2, .string a0_3, .string a0_4, .int .u64 a0_5] 33 (0, 0)) (bX_ BK220.out) hb); have n1_ := Aside0.mk (wT (by repeat (first | (with_reducible first | exact HB.out | apply wA | apply wN | apply w1 | refine wS ?_ GE220.out) | exact HB.out)) hb); clear BK220; clear HB; have BK220 := n0_; have HB := n1_; clear n0_ n1_; (try clear hb); (try clear hb2); (try clear hk); (try clear hi); have hcz11_0 : w10.cell? ⟨gb220, 0, none⟩ = some (.int .u8 a0_0) := (bC BK220.out 0).trans rfl; have hcz11_1 : w10.cell? ⟨gb220, 1, none⟩ = some (.int .i64 a0_1) := (bC BK220.out 1).trans rfl; have hcz11_2 : w10.cell? ⟨gb220, 2, none⟩ = some (.string a0_2) := (bC BK220.out 2).trans rfl; have hcz11_3 : w10.cell? ⟨gb220, 3, none⟩ = some (.string a0_3) := (bC BK220.out 3).trans rfl; have hcz11_4 : w10.cell? ⟨gb220, 4, none⟩ = some (.string a0_4) := (bC BK220.out 4).trans rfl; have hcz11_5 : w10.cell? ⟨gb220, 5, none⟩ = some (.int .u64 a0_5) := (bC BK220.out 5).trans rfl; have hfz11_0 := bF BK220.out 0; have hfz11_1 := bF BK220.out 1; have hfz11_2 := bF BK220.out 2; have hfz11_3 := bF BK220.out 3; have hfz11_4 := bF BK220.out 4; have hfz11_5 := bF BK220.out 5) | ((with_reducible refine gate_callee (f := 70) rfl ?_); refine goesL_ (some 23) rfl rfl Try.func70 (by kernel_rfl) rfl #[.agg #[.int .u8 a0_0, .int .i64 a0_1, .string a0_2, .string a0_3, .string a0_4, .int .u64 a0_5], .string a2, .bool a3] rfl mS_ ?_; (with_reducible refine (msg_Apply.calls k a0_0 a0_1 a0_2 a0_3 a0_4 a0_5 a2 a3 t222 t223 _ A7.out).mono ?_); rintro e w12 ⟨rfl, hb⟩; refine ⟨_, rfl, ?_⟩; have n0_ := Aside0.mk (bB (g := gb220) (o := .cells #[.int .u8 a0_0, .int .i64 a0_1, .string a0_2, .string a0_3, .string a0_4, .int .u64 a0_5] 33 (0, 0)) (bX_ BK220.out) hb); have n1_ := Aside0.mk (wT (by repeat (first | (with_reducible first | exact HB.out | apply wA | apply wN | apply w1 | refine wS ?_ GE220.out) | exact HB.out)) hb); clear BK220; clear HB; have BK220 := n0_; have HB := n1_; clear n0_ n1_; (try clear hb); (try clear hb2); (try clear hk); (try clear hi)))
  go_ret2
  exact ⟨by first | rfl | (simp [errW_none, errW_some] <;> rfl) | (simp [*, errW_none, errW_some] <;> rfl), by repeat (first | (with_reducible first | exact HB.out | apply wA | apply wN | apply w1 | refine wS ?_ GE220.out) | exact HB.out)⟩
 ·replace c6 := Bool.eq_false_iff.mpr c6
  subst c6
  have H1 : ((msg_Apply.f k 0 0 (⟨#[]⟩ : BA) (⟨#[]⟩ : BA) (⟨#[]⟩ : BA) 0 a2 a3).bind fun bt224 => (some (bt224.1, bt224.2))) = some (r1, r2) := by rw [if_neg (show ¬ (false = true) by decide)] at H; exact H
  clear H
  have H := H1
  clear H1
  replace H := Option.bind_eq_some_iff.mp H
  obtain ⟨⟨t224, t225⟩, A130, H⟩ := H
  replace H : (some (t224, t225)) = some (r1, r2) := H
  have A13 := Aside0.mk A130
  clear A130
  simp only [Option.some.injEq, Prod.mk.injEq] at H
  obtain ⟨rfl, rfl⟩ := H
  go_enter Try.func71, Try.ntmps71
  go_wp2_with (first | ((with_reducible refine gate_dst (N := 4) rfl ?_); refine box_event ?hg (N := 4) ?hd (cs := #[.int .u8 a0_0, .int .i64 a0_1, .string a0_2, .string a0_3, .string a0_4, .int .u64 a0_5]) (t := 33) ?hr ?_; (case hd => rfl); (case hg => rfl); (case hr => first | (go_simp; done) | (go_simp; rfl)); intro gb220 hg w14 hbox hb; have n0_ := Aside0.mk (wT bW_ hb); have n1_ := Aside0.mk (hbox); have n2_ := Aside0.mk ((by rw [hg]; exact (wZ bW_) : w.heap.size ≤ gb220)); have n3_ := n2_; clear HB; have HB := n0_; have BK220 := n1_; have GW220 := n2_; have GE220 := n3_; clear n0_ n1_ n2_ n3_; clear hb hbox hg; have hcz15_0 : w14.cell? ⟨gb220, 0, none⟩ = some (.int .u8 a0_0) := (bC BK220.out 0).trans rfl; have hcz15_1 : w14.cell? ⟨gb220, 1, none⟩ = some (.int .i64 a0_1) := (bC BK220.out 1).trans rfl; have hcz15_2 : w14.cell? ⟨gb220, 2, none⟩ = some (.string a0_2) := (bC BK220.out 2).trans rfl; have hcz15_3 : w14.cell? ⟨gb220, 3, none⟩ = some (.string a0_3) := (bC BK220.out 3).trans rfl; have hcz15_4 : w14.cell? ⟨gb220, 4, none⟩ = some (.string a0_4) := (bC BK220.out 4).trans rfl; have hcz15_5 : w14.cell? ⟨gb220, 5, none⟩ = some (.int .u64 a0_5) := (bC BK220.out 5).trans rfl; have hfz15_0 := bF BK220.out 0; have hfz15_1 := bF BK220.out 1; have hfz15_2 := bF BK220.out 2; have hfz15_3 := bF BK220.out 3; have hfz15_4 := bF BK220.out 4; have hfz15_5 := bF BK220.out 5) | ((with_reducible refine gate_callee (f := 101) rfl ?_); refine goesL_ (some 12) rfl rfl Try.func101 (by kernel_rfl) rfl #[.agg #[.int .u8 a0_0, .int .i64 a0_1, .string a0_2, .string a0_3, .string a0_4, .int .u64 a0_5], .string a1] rfl mS_ ?_; (with_reducible refine (msg_Touches.calls a0_0 a0_1 a0_2 a0_3 a0_4 a0_5 a1 false _ A5.out).mono ?_); rintro e w16 ⟨rfl, hb⟩; refine ⟨_, rfl, ?_⟩; have n0_ := Aside0.mk (bB (g := gb220) (o := .cells #[.int .u8 a0_0, .int .i64 a0_1, .string a0_2, .string a0_3, .string a0_4, .int .u64 a0_5] 33 (0, 0)) (bX_ BK220.out) hb); have n1_ := Aside0.mk (wT (by repeat (first | (with_reducible first | exact HB.out | apply wA | apply wN | apply w1 | refine wS ?_ GE220.out) | exact HB.out)) hb); clear BK220; clear HB; have BK220 := n0_; have HB := n1_; clear n0_ n1_; (try clear hb); (try clear hb2); (try clear hk); (try clear hi)) | ((with_reducible refine gate_callee (f := 70) rfl ?_); refine goesL_ (some 17) rfl rfl Try.func70 (by kernel_rfl) rfl #[.agg #[.int .u8 0, .int .i64 0, .string (⟨#[]⟩ : BA), .string (⟨#[]⟩ : BA), .string (⟨#[]⟩ : BA), .int .u64 0], .string a2, .bool a3] rfl mS_ ?_; (with_reducible refine (msg_Apply.calls k 0 0 (⟨#[]⟩ : BA) (⟨#[]⟩ : BA) (⟨#[]⟩ : BA) 0 a2 a3 t224 t225 _ A13.out).mono ?_); rintro e w17 ⟨rfl, hb⟩; refine ⟨_, rfl, ?_⟩; have n0_ := Aside0.mk (bB (g := gb220) (o := .cells #[.int .u8 a0_0, .int .i64 a0_1, .string a0_2, .string a0_3, .string a0_4, .int .u64 a0_5] 33 (0, 0)) (bX_ BK220.out) hb); have n1_ := Aside0.mk (wT (by repeat (first | (with_reducible first | exact HB.out | apply wA | apply wN | apply w1 | refine wS ?_ GE220.out) | exact HB.out)) hb); clear BK220; clear HB; have BK220 := n0_; have HB := n1_; clear n0_ n1_; (try clear hb); (try clear hb2); (try clear hk); (try clear hi)))
  go_ret2
  exact ⟨by first | rfl | (simp [errW_none, errW_some] <;> rfl) | (simp [*, errW_none, errW_some] <;> rfl), by repeat (first | (with_reducible first | exact HB.out | apply wA | apply wN | apply w1 | refine wS ?_ GE220.out) | exact HB.out)⟩
end Go.Proofs.Ytidaiafmhidooaa.P
end
