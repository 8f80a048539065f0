/- Texts of this seat's own and of the kit's print program, of one claim: only what the claim uses (laid by wip/tools/shake.py; Lean checks them). -/
import Derived.Test.YtidaiafmhidooaaZc2
import Derived.Test.YtidaiafmhidooaaZc3
import Derived.Test.YtidaiafmhidooaaZc7
import Derived.Test.YtidaiafmhidooaaZc4
import Derived.Test.YtidaiafmhidooaaZc1
import Derived.Lib.Strings
import Derived.Laws.BitsAllLaws
import Derived.Test.YtidaiafmhidooaaProg
import Derived.StillTailTactics
section
namespace Go.Proofs.Ytidaiafmhidooaa.P
open Go.RowKit Go.Proofs.YtidaiafmhidooaaW.PrintWords Go.Proofs.YtidaiafmhidooaaW.PrintLast Go.Proofs.YtidaiafmhidooaaW.PrintMore Go.Proofs.Ytidaiafmhidooaa.Own
open Go.Proofs.YtidaiafmhidooaaW.PrintWords renaming blk_cell → bC, blk_frozen → bF, blk_drewN → bN, blk_alloc → bA, pw_below_drewN → wN, blk_drew → bD, below_drew1 → w1, below_set → wS, below_alloc → wA, blk_below → bB, below_step → wT, below_size → wZ, blk_far → bR, blk_put → bP
open List renaming setIfInBounds_toArray → sA1, set_cons_zero → sA2, set_cons_succ → sA3, map_toArray → mA1, map_cons → mA2, map_nil → mA3, length_take → mA4, length_drop → mA5
attribute [local go_sem] max2_str max2_int min2_int max_two min_two max_three min_three max_four min_four   -- for this text's walks alone
set_option linter.unusedVariables false
set_option linter.unusedSimpArgs false
def catchmentref05_Find.l0 : Nat → List (S55) → ByteArray → Int → Option (ByteArray × Bool)
 | 0, _, _, _ => none
 | k + 1, x0, x1, x6 => if x6 < (x0.length : Int) then (if 0 ≤ x6 then (if ((rd_T55 x0 x6).f0).toList = x1.toList then (some ((rd_T55 x0 x6).f1, true)) else (catchmentref05_Find.l0 k x0 x1 (wrap64 (x6 + 1)))) else (none)) else (some ((⟨#[]⟩ : BA), false))
def catchmentref05_Find.f (k : Nat) (l0 : List (S55)) (a1 : BA) : Option (ByteArray × Bool) := catchmentref05_Find.l0 k l0 a1 0
set_option maxHeartbeats 8000000 in
set_option maxRecDepth 100000 in
theorem catchmentref05_Find.calls (k : Nat) (A0 : Option Addr) (c0 : Nat) (l0 : List (S55)) (a1 : BA) (r1 : BA) (r2 : Bool) (w : World) (hr0 : Kd.C k55 w A0 l0.length l0) (hc0 : l0.length ≤ c0) (h : catchmentref05_Find.f k l0 a1 = some (r1, r2)) :
  Calls Try.prog 34 #[.slice A0 l0.length c0, .string a1] w fun e w' => e = .returned (.tuple #[.string r1, .bool r2]) ∧ Drawn0 w w' := by
 have HR0 := Aside0.mk hr0
 have HC0 := Aside0.mk hc0
 clear hr0 hc0
 have H : (catchmentref05_Find.l0 k l0 a1 0) = some (r1, r2) := h
 clear h
 have H' := Aside0.mk H
 clear H
 go_enter Try.func34, Try.ntmps34
 go_wp2
 go_loopg [6] k (fun kq v6 w' => ∃ (x6_1 : Int), v6 = .int .i64 x6_1 ∧ Aside0 (catchmentref05_Find.l0 kq l0 a1 x6_1 = some (r1, r2)) ∧ Aside0 (kq ≤ k) ∧ Drawn0 w w')
 case atStart => exact ⟨(0), (by first | rfl | (simp; done) | (simp [*]; done)), H', ⟨Nat.le_refl _⟩, by repeat (first | exact Drawn0.refl _ | apply Drawn0.step)⟩
 case round =>
  clear H'
  try clear p2
  obtain ⟨x6_1, rfl, HA, HK1, ⟨m1, rfl⟩⟩ := hrel
  cases gk with
  | zero => exact absurd HA.out (by simp [catchmentref05_Find.l0])
  | succ k1 =>
   have H := HA.out
   clear HA
   simp only [catchmentref05_Find.l0] at H
   by_cases c3 : x6_1 < (l0.length : Int)
   ·rw [if_pos c3] at H
    have c3b0 : decide (x6_1 < (l0.length : Int)) = true := decide_eq_true c3
    clear c3
    by_cases c4 : 0 ≤ x6_1
    ·rw [if_pos c4] at H
     have c4b0 : decide (0 ≤ x6_1) = true := decide_eq_true c4
     clear c4
     by_cases c5 : ((rd_T55 l0 x6_1).f0).toList = a1.toList
     ·rw [if_pos c5] at H
      have c5b0 : (((rd_T55 l0 x6_1).f0).toList == a1.toList) = true := beq_iff_eq.mpr c5
      have c5b1 : (((rd_T55 l0 x6_1).f0).toList != a1.toList) = false := bne_eq_false_iff_eq.mpr c5
      clear c5
      simp only [Option.some.injEq, Prod.mk.injEq] at H
      obtain ⟨rfl, rfl⟩ := H
      have p363 : 0 ≤ (x6_1 : Int) := of_decide_eq_true (by first | (with_reducible assumption) | assumption)
      have q363 : x6_1 < (l0.length : Int) := of_decide_eq_true (by first | (with_reducible assumption) | assumption)
      obtain ⟨ad363, e363, hx363_0, hx363_1⟩ := at_T55 HR0.out x6_1 p363 q363
      cases e363
      replace p363 := eq_true p363
      replace q363 := eq_true q363
      have p364 : 0 ≤ (x6_1 : Int) := of_decide_eq_true (by first | (with_reducible assumption) | assumption)
      have q364 : x6_1 < (l0.length : Int) := of_decide_eq_true (by first | (with_reducible assumption) | assumption)
      obtain ⟨ad364, e364, hx364_0, hx364_1⟩ := at_T55 HR0.out x6_1 p364 q364
      obtain rfl : ad363 = ad364 := (by injection e364)
      replace p364 := eq_true p364
      replace q364 := eq_true q364
      go_wp2
      go_ret2
      exact ⟨by first | rfl | (simp; done) | (simp [*]; done), by repeat (first | exact Drawn0.refl _ | apply Drawn0.step)⟩
     ·rw [if_neg c5] at H
      have c5b0 : (((rd_T55 l0 x6_1).f0).toList == a1.toList) = false := beq_eq_false_iff_ne.mpr c5
      have c5b1 : (((rd_T55 l0 x6_1).f0).toList != a1.toList) = true := bne_iff_ne.mpr c5
      have H' := Aside0.mk H
      clear H
      have p363 : 0 ≤ (x6_1 : Int) := of_decide_eq_true (by first | (with_reducible assumption) | assumption)
      have q363 : x6_1 < (l0.length : Int) := of_decide_eq_true (by first | (with_reducible assumption) | assumption)
      obtain ⟨ad363, e363, hx363_0, hx363_1⟩ := at_T55 HR0.out x6_1 p363 q363
      cases e363
      replace p363 := eq_true p363
      replace q363 := eq_true q363
      go_wp2
      go_roundg k1
      case measure => have := HK1.out; omega
      case rel => exact ⟨(wrap64 (x6_1 + 1)), (by first | rfl | (simp; done) | (simp [*]; done)), H', ⟨by have := HK1.out; omega⟩, by repeat (first | exact Drawn0.refl _ | apply Drawn0.step)⟩
    ·rw [if_neg c4] at H
     exact absurd H (by simp)
   ·rw [if_neg c3] at H
    have c3b0 : decide (x6_1 < (l0.length : Int)) = false := decide_eq_false c3
    clear c3
    simp only [Option.some.injEq, Prod.mk.injEq] at H
    obtain ⟨rfl, rfl⟩ := H
    go_wp2
    go_ret2
    exact ⟨by first | rfl | (simp; done) | (simp [*]; done), by repeat (first | exact Drawn0.refl _ | apply Drawn0.step)⟩
end Go.Proofs.Ytidaiafmhidooaa.P
end
section
namespace Go.Proofs.Ytidaiafmhidooaa.P
open Go.RowKit Go.Proofs.YtidaiafmhidooaaW.PrintWords Go.Proofs.YtidaiafmhidooaaW.PrintLast Go.Proofs.YtidaiafmhidooaaW.PrintMore Go.Proofs.Ytidaiafmhidooaa.Own
open Go.Proofs.YtidaiafmhidooaaW.PrintWords renaming pw_below_drewN → wN, below_drew1 → w1, below_alloc → wA, below_step → wT, below_size → wZ
open List renaming map_toArray → mA1, map_cons → mA2, map_nil → mA3, length_take → mA4, length_drop → mA5
attribute [local go_sem] max2_str max2_int min2_int max_two min_two max_three min_three max_four min_four   -- for this text's walks alone
set_option linter.unusedVariables false
set_option linter.unusedSimpArgs false
end Go.Proofs.Ytidaiafmhidooaa.P
end
section
namespace Go.Proofs.Ytidaiafmhidooaa.P
open Go.RowKit Go.Proofs.YtidaiafmhidooaaW.PrintWords Go.Proofs.YtidaiafmhidooaaW.PrintLast Go.Proofs.YtidaiafmhidooaaW.PrintMore Go.Proofs.Ytidaiafmhidooaa.Own
open Go.Proofs.YtidaiafmhidooaaW.PrintWords renaming blk_cell → bC, blk_frozen → bF, pw_below_drewN → wN, below_drew1 → w1, below_set → wS, below_alloc → wA, below_step → wT, below_size → wZ
open List renaming map_toArray → mA1, map_cons → mA2, map_nil → mA3, length_take → mA4, length_drop → mA5
attribute [local go_sem] max2_str max2_int min2_int max_two min_two max_three min_three max_four min_four   -- for this text's walks alone
set_option linter.unusedVariables false
set_option linter.unusedSimpArgs false
def fold_Find.l0 : Nat → ByteArray → List (S55) → Int → Int → Option (ByteArray × Bool)
 | 0, _, _, _, _ => none
 | k + 1, x1, x8, x9, x10 => if x10 < x9 then (if 0 ≤ x10 then (if x10 < (x8.length : Int) then (if ((rd_T55 x8 x10).f0).toList = x1.toList then (some ((rd_T55 x8 x10).f1, true)) else (fold_Find.l0 k x1 x8 x9 (wrap64 (x10 + 1)))) else (none)) else (none)) else (some ((⟨#[]⟩ : BA), false))
def fold_Find.f (k : Nat) (l0 : List (S55)) (a1 : BA) : Option (ByteArray × Bool) := fold_Find.l0 k a1 l0 (l0.length : Int) 0
set_option maxHeartbeats 8000000 in
set_option maxRecDepth 100000 in
theorem fold_Find.calls (k : Nat) (A0 : Option Addr) (c0 : Nat) (l0 : List (S55)) (a1 : BA) (r1 : BA) (r2 : Bool) (w : World) (hr0 : Kd.C k55 w A0 l0.length l0) (hc0 : l0.length ≤ c0) (h : fold_Find.f k l0 a1 = some (r1, r2)) :
  Calls Try.prog 35 #[.slice A0 l0.length c0, .string a1] w fun e w' => e = .returned (.tuple #[.string r1, .bool r2]) ∧ Below w.heap.size w w' := by
 have hu55 := Try.underlying55
 have HR0 := Aside0.mk hr0
 have HC0 := Aside0.mk hc0
 clear hr0 hc0
 have HB := Aside0.mk (Below.refl w.heap.size w)
 have H : (fold_Find.l0 k a1 l0 (l0.length : Int) 0) = some (r1, r2) := h
 clear h
 have H' := Aside0.mk H
 clear H
 go_enter Try.func35, Try.ntmps35
 go_wp2
 go_loopg [10] k (fun kq v10 w' => ∃ (x10_1 : Int), v10 = .int .i64 x10_1 ∧ Aside0 (fold_Find.l0 kq a1 l0 (l0.length : Int) x10_1 = some (r1, r2)) ∧ Aside0 (kq ≤ k) ∧ Aside0 (Below w.heap.size w w'))
 case atStart => exact ⟨(0), (by first | rfl | (simp; done) | (simp [*]; done)), H', ⟨Nat.le_refl _⟩, ⟨by repeat (first | (with_reducible first | exact HB.out | apply wA | apply wN | apply w1) | exact HB.out)⟩⟩
 case round =>
  clear H'
  try clear p2
  obtain ⟨x10_1, rfl, HA, HK1, HB⟩ := hrel
  cases gk with
  | zero => exact absurd HA.out (by simp [fold_Find.l0])
  | succ k1 =>
   have H := HA.out
   clear HA
   simp only [fold_Find.l0] at H
   by_cases c3 : x10_1 < (l0.length : Int)
   ·rw [if_pos c3] at H
    have c3b0 : decide (x10_1 < (l0.length : Int)) = true := decide_eq_true c3
    clear c3
    by_cases c4 : 0 ≤ x10_1
    ·rw [if_pos c4] at H
     have c4b0 : decide (0 ≤ x10_1) = true := decide_eq_true c4
     clear c4
     by_cases c5 : x10_1 < (l0.length : Int)
     ·rw [if_pos c5] at H
      have c5b0 : decide (x10_1 < (l0.length : Int)) = true := decide_eq_true c5
      clear c5
      by_cases c6 : ((rd_T55 l0 x10_1).f0).toList = a1.toList
      ·rw [if_pos c6] at H
       have c6b0 : (((rd_T55 l0 x10_1).f0).toList == a1.toList) = true := beq_iff_eq.mpr c6
       have c6b1 : (((rd_T55 l0 x10_1).f0).toList != a1.toList) = false := bne_eq_false_iff_eq.mpr c6
       clear c6
       simp only [Option.some.injEq, Prod.mk.injEq] at H
       obtain ⟨rfl, rfl⟩ := H
       have p516 : 0 ≤ (x10_1 : Int) := of_decide_eq_true (by first | (with_reducible assumption) | assumption)
       have q516 : x10_1 < (l0.length : Int) := of_decide_eq_true (by first | (with_reducible assumption) | assumption)
       obtain ⟨ad516, e516, hx516_0, hx516_1⟩ := at_T55 HR0.out x10_1 p516 q516
       cases e516
       replace hx516_0 := (HB.out.cell (World.block_lt_of_cell? w _ hx516_0)).trans hx516_0
       replace hx516_1 := (HB.out.cell (World.block_lt_of_cell? w _ hx516_1)).trans hx516_1
       replace p516 := eq_true p516
       replace q516 := eq_true q516
       go_wp2_with (first | ((with_reducible refine gate_dst (N := 7) rfl ?_); refine box_event ?hg (N := 7) ?hd (cs := #[.string (⟨#[]⟩ : BA), .string (⟨#[]⟩ : BA)]) (t := 55) ?hr ?_; (case hd => rfl); (case hg => rfl); (case hr => first | (go_simp; done) | (go_simp; rfl)); intro gb517 hg w7 hbox hb; have n0_ := Aside0.mk (wT (by repeat (first | (with_reducible first | exact HB.out | apply wA | apply wN | apply w1) | exact HB.out)) hb); have n1_ := Aside0.mk (hbox); have n2_ := Aside0.mk ((by rw [hg]; exact (wZ (by repeat (first | (with_reducible first | exact HB.out | apply wA | apply wN | apply w1) | exact HB.out))) : w.heap.size ≤ gb517)); have n3_ := n2_; clear HB; have HB := n0_; have BK517 := n1_; have GW517 := n2_; have GE517 := n3_; clear n0_ n1_ n2_ n3_; clear hb hbox hg; have hcz8_0 : w7.cell? ⟨gb517, 0, none⟩ = some (.string (⟨#[]⟩ : BA)) := (bC BK517.out 0).trans rfl; have hcz8_1 : w7.cell? ⟨gb517, 1, none⟩ = some (.string (⟨#[]⟩ : BA)) := (bC BK517.out 1).trans rfl; have hfz8_0 := bF BK517.out 0; have hfz8_1 := bF BK517.out 1))
       go_ret2
       exact ⟨by first | rfl | (simp [errW_none, errW_some] <;> rfl) | (simp [*, errW_none, errW_some] <;> rfl), by repeat (first | (with_reducible first | exact HB.out | apply wA | apply wN | apply w1 | refine wS ?_ GE517.out) | exact HB.out)⟩
      ·rw [if_neg c6] at H
       have c6b0 : (((rd_T55 l0 x10_1).f0).toList == a1.toList) = false := beq_eq_false_iff_ne.mpr c6
       have c6b1 : (((rd_T55 l0 x10_1).f0).toList != a1.toList) = true := bne_iff_ne.mpr c6
       have H' := Aside0.mk H
       clear H
       have p516 : 0 ≤ (x10_1 : Int) := of_decide_eq_true (by first | (with_reducible assumption) | assumption)
       have q516 : x10_1 < (l0.length : Int) := of_decide_eq_true (by first | (with_reducible assumption) | assumption)
       obtain ⟨ad516, e516, hx516_0, hx516_1⟩ := at_T55 HR0.out x10_1 p516 q516
       cases e516
       replace hx516_0 := (HB.out.cell (World.block_lt_of_cell? w _ hx516_0)).trans hx516_0
       replace hx516_1 := (HB.out.cell (World.block_lt_of_cell? w _ hx516_1)).trans hx516_1
       replace p516 := eq_true p516
       replace q516 := eq_true q516
       go_wp2_with (first | ((with_reducible refine gate_dst (N := 7) rfl ?_); refine box_event ?hg (N := 7) ?hd (cs := #[.string (⟨#[]⟩ : BA), .string (⟨#[]⟩ : BA)]) (t := 55) ?hr ?_; (case hd => rfl); (case hg => rfl); (case hr => first | (go_simp; done) | (go_simp; rfl)); intro gb517 hg w9 hbox hb; have n0_ := Aside0.mk (wT (by repeat (first | (with_reducible first | exact HB.out | apply wA | apply wN | apply w1) | exact HB.out)) hb); have n1_ := Aside0.mk (hbox); have n2_ := Aside0.mk ((by rw [hg]; exact (wZ (by repeat (first | (with_reducible first | exact HB.out | apply wA | apply wN | apply w1) | exact HB.out))) : w.heap.size ≤ gb517)); have n3_ := n2_; clear HB; have HB := n0_; have BK517 := n1_; have GW517 := n2_; have GE517 := n3_; clear n0_ n1_ n2_ n3_; clear hb hbox hg; have hcz10_0 : w9.cell? ⟨gb517, 0, none⟩ = some (.string (⟨#[]⟩ : BA)) := (bC BK517.out 0).trans rfl; have hcz10_1 : w9.cell? ⟨gb517, 1, none⟩ = some (.string (⟨#[]⟩ : BA)) := (bC BK517.out 1).trans rfl; have hfz10_0 := bF BK517.out 0; have hfz10_1 := bF BK517.out 1))
       go_roundg k1
       case measure => have := HK1.out; omega
       case rel => exact ⟨(wrap64 (x10_1 + 1)), (by first | rfl | (simp; done) | (simp [*]; done)), H', ⟨by have := HK1.out; omega⟩, ⟨by repeat (first | (with_reducible first | exact HB.out | apply wA | apply wN | apply w1 | refine wS ?_ GE517.out) | exact HB.out)⟩⟩
     ·rw [if_neg c5] at H
      exact absurd H (by simp)
    ·rw [if_neg c4] at H
     exact absurd H (by simp)
   ·rw [if_neg c3] at H
    have c3b0 : decide (x10_1 < (l0.length : Int)) = false := decide_eq_false c3
    clear c3
    simp only [Option.some.injEq, Prod.mk.injEq] at H
    obtain ⟨rfl, rfl⟩ := H
    go_wp2
    go_ret2
    exact ⟨by first | rfl | (simp [errW_none, errW_some] <;> rfl) | (simp [*, errW_none, errW_some] <;> rfl), by repeat (first | (with_reducible first | exact HB.out | apply wA | apply wN | apply w1) | exact HB.out)⟩
def fold_Rises.l0 : Nat → List (S55) → Int → Int → Option (Bool)
 | 0, _, _, _ => none
 | k + 1, x0, x5, x6 => if x6 < x5 then (if x6 > 0 then (if 0 ≤ (wrap64 (x6 - 1)) then (if (wrap64 (x6 - 1)) < (x0.length : Int) then (if 0 ≤ x6 then (if x6 < (x0.length : Int) then (if ((Op.bytesLess (((rd_T55 x0 (wrap64 (x6 - 1))).f0).toList) (((rd_T55 x0 x6).f0).toList)) = true) then (fold_Rises.l0 k x0 x5 (wrap64 (x6 + 1))) else (some false)) else (none)) else (none)) else (none)) else (none)) else (fold_Rises.l0 k x0 x5 (wrap64 (x6 + 1)))) else (some true)
def fold_Rises.f (k : Nat) (l0 : List (S55)) : Option (Bool) := fold_Rises.l0 k l0 (l0.length : Int) 0
set_option maxHeartbeats 8000000 in
set_option maxRecDepth 100000 in
theorem fold_Rises.calls (k : Nat) (A0 : Option Addr) (c0 : Nat) (l0 : List (S55)) (r : Bool) (w : World) (hr0 : Kd.C k55 w A0 l0.length l0) (hc0 : l0.length ≤ c0) (h : fold_Rises.f k l0 = some r) :
  Calls Try.prog 36 #[.slice A0 l0.length c0] w fun e w' => e = .returned (.bool r) ∧ Drawn0 w w' := by
 have HR0 := Aside0.mk hr0
 have HC0 := Aside0.mk hc0
 clear hr0 hc0
 have H : (fold_Rises.l0 k l0 (l0.length : Int) 0) = some r := h
 clear h
 have H' := Aside0.mk H
 clear H
 go_enter Try.func36, Try.ntmps36
 go_wp2
 repeat (go_quiet (fail); try go_wp2)
 go_loopg [6] k (fun kq v6 w' => ∃ (x6_1 : Int), v6 = .int .i64 x6_1 ∧ Aside0 (fold_Rises.l0 kq l0 (l0.length : Int) x6_1 = some r) ∧ Aside0 (kq ≤ k) ∧ Drawn0 w w')
 case atStart => exact ⟨(0), (by first | rfl | (simp; done) | (simp [*]; done)), H', ⟨Nat.le_refl _⟩, by repeat (first | exact Drawn0.refl _ | apply Drawn0.step)⟩
 case round =>
  clear H'
  obtain ⟨x6_1, rfl, HA, HK1, ⟨m1, rfl⟩⟩ := hrel
  cases gk with
  | zero => exact absurd HA.out (by simp [fold_Rises.l0])
  | succ k1 =>
   have H := HA.out
   clear HA
   simp only [fold_Rises.l0] at H
   by_cases c2 : x6_1 < (l0.length : Int)
   ·rw [if_pos c2] at H
    have c2b0 : decide (x6_1 < (l0.length : Int)) = true := decide_eq_true c2
    clear c2
    by_cases c3 : x6_1 > 0
    ·rw [if_pos c3] at H
     have c3b0 : decide (0 < x6_1) = true := decide_eq_true c3
     clear c3
     obtain ⟨ji4, hji4⟩ : ∃ j_ : Int, (wrap64 (x6_1 - 1)) = j_ := ⟨_, rfl⟩
     replace H : (if 0 ≤ (ji4) then (if (ji4) < (l0.length : Int) then (if 0 ≤ x6_1 then (if x6_1 < (l0.length : Int) then (if ((Op.bytesLess (((rd_T55 l0 (ji4)).f0).toList) (((rd_T55 l0 x6_1).f0).toList)) = true) then (fold_Rises.l0 k1 l0 (l0.length : Int) (wrap64 (x6_1 + 1))) else (some false)) else (none)) else (none)) else (none)) else (none)) = some r := by first | (rw [hji4] at H; exact H) | (simp only [hji4] at H ⊢; exact H)
     have hji4w : (IntKind.i64.wrap (x6_1 - 1)) = ji4 := (i64_w _).trans hji4
     by_cases c5 : 0 ≤ (ji4)
     ·rw [if_pos c5] at H
      have c5b0 : decide (0 ≤ (ji4)) = true := decide_eq_true c5
      clear c5
      by_cases c6 : (ji4) < (l0.length : Int)
      ·rw [if_pos c6] at H
       have c6b0 : decide ((ji4) < (l0.length : Int)) = true := decide_eq_true c6
       clear c6
       by_cases c7 : 0 ≤ x6_1
       ·rw [if_pos c7] at H
        have c7b0 : decide (0 ≤ x6_1) = true := decide_eq_true c7
        clear c7
        by_cases c8 : x6_1 < (l0.length : Int)
        ·rw [if_pos c8] at H
         have c8b0 : decide (x6_1 < (l0.length : Int)) = true := decide_eq_true c8
         clear c8
         by_cases c9 : ((Op.bytesLess (((rd_T55 l0 (ji4)).f0).toList) (((rd_T55 l0 x6_1).f0).toList)) = true)
         ·rw [if_pos c9] at H
          have c9b0 : (Op.bytesLess (((rd_T55 l0 (ji4)).f0).toList) (((rd_T55 l0 x6_1).f0).toList)) = true := c9
          clear c9
          have H' := Aside0.mk H
          clear H
          have p518 : 0 ≤ ((ji4) : Int) := of_decide_eq_true (by first | (with_reducible assumption) | assumption)
          have q518 : (ji4) < (l0.length : Int) := of_decide_eq_true (by first | (with_reducible assumption) | assumption)
          obtain ⟨ad518, e518, hx518_0, hx518_1⟩ := at_T55 HR0.out (ji4) p518 q518
          cases e518
          replace p518 := eq_true p518
          replace q518 := eq_true q518
          have p519 : 0 ≤ (x6_1 : Int) := of_decide_eq_true (by first | (with_reducible assumption) | assumption)
          have q519 : x6_1 < (l0.length : Int) := of_decide_eq_true (by first | (with_reducible assumption) | assumption)
          obtain ⟨ad519, e519, hx519_0, hx519_1⟩ := at_T55 HR0.out x6_1 p519 q519
          obtain rfl : ad518 = ad519 := (by injection e519)
          replace p519 := eq_true p519
          replace q519 := eq_true q519
          go_wp2
          repeat (go_quiet (fail); try go_wp2)
          go_roundg k1
          case measure => have := HK1.out; omega
          case rel => exact ⟨(wrap64 (x6_1 + 1)), (by first | rfl | (simp; done) | (simp [*]; done)), H', ⟨by have := HK1.out; omega⟩, by repeat (first | exact Drawn0.refl _ | apply Drawn0.step)⟩
         ·rw [if_neg c9] at H
          have c9b0 : (Op.bytesLess (((rd_T55 l0 (ji4)).f0).toList) (((rd_T55 l0 x6_1).f0).toList)) = false := by simpa using c9
          clear c9
          obtain rfl := Option.some.inj H
          have p518 : 0 ≤ ((ji4) : Int) := of_decide_eq_true (by first | (with_reducible assumption) | assumption)
          have q518 : (ji4) < (l0.length : Int) := of_decide_eq_true (by first | (with_reducible assumption) | assumption)
          obtain ⟨ad518, e518, hx518_0, hx518_1⟩ := at_T55 HR0.out (ji4) p518 q518
          cases e518
          replace p518 := eq_true p518
          replace q518 := eq_true q518
          have p519 : 0 ≤ (x6_1 : Int) := of_decide_eq_true (by first | (with_reducible assumption) | assumption)
          have q519 : x6_1 < (l0.length : Int) := of_decide_eq_true (by first | (with_reducible assumption) | assumption)
          obtain ⟨ad519, e519, hx519_0, hx519_1⟩ := at_T55 HR0.out x6_1 p519 q519
          obtain rfl : ad518 = ad519 := (by injection e519)
          replace p519 := eq_true p519
          replace q519 := eq_true q519
          go_wp2
          repeat (go_quiet (fail); try go_wp2)
          go_ret
          exact ⟨by first | rfl | (simp; done) | (simp only [← hji4] <;> (first | rfl | simp)) | (simp [*]; done), by repeat (first | exact Drawn0.refl _ | apply Drawn0.step)⟩
        ·rw [if_neg c8] at H
         exact absurd H (by simp)
       ·rw [if_neg c7] at H
        exact absurd H (by simp)
      ·rw [if_neg c6] at H
       exact absurd H (by simp)
     ·rw [if_neg c5] at H
      exact absurd H (by simp)
    ·rw [if_neg c3] at H
     have c3b0 : decide (0 < x6_1) = false := decide_eq_false c3
     clear c3
     have H' := Aside0.mk H
     clear H
     go_wp2
     repeat (go_quiet (fail); try go_wp2)
     go_roundg k1
     case measure => have := HK1.out; omega
     case rel => exact ⟨(wrap64 (x6_1 + 1)), (by first | rfl | (simp; done) | (simp [*]; done)), H', ⟨by have := HK1.out; omega⟩, by repeat (first | exact Drawn0.refl _ | apply Drawn0.step)⟩
   ·rw [if_neg c2] at H
    have c2b0 : decide (x6_1 < (l0.length : Int)) = false := decide_eq_false c2
    clear c2
    obtain rfl := Option.some.inj H
    go_wp2
    repeat (go_quiet (fail); try go_wp2)
    go_ret
    exact ⟨by first | rfl | (simp; done) | (simp [*]; done), by repeat (first | exact Drawn0.refl _ | apply Drawn0.step)⟩
end Go.Proofs.Ytidaiafmhidooaa.P
end
section
namespace Go.Proofs.Ytidaiafmhidooaa.P
open Go.RowKit Go.Proofs.YtidaiafmhidooaaW.PrintWords Go.Proofs.YtidaiafmhidooaaW.PrintLast Go.Proofs.YtidaiafmhidooaaW.PrintMore Go.Proofs.Ytidaiafmhidooaa.Own
open Go.Proofs.YtidaiafmhidooaaW.PrintWords renaming pw_below_drewN → wN, below_drew1 → w1, below_alloc → wA, below_step → wT, below_size → wZ
open List renaming map_toArray → mA1, map_cons → mA2, map_nil → mA3, length_take → mA4, length_drop → mA5
attribute [local go_sem] max2_str max2_int min2_int max_two min_two max_three min_three max_four min_four   -- for this text's walks alone
set_option linter.unusedVariables false
set_option linter.unusedSimpArgs false
attribute [local go_sem high] eqA33
end Go.Proofs.Ytidaiafmhidooaa.P
end
section
set_option linter.unusedVariables false
set_option linter.unusedSimpArgs false
namespace Go.Proofs.Ytidaiafmhidooaa.P
open Go.RowKit Go.Proofs.YtidaiafmhidooaaW.PrintWords Go.Proofs.YtidaiafmhidooaaW.PrintLast Go.Proofs.YtidaiafmhidooaaW.PrintMore Go.Proofs.Ytidaiafmhidooaa.Own Go.Proofs.Ytidaiafmhidooaa
theorem ba_ext {a b : ByteArray} (h : a.toList = b.toList) : a = b := by
  rw [Lib.toList_data, Lib.toList_data] at h
  cases a; cases b
  simp only [ByteArray.mk.injEq]
  exact Array.toList_inj.1 h
theorem ba_eq {a b : ByteArray} : a.toList = b.toList ↔ a = b := ⟨ba_ext, fun h => by rw [h]⟩
theorem ba_mk (l : Array UInt8) : (⟨l⟩ : ByteArray).toList = l.toList := by rw [Lib.toList_data]
end Go.Proofs.Ytidaiafmhidooaa.P
end
section
set_option linter.unusedVariables false
set_option linter.unusedSimpArgs false
namespace Go.Proofs.Ytidaiafmhidooaa.P
open Go.RowKit Go.Proofs.YtidaiafmhidooaaW.PrintWords Go.Proofs.YtidaiafmhidooaaW.PrintLast Go.Proofs.YtidaiafmhidooaaW.PrintMore Go.Proofs.Ytidaiafmhidooaa.Own Go.Proofs.Ytidaiafmhidooaa
def lt (a b : ByteArray) : Bool := Op.bytesLess a.toList b.toList
def emp (a : ByteArray) : Bool := decide (a.toList = [])
def same (a b : ByteArray) : Bool := decide (a.toList = b.toList)
abbrev e0 : ByteArray := ⟨#[]⟩
theorem emp_e0 : emp e0 = true := by simp [emp, ba_mk]
theorem same_iff {a b : ByteArray} : same a b = true ↔ a = b := by simp [same, ba_eq]
theorem emp_iff {a : ByteArray} : emp a = true ↔ a = e0 := by
  have h : (e0 : ByteArray).toList = [] := by simp [ba_mk]
  simp only [emp, decide_eq_true_eq]
  exact ⟨fun h2 => ba_ext (h2.trans h.symm), fun h2 => by rw [h2]; exact h⟩
def isPt (k : Int) : Bool := decide (k = 1 ∨ k = 2 ∨ k = 3)
def rr (f t : ByteArray) : Bool := emp t || lt f t
def holds (f t s : ByteArray) : Bool := !lt s f && (emp t || lt s t)
def before (a b : ByteArray) : Bool := !emp a && (emp b || lt a b)
def succB (a : ByteArray) : ByteArray := a ++ ⟨#[0]⟩
def span (k : Int) (y t : ByteArray) : ByteArray × ByteArray := if isPt k = true then (y, succB y) else if k = 4 then (y, t) else (e0, e0)
theorem lt_irrefl (a : ByteArray) : lt a a = false := Bo.irrefl _
theorem lt_trans {a b c : ByteArray} (h : lt a b = true) (k : lt b c = true) : lt a c = true := Bo.trans h k
theorem lt_tri (a b : ByteArray) : lt a b = true ∨ a = b ∨ lt b a = true := by
  rcases Bo.le_or a.toList b.toList with h | h | h
  · exact .inl h
  · exact .inr (.inl (ba_ext h))
  · exact .inr (.inr h)
theorem le_trans {s b c : ByteArray} (h : lt s b = false) (k : lt b c = false) : lt s c = false := by
  cases q : lt s c with
  | false => rfl
  | true =>
    rcases lt_tri s b with h1 | h1 | h1
    · rw [h] at h1; cases h1
    · subst h1; rw [k] at q; cases q
    · rw [lt_trans h1 q] at k; cases k
theorem lt_emp {a b : ByteArray} (h : lt a b = true) : emp b = false := by
  cases q : emp b with
  | false => rfl
  | true =>
    rw [emp_iff.1 q] at h
    unfold lt at h
    rw [show (e0 : ByteArray).toList = [] from by simp [ba_mk], Bo.nil_right] at h
    cases h
def ah (s t : ByteArray) : Bool := emp t || lt s t
theorem holds_def (y t s : ByteArray) : holds y t s = (!lt s y && ah s t) := rfl
theorem ah_lt {s t x : ByteArray} (h : lt s x = true) (k : ah x t = true) : ah s t = true := by
  unfold ah at *
  cases he : emp t
  · rw [he] at k
    simp only [Bool.false_or] at k ⊢
    exact lt_trans h k
  · rfl
def norm (v : ByteArray) (is : Bool) : ByteArray := if is = true then v else e0
end Go.Proofs.Ytidaiafmhidooaa.P
end
section
set_option linter.unusedVariables false
set_option linter.unusedSimpArgs false
namespace Go.Proofs.Ytidaiafmhidooaa.P
open Go.RowKit Go.Proofs.YtidaiafmhidooaaW.PrintWords Go.Proofs.YtidaiafmhidooaaW.PrintLast Go.Proofs.YtidaiafmhidooaaW.PrintMore Go.Proofs.Ytidaiafmhidooaa.Own Go.Proofs.Ytidaiafmhidooaa
def eight (n : Int) : List Int := [n / 72057594037927936 % 256, n / 281474976710656 % 256, n / 1099511627776 % 256, n / 4294967296 % 256, n / 16777216 % 256, n / 65536 % 256, n / 256 % 256, n % 256]
def valN (s : ByteArray) : Nat → Int
  | 0 => 0
  | n + 1 => valN s n * 256 + bt s n
theorem valN_range (s : ByteArray) (n : Nat) : 0 ≤ valN s n ∧ valN s n < 256 ^ n := by
  induction n with
  | zero => simp [valN]
  | succ n ih =>
    have := bt_range s n
    simp only [valN, Int.pow_succ]
    omega
theorem pow_le : ∀ n : Nat, n < 8 → (256 : Int) ^ n ≤ 72057594037927936 := by decide
def addV (v : ByteArray) (is : Bool) (d : Int) : ByteArray :=
  if is = true then (if v.size = 8 then strOfNums (eight (IntKind.u64.wrap (valN v 8 + d))) else v) else strOfNums (eight d)
def touches (k : Int) (y t s : ByteArray) : Bool := (isPt k && same y s) || (decide (k = 4) && holds y t s)
def applyV (k : Int) (vv : ByteArray) (d : Int) (v : ByteArray) (is : Bool) : ByteArray × Bool :=
  if k = 1 then (vv, true) else if k = 3 then (addV v is d, true) else if k = 2 ∨ k = 4 then (e0, false) else if is = true then (v, true) else (e0, false)
def onV (k : Int) (y t vv : ByteArray) (d : Int) (s v : ByteArray) (is : Bool) : ByteArray × Bool :=
  if touches k y t s = true then applyV k vv d v is else if is = true then (v, true) else (e0, false)
end Go.Proofs.Ytidaiafmhidooaa.P
end
section
namespace Go.Proofs.Ytidaiafmhidooaa.P
open Go.RowKit Go.Proofs.YtidaiafmhidooaaW.PrintWords Go.Proofs.YtidaiafmhidooaaW.PrintLast Go.Proofs.YtidaiafmhidooaaW.PrintMore Go.Proofs.Ytidaiafmhidooaa.Own
open Bool renaming true → YY, false → ZZ
open Go.Proofs.YtidaiafmhidooaaW.PrintWords renaming blk_cell → bC, blk_frozen → bF, blk_drewN → bN, blk_alloc → bA, pw_below_drewN → wN, blk_drew → bD, below_drew1 → w1, below_set → wS, below_alloc → wA, blk_below → bB, below_step → wT, below_size → wZ
open List renaming setIfInBounds_toArray → sA1, set_cons_zero → sA2, set_cons_succ → sA3, map_toArray → mA1, map_cons → mA2, map_nil → mA3, length_take → mA4, length_drop → mA5
attribute [local go_sem] max2_str max2_int min2_int max_two min_two max_three min_three max_four min_four   -- for this text's walks alone
set_option linter.unusedVariables false
set_option linter.unusedSimpArgs false
end Go.Proofs.Ytidaiafmhidooaa.P
end
section
set_option linter.unusedVariables false
set_option linter.unusedSimpArgs false
namespace Go.Proofs.Ytidaiafmhidooaa.P
open Go.RowKit Go.Proofs.YtidaiafmhidooaaW.PrintWords Go.Proofs.YtidaiafmhidooaaW.PrintLast Go.Proofs.YtidaiafmhidooaaW.PrintMore Go.Proofs.Ytidaiafmhidooaa.Own Go.Proofs.Ytidaiafmhidooaa
abbrev Ms := S33
abbrev En := S55
theorem drop_any {α : Type} {L l : List α} {i : Nat} {x : α} (hd : L.drop i = x :: l) : i < L.length ∧ L[i]? = some x ∧ L.drop (i + 1) = l ∧ L.take (i + 1) = L.take i ++ [x] ∧ x ∈ L := by
  have hlt : i < L.length := by
    rcases Nat.lt_or_ge i L.length with h | h
    · exact h
    · rw [List.drop_eq_nil_of_le h] at hd; cases hd
  have hx : L[i]? = some x := by
    have := congrArg (fun z => z[0]?) hd
    simpa using this
  refine ⟨hlt, hx, ?_, ?_, List.mem_of_getElem? hx⟩
  · have := congrArg (List.drop 1) hd
    simpa [List.drop_drop] using this
  · rw [List.take_add_one, hx]; rfl
theorem drop_none {α : Type} {L : List α} {i : Nat} (hd : L.drop i = []) (hi : i ≤ L.length) : i = L.length := by
  have := congrArg List.length hd
  simp at this
  omega
theorem rdS_at {L : List ByteArray} {i : Nat} {x : ByteArray} (h : L[i]? = some x) : rdOf ByteArray.empty L (i : Int) = x := by
  show L.getD ((i : Int).toNat) _ = x
  rw [Int.toNat_natCast, List.getD_eq_getElem?_getD, h]; rfl
theorem rdE_at {L : List En} {i : Nat} {x : En} (h : L[i]? = some x) : rd_T55 L (i : Int) = x := by
  show L.getD ((i : Int).toNat) _ = x
  rw [Int.toNat_natCast, List.getD_eq_getElem?_getD, h]; rfl
theorem wrap1 {i : Nat} (h : i ≤ 1000000) : wrap64 ((i : Int) + 1) = ((i + 1 : Nat) : Int) := by rw [IntWalk.wrap64_in _ (by omega)]; omega
def intoV : List ByteArray → ByteArray → List ByteArray
  | [], s => [s]
  | x :: l, s => if lt x s = true then x :: intoV l s else if same x s = true then x :: l else s :: x :: l
theorem intoV_length (s : ByteArray) : ∀ L : List ByteArray, (intoV L s).length ≤ L.length + 1
  | [] => by simp [intoV]
  | x :: l => by
    have := intoV_length s l
    simp only [intoV]
    split
    · simp; omega
    · split <;> simp
def keysFrom : List ByteArray → List Ms → List ByteArray
  | o, [] => o
  | o, m :: l => keysFrom (if isPt m.f0 = true then intoV o m.f2 else o) l
def keysV (l : List Ms) : List ByteArray := keysFrom [] l
theorem keysFrom_length : ∀ (l : List Ms) (o : List ByteArray), (keysFrom o l).length ≤ o.length + l.length
  | [], o => by simp [keysFrom]
  | m :: l, o => by
    have h1 := keysFrom_length l (if isPt m.f0 = true then intoV o m.f2 else o)
    have h2 := intoV_length m.f2 o
    simp only [keysFrom, List.length_cons]
    by_cases h : isPt m.f0 = true
    · rw [if_pos h] at h1 ⊢; omega
    · rw [if_neg h] at h1 ⊢; omega
def addKeys : List ByteArray → List En → List ByteArray
  | o, [] => o
  | o, x :: l => addKeys (intoV o x.f0) l
def namedV (l : List Ms) (e : List En) : List ByteArray := addKeys (keysV l) e
theorem addKeys_length : ∀ (l : List En) (o : List ByteArray), (addKeys o l).length ≤ o.length + l.length
  | [], o => by simp [addKeys]
  | x :: l, o => by
    have h1 := addKeys_length l (intoV o x.f0)
    have h2 := intoV_length x.f0 o
    simp only [addKeys, List.length_cons]
    omega
theorem namedV_length (l : List Ms) (e : List En) : (namedV l e).length ≤ l.length + e.length := by
  have h1 := addKeys_length e (keysV l)
  have h2 := keysFrom_length l []
  unfold namedV
  unfold keysV at h1 ⊢
  simp at h2
  omega
def findV : List En → ByteArray → ByteArray × Bool
  | [], _ => (e0, false)
  | x :: l, s => if same x.f0 s = true then (x.f1, true) else findV l s
theorem Find_loop (L : List En) (s : ByteArray) (hL : L.length ≤ 1000000) : ∀ (l : List En) (k i : Nat), L.drop i = l → i ≤ L.length → l.length < k → catchmentref05_Find.l0 k L s i = some (findV l s) := by
  intro l
  induction l with
  | nil =>
    intro k i hd hi hk
    obtain ⟨k, rfl⟩ : ∃ m, k = m + 1 := ⟨k - 1, by omega⟩
    obtain rfl := drop_none hd hi
    rw [catchmentref05_Find.l0, if_neg (by omega)]
    rfl
  | cons x l ih =>
    intro k i hd hi hk
    simp only [List.length_cons] at hk
    obtain ⟨k, rfl⟩ : ∃ m, k = m + 1 := ⟨k - 1, by omega⟩
    obtain ⟨hlt, hx, hd2, _, _⟩ := drop_any hd
    rw [catchmentref05_Find.l0, if_pos (by omega), if_pos (by omega), rdE_at hx, wrap1 (by omega), ih k (i + 1) hd2 (by omega) (by omega)]
    have hs : same x.f0 s = decide (x.f0.toList = s.toList) := rfl
    simp only [findV]
    by_cases h : x.f0.toList = s.toList
    · rw [if_pos h, if_pos (by simpa [hs] using h)]
    · rw [if_neg h, if_neg (by simpa [hs] using h)]
theorem Find_eq (k : Nat) (e : List En) (s : ByteArray) (he : e.length ≤ 1000000) (hk : e.length < k) : catchmentref05_Find.f k e s = some (findV e s) :=
  Find_loop e s he e k 0 rfl (by omega) hk
def onM (m : Ms) (s : ByteArray) (p : ByteArray × Bool) : ByteArray × Bool := onV m.f0 m.f2 m.f3 m.f4 m.f5 s p.1 p.2
def doAll (s : ByteArray) : List Ms → ByteArray × Bool → ByteArray × Bool
  | [], p => p
  | m :: l, p => doAll s l (onM m s p)
def valueV (l : List Ms) (s v : ByteArray) (is : Bool) : ByteArray × Bool := doAll s l (norm v is, is)
def okD (m : Ms) : Prop := 0 ≤ m.f5 ∧ m.f5 < 18446744073709551616
theorem ref02_Holds_eq (f t s : ByteArray) : catchmentref02_Holds.f f t s = some (holds f t s) := by
  unfold catchmentref02_Holds.f holds lt emp
  cases Op.bytesLess s.toList f.toList
  · by_cases ht : t.toList = [] <;> simp [ht]
  · rfl
def entryOf (l : List Ms) (e : List En) (f t s : ByteArray) : Option En :=
  let p := valueV l s (findV e s).1 (findV e s).2
  if (p.2 && rr f t && holds f t s) = true then some ⟨s, p.1⟩ else none
def entriesV (l : List Ms) (e : List En) (f t : ByteArray) : List En := (namedV l e).filterMap (entryOf l e f t)
theorem filterMap_length_le {α β : Type} (g : α → Option β) (l : List α) : (l.filterMap g).length ≤ l.length := List.length_filterMap_le g l
theorem entriesV_length (l : List Ms) (e : List En) (f t : ByteArray) : (entriesV l e f t).length ≤ l.length + e.length :=
  Nat.le_trans (filterMap_length_le _ _) (namedV_length l e)
def risesV : List En → Bool
  | [] => true
  | [_] => true
  | x :: y :: l => lt x.f0 y.f0 && risesV (y :: l)
end Go.Proofs.Ytidaiafmhidooaa.P
end
section
namespace Go.Proofs.Ytidaiafmhidooaa.Ord
open Go.RowKit Go.Proofs.YtidaiafmhidooaaW.PrintWords Go.Proofs.YtidaiafmhidooaaW.PrintLast
structure Fr (B : List Nat) (w w' : World) : Prop where
  os : w'.os = w.os
  tape : w'.tape = w.tape
  output : w'.output = w.output
  size : w.heap.size ≤ w'.heap.size
  block : ∀ k, k < w.heap.size → k ∉ B → w'.heap[k]? = w.heap[k]?
namespace Fr
theorem refl (B : List Nat) (w : World) : Fr B w w := ⟨rfl, rfl, rfl, Nat.le_refl _, fun _ _ _ => rfl⟩
theorem of_below {B : List Nat} {w w' : World} (h : Below w.heap.size w w') : Fr B w w' := ⟨h.os, h.tape, h.output, h.size, fun k hk _ => h.block k hk⟩
theorem wide {B B' : List Nat} {w w' : World} (h : Fr B w w') (hB : ∀ k ∈ B, k ∈ B' ∨ w.heap.size ≤ k) : Fr B' w w' :=
  ⟨h.os, h.tape, h.output, h.size, fun k hk hn => h.block k hk (fun hb => by rcases hB k hb with h1 | h1; exact hn h1; omega)⟩
theorem trans {B C : List Nat} {w w1 w2 : World} (h : Fr B w w1) (k : Fr C w1 w2) (hC : ∀ x ∈ C, x ∈ B ∨ w.heap.size ≤ x) : Fr B w w2 :=
  ⟨k.os.trans h.os, k.tape.trans h.tape, k.output.trans h.output, Nat.le_trans h.size k.size, fun x hx hn =>
    (k.block x (Nat.lt_of_lt_of_le hx h.size) (fun hc => by rcases hC x hc with h1 | h1; exact hn h1; omega)).trans (h.block x hx hn)⟩
theorem drewN {B : List Nat} {w w' : World} (h : Fr B w w') (n : Nat) : Fr B w (w'.drewN n) := ⟨h.os, h.tape, h.output, h.size, h.block⟩
theorem drew {B : List Nat} {w w' : World} (h : Fr B w w') : Fr B w w'.drew := ⟨h.os, h.tape, h.output, h.size, h.block⟩
theorem set {B : List Nat} {w w' : World} (h : Fr B w w') {b i : Nat} (hb : b ∈ B ∨ w.heap.size ≤ b) (u : Value) : Fr B w (w'.setCell ⟨b, i, none⟩ u) := by
  have h2 := (Below.refl 0 w').setCell (p := ⟨b, i, none⟩) (Nat.zero_le _) u
  exact ⟨h2.os.trans h.os, h2.tape.trans h.tape, h2.output.trans h.output, Nat.le_trans h.size h2.size, fun x hx hn => by
    rw [Below.heap_setCell w' ⟨b, i, none⟩ u x (by rintro rfl; rcases hb with h1 | h1; exact hn h1; exact absurd hx (by simpa using h1))]
    exact h.block x hx hn⟩
theorem alloc {B : List Nat} {w w' : World} (h : Fr B w w') (o : Obj) : Fr B w (w'.alloc o) := by
  have h2 := (Below.refl w'.heap.size w').alloc (Nat.le_refl _) o
  exact h.trans (of_below (B := []) h2) (fun x hx => by cases hx)
theorem below {B : List Nat} {w w' : World} {base : Nat} (h : Fr B w w') (hB : ∀ k ∈ B, base ≤ k) (hb : base ≤ w.heap.size) : Below base w w' :=
  ⟨h.os, h.tape, h.output, h.size, fun k hk => h.block k (by omega) (fun hm => by have := hB k hm; omega)⟩
theorem blk {B : List Nat} {w w' : World} (h : Fr B w w') {g : Nat} {o : Obj} (hg : w.heap[g]? = some o) (hn : g ∉ B) : w'.heap[g]? = some o := (h.block g (blk_lt hg) hn).trans hg
end Fr
theorem still_tail {P : Program} {id : Nat} {Q : Exit → Act → World → Prop} {a : Act} {w : World} {l : List Oper} (n : Nat) (hm : P.follows .mixedOrders = true) (hB : Region.lexTailB .any l.toArray n = true)
    (h : ∀ W, W = w.drew → wpStill P l.toArray W (fun a' => wpList P l.toArray Q (l.drop n) a' W) (l.take n) a) : (Code.region id l.toArray true).wp P Q a w :=
  wp_region_still_tail n hm hB (h _ rfl)
theorem still_all {P : Program} {id : Nat} {Q : Exit → Act → World → Prop} {a : Act} {w : World} {l : List Oper} (hm : P.follows .mixedOrders = true) (hB : Region.lexB .any l.toArray = true)
    (h : ∀ W, W = w.drew → wpStill P l.toArray W (fun a' => Q .normal a' W) l a) : (Code.region id l.toArray true).wp P Q a w :=
  wp_region_still_lit hm hB (h _ rfl)
inductive Kn (K V : Type) where
  | nil : Kn K V
  | node (b : Nat) (k : K) (v : V) (l r : Kn K V) : Kn K V
namespace Kn
variable {K V : Type}
def adr : Kn K V → Option Addr
  | nil => none
  | node b _ _ _ _ => some ⟨b, 0, none⟩
def bs : Kn K V → List Nat
  | nil => []
  | node b _ _ l r => b :: (l.bs ++ r.bs)
def hgt : Kn K V → Int
  | nil => 0
  | node _ _ _ l r => 1 + mx l.hgt r.hgt
def cnt : Kn K V → Int
  | nil => 0
  | node _ _ _ l r => 1 + l.cnt + r.cnt
def toL : Kn K V → List (K × V)
  | nil => []
  | node _ k v l r => l.toL ++ (k, v) :: r.toL
theorem bounds : ∀ T : Kn K V, 0 ≤ T.hgt ∧ T.hgt ≤ T.cnt
  | nil => by simp [hgt, cnt]
  | node _ _ _ l r => by
    have := bounds l; have := bounds r
    simp only [hgt, cnt, mx]
    split <;> omega
theorem cnt_len : ∀ T : Kn K V, T.cnt = T.toL.length
  | nil => rfl
  | node _ _ _ l r => by simp only [cnt, toL, List.length_append, List.length_cons, cnt_len l, cnt_len r]; omega
theorem bs_len : ∀ T : Kn K V, T.bs.length = T.toL.length
  | nil => rfl
  | node _ _ _ l r => by simp only [bs, toL, List.length_append, List.length_cons, bs_len l, bs_len r]; omega
def up : Kn K V → Kn K V
  | node b k v l (node hb hk hv hl hr) => node hb hk hv (node b k v l hl) hr
  | T => T
def down : Kn K V → Kn K V
  | node b k v (node lb lk lv ll lr) r => node lb lk lv ll (node b k v lr r)
  | T => T
def even (b : Nat) (k : K) (v : V) (l r : Kn K V) : Kn K V :=
  if l.hgt - r.hgt > 1 then
    match l with
    | node _ _ _ ll lr => if ll.hgt < lr.hgt then down (node b k v (up l) r) else down (node b k v l r)
    | nil => node b k v l r
  else if l.hgt - r.hgt < -1 then
    match r with
    | node _ _ _ rl rr => if rr.hgt < rl.hgt then up (node b k v l (down r)) else up (node b k v l r)
    | nil => node b k v l r
  else node b k v l r
theorem up_toL : ∀ T : Kn K V, (up T).toL = T.toL
  | nil => rfl
  | node _ _ _ _ nil => rfl
  | node _ _ _ _ (node ..) => by simp [up, toL]
theorem down_toL : ∀ T : Kn K V, (down T).toL = T.toL
  | nil => rfl
  | node _ _ _ nil _ => rfl
  | node _ _ _ (node ..) _ => by simp [down, toL]
theorem up_bs : ∀ T : Kn K V, (up T).bs.Perm T.bs
  | nil => .refl _
  | node _ _ _ _ nil => .refl _
  | node b k v l (node hb hk hv hl hr) => by
    rw [List.perm_iff_count]; intro a
    simp only [up, bs, List.count_cons, List.count_append]; omega
theorem down_bs : ∀ T : Kn K V, (down T).bs.Perm T.bs
  | nil => .refl _
  | node _ _ _ nil _ => .refl _
  | node b k v (node lb lk lv ll lr) r => by
    rw [List.perm_iff_count]; intro a
    simp only [down, bs, List.count_cons, List.count_append]; omega
theorem perm_left {b : Nat} {k : K} {v : V} {l l' r : Kn K V} (h : l'.bs.Perm l.bs) : (node b k v l' r).bs.Perm (node b k v l r).bs := (h.append_right _).cons _
theorem perm_right {b : Nat} {k : K} {v : V} {l r r' : Kn K V} (h : r'.bs.Perm r.bs) : (node b k v l r').bs.Perm (node b k v l r).bs := (h.append_left _).cons _
theorem even_bs (b : Nat) (k : K) (v : V) (l r : Kn K V) : (even b k v l r).bs.Perm (node b k v l r).bs := by
  unfold even
  split
  · split
    · split
      · exact (down_bs _).trans (perm_left (up_bs _))
      · exact down_bs _
    · exact .refl _
  · split
    · split
      · split
        · exact (up_bs _).trans (perm_right (down_bs _))
        · exact up_bs _
      · exact .refl _
    · exact .refl _
theorem even_toL (b : Nat) (k : K) (v : V) (l r : Kn K V) : (even b k v l r).toL = l.toL ++ (k, v) :: r.toL := by
  unfold even
  split
  · split
    · split
      · rw [down_toL]; simp only [toL]; rw [up_toL]; simp [toL]
      · rw [down_toL]; rfl
    · rfl
  · split
    · split
      · split
        · rw [up_toL]; simp only [toL]; rw [down_toL]; simp [toL]
        · rw [up_toL]; rfl
      · rfl
    · rfl
def cmpK (lt : K → K → Bool) (a b : K) : Int := if lt a b = true then -1 else if lt b a = true then 1 else 0
def put (lt : K → K → Bool) (nb : Nat) (key : K) (val : V) : Kn K V → Kn K V
  | nil => node nb key val nil nil
  | node b k v l r => if lt key k = true then even b k v (put lt nb key val l) r else if lt k key = true then even b k v l (put lt nb key val r) else node b k val l r
theorem put_bs (lt : K → K → Bool) (nb : Nat) (key : K) (val : V) : ∀ T : Kn K V, (put lt nb key val T).bs.Perm (nb :: T.bs) ∨ (put lt nb key val T).bs.Perm T.bs
  | nil => .inl (.refl _)
  | node b k v l r => by
    unfold put
    split
    · rcases put_bs lt nb key val l with h | h
      · exact .inl ((even_bs _ _ _ _ _).trans ((perm_left (l' := put lt nb key val l) (l := node nb key val l nil) (by simpa [bs] using h)).trans (by
          rw [List.perm_iff_count]; intro a; simp only [bs, List.count_cons, List.count_append, List.count_nil]; omega)))
      · exact .inr ((even_bs _ _ _ _ _).trans (perm_left h))
    · split
      · rcases put_bs lt nb key val r with h | h
        · exact .inl ((even_bs _ _ _ _ _).trans ((perm_right (r' := put lt nb key val r) (r := node nb key val r nil) (by simpa [bs] using h)).trans (by
            rw [List.perm_iff_count]; intro a; simp only [bs, List.count_cons, List.count_append, List.count_nil]; omega)))
        · exact .inr ((even_bs _ _ _ _ _).trans (perm_right h))
      · exact .inr (.refl _)
theorem cnt_bs (T : Kn K V) : T.cnt = T.bs.length := by rw [cnt_len, bs_len]
theorem put_mem {lt : K → K → Bool} {nb : Nat} {key : K} {val : V} {T : Kn K V} {x : Nat} (h : x ∈ (put lt nb key val T).bs) : x = nb ∨ x ∈ T.bs := by
  rcases put_bs lt nb key val T with p | p
  · simpa using p.mem_iff.1 h
  · exact .inr (p.mem_iff.1 h)
theorem put_nodup {lt : K → K → Bool} {nb : Nat} {key : K} {val : V} {T : Kn K V} (h : T.bs.Nodup) (hn : nb ∉ T.bs) : (put lt nb key val T).bs.Nodup := by
  rcases put_bs lt nb key val T with p | p
  · exact p.nodup_iff.2 (List.nodup_cons.2 ⟨hn, h⟩)
  · exact p.nodup_iff.2 h
theorem put_cnt (lt : K → K → Bool) (nb : Nat) (key : K) (val : V) (T : Kn K V) : (put lt nb key val T).cnt ≤ T.cnt + 1 := by
  rw [cnt_bs, cnt_bs]
  rcases put_bs lt nb key val T with p | p
  · rw [p.length_eq, List.length_cons]; omega
  · rw [p.length_eq]; omega
theorem put_left_nodup {lt : K → K → Bool} {nb b : Nat} {key k : K} {val v : V} {l r : Kn K V} (h : (node b k v l r).bs.Nodup) (hn : nb ∉ (node b k v l r).bs) : (node b k v (put lt nb key val l) r).bs.Nodup := by
  rcases put_bs lt nb key val l with p | p
  · have q : (node b k v (put lt nb key val l) r).bs.Perm (nb :: (node b k v l r).bs) :=
      (perm_left (l' := put lt nb key val l) (l := node nb key val l nil) (by simpa [bs] using p)).trans (by
        rw [List.perm_iff_count]; intro a; simp only [bs, List.count_cons, List.count_append, List.count_nil]; omega)
    exact q.nodup_iff.2 (List.nodup_cons.2 ⟨hn, h⟩)
  · exact (perm_left p).nodup_iff.2 h
theorem put_right_nodup {lt : K → K → Bool} {nb b : Nat} {key k : K} {val v : V} {l r : Kn K V} (h : (node b k v l r).bs.Nodup) (hn : nb ∉ (node b k v l r).bs) : (node b k v l (put lt nb key val r)).bs.Nodup := by
  rcases put_bs lt nb key val r with p | p
  · have q : (node b k v l (put lt nb key val r)).bs.Perm (nb :: (node b k v l r).bs) :=
      (perm_right (r' := put lt nb key val r) (r := node nb key val r nil) (by simpa [bs] using p)).trans (by
        rw [List.perm_iff_count]; intro a; simp only [bs, List.count_cons, List.count_append, List.count_nil]; omega)
    exact q.nodup_iff.2 (List.nodup_cons.2 ⟨hn, h⟩)
  · exact (perm_right p).nodup_iff.2 h
def find (lt : K → K → Bool) (key : K) : Kn K V → Kn K V
  | nil => nil
  | node b k v l r => if lt key k = true then find lt key l else if lt k key = true then find lt key r else node b k v l r
def least : Nat → K → V → Kn K V → Kn K V → Kn K V × (Nat × K × V × Kn K V)
  | b, k, v, nil, r => (r, (b, k, v, r))
  | b, k, v, node lb lk lv ll lr, r => let x := least lb lk lv ll lr; (even b k v x.1 r, x.2)
def drop (lt : K → K → Bool) (key : K) : Kn K V → Kn K V
  | nil => nil
  | node b k v l r =>
    if lt key k = true then even b k v (drop lt key l) r
    else if lt k key = true then even b k v l (drop lt key r)
    else match r with
      | nil => l
      | node rb rk rv rl rr => let x := least rb rk rv rl rr; even x.2.1 x.2.2.1 x.2.2.2.1 l x.1
theorem least_bs : ∀ (b : Nat) (k : K) (v : V) (l r : Kn K V), ((least b k v l r).2.1 :: (least b k v l r).1.bs).Perm (node b k v l r).bs
  | b, k, v, nil, r => by simp [least, bs]
  | b, k, v, node lb lk lv ll lr, r => by
    have h := least_bs lb lk lv ll lr
    have h2 := even_bs b k v (least lb lk lv ll lr).1 r
    rw [List.perm_iff_count] at h h2 ⊢
    intro a
    have := h a; have := h2 a
    simp only [least, bs, List.count_cons, List.count_append] at *
    omega
theorem least_out {b lb : Nat} {k lk : K} {v lv : V} {ll lr r : Kn K V} (h : (node b k v (node lb lk lv ll lr) r).bs.Nodup) :
    (node b k v (least lb lk lv ll lr).1 r).bs.Nodup ∧ (least lb lk lv ll lr).2.1 ∉ (node b k v (least lb lk lv ll lr).1 r).bs ∧ (∀ x ∈ (least lb lk lv ll lr).1.bs, x ∈ (node lb lk lv ll lr).bs) ∧ (least lb lk lv ll lr).2.1 ∈ (node lb lk lv ll lr).bs := by
  have p := least_bs lb lk lv ll lr
  have q : ((least lb lk lv ll lr).2.1 :: (node b k v (least lb lk lv ll lr).1 r).bs).Perm (node b k v (node lb lk lv ll lr) r).bs := by
    rw [List.perm_iff_count] at p ⊢
    intro a
    have := p a
    simp only [bs, List.count_cons, List.count_append] at *
    omega
  have n := q.nodup_iff.2 h
  rw [List.nodup_cons] at n
  exact ⟨n.2, n.1, fun x hx => p.mem_iff.1 (List.mem_cons_of_mem _ hx), p.mem_iff.1 (List.mem_cons_self)⟩
theorem least_cnt (b : Nat) (k : K) (v : V) (l r : Kn K V) : (least b k v l r).1.cnt + 1 = (node b k v l r).cnt := by
  rw [cnt_bs, cnt_bs, ← (least_bs b k v l r).length_eq, List.length_cons]; omega
theorem least_nodup {b : Nat} {k : K} {v : V} {l r : Kn K V} (h : (node b k v l r).bs.Nodup) : (least b k v l r).1.bs.Nodup ∧ (least b k v l r).2.1 ∉ (least b k v l r).1.bs := by
  have := (least_bs b k v l r).nodup_iff.2 h
  rw [List.nodup_cons] at this
  exact ⟨this.2, this.1⟩
theorem drop_count (lt : K → K → Bool) (key : K) : ∀ (T : Kn K V) (a : Nat), (drop lt key T).bs.count a ≤ T.bs.count a
  | nil, a => by simp [drop, bs]
  | node b k v l r, a => by
    unfold drop
    split
    · have h2 := List.perm_iff_count.1 (even_bs b k v (drop lt key l) r) a
      have := drop_count lt key l a
      rw [h2]; simp only [bs, List.count_cons, List.count_append]; omega
    · split
      · have h2 := List.perm_iff_count.1 (even_bs b k v l (drop lt key r)) a
        have := drop_count lt key r a
        rw [h2]; simp only [bs, List.count_cons, List.count_append]; omega
      · cases r with
        | nil => simp only [bs, List.count_cons, List.count_append]; omega
        | node rb rk rv rl rr =>
          have h := List.perm_iff_count.1 (least_bs rb rk rv rl rr) a
          have h2 := List.perm_iff_count.1 (even_bs (least rb rk rv rl rr).2.1 (least rb rk rv rl rr).2.2.1 (least rb rk rv rl rr).2.2.2.1 l (least rb rk rv rl rr).1) a
          simp only
          rw [h2]
          simp only [bs, List.count_cons, List.count_append] at *
          omega
theorem drop_mem {lt : K → K → Bool} {key : K} {T : Kn K V} {x : Nat} (h : x ∈ (drop lt key T).bs) : x ∈ T.bs := by
  have := drop_count lt key T x
  have := List.count_pos_iff.2 h
  exact List.count_pos_iff.1 (by omega)
theorem drop_nodup {lt : K → K → Bool} {key : K} {T : Kn K V} (h : T.bs.Nodup) : (drop lt key T).bs.Nodup :=
  List.nodup_iff_count.2 (fun a => Nat.le_trans (drop_count lt key T a) (List.nodup_iff_count.1 h a))
theorem even_cnt (b : Nat) (k : K) (v : V) (l r : Kn K V) : (even b k v l r).cnt = 1 + l.cnt + r.cnt := by
  rw [cnt_bs, (even_bs b k v l r).length_eq, ← cnt_bs]; rfl
theorem drop_cnt (lt : K → K → Bool) (key : K) : ∀ T : Kn K V, (drop lt key T).cnt ≤ T.cnt
  | nil => by simp [drop]
  | node b k v l r => by
    have h1 := drop_cnt lt key l
    have h2 := drop_cnt lt key r
    have := bounds l
    have := bounds r
    unfold drop
    split
    · rw [even_cnt]; simp only [cnt]; omega
    · split
      · rw [even_cnt]; simp only [cnt]; omega
      · cases r with
        | nil => simp only [cnt] at *; omega
        | node rb rk rv rl rr =>
          have := least_cnt rb rk rv rl rr
          simp only
          rw [even_cnt]
          simp only [cnt] at *
          omega
theorem drop_left_nodup {lt : K → K → Bool} {key k : K} {b : Nat} {v : V} {l r : Kn K V} (h : (node b k v l r).bs.Nodup) : (node b k v (drop lt key l) r).bs.Nodup := by
  rw [List.nodup_iff_count] at h ⊢
  intro a
  have := h a
  have := drop_count lt key l a
  simp only [bs, List.count_cons, List.count_append] at *
  omega
theorem drop_right_nodup {lt : K → K → Bool} {key k : K} {b : Nat} {v : V} {l r : Kn K V} (h : (node b k v l r).bs.Nodup) : (node b k v l (drop lt key r)).bs.Nodup := by
  rw [List.nodup_iff_count] at h ⊢
  intro a
  have := h a
  have := drop_count lt key r a
  simp only [bs, List.count_cons, List.count_append] at *
  omega
theorem join_nodup {b rb : Nat} {k rk : K} {v rv : V} {l rl rr : Kn K V} (h : (node b k v l (node rb rk rv rl rr)).bs.Nodup) (k' : K) (v' : V) : (node (least rb rk rv rl rr).2.1 k' v' l (least rb rk rv rl rr).1).bs.Nodup := by
  have p := least_bs rb rk rv rl rr
  rw [List.perm_iff_count] at p
  rw [List.nodup_iff_count] at h ⊢
  intro a
  have := h a
  have := p a
  simp only [bs, List.count_cons, List.count_append] at *
  omega
end Kn
end Go.Proofs.Ytidaiafmhidooaa.Ord
end
section
set_option linter.unusedVariables false
set_option linter.unusedSimpArgs false
namespace Go.Proofs.Ytidaiafmhidooaa.OrdSs
open Go.RowKit Go.Proofs.YtidaiafmhidooaaW.PrintWords Go.Proofs.YtidaiafmhidooaaW.PrintLast Go.Proofs.YtidaiafmhidooaaW.PrintMore Go.Proofs.Ytidaiafmhidooaa.Own Go.Proofs.Ytidaiafmhidooaa.Ord
def In (w : World) : Kn ByteArray ByteArray → Prop
  | .nil => True
  | .node b k v l r => w.heap[b]? = some (.cells #[.string k, .string v, .pointer l.adr, .pointer r.adr, .int .i64 (Kn.node b k v l r).hgt, .int .i64 (Kn.node b k v l r).cnt] 117 (0, 0)) ∧ In w l ∧ In w r
theorem in_fr {w w' : World} {B : List Nat} (h : Fr B w w') : ∀ {T : Kn ByteArray ByteArray}, In w T → (∀ x ∈ T.bs, x ∉ B) → In w' T
  | .nil, _, _ => trivial
  | .node b k v l r, hi, hn => ⟨h.blk hi.1 (hn b (by simp [Kn.bs])), in_fr h hi.2.1 (fun x hx => hn x (by simp [Kn.bs, hx])), in_fr h hi.2.2 (fun x hx => hn x (by simp [Kn.bs, hx]))⟩
theorem in_lt {w : World} : ∀ {T : Kn ByteArray ByteArray}, In w T → ∀ x ∈ T.bs, x < w.heap.size
  | .nil, _, x, hx => by simp [Kn.bs] at hx
  | .node b k v l r, hi, x, hx => by
    simp only [Kn.bs, List.mem_cons, List.mem_append] at hx
    rcases hx with rfl | hx | hx
    · exact blk_lt hi.1
    · exact in_lt hi.2.1 x hx
    · exact in_lt hi.2.2 x hx
theorem in_typed {w : World} : ∀ {T : Kn ByteArray ByteArray}, In w T → ∀ x ∈ T.bs, ∃ cells, w.heap[x]? = some (.cells cells 117 (0, 0))
  | .nil, _, x, hx => by simp [Kn.bs] at hx
  | .node b k v l r, hi, x, hx => by
    simp only [Kn.bs, List.mem_cons, List.mem_append] at hx
    rcases hx with rfl | hx | hx
    · exact ⟨_, hi.1⟩
    · exact in_typed hi.2.1 x hx
    · exact in_typed hi.2.2 x hx
theorem in_drewN {w : World} (n : Nat) : ∀ {T : Kn ByteArray ByteArray}, In w T → In (w.drewN n) T
  | .nil, _ => trivial
  | .node _ _ _ _ _, hi => ⟨hi.1, in_drewN n hi.2.1, in_drewN n hi.2.2⟩
attribute [local go_sem] max2_int max_two
set_option maxHeartbeats 2000000
set_option maxRecDepth 100000
theorem depth_any (T : Kn ByteArray ByteArray) (w : World) (h : In w T) : Calls Try.prog 124 #[.pointer T.adr] w fun e w' => e = .returned (.int .i64 T.hgt) ∧ w' = w := by
  cases T with
  | nil =>
    show Calls Try.prog 124 #[.pointer none] w _
    go_enter Try.func124, Try.ntmps124
    go_wp2
    go_ret
    exact ⟨rfl, rfl⟩
  | node b k v l r =>
    show Calls Try.prog 124 #[.pointer (some ⟨b, 0, none⟩)] w _
    have c : w.cell? ⟨b, 4, none⟩ = some (.int .i64 (Kn.node b k v l r).hgt) := blk_cell h.1 4
    go_enter Try.func124, Try.ntmps124
    go_wp2
    go_ret
    exact ⟨rfl, rfl⟩
theorem size_any (T : Kn ByteArray ByteArray) (w : World) (h : In w T) : Calls Try.prog 116 #[.pointer T.adr] w fun e w' => e = .returned (.int .i64 T.cnt) ∧ w' = w := by
  cases T with
  | nil =>
    show Calls Try.prog 116 #[.pointer none] w _
    go_enter Try.func116, Try.ntmps116
    go_wp2
    go_ret
    exact ⟨rfl, rfl⟩
  | node b k v l r =>
    show Calls Try.prog 116 #[.pointer (some ⟨b, 0, none⟩)] w _
    have c : w.cell? ⟨b, 5, none⟩ = some (.int .i64 (Kn.node b k v l r).cnt) := blk_cell h.1 5
    go_enter Try.func116, Try.ntmps116
    go_wp2
    go_ret
    exact ⟨rfl, rfl⟩
theorem fresh_any (b : Nat) (k : ByteArray) (v : ByteArray) (l r : Kn ByteArray ByteArray) (d s : Int) (w : World)
    (hb : w.heap[b]? = some (.cells #[.string k, .string v, .pointer l.adr, .pointer r.adr, .int .i64 d, .int .i64 s] 117 (0, 0))) (hl : In w l) (hr : In w r) (nl : b ∉ l.bs) (nr : b ∉ r.bs) (hc : l.cnt + r.cnt < 4611686018427387904) :
    Calls Try.prog 117 #[.pointer (some ⟨b, 0, none⟩)] w fun e w' => e = .returned (.pointer (some ⟨b, 0, none⟩)) ∧ In w' (.node b k v l r) ∧ Fr [b] w w' := by
  obtain ⟨m, hm⟩ : ∃ m, m = mx l.hgt r.hgt := ⟨_, rfl⟩
  have h1 := Kn.bounds l
  have h2 := Kn.bounds r
  have hm2 : 0 ≤ m ∧ m < 4611686018427387904 := by rw [hm]; unfold mx; split <;> omega
  have hw1 : IntKind.i64.wrap (1 + m) = 1 + m := IntWalk.i64_in _ (by omega)
  have hmH : Hid (m = mx l.hgt r.hgt) := hm
  clear hm
  have hw2 : IntKind.i64.wrap (1 + l.cnt) = 1 + l.cnt := IntWalk.i64_in _ (by omega)
  have hw3 : IntKind.i64.wrap (1 + l.cnt + r.cnt) = 1 + l.cnt + r.cnt := IntWalk.i64_in _ (by omega)
  go_enter Try.func117, Try.ntmps117
  go_wp2_with fail
  refine still_tail 13 (by kernel_rfl) (by kernel_rfl) (fun W hW => ?_)
  simp only [List.take_succ_cons, List.take_zero, List.drop_succ_cons, List.drop_zero]
  have hb1 : W.heap[b]? = some (.cells #[.string k, .string v, .pointer l.adr, .pointer r.adr, .int .i64 d, .int .i64 s] 117 (0, 0)) := by rw [hW]; exact hb
  have fr1 : Fr [b] w W := by rw [hW]; exact (Fr.refl _ _).drew
  clear hW hb
  have hl1 : In W l := in_fr fr1 hl (fun x hx => by simp; rintro rfl; exact nl hx)
  have hr1 : In W r := in_fr fr1 hr (fun x hx => by simp; rintro rfl; exact nr hx)
  have c2 : W.cell? ⟨b, 2, none⟩ = some (.pointer l.adr) := blk_cell hb1 2
  have c3 : W.cell? ⟨b, 3, none⟩ = some (.pointer r.adr) := blk_cell hb1 3
  have c4 : W.cell? ⟨b, 4, none⟩ = some (.int .i64 d) := blk_cell hb1 4
  have f4 := blk_frozen hb1 4
  iterate 5 still_step
  still_call (depth_any l _ hl1)
  iterate 4 still_step
  still_call (depth_any r _ hr1)
  iterate 2 still_step
  refine wpStill_nil ?_
  simp only [show (if l.hgt < r.hgt then r.hgt else l.hgt) = m from hmH.out.symm, hw1]
  go_wp2_with fail
  refine still_tail 13 (by kernel_rfl) (by kernel_rfl) (fun W2 hW2 => ?_)
  simp only [List.take_succ_cons, List.take_zero, List.drop_succ_cons, List.drop_zero]
  have hb2 : W2.heap[b]? = some (.cells #[.string k, .string v, .pointer l.adr, .pointer r.adr, .int .i64 (1 + m), .int .i64 s] 117 (0, 0)) := by rw [hW2]; exact blk_put hb1 4 _ rfl
  have fr2 : Fr [b] W W2 := by rw [hW2]; exact ((Fr.refl _ _).set (.inl (by simp)) _).drew
  clear hW2 hb1 c2 c3 c4 f4
  have hl2 : In W2 l := in_fr fr2 hl1 (fun x hx => by simp; rintro rfl; exact nl hx)
  have hr2 : In W2 r := in_fr fr2 hr1 (fun x hx => by simp; rintro rfl; exact nr hx)
  have c2 : W2.cell? ⟨b, 2, none⟩ = some (.pointer l.adr) := blk_cell hb2 2
  have c3 : W2.cell? ⟨b, 3, none⟩ = some (.pointer r.adr) := blk_cell hb2 3
  have c5 : W2.cell? ⟨b, 5, none⟩ = some (.int .i64 s) := blk_cell hb2 5
  have f5 := blk_frozen hb2 5
  iterate 5 still_step
  still_call (size_any l _ hl2)
  iterate 5 still_step
  still_call (size_any r _ hr2)
  still_step
  refine wpStill_nil ?_
  go_wp2_with fail
  go_ret
  have fr3 : Fr [b] W2 (W2.setCell ⟨b, 5, none⟩ (.int .i64 (1 + l.cnt + r.cnt))) := (Fr.refl _ _).set (.inl (by simp)) _
  refine ⟨rfl, ⟨?_, in_fr fr3 hl2 (fun x hx => by simp; rintro rfl; exact nl hx), in_fr fr3 hr2 (fun x hx => by simp; rintro rfl; exact nr hx)⟩, (fr1.trans fr2 (fun x hx => .inl hx)).trans fr3 (fun x hx => .inl hx)⟩
  simp only [Kn.hgt, Kn.cnt, ← hmH.out]
  exact blk_put hb2 5 _ rfl
end Go.Proofs.Ytidaiafmhidooaa.OrdSs
end
