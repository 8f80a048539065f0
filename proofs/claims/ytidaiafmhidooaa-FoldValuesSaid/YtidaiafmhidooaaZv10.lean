/- Texts of this seat's own and of the kit's print program, of one claim: only what the claim uses (laid by wip/tools/shake.py; Lean checks them). -/
import Derived.Test.YtidaiafmhidooaaZv2
import Derived.Test.YtidaiafmhidooaaZv3
import Derived.Test.YtidaiafmhidooaaZv9
import Derived.Test.YtidaiafmhidooaaZv6
import Derived.Test.YtidaiafmhidooaaZv1
import Derived.Lib.Strings
import Derived.Laws.BitsAllLaws
import Derived.Test.YtidaiafmhidooaaZv8
section
namespace Go.Proofs.Ytidaiafmhidooaa.P
open Go.RowKit Go.Proofs.YtidaiafmhidooaaW.PrintWords Go.Proofs.YtidaiafmhidooaaW.PrintLast Go.Proofs.YtidaiafmhidooaaW.PrintMore Go.Proofs.Ytidaiafmhidooaa.Own
open Go.Proofs.YtidaiafmhidooaaW.PrintWords renaming blk_cell → bC, blk_frozen → bF, pw_below_drewN → wN, below_drew1 → w1, below_set → wS, below_alloc → wA, below_step → wT, below_size → wZ
open List renaming map_toArray → mA1, map_cons → mA2, map_nil → mA3, length_take → mA4, length_drop → mA5
attribute [local go_sem] max2_str max2_int min2_int max_two min_two max_three min_three max_four min_four   -- for this text's walks alone
set_option linter.unusedVariables false
set_option linter.unusedSimpArgs false
def catchmentref03_Same.l0 : Nat → List ByteArray → List ByteArray → Int → Option (Bool)
 | 0, _, _, _ => none
 | k + 1, x0, x1, x5 => if x5 < (x0.length : Int) then (if 0 ≤ x5 then (if x5 < (x1.length : Int) then (if (rdOf ByteArray.empty x0 x5).toList = (rdOf ByteArray.empty x1 x5).toList then (catchmentref03_Same.l0 k x0 x1 (wrap64 (x5 + 1))) else (some false)) else (none)) else (none)) else (some true)
def catchmentref03_Same.f (k : Nat) (l0 : List ByteArray) (l1 : List ByteArray) : Option (Bool) := if (l0.length : Int) = (l1.length : Int) then (catchmentref03_Same.l0 k l0 l1 0) else (some false)
set_option maxHeartbeats 8000000 in
set_option maxRecDepth 100000 in
theorem catchmentref03_Same.calls (k : Nat) (A0 : Option Addr) (c0 : Nat) (l0 : List ByteArray) (A1 : Option Addr) (c1 : Nat) (l1 : List ByteArray) (r : Bool) (w : World) (hr0 : Kd.C Kd.string w A0 l0.length l0) (hc0 : l0.length ≤ c0) (hr1 : Kd.C Kd.string w A1 l1.length l1) (hc1 : l1.length ≤ c1) (h : catchmentref03_Same.f k l0 l1 = some r) :
  Calls Try.prog 31 #[.slice A0 l0.length c0, .slice A1 l1.length c1] w fun e w' => e = .returned (.bool r) ∧ Drawn0 w w' := by
 have HR0 := Aside0.mk hr0
 have HC0 := Aside0.mk hc0
 clear hr0 hc0
 have HR1 := Aside0.mk hr1
 have HC1 := Aside0.mk hc1
 clear hr1 hc1
 have H : (if (l0.length : Int) = (l1.length : Int) then (catchmentref03_Same.l0 k l0 l1 0) else (some false)) = some r := h
 clear h
 by_cases c3 : (l0.length : Int) = (l1.length : Int)
 ·rw [if_pos c3] at H
  have c3b0 : ((l0.length : Int) == (l1.length : Int)) = true := beq_iff_eq.mpr c3
  have c3b1 : ((l0.length : Int) != (l1.length : Int)) = false := bne_eq_false_iff_eq.mpr c3
  have c3b2 : (l0.length == l1.length) = true := by first | simpa using c3 | (simp at c3 ⊢; omega)
  clear c3
  have H' := Aside0.mk H
  clear H
  go_enter Try.func31, Try.ntmps31
  go_wp2
  repeat (go_quiet (fail); try go_wp2)
  go_loopg [5] k (fun kq v5 w' => ∃ (x5_1 : Int), v5 = .int .i64 x5_1 ∧ Aside0 (catchmentref03_Same.l0 kq l0 l1 x5_1 = some r) ∧ Aside0 (kq ≤ k) ∧ Drawn0 w w')
  case atStart => exact ⟨(0), (by first | rfl | (simp; done) | (simp [*]; done)), H', ⟨Nat.le_refl _⟩, by repeat (first | exact Drawn0.refl _ | apply Drawn0.step)⟩
  case round =>
   clear H'
   try clear c1
   try clear p2
   try clear c3
   try clear c3b0
   try clear c3b1
   try clear c3b2
   obtain ⟨x5_1, rfl, HA, HK1, ⟨m1, rfl⟩⟩ := hrel
   cases gk with
   | zero => exact absurd HA.out (by simp [catchmentref03_Same.l0])
   | succ k1 =>
    have H := HA.out
    clear HA
    simp only [catchmentref03_Same.l0] at H
    by_cases c4 : x5_1 < (l0.length : Int)
    ·rw [if_pos c4] at H
     have c4b0 : decide (x5_1 < (l0.length : Int)) = true := decide_eq_true c4
     clear c4
     by_cases c5 : 0 ≤ x5_1
     ·rw [if_pos c5] at H
      have c5b0 : decide (0 ≤ x5_1) = true := decide_eq_true c5
      clear c5
      by_cases c6 : x5_1 < (l1.length : Int)
      ·rw [if_pos c6] at H
       have c6b0 : decide (x5_1 < (l1.length : Int)) = true := decide_eq_true c6
       clear c6
       by_cases c7 : (rdOf ByteArray.empty l0 x5_1).toList = (rdOf ByteArray.empty l1 x5_1).toList
       ·rw [if_pos c7] at H
        have c7b0 : ((rdOf ByteArray.empty l0 x5_1).toList == (rdOf ByteArray.empty l1 x5_1).toList) = true := beq_iff_eq.mpr c7
        have c7b1 : ((rdOf ByteArray.empty l0 x5_1).toList != (rdOf ByteArray.empty l1 x5_1).toList) = false := bne_eq_false_iff_eq.mpr c7
        clear c7
        have H' := Aside0.mk H
        clear H
        have p457 : 0 ≤ (x5_1 : Int) := of_decide_eq_true (by first | (with_reducible assumption) | assumption)
        have q457 : x5_1 < (l0.length : Int) := of_decide_eq_true (by first | (with_reducible assumption) | assumption)
        obtain ⟨ad457, e457, hx457_0⟩ := Kd.at_string HR0.out x5_1 p457 q457
        cases e457
        replace p457 := eq_true p457
        replace q457 := eq_true q457
        have p458 : 0 ≤ (x5_1 : Int) := of_decide_eq_true (by first | (with_reducible assumption) | assumption)
        have q458 : x5_1 < (l1.length : Int) := of_decide_eq_true (by first | (with_reducible assumption) | assumption)
        obtain ⟨ad458, e458, hx458_0⟩ := Kd.at_string HR1.out x5_1 p458 q458
        cases e458
        replace p458 := eq_true p458
        replace q458 := eq_true q458
        go_wp2
        repeat (go_quiet (fail); try go_wp2)
        go_roundg k1
        case measure => have := HK1.out; omega
        case rel => exact ⟨(wrap64 (x5_1 + 1)), (by first | rfl | (simp; done) | (simp [*]; done)), H', ⟨by have := HK1.out; omega⟩, by repeat (first | exact Drawn0.refl _ | apply Drawn0.step)⟩
       ·rw [if_neg c7] at H
        have c7b0 : ((rdOf ByteArray.empty l0 x5_1).toList == (rdOf ByteArray.empty l1 x5_1).toList) = false := beq_eq_false_iff_ne.mpr c7
        have c7b1 : ((rdOf ByteArray.empty l0 x5_1).toList != (rdOf ByteArray.empty l1 x5_1).toList) = true := bne_iff_ne.mpr c7
        obtain rfl := Option.some.inj H
        have p457 : 0 ≤ (x5_1 : Int) := of_decide_eq_true (by first | (with_reducible assumption) | assumption)
        have q457 : x5_1 < (l0.length : Int) := of_decide_eq_true (by first | (with_reducible assumption) | assumption)
        obtain ⟨ad457, e457, hx457_0⟩ := Kd.at_string HR0.out x5_1 p457 q457
        cases e457
        replace p457 := eq_true p457
        replace q457 := eq_true q457
        have p458 : 0 ≤ (x5_1 : Int) := of_decide_eq_true (by first | (with_reducible assumption) | assumption)
        have q458 : x5_1 < (l1.length : Int) := of_decide_eq_true (by first | (with_reducible assumption) | assumption)
        obtain ⟨ad458, e458, hx458_0⟩ := Kd.at_string HR1.out x5_1 p458 q458
        cases e458
        replace p458 := eq_true p458
        replace q458 := eq_true q458
        go_wp2
        repeat (go_quiet (fail); try go_wp2)
        go_ret
        exact ⟨by first | rfl | (simp; done) | (simp [*]; done), by repeat (first | exact Drawn0.refl _ | apply Drawn0.step)⟩
      ·rw [if_neg c6] at H
       exact absurd H (by simp)
     ·rw [if_neg c5] at H
      exact absurd H (by simp)
    ·rw [if_neg c4] at H
     have c4b0 : decide (x5_1 < (l0.length : Int)) = false := decide_eq_false c4
     clear c4
     obtain rfl := Option.some.inj H
     go_wp2
     repeat (go_quiet (fail); try go_wp2)
     go_ret
     exact ⟨by first | rfl | (simp; done) | (simp [*]; done), by repeat (first | exact Drawn0.refl _ | apply Drawn0.step)⟩
 ·rw [if_neg c3] at H
  have c3b0 : ((l0.length : Int) == (l1.length : Int)) = false := beq_eq_false_iff_ne.mpr c3
  have c3b1 : ((l0.length : Int) != (l1.length : Int)) = true := bne_iff_ne.mpr c3
  have c3b2 : (l0.length == l1.length) = false := by first | simpa using c3 | (simp at c3 ⊢; omega)
  obtain rfl := Option.some.inj H
  go_enter Try.func31, Try.ntmps31
  go_wp2
  repeat (go_quiet (fail); try go_wp2)
  go_ret
  exact ⟨by first | rfl | (simp; done) | (simp [*]; done), by repeat (first | exact Drawn0.refl _ | apply Drawn0.step)⟩
def fold_Find.l0 : Nat → ByteArray → List (S55) → Int → Int → Option (ByteArray × Bool)
 | 0, _, _, _, _ => none
 | k + 1, x1, x8, x9, x10 => if x10 < x9 then (if 0 ≤ x10 then (if x10 < (x8.length : Int) then (if ((rd_T55 x8 x10).f0).toList = x1.toList then (some ((rd_T55 x8 x10).f1, true)) else (fold_Find.l0 k x1 x8 x9 (wrap64 (x10 + 1)))) else (none)) else (none)) else (some ((⟨#[]⟩ : BA), false))
def fold_Find.f (k : Nat) (l0 : List (S55)) (a1 : BA) : Option (ByteArray × Bool) := fold_Find.l0 k a1 l0 (l0.length : Int) 0
set_option maxHeartbeats 8000000 in
set_option maxRecDepth 100000 in
theorem fold_Find.calls (k : Nat) (A0 : Option Addr) (c0 : Nat) (l0 : List (S55)) (a1 : BA) (r1 : BA) (r2 : Bool) (w : World) (hr0 : Kd.C k55 w A0 l0.length l0) (hc0 : l0.length ≤ c0) (h : fold_Find.f k l0 a1 = some (r1, r2)) :
  Calls Try.prog 35 #[.slice A0 l0.length c0, .string a1] w fun e w' => e = .returned (.tuple #[.string r1, .bool r2]) ∧ Below w.heap.size w w' := by
 have hu55 := Try.underlying55
 have HR0 := Aside0.mk hr0
 have HC0 := Aside0.mk hc0
 clear hr0 hc0
 have HB := Aside0.mk (Below.refl w.heap.size w)
 have H : (fold_Find.l0 k a1 l0 (l0.length : Int) 0) = some (r1, r2) := h
 clear h
 have H' := Aside0.mk H
 clear H
 go_enter Try.func35, Try.ntmps35
 go_wp2
 go_loopg [10] k (fun kq v10 w' => ∃ (x10_1 : Int), v10 = .int .i64 x10_1 ∧ Aside0 (fold_Find.l0 kq a1 l0 (l0.length : Int) x10_1 = some (r1, r2)) ∧ Aside0 (kq ≤ k) ∧ Aside0 (Below w.heap.size w w'))
 case atStart => exact ⟨(0), (by first | rfl | (simp; done) | (simp [*]; done)), H', ⟨Nat.le_refl _⟩, ⟨by repeat (first | (with_reducible first | exact HB.out | apply wA | apply wN | apply w1) | exact HB.out)⟩⟩
 case round =>
  clear H'
  try clear p2
  obtain ⟨x10_1, rfl, HA, HK1, HB⟩ := hrel
  cases gk with
  | zero => exact absurd HA.out (by simp [fold_Find.l0])
  | succ k1 =>
   have H := HA.out
   clear HA
   simp only [fold_Find.l0] at H
   by_cases c3 : x10_1 < (l0.length : Int)
   ·rw [if_pos c3] at H
    have c3b0 : decide (x10_1 < (l0.length : Int)) = true := decide_eq_true c3
    clear c3
    by_cases c4 : 0 ≤ x10_1
    ·rw [if_pos c4] at H
     have c4b0 : decide (0 ≤ x10_1) = true := decide_eq_true c4
     clear c4
     by_cases c5 : x10_1 < (l0.length : Int)
     ·rw [if_pos c5] at H
      have c5b0 : decide (x10_1 < (l0.length : Int)) = true := decide_eq_true c5
      clear c5
      by_cases c6 : ((rd_T55 l0 x10_1).f0).toList = a1.toList
      ·rw [if_pos c6] at H
       have c6b0 : (((rd_T55 l0 x10_1).f0).toList == a1.toList) = true := beq_iff_eq.mpr c6
       have c6b1 : (((rd_T55 l0 x10_1).f0).toList != a1.toList) = false := bne_eq_false_iff_eq.mpr c6
       clear c6
       simp only [Option.some.injEq, Prod.mk.injEq] at H
       obtain ⟨rfl, rfl⟩ := H
       have p516 : 0 ≤ (x10_1 : Int) := of_decide_eq_true (by first | (with_reducible assumption) | assumption)
       have q516 : x10_1 < (l0.length : Int) := of_decide_eq_true (by first | (with_reducible assumption) | assumption)
       obtain ⟨ad516, e516, hx516_0, hx516_1⟩ := at_T55 HR0.out x10_1 p516 q516
       cases e516
       replace hx516_0 := (HB.out.cell (World.block_lt_of_cell? w _ hx516_0)).trans hx516_0
       replace hx516_1 := (HB.out.cell (World.block_lt_of_cell? w _ hx516_1)).trans hx516_1
       replace p516 := eq_true p516
       replace q516 := eq_true q516
       go_wp2_with (first | ((with_reducible refine gate_dst (N := 7) rfl ?_); refine box_event ?hg (N := 7) ?hd (cs := #[.string (⟨#[]⟩ : BA), .string (⟨#[]⟩ : BA)]) (t := 55) ?hr ?_; (case hd => rfl); (case hg => rfl); (case hr => first | (go_simp; done) | (go_simp; rfl)); intro gb517 hg w7 hbox hb; have n0_ := Aside0.mk (wT (by repeat (first | (with_reducible first | exact HB.out | apply wA | apply wN | apply w1) | exact HB.out)) hb); have n1_ := Aside0.mk (hbox); have n2_ := Aside0.mk ((by rw [hg]; exact (wZ (by repeat (first | (with_reducible first | exact HB.out | apply wA | apply wN | apply w1) | exact HB.out))) : w.heap.size ≤ gb517)); have n3_ := n2_; clear HB; have HB := n0_; have BK517 := n1_; have GW517 := n2_; have GE517 := n3_; clear n0_ n1_ n2_ n3_; clear hb hbox hg; have hcz8_0 : w7.cell? ⟨gb517, 0, none⟩ = some (.string (⟨#[]⟩ : BA)) := (bC BK517.out 0).trans rfl; have hcz8_1 : w7.cell? ⟨gb517, 1, none⟩ = some (.string (⟨#[]⟩ : BA)) := (bC BK517.out 1).trans rfl; have hfz8_0 := bF BK517.out 0; have hfz8_1 := bF BK517.out 1))
       go_ret2
       exact ⟨by first | rfl | (simp [errW_none, errW_some] <;> rfl) | (simp [*, errW_none, errW_some] <;> rfl), by repeat (first | (with_reducible first | exact HB.out | apply wA | apply wN | apply w1 | refine wS ?_ GE517.out) | exact HB.out)⟩
      ·rw [if_neg c6] at H
       have c6b0 : (((rd_T55 l0 x10_1).f0).toList == a1.toList) = false := beq_eq_false_iff_ne.mpr c6
       have c6b1 : (((rd_T55 l0 x10_1).f0).toList != a1.toList) = true := bne_iff_ne.mpr c6
       have H' := Aside0.mk H
       clear H
       have p516 : 0 ≤ (x10_1 : Int) := of_decide_eq_true (by first | (with_reducible assumption) | assumption)
       have q516 : x10_1 < (l0.length : Int) := of_decide_eq_true (by first | (with_reducible assumption) | assumption)
       obtain ⟨ad516, e516, hx516_0, hx516_1⟩ := at_T55 HR0.out x10_1 p516 q516
       cases e516
       replace hx516_0 := (HB.out.cell (World.block_lt_of_cell? w _ hx516_0)).trans hx516_0
       replace hx516_1 := (HB.out.cell (World.block_lt_of_cell? w _ hx516_1)).trans hx516_1
       replace p516 := eq_true p516
       replace q516 := eq_true q516
       go_wp2_with (first | ((with_reducible refine gate_dst (N := 7) rfl ?_); refine box_event ?hg (N := 7) ?hd (cs := #[.string (⟨#[]⟩ : BA), .string (⟨#[]⟩ : BA)]) (t := 55) ?hr ?_; (case hd => rfl); (case hg => rfl); (case hr => first | (go_simp; done) | (go_simp; rfl)); intro gb517 hg w9 hbox hb; have n0_ := Aside0.mk (wT (by repeat (first | (with_reducible first | exact HB.out | apply wA | apply wN | apply w1) | exact HB.out)) hb); have n1_ := Aside0.mk (hbox); have n2_ := Aside0.mk ((by rw [hg]; exact (wZ (by repeat (first | (with_reducible first | exact HB.out | apply wA | apply wN | apply w1) | exact HB.out))) : w.heap.size ≤ gb517)); have n3_ := n2_; clear HB; have HB := n0_; have BK517 := n1_; have GW517 := n2_; have GE517 := n3_; clear n0_ n1_ n2_ n3_; clear hb hbox hg; have hcz10_0 : w9.cell? ⟨gb517, 0, none⟩ = some (.string (⟨#[]⟩ : BA)) := (bC BK517.out 0).trans rfl; have hcz10_1 : w9.cell? ⟨gb517, 1, none⟩ = some (.string (⟨#[]⟩ : BA)) := (bC BK517.out 1).trans rfl; have hfz10_0 := bF BK517.out 0; have hfz10_1 := bF BK517.out 1))
       go_roundg k1
       case measure => have := HK1.out; omega
       case rel => exact ⟨(wrap64 (x10_1 + 1)), (by first | rfl | (simp; done) | (simp [*]; done)), H', ⟨by have := HK1.out; omega⟩, ⟨by repeat (first | (with_reducible first | exact HB.out | apply wA | apply wN | apply w1 | refine wS ?_ GE517.out) | exact HB.out)⟩⟩
     ·rw [if_neg c5] at H
      exact absurd H (by simp)
    ·rw [if_neg c4] at H
     exact absurd H (by simp)
   ·rw [if_neg c3] at H
    have c3b0 : decide (x10_1 < (l0.length : Int)) = false := decide_eq_false c3
    clear c3
    simp only [Option.some.injEq, Prod.mk.injEq] at H
    obtain ⟨rfl, rfl⟩ := H
    go_wp2
    go_ret2
    exact ⟨by first | rfl | (simp [errW_none, errW_some] <;> rfl) | (simp [*, errW_none, errW_some] <;> rfl), by repeat (first | (with_reducible first | exact HB.out | apply wA | apply wN | apply w1) | exact HB.out)⟩
def fold_Rises.l0 : Nat → List (S55) → Int → Int → Option (Bool)
 | 0, _, _, _ => none
 | k + 1, x0, x5, x6 => if x6 < x5 then (if x6 > 0 then (if 0 ≤ (wrap64 (x6 - 1)) then (if (wrap64 (x6 - 1)) < (x0.length : Int) then (if 0 ≤ x6 then (if x6 < (x0.length : Int) then (if ((Op.bytesLess (((rd_T55 x0 (wrap64 (x6 - 1))).f0).toList) (((rd_T55 x0 x6).f0).toList)) = true) then (fold_Rises.l0 k x0 x5 (wrap64 (x6 + 1))) else (some false)) else (none)) else (none)) else (none)) else (none)) else (fold_Rises.l0 k x0 x5 (wrap64 (x6 + 1)))) else (some true)
def fold_Rises.f (k : Nat) (l0 : List (S55)) : Option (Bool) := fold_Rises.l0 k l0 (l0.length : Int) 0
set_option maxHeartbeats 8000000 in
set_option maxRecDepth 100000 in
theorem fold_Rises.calls (k : Nat) (A0 : Option Addr) (c0 : Nat) (l0 : List (S55)) (r : Bool) (w : World) (hr0 : Kd.C k55 w A0 l0.length l0) (hc0 : l0.length ≤ c0) (h : fold_Rises.f k l0 = some r) :
  Calls Try.prog 36 #[.slice A0 l0.length c0] w fun e w' => e = .returned (.bool r) ∧ Drawn0 w w' := by
 have HR0 := Aside0.mk hr0
 have HC0 := Aside0.mk hc0
 clear hr0 hc0
 have H : (fold_Rises.l0 k l0 (l0.length : Int) 0) = some r := h
 clear h
 have H' := Aside0.mk H
 clear H
 go_enter Try.func36, Try.ntmps36
 go_wp2
 repeat (go_quiet (fail); try go_wp2)
 go_loopg [6] k (fun kq v6 w' => ∃ (x6_1 : Int), v6 = .int .i64 x6_1 ∧ Aside0 (fold_Rises.l0 kq l0 (l0.length : Int) x6_1 = some r) ∧ Aside0 (kq ≤ k) ∧ Drawn0 w w')
 case atStart => exact ⟨(0), (by first | rfl | (simp; done) | (simp [*]; done)), H', ⟨Nat.le_refl _⟩, by repeat (first | exact Drawn0.refl _ | apply Drawn0.step)⟩
 case round =>
  clear H'
  obtain ⟨x6_1, rfl, HA, HK1, ⟨m1, rfl⟩⟩ := hrel
  cases gk with
  | zero => exact absurd HA.out (by simp [fold_Rises.l0])
  | succ k1 =>
   have H := HA.out
   clear HA
   simp only [fold_Rises.l0] at H
   by_cases c2 : x6_1 < (l0.length : Int)
   ·rw [if_pos c2] at H
    have c2b0 : decide (x6_1 < (l0.length : Int)) = true := decide_eq_true c2
    clear c2
    by_cases c3 : x6_1 > 0
    ·rw [if_pos c3] at H
     have c3b0 : decide (0 < x6_1) = true := decide_eq_true c3
     clear c3
     obtain ⟨ji4, hji4⟩ : ∃ j_ : Int, (wrap64 (x6_1 - 1)) = j_ := ⟨_, rfl⟩
     replace H : (if 0 ≤ (ji4) then (if (ji4) < (l0.length : Int) then (if 0 ≤ x6_1 then (if x6_1 < (l0.length : Int) then (if ((Op.bytesLess (((rd_T55 l0 (ji4)).f0).toList) (((rd_T55 l0 x6_1).f0).toList)) = true) then (fold_Rises.l0 k1 l0 (l0.length : Int) (wrap64 (x6_1 + 1))) else (some false)) else (none)) else (none)) else (none)) else (none)) = some r := by first | (rw [hji4] at H; exact H) | (simp only [hji4] at H ⊢; exact H)
     have hji4w : (IntKind.i64.wrap (x6_1 - 1)) = ji4 := (i64_w _).trans hji4
     by_cases c5 : 0 ≤ (ji4)
     ·rw [if_pos c5] at H
      have c5b0 : decide (0 ≤ (ji4)) = true := decide_eq_true c5
      clear c5
      by_cases c6 : (ji4) < (l0.length : Int)
      ·rw [if_pos c6] at H
       have c6b0 : decide ((ji4) < (l0.length : Int)) = true := decide_eq_true c6
       clear c6
       by_cases c7 : 0 ≤ x6_1
       ·rw [if_pos c7] at H
        have c7b0 : decide (0 ≤ x6_1) = true := decide_eq_true c7
        clear c7
        by_cases c8 : x6_1 < (l0.length : Int)
        ·rw [if_pos c8] at H
         have c8b0 : decide (x6_1 < (l0.length : Int)) = true := decide_eq_true c8
         clear c8
         by_cases c9 : ((Op.bytesLess (((rd_T55 l0 (ji4)).f0).toList) (((rd_T55 l0 x6_1).f0).toList)) = true)
         ·rw [if_pos c9] at H
          have c9b0 : (Op.bytesLess (((rd_T55 l0 (ji4)).f0).toList) (((rd_T55 l0 x6_1).f0).toList)) = true := c9
          clear c9
          have H' := Aside0.mk H
          clear H
          have p518 : 0 ≤ ((ji4) : Int) := of_decide_eq_true (by first | (with_reducible assumption) | assumption)
          have q518 : (ji4) < (l0.length : Int) := of_decide_eq_true (by first | (with_reducible assumption) | assumption)
          obtain ⟨ad518, e518, hx518_0, hx518_1⟩ := at_T55 HR0.out (ji4) p518 q518
          cases e518
          replace p518 := eq_true p518
          replace q518 := eq_true q518
          have p519 : 0 ≤ (x6_1 : Int) := of_decide_eq_true (by first | (with_reducible assumption) | assumption)
          have q519 : x6_1 < (l0.length : Int) := of_decide_eq_true (by first | (with_reducible assumption) | assumption)
          obtain ⟨ad519, e519, hx519_0, hx519_1⟩ := at_T55 HR0.out x6_1 p519 q519
          obtain rfl : ad518 = ad519 := (by injection e519)
          replace p519 := eq_true p519
          replace q519 := eq_true q519
          go_wp2
          repeat (go_quiet (fail); try go_wp2)
          go_roundg k1
          case measure => have := HK1.out; omega
          case rel => exact ⟨(wrap64 (x6_1 + 1)), (by first | rfl | (simp; done) | (simp [*]; done)), H', ⟨by have := HK1.out; omega⟩, by repeat (first | exact Drawn0.refl _ | apply Drawn0.step)⟩
         ·rw [if_neg c9] at H
          have c9b0 : (Op.bytesLess (((rd_T55 l0 (ji4)).f0).toList) (((rd_T55 l0 x6_1).f0).toList)) = false := by simpa using c9
          clear c9
          obtain rfl := Option.some.inj H
          have p518 : 0 ≤ ((ji4) : Int) := of_decide_eq_true (by first | (with_reducible assumption) | assumption)
          have q518 : (ji4) < (l0.length : Int) := of_decide_eq_true (by first | (with_reducible assumption) | assumption)
          obtain ⟨ad518, e518, hx518_0, hx518_1⟩ := at_T55 HR0.out (ji4) p518 q518
          cases e518
          replace p518 := eq_true p518
          replace q518 := eq_true q518
          have p519 : 0 ≤ (x6_1 : Int) := of_decide_eq_true (by first | (with_reducible assumption) | assumption)
          have q519 : x6_1 < (l0.length : Int) := of_decide_eq_true (by first | (with_reducible assumption) | assumption)
          obtain ⟨ad519, e519, hx519_0, hx519_1⟩ := at_T55 HR0.out x6_1 p519 q519
          obtain rfl : ad518 = ad519 := (by injection e519)
          replace p519 := eq_true p519
          replace q519 := eq_true q519
          go_wp2
          repeat (go_quiet (fail); try go_wp2)
          go_ret
          exact ⟨by first | rfl | (simp; done) | (simp only [← hji4] <;> (first | rfl | simp)) | (simp [*]; done), by repeat (first | exact Drawn0.refl _ | apply Drawn0.step)⟩
        ·rw [if_neg c8] at H
         exact absurd H (by simp)
       ·rw [if_neg c7] at H
        exact absurd H (by simp)
      ·rw [if_neg c6] at H
       exact absurd H (by simp)
     ·rw [if_neg c5] at H
      exact absurd H (by simp)
    ·rw [if_neg c3] at H
     have c3b0 : decide (0 < x6_1) = false := decide_eq_false c3
     clear c3
     have H' := Aside0.mk H
     clear H
     go_wp2
     repeat (go_quiet (fail); try go_wp2)
     go_roundg k1
     case measure => have := HK1.out; omega
     case rel => exact ⟨(wrap64 (x6_1 + 1)), (by first | rfl | (simp; done) | (simp [*]; done)), H', ⟨by have := HK1.out; omega⟩, by repeat (first | exact Drawn0.refl _ | apply Drawn0.step)⟩
   ·rw [if_neg c2] at H
    have c2b0 : decide (x6_1 < (l0.length : Int)) = false := decide_eq_false c2
    clear c2
    obtain rfl := Option.some.inj H
    go_wp2
    repeat (go_quiet (fail); try go_wp2)
    go_ret
    exact ⟨by first | rfl | (simp; done) | (simp [*]; done), by repeat (first | exact Drawn0.refl _ | apply Drawn0.step)⟩
end Go.Proofs.Ytidaiafmhidooaa.P
end
section
namespace Go.Proofs.Ytidaiafmhidooaa.P
open Go.RowKit Go.Proofs.YtidaiafmhidooaaW.PrintWords Go.Proofs.YtidaiafmhidooaaW.PrintLast Go.Proofs.YtidaiafmhidooaaW.PrintMore Go.Proofs.Ytidaiafmhidooaa.Own
open Go.Proofs.YtidaiafmhidooaaW.PrintWords renaming pw_below_drewN → wN, below_drew1 → w1, below_alloc → wA, below_step → wT, below_size → wZ
open List renaming map_toArray → mA1, map_cons → mA2, map_nil → mA3, length_take → mA4, length_drop → mA5
attribute [local go_sem] max2_str max2_int min2_int max_two min_two max_three min_three max_four min_four   -- for this text's walks alone
set_option linter.unusedVariables false
set_option linter.unusedSimpArgs false
attribute [local go_sem high] eqA33
def catchmentref05_Rises.l0 : Nat → List (S55) → Int → Option (Bool)
 | 0, _, _ => none
 | k + 1, x0, x3 => if x3 < (x0.length : Int) then (if 0 ≤ (wrap64 (x3 - 1)) then (if (wrap64 (x3 - 1)) < (x0.length : Int) then (if 0 ≤ x3 then (if ((Op.bytesLess (((rd_T55 x0 (wrap64 (x3 - 1))).f0).toList) (((rd_T55 x0 x3).f0).toList)) = true) then (catchmentref05_Rises.l0 k x0 (wrap64 (x3 + 1))) else (some false)) else (none)) else (none)) else (none)) else (some true)
def catchmentref05_Rises.f (k : Nat) (l0 : List (S55)) : Option (Bool) := catchmentref05_Rises.l0 k l0 1
set_option maxHeartbeats 8000000 in
set_option maxRecDepth 100000 in
theorem catchmentref05_Rises.calls (k : Nat) (A0 : Option Addr) (c0 : Nat) (l0 : List (S55)) (r : Bool) (w : World) (hr0 : Kd.C k55 w A0 l0.length l0) (hc0 : l0.length ≤ c0) (h : catchmentref05_Rises.f k l0 = some r) :
  Calls Try.prog 41 #[.slice A0 l0.length c0] w fun e w' => e = .returned (.bool r) ∧ Drawn0 w w' := by
 have HR0 := Aside0.mk hr0
 have HC0 := Aside0.mk hc0
 clear hr0 hc0
 have H : (catchmentref05_Rises.l0 k l0 1) = some r := h
 clear h
 have H' := Aside0.mk H
 clear H
 go_enter Try.func41, Try.ntmps41
 go_wp2
 repeat (go_quiet (fail); try go_wp2)
 go_loopg [3] k (fun kq v3 w' => ∃ (x3_1 : Int), v3 = .int .i64 x3_1 ∧ Aside0 (catchmentref05_Rises.l0 kq l0 x3_1 = some r) ∧ Aside0 (kq ≤ k) ∧ Drawn0 w w')
 case atStart => exact ⟨(1), (by first | rfl | (simp; done) | (simp [*]; done)), H', ⟨Nat.le_refl _⟩, by repeat (first | exact Drawn0.refl _ | apply Drawn0.step)⟩
 case round =>
  clear H'
  obtain ⟨x3_1, rfl, HA, HK1, ⟨m1, rfl⟩⟩ := hrel
  cases gk with
  | zero => exact absurd HA.out (by simp [catchmentref05_Rises.l0])
  | succ k1 =>
   have H := HA.out
   clear HA
   simp only [catchmentref05_Rises.l0] at H
   by_cases c2 : x3_1 < (l0.length : Int)
   ·rw [if_pos c2] at H
    have c2b0 : decide (x3_1 < (l0.length : Int)) = true := decide_eq_true c2
    clear c2
    obtain ⟨ji3, hji3⟩ : ∃ j_ : Int, (wrap64 (x3_1 - 1)) = j_ := ⟨_, rfl⟩
    replace H : (if 0 ≤ (ji3) then (if (ji3) < (l0.length : Int) then (if 0 ≤ x3_1 then (if ((Op.bytesLess (((rd_T55 l0 (ji3)).f0).toList) (((rd_T55 l0 x3_1).f0).toList)) = true) then (catchmentref05_Rises.l0 k1 l0 (wrap64 (x3_1 + 1))) else (some false)) else (none)) else (none)) else (none)) = some r := by first | (rw [hji3] at H; exact H) | (simp only [hji3] at H ⊢; exact H)
    have hji3w : (IntKind.i64.wrap (x3_1 - 1)) = ji3 := (i64_w _).trans hji3
    by_cases c4 : 0 ≤ (ji3)
    ·rw [if_pos c4] at H
     have c4b0 : decide (0 ≤ (ji3)) = true := decide_eq_true c4
     clear c4
     by_cases c5 : (ji3) < (l0.length : Int)
     ·rw [if_pos c5] at H
      have c5b0 : decide ((ji3) < (l0.length : Int)) = true := decide_eq_true c5
      clear c5
      by_cases c6 : 0 ≤ x3_1
      ·rw [if_pos c6] at H
       have c6b0 : decide (0 ≤ x3_1) = true := decide_eq_true c6
       clear c6
       by_cases c7 : ((Op.bytesLess (((rd_T55 l0 (ji3)).f0).toList) (((rd_T55 l0 x3_1).f0).toList)) = true)
       ·rw [if_pos c7] at H
        have c7b0 : (Op.bytesLess (((rd_T55 l0 (ji3)).f0).toList) (((rd_T55 l0 x3_1).f0).toList)) = true := c7
        clear c7
        have H' := Aside0.mk H
        clear H
        have p542 : 0 ≤ ((ji3) : Int) := of_decide_eq_true (by first | (with_reducible assumption) | assumption)
        have q542 : (ji3) < (l0.length : Int) := of_decide_eq_true (by first | (with_reducible assumption) | assumption)
        obtain ⟨ad542, e542, hx542_0, hx542_1⟩ := at_T55 HR0.out (ji3) p542 q542
        cases e542
        replace p542 := eq_true p542
        replace q542 := eq_true q542
        have p543 : 0 ≤ (x3_1 : Int) := of_decide_eq_true (by first | (with_reducible assumption) | assumption)
        have q543 : x3_1 < (l0.length : Int) := of_decide_eq_true (by first | (with_reducible assumption) | assumption)
        obtain ⟨ad543, e543, hx543_0, hx543_1⟩ := at_T55 HR0.out x3_1 p543 q543
        obtain rfl : ad542 = ad543 := (by injection e543)
        replace p543 := eq_true p543
        replace q543 := eq_true q543
        go_wp2
        repeat (go_quiet (fail); try go_wp2)
        go_roundg k1
        case measure => have := HK1.out; omega
        case rel => exact ⟨(wrap64 (x3_1 + 1)), (by first | rfl | (simp; done) | (simp [*]; done)), H', ⟨by have := HK1.out; omega⟩, by repeat (first | exact Drawn0.refl _ | apply Drawn0.step)⟩
       ·rw [if_neg c7] at H
        have c7b0 : (Op.bytesLess (((rd_T55 l0 (ji3)).f0).toList) (((rd_T55 l0 x3_1).f0).toList)) = false := by simpa using c7
        clear c7
        obtain rfl := Option.some.inj H
        have p542 : 0 ≤ ((ji3) : Int) := of_decide_eq_true (by first | (with_reducible assumption) | assumption)
        have q542 : (ji3) < (l0.length : Int) := of_decide_eq_true (by first | (with_reducible assumption) | assumption)
        obtain ⟨ad542, e542, hx542_0, hx542_1⟩ := at_T55 HR0.out (ji3) p542 q542
        cases e542
        replace p542 := eq_true p542
        replace q542 := eq_true q542
        have p543 : 0 ≤ (x3_1 : Int) := of_decide_eq_true (by first | (with_reducible assumption) | assumption)
        have q543 : x3_1 < (l0.length : Int) := of_decide_eq_true (by first | (with_reducible assumption) | assumption)
        obtain ⟨ad543, e543, hx543_0, hx543_1⟩ := at_T55 HR0.out x3_1 p543 q543
        obtain rfl : ad542 = ad543 := (by injection e543)
        replace p543 := eq_true p543
        replace q543 := eq_true q543
        go_wp2
        repeat (go_quiet (fail); try go_wp2)
        go_ret
        exact ⟨by first | rfl | (simp; done) | (simp only [← hji3] <;> (first | rfl | simp)) | (simp [*]; done), by repeat (first | exact Drawn0.refl _ | apply Drawn0.step)⟩
      ·rw [if_neg c6] at H
       exact absurd H (by simp)
     ·rw [if_neg c5] at H
      exact absurd H (by simp)
    ·rw [if_neg c4] at H
     exact absurd H (by simp)
   ·rw [if_neg c2] at H
    have c2b0 : decide (x3_1 < (l0.length : Int)) = false := decide_eq_false c2
    clear c2
    obtain rfl := Option.some.inj H
    go_wp2
    repeat (go_quiet (fail); try go_wp2)
    go_ret
    exact ⟨by first | rfl | (simp; done) | (simp [*]; done), by repeat (first | exact Drawn0.refl _ | apply Drawn0.step)⟩
end Go.Proofs.Ytidaiafmhidooaa.P
end
section
set_option linter.unusedVariables false
set_option linter.unusedSimpArgs false
namespace Go.Proofs.Ytidaiafmhidooaa.P
open Go.RowKit Go.Proofs.YtidaiafmhidooaaW.PrintWords Go.Proofs.YtidaiafmhidooaaW.PrintLast Go.Proofs.YtidaiafmhidooaaW.PrintMore Go.Proofs.Ytidaiafmhidooaa.Own Go.Proofs.Ytidaiafmhidooaa
theorem ba_ext {a b : ByteArray} (h : a.toList = b.toList) : a = b := by
  rw [Lib.toList_data, Lib.toList_data] at h
  cases a; cases b
  simp only [ByteArray.mk.injEq]
  exact Array.toList_inj.1 h
theorem ba_eq {a b : ByteArray} : a.toList = b.toList ↔ a = b := ⟨ba_ext, fun h => by rw [h]⟩
theorem ba_append (a b : ByteArray) : (a ++ b).toList = a.toList ++ b.toList := by
  rw [Lib.toList_data, Lib.toList_data, Lib.toList_data]
  simp
theorem ba_mk (l : Array UInt8) : (⟨l⟩ : ByteArray).toList = l.toList := by rw [Lib.toList_data]
end Go.Proofs.Ytidaiafmhidooaa.P
end
section
set_option linter.unusedVariables false
set_option linter.unusedSimpArgs false
namespace Go.Proofs.Ytidaiafmhidooaa.P
open Go.RowKit Go.Proofs.YtidaiafmhidooaaW.PrintWords Go.Proofs.YtidaiafmhidooaaW.PrintLast Go.Proofs.YtidaiafmhidooaaW.PrintMore Go.Proofs.Ytidaiafmhidooaa.Own Go.Proofs.Ytidaiafmhidooaa
def lt (a b : ByteArray) : Bool := Op.bytesLess a.toList b.toList
def emp (a : ByteArray) : Bool := decide (a.toList = [])
def same (a b : ByteArray) : Bool := decide (a.toList = b.toList)
abbrev e0 : ByteArray := ⟨#[]⟩
theorem same_iff {a b : ByteArray} : same a b = true ↔ a = b := by simp [same, ba_eq]
def isPt (k : Int) : Bool := decide (k = 1 ∨ k = 2 ∨ k = 3)
def rr (f t : ByteArray) : Bool := emp t || lt f t
def holds (f t s : ByteArray) : Bool := !lt s f && (emp t || lt s t)
def before (a b : ByteArray) : Bool := !emp a && (emp b || lt a b)
def succB (a : ByteArray) : ByteArray := a ++ ⟨#[0]⟩
def span (k : Int) (y t : ByteArray) : ByteArray × ByteArray := if isPt k = true then (y, succB y) else if k = 4 then (y, t) else (e0, e0)
theorem isPt_ne4 {k : Int} (h : isPt k = true) : ¬ k = 4 := by
  simp only [isPt, decide_eq_true_eq] at h
  omega
theorem lt_irrefl (a : ByteArray) : lt a a = false := Bo.irrefl _
theorem lt_trans {a b c : ByteArray} (h : lt a b = true) (k : lt b c = true) : lt a c = true := Bo.trans h k
theorem lt_tri (a b : ByteArray) : lt a b = true ∨ a = b ∨ lt b a = true := by
  rcases Bo.le_or a.toList b.toList with h | h | h
  · exact .inl h
  · exact .inr (.inl (ba_ext h))
  · exact .inr (.inr h)
theorem le_trans {s b c : ByteArray} (h : lt s b = false) (k : lt b c = false) : lt s c = false := by
  cases q : lt s c with
  | false => rfl
  | true =>
    rcases lt_tri s b with h1 | h1 | h1
    · rw [h] at h1; cases h1
    · subst h1; rw [k] at q; cases q
    · rw [lt_trans h1 q] at k; cases k
def ah (s t : ByteArray) : Bool := emp t || lt s t
theorem holds_def (y t s : ByteArray) : holds y t s = (!lt s y && ah s t) := rfl
theorem ah_lt {s t x : ByteArray} (h : lt s x = true) (k : ah x t = true) : ah s t = true := by
  unfold ah at *
  cases he : emp t
  · rw [he] at k
    simp only [Bool.false_or] at k ⊢
    exact lt_trans h k
  · rfl
def norm (v : ByteArray) (is : Bool) : ByteArray := if is = true then v else e0
end Go.Proofs.Ytidaiafmhidooaa.P
end
section
set_option linter.unusedVariables false
set_option linter.unusedSimpArgs false
namespace Go.Proofs.Ytidaiafmhidooaa.P
open Go.RowKit Go.Proofs.YtidaiafmhidooaaW.PrintWords Go.Proofs.YtidaiafmhidooaaW.PrintLast Go.Proofs.YtidaiafmhidooaaW.PrintMore Go.Proofs.Ytidaiafmhidooaa.Own Go.Proofs.Ytidaiafmhidooaa
def eight (n : Int) : List Int := [n / 72057594037927936 % 256, n / 281474976710656 % 256, n / 1099511627776 % 256, n / 4294967296 % 256, n / 16777216 % 256, n / 65536 % 256, n / 256 % 256, n % 256]
theorem sON_cons (x : Int) (l : List Int) : strOfNums [x] ++ strOfNums l = strOfNums (x :: l) := by
  apply ba_ext
  rw [ba_append]
  simp [strOfNums, ba_mk]
theorem sON_nil : (⟨#[]⟩ : ByteArray) = strOfNums [] := rfl
theorem put_step (k : Nat) (x : Int) (l : List Int) (i : Int) (h0 : 0 ≤ i) (h8 : i < 8) (hx : 0 ≤ x) (hx2 : x < 18446744073709551616) (hl : l.length ≤ 8) :
    catchmentref03_Put.l0 (k + 1) x (strOfNums l) i = catchmentref03_Put.l0 k (x / 256) (strOfNums ((x % 256) :: l)) (i + 1) := by
  simp only [catchmentref03_Put.l0]
  rw [if_pos h8]
  simp only [Option.bind_some]
  have e1 : (strOfNums [Int.tmod x 256 % 256]).size + (strOfNums l).size ≤ 9223372036854775807 := by
    rw [strOfNums_size, strOfNums_size]; simp; omega
  rw [if_pos e1, sON_cons]
  have e2 : Int.tmod x 256 % 256 = x % 256 := by
    rw [Int.tmod_eq_emod_of_nonneg hx]; omega
  have e3 : IntKind.u64.wrap (Int.tdiv x 256) = x / 256 := by
    rw [Int.tdiv_eq_ediv_of_nonneg hx]
    exact IntWalk.u64_in _ (by omega)
  have e4 : wrap64 (i + 1) = i + 1 := IntWalk.wrap64_in _ (by omega)
  rw [e2, e3, e4]
theorem put_end (k : Nat) (x : Int) (l : ByteArray) : catchmentref03_Put.l0 (k + 1) x l 8 = some l := by
  simp only [catchmentref03_Put.l0]
  rw [if_neg (by omega)]
theorem eight_div (x : Int) : [x / 256 / 256 / 256 / 256 / 256 / 256 / 256 % 256, x / 256 / 256 / 256 / 256 / 256 / 256 % 256, x / 256 / 256 / 256 / 256 / 256 % 256, x / 256 / 256 / 256 / 256 % 256, x / 256 / 256 / 256 % 256, x / 256 / 256 % 256, x / 256 % 256, x % 256] = eight x := by
  unfold eight
  simp only [List.cons.injEq, and_true]
  refine ⟨by omega, by omega, by omega, by omega, by omega, by omega⟩
theorem ref03_Put_eq (k : Nat) (x : Int) (hx : 0 ≤ x) (hx2 : x < 18446744073709551616) : catchmentref03_Put.f (k + 9) x = some (strOfNums (eight x)) := by
  unfold catchmentref03_Put.f
  rw [sON_nil]
  rw [put_step _ _ _ _ (by omega) (by omega) (by omega) (by omega) (by simp), put_step _ _ _ _ (by omega) (by omega) (by omega) (by omega) (by simp), put_step _ _ _ _ (by omega) (by omega) (by omega) (by omega) (by simp), put_step _ _ _ _ (by omega) (by omega) (by omega) (by omega) (by simp), put_step _ _ _ _ (by omega) (by omega) (by omega) (by omega) (by simp), put_step _ _ _ _ (by omega) (by omega) (by omega) (by omega) (by simp), put_step _ _ _ _ (by omega) (by omega) (by omega) (by omega) (by simp), put_step _ _ _ _ (by omega) (by omega) (by omega) (by omega) (by simp)]
  rw [show (0 + 1 + 1 + 1 + 1 + 1 + 1 + 1 + 1 : Int) = 8 from rfl, put_end, eight_div]
def valN (s : ByteArray) : Nat → Int
  | 0 => 0
  | n + 1 => valN s n * 256 + bt s n
theorem valN_range (s : ByteArray) (n : Nat) : 0 ≤ valN s n ∧ valN s n < 256 ^ n := by
  induction n with
  | zero => simp [valN]
  | succ n ih =>
    have := bt_range s n
    simp only [valN, Int.pow_succ]
    omega
theorem pow_le : ∀ n : Nat, n < 8 → (256 : Int) ^ n ≤ 72057594037927936 := by decide
theorem take_step3 (k : Nat) (s : ByteArray) (hs : s.size = 8) (n : Nat) (hn : n < 8) : catchmentref03_Take.l0 (k + 1) s (valN s n) n = catchmentref03_Take.l0 k s (valN s (n + 1)) ((n + 1 : Nat) : Int) := by
  have hv := valN_range s n
  have hb := bt_range s n
  have hp := pow_le n hn
  have hv2 : valN s n < 72057594037927936 := by omega
  simp only [catchmentref03_Take.l0]
  rw [if_pos (by omega), if_pos (by omega), if_pos (by omega)]
  rw [IntWalk.u64_in (valN s n * 256) (by omega), IntWalk.u64_in (bt s n) (by omega), IntWalk.u64_in _ (by omega), IntWalk.wrap64_in _ (by omega)]
  rfl
theorem ref03_Take_eq (k : Nat) (s : ByteArray) : catchmentref03_Take.f (k + 9) s = some (if s.size = 8 then (valN s 8, true) else (0, false)) := by
  unfold catchmentref03_Take.f
  by_cases h : s.size = 8
  · rw [if_pos (by omega), if_pos h]
    have s0 := take_step3 (k + 8) s h 0 (by omega)
    have s1 := take_step3 (k + 7) s h 1 (by omega)
    have s2 := take_step3 (k + 6) s h 2 (by omega)
    have s3 := take_step3 (k + 5) s h 3 (by omega)
    have s4 := take_step3 (k + 4) s h 4 (by omega)
    have s5 := take_step3 (k + 3) s h 5 (by omega)
    have s6 := take_step3 (k + 2) s h 6 (by omega)
    have s7 := take_step3 (k + 1) s h 7 (by omega)
    refine s0.trans (s1.trans (s2.trans (s3.trans (s4.trans (s5.trans (s6.trans (s7.trans ?_)))))))
    simp only [catchmentref03_Take.l0]
    rw [if_neg (by omega)]
  · rw [if_neg (by omega), if_neg h]
def addV (v : ByteArray) (is : Bool) (d : Int) : ByteArray :=
  if is = true then (if v.size = 8 then strOfNums (eight (IntKind.u64.wrap (valN v 8 + d))) else v) else strOfNums (eight d)
theorem u64_wrap_range (x : Int) : 0 ≤ IntKind.u64.wrap x ∧ IntKind.u64.wrap x < 18446744073709551616 := by
  simp only [IntKind.wrap, IntKind.signed, IntKind.bits]
  constructor <;> simp <;> omega
theorem ref03_Add_eq (k : Nat) (v : ByteArray) (is : Bool) (d : Int) (h0 : 0 ≤ d) (h1 : d < 18446744073709551616) : catchmentref03_Add.f (k + 9) v is d = some (addV v is d) := by
  unfold catchmentref03_Add.f addV
  rw [ref03_Take_eq, ref03_Put_eq _ _ h0 h1]
  cases is
  · simp
  · by_cases h : v.size = 8
    · simp only [h, if_true, Option.bind_some]
      have := u64_wrap_range (valN v 8 + d)
      rw [ref03_Put_eq _ _ this.1 this.2]
      rfl
    · simp [h]
theorem Point_eq (k q : Int) (y t v : ByteArray) (d : Int) : catchmentref04_Point.f k q y t v d = some (isPt k) := by
  unfold catchmentref04_Point.f isPt
  by_cases h : k ≥ 1
  · rw [if_pos h]
    congr 1
    rw [decide_eq_decide]
    omega
  · rw [if_neg h]
    congr 1
    symm
    rw [decide_eq_false_iff_not]
    omega
def touches (k : Int) (y t s : ByteArray) : Bool := (isPt k && same y s) || (decide (k = 4) && holds y t s)
def applyV (k : Int) (vv : ByteArray) (d : Int) (v : ByteArray) (is : Bool) : ByteArray × Bool :=
  if k = 1 then (vv, true) else if k = 3 then (addV v is d, true) else if k = 2 ∨ k = 4 then (e0, false) else if is = true then (v, true) else (e0, false)
def onV (k : Int) (y t vv : ByteArray) (d : Int) (s v : ByteArray) (is : Bool) : ByteArray × Bool :=
  if touches k y t s = true then applyV k vv d v is else if is = true then (v, true) else (e0, false)
theorem ref04_Touches_eq (k q : Int) (y t v : ByteArray) (d : Int) (s : ByteArray) : catchmentref04_Touches.f k q y t v d s = some (touches k y t s) := by
  unfold catchmentref04_Touches.f touches
  rw [Point_eq]
  simp only [Option.bind_some]
  cases hp : isPt k with
  | false =>
    by_cases h4 : k = 4
    · subst h4
      unfold holds lt emp
      by_cases h1 : Op.bytesLess s.toList y.toList = true
      · simp [h1]
      · by_cases h2 : t.toList = [] <;> simp [h1, h2]
    · simp [h4]
  | true =>
    simp only [if_true, Bool.true_and, Option.some.injEq]
    have h4 := isPt_ne4 hp
    simp only [h4, decide_false, Bool.false_and, Bool.or_false, same]
    rw [Bool.eq_iff_iff]
    simp
theorem ref04_On_eq (n : Nat) (k q : Int) (y t vv : ByteArray) (d : Int) (s v : ByteArray) (is : Bool) (h0 : 0 ≤ d) (h1 : d < 18446744073709551616) : catchmentref04_On.f (n + 10) k q y t vv d s v is = some (onV k y t vv d s v is) := by
  have key : ∀ v', (is = true → v' = v) → (is = false → v' = e0) → catchmentref04_On.j0 (n + 10) s v' is k q y t vv d = some (onV k y t vv d s v is) := by
    intro v' hv1 hv2
    simp only [catchmentref04_On.j0]
    rw [ref04_Touches_eq]
    simp only [Option.bind_some]
    unfold onV applyV
    rw [ref03_Add_eq _ _ _ _ h0 h1]
    cases ht : touches k y t s with
    | false => cases is <;> simp_all
    | true =>
      by_cases k1 : k = 1
      · simp [k1]
      · by_cases k3 : k = 3
        · cases is <;> simp_all [addV]
        · have k24 : k = 2 ∨ k = 4 := by
            simp only [touches, isPt, Bool.or_eq_true, Bool.and_eq_true, decide_eq_true_eq] at ht
            omega
          simp [k1, k3, k24]
  unfold catchmentref04_On.f
  cases is
  · simp only [Bool.false_eq_true, if_false]
    exact key _ (by simp) (by simp)
  · simp only [if_true]
    exact key _ (by simp) (by simp)
end Go.Proofs.Ytidaiafmhidooaa.P
end
section
namespace Go.Proofs.Ytidaiafmhidooaa.P
open Go.RowKit Go.Proofs.YtidaiafmhidooaaW.PrintWords Go.Proofs.YtidaiafmhidooaaW.PrintLast Go.Proofs.YtidaiafmhidooaaW.PrintMore Go.Proofs.Ytidaiafmhidooaa.Own
open Bool renaming true → YY, false → ZZ
open Go.Proofs.YtidaiafmhidooaaW.PrintWords renaming blk_cell → bC, blk_frozen → bF, blk_drewN → bN, blk_alloc → bA, pw_below_drewN → wN, blk_drew → bD, below_drew1 → w1, below_set → wS, below_alloc → wA, blk_below → bB, below_step → wT, below_size → wZ
open List renaming setIfInBounds_toArray → sA1, set_cons_zero → sA2, set_cons_succ → sA3, map_toArray → mA1, map_cons → mA2, map_nil → mA3, length_take → mA4, length_drop → mA5
attribute [local go_sem] max2_str max2_int min2_int max_two min_two max_three min_three max_four min_four   -- for this text's walks alone
set_option linter.unusedVariables false
set_option linter.unusedSimpArgs false
end Go.Proofs.Ytidaiafmhidooaa.P
end
section
set_option linter.unusedVariables false
set_option linter.unusedSimpArgs false
namespace Go.Proofs.Ytidaiafmhidooaa.P
open Go.RowKit Go.Proofs.YtidaiafmhidooaaW.PrintWords Go.Proofs.YtidaiafmhidooaaW.PrintLast Go.Proofs.YtidaiafmhidooaaW.PrintMore Go.Proofs.Ytidaiafmhidooaa.Own Go.Proofs.Ytidaiafmhidooaa
abbrev Ms := S33
abbrev En := S55
theorem drop_any {α : Type} {L l : List α} {i : Nat} {x : α} (hd : L.drop i = x :: l) : i < L.length ∧ L[i]? = some x ∧ L.drop (i + 1) = l ∧ L.take (i + 1) = L.take i ++ [x] ∧ x ∈ L := by
  have hlt : i < L.length := by
    rcases Nat.lt_or_ge i L.length with h | h
    · exact h
    · rw [List.drop_eq_nil_of_le h] at hd; cases hd
  have hx : L[i]? = some x := by
    have := congrArg (fun z => z[0]?) hd
    simpa using this
  refine ⟨hlt, hx, ?_, ?_, List.mem_of_getElem? hx⟩
  · have := congrArg (List.drop 1) hd
    simpa [List.drop_drop] using this
  · rw [List.take_add_one, hx]; rfl
theorem drop_none {α : Type} {L : List α} {i : Nat} (hd : L.drop i = []) (hi : i ≤ L.length) : i = L.length := by
  have := congrArg List.length hd
  simp at this
  omega
theorem rdS_at {L : List ByteArray} {i : Nat} {x : ByteArray} (h : L[i]? = some x) : rdOf ByteArray.empty L (i : Int) = x := by
  show L.getD ((i : Int).toNat) _ = x
  rw [Int.toNat_natCast, List.getD_eq_getElem?_getD, h]; rfl
theorem rdE_at {L : List En} {i : Nat} {x : En} (h : L[i]? = some x) : rd_T55 L (i : Int) = x := by
  show L.getD ((i : Int).toNat) _ = x
  rw [Int.toNat_natCast, List.getD_eq_getElem?_getD, h]; rfl
theorem rdM_at {L : List Ms} {i : Nat} {x : Ms} (h : L[i]? = some x) : rd_T33 L (i : Int) = x := by
  show L.getD ((i : Int).toNat) _ = x
  rw [Int.toNat_natCast, List.getD_eq_getElem?_getD, h]; rfl
theorem wrap1 {i : Nat} (h : i ≤ 1000000) : wrap64 ((i : Int) + 1) = ((i + 1 : Nat) : Int) := by rw [IntWalk.wrap64_in _ (by omega)]; omega
def intoV : List ByteArray → ByteArray → List ByteArray
  | [], s => [s]
  | x :: l, s => if lt x s = true then x :: intoV l s else if same x s = true then x :: l else s :: x :: l
theorem intoV_length (s : ByteArray) : ∀ L : List ByteArray, (intoV L s).length ≤ L.length + 1
  | [] => by simp [intoV]
  | x :: l => by
    have := intoV_length s l
    simp only [intoV]
    split
    · simp; omega
    · split <;> simp
theorem Into_loop (L : List ByteArray) (s : ByteArray) (hL : L.length ≤ 1000000) : ∀ (l : List ByteArray) (k i : Nat), L.drop i = l → i ≤ L.length → l.length < k → catchmentref05_Into.l0 k L s i = some (L.take i ++ intoV l s) := by
  intro l
  induction l with
  | nil =>
    intro k i hd hi hk
    obtain ⟨k, rfl⟩ : ∃ m, k = m + 1 := ⟨k - 1, by simp at hk; omega⟩
    obtain rfl := drop_none hd hi
    rw [catchmentref05_Into.l0, if_neg (by omega)]
    simp only [Option.bind_some]
    rw [if_pos (by omega), if_pos (by omega), if_pos (by simp; omega), if_pos (by simp; omega), if_pos (by simp; omega)]
    simp [intoV]
  | cons x l ih =>
    intro k i hd hi hk
    obtain ⟨k, rfl⟩ : ∃ m, k = m + 1 := ⟨k - 1, by simp at hk; omega⟩
    obtain ⟨hlt, hx, hd2, ht, _⟩ := drop_any hd
    rw [catchmentref05_Into.l0, if_pos (by omega), if_pos (by omega), rdS_at hx, wrap1 (by omega)]
    have e1 : ((i : Int)).toNat = i := by omega
    unfold intoV lt same
    by_cases h1 : Op.bytesLess x.toList s.toList = true
    · rw [if_pos h1, if_pos h1, ih k (i + 1) hd2 (by omega) (by simp at hk; omega), ht]
      simp
    · rw [if_neg h1, if_neg h1]
      by_cases h2 : x.toList = s.toList
      · rw [if_pos h2, if_pos (by simpa using h2), ← hd, List.take_append_drop]
      · rw [if_neg h2, if_neg (by simpa using h2)]
        simp only [Option.bind_some]
        rw [if_pos (by omega), if_pos (by simp; omega), if_pos (by simp; omega), if_pos (by simp; omega), e1, hd]
        simp
theorem Into_eq (k : Nat) (L : List ByteArray) (s : ByteArray) (hL : L.length ≤ 1000000) (hk : L.length < k) : catchmentref05_Into.f k L s = some (intoV L s) := by
  have := Into_loop L s hL L k 0 rfl (by omega) hk
  simpa [catchmentref05_Into.f] using this
def keysFrom : List ByteArray → List Ms → List ByteArray
  | o, [] => o
  | o, m :: l => keysFrom (if isPt m.f0 = true then intoV o m.f2 else o) l
def keysV (l : List Ms) : List ByteArray := keysFrom [] l
theorem keysFrom_length : ∀ (l : List Ms) (o : List ByteArray), (keysFrom o l).length ≤ o.length + l.length
  | [], o => by simp [keysFrom]
  | m :: l, o => by
    have h1 := keysFrom_length l (if isPt m.f0 = true then intoV o m.f2 else o)
    have h2 := intoV_length m.f2 o
    simp only [keysFrom, List.length_cons]
    by_cases h : isPt m.f0 = true
    · rw [if_pos h] at h1 ⊢; omega
    · rw [if_neg h] at h1 ⊢; omega
theorem Keys_loop (L : List Ms) (hL : L.length ≤ 100000) : ∀ (l : List Ms) (k i : Nat) (o : List ByteArray), L.drop i = l → i ≤ L.length → o.length + l.length ≤ 100000 → o.length + l.length + l.length < k → catchmentref05_Keys.l0 k L o i = some (keysFrom o l) := by
  intro l
  induction l with
  | nil =>
    intro k i o hd hi ho hk
    obtain ⟨k, rfl⟩ : ∃ m, k = m + 1 := ⟨k - 1, by omega⟩
    obtain rfl := drop_none hd hi
    rw [catchmentref05_Keys.l0, if_neg (by omega)]
    rfl
  | cons x l ih =>
    intro k i o hd hi ho hk
    simp only [List.length_cons] at ho hk
    obtain ⟨k, rfl⟩ : ∃ m, k = m + 1 := ⟨k - 1, by omega⟩
    obtain ⟨hlt, hx, hd2, _, _⟩ := drop_any hd
    have hlen := intoV_length x.f2 o
    rw [catchmentref05_Keys.l0, if_pos (by omega), if_pos (by omega), rdM_at hx, wrap1 (by omega), Point_eq, Into_eq _ _ _ (by omega) (by omega)]
    simp only [Option.bind_some, keysFrom]
    by_cases h : isPt x.f0 = true
    · rw [if_pos h, if_pos h]
      exact ih k (i + 1) _ hd2 (by omega) (by omega) (by omega)
    · rw [if_neg h, if_neg h]
      exact ih k (i + 1) _ hd2 (by omega) (by omega) (by omega)
theorem Keys_eq (k : Nat) (l : List Ms) (hl : l.length ≤ 100000) (hk : 2 * l.length < k) : catchmentref05_Keys.f k l = some (keysV l) :=
  Keys_loop l hl l k 0 [] rfl (by omega) (by simp; omega) (by simp; omega)
def findV : List En → ByteArray → ByteArray × Bool
  | [], _ => (e0, false)
  | x :: l, s => if same x.f0 s = true then (x.f1, true) else findV l s
theorem Find_loop (L : List En) (s : ByteArray) (hL : L.length ≤ 1000000) : ∀ (l : List En) (k i : Nat), L.drop i = l → i ≤ L.length → l.length < k → catchmentref05_Find.l0 k L s i = some (findV l s) := by
  intro l
  induction l with
  | nil =>
    intro k i hd hi hk
    obtain ⟨k, rfl⟩ : ∃ m, k = m + 1 := ⟨k - 1, by omega⟩
    obtain rfl := drop_none hd hi
    rw [catchmentref05_Find.l0, if_neg (by omega)]
    rfl
  | cons x l ih =>
    intro k i hd hi hk
    simp only [List.length_cons] at hk
    obtain ⟨k, rfl⟩ : ∃ m, k = m + 1 := ⟨k - 1, by omega⟩
    obtain ⟨hlt, hx, hd2, _, _⟩ := drop_any hd
    rw [catchmentref05_Find.l0, if_pos (by omega), if_pos (by omega), rdE_at hx, wrap1 (by omega), ih k (i + 1) hd2 (by omega) (by omega)]
    have hs : same x.f0 s = decide (x.f0.toList = s.toList) := rfl
    simp only [findV]
    by_cases h : x.f0.toList = s.toList
    · rw [if_pos h, if_pos (by simpa [hs] using h)]
    · rw [if_neg h, if_neg (by simpa [hs] using h)]
theorem Find_eq (k : Nat) (e : List En) (s : ByteArray) (he : e.length ≤ 1000000) (hk : e.length < k) : catchmentref05_Find.f k e s = some (findV e s) :=
  Find_loop e s he e k 0 rfl (by omega) hk
def onM (m : Ms) (s : ByteArray) (p : ByteArray × Bool) : ByteArray × Bool := onV m.f0 m.f2 m.f3 m.f4 m.f5 s p.1 p.2
def doAll (s : ByteArray) : List Ms → ByteArray × Bool → ByteArray × Bool
  | [], p => p
  | m :: l, p => doAll s l (onM m s p)
def valueV (l : List Ms) (s v : ByteArray) (is : Bool) : ByteArray × Bool := doAll s l (norm v is, is)
def okD (m : Ms) : Prop := 0 ≤ m.f5 ∧ m.f5 < 18446744073709551616
theorem Value_loop (L : List Ms) (s : ByteArray) (hL : L.length ≤ 1000000) (hD : ∀ m ∈ L, okD m) : ∀ (l : List Ms) (k i : Nat) (v : ByteArray) (is : Bool), L.drop i = l → i ≤ L.length → l.length + 11 < k → catchmentref05_Value.l0 k L s v is i = some (doAll s l (v, is)) := by
  intro l
  induction l with
  | nil =>
    intro k i v is hd hi hk
    obtain ⟨k, rfl⟩ : ∃ m, k = m + 1 := ⟨k - 1, by omega⟩
    obtain rfl := drop_none hd hi
    rw [catchmentref05_Value.l0, if_neg (by omega)]
    rfl
  | cons x l ih =>
    intro k i v is hd hi hk
    simp only [List.length_cons] at hk
    obtain ⟨k, rfl⟩ : ∃ m, k = m + 11 := ⟨k - 11, by omega⟩
    obtain ⟨hlt, hx, hd2, _, hm⟩ := drop_any hd
    have hd0 := hD x hm
    rw [catchmentref05_Value.l0, if_pos (by omega), if_pos (by omega), rdM_at hx, wrap1 (by omega), ref04_On_eq k _ _ _ _ _ _ _ _ _ hd0.1 hd0.2]
    simp only [Option.bind_some]
    exact ih (k + 10) (i + 1) _ _ hd2 (by omega) (by omega)
theorem Value_eq (k : Nat) (l : List Ms) (s v : ByteArray) (is : Bool) (hl : l.length ≤ 1000000) (hD : ∀ m ∈ l, okD m) (hk : l.length + 12 < k) : catchmentref05_Value.f k l s v is = some (valueV l s v is) := by
  obtain ⟨k, rfl⟩ : ∃ m, k = m + 1 := ⟨k - 1, by omega⟩
  unfold catchmentref05_Value.f catchmentref05_Value.j0 valueV norm
  cases is
  · simp only [Bool.false_eq_true, if_false]
    exact Value_loop l s hl hD l k 0 _ _ rfl (by omega) (by omega)
  · simp only [if_true]
    exact Value_loop l s hl hD l k 0 _ _ rfl (by omega) (by omega)
def risesV : List En → Bool
  | [] => true
  | [_] => true
  | x :: y :: l => lt x.f0 y.f0 && risesV (y :: l)
theorem Rises_loop (L : List En) (hL : L.length ≤ 1000000) : ∀ (l : List En) (i k : Nat) (x : En), L.drop (i + 1) = l → L[i]? = some x → l.length < k → catchmentref05_Rises.l0 k L ((i : Int) + 1) = some (risesV (x :: l)) := by
  intro l
  induction l with
  | nil =>
    intro i k x hd hx hk
    obtain ⟨k, rfl⟩ : ∃ m, k = m + 1 := ⟨k - 1, by omega⟩
    have hlen : L.length ≤ i + 1 := by have := congrArg List.length hd; simp at this; omega
    rw [catchmentref05_Rises.l0, if_neg (by omega)]
    rfl
  | cons y l ih =>
    intro i k x hd hx hk
    simp only [List.length_cons] at hk
    obtain ⟨k, rfl⟩ : ∃ m, k = m + 1 := ⟨k - 1, by omega⟩
    obtain ⟨hlt, hy, hd2, _, _⟩ := drop_any hd
    rw [catchmentref05_Rises.l0]
    rw [if_pos (by omega), IntWalk.wrap64_in ((i : Int) + 1 - 1) (by omega), if_pos (by omega), if_pos (by omega), if_pos (by omega)]
    rw [show (i : Int) + 1 - 1 = (i : Int) by omega, rdE_at hx, show (i : Int) + 1 = ((i + 1 : Nat) : Int) by omega, rdE_at hy, IntWalk.wrap64_in _ (by omega)]
    rw [ih (i + 1) k y hd2 hy (by omega)]
    show (if lt x.f0 y.f0 = true then _ else _) = some (lt x.f0 y.f0 && risesV (y :: l))
    cases lt x.f0 y.f0 <;> rfl
theorem Rises_eq (k : Nat) (L : List En) (hL : L.length ≤ 1000000) (hk : L.length + 1 < k) : catchmentref05_Rises.f k L = some (risesV L) := by
  unfold catchmentref05_Rises.f
  cases L with
  | nil =>
    obtain ⟨k, rfl⟩ : ∃ m, k = m + 1 := ⟨k - 1, by omega⟩
    rw [catchmentref05_Rises.l0, if_neg (by simp)]
    rfl
  | cons x l =>
    have := Rises_loop (x :: l) hL l 0 k x rfl rfl (by simp at hk; omega)
    exact this
end Go.Proofs.Ytidaiafmhidooaa.P
end
