/- Texts of one claim (laid by shake.py). -/
import Derived.Test.YtljnlnbopohghaaZWa4
set_option linter.unusedVariables false
set_option linter.unusedSimpArgs false
section
namespace Go.Proofs.Ytljnlnbopohghaa.P
open Go.RowKit Go.Proofs.YtljnlnbopohghaaW.PrintWords Go.Proofs.YtljnlnbopohghaaW.PrintLast Go.Proofs.YtljnlnbopohghaaW.PrintMore Go.Proofs.Ytljnlnbopohghaa.Own
open Go.Proofs.YtljnlnbopohghaaW.PrintWords renaming blk_cell → bC, blk_frozen → bF, pw_below_drewN → wN, below_drew1 → w1, below_set → wS, below_alloc → wA, below_step → wT, below_size → wZ, blk_drewN → bN, blk_alloc → bA, blk_drew → bD, blk_below → bB
attribute [local go_sem] max2_str max2_int min2_int max_two min_two max_three min_three max_four min_four   -- for this text's walks alone
open List renaming setIfInBounds_toArray → sA1, set_cons_zero → sA2, set_cons_succ → sA3, map_toArray → mA1, map_cons → mA2, map_nil → mA3, length_take → mA4, length_drop → mA5
def catchmentlaw28_few.f (a0_0 : Int) (a0_1 a0_2 : BA) (a0_3 : Int) (l0_4 : List (S117)) : Option (Bool) := some (decide ((l0_4.length : Int) ≤ 20))
set_option maxHeartbeats 8000000 in
set_option maxRecDepth 100000 in
theorem catchmentlaw28_few.calls (a0_0 : Int) (a0_1 a0_2 : BA) (a0_3 : Int) (A0_4 : Option Addr) (c0_4 : Nat) (l0_4 : List (S117)) (r : Bool) (w : World) (hr0_4 : Kd.C k117 w A0_4 l0_4.length l0_4) (hc0_4 : l0_4.length ≤ c0_4) (h : catchmentlaw28_few.f a0_0 a0_1 a0_2 a0_3 l0_4 = some r) :
  Calls Try.prog 36 #[.agg #[.int .u8 a0_0, .string a0_1, .string a0_2, .int .i64 a0_3, .slice A0_4 l0_4.length c0_4]] w fun e w' => e = .returned (.bool r) ∧ Below w.heap.size w w' := by
 have hu56 := Try.underlying56
 have HR0_4 := aK_ hr0_4
 have HC0_4 := aK_ hc0_4
 clear hr0_4 hc0_4
 have HB := aK_ (Below.refl w.heap.size w)
 have H : (some (decide ((l0_4.length : Int) ≤ 20))) = some r := h
 clear h
 obtain rfl := Option.some.inj H
 go_enter Try.func36, Try.ntmps36
 go_wp2_with (first | ((with_reducible refine gate_dst (N := 1) rfl ?_); refine bE_ 1 #[.int .u8 a0_0, .string a0_1, .string a0_2, .int .i64 a0_3, .slice A0_4 l0_4.length c0_4] 56 ?_; intro gb225 hg w2 hbox hb; have BK225 := aK_ (hbox); have GW225 := aK_ (gE_ hg); replace HB := aK_ (wT bW_ hb); have GE225 := GW225; clear hb hbox hg; have hz3 := cq5_ BK225.out))
 go_ret
 exact ⟨eR_, bS1_ GE225.out⟩
def catchmentref21_zero.f (a0_0 : Int) (a0_1 a0_2 : BA) (a0_3 : Int) (l0_4 : List (S117)) : Option (Bool) := if a0_0 = 1 then (if a0_0 = 3 then (if a0_0 = 2 then (some true) else (some ((l0_4.length : Int) == 0))) else (if a0_0 = 5 then (if a0_0 = 4 then (if a0_0 = 2 then (some true) else (some ((l0_4.length : Int) == 0))) else (if a0_2.toList = ([] : List UInt8) then (if a0_0 = 2 then (some true) else (some ((l0_4.length : Int) == 0))) else (some false))) else (if a0_0 = 4 then (if a0_0 = 6 then (if a0_0 = 2 then (some true) else (some ((l0_4.length : Int) == 0))) else (if a0_3 = 0 then (if a0_0 = 2 then (some true) else (some ((l0_4.length : Int) == 0))) else (some false))) else (if a0_2.toList = ([] : List UInt8) then (if a0_0 = 6 then (if a0_0 = 2 then (some true) else (some ((l0_4.length : Int) == 0))) else (if a0_3 = 0 then (if a0_0 = 2 then (some true) else (some ((l0_4.length : Int) == 0))) else (some false))) else (some false))))) else (if a0_0 = 3 then (if a0_0 = 2 then (some true) else (some ((l0_4.length : Int) == 0))) else (if a0_0 = 5 then (if a0_0 = 4 then (if a0_0 = 2 then (some true) else (some ((l0_4.length : Int) == 0))) else (if a0_1.toList = ([] : List UInt8) then (if a0_2.toList = ([] : List UInt8) then (if a0_0 = 2 then (some true) else (some ((l0_4.length : Int) == 0))) else (some false)) else (some false))) else (if a0_0 = 4 then (if a0_0 = 6 then (if a0_0 = 2 then (some true) else (some ((l0_4.length : Int) == 0))) else (if a0_3 = 0 then (if a0_0 = 2 then (some true) else (some ((l0_4.length : Int) == 0))) else (some false))) else (if a0_1.toList = ([] : List UInt8) then (if a0_2.toList = ([] : List UInt8) then (if a0_0 = 6 then (if a0_0 = 2 then (some true) else (some ((l0_4.length : Int) == 0))) else (if a0_3 = 0 then (if a0_0 = 2 then (some true) else (some ((l0_4.length : Int) == 0))) else (some false))) else (some false)) else (some false)))))
set_option maxHeartbeats 8000000 in
set_option maxRecDepth 100000 in
theorem catchmentref21_zero.calls (a0_0 : Int) (a0_1 a0_2 : BA) (a0_3 : Int) (A0_4 : Option Addr) (c0_4 : Nat) (l0_4 : List (S117)) (r : Bool) (w : World) (hr0_4 : Kd.C k117 w A0_4 l0_4.length l0_4) (hc0_4 : l0_4.length ≤ c0_4) (h : catchmentref21_zero.f a0_0 a0_1 a0_2 a0_3 l0_4 = some r) :
  Calls Try.prog 60 #[.agg #[.int .u8 a0_0, .string a0_1, .string a0_2, .int .i64 a0_3, .slice A0_4 l0_4.length c0_4]] w fun e w' => e = .returned (.bool r) ∧ Below w.heap.size w w' := by
 have hu := Try.underlying56
 have hA := aK_ h
 clear h hr0_4 hc0_4
 go_enter Try.func60, Try.ntmps60
 go_wp2
 all_goals
  go_ret
  refine ⟨?_, below_alloc (Below.refl _ _) _⟩
  have h := hA.out
  unfold catchmentref21_zero.f at h
  simp_all
def catchmentref04_Point.f (a0_0 a0_1 : Int) (a0_2 a0_3 a0_4 : BA) (a0_5 : Int) : Option (Bool) := if a0_0 ≥ 1 then (some (decide (a0_0 ≤ 3))) else (some false)
set_option maxHeartbeats 8000000 in
set_option maxRecDepth 100000 in
theorem catchmentref04_Point.calls (a0_0 a0_1 : Int) (a0_2 a0_3 a0_4 : BA) (a0_5 : Int) (r : Bool) (w : World) (h : catchmentref04_Point.f a0_0 a0_1 a0_2 a0_3 a0_4 a0_5 = some r) :
  Calls Try.prog 91 #[.agg #[.int .u8 a0_0, .int .i64 a0_1, .string a0_2, .string a0_3, .string a0_4, .int .u64 a0_5]] w fun e w' => e = .returned (.bool r) ∧ Below w.heap.size w w' := by
 have hu117 := Try.underlying117
 have HB := aK_ (Below.refl w.heap.size w)
 have H : (if a0_0 ≥ 1 then (some (decide (a0_0 ≤ 3))) else (some false)) = some r := h
 clear h
 by_cases c2 : a0_0 ≥ 1
 ·rw [if_pos c2] at H
  have c2b0 : decide (1 ≤ a0_0) = true := decide_eq_true c2
  clear c2
  obtain rfl := Option.some.inj H
  go_enter Try.func91, Try.ntmps91
  go_wp2_with (first | ((with_reducible refine gate_dst (N := 1) rfl ?_); refine bE_ 1 #[.int .u8 a0_0, .int .i64 a0_1, .string a0_2, .string a0_3, .string a0_4, .int .u64 a0_5] 117 ?_; intro gb227 hg w3 hbox hb; have BK227 := aK_ (hbox); have GW227 := aK_ (gE_ hg); replace HB := aK_ (wT bW_ hb); have GE227 := GW227; clear hb hbox hg; have hz4 := cq6_ BK227.out))
  go_ret
  exact ⟨eR_, bS1_ GE227.out⟩
 rw [if_neg c2] at H
 have c2b0 : decide (1 ≤ a0_0) = false := decide_eq_false c2
 clear c2
 obtain rfl := Option.some.inj H
 go_enter Try.func91, Try.ntmps91
 go_wp2_with (first | ((with_reducible refine gate_dst (N := 1) rfl ?_); refine bE_ 1 #[.int .u8 a0_0, .int .i64 a0_1, .string a0_2, .string a0_3, .string a0_4, .int .u64 a0_5] 117 ?_; intro gb227 hg w5 hbox hb; have BK227 := aK_ (hbox); have GW227 := aK_ (gE_ hg); replace HB := aK_ (wT bW_ hb); have GE227 := GW227; clear hb hbox hg; have hz6 := cq6_ BK227.out))
 go_ret
 exact ⟨eR_, bS1_ GE227.out⟩
def catchmentref05_Find.l0 : Nat → List (S103) → ByteArray → Int → Option (ByteArray × Bool)
 | 0, _, _, _ => none
 | k + 1, x0, x1, x6 => if x6 < (x0.length : Int) then (if 0 ≤ x6 then (if ((rd_T103 x0 x6).f0).toList = x1.toList then (some ((rd_T103 x0 x6).f1, true)) else (catchmentref05_Find.l0 k x0 x1 (wrap64 (x6 + 1)))) else (none)) else (some ((⟨#[]⟩ : BA), false))
def catchmentref05_Find.f (k : Nat) (l0 : List (S103)) (a1 : BA) : Option (ByteArray × Bool) := catchmentref05_Find.l0 k l0 a1 0
set_option maxHeartbeats 8000000 in
set_option maxRecDepth 100000 in
theorem catchmentref05_Find.calls (k : Nat) (A0 : Option Addr) (c0 : Nat) (l0 : List (S103)) (a1 r1 : BA) (r2 : Bool) (w : World) (hr0 : Kd.C k103 w A0 l0.length l0) (hc0 : l0.length ≤ c0) (h : catchmentref05_Find.f k l0 a1 = some (r1, r2)) :
  Calls Try.prog 27 #[.slice A0 l0.length c0, .string a1] w fun e w' => e = .returned (.tuple #[.string r1, .bool r2]) ∧ Drawn0 w w' := by
 have HR0 := aK_ hr0
 have HC0 := aK_ hc0
 clear hr0 hc0
 have H : (catchmentref05_Find.l0 k l0 a1 0) = some (r1, r2) := h
 clear h
 have H' := aK_ H; clear H
 go_enter Try.func27, Try.ntmps27
 go_wp2
 go_loopg [6] k (fun kq v6 w' => ∃ (x6_1 : Int), v6 = .int .i64 x6_1 ∧ Aside0 (catchmentref05_Find.l0 kq l0 a1 x6_1 = some (r1, r2)) ∧ Aside0 (kq ≤ k) ∧ Drawn0 w w')
 case atStart => exact ⟨(0), rZ_, H', ⟨Nat.le_refl _⟩, by repeat (first | exact Drawn0.refl _ | apply Drawn0.step)⟩
 clear H'
 try clear c2
 try clear p2
 obtain ⟨x6_1, rfl, HA, HK1, ⟨m1, rfl⟩⟩ := hrel
 cases gk with
 | zero => exact absurd HA.out (by simp [catchmentref05_Find.l0])
 | succ k1 => ?_
 have H := HA.out
 clear HA
 simp only [catchmentref05_Find.l0] at H
 by_cases c3 : x6_1 < (l0.length : Int)
 ·rw [if_pos c3] at H
  have c3b0 := decide_eq_true c3
  clear c3
  by_cases c4 : 0 ≤ x6_1
  ·rw [if_pos c4] at H
   have c4b0 := decide_eq_true c4
   clear c4
   by_cases c5 : ((rd_T103 l0 x6_1).f0).toList = a1.toList
   ·rw [if_pos c5] at H
    have c5b0 := beq_iff_eq.mpr c5
    have c5b1 := bne_eq_false_iff_eq.mpr c5
    clear c5
    simp only [Option.some.injEq, Prod.mk.injEq] at H
    obtain ⟨rfl, rfl⟩ := H
    have p237 : 0 ≤ (x6_1 : Int) := pD_
    have q237 : x6_1 < (l0.length : Int) := pD_
    obtain ⟨ad237, e237, hx237_0, hx237_1⟩ := at_T103 HR0.out x6_1 p237 q237
    cases e237
    replace p237 := eq_true p237
    replace q237 := eq_true q237
    have p238 : 0 ≤ (x6_1 : Int) := pD_
    have q238 : x6_1 < (l0.length : Int) := pD_
    obtain ⟨ad238, e238, hx238_0, hx238_1⟩ := at_T103 HR0.out x6_1 p238 q238
    obtain rfl : ad237 = ad238 := (by injection e238)
    replace p238 := eq_true p238
    replace q238 := eq_true q238
    go_wp2
    go_ret2
    exact ⟨rZ_, by repeat (first | exact Drawn0.refl _ | apply Drawn0.step)⟩
   rw [if_neg c5] at H
   have c5b0 := beq_eq_false_iff_ne.mpr c5
   have c5b1 := bne_iff_ne.mpr c5
   have H' := aK_ H; clear H
   have p237 : 0 ≤ (x6_1 : Int) := pD_
   have q237 : x6_1 < (l0.length : Int) := pD_
   obtain ⟨ad237, e237, hx237_0, hx237_1⟩ := at_T103 HR0.out x6_1 p237 q237
   cases e237
   replace p237 := eq_true p237
   replace q237 := eq_true q237
   go_wp2
   go_roundg k1
   case measure => have := HK1.out; omega
   case rel => exact ⟨(wrap64 (x6_1 + 1)), rZ_, H', ⟨by have := HK1.out; omega⟩, by repeat (first | exact Drawn0.refl _ | apply Drawn0.step)⟩
  rw [if_neg c4] at H
  exact absurd H (by simp)
 rw [if_neg c3] at H
 have c3b0 := decide_eq_false c3
 clear c3
 simp only [Option.some.injEq, Prod.mk.injEq] at H
 obtain ⟨rfl, rfl⟩ := H
 go_wp2
 go_ret2
 exact ⟨rZ_, by repeat (first | exact Drawn0.refl _ | apply Drawn0.step)⟩
def catchmentref04_Touches.f (a0_0 a0_1 : Int) (a0_2 a0_3 a0_4 : BA) (a0_5 : Int) (a1 : BA) : Option (Bool) := (catchmentref04_Point.f a0_0 a0_1 a0_2 a0_3 a0_4 a0_5).bind fun t240 => (if t240 = true then (some (a0_2.toList == a1.toList)) else (if a0_0 = 4 then (if ((Op.bytesLess a1.toList a0_2.toList) = true) then (some false) else (if a0_3.toList = ([] : List UInt8) then (some true) else (some (Op.bytesLess a1.toList a0_3.toList)))) else (some false)))
set_option maxHeartbeats 8000000 in
set_option maxRecDepth 100000 in
theorem catchmentref04_Touches.calls (a0_0 a0_1 : Int) (a0_2 a0_3 a0_4 : BA) (a0_5 : Int) (a1 : BA) (r : Bool) (w : World) (h : catchmentref04_Touches.f a0_0 a0_1 a0_2 a0_3 a0_4 a0_5 a1 = some r) :
  Calls Try.prog 92 #[.agg #[.int .u8 a0_0, .int .i64 a0_1, .string a0_2, .string a0_3, .string a0_4, .int .u64 a0_5], .string a1] w fun e w' => e = .returned (.bool r) ∧ Below w.heap.size w w' := by
 have hu117 := Try.underlying117
 have HB := aK_ (Below.refl w.heap.size w)
 have H : ((catchmentref04_Point.f a0_0 a0_1 a0_2 a0_3 a0_4 a0_5).bind fun t240 => (if t240 = true then (some (a0_2.toList == a1.toList)) else (if a0_0 = 4 then (if ((Op.bytesLess a1.toList a0_2.toList) = true) then (some false) else (if a0_3.toList = ([] : List UInt8) then (some true) else (some (Op.bytesLess a1.toList a0_3.toList)))) else (some false)))) = some r := h
 clear h
 replace H := Option.bind_eq_some_iff.mp H
 obtain ⟨t240, A30, H⟩ := H
 replace H : (if t240 = true then (some (a0_2.toList == a1.toList)) else (if a0_0 = 4 then (if ((Op.bytesLess a1.toList a0_2.toList) = true) then (some false) else (if a0_3.toList = ([] : List UInt8) then (some true) else (some (Op.bytesLess a1.toList a0_3.toList)))) else (some false))) = some r := H
 have A3 := aK_ A30
 clear A30
 by_cases c4 : t240 = true
 ·subst c4
  have H1 : (some (a0_2.toList == a1.toList)) = some r := by rw [if_pos rfl] at H; exact H
  clear H
  have H := H1
  clear H1
  obtain rfl := Option.some.inj H
  go_enter Try.func92, Try.ntmps92
  go_wp2_with (first | ((with_reducible refine gate_dst (N := 2) rfl ?_); refine bE_ 2 #[.int .u8 a0_0, .int .i64 a0_1, .string a0_2, .string a0_3, .string a0_4, .int .u64 a0_5] 117 ?_; intro gb239 hg w5 hbox hb; have BK239 := aK_ (hbox); have GW239 := aK_ (gE_ hg); replace HB := aK_ (wT bW_ hb); have GE239 := GW239; clear hb hbox hg; have hz6 := cq6_ BK239.out) | ((with_reducible refine gate_callee (f := 91) rfl ?_); refine goesL_ (some 6) rfl rfl Try.func91 (by kernel_rfl) rfl #[.agg #[.int .u8 a0_0, .int .i64 a0_1, .string a0_2, .string a0_3, .string a0_4, .int .u64 a0_5]] rfl mS_ ?_; (with_reducible refine (catchmentref04_Point.calls a0_0 a0_1 a0_2 a0_3 a0_4 a0_5 true _ A3.out).mono ?_); rintro e w7 ⟨rfl, hb⟩; refine ⟨_, rfl, ?_⟩; replace BK239 := aK_ (bB (bX_ BK239.out) hb); replace HB := aK_ (wT (bS1_ GE239.out) hb); (try clear hb); (try clear hb2); (try clear hk); (try clear hi); have hz8 := cq6_ BK239.out))
  go_ret
  exact ⟨eR_, bS1_ GE239.out⟩
 replace c4 := Bool.eq_false_iff.mpr c4
 subst c4
 have H1 : (if a0_0 = 4 then (if ((Op.bytesLess a1.toList a0_2.toList) = true) then (some false) else (if a0_3.toList = ([] : List UInt8) then (some true) else (some (Op.bytesLess a1.toList a0_3.toList)))) else (some false)) = some r := by rw [if_neg (show ¬ (false = true) by decide)] at H; exact H
 clear H
 have H := H1
 clear H1
 by_cases c9 : a0_0 = 4
 ·rw [if_pos c9] at H
  have c9b0 := beq_iff_eq.mpr c9
  have c9b1 := bne_eq_false_iff_eq.mpr c9
  clear c9
  by_cases c10 : ((Op.bytesLess a1.toList a0_2.toList) = true)
  ·rw [if_pos c10] at H
   have c10b0 : (Op.bytesLess a1.toList a0_2.toList) = true := c10
   clear c10
   obtain rfl := Option.some.inj H
   go_enter Try.func92, Try.ntmps92
   go_wp2_with (first | ((with_reducible refine gate_dst (N := 2) rfl ?_); refine bE_ 2 #[.int .u8 a0_0, .int .i64 a0_1, .string a0_2, .string a0_3, .string a0_4, .int .u64 a0_5] 117 ?_; intro gb239 hg w11 hbox hb; have BK239 := aK_ (hbox); have GW239 := aK_ (gE_ hg); replace HB := aK_ (wT bW_ hb); have GE239 := GW239; clear hb hbox hg; have hz12 := cq6_ BK239.out) | ((with_reducible refine gate_callee (f := 91) rfl ?_); refine goesL_ (some 6) rfl rfl Try.func91 (by kernel_rfl) rfl #[.agg #[.int .u8 a0_0, .int .i64 a0_1, .string a0_2, .string a0_3, .string a0_4, .int .u64 a0_5]] rfl mS_ ?_; (with_reducible refine (catchmentref04_Point.calls a0_0 a0_1 a0_2 a0_3 a0_4 a0_5 false _ A3.out).mono ?_); rintro e w13 ⟨rfl, hb⟩; refine ⟨_, rfl, ?_⟩; replace BK239 := aK_ (bB (bX_ BK239.out) hb); replace HB := aK_ (wT (bS1_ GE239.out) hb); (try clear hb); (try clear hb2); (try clear hk); (try clear hi); have hz14 := cq6_ BK239.out))
   go_ret
   exact ⟨eR_, bS1_ GE239.out⟩
  rw [if_neg c10] at H
  have c10b0 : (Op.bytesLess a1.toList a0_2.toList) = false := by simpa using c10
  clear c10
  by_cases c15 : a0_3.toList = ([] : List UInt8)
  ·rw [if_pos c15] at H
   have c15b0 := beq_iff_eq.mpr c15
   have c15b1 := bne_eq_false_iff_eq.mpr c15
   clear c15
   obtain rfl := Option.some.inj H
   go_enter Try.func92, Try.ntmps92
   go_wp2_with (first | ((with_reducible refine gate_dst (N := 2) rfl ?_); refine bE_ 2 #[.int .u8 a0_0, .int .i64 a0_1, .string a0_2, .string a0_3, .string a0_4, .int .u64 a0_5] 117 ?_; intro gb239 hg w16 hbox hb; have BK239 := aK_ (hbox); have GW239 := aK_ (gE_ hg); replace HB := aK_ (wT bW_ hb); have GE239 := GW239; clear hb hbox hg; have hz17 := cq6_ BK239.out) | ((with_reducible refine gate_callee (f := 91) rfl ?_); refine goesL_ (some 6) rfl rfl Try.func91 (by kernel_rfl) rfl #[.agg #[.int .u8 a0_0, .int .i64 a0_1, .string a0_2, .string a0_3, .string a0_4, .int .u64 a0_5]] rfl mS_ ?_; (with_reducible refine (catchmentref04_Point.calls a0_0 a0_1 a0_2 a0_3 a0_4 a0_5 false _ A3.out).mono ?_); rintro e w18 ⟨rfl, hb⟩; refine ⟨_, rfl, ?_⟩; replace BK239 := aK_ (bB (bX_ BK239.out) hb); replace HB := aK_ (wT (bS1_ GE239.out) hb); (try clear hb); (try clear hb2); (try clear hk); (try clear hi); have hz19 := cq6_ BK239.out))
   go_ret
   exact ⟨eR_, bS1_ GE239.out⟩
  rw [if_neg c15] at H
  have c15b0 := beq_eq_false_iff_ne.mpr c15
  have c15b1 := bne_iff_ne.mpr c15
  obtain rfl := Option.some.inj H
  go_enter Try.func92, Try.ntmps92
  go_wp2_with (first | ((with_reducible refine gate_dst (N := 2) rfl ?_); refine bE_ 2 #[.int .u8 a0_0, .int .i64 a0_1, .string a0_2, .string a0_3, .string a0_4, .int .u64 a0_5] 117 ?_; intro gb239 hg w20 hbox hb; have BK239 := aK_ (hbox); have GW239 := aK_ (gE_ hg); replace HB := aK_ (wT bW_ hb); have GE239 := GW239; clear hb hbox hg; have hz21 := cq6_ BK239.out) | ((with_reducible refine gate_callee (f := 91) rfl ?_); refine goesL_ (some 6) rfl rfl Try.func91 (by kernel_rfl) rfl #[.agg #[.int .u8 a0_0, .int .i64 a0_1, .string a0_2, .string a0_3, .string a0_4, .int .u64 a0_5]] rfl mS_ ?_; (with_reducible refine (catchmentref04_Point.calls a0_0 a0_1 a0_2 a0_3 a0_4 a0_5 false _ A3.out).mono ?_); rintro e w22 ⟨rfl, hb⟩; refine ⟨_, rfl, ?_⟩; replace BK239 := aK_ (bB (bX_ BK239.out) hb); replace HB := aK_ (wT (bS1_ GE239.out) hb); (try clear hb); (try clear hb2); (try clear hk); (try clear hi); have hz23 := cq6_ BK239.out))
  go_ret
  exact ⟨eR_, bS1_ GE239.out⟩
 rw [if_neg c9] at H
 have c9b0 := beq_eq_false_iff_ne.mpr c9
 have c9b1 := bne_iff_ne.mpr c9
 obtain rfl := Option.some.inj H
 go_enter Try.func92, Try.ntmps92
 go_wp2_with (first | ((with_reducible refine gate_dst (N := 2) rfl ?_); refine bE_ 2 #[.int .u8 a0_0, .int .i64 a0_1, .string a0_2, .string a0_3, .string a0_4, .int .u64 a0_5] 117 ?_; intro gb239 hg w24 hbox hb; have BK239 := aK_ (hbox); have GW239 := aK_ (gE_ hg); replace HB := aK_ (wT bW_ hb); have GE239 := GW239; clear hb hbox hg; have hz25 := cq6_ BK239.out) | ((with_reducible refine gate_callee (f := 91) rfl ?_); refine goesL_ (some 6) rfl rfl Try.func91 (by kernel_rfl) rfl #[.agg #[.int .u8 a0_0, .int .i64 a0_1, .string a0_2, .string a0_3, .string a0_4, .int .u64 a0_5]] rfl mS_ ?_; (with_reducible refine (catchmentref04_Point.calls a0_0 a0_1 a0_2 a0_3 a0_4 a0_5 false _ A3.out).mono ?_); rintro e w26 ⟨rfl, hb⟩; refine ⟨_, rfl, ?_⟩; replace BK239 := aK_ (bB (bX_ BK239.out) hb); replace HB := aK_ (wT (bS1_ GE239.out) hb); (try clear hb); (try clear hb2); (try clear hk); (try clear hi); have hz27 := cq6_ BK239.out))
 go_ret
 exact ⟨eR_, bS1_ GE239.out⟩
def catchmentref03_Put.l0 : Nat → Int → ByteArray → Int → Option (ByteArray)
 | 0, _, _, _ => none
 | k + 1, x0, x3, x4 => if x4 < 8 then ((some (([(Int.tmod x0 256) % 256] : List Int) : List Int)).bind fun y241 => (if (strOfNums y241).size + x3.size ≤ 9223372036854775807 then (catchmentref03_Put.l0 k (IntKind.u64.wrap (Int.tdiv x0 256)) ((strOfNums y241) ++ x3) (wrap64 (x4 + 1))) else (none))) else (some x3)
def catchmentref03_Put.f (k : Nat) (a0 : Int) : Option (ByteArray) := catchmentref03_Put.l0 k a0 (⟨#[]⟩ : BA) 0
set_option maxHeartbeats 8000000 in
set_option maxRecDepth 100000 in
theorem catchmentref03_Put.calls (k : Nat) (a0 : Int) (r : BA) (w : World) (h : catchmentref03_Put.f k a0 = some r) :
  Calls Try.prog 108 #[.int .u64 a0] w fun e w' => e = .returned (.string r) ∧ Below w.heap.size w w' := by
 have HB := aK_ (Below.refl w.heap.size w)
 have H : (catchmentref03_Put.l0 k a0 (⟨#[]⟩ : BA) 0) = some r := h
 clear h
 have H' := aK_ H; clear H
 go_enter Try.func108, Try.ntmps108
 go_wp2
 go_loopg [0, 3, 4] k (fun kq v0 v3 v4 w' => ∃ (x0_1 : Int) (x3_1 : BA) (x4_1 : Int), v0 = .int .u64 x0_1 ∧ v3 = .string x3_1 ∧ v4 = .int .i64 x4_1 ∧ Aside0 (catchmentref03_Put.l0 kq x0_1 x3_1 x4_1 = some r) ∧ Aside0 (kq ≤ k) ∧ Aside0 (Below w.heap.size w w'))
 case atStart => exact ⟨(a0), ((⟨#[]⟩ : BA)), (0), rZ_, rZ_, rZ_, H', ⟨Nat.le_refl _⟩, ⟨bW_⟩⟩
 clear H'
 try clear c1
 obtain ⟨x0_1, x3_1, x4_1, rfl, rfl, rfl, HA, HK1, HB⟩ := hrel
 cases gk with
 | zero => exact absurd HA.out (by simp [catchmentref03_Put.l0])
 | succ k1 => ?_
 have H := HA.out
 clear HA
 simp only [catchmentref03_Put.l0] at H
 by_cases c2 : x4_1 < 8
 ·rw [if_pos c2] at H
  have c2b0 := decide_eq_true c2
  clear c2
  obtain ⟨y241, hy241⟩ : ∃ y_ : List Int, y_ = (([(Int.tmod x0_1 256) % 256] : List Int)) := ⟨_, rfl⟩
  replace H : (if (strOfNums y241).size + x3_1.size ≤ 9223372036854775807 then (catchmentref03_Put.l0 k1 (IntKind.u64.wrap (Int.tdiv x0_1 256)) ((strOfNums y241) ++ x3_1) (wrap64 (x4_1 + 1))) else (none)) = some r := by first | (rw [hy241]; with_reducible exact H) | (have H2_ := (Option.bind_some _ _).symm.trans H; rw [hy241]; with_reducible exact H2_) | (have H2_ := (Option.bind_some _ _).symm.trans H; with_reducible exact H2_) | with_reducible exact H | (rw [hy241]; exact H) | exact H
  have Ny241 := aK_ hy241
  clear hy241
  by_cases c3 : (strOfNums y241).size + x3_1.size ≤ 9223372036854775807
  ·rw [if_pos c3] at H
   have c3b0 := eq_true c3
   have c3b1 := decide_eq_true c3
   try have c3b2 : (9223372036854775807 < (strOfNums y241).size + x3_1.size) = False := eq_false (Nat.not_lt.2 c3)
   have H' := aK_ H; clear H
   go_wp2_with (first | ((with_reducible refine gate_dst (N := 12) rfl ?_); refine Kd.R_lit (Kd.int .u8) _ 5 ?hg (N := 12) ?hd (xs := ([(Int.tmod x0_1 256) % 256] : List Int)) (inner := [.int .u8 ((Int.tmod x0_1 256) % 256)]) (ok := fun _ => True) (okp := fun _ => True) ?hr ?hp (fun _ hk => hk) trivial (Below.refl _ _) (Nat.le_refl _) (by simp) ?_; (case hd => rfl); (case hg => rfl); (case hr => first | (go_simp; done) | (go_simp; rfl)); (case hp => exact (Reps.one (show Kd.M (Kd.int .u8) _ _ _ ((Int.tmod x0_1 256) % 256) [.int .u8 ((Int.tmod x0_1 256) % 256)] from rfl) (Reps.none _ _))); intro v242 w4 ho5 hb hg_ hnew_; clear hg_ hnew_; (first | rw [← Ny241.out] at ho5 | (simp only [Int.reduceToNat] at ho5; rw [← Ny241.out] at ho5)); have HO243 := aK_ (Kd.R_lower ho5 (wZ bW_)); replace HB := aK_ (wT bW_ hb); clear hb ho5; have hcv6 := own_string (P := Try.prog) Try.underlying187 Try.underlying5 Try.underlying9 (Kd.own_of_R HO243.out)))
   go_roundg k1
   case measure => have := HK1.out; omega
   case rel => exact ⟨(IntKind.u64.wrap (Int.tdiv x0_1 256)), ((strOfNums y241) ++ x3_1), (wrap64 (x4_1 + 1)), rZ_, rZ_, rZ_, H', ⟨by have := HK1.out; omega⟩, ⟨bW_⟩⟩
  rw [if_neg c3] at H
  exact absurd H (by simp)
 rw [if_neg c2] at H
 have c2b0 := decide_eq_false c2
 clear c2
 obtain rfl := Option.some.inj H
 go_wp2
 go_ret
 exact ⟨eR_, bW_⟩
def catchmentref03_Take.l0 : Nat → ByteArray → Int → Int → Option (Int × Bool)
 | 0, _, _, _ => none
 | k + 1, x0, x4, x5 => if x5 < 8 then (if 0 ≤ x5 then (if x5 < (x0.size : Int) then (catchmentref03_Take.l0 k x0 (IntKind.u64.wrap ((IntKind.u64.wrap (x4 * 256)) + (IntKind.u64.wrap (bt x0 x5)))) (wrap64 (x5 + 1))) else (none)) else (none)) else (some (x4, true))
def catchmentref03_Take.f (k : Nat) (a0 : BA) : Option (Int × Bool) := if (a0.size : Int) = 8 then (catchmentref03_Take.l0 k a0 0 0) else (some (0, false))
set_option maxHeartbeats 8000000 in
set_option maxRecDepth 100000 in
theorem catchmentref03_Take.calls (k : Nat) (a0 : BA) (r1 : Int) (r2 : Bool) (w : World) (h : catchmentref03_Take.f k a0 = some (r1, r2)) :
  Calls Try.prog 109 #[.string a0] w fun e w' => e = .returned (.tuple #[.int .u64 r1, .bool r2]) ∧ Drawn0 w w' := by
 have H : (if (a0.size : Int) = 8 then (catchmentref03_Take.l0 k a0 0 0) else (some (0, false))) = some (r1, r2) := h
 clear h
 by_cases c2 : (a0.size : Int) = 8
 ·rw [if_pos c2] at H
  have c2b0 := beq_iff_eq.mpr c2
  have c2b1 := bne_eq_false_iff_eq.mpr c2
  clear c2
  have H' := aK_ H; clear H
  go_enter Try.func109, Try.ntmps109
  go_wp2
  go_loopg [4, 5] k (fun kq v4 v5 w' => ∃ (x4_1 : Int) (x5_1 : Int), v4 = .int .u64 x4_1 ∧ v5 = .int .i64 x5_1 ∧ Aside0 (catchmentref03_Take.l0 kq a0 x4_1 x5_1 = some (r1, r2)) ∧ Aside0 (kq ≤ k) ∧ Drawn0 w w')
  case atStart => exact ⟨(0), (0), rZ_, rZ_, H', ⟨Nat.le_refl _⟩, by repeat (first | exact Drawn0.refl _ | apply Drawn0.step)⟩
  clear H'
  try clear c1
  try clear c2
  try clear c2b0
  try clear c2b1
  try clear p2
  obtain ⟨x4_1, x5_1, rfl, rfl, HA, HK1, ⟨m1, rfl⟩⟩ := hrel
  cases gk with
  | zero => exact absurd HA.out (by simp [catchmentref03_Take.l0])
  | succ k1 => ?_
  have H := HA.out
  clear HA
  simp only [catchmentref03_Take.l0] at H
  by_cases c3 : x5_1 < 8
  ·rw [if_pos c3] at H
   have c3b0 := decide_eq_true c3
   clear c3
   by_cases c4 : 0 ≤ x5_1
   ·rw [if_pos c4] at H
    have c4b0 := decide_eq_true c4
    clear c4
    by_cases c5 : x5_1 < (a0.size : Int)
    ·rw [if_pos c5] at H
     have c5b0 := decide_eq_true c5
     clear c5
     have H' := aK_ H; clear H
     have p6 : 0 ≤ (x5_1 : Int) := pD_
     have q6 : x5_1 < (a0.size : Int) := pD_
     have hx6 := bt_at a0 x5_1
     replace p6 := eq_true p6
     replace q6 := eq_true q6
     go_wp2
     go_roundg k1
     case measure => have := HK1.out; omega
     case rel => exact ⟨(IntKind.u64.wrap ((IntKind.u64.wrap (x4_1 * 256)) + (IntKind.u64.wrap (bt a0 x5_1)))), (wrap64 (x5_1 + 1)), rZ_, rZ_, H', ⟨by have := HK1.out; omega⟩, by repeat (first | exact Drawn0.refl _ | apply Drawn0.step)⟩
    rw [if_neg c5] at H
    exact absurd H (by simp)
   rw [if_neg c4] at H
   exact absurd H (by simp)
  rw [if_neg c3] at H
  have c3b0 := decide_eq_false c3
  clear c3
  simp only [Option.some.injEq, Prod.mk.injEq] at H
  obtain ⟨rfl, rfl⟩ := H
  go_wp2
  go_ret2
  exact ⟨rZ_, by repeat (first | exact Drawn0.refl _ | apply Drawn0.step)⟩
 rw [if_neg c2] at H
 have c2b0 := beq_eq_false_iff_ne.mpr c2
 have c2b1 := bne_iff_ne.mpr c2
 simp only [Option.some.injEq, Prod.mk.injEq] at H
 obtain ⟨rfl, rfl⟩ := H
 go_enter Try.func109, Try.ntmps109
 go_wp2
 go_ret2
 exact ⟨rZ_, by repeat (first | exact Drawn0.refl _ | apply Drawn0.step)⟩
def catchmentref03_Add.f (k : Nat) (a0 : BA) (a1 : Bool) (a2 : Int) : Option (ByteArray) := if a1 = true then ((catchmentref03_Take.f k a0).bind fun bt245 => (if bt245.2 = true then ((catchmentref03_Put.f k (IntKind.u64.wrap (bt245.1 + a2))).bind fun t247 => (some t247)) else (some a0))) else ((catchmentref03_Put.f k a2).bind fun t244 => (some t244))
set_option maxHeartbeats 8000000 in
set_option maxRecDepth 100000 in
theorem catchmentref03_Add.calls (k : Nat) (a0 : BA) (a1 : Bool) (a2 : Int) (r : BA) (w : World) (h : catchmentref03_Add.f k a0 a1 a2 = some r) :
  Calls Try.prog 93 #[.string a0, .bool a1, .int .u64 a2] w fun e w' => e = .returned (.string r) ∧ Below w.heap.size w w' := by
 have HB := aK_ (Below.refl w.heap.size w)
 have H : (if a1 = true then ((catchmentref03_Take.f k a0).bind fun bt245 => (if bt245.2 = true then ((catchmentref03_Put.f k (IntKind.u64.wrap (bt245.1 + a2))).bind fun t247 => (some t247)) else (some a0))) else ((catchmentref03_Put.f k a2).bind fun t244 => (some t244))) = some r := h
 clear h
 by_cases c4 : a1 = true
 ·subst c4
  have H1 : ((catchmentref03_Take.f k a0).bind fun bt245 => (if bt245.2 = true then ((catchmentref03_Put.f k (IntKind.u64.wrap (bt245.1 + a2))).bind fun t247 => (some t247)) else (some a0))) = some r := by rw [if_pos rfl] at H; exact H
  clear H
  have H := H1
  clear H1
  replace H := Option.bind_eq_some_iff.mp H
  obtain ⟨⟨t245, t246⟩, A50, H⟩ := H
  replace H : (if t246 = true then ((catchmentref03_Put.f k (IntKind.u64.wrap (t245 + a2))).bind fun t247 => (some t247)) else (some a0)) = some r := H
  have A5 := aK_ A50
  clear A50
  by_cases c6 : t246 = true
  ·subst c6
   have H1 : ((catchmentref03_Put.f k (IntKind.u64.wrap (t245 + a2))).bind fun t247 => (some t247)) = some r := by rw [if_pos rfl] at H; exact H
   clear H
   have H := H1
   clear H1
   replace H := Option.bind_eq_some_iff.mp H
   obtain ⟨t247, A70, H⟩ := H
   replace H : (some t247) = some r := H
   have A7 := aK_ A70
   clear A70
   obtain rfl := Option.some.inj H
   go_enter Try.func93, Try.ntmps93
   go_wp2_with (first | ((with_reducible refine gate_callee (f := 109) rfl ?_); refine goesL_ (some 15) rfl rfl Try.func109 (by kernel_rfl) rfl #[.string a0] rfl mS_ ?_; (with_reducible refine (catchmentref03_Take.calls k a0 t245 true _ A5.out).mono ?_); rintro e w' ⟨rfl, ⟨nd, rfl⟩⟩; refine ⟨_, rfl, ?_⟩) | ((with_reducible refine gate_callee (f := 108) rfl ?_); refine goesL_ (some 22) rfl rfl Try.func108 (by kernel_rfl) rfl #[.int .u64 (IntKind.u64.wrap (t245 + a2))] rfl mS_ ?_; (with_reducible refine (catchmentref03_Put.calls k (IntKind.u64.wrap (t245 + a2)) t247 _ A7.out).mono ?_); rintro e w8 ⟨rfl, hb⟩; refine ⟨_, rfl, ?_⟩; replace HB := aK_ (wT bW_ hb); (try clear hb); (try clear hb2); (try clear hk); (try clear hi)))
   go_ret
   exact ⟨eR_, bW_⟩
  replace c6 := Bool.eq_false_iff.mpr c6
  subst c6
  have H1 : (some a0) = some r := by rw [if_neg (show ¬ (false = true) by decide)] at H; exact H
  clear H
  have H := H1
  clear H1
  obtain rfl := Option.some.inj H
  go_enter Try.func93, Try.ntmps93
  go_wp2_with (first | ((with_reducible refine gate_callee (f := 109) rfl ?_); refine goesL_ (some 15) rfl rfl Try.func109 (by kernel_rfl) rfl #[.string a0] rfl mS_ ?_; (with_reducible refine (catchmentref03_Take.calls k a0 t245 false _ A5.out).mono ?_); rintro e w' ⟨rfl, ⟨nd, rfl⟩⟩; refine ⟨_, rfl, ?_⟩))
  go_ret
  exact ⟨eR_, bW_⟩
 replace c4 := Bool.eq_false_iff.mpr c4
 subst c4
 have H1 : ((catchmentref03_Put.f k a2).bind fun t244 => (some t244)) = some r := by rw [if_neg (show ¬ (false = true) by decide)] at H; exact H
 clear H
 have H := H1
 clear H1
 replace H := Option.bind_eq_some_iff.mp H
 obtain ⟨t244, A90, H⟩ := H
 replace H : (some t244) = some r := H
 have A9 := aK_ A90
 clear A90
 obtain rfl := Option.some.inj H
 go_enter Try.func93, Try.ntmps93
 go_wp2_with (first | ((with_reducible refine gate_callee (f := 108) rfl ?_); refine goesL_ (some 12) rfl rfl Try.func108 (by kernel_rfl) rfl #[.int .u64 a2] rfl mS_ ?_; (with_reducible refine (catchmentref03_Put.calls k a2 t244 _ A9.out).mono ?_); rintro e w10 ⟨rfl, hb⟩; refine ⟨_, rfl, ?_⟩; replace HB := aK_ (wT bW_ hb); (try clear hb); (try clear hb2); (try clear hk); (try clear hi)))
 go_ret
 exact ⟨eR_, bW_⟩
def catchmentref04_On.j0 : Nat → ByteArray → ByteArray → Bool → Int → Int → ByteArray → ByteArray → ByteArray → Int → Option (ByteArray × Bool)
 | 0, _, _, _, _, _, _, _, _, _ => none
 | k + 1, x1, x2, x3, x249000, x249001, x249002, x249003, x249004, x249005 => (catchmentref04_Touches.f x249000 x249001 x249002 x249003 x249004 x249005 x1).bind fun t249 => (if t249 = true then (if x249000 = 1 then (some (x249004, true)) else (if x249000 = 3 then ((catchmentref03_Add.f k x2 x3 x249005).bind fun t250 => (some (t250, true))) else (some ((⟨#[]⟩ : BA), false)))) else (some (x2, x3)))
def catchmentref04_On.f (k : Nat) (a0_0 a0_1 : Int) (a0_2 a0_3 a0_4 : BA) (a0_5 : Int) (a1 a2 : BA) (a3 : Bool) : Option (ByteArray × Bool) := if a3 = true then (catchmentref04_On.j0 k a1 a2 a3 a0_0 a0_1 a0_2 a0_3 a0_4 a0_5) else (catchmentref04_On.j0 k a1 (⟨#[]⟩ : BA) a3 a0_0 a0_1 a0_2 a0_3 a0_4 a0_5)
set_option maxHeartbeats 8000000 in
set_option maxRecDepth 100000 in
theorem catchmentref04_On.calls (k : Nat) (a0_0 a0_1 : Int) (a0_2 a0_3 a0_4 : BA) (a0_5 : Int) (a1 a2 : BA) (a3 : Bool) (r1 : BA) (r2 : Bool) (w : World) (h : catchmentref04_On.f k a0_0 a0_1 a0_2 a0_3 a0_4 a0_5 a1 a2 a3 = some (r1, r2)) :
  Calls Try.prog 62 #[.agg #[.int .u8 a0_0, .int .i64 a0_1, .string a0_2, .string a0_3, .string a0_4, .int .u64 a0_5], .string a1, .string a2, .bool a3] w fun e w' => e = .returned (.tuple #[.string r1, .bool r2]) ∧ Below w.heap.size w w' := by
 have hu117 := Try.underlying117
 have HB := aK_ (Below.refl w.heap.size w)
 have H : (if a3 = true then (catchmentref04_On.j0 k a1 a2 a3 a0_0 a0_1 a0_2 a0_3 a0_4 a0_5) else (catchmentref04_On.j0 k a1 (⟨#[]⟩ : BA) a3 a0_0 a0_1 a0_2 a0_3 a0_4 a0_5)) = some (r1, r2) := h
 clear h
 have HC5 := aK_ H
 clear H
 go_enter Try.func62, Try.ntmps62
 go_upto_if 11 with (first | ((with_reducible refine gate_dst (N := 4) rfl ?_); refine bE_ 4 #[.int .u8 a0_0, .int .i64 a0_1, .string a0_2, .string a0_3, .string a0_4, .int .u64 a0_5] 117 ?_; intro gb248 hg w6 hbox hb; have BK248 := aK_ (hbox); have GW248 := aK_ (gE_ hg); replace HB := aK_ (wT bW_ hb); have GE248 := GW248; clear hb hbox hg))
 (try simp only [Act.put, sA1, sA2, sA3])
 go_cut [2] (fun v2 wc => ∃ (kq : Nat) (x2_4 : BA), v2 = .string x2_4 ∧ Aside0 (catchmentref04_On.j0 kq a1 x2_4 a3 a0_0 a0_1 a0_2 a0_3 a0_4 a0_5 = some (r1, r2)) ∧ Aside0 (kq ≤ k) ∧ Aside0 (wc.heap[gb248]? = some (.cells #[.int .u8 a0_0, .int .i64 a0_1, .string a0_2, .string a0_3, .string a0_4, .int .u64 a0_5] 117 (0, 0))) ∧ Aside0 (Below w.heap.size w wc))
 case first =>
  have H := HC5.out
  clear HC5
  by_cases c7 : a3 = true
  ·subst c7
   have H1 : (catchmentref04_On.j0 k a1 a2 true a0_0 a0_1 a0_2 a0_3 a0_4 a0_5) = some (r1, r2) := by rw [if_pos rfl] at H; exact H
   clear H
   have H := H1
   clear H1
   have H' := aK_ H; clear H
   go_wp2
   go_meet
   case rel => exact ⟨_, (a2), rZ_, H', ⟨oM_⟩, ⟨bX_ BK248.out⟩, ⟨bS1_ GE248.out⟩⟩
  replace c7 := Bool.eq_false_iff.mpr c7
  subst c7
  have H1 : (catchmentref04_On.j0 k a1 (⟨#[]⟩ : BA) false a0_0 a0_1 a0_2 a0_3 a0_4 a0_5) = some (r1, r2) := by rw [if_neg (show ¬ (false = true) by decide)] at H; exact H
  clear H
  have H := H1
  clear H1
  have H' := aK_ H; clear H
  go_wp2
  go_meet
  case rel => exact ⟨_, ((⟨#[]⟩ : BA)), rZ_, H', ⟨oM_⟩, ⟨bX_ BK248.out⟩, ⟨bS1_ GE248.out⟩⟩
 clear HC5
 try clear p2
 try clear c6
 try clear c7
 obtain ⟨kq, x2_4, rfl, HA, HJ4, BK248, HB⟩ := hcut
 cases kq with
 | zero => exact absurd HA.out (by simp [catchmentref04_On.j0])
 | succ kj4 => ?_
 have H := HA.out
 clear HA
 simp only [catchmentref04_On.j0] at H
 replace H := Option.bind_eq_some_iff.mp H
 obtain ⟨t249, A80, H⟩ := H
 replace H : (if t249 = true then (if a0_0 = 1 then (some (a0_4, true)) else (if a0_0 = 3 then ((catchmentref03_Add.f kj4 x2_4 a3 a0_5).bind fun t250 => (some (t250, true))) else (some ((⟨#[]⟩ : BA), false)))) else (some (x2_4, a3))) = some (r1, r2) := H
 have A8 := aK_ A80
 clear A80
 by_cases c9 : t249 = true
 ·subst c9
  have H1 : (if a0_0 = 1 then (some (a0_4, true)) else (if a0_0 = 3 then ((catchmentref03_Add.f kj4 x2_4 a3 a0_5).bind fun t250 => (some (t250, true))) else (some ((⟨#[]⟩ : BA), false)))) = some (r1, r2) := by rw [if_pos rfl] at H; exact H
  clear H
  have H := H1
  clear H1
  by_cases c10 : a0_0 = 1
  ·rw [if_pos c10] at H
   have c10b0 := beq_iff_eq.mpr c10
   have c10b1 := bne_eq_false_iff_eq.mpr c10
   clear c10
   simp only [Option.some.injEq, Prod.mk.injEq] at H
   obtain ⟨rfl, rfl⟩ := H
   have hz11 := cq6_ BK248.out
   go_wp2_with (first | ((with_reducible refine gate_callee (f := 92) rfl ?_); refine goesL_ (some 14) rfl rfl Try.func92 (by kernel_rfl) rfl #[.agg #[.int .u8 a0_0, .int .i64 a0_1, .string a0_2, .string a0_3, .string a0_4, .int .u64 a0_5], .string a1] rfl mS_ ?_; (with_reducible refine (catchmentref04_Touches.calls a0_0 a0_1 a0_2 a0_3 a0_4 a0_5 a1 true _ A8.out).mono ?_); rintro e w12 ⟨rfl, hb⟩; refine ⟨_, rfl, ?_⟩; replace BK248 := aK_ (bB (bX_ BK248.out) hb); replace HB := aK_ (wT (bS1_ GE248.out) hb); (try clear hb); (try clear hb2); (try clear hk); (try clear hi); have hz13 := cq6_ BK248.out))
   go_ret2
   exact ⟨eR_, bS1_ GE248.out⟩
  rw [if_neg c10] at H
  have c10b0 := beq_eq_false_iff_ne.mpr c10
  have c10b1 := bne_iff_ne.mpr c10
  by_cases c14 : a0_0 = 3
  ·rw [if_pos c14] at H
   have c14b0 := beq_iff_eq.mpr c14
   have c14b1 := bne_eq_false_iff_eq.mpr c14
   clear c14
   replace H := Option.bind_eq_some_iff.mp H
   obtain ⟨t250, A150, H⟩ := H
   replace H : (some (t250, true)) = some (r1, r2) := H
   have A15 := aK_ A150
   clear A150
   simp only [Option.some.injEq, Prod.mk.injEq] at H
   obtain ⟨rfl, rfl⟩ := H
   have hz16 := cq6_ BK248.out
   go_wp2_with (first | ((with_reducible refine gate_callee (f := 92) rfl ?_); refine goesL_ (some 14) rfl rfl Try.func92 (by kernel_rfl) rfl #[.agg #[.int .u8 a0_0, .int .i64 a0_1, .string a0_2, .string a0_3, .string a0_4, .int .u64 a0_5], .string a1] rfl mS_ ?_; (with_reducible refine (catchmentref04_Touches.calls a0_0 a0_1 a0_2 a0_3 a0_4 a0_5 a1 true _ A8.out).mono ?_); rintro e w17 ⟨rfl, hb⟩; refine ⟨_, rfl, ?_⟩; replace BK248 := aK_ (bB (bX_ BK248.out) hb); replace HB := aK_ (wT (bS1_ GE248.out) hb); (try clear hb); (try clear hb2); (try clear hk); (try clear hi); have hz18 := cq6_ BK248.out) | ((with_reducible refine gate_callee (f := 93) rfl ?_); refine goesL_ (some 30) rfl rfl Try.func93 (by kernel_rfl) rfl #[.string x2_4, .bool a3, .int .u64 a0_5] rfl mS_ ?_; (with_reducible refine (catchmentref03_Add.calls kj4 x2_4 a3 a0_5 t250 _ A15.out).mono ?_); rintro e w19 ⟨rfl, hb⟩; refine ⟨_, rfl, ?_⟩; replace BK248 := aK_ (bB (bX_ BK248.out) hb); replace HB := aK_ (wT (bS1_ GE248.out) hb); (try clear hb); (try clear hb2); (try clear hk); (try clear hi)))
   go_ret2
   exact ⟨eR_, bS1_ GE248.out⟩
  rw [if_neg c14] at H
  have c14b0 := beq_eq_false_iff_ne.mpr c14
  have c14b1 := bne_iff_ne.mpr c14
  simp only [Option.some.injEq, Prod.mk.injEq] at H
  obtain ⟨rfl, rfl⟩ := H
  have hz20 := cq6_ BK248.out
  go_wp2_with (first | ((with_reducible refine gate_callee (f := 92) rfl ?_); refine goesL_ (some 14) rfl rfl Try.func92 (by kernel_rfl) rfl #[.agg #[.int .u8 a0_0, .int .i64 a0_1, .string a0_2, .string a0_3, .string a0_4, .int .u64 a0_5], .string a1] rfl mS_ ?_; (with_reducible refine (catchmentref04_Touches.calls a0_0 a0_1 a0_2 a0_3 a0_4 a0_5 a1 true _ A8.out).mono ?_); rintro e w21 ⟨rfl, hb⟩; refine ⟨_, rfl, ?_⟩; replace BK248 := aK_ (bB (bX_ BK248.out) hb); replace HB := aK_ (wT (bS1_ GE248.out) hb); (try clear hb); (try clear hb2); (try clear hk); (try clear hi); have hz22 := cq6_ BK248.out))
  go_ret2
  exact ⟨eR_, bS1_ GE248.out⟩
 replace c9 := Bool.eq_false_iff.mpr c9
 subst c9
 have H1 : (some (x2_4, a3)) = some (r1, r2) := by rw [if_neg (show ¬ (false = true) by decide)] at H; exact H
 clear H
 have H := H1
 clear H1
 simp only [Option.some.injEq, Prod.mk.injEq] at H
 obtain ⟨rfl, rfl⟩ := H
 have hz23 := cq6_ BK248.out
 go_wp2_with (first | ((with_reducible refine gate_callee (f := 92) rfl ?_); refine goesL_ (some 14) rfl rfl Try.func92 (by kernel_rfl) rfl #[.agg #[.int .u8 a0_0, .int .i64 a0_1, .string a0_2, .string a0_3, .string a0_4, .int .u64 a0_5], .string a1] rfl mS_ ?_; (with_reducible refine (catchmentref04_Touches.calls a0_0 a0_1 a0_2 a0_3 a0_4 a0_5 a1 false _ A8.out).mono ?_); rintro e w24 ⟨rfl, hb⟩; refine ⟨_, rfl, ?_⟩; replace BK248 := aK_ (bB (bX_ BK248.out) hb); replace HB := aK_ (wT (bS1_ GE248.out) hb); (try clear hb); (try clear hb2); (try clear hk); (try clear hi)))
 go_ret2
 exact ⟨eR_, bS1_ GE248.out⟩
mutual
def catchmentref05_Value.j0 : Nat → List (S117) → ByteArray → ByteArray → Bool → Option (ByteArray × Bool)
 | 0, _, _, _, _ => none
 | k + 1, x0, x1, x2, x3 => catchmentref05_Value.l0 k x0 x1 x2 x3 0
def catchmentref05_Value.l0 : Nat → List (S117) → ByteArray → ByteArray → Bool → Int → Option (ByteArray × Bool)
 | 0, _, _, _, _, _ => none
 | k + 1, x0, x1, x2, x3, x10 => if x10 < (x0.length : Int) then (if 0 ≤ x10 then ((catchmentref04_On.f k ((rd_T117 x0 x10).f0) ((rd_T117 x0 x10).f1) ((rd_T117 x0 x10).f2) ((rd_T117 x0 x10).f3) ((rd_T117 x0 x10).f4) ((rd_T117 x0 x10).f5) x1 x2 x3).bind fun bt252 => (catchmentref05_Value.l0 k x0 x1 bt252.1 bt252.2 (wrap64 (x10 + 1)))) else (none)) else (some (x2, x3))
end
def catchmentref05_Value.f (k : Nat) (l0 : List (S117)) (a1 a2 : BA) (a3 : Bool) : Option (ByteArray × Bool) := if a3 = true then (catchmentref05_Value.j0 k l0 a1 a2 a3) else (catchmentref05_Value.j0 k l0 a1 (⟨#[]⟩ : BA) a3)
set_option maxHeartbeats 8000000 in
set_option maxRecDepth 100000 in
theorem catchmentref05_Value.calls (k : Nat) (A0 : Option Addr) (c0 : Nat) (l0 : List (S117)) (a1 a2 : BA) (a3 : Bool) (r1 : BA) (r2 : Bool) (w : World) (hr0 : Kd.C k117 w A0 l0.length l0) (hc0 : l0.length ≤ c0) (h : catchmentref05_Value.f k l0 a1 a2 a3 = some (r1, r2)) :
  Calls Try.prog 28 #[.slice A0 l0.length c0, .string a1, .string a2, .bool a3] w fun e w' => e = .returned (.tuple #[.string r1, .bool r2]) ∧ Below w.heap.size w w' := by
 have hu117 := Try.underlying117
 have HR0 := aK_ hr0
 have HC0 := aK_ hc0
 clear hr0 hc0
 have HB := aK_ (Below.refl w.heap.size w)
 have H : (if a3 = true then (catchmentref05_Value.j0 k l0 a1 a2 a3) else (catchmentref05_Value.j0 k l0 a1 (⟨#[]⟩ : BA) a3)) = some (r1, r2) := h
 clear h
 have HC5 := aK_ H
 clear H
 go_enter Try.func28, Try.ntmps28
 go_upto_if 12 with (fail)
 go_cut [2] (fun v2 wc => ∃ (kq : Nat) (x2_4 : BA), v2 = .string x2_4 ∧ Aside0 (catchmentref05_Value.j0 kq l0 a1 x2_4 a3 = some (r1, r2)) ∧ Aside0 (kq ≤ k) ∧ Aside0 (Below w.heap.size w wc))
 case first =>
  have H := HC5.out
  clear HC5
  by_cases c6 : a3 = true
  ·subst c6
   have H1 : (catchmentref05_Value.j0 k l0 a1 a2 true) = some (r1, r2) := by rw [if_pos rfl] at H; exact H
   clear H
   have H := H1
   clear H1
   have H' := aK_ H; clear H
   go_wp2
   go_meet
   case rel => exact ⟨_, (a2), rZ_, H', ⟨oM_⟩, ⟨bW_⟩⟩
  replace c6 := Bool.eq_false_iff.mpr c6
  subst c6
  have H1 : (catchmentref05_Value.j0 k l0 a1 (⟨#[]⟩ : BA) false) = some (r1, r2) := by rw [if_neg (show ¬ (false = true) by decide)] at H; exact H
  clear H
  have H := H1
  clear H1
  have H' := aK_ H; clear H
  go_wp2
  go_meet
  case rel => exact ⟨_, ((⟨#[]⟩ : BA)), rZ_, H', ⟨oM_⟩, ⟨bW_⟩⟩
 clear HC5
 try clear c2
 try clear p2
 try clear c6
 obtain ⟨kq, x2_4, rfl, HA, HJ4, HB⟩ := hcut
 cases kq with
 | zero => exact absurd HA.out (by simp [catchmentref05_Value.j0])
 | succ kj4 => ?_
 have H := HA.out
 clear HA
 simp only [catchmentref05_Value.j0] at H
 have H' := aK_ H; clear H
 go_wp2
 go_loopg [2, 3, 10] kj4 (fun kq v2 v3 v10 w' => ∃ (x2_2 : BA) (x3_2 : Bool) (x10_2 : Int), v2 = .string x2_2 ∧ v3 = .bool x3_2 ∧ v10 = .int .i64 x10_2 ∧ Aside0 (catchmentref05_Value.l0 kq l0 a1 x2_2 x3_2 x10_2 = some (r1, r2)) ∧ Aside0 (kq ≤ kj4) ∧ Aside0 (Below w.heap.size w w'))
 case atStart => exact ⟨(x2_4), (a3), (0), rZ_, rZ_, rZ_, H', ⟨Nat.le_refl _⟩, ⟨bW_⟩⟩
 clear H'
 try clear c2
 try clear p2
 try clear c6
 try clear p2
 obtain ⟨x2_2, x3_2, x10_2, rfl, rfl, rfl, HA, HK2, HB⟩ := hrel
 cases gk with
 | zero => exact absurd HA.out (by simp [catchmentref05_Value.l0])
 | succ k2 => ?_
 have H := HA.out
 clear HA
 simp only [catchmentref05_Value.l0] at H
 by_cases c7 : x10_2 < (l0.length : Int)
 ·rw [if_pos c7] at H
  have c7b0 := decide_eq_true c7
  clear c7
  by_cases c8 : 0 ≤ x10_2
  ·rw [if_pos c8] at H
   have c8b0 := decide_eq_true c8
   clear c8
   replace H := Option.bind_eq_some_iff.mp H
   obtain ⟨⟨t252, t253⟩, A90, H⟩ := H
   replace H : (catchmentref05_Value.l0 k2 l0 a1 t252 t253 (wrap64 (x10_2 + 1))) = some (r1, r2) := H
   have A9 := aK_ A90
   clear A90
   have H' := aK_ H; clear H
   have p251 : 0 ≤ (x10_2 : Int) := pD_
   have q251 : x10_2 < (l0.length : Int) := pD_
   obtain ⟨ad251, e251, hx251_0, hx251_1, hx251_2, hx251_3, hx251_4, hx251_5⟩ := at_T117 HR0.out x10_2 p251 q251
   cases e251
   replace hx251_0 := cB_ hx251_0
   replace hx251_1 := cB_ hx251_1
   replace hx251_2 := cB_ hx251_2
   replace hx251_3 := cB_ hx251_3
   replace hx251_4 := cB_ hx251_4
   replace hx251_5 := cB_ hx251_5
   replace p251 := eq_true p251
   replace q251 := eq_true q251
   go_wp2_with (first | ((with_reducible refine gate_callee (f := 62) rfl ?_); refine goesL_ (some 27) rfl rfl Try.func62 (by kernel_rfl) rfl #[.agg #[.int .u8 ((rd_T117 l0 x10_2).f0), .int .i64 ((rd_T117 l0 x10_2).f1), .string ((rd_T117 l0 x10_2).f2), .string ((rd_T117 l0 x10_2).f3), .string ((rd_T117 l0 x10_2).f4), .int .u64 ((rd_T117 l0 x10_2).f5)], .string a1, .string x2_2, .bool x3_2] rfl mS_ ?_; (with_reducible refine (catchmentref04_On.calls k2 ((rd_T117 l0 x10_2).f0) ((rd_T117 l0 x10_2).f1) ((rd_T117 l0 x10_2).f2) ((rd_T117 l0 x10_2).f3) ((rd_T117 l0 x10_2).f4) ((rd_T117 l0 x10_2).f5) a1 x2_2 x3_2 t252 t253 _ A9.out).mono ?_); rintro e w10 ⟨rfl, hb⟩; refine ⟨_, rfl, ?_⟩; replace HB := aK_ (wT bW_ hb); (try clear hb); (try clear hb2); (try clear hk); (try clear hi)))
   go_roundg k2
   case measure => have := HJ4.out; have := HK2.out; omega
   case rel => exact ⟨(t252), (t253), (wrap64 (x10_2 + 1)), rZ_, rZ_, rZ_, H', ⟨by have := HJ4.out; have := HK2.out; omega⟩, ⟨bW_⟩⟩
  rw [if_neg c8] at H
  exact absurd H (by simp)
 rw [if_neg c7] at H
 have c7b0 := decide_eq_false c7
 clear c7
 simp only [Option.some.injEq, Prod.mk.injEq] at H
 obtain ⟨rfl, rfl⟩ := H
 go_wp2
 go_ret2
 exact ⟨eR_, bW_⟩
end Go.Proofs.Ytljnlnbopohghaa.P
end
