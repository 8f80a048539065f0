/- Texts of one claim (laid by shake.py). -/
import Derived.Test.YtljnlnbopohghaaZCf4
set_option linter.unusedVariables false
set_option linter.unusedSimpArgs false
section
namespace Go.Proofs.Ytljnlnbopohghaa.P
open Go.RowKit Go.Proofs.YtljnlnbopohghaaW.PrintWords Go.Proofs.YtljnlnbopohghaaW.PrintLast Go.Proofs.YtljnlnbopohghaaW.PrintMore Go.Proofs.Ytljnlnbopohghaa.Own
open Bool renaming true → YY, false → ZZ
open Go.Proofs.YtljnlnbopohghaaW.PrintWords renaming blk_cell → bC, blk_frozen → bF, blk_drewN → bN, blk_alloc → bA, pw_below_drewN → wN, blk_drew → bD, below_drew1 → w1, below_set → wS, below_alloc → wA, blk_below → bB, below_step → wT, below_size → wZ, blk_far → bR, blk_put → bP
open List renaming setIfInBounds_toArray → sA1, set_cons_zero → sA2, set_cons_succ → sA3, map_toArray → mA1, map_cons → mA2, map_nil → mA3, length_take → mA4, length_drop → mA5
attribute [local go_sem] max2_str max2_int min2_int max_two min_two max_three min_three max_four min_four   -- for this text's walks alone
def key_ahead.f (a0 a1 : BA) : Option (Bool) := if a1.toList = ([] : List UInt8) then (some true) else (some (Op.bytesLess a0.toList a1.toList))
set_option maxHeartbeats 8000000 in
set_option maxRecDepth 100000 in
theorem key_ahead.calls (a0 a1 : BA) (r : Bool) (w : World) (h : key_ahead.f a0 a1 = some r) :
  Calls Try.prog 78 #[.string a0, .string a1] w fun e w' => e = .returned (.bool r) ∧ Drawn0 w w' := by
 have H : (if a1.toList = ([] : List UInt8) then (some true) else (some (Op.bytesLess a0.toList a1.toList))) = some r := h
 clear h
 by_cases c3 : a1.toList = ([] : List UInt8)
 ·rw [if_pos c3] at H
  have c3b0 := beq_iff_eq.mpr c3
  have c3b1 := bne_eq_false_iff_eq.mpr c3
  clear c3
  obtain rfl := Option.some.inj H
  go_enter Try.func78, Try.ntmps78
  go_wp2
  go_ret
  exact ⟨rZ_, by repeat (first | exact Drawn0.refl _ | apply Drawn0.step)⟩
 rw [if_neg c3] at H
 have c3b0 := beq_eq_false_iff_ne.mpr c3
 have c3b1 := bne_iff_ne.mpr c3
 obtain rfl := Option.some.inj H
 go_enter Try.func78, Try.ntmps78
 go_wp2
 go_ret
 exact ⟨rZ_, by repeat (first | exact Drawn0.refl _ | apply Drawn0.step)⟩
def key_RightRange.f (a0_0 a0_1 : BA) : Option (Bool) := (key_ahead.f a0_0 a0_1).bind fun t102 => (some t102)
set_option maxHeartbeats 8000000 in
set_option maxRecDepth 100000 in
theorem key_RightRange.calls (a0_0 a0_1 : BA) (r : Bool) (w : World) (h : key_RightRange.f a0_0 a0_1 = some r) :
  Calls Try.prog 46 #[.agg #[.string a0_0, .string a0_1]] w fun e w' => e = .returned (.bool r) ∧ Below w.heap.size w w' := by
 have hu29 := Try.underlying29
 have HB := aK_ (Below.refl w.heap.size w)
 have H : ((key_ahead.f a0_0 a0_1).bind fun t102 => (some t102)) = some r := h
 clear h
 replace H := Option.bind_eq_some_iff.mp H
 obtain ⟨t102, A20, H⟩ := H
 replace H : (some t102) = some r := H
 have A2 := aK_ A20
 clear A20
 obtain rfl := Option.some.inj H
 go_enter Try.func46, Try.ntmps46
 go_wp2_with (first | ((with_reducible refine gate_dst (N := 1) rfl ?_); refine bE_ 1 #[.string a0_0, .string a0_1] 29 ?_; intro gb101 hg w3 hbox hb; have BK101 := aK_ (hbox); have GW101 := aK_ (gE_ hg); replace HB := aK_ (wT bW_ hb); have GE101 := GW101; clear hb hbox hg; have hz4 := cq2_ BK101.out) | ((with_reducible refine gate_callee (f := 78) rfl ?_); refine goesL_ (some 7) rfl rfl Try.func78 (by kernel_rfl) rfl #[.string a0_0, .string a0_1] rfl mS_ ?_; (with_reducible refine (key_ahead.calls a0_0 a0_1 t102 _ A2.out).mono ?_); rintro e w' ⟨rfl, ⟨nd, rfl⟩⟩; refine ⟨_, rfl, ?_⟩))
 go_ret
 exact ⟨eR_, bS1_ GE101.out⟩
def fold_Rises.l0 : Nat → List (S103) → Int → Int → Option (Bool)
 | 0, _, _, _ => none
 | k + 1, x0, x5, x6 => if x6 < x5 then (if x6 > 0 then (if 0 ≤ (wrap64 (x6 - 1)) then (if (wrap64 (x6 - 1)) < (x0.length : Int) then (if 0 ≤ x6 then (if x6 < (x0.length : Int) then (if ((Op.bytesLess (((rd_T103 x0 (wrap64 (x6 - 1))).f0).toList) (((rd_T103 x0 x6).f0).toList)) = true) then (fold_Rises.l0 k x0 x5 (wrap64 (x6 + 1))) else (some false)) else (none)) else (none)) else (none)) else (none)) else (fold_Rises.l0 k x0 x5 (wrap64 (x6 + 1)))) else (some true)
def fold_Rises.f (k : Nat) (l0 : List (S103)) : Option (Bool) := fold_Rises.l0 k l0 (l0.length : Int) 0
set_option maxHeartbeats 8000000 in
set_option maxRecDepth 100000 in
theorem fold_Rises.calls (k : Nat) (A0 : Option Addr) (c0 : Nat) (l0 : List (S103)) (r : Bool) (w : World) (hr0 : Kd.C k103 w A0 l0.length l0) (hc0 : l0.length ≤ c0) (h : fold_Rises.f k l0 = some r) :
  Calls Try.prog 48 #[.slice A0 l0.length c0] w fun e w' => e = .returned (.bool r) ∧ Drawn0 w w' := by
 have HR0 := aK_ hr0
 have HC0 := aK_ hc0
 clear hr0 hc0
 have H : (fold_Rises.l0 k l0 (l0.length : Int) 0) = some r := h
 clear h
 have H' := aK_ H; clear H
 go_enter Try.func48, Try.ntmps48
 go_wp2
 repeat (go_quiet (fail); try go_wp2)
 go_loopg [6] k (fun kq v6 w' => ∃ (x6_1 : Int), v6 = .int .i64 x6_1 ∧ Aside0 (fold_Rises.l0 kq l0 (l0.length : Int) x6_1 = some r) ∧ Aside0 (kq ≤ k) ∧ Drawn0 w w')
 case atStart => exact ⟨(0), rZ_, H', ⟨Nat.le_refl _⟩, by repeat (first | exact Drawn0.refl _ | apply Drawn0.step)⟩
 clear H'
 obtain ⟨x6_1, rfl, HA, HK1, ⟨m1, rfl⟩⟩ := hrel
 cases gk with
 | zero => exact absurd HA.out (by simp [fold_Rises.l0])
 | succ k1 => ?_
 have H := HA.out
 clear HA
 simp only [fold_Rises.l0] at H
 by_cases c2 : x6_1 < (l0.length : Int)
 ·rw [if_pos c2] at H
  have c2b0 := decide_eq_true c2
  clear c2
  by_cases c3 : x6_1 > 0
  ·rw [if_pos c3] at H
   have c3b0 : decide (0 < x6_1) = true := decide_eq_true c3
   clear c3
   obtain ⟨ji4, hji4⟩ : ∃ j_ : Int, (wrap64 (x6_1 - 1)) = j_ := ⟨_, rfl⟩
   replace H : (if 0 ≤ (ji4) then (if (ji4) < (l0.length : Int) then (if 0 ≤ x6_1 then (if x6_1 < (l0.length : Int) then (if ((Op.bytesLess (((rd_T103 l0 (ji4)).f0).toList) (((rd_T103 l0 x6_1).f0).toList)) = true) then (fold_Rises.l0 k1 l0 (l0.length : Int) (wrap64 (x6_1 + 1))) else (some false)) else (none)) else (none)) else (none)) else (none)) = some r := by first | (rw [hji4] at H; exact H) | (simp only [hji4] at H ⊢; exact H)
   have hji4w : (IntKind.i64.wrap (x6_1 - 1)) = ji4 := (i64_w _).trans hji4
   by_cases c5 : 0 ≤ (ji4)
   ·rw [if_pos c5] at H
    have c5b0 := decide_eq_true c5
    clear c5
    by_cases c6 : (ji4) < (l0.length : Int)
    ·rw [if_pos c6] at H
     have c6b0 := decide_eq_true c6
     clear c6
     by_cases c7 : 0 ≤ x6_1
     ·rw [if_pos c7] at H
      have c7b0 := decide_eq_true c7
      clear c7
      by_cases c8 : x6_1 < (l0.length : Int)
      ·rw [if_pos c8] at H
       have c8b0 := decide_eq_true c8
       clear c8
       by_cases c9 : ((Op.bytesLess (((rd_T103 l0 (ji4)).f0).toList) (((rd_T103 l0 x6_1).f0).toList)) = true)
       ·rw [if_pos c9] at H
        have c9b0 : (Op.bytesLess (((rd_T103 l0 (ji4)).f0).toList) (((rd_T103 l0 x6_1).f0).toList)) = true := c9
        clear c9
        have H' := aK_ H; clear H
        have p103 : 0 ≤ ((ji4) : Int) := pD_
        have q103 : (ji4) < (l0.length : Int) := pD_
        obtain ⟨ad103, e103, hx103_0, hx103_1⟩ := at_T103 HR0.out (ji4) p103 q103
        cases e103
        replace p103 := eq_true p103
        replace q103 := eq_true q103
        have p104 : 0 ≤ (x6_1 : Int) := pD_
        have q104 : x6_1 < (l0.length : Int) := pD_
        obtain ⟨ad104, e104, hx104_0, hx104_1⟩ := at_T103 HR0.out x6_1 p104 q104
        obtain rfl : ad103 = ad104 := (by injection e104)
        replace p104 := eq_true p104
        replace q104 := eq_true q104
        go_wp2
        repeat (go_quiet (fail); try go_wp2)
        go_roundg k1
        case measure => have := HK1.out; omega
        case rel => exact ⟨(wrap64 (x6_1 + 1)), rZ_, H', ⟨by have := HK1.out; omega⟩, by repeat (first | exact Drawn0.refl _ | apply Drawn0.step)⟩
       rw [if_neg c9] at H
       have c9b0 : (Op.bytesLess (((rd_T103 l0 (ji4)).f0).toList) (((rd_T103 l0 x6_1).f0).toList)) = false := by simpa using c9
       clear c9
       obtain rfl := Option.some.inj H
       have p103 : 0 ≤ ((ji4) : Int) := pD_
       have q103 : (ji4) < (l0.length : Int) := pD_
       obtain ⟨ad103, e103, hx103_0, hx103_1⟩ := at_T103 HR0.out (ji4) p103 q103
       cases e103
       replace p103 := eq_true p103
       replace q103 := eq_true q103
       have p104 : 0 ≤ (x6_1 : Int) := pD_
       have q104 : x6_1 < (l0.length : Int) := pD_
       obtain ⟨ad104, e104, hx104_0, hx104_1⟩ := at_T103 HR0.out x6_1 p104 q104
       obtain rfl : ad103 = ad104 := (by injection e104)
       replace p104 := eq_true p104
       replace q104 := eq_true q104
       go_wp2
       repeat (go_quiet (fail); try go_wp2)
       go_ret
       exact ⟨by first | rfl | (simp; done) | (simp only [← hji4] <;> (first | rfl | simp)) | (simp [*]; done), by repeat (first | exact Drawn0.refl _ | apply Drawn0.step)⟩
      rw [if_neg c8] at H
      exact absurd H (by simp)
     rw [if_neg c7] at H
     exact absurd H (by simp)
    rw [if_neg c6] at H
    exact absurd H (by simp)
   rw [if_neg c5] at H
   exact absurd H (by simp)
  rw [if_neg c3] at H
  have c3b0 : decide (0 < x6_1) = false := decide_eq_false c3
  clear c3
  have H' := aK_ H; clear H
  go_wp2
  repeat (go_quiet (fail); try go_wp2)
  go_roundg k1
  case measure => have := HK1.out; omega
  case rel => exact ⟨(wrap64 (x6_1 + 1)), rZ_, H', ⟨by have := HK1.out; omega⟩, by repeat (first | exact Drawn0.refl _ | apply Drawn0.step)⟩
 rw [if_neg c2] at H
 have c2b0 := decide_eq_false c2
 clear c2
 obtain rfl := Option.some.inj H
 go_wp2
 repeat (go_quiet (fail); try go_wp2)
 go_ret
 exact ⟨rZ_, by repeat (first | exact Drawn0.refl _ | apply Drawn0.step)⟩
def key_After.f (a0 : BA) : Option (ByteArray) := if a0.size + 1 ≤ 9223372036854775807 then (some (a0 ++ (⟨#[0]⟩ : BA))) else (none)
set_option maxHeartbeats 8000000 in
set_option maxRecDepth 100000 in
theorem key_After.calls (a0 r : BA) (w : World) (h : key_After.f a0 = some r) :
  Calls Try.prog 80 #[.string a0] w fun e w' => e = .returned (.string r) ∧ Drawn0 w w' := by
 have H : (if a0.size + 1 ≤ 9223372036854775807 then (some (a0 ++ (⟨#[0]⟩ : BA))) else (none)) = some r := h
 clear h
 by_cases c2 : a0.size + 1 ≤ 9223372036854775807
 ·rw [if_pos c2] at H
  have c2b0 := eq_true c2
  have c2b1 := decide_eq_true c2
  try have c2b2 : (9223372036854775807 < a0.size + 1) = False := eq_false (Nat.not_lt.2 c2)
  obtain rfl := Option.some.inj H
  go_enter Try.func80, Try.ntmps80
  go_wp2
  go_ret
  exact ⟨rZ_, by repeat (first | exact Drawn0.refl _ | apply Drawn0.step)⟩
 rw [if_neg c2] at H
 exact absurd H (by simp)
def cursor_behind.f (a0_0 a0_1 a1 : BA) : Option (ByteArray × ByteArray × Bool) := (key_After.f a1).bind fun t107 => ((key_RightRange.f t107 a0_1).bind fun t108 => (if t108 = true then (some (t107, a0_1, false)) else (some ((⟨#[]⟩ : BA), (⟨#[]⟩ : BA), true))))
set_option maxHeartbeats 8000000 in
set_option maxRecDepth 100000 in
theorem cursor_behind.calls (a0_0 a0_1 a1 r1 r2 : BA) (r3 : Bool) (w : World) (h : cursor_behind.f a0_0 a0_1 a1 = some (r1, r2, r3)) :
  Calls Try.prog 52 #[.agg #[.string a0_0, .string a0_1], .string a1] w fun e w' => e = .returned (.agg #[.string r1, .string r2, .bool r3]) ∧ Below w.heap.size w w' := by
 have hu29 := Try.underlying29
 have hu106 := Try.underlying106
 have HB := aK_ (Below.refl w.heap.size w)
 have H : ((key_After.f a1).bind fun t107 => ((key_RightRange.f t107 a0_1).bind fun t108 => (if t108 = true then (some (t107, a0_1, false)) else (some ((⟨#[]⟩ : BA), (⟨#[]⟩ : BA), true))))) = some (r1, r2, r3) := h
 clear h
 replace H := Option.bind_eq_some_iff.mp H
 obtain ⟨t107, A30, H⟩ := H
 replace H : ((key_RightRange.f t107 a0_1).bind fun t108 => (if t108 = true then (some (t107, a0_1, false)) else (some ((⟨#[]⟩ : BA), (⟨#[]⟩ : BA), true)))) = some (r1, r2, r3) := H
 have A3 := aK_ A30
 clear A30
 replace H := Option.bind_eq_some_iff.mp H
 obtain ⟨t108, A40, H⟩ := H
 replace H : (if t108 = true then (some (t107, a0_1, false)) else (some ((⟨#[]⟩ : BA), (⟨#[]⟩ : BA), true))) = some (r1, r2, r3) := H
 have A4 := aK_ A40
 clear A40
 by_cases c5 : t108 = true
 ·subst c5
  have H1 : (some (t107, a0_1, false)) = some (r1, r2, r3) := by rw [if_pos rfl] at H; exact H
  clear H
  have H := H1
  clear H1
  simp only [Option.some.injEq, Prod.mk.injEq] at H
  obtain ⟨rfl, rfl, rfl⟩ := H
  go_enter Try.func52, Try.ntmps52
  go_wp2_with (first | ((with_reducible refine gate_dst (N := 2) rfl ?_); refine bE_ 2 #[.string a0_0, .string a0_1] 29 ?_; intro gb105 hg w6 hbox hb; have BK105 := aK_ (hbox); have GW105 := aK_ (gE_ hg); replace HB := aK_ (wT bW_ hb); have GE105 := GW105; clear hb hbox hg) | ((with_reducible refine gate_dst (N := 4) rfl ?_); refine bE_ 4 #[.string (⟨#[]⟩ : BA), .string (⟨#[]⟩ : BA), .bool false] 106 ?_; intro gb106 hg w7 hbox hb; have n0_ := aK_ (bB (bX_ BK105.out) hb); have n1_ := aK_ (wT (bS1_ GE105.out) hb); have n2_ := aK_ (hbox); have n3_ := aK_ ((by rw [hg]; exact (wZ (bS1_ GE105.out)) : w.heap.size ≤ gb106)); have n4_ := n3_; have n5_ := aK_ ((by rw [hg]; exact Nat.ne_of_lt (blk_lt (g := gb105) (o := .cells #[.string a0_0, .string a0_1] 29 (0, 0)) (bX_ BK105.out)) : gb105 ≠ gb106)); have n6_ := aK_ ((by rw [hg]; exact Nat.ne_of_gt (blk_lt (g := gb105) (o := .cells #[.string a0_0, .string a0_1] 29 (0, 0)) (bX_ BK105.out)) : gb106 ≠ gb105)); clear BK105; clear HB; have BK105 := n0_; have HB := n1_; have BK106 := n2_; have GW106 := n3_; have GE106 := n4_; have NB105_106 := n5_; have NB106_105 := n6_; clear n0_ n1_ n2_ n3_ n4_ n5_ n6_; clear hb hbox hg) | ((with_reducible refine gate_callee (f := 80) rfl ?_); refine goesL_ (some 6) rfl rfl Try.func80 (by kernel_rfl) rfl #[.string a1] rfl mS_ ?_; (with_reducible refine (key_After.calls a1 t107 _ A3.out).mono ?_); rintro e w' ⟨rfl, ⟨nd, rfl⟩⟩; refine ⟨_, rfl, ?_⟩; (try (rw [drewN_self w7]; generalize hq_ : World.drewN w7 _ = w7; have n0_ : Aside0 (w7.heap[gb105]? = some (.cells #[.string a0_0, .string a0_1] 29 (0, 0))) := ⟨by rw [← hq_]; exact (bX_ BK105.out)⟩; have n1_ : Aside0 (w7.heap[gb106]? = some (.cells #[.string (⟨#[]⟩ : BA), .string (⟨#[]⟩ : BA), .bool false] 106 (0, 0))) := ⟨by rw [← hq_]; exact (bX_ BK106.out)⟩; have n2_ : Aside0 (Below w.heap.size w w7) := ⟨by rw [← hq_]; exact (bS2_ GE105.out GE106.out)⟩; clear BK105 BK106 HB hq_; have BK105 := n0_; have BK106 := n1_; have HB := n2_; clear n0_ n1_ n2_)); have hnb8 := NB105_106.out; have hnc8 := NB106_105.out; have hz9 := cq2_ BK105.out) | ((with_reducible refine gate_callee (f := 46) rfl ?_); refine goesL_ (some 9) rfl rfl Try.func46 (by kernel_rfl) rfl #[.agg #[.string t107, .string a0_1]] rfl mS_ ?_; (with_reducible refine (key_RightRange.calls t107 a0_1 true _ A4.out).mono ?_); rintro e w10 ⟨rfl, hb⟩; refine ⟨_, rfl, ?_⟩; have n0_ := aK_ (bB (g := gb105) (o := .cells #[.string t107, .string a0_1] 29 (0, 0)) (by (with_reducible repeat (first | refine bN ?_ _ | refine bD ?_ | refine bA ?_ _)); refine bP (cs := #[.string a0_0, .string a0_1]) ?_ 0 _ rfl; (with_reducible repeat (first | refine bN ?_ _ | refine bD ?_ | refine bA ?_ _)); exact BK105.out) hb); have n1_ := aK_ (bB (g := gb106) (o := .cells #[.string (⟨#[]⟩ : BA), .string (⟨#[]⟩ : BA), .bool false] 106 (0, 0)) (by (with_reducible repeat (first | refine bN ?_ _ | refine bD ?_ | refine bA ?_ _)); refine bR ?_ NB106_105.out _; (with_reducible repeat (first | refine bN ?_ _ | refine bD ?_ | refine bA ?_ _)); exact BK106.out) hb); have n2_ := aK_ (wT (bS2_ GE105.out GE106.out) hb); clear BK105; clear BK106; clear HB; have BK105 := n0_; have BK106 := n1_; have HB := n2_; clear n0_ n1_ n2_; (try clear hb); (try clear hb2); (try clear hk); (try clear hi); have hz11 := cq2_ BK105.out; have hz12 := cq3_ BK106.out))
  refine bodyPost_ret (results_cell_row rfl _ _ gb106 106 #[.string t107, .string a0_1, .bool false] (0, 0) _ rfl (by (with_reducible repeat (first | refine bN ?_ _ | refine bD ?_ | refine bA ?_ _)); refine bP (cs := #[.string t107, .string a0_1, .bool false]) ?_ 2 _ rfl; (with_reducible repeat (first | refine bN ?_ _ | refine bD ?_ | refine bA ?_ _)); refine bP (cs := #[.string t107, .string (⟨#[]⟩ : BA), .bool false]) ?_ 1 _ rfl; (with_reducible repeat (first | refine bN ?_ _ | refine bD ?_ | refine bA ?_ _)); refine bP (cs := #[.string (⟨#[]⟩ : BA), .string (⟨#[]⟩ : BA), .bool false]) ?_ 0 _ rfl; (with_reducible repeat (first | refine bN ?_ _ | refine bD ?_ | refine bA ?_ _)); exact BK106.out) Try.underlying106 rfl (by kernel_rfl)) rfl ?_
  exact ⟨eR_, bS2_ GE105.out GE106.out⟩
 replace c5 := Bool.eq_false_iff.mpr c5
 subst c5
 have H1 : (some ((⟨#[]⟩ : BA), (⟨#[]⟩ : BA), true)) = some (r1, r2, r3) := by rw [if_neg (show ¬ (false = true) by decide)] at H; exact H
 clear H
 have H := H1
 clear H1
 simp only [Option.some.injEq, Prod.mk.injEq] at H
 obtain ⟨rfl, rfl, rfl⟩ := H
 go_enter Try.func52, Try.ntmps52
 go_wp2_with (first | ((with_reducible refine gate_dst (N := 2) rfl ?_); refine bE_ 2 #[.string a0_0, .string a0_1] 29 ?_; intro gb105 hg w13 hbox hb; have BK105 := aK_ (hbox); have GW105 := aK_ (gE_ hg); replace HB := aK_ (wT bW_ hb); have GE105 := GW105; clear hb hbox hg) | ((with_reducible refine gate_dst (N := 4) rfl ?_); refine bE_ 4 #[.string (⟨#[]⟩ : BA), .string (⟨#[]⟩ : BA), .bool false] 106 ?_; intro gb106 hg w14 hbox hb; have n0_ := aK_ (bB (bX_ BK105.out) hb); have n1_ := aK_ (wT (bS1_ GE105.out) hb); have n2_ := aK_ (hbox); have n3_ := aK_ ((by rw [hg]; exact (wZ (bS1_ GE105.out)) : w.heap.size ≤ gb106)); have n4_ := n3_; have n5_ := aK_ ((by rw [hg]; exact Nat.ne_of_lt (blk_lt (g := gb105) (o := .cells #[.string a0_0, .string a0_1] 29 (0, 0)) (bX_ BK105.out)) : gb105 ≠ gb106)); have n6_ := aK_ ((by rw [hg]; exact Nat.ne_of_gt (blk_lt (g := gb105) (o := .cells #[.string a0_0, .string a0_1] 29 (0, 0)) (bX_ BK105.out)) : gb106 ≠ gb105)); clear BK105; clear HB; have BK105 := n0_; have HB := n1_; have BK106 := n2_; have GW106 := n3_; have GE106 := n4_; have NB105_106 := n5_; have NB106_105 := n6_; clear n0_ n1_ n2_ n3_ n4_ n5_ n6_; clear hb hbox hg) | ((with_reducible refine gate_callee (f := 80) rfl ?_); refine goesL_ (some 6) rfl rfl Try.func80 (by kernel_rfl) rfl #[.string a1] rfl mS_ ?_; (with_reducible refine (key_After.calls a1 t107 _ A3.out).mono ?_); rintro e w' ⟨rfl, ⟨nd, rfl⟩⟩; refine ⟨_, rfl, ?_⟩; (try (rw [drewN_self w14]; generalize hq_ : World.drewN w14 _ = w14; have n0_ : Aside0 (w14.heap[gb105]? = some (.cells #[.string a0_0, .string a0_1] 29 (0, 0))) := ⟨by rw [← hq_]; exact (bX_ BK105.out)⟩; have n1_ : Aside0 (w14.heap[gb106]? = some (.cells #[.string (⟨#[]⟩ : BA), .string (⟨#[]⟩ : BA), .bool false] 106 (0, 0))) := ⟨by rw [← hq_]; exact (bX_ BK106.out)⟩; have n2_ : Aside0 (Below w.heap.size w w14) := ⟨by rw [← hq_]; exact (bS2_ GE105.out GE106.out)⟩; clear BK105 BK106 HB hq_; have BK105 := n0_; have BK106 := n1_; have HB := n2_; clear n0_ n1_ n2_)); have hnb15 := NB105_106.out; have hnc15 := NB106_105.out; have hz16 := cq2_ BK105.out) | ((with_reducible refine gate_callee (f := 46) rfl ?_); refine goesL_ (some 9) rfl rfl Try.func46 (by kernel_rfl) rfl #[.agg #[.string t107, .string a0_1]] rfl mS_ ?_; (with_reducible refine (key_RightRange.calls t107 a0_1 false _ A4.out).mono ?_); rintro e w17 ⟨rfl, hb⟩; refine ⟨_, rfl, ?_⟩; have n0_ := aK_ (bB (g := gb105) (o := .cells #[.string t107, .string a0_1] 29 (0, 0)) (by (with_reducible repeat (first | refine bN ?_ _ | refine bD ?_ | refine bA ?_ _)); refine bP (cs := #[.string a0_0, .string a0_1]) ?_ 0 _ rfl; (with_reducible repeat (first | refine bN ?_ _ | refine bD ?_ | refine bA ?_ _)); exact BK105.out) hb); have n1_ := aK_ (bB (g := gb106) (o := .cells #[.string (⟨#[]⟩ : BA), .string (⟨#[]⟩ : BA), .bool false] 106 (0, 0)) (by (with_reducible repeat (first | refine bN ?_ _ | refine bD ?_ | refine bA ?_ _)); refine bR ?_ NB106_105.out _; (with_reducible repeat (first | refine bN ?_ _ | refine bD ?_ | refine bA ?_ _)); exact BK106.out) hb); have n2_ := aK_ (wT (bS2_ GE105.out GE106.out) hb); clear BK105; clear BK106; clear HB; have BK105 := n0_; have BK106 := n1_; have HB := n2_; clear n0_ n1_ n2_; (try clear hb); (try clear hb2); (try clear hk); (try clear hi); have hz18 := cq3_ BK106.out))
 refine bodyPost_ret (results_cell_row rfl _ _ gb106 106 #[.string (⟨#[]⟩ : BA), .string (⟨#[]⟩ : BA), .bool true] (0, 0) _ rfl (by (with_reducible repeat (first | refine bN ?_ _ | refine bD ?_ | refine bA ?_ _)); refine bP (cs := #[.string (⟨#[]⟩ : BA), .string (⟨#[]⟩ : BA), .bool false]) ?_ 2 _ rfl; (with_reducible repeat (first | refine bN ?_ _ | refine bD ?_ | refine bA ?_ _)); refine bP (cs := #[.string (⟨#[]⟩ : BA), .string (⟨#[]⟩ : BA), .bool false]) ?_ 1 _ rfl; (with_reducible repeat (first | refine bN ?_ _ | refine bD ?_ | refine bA ?_ _)); refine bP (cs := #[.string (⟨#[]⟩ : BA), .string (⟨#[]⟩ : BA), .bool false]) ?_ 0 _ rfl; (with_reducible repeat (first | refine bN ?_ _ | refine bD ?_ | refine bA ?_ _)); exact BK106.out) Try.underlying106 rfl (by kernel_rfl)) rfl ?_
 exact ⟨eR_, bS2_ GE105.out GE106.out⟩
def catchmentref02_Right.f (a0_0 a0_1 : BA) : Option (Bool) := if a0_1.toList = ([] : List UInt8) then (some true) else (some (Op.bytesLess a0_0.toList a0_1.toList))
set_option maxHeartbeats 8000000 in
set_option maxRecDepth 100000 in
theorem catchmentref02_Right.calls (a0_0 a0_1 : BA) (r : Bool) (w : World) (h : catchmentref02_Right.f a0_0 a0_1 = some r) :
  Calls Try.prog 64 #[.agg #[.string a0_0, .string a0_1]] w fun e w' => e = .returned (.bool r) ∧ Below w.heap.size w w' := by
 have hu29 := Try.underlying29
 have HB := aK_ (Below.refl w.heap.size w)
 have H : (if a0_1.toList = ([] : List UInt8) then (some true) else (some (Op.bytesLess a0_0.toList a0_1.toList))) = some r := h
 clear h
 by_cases c2 : a0_1.toList = ([] : List UInt8)
 ·rw [if_pos c2] at H
  have c2b0 := beq_iff_eq.mpr c2
  have c2b1 := bne_eq_false_iff_eq.mpr c2
  clear c2
  obtain rfl := Option.some.inj H
  go_enter Try.func64, Try.ntmps64
  go_wp2_with (first | ((with_reducible refine gate_dst (N := 1) rfl ?_); refine bE_ 1 #[.string a0_0, .string a0_1] 29 ?_; intro gb109 hg w3 hbox hb; have BK109 := aK_ (hbox); have GW109 := aK_ (gE_ hg); replace HB := aK_ (wT bW_ hb); have GE109 := GW109; clear hb hbox hg; have hz4 := cq2_ BK109.out))
  go_ret
  exact ⟨eR_, bS1_ GE109.out⟩
 rw [if_neg c2] at H
 have c2b0 := beq_eq_false_iff_ne.mpr c2
 have c2b1 := bne_iff_ne.mpr c2
 obtain rfl := Option.some.inj H
 go_enter Try.func64, Try.ntmps64
 go_wp2_with (first | ((with_reducible refine gate_dst (N := 1) rfl ?_); refine bE_ 1 #[.string a0_0, .string a0_1] 29 ?_; intro gb109 hg w5 hbox hb; have BK109 := aK_ (hbox); have GW109 := aK_ (gE_ hg); replace HB := aK_ (wT bW_ hb); have GE109 := GW109; clear hb hbox hg; have hz6 := cq2_ BK109.out))
 go_ret
 exact ⟨eR_, bS1_ GE109.out⟩
def catchmentref27_Open.f (l0 : List (S97)) (a1_0 a1_1 : BA) : Option ((List (S97)) × Int × Int) := (catchmentref02_Right.f a1_0 a1_1).bind fun t111 => (if t111 = true then ((some (([] : List (S97)) : List (S97))).bind fun y112 => (if y112.length + l0.length < 3518437208883 then ((some (y112 ++ l0 : List (S97))).bind fun y115 => ((some (([(⟨(⟨a1_0, a1_1⟩ : S29), false, false⟩ : S97)] : List (S97)) : List (S97))).bind fun y118 => (if y115.length + y118.length < 3518437208883 then ((some (y115 ++ y118 : List (S97))).bind fun y121 => (some (y121, (y121.length : Int), 0))) else (none)))) else (none))) else (some (l0, 0, 7)))
def catchmentref27_Open.T3 : Bool × List (List Nat × List Nat) := (true, [([], []), ([], []), ([0, 1], [0, 1]), ([], []), ([3], [3]), ([4], [4]), ([2, 5, 2], [2, 5]), ([6, 6, 0, 1, 2, 3, 4, 5, 6], [6])])
def catchmentref27_Open.B3 : List Nat := [0, 0, 3, 0, 8, 24, 63, 127]
theorem catchmentref27_Open.tab3 : rtab .any (opsOf Try.f39 3) = catchmentref27_Open.T3 := by kernel_rfl
theorem catchmentref27_Open.bits3 : waitsOk catchmentref27_Open.T3.2 catchmentref27_Open.B3 = true := by kernel_rfl
set_option maxHeartbeats 8000000 in
set_option maxRecDepth 100000 in
theorem catchmentref27_Open.calls (P0_ : Nat → Prop) (A0 : Option Addr) (c0 : Nat) (l0 : List (S97)) (a1_0 a1_1 : BA) (r1 : List (S97)) (r2 r3 : Int) (w : World) (hs0 : Kd.V k97 97 w w.heap.size (fun k_ => P0_ k_) (.slice A0 l0.length c0) l0) (h : catchmentref27_Open.f l0 a1_0 a1_1 = some (r1, r2, r3)) :
  Calls Try.prog 39 #[.slice A0 l0.length c0, .agg #[.string a1_0, .string a1_1]] w fun e w' => ∃ v0_ : Value, e = .returned (.tuple #[v0_, .int .i64 r2, .int .i64 r3]) ∧ Kd.V k97 97 w' w.heap.size (fun k_ => (P0_ k_ ∨ w.heap.size ≤ k_)) v0_ r1 ∧ Below w.heap.size w w' := by
 have hu29 := Try.underlying29
 have hu97 := Try.underlying97
 have HO0 := aK_ (show Kd.V k97 97 w w.heap.size (fun k_ => (P0_ k_ ∨ w.heap.size ≤ k_)) (.slice A0 l0.length c0) l0 from Kd.V_mono hs0 (fun k_ hk => .inl hk))
 have HB := aK_ (Below.refl w.heap.size w)
 have H : ((catchmentref02_Right.f a1_0 a1_1).bind fun t111 => (if t111 = true then ((some (([] : List (S97)) : List (S97))).bind fun y112 => (if y112.length + l0.length < 3518437208883 then ((some (y112 ++ l0 : List (S97))).bind fun y115 => ((some (([(⟨(⟨a1_0, a1_1⟩ : S29), false, false⟩ : S97)] : List (S97)) : List (S97))).bind fun y118 => (if y115.length + y118.length < 3518437208883 then ((some (y115 ++ y118 : List (S97))).bind fun y121 => (some (y121, (y121.length : Int), 0))) else (none)))) else (none))) else (some (l0, 0, 7)))) = some (r1, r2, r3) := h
 clear h
 replace H := Option.bind_eq_some_iff.mp H
 obtain ⟨t111, A30, H⟩ := H
 replace H : (if t111 = true then ((some (([] : List (S97)) : List (S97))).bind fun y112 => (if y112.length + l0.length < 3518437208883 then ((some (y112 ++ l0 : List (S97))).bind fun y115 => ((some (([(⟨(⟨a1_0, a1_1⟩ : S29), false, false⟩ : S97)] : List (S97)) : List (S97))).bind fun y118 => (if y115.length + y118.length < 3518437208883 then ((some (y115 ++ y118 : List (S97))).bind fun y121 => (some (y121, (y121.length : Int), 0))) else (none)))) else (none))) else (some (l0, 0, 7))) = some (r1, r2, r3) := H
 have A3 := aK_ A30
 clear A30
 by_cases c4 : t111 = true
 ·subst c4
  have H1 : ((some (([] : List (S97)) : List (S97))).bind fun y112 => (if y112.length + l0.length < 3518437208883 then ((some (y112 ++ l0 : List (S97))).bind fun y115 => ((some (([(⟨(⟨a1_0, a1_1⟩ : S29), false, false⟩ : S97)] : List (S97)) : List (S97))).bind fun y118 => (if y115.length + y118.length < 3518437208883 then ((some (y115 ++ y118 : List (S97))).bind fun y121 => (some (y121, (y121.length : Int), 0))) else (none)))) else (none))) = some (r1, r2, r3) := by rw [if_pos rfl] at H; exact H
  clear H
  have H := H1
  clear H1
  obtain ⟨y112, hy112⟩ : ∃ y_ : List (S97), y_ = (([] : List (S97))) := ⟨_, rfl⟩
  replace H : (if y112.length + l0.length < 3518437208883 then ((some (y112 ++ l0 : List (S97))).bind fun y115 => ((some (([(⟨(⟨a1_0, a1_1⟩ : S29), false, false⟩ : S97)] : List (S97)) : List (S97))).bind fun y118 => (if y115.length + y118.length < 3518437208883 then ((some (y115 ++ y118 : List (S97))).bind fun y121 => (some (y121, (y121.length : Int), 0))) else (none)))) else (none)) = some (r1, r2, r3) := by first | (rw [hy112]; with_reducible exact H) | (have H2_ := (Option.bind_some _ _).symm.trans H; rw [hy112]; with_reducible exact H2_) | (have H2_ := (Option.bind_some _ _).symm.trans H; with_reducible exact H2_) | with_reducible exact H | (rw [hy112]; exact H) | exact H
  have Ny112 := aK_ hy112
  clear hy112
  by_cases c5 : y112.length + l0.length < 3518437208883
  ·rw [if_pos c5] at H
   have LMc5 := aK_ c5
   clear c5
   obtain ⟨y115, hy115⟩ : ∃ y_ : List (S97), y_ = (y112 ++ l0) := ⟨_, rfl⟩
   replace H : ((some (([(⟨(⟨a1_0, a1_1⟩ : S29), false, false⟩ : S97)] : List (S97)) : List (S97))).bind fun y118 => (if y115.length + y118.length < 3518437208883 then ((some (y115 ++ y118 : List (S97))).bind fun y121 => (some (y121, (y121.length : Int), 0))) else (none))) = some (r1, r2, r3) := by first | (rw [hy115]; with_reducible exact H) | (have H2_ := (Option.bind_some _ _).symm.trans H; rw [hy115]; with_reducible exact H2_) | (have H2_ := (Option.bind_some _ _).symm.trans H; with_reducible exact H2_) | with_reducible exact H | (rw [hy115]; exact H) | exact H
   have Ny115 := aK_ hy115
   clear hy115
   obtain ⟨y118, hy118⟩ : ∃ y_ : List (S97), y_ = (([(⟨(⟨a1_0, a1_1⟩ : S29), false, false⟩ : S97)] : List (S97))) := ⟨_, rfl⟩
   replace H : (if y115.length + y118.length < 3518437208883 then ((some (y115 ++ y118 : List (S97))).bind fun y121 => (some (y121, (y121.length : Int), 0))) else (none)) = some (r1, r2, r3) := by first | (rw [hy118]; with_reducible exact H) | (have H2_ := (Option.bind_some _ _).symm.trans H; rw [hy118]; with_reducible exact H2_) | (have H2_ := (Option.bind_some _ _).symm.trans H; with_reducible exact H2_) | with_reducible exact H | (rw [hy118]; exact H) | exact H
   have Ny118 := aK_ hy118
   clear hy118
   by_cases c6 : y115.length + y118.length < 3518437208883
   ·rw [if_pos c6] at H
    have LMc6 := aK_ c6
    clear c6
    obtain ⟨y121, hy121⟩ : ∃ y_ : List (S97), y_ = (y115 ++ y118) := ⟨_, rfl⟩
    replace H : (some (y121, (y121.length : Int), 0)) = some (r1, r2, r3) := by first | (rw [hy121]; with_reducible exact H) | (have H2_ := (Option.bind_some _ _).symm.trans H; rw [hy121]; with_reducible exact H2_) | (have H2_ := (Option.bind_some _ _).symm.trans H; with_reducible exact H2_) | with_reducible exact H | (rw [hy121]; exact H) | exact H
    have Ny121 := aK_ hy121
    clear hy121
    simp only [Option.some.injEq, Prod.mk.injEq] at H
    obtain ⟨rfl, rfl, rfl⟩ := H
    go_enter Try.func39, Try.ntmps39
    try go_wp2_with (first | ((with_reducible refine gate_dst (N := 3) rfl ?_); refine bE_ 3 #[.string a1_0, .string a1_1] 29 ?_; intro gb110 hg w7 hbox hb; replace HO0 := aK_ (Kd.V_below (Kd.V_elderB (kV_ HO0.out) gb110 (Nat.le_of_eq hg.symm)) hb); have BK110 := aK_ (hbox); have GW110 := aK_ (gE_ hg); replace HB := aK_ (wT bW_ hb); have GE110 := GW110; clear hb hbox hg; have hz8 := cq2_ BK110.out) | ((with_reducible refine gate_callee (f := 64) rfl ?_); refine goesL_ (some 9) rfl rfl Try.func64 (by kernel_rfl) rfl #[.agg #[.string a1_0, .string a1_1]] rfl mS_ ?_; (with_reducible refine (catchmentref02_Right.calls a1_0 a1_1 true _ A3.out).mono ?_); rintro e w9 ⟨rfl, hb⟩; refine ⟨_, rfl, ?_⟩; replace HO0 := aK_ (Kd.V_below (kV_ HO0.out) hb); replace BK110 := aK_ (bB (bX_ BK110.out) hb); replace HB := aK_ (wT (bS1_ GE110.out) hb); (try clear hb); (try clear hb2); (try clear hk); (try clear hi)))
    have n0_ := aK_ (Kd.V_drew HO0.out)
    have n1_ := aK_ (bD BK110.out)
    have n2_ := aK_ (w1 HB.out)
    clear HO0
    clear BK110
    clear HB
    have HO0 := n0_
    have BK110 := n1_
    have HB := n2_
    clear n0_ n1_ n2_
    refine start_ (n := 8) (S := fun w' => w'.cell? ⟨gb110, 0, none⟩ = some (.string a1_0) ∧ w'.cell? ⟨gb110, 1, none⟩ = some (.string a1_1)) (ds := []) #[ZZ,ZZ,ZZ,ZZ,ZZ,ZZ,ZZ,ZZ] (by kernel_rfl) rfl rfl ⟨(bC BK110.out 0).trans rfl, (bC BK110.out 1).trans rfl⟩ (fun hHeld => ?_); refine with_tabW catchmentref27_Open.tab3 catchmentref27_Open.bits3 (fun HT_ HW_ => ?_)
    generalize w9.drew = w10 at HO0 BK110 HB hHeld ⊢
    refine pU_ 1 13 #[ZZ,YY,ZZ,ZZ,ZZ,ZZ,ZZ,ZZ] ?_
    refine take_ (i := 3) (N := some 15) (v := ?_) (a' := ?_) #[ZZ,YY,ZZ,YY,ZZ,ZZ,ZZ,ZZ] rfl rfl (take_ofW HT_.out HW_.out (by kernel_rfl)) (fun _ _ _ h => h) (Or.inl ⟨by rfl, ?_⟩) hHeld ?_ ?_
    rotate_left
    ·rintro w' ⟨s0, s1⟩
     go_simp
     with_reducible rfl
    rotate_left
    ·simp only [Act.put, sA1, sA2, sA3, i64_w, i32_w]
     rfl
    refine pU_ 4 16 #[ZZ,YY,ZZ,YY,YY,ZZ,ZZ,ZZ] ?_
    refine join_ (σ := Value × Value × Value) 2 #[YY,YY,YY,YY,YY,YY,ZZ,ZZ] (fun s_ => [(12, s_.1), (14, s_.2.1), (17, s_.2.2)]) (fun s_ w' => (w'.cell? ⟨gb110, 0, none⟩ = some (.string a1_0) ∧ w'.cell? ⟨gb110, 1, none⟩ = some (.string a1_1)) ∧ (Kd.V k97 97 w' w.heap.size (fun k_ => (P0_ k_ ∨ w.heap.size ≤ k_) ∧ some k_ ≠ (s_.2.1 : Value).ownBlock ∧ some k_ ≠ (s_.2.2 : Value).ownBlock ∧ k_ ≠ gb110) (.slice A0 l0.length c0) l0) ∧ (Kd.R k97 97 w' w.heap.size (fun k_ => (w.heap.size ≤ k_) ∧ some k_ ≠ (s_.2.2 : Value).ownBlock) s_.2.1 y115) ∧ (Kd.R k97 97 w' w.heap.size (fun k_ => (w.heap.size ≤ k_) ∧ some k_ ≠ (s_.2.1 : Value).ownBlock) s_.2.2 y118) ∧ (w'.heap[gb110]? = some (.cells #[.string a1_0, .string a1_1] 29 (0, 0))) ∧ (Below w.heap.size w w')) ?_ ?_
    rotate_left
    ·intro hCont
     refine two_ (i := 0) (j := 5) (Ni := some 12) (Nj := some 17) #[YY,YY,ZZ,YY,YY,ZZ,ZZ,ZZ] #[ZZ,YY,ZZ,YY,YY,YY,ZZ,ZZ] rfl rfl rfl rfl (two_of HT_.out (by kernel_rfl)) (by decide) (by decide) (fun K hK => ?_) (fun K hK => ?_)
     ·skip
      refine Kd.R_lit_step k97 _ 97 ?hg (N := 12) ?hd (xs := ([] : List (S97))) (inner := []) (ok := fun _ => True) (okp := fun _ => True) ?hr ?hp (fun _ hk => hk) trivial (Below.refl _ _) (Nat.le_refl _) (by simp) ?_; (case hd => rfl); (case hg => rfl); (case hr => first | (go_simp; done) | (go_simp; rfl)); (case hp => exact (Reps.none _ _))
      intro v113 w11 ho12 hb hg_ hnew_
      clear hg_ hnew_
      (first | rw [← Ny112.out] at ho12 | (simp only [Int.reduceToNat] at ho12; rw [← Ny112.out] at ho12))
      have n0_ := aK_ (Kd.V_elder' (kV_ HO0.out) (Kd.R_base ho12) hb)
      have n1_ := aK_ (Kd.R_lower (Kd.R_newM (M := fun k_ => (w.heap.size ≤ k_)) ho12 (wZ (bS1_ GE110.out)) (fun k_ h_ => h_)) (wZ (bS1_ GE110.out)))
      have n2_ := aK_ (bB (bX_ BK110.out) hb)
      have n3_ := aK_ (wT (bS1_ GE110.out) hb)
      clear HO0
      clear BK110
      clear HB
      have HO0 := n0_
      have HO114 := n1_
      have BK110 := n2_
      have HB := n3_
      clear n0_ n1_ n2_ n3_
      clear hb ho12
      refine hK.out _ _ ⟨(bC BK110.out 0).trans rfl, (bC BK110.out 1).trans rfl⟩ (fun hHeld => ?_)
      clear hK K
      refine norm_ (a' := ?_) ?_ ?_
      rotate_left
      ·show Act.put _ (some 12) _ = _
       simp only [Act.put, sA1, sA2, sA3, i64_w, i32_w]
       rfl
      refine two_ (i := 2) (j := 5) (Ni := some 14) (Nj := some 17) #[YY,YY,YY,YY,YY,ZZ,ZZ,ZZ] #[YY,YY,ZZ,YY,YY,YY,ZZ,ZZ] rfl rfl rfl rfl (two_of HT_.out (by kernel_rfl)) (by decide) (by decide) (fun K hK => ?_) (fun K hK => ?_)
      ·skip
       refine Kd.R_append_rows_step k97 (w0 := w) w.heap.size (by rfl) (.tmp 12) (.tmp 13) 25 97 (.agg #[(.string ⟨#[]⟩), (.string ⟨#[]⟩), (.bool false), (.bool false)]) 40 rfl Try.underlying25 info97 rfl (by decide) (by omega) v113 y112 l0 _ _ _ (fun k_ => (w.heap.size ≤ k_)) (fun _ => False) rfl rfl ?aO ?aR (fun _ _ h => h) (fun _ h => h.elim) ?aF ?aB ?aS ?aL ?_
       (case aR => repeat (first | exact (Kd.V_reads' HO0.out).2.2 | (with_reducible refine Kd.C_alloc ?_ _) | (with_reducible refine Kd.C_drewN ?_ _) | (with_reducible refine Kd.C_drew ?_)))
       (case aB => exact (bS1_ GE110.out))
       (case aF => exact (fun k_ hk => (Nat.le_trans (wZ (bS1_ GE110.out)) hk)))
       (case aO => exact (by (with_reducible repeat (first | apply Kd.R_alloc | apply Kd.R_drewN | apply Kd.R_drew)); exact Kd.R_mono HO114.out (fun _ hk => hk.1)))
       (case aS => exact (wZ (bS1_ GE110.out)))
       (case aL => have := LMc5.out; omega)
       intro v116 w13 ho hb hg hat
       rw [← Ny115.out] at ho
       have n0_ := aK_ (Kd.V_afterv (ok := (fun k_ => (P0_ k_ ∨ w.heap.size ≤ k_) ∧ k_ ≠ gb110)) (kV_ HO0.out) hg hat)
       have n1_ := aK_ (blk_grown (g := gb110) (o := .cells #[.string a1_0, .string a1_1] 29 (0, 0)) (bX_ BK110.out) hg (Kd.R_ne HO114.out BK110.out (by decide)))
       have n2_ := aK_ (hb)
       have n3_ := aK_ (ho)
       clear HO0
       clear BK110
       clear HB
       clear HO114
       have HO0 := n0_
       have BK110 := n1_
       have HB := n2_
       have HO117 := n3_
       clear n0_ n1_ n2_ n3_
       clear ho hb hg hat
       refine hK.out _ _ ⟨(bC BK110.out 0).trans rfl, (bC BK110.out 1).trans rfl⟩ (fun hHeld => ?_)
       clear hK K
       refine norm_ (a' := ?_) ?_ ?_
       rotate_left
       ·show Act.put _ (some 14) _ = _
        simp only [Act.put, sA1, sA2, sA3, i64_w, i32_w]
        rfl
       refine one_ (i := 5) (N := some 17) #[YY,YY,YY,YY,YY,YY,ZZ,ZZ] rfl rfl (one_of HT_.out (by kernel_rfl)) (by decide) (fun K hK => ?_)
       refine Kd.R_lit_step k97 _ 97 ?hg (N := 17) ?hd (xs := ([(⟨(⟨a1_0, a1_1⟩ : S29), false, false⟩ : S97)] : List (S97))) (inner := [.string a1_0, .string a1_1, .bool false, .bool false]) (ok := fun _ => True) (okp := fun _ => True) ?hr ?hp (fun _ hk => hk) trivial (Below.refl _ _) (Nat.le_refl _) (by simp) ?_; (case hd => rfl); (case hg => rfl); (case hr => first | (go_simp; done) | (go_simp; rfl)); (case hp => exact (Reps.c4 (show Kd.M k97 _ _ _ (⟨(⟨a1_0, a1_1⟩ : S29), false, false⟩ : S97) [.string a1_0, .string a1_1, .bool false, .bool false] from (k97_mkM _ _ _ (⟨(⟨a1_0, a1_1⟩ : S29), false, false⟩ : S97) )) (Reps.none _ _)))
       intro v119 w14 ho15 hb hg_ hnew_
       clear hg_ hnew_
       (first | rw [← Ny118.out] at ho15 | (simp only [Int.reduceToNat] at ho15; rw [← Ny118.out] at ho15))
       have n0_ := aK_ (Kd.V_elder' (kV_ HO0.out) (Kd.R_base ho15) hb)
       have n1_ := aK_ (Kd.R_elder' (kR_ HO117.out) (Kd.R_base ho15) hb)
       have n2_ := aK_ (Kd.R_lower (Kd.R_new' (Kd.R_newM (M := fun k_ => (w.heap.size ≤ k_)) ho15 (wZ (bS1_ GE110.out)) (fun k_ h_ => h_)) (Kd.R_lt (kR_ HO117.out))) (wZ (bS1_ GE110.out)))
       have n3_ := aK_ (bB (bX_ BK110.out) hb)
       have n4_ := aK_ (wT (bS1_ GE110.out) hb)
       clear HO0
       clear HO117
       clear BK110
       clear HB
       have HO0 := n0_
       have HO117 := n1_
       have HO120 := n2_
       have BK110 := n3_
       have HB := n4_
       clear n0_ n1_ n2_ n3_ n4_
       clear hb ho15
       refine hK.out _ _ ⟨(bC BK110.out 0).trans rfl, (bC BK110.out 1).trans rfl⟩ (fun hHeld => ?_)
       clear hK K
       refine norm_ (a' := ?_) ?_ ?_
       rotate_left
       ·show Act.put _ (some 17) _ = _
        simp only [Act.put, sA1, sA2, sA3, i64_w, i32_w]
        rfl
       exact norm_ (by simp only [putAll, Act.put, sA1, sA2, sA3]) (hCont (v113, v116, v119) _ ⟨hHeld, (by (with_reducible repeat (first | apply Kd.V_alloc | apply Kd.V_drewN | apply Kd.V_drew)); exact Kd.V_mono HO0.out (fun _ hk => ⟨hk.1.1.1, ⟨hk.1.2, ⟨hk.2, hk.1.1.2⟩⟩⟩)), (kR_ HO117.out), (by (with_reducible repeat (first | apply Kd.R_alloc | apply Kd.R_drewN | apply Kd.R_drew)); exact Kd.R_mono HO120.out (fun _ hk => ⟨hk.1.1, hk.2⟩)), (bX_ BK110.out), (bS1_ GE110.out)⟩)
      skip
      refine Kd.R_lit_step k97 _ 97 ?hg (N := 17) ?hd (xs := ([(⟨(⟨a1_0, a1_1⟩ : S29), false, false⟩ : S97)] : List (S97))) (inner := [.string a1_0, .string a1_1, .bool false, .bool false]) (ok := fun _ => True) (okp := fun _ => True) ?hr ?hp (fun _ hk => hk) trivial (Below.refl _ _) (Nat.le_refl _) (by simp) ?_; (case hd => rfl); (case hg => rfl); (case hr => first | (go_simp; done) | (go_simp; rfl)); (case hp => exact (Reps.c4 (show Kd.M k97 _ _ _ (⟨(⟨a1_0, a1_1⟩ : S29), false, false⟩ : S97) [.string a1_0, .string a1_1, .bool false, .bool false] from (k97_mkM _ _ _ (⟨(⟨a1_0, a1_1⟩ : S29), false, false⟩ : S97) )) (Reps.none _ _)))
      intro v119 w13 ho14 hb hg_ hnew_
      clear hg_ hnew_
      (first | rw [← Ny118.out] at ho14 | (simp only [Int.reduceToNat] at ho14; rw [← Ny118.out] at ho14))
      have n0_ := aK_ (Kd.V_elder' (kV_ HO0.out) (Kd.R_base ho14) hb)
      have n1_ := aK_ (Kd.R_elder' (kR_ HO114.out) (Kd.R_base ho14) hb)
      have n2_ := aK_ (Kd.R_lower (Kd.R_new' (Kd.R_newM (M := fun k_ => (w.heap.size ≤ k_)) ho14 (wZ (bS1_ GE110.out)) (fun k_ h_ => h_)) (Kd.R_lt (kR_ HO114.out))) (wZ (bS1_ GE110.out)))
      have n3_ := aK_ (bB (bX_ BK110.out) hb)
      have n4_ := aK_ (wT (bS1_ GE110.out) hb)
      clear HO0
      clear HO114
      clear BK110
      clear HB
      have HO0 := n0_
      have HO114 := n1_
      have HO120 := n2_
      have BK110 := n3_
      have HB := n4_
      clear n0_ n1_ n2_ n3_ n4_
      clear hb ho14
      refine hK.out _ _ ⟨(bC BK110.out 0).trans rfl, (bC BK110.out 1).trans rfl⟩ (fun hHeld => ?_)
      clear hK K
      refine norm_ (a' := ?_) ?_ ?_
      rotate_left
      ·show Act.put _ (some 17) _ = _
       simp only [Act.put, sA1, sA2, sA3, i64_w, i32_w]
       rfl
      refine one_ (i := 2) (N := some 14) #[YY,YY,YY,YY,YY,YY,ZZ,ZZ] rfl rfl (one_of HT_.out (by kernel_rfl)) (by decide) (fun K hK => ?_)
      refine Kd.R_append_rows_step k97 (w0 := w) w.heap.size (by rfl) (.tmp 12) (.tmp 13) 25 97 (.agg #[(.string ⟨#[]⟩), (.string ⟨#[]⟩), (.bool false), (.bool false)]) 40 rfl Try.underlying25 info97 rfl (by decide) (by omega) v113 y112 l0 _ _ _ (fun k_ => (w.heap.size ≤ k_) ∧ some k_ ≠ (v119 : Value).ownBlock) (fun _ => False) rfl rfl ?aO ?aR (fun _ _ h => h) (fun _ h => h.elim) ?aF ?aB ?aS ?aL ?_
      (case aR => repeat (first | exact (Kd.V_reads' HO0.out).2.2 | (with_reducible refine Kd.C_alloc ?_ _) | (with_reducible refine Kd.C_drewN ?_ _) | (with_reducible refine Kd.C_drew ?_)))
      (case aB => exact (bS1_ GE110.out))
      (case aF => exact (fun k_ hk => ⟨(Nat.le_trans (wZ (bS1_ GE110.out)) hk), Kd.fresh' (Kd.R_lt (kR_ HO120.out)) k_ hk⟩))
      (case aO => exact (by (with_reducible repeat (first | apply Kd.R_alloc | apply Kd.R_drewN | apply Kd.R_drew)); exact Kd.R_mono HO114.out (fun _ hk => ⟨hk.1.1, hk.2⟩)))
      (case aS => exact (wZ (bS1_ GE110.out)))
      (case aL => have := LMc5.out; omega)
      intro v116 w15 ho hb hg hat
      rw [← Ny115.out] at ho
      have n0_ := aK_ (Kd.V_afterv (ok := (fun k_ => (P0_ k_ ∨ w.heap.size ≤ k_) ∧ some k_ ≠ (v119 : Value).ownBlock ∧ k_ ≠ gb110)) (by (with_reducible repeat (first | apply Kd.V_alloc | apply Kd.V_drewN | apply Kd.V_drew)); exact Kd.V_mono HO0.out (fun _ hk => ⟨⟨hk.1.1.1, ⟨hk.2, hk.1.1.2⟩⟩, hk.1.2⟩)) hg hat)
      have n1_ := aK_ (blk_grown (g := gb110) (o := .cells #[.string a1_0, .string a1_1] 29 (0, 0)) (bX_ BK110.out) hg (Kd.R_ne HO114.out BK110.out (by decide)))
      have n2_ := aK_ (Kd.R_after (ok := (fun k_ => (w.heap.size ≤ k_))) (by (with_reducible repeat (first | apply Kd.R_alloc | apply Kd.R_drewN | apply Kd.R_drew)); exact Kd.R_mono HO120.out (fun _ hk => ⟨hk.1.1, hk.2⟩)) hg hat)
      have n3_ := aK_ (hb)
      have n4_ := aK_ (ho)
      clear HO0
      clear BK110
      clear HO120
      clear HB
      clear HO114
      have HO0 := n0_
      have BK110 := n1_
      have HO120 := n2_
      have HB := n3_
      have HO117 := n4_
      clear n0_ n1_ n2_ n3_ n4_
      clear ho hb hg hat
      refine hK.out _ _ ⟨(bC BK110.out 0).trans rfl, (bC BK110.out 1).trans rfl⟩ (fun hHeld => ?_)
      clear hK K
      refine norm_ (a' := ?_) ?_ ?_
      rotate_left
      ·show Act.put _ (some 14) _ = _
       simp only [Act.put, sA1, sA2, sA3, i64_w, i32_w]
       rfl
      exact norm_ (by simp only [putAll, Act.put, sA1, sA2, sA3]) (hCont (v113, v116, v119) _ ⟨hHeld, (by (with_reducible repeat (first | apply Kd.V_alloc | apply Kd.V_drewN | apply Kd.V_drew)); exact Kd.V_mono HO0.out (fun _ hk => ⟨hk.1.1, ⟨hk.2, ⟨hk.1.2.1, hk.1.2.2⟩⟩⟩)), (kR_ HO117.out), (kR_ HO120.out), (bX_ BK110.out), (bS1_ GE110.out)⟩)
     skip
     refine Kd.R_lit_step k97 _ 97 ?hg (N := 17) ?hd (xs := ([(⟨(⟨a1_0, a1_1⟩ : S29), false, false⟩ : S97)] : List (S97))) (inner := [.string a1_0, .string a1_1, .bool false, .bool false]) (ok := fun _ => True) (okp := fun _ => True) ?hr ?hp (fun _ hk => hk) trivial (Below.refl _ _) (Nat.le_refl _) (by simp) ?_; (case hd => rfl); (case hg => rfl); (case hr => first | (go_simp; done) | (go_simp; rfl)); (case hp => exact (Reps.c4 (show Kd.M k97 _ _ _ (⟨(⟨a1_0, a1_1⟩ : S29), false, false⟩ : S97) [.string a1_0, .string a1_1, .bool false, .bool false] from (k97_mkM _ _ _ (⟨(⟨a1_0, a1_1⟩ : S29), false, false⟩ : S97) )) (Reps.none _ _)))
     intro v119 w11 ho12 hb hg_ hnew_
     clear hg_ hnew_
     (first | rw [← Ny118.out] at ho12 | (simp only [Int.reduceToNat] at ho12; rw [← Ny118.out] at ho12))
     have n0_ := aK_ (Kd.V_elder' (kV_ HO0.out) (Kd.R_base ho12) hb)
     have n1_ := aK_ (Kd.R_lower (Kd.R_newM (M := fun k_ => (w.heap.size ≤ k_)) ho12 (wZ (bS1_ GE110.out)) (fun k_ h_ => h_)) (wZ (bS1_ GE110.out)))
     have n2_ := aK_ (bB (bX_ BK110.out) hb)
     have n3_ := aK_ (wT (bS1_ GE110.out) hb)
     clear HO0
     clear BK110
     clear HB
     have HO0 := n0_
     have HO120 := n1_
     have BK110 := n2_
     have HB := n3_
     clear n0_ n1_ n2_ n3_
     clear hb ho12
     refine hK.out _ _ ⟨(bC BK110.out 0).trans rfl, (bC BK110.out 1).trans rfl⟩ (fun hHeld => ?_)
     clear hK K
     refine norm_ (a' := ?_) ?_ ?_
     rotate_left
     ·show Act.put _ (some 17) _ = _
      simp only [Act.put, sA1, sA2, sA3, i64_w, i32_w]
      rfl
     refine one_ (i := 0) (N := some 12) #[YY,YY,ZZ,YY,YY,YY,ZZ,ZZ] rfl rfl (one_of HT_.out (by kernel_rfl)) (by decide) (fun K hK => ?_)
     refine Kd.R_lit_step k97 _ 97 ?hg (N := 12) ?hd (xs := ([] : List (S97))) (inner := []) (ok := fun _ => True) (okp := fun _ => True) ?hr ?hp (fun _ hk => hk) trivial (Below.refl _ _) (Nat.le_refl _) (by simp) ?_; (case hd => rfl); (case hg => rfl); (case hr => first | (go_simp; done) | (go_simp; rfl)); (case hp => exact (Reps.none _ _))
     intro v113 w13 ho14 hb hg_ hnew_
     clear hg_ hnew_
     (first | rw [← Ny112.out] at ho14 | (simp only [Int.reduceToNat] at ho14; rw [← Ny112.out] at ho14))
     have n0_ := aK_ (Kd.V_elder' (kV_ HO0.out) (Kd.R_base ho14) hb)
     have n1_ := aK_ (Kd.R_elder' (kR_ HO120.out) (Kd.R_base ho14) hb)
     have n2_ := aK_ (Kd.R_lower (Kd.R_new' (Kd.R_newM (M := fun k_ => (w.heap.size ≤ k_)) ho14 (wZ (bS1_ GE110.out)) (fun k_ h_ => h_)) (Kd.R_lt (kR_ HO120.out))) (wZ (bS1_ GE110.out)))
     have n3_ := aK_ (bB (bX_ BK110.out) hb)
     have n4_ := aK_ (wT (bS1_ GE110.out) hb)
     clear HO0
     clear HO120
     clear BK110
     clear HB
     have HO0 := n0_
     have HO120 := n1_
     have HO114 := n2_
     have BK110 := n3_
     have HB := n4_
     clear n0_ n1_ n2_ n3_ n4_
     clear hb ho14
     refine hK.out _ _ ⟨(bC BK110.out 0).trans rfl, (bC BK110.out 1).trans rfl⟩ (fun hHeld => ?_)
     clear hK K
     refine norm_ (a' := ?_) ?_ ?_
     rotate_left
     ·show Act.put _ (some 12) _ = _
      simp only [Act.put, sA1, sA2, sA3, i64_w, i32_w]
      rfl
     refine one_ (i := 2) (N := some 14) #[YY,YY,YY,YY,YY,YY,ZZ,ZZ] rfl rfl (one_of HT_.out (by kernel_rfl)) (by decide) (fun K hK => ?_)
     refine Kd.R_append_rows_step k97 (w0 := w) w.heap.size (by rfl) (.tmp 12) (.tmp 13) 25 97 (.agg #[(.string ⟨#[]⟩), (.string ⟨#[]⟩), (.bool false), (.bool false)]) 40 rfl Try.underlying25 info97 rfl (by decide) (by omega) v113 y112 l0 _ _ _ (fun k_ => (w.heap.size ≤ k_) ∧ some k_ ≠ (v119 : Value).ownBlock) (fun _ => False) rfl rfl ?aO ?aR (fun _ _ h => h) (fun _ h => h.elim) ?aF ?aB ?aS ?aL ?_
     (case aR => repeat (first | exact (Kd.V_reads' HO0.out).2.2 | (with_reducible refine Kd.C_alloc ?_ _) | (with_reducible refine Kd.C_drewN ?_ _) | (with_reducible refine Kd.C_drew ?_)))
     (case aB => exact (bS1_ GE110.out))
     (case aF => exact (fun k_ hk => ⟨(Nat.le_trans (wZ (bS1_ GE110.out)) hk), Kd.fresh' (Kd.R_lt (kR_ HO120.out)) k_ hk⟩))
     (case aO => exact (by (with_reducible repeat (first | apply Kd.R_alloc | apply Kd.R_drewN | apply Kd.R_drew)); exact Kd.R_mono HO114.out (fun _ hk => ⟨hk.1.1, hk.2⟩)))
     (case aS => exact (wZ (bS1_ GE110.out)))
     (case aL => have := LMc5.out; omega)
     intro v116 w15 ho hb hg hat
     rw [← Ny115.out] at ho
     have n0_ := aK_ (Kd.V_afterv (ok := (fun k_ => (P0_ k_ ∨ w.heap.size ≤ k_) ∧ some k_ ≠ (v119 : Value).ownBlock ∧ k_ ≠ gb110)) (by (with_reducible repeat (first | apply Kd.V_alloc | apply Kd.V_drewN | apply Kd.V_drew)); exact Kd.V_mono HO0.out (fun _ hk => ⟨⟨hk.1.1.1, ⟨hk.1.2, hk.1.1.2⟩⟩, hk.2⟩)) hg hat)
     have n1_ := aK_ (blk_grown (g := gb110) (o := .cells #[.string a1_0, .string a1_1] 29 (0, 0)) (bX_ BK110.out) hg (Kd.R_ne HO114.out BK110.out (by decide)))
     have n2_ := aK_ (Kd.R_after (ok := (fun k_ => (w.heap.size ≤ k_))) (by (with_reducible repeat (first | apply Kd.R_alloc | apply Kd.R_drewN | apply Kd.R_drew)); exact Kd.R_mono HO120.out (fun _ hk => ⟨hk.1.1, hk.2⟩)) hg hat)
     have n3_ := aK_ (hb)
     have n4_ := aK_ (ho)
     clear HO0
     clear BK110
     clear HO120
     clear HB
     clear HO114
     have HO0 := n0_
     have BK110 := n1_
     have HO120 := n2_
     have HB := n3_
     have HO117 := n4_
     clear n0_ n1_ n2_ n3_ n4_
     clear ho hb hg hat
     refine hK.out _ _ ⟨(bC BK110.out 0).trans rfl, (bC BK110.out 1).trans rfl⟩ (fun hHeld => ?_)
     clear hK K
     refine norm_ (a' := ?_) ?_ ?_
     rotate_left
     ·show Act.put _ (some 14) _ = _
      simp only [Act.put, sA1, sA2, sA3, i64_w, i32_w]
      rfl
     exact norm_ (by simp only [putAll, Act.put, sA1, sA2, sA3]) (hCont (v113, v116, v119) _ ⟨hHeld, (by (with_reducible repeat (first | apply Kd.V_alloc | apply Kd.V_drewN | apply Kd.V_drew)); exact Kd.V_mono HO0.out (fun _ hk => ⟨hk.1.1, ⟨hk.2, ⟨hk.1.2.1, hk.1.2.2⟩⟩⟩)), (kR_ HO117.out), (kR_ HO120.out), (bX_ BK110.out), (bS1_ GE110.out)⟩)
    rintro ⟨v113, v116, v119⟩ w16 ⟨hS_, h0_, h1_, h2_, h3_, h4_⟩
    have n0_ : Aside0 (Kd.V k97 97 w16 w.heap.size (fun k_ => (P0_ k_ ∨ w.heap.size ≤ k_) ∧ some k_ ≠ (v116 : Value).ownBlock ∧ some k_ ≠ (v119 : Value).ownBlock ∧ k_ ≠ gb110) (.slice A0 l0.length c0) l0) := ⟨h0_⟩
    have n1_ : Aside0 (Kd.R k97 97 w16 w.heap.size (fun k_ => (w.heap.size ≤ k_) ∧ some k_ ≠ (v119 : Value).ownBlock) v116 y115) := ⟨h1_⟩
    have n2_ : Aside0 (Kd.R k97 97 w16 w.heap.size (fun k_ => (w.heap.size ≤ k_) ∧ some k_ ≠ (v116 : Value).ownBlock) v119 y118) := ⟨h2_⟩
    have n3_ : Aside0 (w16.heap[gb110]? = some (.cells #[.string a1_0, .string a1_1] 29 (0, 0))) := ⟨h3_⟩
    have n4_ : Aside0 (Below w.heap.size w w16) := ⟨h4_⟩
    clear HO0
    clear BK110
    clear HB
    clear h0_ h1_ h2_ h3_ h4_
    have HO0 := n0_
    have HO117 := n1_
    have HO120 := n2_
    have BK110 := n3_
    have HB := n4_
    clear n0_ n1_ n2_ n3_ n4_
    have hHeld : w16.cell? ⟨gb110, 0, none⟩ = some (.string a1_0) ∧ w16.cell? ⟨gb110, 1, none⟩ = some (.string a1_1) := hS_
    obtain ⟨Ao18, co18, eo18⟩ := Kd.R_slice HO120.out
    (first | subst eo18 | (injection eo18 with f1_ f2_ f3_; have f4_ := f1_.symm; have f5_ := f3_.symm; clear f1_ f2_ f3_; subst f4_; subst f5_))
    refine norm_ (a' := ?_) ?_ ?_
    rotate_left
    ·simp only [putAll, Act.put, sA1, sA2, sA3]
     rfl
    refine one_ (i := 6) (N := some 18) #[YY,YY,YY,YY,YY,YY,YY,ZZ] rfl rfl (one_of HT_.out (by kernel_rfl)) (by decide) (fun K hK => ?_)
    refine Kd.R_append_rows_step k97 (w0 := w) w.heap.size (by rfl) (.tmp 14) (.tmp 17) 25 97 (.agg #[(.string ⟨#[]⟩), (.string ⟨#[]⟩), (.bool false), (.bool false)]) 40 rfl Try.underlying25 info97 rfl (by decide) (by omega) v116 y115 y118 _ _ _ (fun k_ => (w.heap.size ≤ k_) ∧ some k_ ≠ (.slice Ao18 y118.length co18 : Value).ownBlock) (fun _ => False) rfl rfl ?aO ?aR (fun _ _ h => h) (fun _ h => h.elim) ?aF ?aB ?aS ?aL ?_
    (case aR => repeat (first | exact (Kd.R_reads' HO120.out).2.2 | (with_reducible refine Kd.C_alloc ?_ _) | (with_reducible refine Kd.C_drewN ?_ _) | (with_reducible refine Kd.C_drew ?_)))
    (case aB => exact (bS1_ GE110.out))
    (case aF => exact (fun k_ hk => ⟨(Nat.le_trans (wZ (bS1_ GE110.out)) hk), Kd.fresh' (Kd.R_lt (kR_ HO120.out)) k_ hk⟩))
    (case aO => exact (kR_ HO117.out))
    (case aS => exact (wZ (bS1_ GE110.out)))
    (case aL => have := LMc6.out; omega)
    intro v122 w17 ho hb hg hat
    rw [← Ny121.out] at ho
    have n0_ := aK_ (Kd.V_afterv (ok := (fun k_ => (P0_ k_ ∨ w.heap.size ≤ k_) ∧ some k_ ≠ (.slice Ao18 y118.length co18 : Value).ownBlock ∧ k_ ≠ gb110)) (by (with_reducible repeat (first | apply Kd.V_alloc | apply Kd.V_drewN | apply Kd.V_drew)); exact Kd.V_mono HO0.out (fun _ hk => ⟨⟨hk.1, ⟨hk.2.2.1, hk.2.2.2⟩⟩, hk.2.1⟩)) hg hat)
    have n1_ := aK_ (blk_grown (g := gb110) (o := .cells #[.string a1_0, .string a1_1] 29 (0, 0)) (bX_ BK110.out) hg (Kd.R_ne HO117.out BK110.out (by decide)))
    have n2_ := aK_ (Kd.R_after (ok := (fun k_ => (w.heap.size ≤ k_))) (kR_ HO120.out) hg hat)
    have n3_ := aK_ (hb)
    have n4_ := aK_ (ho)
    clear HO0
    clear BK110
    clear HO120
    clear HB
    clear HO117
    have HO0 := n0_
    have BK110 := n1_
    have HO120 := n2_
    have HB := n3_
    have HO123 := n4_
    clear n0_ n1_ n2_ n3_ n4_
    clear ho hb hg hat
    refine hK.out _ _ ⟨(bC BK110.out 0).trans rfl, (bC BK110.out 1).trans rfl⟩ (fun hHeld => ?_)
    clear hK K
    refine norm_ (a' := ?_) ?_ ?_
    rotate_left
    ·show Act.put _ (some 18) _ = _
     simp only [Act.put, sA1, sA2, sA3, i64_w, i32_w]
     rfl
    refine pU_ 7 7 #[YY,YY,YY,YY,YY,YY,YY,YY] ?_
    refine done_ (done_of HT_.out (by kernel_rfl)) ?_
    obtain ⟨Ao19, co19, eo19⟩ := Kd.R_slice HO123.out
    subst eo19
    try go_wp2
    go_ret3
    exact ⟨_, by first | rfl | (simp [errW_none, errW_some] <;> rfl) | (simp [*, errW_none, errW_some] <;> rfl), Kd.V_mono (Kd.R_V (by (with_reducible repeat (first | apply Kd.R_alloc | apply Kd.R_drewN | apply Kd.R_drew)); exact Kd.R_mono HO123.out (fun _ hk => hk.1))) (fun k_ hk => by first | exact ⟨(.inr (hk.1)), hk.2⟩ | exact (.inr (hk))), bS1_ GE110.out⟩
   rw [if_neg c6] at H
   exact absurd H (by simp)
  rw [if_neg c5] at H
  exact absurd H (by simp)
 replace c4 := Bool.eq_false_iff.mpr c4
 subst c4
 have H1 : (some (l0, 0, 7)) = some (r1, r2, r3) := by rw [if_neg (show ¬ (false = true) by decide)] at H; exact H
 clear H
 have H := H1
 clear H1
 simp only [Option.some.injEq, Prod.mk.injEq] at H
 obtain ⟨rfl, rfl, rfl⟩ := H
 go_enter Try.func39, Try.ntmps39
 go_wp2_with (first | ((with_reducible refine gate_dst (N := 3) rfl ?_); refine bE_ 3 #[.string a1_0, .string a1_1] 29 ?_; intro gb110 hg w20 hbox hb; replace HO0 := aK_ (Kd.V_below (Kd.V_elderB (kV_ HO0.out) gb110 (Nat.le_of_eq hg.symm)) hb); have BK110 := aK_ (hbox); have GW110 := aK_ (gE_ hg); replace HB := aK_ (wT bW_ hb); have GE110 := GW110; clear hb hbox hg; have hz21 := cq2_ BK110.out) | ((with_reducible refine gate_callee (f := 64) rfl ?_); refine goesL_ (some 9) rfl rfl Try.func64 (by kernel_rfl) rfl #[.agg #[.string a1_0, .string a1_1]] rfl mS_ ?_; (with_reducible refine (catchmentref02_Right.calls a1_0 a1_1 false _ A3.out).mono ?_); rintro e w22 ⟨rfl, hb⟩; refine ⟨_, rfl, ?_⟩; replace HO0 := aK_ (Kd.V_below (kV_ HO0.out) hb); replace BK110 := aK_ (bB (bX_ BK110.out) hb); replace HB := aK_ (wT (bS1_ GE110.out) hb); (try clear hb); (try clear hb2); (try clear hk); (try clear hi)))
 go_ret3
 exact ⟨_, by first | rfl | (simp [errW_none, errW_some] <;> rfl) | (simp [*, errW_none, errW_some] <;> rfl), by (with_reducible repeat (first | apply Kd.V_alloc | apply Kd.V_drewN | apply Kd.V_drew)); exact Kd.V_mono HO0.out (fun _ hk => hk.1), bS1_ GE110.out⟩
def catchmentref27_Is.f (l0 : List (S97)) (a1 : Int) : Option (Bool) := if a1 ≥ 1 then (if a1 ≤ (l0.length : Int) then (if 0 ≤ (wrap64 (a1 - 1)) then (if (wrap64 (a1 - 1)) < (l0.length : Int) then (some (!((rd_T97 l0 (wrap64 (a1 - 1))).f2))) else (none)) else (none)) else (some false)) else (some false)
set_option maxHeartbeats 8000000 in
set_option maxRecDepth 100000 in
theorem catchmentref27_Is.calls (A0 : Option Addr) (c0 : Nat) (l0 : List (S97)) (a1 : Int) (r : Bool) (w : World) (hr0 : Kd.C k97 w A0 l0.length l0) (hc0 : l0.length ≤ c0) (h : catchmentref27_Is.f l0 a1 = some r) :
  Calls Try.prog 42 #[.slice A0 l0.length c0, .int .i64 a1] w fun e w' => e = .returned (.bool r) ∧ Drawn0 w w' := by
 have HR0 := aK_ hr0
 have HC0 := aK_ hc0
 clear hr0 hc0
 have H : (if a1 ≥ 1 then (if a1 ≤ (l0.length : Int) then (if 0 ≤ (wrap64 (a1 - 1)) then (if (wrap64 (a1 - 1)) < (l0.length : Int) then (some (!((rd_T97 l0 (wrap64 (a1 - 1))).f2))) else (none)) else (none)) else (some false)) else (some false)) = some r := h
 clear h
 by_cases c3 : a1 ≥ 1
 ·rw [if_pos c3] at H
  have c3b0 : decide (1 ≤ a1) = true := decide_eq_true c3
  clear c3
  by_cases c4 : a1 ≤ (l0.length : Int)
  ·rw [if_pos c4] at H
   have c4b0 := decide_eq_true c4
   clear c4
   obtain ⟨ji5, hji5⟩ : ∃ j_ : Int, (wrap64 (a1 - 1)) = j_ := ⟨_, rfl⟩
   replace H : (if 0 ≤ (ji5) then (if (ji5) < (l0.length : Int) then (some (!((rd_T97 l0 (ji5)).f2))) else (none)) else (none)) = some r := by first | (rw [hji5] at H; exact H) | (simp only [hji5] at H ⊢; exact H)
   have hji5w : (IntKind.i64.wrap (a1 - 1)) = ji5 := (i64_w _).trans hji5
   by_cases c6 : 0 ≤ (ji5)
   ·rw [if_pos c6] at H
    have c6b0 := decide_eq_true c6
    clear c6
    by_cases c7 : (ji5) < (l0.length : Int)
    ·rw [if_pos c7] at H
     have c7b0 := decide_eq_true c7
     clear c7
     obtain rfl := Option.some.inj H
     have p124 : 0 ≤ ((ji5) : Int) := pD_
     have q124 : (ji5) < (l0.length : Int) := pD_
     obtain ⟨ad124, e124, hx124_0, hx124_1, hx124_2, hx124_3⟩ := at_T97 HR0.out (ji5) p124 q124
     cases e124
     replace p124 := eq_true p124
     replace q124 := eq_true q124
     go_enter Try.func42, Try.ntmps42
     go_wp2
     go_ret
     exact ⟨by first | rfl | (simp; done) | (simp only [← hji5] <;> (first | rfl | simp)) | (simp [*]; done), by repeat (first | exact Drawn0.refl _ | apply Drawn0.step)⟩
    rw [if_neg c7] at H
    exact absurd H (by simp)
   rw [if_neg c6] at H
   exact absurd H (by simp)
  rw [if_neg c4] at H
  have c4b0 := decide_eq_false c4
  clear c4
  obtain rfl := Option.some.inj H
  go_enter Try.func42, Try.ntmps42
  go_wp2
  go_ret
  exact ⟨rZ_, by repeat (first | exact Drawn0.refl _ | apply Drawn0.step)⟩
 rw [if_neg c3] at H
 have c3b0 : decide (1 ≤ a1) = false := decide_eq_false c3
 clear c3
 obtain rfl := Option.some.inj H
 go_enter Try.func42, Try.ntmps42
 go_wp2
 go_ret
 exact ⟨rZ_, by repeat (first | exact Drawn0.refl _ | apply Drawn0.step)⟩
def catchmentref27_With.f (l0 : List (S97)) (a1 : Int) (a2_0 a2_1 : BA) (a2_2 a2_3 : Bool) : Option ((List (S97))) := (some (([] : List (S97)) : List (S97))).bind fun y126 => (if y126.length + l0.length < 3518437208883 then ((some (y126 ++ l0 : List (S97))).bind fun y129 => (if 0 ≤ (wrap64 (a1 - 1)) then (if (wrap64 (a1 - 1)) < (y129.length : Int) then (some (y129.set ((wrap64 (a1 - 1)) : Int).toNat (⟨(⟨a2_0, a2_1⟩ : S29), a2_2, a2_3⟩ : S97))) else (none)) else (none))) else (none))
set_option maxHeartbeats 8000000 in
set_option maxRecDepth 100000 in
theorem catchmentref27_With.calls (A0 : Option Addr) (c0 : Nat) (l0 : List (S97)) (a1 : Int) (a2_0 a2_1 : BA) (a2_2 a2_3 : Bool) (r : List (S97)) (w : World) (hr0 : Kd.C k97 w A0 l0.length l0) (hc0 : l0.length ≤ c0) (h : catchmentref27_With.f l0 a1 a2_0 a2_1 a2_2 a2_3 = some r) :
  Calls Try.prog 73 #[.slice A0 l0.length c0, .int .i64 a1, .agg #[.string a2_0, .string a2_1, .bool a2_2, .bool a2_3]] w fun e w' => ∃ v0_ : Value, e = .returned (v0_) ∧ Kd.R k97 97 w' w.heap.size (fun _ => True) v0_ r ∧ Below w.heap.size w w' := by
 have hu97 := Try.underlying97
 have HR0 := aK_ hr0
 have HC0 := aK_ hc0
 clear hr0 hc0
 have HB := aK_ (Below.refl w.heap.size w)
 have H : ((some (([] : List (S97)) : List (S97))).bind fun y126 => (if y126.length + l0.length < 3518437208883 then ((some (y126 ++ l0 : List (S97))).bind fun y129 => (if 0 ≤ (wrap64 (a1 - 1)) then (if (wrap64 (a1 - 1)) < (y129.length : Int) then (some (y129.set ((wrap64 (a1 - 1)) : Int).toNat (⟨(⟨a2_0, a2_1⟩ : S29), a2_2, a2_3⟩ : S97))) else (none)) else (none))) else (none))) = some r := h
 clear h
 obtain ⟨y126, hy126⟩ : ∃ y_ : List (S97), y_ = (([] : List (S97))) := ⟨_, rfl⟩
 replace H : (if y126.length + l0.length < 3518437208883 then ((some (y126 ++ l0 : List (S97))).bind fun y129 => (if 0 ≤ (wrap64 (a1 - 1)) then (if (wrap64 (a1 - 1)) < (y129.length : Int) then (some (y129.set ((wrap64 (a1 - 1)) : Int).toNat (⟨(⟨a2_0, a2_1⟩ : S29), a2_2, a2_3⟩ : S97))) else (none)) else (none))) else (none)) = some r := by first | (rw [hy126]; with_reducible exact H) | (have H2_ := (Option.bind_some _ _).symm.trans H; rw [hy126]; with_reducible exact H2_) | (have H2_ := (Option.bind_some _ _).symm.trans H; with_reducible exact H2_) | with_reducible exact H | (rw [hy126]; exact H) | exact H
 have Ny126 := aK_ hy126
 clear hy126
 by_cases c4 : y126.length + l0.length < 3518437208883
 ·rw [if_pos c4] at H
  have LMc4 := aK_ c4
  clear c4
  obtain ⟨y129, hy129⟩ : ∃ y_ : List (S97), y_ = (y126 ++ l0) := ⟨_, rfl⟩
  replace H : (if 0 ≤ (wrap64 (a1 - 1)) then (if (wrap64 (a1 - 1)) < (y129.length : Int) then (some (y129.set ((wrap64 (a1 - 1)) : Int).toNat (⟨(⟨a2_0, a2_1⟩ : S29), a2_2, a2_3⟩ : S97))) else (none)) else (none)) = some r := by first | (rw [hy129]; with_reducible exact H) | (have H2_ := (Option.bind_some _ _).symm.trans H; rw [hy129]; with_reducible exact H2_) | (have H2_ := (Option.bind_some _ _).symm.trans H; with_reducible exact H2_) | with_reducible exact H | (rw [hy129]; exact H) | exact H
  have Ny129 := aK_ hy129
  clear hy129
  obtain ⟨ji5, hji5⟩ : ∃ j_ : Int, (wrap64 (a1 - 1)) = j_ := ⟨_, rfl⟩
  replace H : (if 0 ≤ (ji5) then (if (ji5) < (y129.length : Int) then (some (y129.set ((ji5) : Int).toNat (⟨(⟨a2_0, a2_1⟩ : S29), a2_2, a2_3⟩ : S97))) else (none)) else (none)) = some r := by first | (rw [hji5] at H; exact H) | (simp only [hji5] at H ⊢; exact H)
  have hji5w : (IntKind.i64.wrap (a1 - 1)) = ji5 := (i64_w _).trans hji5
  by_cases c6 : 0 ≤ (ji5)
  ·rw [if_pos c6] at H
   have c6b0 := decide_eq_true c6
   clear c6
   by_cases c7 : (ji5) < (y129.length : Int)
   ·rw [if_pos c7] at H
    have c7b0 := decide_eq_true c7
    clear c7
    obtain ⟨y132, hy132⟩ : ∃ y_ : List (S97), y_ = (y129.set ((ji5) : Int).toNat (⟨(⟨a2_0, a2_1⟩ : S29), a2_2, a2_3⟩ : S97)) := ⟨_, rfl⟩
    replace H : (some y132) = some r := by first | (rw [hy132]; with_reducible exact H) | (have H2_ := (Option.bind_some _ _).symm.trans H; rw [hy132]; with_reducible exact H2_) | (have H2_ := (Option.bind_some _ _).symm.trans H; with_reducible exact H2_) | with_reducible exact H | (rw [hy132]; exact H) | exact H
    have Ny132 := aK_ hy132
    clear hy132
    obtain rfl := Option.some.inj H
    go_enter Try.func73, Try.ntmps73
    go_wp2_with (first | ((with_reducible refine gate_dst (N := 5) rfl ?_); refine bE_ 5 #[.string a2_0, .string a2_1, .bool a2_2, .bool a2_3] 97 ?_; intro gb125 hg w9 hbox hb; have BK125 := aK_ (hbox); have GW125 := aK_ (gE_ hg); replace HB := aK_ (wT bW_ hb); have GE125 := GW125; clear hb hbox hg) | ((with_reducible refine gate_dst (N := 8) rfl ?_); refine Kd.R_lit k97 _ 97 ?hg (N := 8) ?hd (xs := ([] : List (S97))) (inner := []) (ok := fun _ => True) (okp := fun _ => True) ?hr ?hp (fun _ hk => hk) trivial (Below.refl _ _) (Nat.le_refl _) (by simp) ?_; (case hd => rfl); (case hg => rfl); (case hr => first | (go_simp; done) | (go_simp; rfl)); (case hp => exact (Reps.none _ _)); intro v127 w10 ho11 hb hg_ hnew_; clear hg_ hnew_; (first | rw [← Ny126.out] at ho11 | (simp only [Int.reduceToNat] at ho11; rw [← Ny126.out] at ho11)); have HO128 := aK_ (Kd.R_lower (Kd.R_newB ho11 (g := gb125) (o := .cells #[.string a2_0, .string a2_1, .bool a2_2, .bool a2_3] 97 (0, 0)) (bX_ BK125.out)) (wZ (bS1_ GE125.out))); replace BK125 := aK_ (bB (bX_ BK125.out) hb); replace HB := aK_ (wT (bS1_ GE125.out) hb); clear hb ho11) | ((with_reducible refine gate_builtin (b := .append) (xs := #[.tmp 8, .tmp 9]) rfl ?_); at_builtin; refine Kd.R_append_rows k97 (w0 := w) w.heap.size rfl (.tmp 8) (.tmp 9) 25 97 (.agg #[(.string ⟨#[]⟩), (.string ⟨#[]⟩), (.bool false), (.bool false)]) 40 rfl Try.underlying25 info97 rfl (by decide) (by omega) v127 y126 l0 _ _ _ (fun k_ => k_ ≠ gb125) (fun _ => False) rfl rfl ?aO ?aR (fun _ _ h => h) (fun _ h => h.elim) ?aF ?aB ?aS ?aL ?_; (case aR => repeat (first | exact (Kd.C_below HR0.out HB.out) | (with_reducible refine Kd.C_alloc ?_ _) | (with_reducible refine Kd.C_drewN ?_ _) | (with_reducible refine Kd.C_drew ?_))); (case aB => exact (bS1_ GE125.out)); (case aF => exact (fun k_ hk => Kd.freshB (g := gb125) (o := .cells #[.string a2_0, .string a2_1, .bool a2_2, .bool a2_3] 97 (0, 0)) (bX_ BK125.out) k_ hk)); (case aO => exact (by (with_reducible repeat (first | apply Kd.R_alloc | apply Kd.R_drewN | apply Kd.R_drew)); exact Kd.R_mono HO128.out (fun _ hk => hk.2))); (case aS => exact (wZ (bS1_ GE125.out))); (case aL => have := LMc4.out; omega); intro v130 w12 ho hb hg hat; rw [← Ny129.out] at ho; have n0_ := aK_ (blk_grown (g := gb125) (o := .cells #[.string a2_0, .string a2_1, .bool a2_2, .bool a2_3] 97 (0, 0)) (bX_ BK125.out) hg (Kd.R_away HO128.out (fun _ hk => hk.2))); have n1_ := aK_ (hb); have n2_ := aK_ (ho); clear BK125; clear HB; clear HO128; have BK125 := n0_; have HB := n1_; have HO131 := n2_; clear n0_ n1_ n2_; clear ho hb hg hat; have hz13 := cq4_ BK125.out; have p8 : 0 ≤ ((ji5) : Int) := pD_; have q8 : ((ji5) : Int) < ((y129.length : Int) : Int) := pD_; obtain ⟨go8, co8, eo8, gb8, gl8, cl8, HG8⟩ := Kd.R_form HO131.out (by omega); (first | cases eo8 | (injection eo8 with ea_ en_ ec_; (first | subst ea_ | (injection ea_ with ea_; subst ea_)); subst ec_; clear en_)); have GB8 := aK_ gb8; have GG8 := aK_ HG8; clear gb8 gl8 HG8; obtain ⟨ce8, hcl8, hM8, hcc8, hfr8⟩ := Kd.R_elem HO131.out z97 ((ji5) : Int) p8 q8; obtain rfl := k97_openM hM8; have hx8_0 : w12.cell? ⟨go8, ((ji5) : Int).toNat * 4, none⟩ = some (.string ((rd_T97 y129 (ji5)).f0.f0)) := hcc8 0 _ rfl; have hx8_1 : w12.cell? ⟨go8, ((ji5) : Int).toNat * 4 + 1, none⟩ = some (.string ((rd_T97 y129 (ji5)).f0.f1)) := hcc8 1 _ rfl; have hx8_2 : w12.cell? ⟨go8, ((ji5) : Int).toNat * 4 + 2, none⟩ = some (.bool ((rd_T97 y129 (ji5)).f1)) := hcc8 2 _ rfl; have hx8_3 : w12.cell? ⟨go8, ((ji5) : Int).toNat * 4 + 3, none⟩ = some (.bool ((rd_T97 y129 (ji5)).f2)) := hcc8 3 _ rfl; have hf8_0 : w12.frozen? ⟨go8, ((ji5) : Int).toNat * 4, none⟩ = false := hfr8 0; have hf8_1 : w12.frozen? ⟨go8, ((ji5) : Int).toNat * 4 + 1, none⟩ = false := hfr8 1; have hf8_2 : w12.frozen? ⟨go8, ((ji5) : Int).toNat * 4 + 2, none⟩ = false := hfr8 2; have hf8_3 : w12.frozen? ⟨go8, ((ji5) : Int).toNat * 4 + 3, none⟩ = false := hfr8 3; clear hcl8 hcc8 hfr8 hM8; replace p8 := eq_true p8; replace q8 := eq_true q8; have HX14 := aK_ (show Kd.R k97 97 w12 w.heap.size (fun k_ => k_ ≠ gb125) (.slice (some ⟨go8, 0, none⟩) y129.length co8) y129 from (kR_ HO131.out)); obtain ⟨ce14, hcl14, hM14, hcc14, hfr14⟩ := Kd.R_elem HX14.out z97 ((ji5) : Int) (pD_) (by have h_ : ((ji5) : Int) < ((y129.length : Int) : Int) := pD_; first | exact h_ | (have e_ := (Kd.R_reads' HO131.out).1; omega) | simpa using h_); obtain rfl := k97_openM hM14; have HP14 := Kd.R_seg HX14.out ((ji5) : Int) (pD_) (by have h_ : ((ji5) : Int) < ((y129.length : Int) : Int) := pD_; first | exact h_ | (have e_ := (Kd.R_reads' HO131.out).1; omega) | simpa using h_) (seg := [.string a2_0, .string a2_1, .bool a2_2, .bool a2_3]) (j := 0) hcl14 hcc14 (show 4 ≤ 4 from by decide) (x' := (⟨(⟨a2_0, a2_1⟩ : S29), a2_2, a2_3⟩ : S97)) (k97_mkM _ _ _ (⟨(⟨a2_0, a2_1⟩ : S29), a2_2, a2_3⟩ : S97) ) (fun _ hk => hk); have hx14_0 := hcc14 0 _ rfl; (try simp only [show (k97).sz = 4 from rfl, Nat.mul_one, Nat.add_zero] at hx14_0); have hf14_0 := hfr14 0; (try simp only [show (k97).sz = 4 from rfl, Nat.mul_one, Nat.add_zero] at hf14_0); have hx14_1 := hcc14 1 _ rfl; (try simp only [show (k97).sz = 4 from rfl, Nat.mul_one, Nat.add_zero] at hx14_1); have hf14_1 := hfr14 1; (try simp only [show (k97).sz = 4 from rfl, Nat.mul_one, Nat.add_zero] at hf14_1); have hx14_2 := hcc14 2 _ rfl; (try simp only [show (k97).sz = 4 from rfl, Nat.mul_one, Nat.add_zero] at hx14_2); have hf14_2 := hfr14 2; (try simp only [show (k97).sz = 4 from rfl, Nat.mul_one, Nat.add_zero] at hf14_2); have hx14_3 := hcc14 3 _ rfl; (try simp only [show (k97).sz = 4 from rfl, Nat.mul_one, Nat.add_zero] at hx14_3); have hf14_3 := hfr14 3; (try simp only [show (k97).sz = 4 from rfl, Nat.mul_one, Nat.add_zero] at hf14_3); clear hcl14 hcc14 hfr14 hM14) | ((with_reducible refine gate_store (t := 97) (p := 15) rfl ?_); refine store_event (t := 97) (p := 15) (v := ?vo_w15) (w1 := ((((w12.setCell ⟨go8, ((ji5) : Int).toNat * 4, none⟩ (.string a2_0)).setCell ⟨go8, ((ji5) : Int).toNat * 4 + 1, none⟩ (.string a2_1)).setCell ⟨go8, ((ji5) : Int).toNat * 4 + 2, none⟩ (.bool a2_2)).setCell ⟨go8, ((ji5) : Int).toNat * 4 + 3, none⟩ (.bool a2_3))) ?hg ?ho ?hn ?hr ?_; (case ho => rfl); (case hg => rfl); (case hn => rfl); (case hr => first | (go_simp; done) | (go_simp; rfl)); intro w15 hw; have hg : w12.grownBy w15 (some go8) := (by rw [hw]; exact HP14.2); have hp_ : Kd.R k97 97 w15 w.heap.size (fun k_ => k_ ≠ gb125) (.slice (some ⟨go8, 0, none⟩) y129.length co8) y132 := (by rw [hw, Ny132.out]; exact HP14.1); clear HP14; have n0_ := aK_ (blk_grown (g := gb125) (o := .cells #[.string a2_0, .string a2_1, .bool a2_2, .bool a2_3] 97 (0, 0)) (bX_ BK125.out) hg (Kd.R_away HO131.out (fun _ hk => hk))); have n1_ := aK_ (hp_); have n2_ := aK_ ((by rw [hw]; exact wS (wS (wS (wS (HB.out) GB8.out) GB8.out) GB8.out) GB8.out : Below w.heap.size w w15)); clear BK125; clear HO131; clear HB; have BK125 := n0_; have HO131 := n1_; have HB := n2_; clear n0_ n1_ n2_; clear hg hw hp_))
    go_ret
    exact ⟨_, by first | rfl | (simp [errW_none, errW_some] <;> rfl) | (simp only [← hji5]; first | rfl | (simp [errW_none, errW_some] <;> rfl)) | (simp [*, errW_none, errW_some] <;> rfl), by (with_reducible repeat (first | apply Kd.R_alloc | apply Kd.R_drewN | apply Kd.R_drew)); exact Kd.R_mono HO131.out (fun _ hk => trivial), bS1_ GE125.out⟩
   rw [if_neg c7] at H
   exact absurd H (by simp)
  rw [if_neg c6] at H
  exact absurd H (by simp)
 rw [if_neg c4] at H
 exact absurd H (by simp)
def catchmentref27_Close.f (l0 : List (S97)) (a1 : Int) : Option ((List (S97)) × Int) := (catchmentref27_Is.f l0 a1).bind fun t133 => (if t133 = true then ((catchmentref27_With.f l0 a1 (⟨#[]⟩ : BA) (⟨#[]⟩ : BA) false true).bind fun t134 => (some (t134, 0))) else (some (l0, 11)))
set_option maxHeartbeats 8000000 in
set_option maxRecDepth 100000 in
theorem catchmentref27_Close.calls (P0_ : Nat → Prop) (A0 : Option Addr) (c0 : Nat) (l0 : List (S97)) (a1 : Int) (r1 : List (S97)) (r2 : Int) (w : World) (hs0 : Kd.V k97 97 w w.heap.size (fun k_ => P0_ k_) (.slice A0 l0.length c0) l0) (h : catchmentref27_Close.f l0 a1 = some (r1, r2)) :
  Calls Try.prog 40 #[.slice A0 l0.length c0, .int .i64 a1] w fun e w' => ∃ v0_ : Value, e = .returned (.tuple #[v0_, .int .i64 r2]) ∧ Kd.V k97 97 w' w.heap.size (fun k_ => (P0_ k_ ∨ w.heap.size ≤ k_)) v0_ r1 ∧ Below w.heap.size w w' := by
 have hu97 := Try.underlying97
 have HO0 := aK_ (show Kd.V k97 97 w w.heap.size (fun k_ => (P0_ k_ ∨ w.heap.size ≤ k_)) (.slice A0 l0.length c0) l0 from Kd.V_mono hs0 (fun k_ hk => .inl hk))
 have HB := aK_ (Below.refl w.heap.size w)
 have H : ((catchmentref27_Is.f l0 a1).bind fun t133 => (if t133 = true then ((catchmentref27_With.f l0 a1 (⟨#[]⟩ : BA) (⟨#[]⟩ : BA) false true).bind fun t134 => (some (t134, 0))) else (some (l0, 11)))) = some (r1, r2) := h
 clear h
 replace H := Option.bind_eq_some_iff.mp H
 obtain ⟨t133, A30, H⟩ := H
 replace H : (if t133 = true then ((catchmentref27_With.f l0 a1 (⟨#[]⟩ : BA) (⟨#[]⟩ : BA) false true).bind fun t134 => (some (t134, 0))) else (some (l0, 11))) = some (r1, r2) := H
 have A3 := aK_ A30
 clear A30
 by_cases c4 : t133 = true
 ·subst c4
  have H1 : ((catchmentref27_With.f l0 a1 (⟨#[]⟩ : BA) (⟨#[]⟩ : BA) false true).bind fun t134 => (some (t134, 0))) = some (r1, r2) := by rw [if_pos rfl] at H; exact H
  clear H
  have H := H1
  clear H1
  replace H := Option.bind_eq_some_iff.mp H
  obtain ⟨t134, A50, H⟩ := H
  replace H : (some (t134, 0)) = some (r1, r2) := H
  have A5 := aK_ A50
  clear A50
  simp only [Option.some.injEq, Prod.mk.injEq] at H
  obtain ⟨rfl, rfl⟩ := H
  go_enter Try.func40, Try.ntmps40
  go_wp2_with (first | ((with_reducible refine gate_callee (f := 42) rfl ?_); refine goesL_ (some 8) rfl rfl Try.func42 (by kernel_rfl) rfl #[.slice A0 l0.length c0, .int .i64 a1] rfl mS_ ?_; (with_reducible refine (catchmentref27_Is.calls _ _ l0 a1 true _ ?side1 ?side2 A3.out).mono ?_); (case side1 => repeat (first | exact (Kd.V_reads' HO0.out).2.2 | (with_reducible refine Kd.C_alloc ?_ _) | (with_reducible refine Kd.C_drewN ?_ _) | (with_reducible refine Kd.C_drew ?_))); (case side2 => exact (Kd.V_reads' HO0.out).2.1); rintro e w' ⟨rfl, ⟨nd, rfl⟩⟩; refine ⟨_, rfl, ?_⟩) | ((with_reducible refine gate_callee (f := 73) rfl ?_); refine goesL_ (some 14) rfl rfl Try.func73 (by kernel_rfl) rfl #[.slice A0 l0.length c0, .int .i64 a1, .agg #[.string (⟨#[]⟩ : BA), .string (⟨#[]⟩ : BA), .bool false, .bool true]] rfl mS_ ?_; (with_reducible refine (catchmentref27_With.calls _ _ l0 a1 (⟨#[]⟩ : BA) (⟨#[]⟩ : BA) false true t134 _ ?side1 ?side2 A5.out).mono ?_); (case side1 => repeat (first | exact (Kd.V_reads' HO0.out).2.2 | (with_reducible refine Kd.C_alloc ?_ _) | (with_reducible refine Kd.C_drewN ?_ _) | (with_reducible refine Kd.C_drew ?_))); (case side2 => exact (Kd.V_reads' HO0.out).2.1); rintro e w6 ⟨v135, rfl, ho0, hb⟩; refine ⟨_, rfl, ?_⟩; replace HO0 := aK_ (Kd.V_elder' (kV_ HO0.out) (Kd.R_base ho0) hb); have HO136 := aK_ (Kd.R_lower (Kd.R_newM (M := fun k_ => (w.heap.size ≤ k_)) ho0 (wZ bW_) (fun k_ h_ => h_)) (wZ bW_)); replace HB := aK_ (wT bW_ hb); (try clear hb); (try clear hb2); (try clear hk); (try clear hi); (try clear ho0)))
  go_ret2
  exact ⟨_, by first | rfl | (simp [errW_none, errW_some] <;> rfl) | (simp [*, errW_none, errW_some] <;> rfl), Kd.V_mono (Kd.R_V (by (with_reducible repeat (first | apply Kd.R_alloc | apply Kd.R_drewN | apply Kd.R_drew)); exact Kd.R_mono HO136.out (fun _ hk => hk.1))) (fun k_ hk => by first | exact ⟨(.inr (hk.1)), hk.2⟩ | exact (.inr (hk))), bW_⟩
 replace c4 := Bool.eq_false_iff.mpr c4
 subst c4
 have H1 : (some (l0, 11)) = some (r1, r2) := by rw [if_neg (show ¬ (false = true) by decide)] at H; exact H
 clear H
 have H := H1
 clear H1
 simp only [Option.some.injEq, Prod.mk.injEq] at H
 obtain ⟨rfl, rfl⟩ := H
 go_enter Try.func40, Try.ntmps40
 go_wp2_with (first | ((with_reducible refine gate_callee (f := 42) rfl ?_); refine goesL_ (some 8) rfl rfl Try.func42 (by kernel_rfl) rfl #[.slice A0 l0.length c0, .int .i64 a1] rfl mS_ ?_; (with_reducible refine (catchmentref27_Is.calls _ _ l0 a1 false _ ?side1 ?side2 A3.out).mono ?_); (case side1 => repeat (first | exact (Kd.V_reads' HO0.out).2.2 | (with_reducible refine Kd.C_alloc ?_ _) | (with_reducible refine Kd.C_drewN ?_ _) | (with_reducible refine Kd.C_drew ?_))); (case side2 => exact (Kd.V_reads' HO0.out).2.1); rintro e w' ⟨rfl, ⟨nd, rfl⟩⟩; refine ⟨_, rfl, ?_⟩))
 go_ret2
 exact ⟨_, by first | rfl | (simp [errW_none, errW_some] <;> rfl) | (simp [*, errW_none, errW_some] <;> rfl), by (with_reducible repeat (first | apply Kd.V_alloc | apply Kd.V_drewN | apply Kd.V_drew)); exact HO0.out, bW_⟩
def catchmentref05_Rises.l0 : Nat → List (S103) → Int → Option (Bool)
 | 0, _, _ => none
 | k + 1, x0, x3 => if x3 < (x0.length : Int) then (if 0 ≤ (wrap64 (x3 - 1)) then (if (wrap64 (x3 - 1)) < (x0.length : Int) then (if 0 ≤ x3 then (if ((Op.bytesLess (((rd_T103 x0 (wrap64 (x3 - 1))).f0).toList) (((rd_T103 x0 x3).f0).toList)) = true) then (catchmentref05_Rises.l0 k x0 (wrap64 (x3 + 1))) else (some false)) else (none)) else (none)) else (none)) else (some true)
def catchmentref05_Rises.f (k : Nat) (l0 : List (S103)) : Option (Bool) := catchmentref05_Rises.l0 k l0 1
set_option maxHeartbeats 8000000 in
set_option maxRecDepth 100000 in
theorem catchmentref05_Rises.calls (k : Nat) (A0 : Option Addr) (c0 : Nat) (l0 : List (S103)) (r : Bool) (w : World) (hr0 : Kd.C k103 w A0 l0.length l0) (hc0 : l0.length ≤ c0) (h : catchmentref05_Rises.f k l0 = some r) :
  Calls Try.prog 29 #[.slice A0 l0.length c0] w fun e w' => e = .returned (.bool r) ∧ Drawn0 w w' := by
 have HR0 := aK_ hr0
 have HC0 := aK_ hc0
 clear hr0 hc0
 have H : (catchmentref05_Rises.l0 k l0 1) = some r := h
 clear h
 have H' := aK_ H; clear H
 go_enter Try.func29, Try.ntmps29
 go_wp2
 repeat (go_quiet (fail); try go_wp2)
 go_loopg [3] k (fun kq v3 w' => ∃ (x3_1 : Int), v3 = .int .i64 x3_1 ∧ Aside0 (catchmentref05_Rises.l0 kq l0 x3_1 = some r) ∧ Aside0 (kq ≤ k) ∧ Drawn0 w w')
 case atStart => exact ⟨(1), rZ_, H', ⟨Nat.le_refl _⟩, by repeat (first | exact Drawn0.refl _ | apply Drawn0.step)⟩
 clear H'
 obtain ⟨x3_1, rfl, HA, HK1, ⟨m1, rfl⟩⟩ := hrel
 cases gk with
 | zero => exact absurd HA.out (by simp [catchmentref05_Rises.l0])
 | succ k1 => ?_
 have H := HA.out
 clear HA
 simp only [catchmentref05_Rises.l0] at H
 by_cases c2 : x3_1 < (l0.length : Int)
 ·rw [if_pos c2] at H
  have c2b0 := decide_eq_true c2
  clear c2
  obtain ⟨ji3, hji3⟩ : ∃ j_ : Int, (wrap64 (x3_1 - 1)) = j_ := ⟨_, rfl⟩
  replace H : (if 0 ≤ (ji3) then (if (ji3) < (l0.length : Int) then (if 0 ≤ x3_1 then (if ((Op.bytesLess (((rd_T103 l0 (ji3)).f0).toList) (((rd_T103 l0 x3_1).f0).toList)) = true) then (catchmentref05_Rises.l0 k1 l0 (wrap64 (x3_1 + 1))) else (some false)) else (none)) else (none)) else (none)) = some r := by first | (rw [hji3] at H; exact H) | (simp only [hji3] at H ⊢; exact H)
  have hji3w : (IntKind.i64.wrap (x3_1 - 1)) = ji3 := (i64_w _).trans hji3
  by_cases c4 : 0 ≤ (ji3)
  ·rw [if_pos c4] at H
   have c4b0 := decide_eq_true c4
   clear c4
   by_cases c5 : (ji3) < (l0.length : Int)
   ·rw [if_pos c5] at H
    have c5b0 := decide_eq_true c5
    clear c5
    by_cases c6 : 0 ≤ x3_1
    ·rw [if_pos c6] at H
     have c6b0 := decide_eq_true c6
     clear c6
     by_cases c7 : ((Op.bytesLess (((rd_T103 l0 (ji3)).f0).toList) (((rd_T103 l0 x3_1).f0).toList)) = true)
     ·rw [if_pos c7] at H
      have c7b0 : (Op.bytesLess (((rd_T103 l0 (ji3)).f0).toList) (((rd_T103 l0 x3_1).f0).toList)) = true := c7
      clear c7
      have H' := aK_ H; clear H
      have p137 : 0 ≤ ((ji3) : Int) := pD_
      have q137 : (ji3) < (l0.length : Int) := pD_
      obtain ⟨ad137, e137, hx137_0, hx137_1⟩ := at_T103 HR0.out (ji3) p137 q137
      cases e137
      replace p137 := eq_true p137
      replace q137 := eq_true q137
      have p138 : 0 ≤ (x3_1 : Int) := pD_
      have q138 : x3_1 < (l0.length : Int) := pD_
      obtain ⟨ad138, e138, hx138_0, hx138_1⟩ := at_T103 HR0.out x3_1 p138 q138
      obtain rfl : ad137 = ad138 := (by injection e138)
      replace p138 := eq_true p138
      replace q138 := eq_true q138
      go_wp2
      repeat (go_quiet (fail); try go_wp2)
      go_roundg k1
      case measure => have := HK1.out; omega
      case rel => exact ⟨(wrap64 (x3_1 + 1)), rZ_, H', ⟨by have := HK1.out; omega⟩, by repeat (first | exact Drawn0.refl _ | apply Drawn0.step)⟩
     rw [if_neg c7] at H
     have c7b0 : (Op.bytesLess (((rd_T103 l0 (ji3)).f0).toList) (((rd_T103 l0 x3_1).f0).toList)) = false := by simpa using c7
     clear c7
     obtain rfl := Option.some.inj H
     have p137 : 0 ≤ ((ji3) : Int) := pD_
     have q137 : (ji3) < (l0.length : Int) := pD_
     obtain ⟨ad137, e137, hx137_0, hx137_1⟩ := at_T103 HR0.out (ji3) p137 q137
     cases e137
     replace p137 := eq_true p137
     replace q137 := eq_true q137
     have p138 : 0 ≤ (x3_1 : Int) := pD_
     have q138 : x3_1 < (l0.length : Int) := pD_
     obtain ⟨ad138, e138, hx138_0, hx138_1⟩ := at_T103 HR0.out x3_1 p138 q138
     obtain rfl : ad137 = ad138 := (by injection e138)
     replace p138 := eq_true p138
     replace q138 := eq_true q138
     go_wp2
     repeat (go_quiet (fail); try go_wp2)
     go_ret
     exact ⟨by first | rfl | (simp; done) | (simp only [← hji3] <;> (first | rfl | simp)) | (simp [*]; done), by repeat (first | exact Drawn0.refl _ | apply Drawn0.step)⟩
    rw [if_neg c6] at H
    exact absurd H (by simp)
   rw [if_neg c5] at H
   exact absurd H (by simp)
  rw [if_neg c4] at H
  exact absurd H (by simp)
 rw [if_neg c2] at H
 have c2b0 := decide_eq_false c2
 clear c2
 obtain rfl := Option.some.inj H
 go_wp2
 repeat (go_quiet (fail); try go_wp2)
 go_ret
 exact ⟨rZ_, by repeat (first | exact Drawn0.refl _ | apply Drawn0.step)⟩
def catchmentref02_Holds.f (a0_0 a0_1 a1 : BA) : Option (Bool) := if ((Op.bytesLess a1.toList a0_0.toList) = true) then (some false) else (if a0_1.toList = ([] : List UInt8) then (some true) else (some (Op.bytesLess a1.toList a0_1.toList)))
set_option maxHeartbeats 8000000 in
set_option maxRecDepth 100000 in
theorem catchmentref02_Holds.calls (a0_0 a0_1 a1 : BA) (r : Bool) (w : World) (h : catchmentref02_Holds.f a0_0 a0_1 a1 = some r) :
  Calls Try.prog 65 #[.agg #[.string a0_0, .string a0_1], .string a1] w fun e w' => e = .returned (.bool r) ∧ Below w.heap.size w w' := by
 have hu29 := Try.underlying29
 have HB := aK_ (Below.refl w.heap.size w)
 have H : (if ((Op.bytesLess a1.toList a0_0.toList) = true) then (some false) else (if a0_1.toList = ([] : List UInt8) then (some true) else (some (Op.bytesLess a1.toList a0_1.toList)))) = some r := h
 clear h
 by_cases c3 : ((Op.bytesLess a1.toList a0_0.toList) = true)
 ·rw [if_pos c3] at H
  have c3b0 : (Op.bytesLess a1.toList a0_0.toList) = true := c3
  clear c3
  obtain rfl := Option.some.inj H
  go_enter Try.func65, Try.ntmps65
  go_wp2_with (first | ((with_reducible refine gate_dst (N := 2) rfl ?_); refine bE_ 2 #[.string a0_0, .string a0_1] 29 ?_; intro gb139 hg w4 hbox hb; have BK139 := aK_ (hbox); have GW139 := aK_ (gE_ hg); replace HB := aK_ (wT bW_ hb); have GE139 := GW139; clear hb hbox hg; have hz5 := cq2_ BK139.out))
  go_ret
  exact ⟨eR_, bS1_ GE139.out⟩
 rw [if_neg c3] at H
 have c3b0 : (Op.bytesLess a1.toList a0_0.toList) = false := by simpa using c3
 clear c3
 by_cases c6 : a0_1.toList = ([] : List UInt8)
 ·rw [if_pos c6] at H
  have c6b0 := beq_iff_eq.mpr c6
  have c6b1 := bne_eq_false_iff_eq.mpr c6
  clear c6
  obtain rfl := Option.some.inj H
  go_enter Try.func65, Try.ntmps65
  go_wp2_with (first | ((with_reducible refine gate_dst (N := 2) rfl ?_); refine bE_ 2 #[.string a0_0, .string a0_1] 29 ?_; intro gb139 hg w7 hbox hb; have BK139 := aK_ (hbox); have GW139 := aK_ (gE_ hg); replace HB := aK_ (wT bW_ hb); have GE139 := GW139; clear hb hbox hg; have hz8 := cq2_ BK139.out))
  go_ret
  exact ⟨eR_, bS1_ GE139.out⟩
 rw [if_neg c6] at H
 have c6b0 := beq_eq_false_iff_ne.mpr c6
 have c6b1 := bne_iff_ne.mpr c6
 obtain rfl := Option.some.inj H
 go_enter Try.func65, Try.ntmps65
 go_wp2_with (first | ((with_reducible refine gate_dst (N := 2) rfl ?_); refine bE_ 2 #[.string a0_0, .string a0_1] 29 ?_; intro gb139 hg w9 hbox hb; have BK139 := aK_ (hbox); have GW139 := aK_ (gE_ hg); replace HB := aK_ (wT bW_ hb); have GE139 := GW139; clear hb hbox hg; have hz10 := cq2_ BK139.out))
 go_ret
 exact ⟨eR_, bS1_ GE139.out⟩
end Go.Proofs.Ytljnlnbopohghaa.P
end
