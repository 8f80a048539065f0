/- Texts of one claim (laid by shake.py). -/
import Derived.Test.YtljnlnbopohghaaZs3
import Derived.Test.YtljnlnbopohghaaZs13
import Derived.Test.YtljnlnbopohghaaZs12
set_option linter.unusedVariables false
set_option linter.unusedSimpArgs false
section
namespace Go.Proofs.Ytljnlnbopohghaa.P
open Go.RowKit Go.Proofs.YtljnlnbopohghaaW.PrintWords Go.Proofs.YtljnlnbopohghaaW.PrintLast Go.Proofs.YtljnlnbopohghaaW.PrintMore Go.Proofs.Ytljnlnbopohghaa.Own
open Go.Proofs.YtljnlnbopohghaaW.PrintWords renaming blk_cell → bC, blk_frozen → bF, blk_drewN → bN, blk_alloc → bA, pw_below_drewN → wN, blk_drew → bD, below_drew1 → w1, below_set → wS, below_alloc → wA, blk_below → bB, below_step → wT, below_size → wZ
open List renaming setIfInBounds_toArray → sA1, set_cons_zero → sA2, set_cons_succ → sA3, map_toArray → mA1, map_cons → mA2, map_nil → mA3, length_take → mA4, length_drop → mA5
attribute [local go_sem] max2_str max2_int min2_int max_two min_two max_three min_three max_four min_four   -- for this text's walks alone
def word_Take.l0 : Nat → ByteArray → Int → Int → Int → Option (Int × Bool)
 | 0, _, _, _, _ => none
 | k + 1, x0, x4, x10, x11 => if x11 < x10 then (if 0 ≤ x11 then (if x11 < (x0.size : Int) then (word_Take.l0 k x0 (Go.bits .or .u64 (IntKind.u64.wrap (x4 * 256)) (IntKind.u64.wrap (bt x0 x11))) x10 (wrap64 (x11 + 1))) else (none)) else (none)) else (some (x4, true))
def word_Take.f (k : Nat) (a0 : BA) : Option (Int × Bool) := if (a0.size : Int) = 8 then (word_Take.l0 k a0 0 (a0.size : Int) 0) else (some (0, false))
set_option maxHeartbeats 8000000 in
set_option maxRecDepth 100000 in
theorem word_Take.calls (k : Nat) (a0 : BA) (r1 : Int) (r2 : Bool) (w : World) (h : word_Take.f k a0 = some (r1, r2)) :
  Calls Try.prog 119 #[.string a0] w fun e w' => e = .returned (.tuple #[.int .u64 r1, .bool r2]) ∧ Drawn0 w w' := by
 have H : (if (a0.size : Int) = 8 then (word_Take.l0 k a0 0 (a0.size : Int) 0) else (some (0, false))) = some (r1, r2) := h
 clear h
 by_cases c2 : (a0.size : Int) = 8
 ·rw [if_pos c2] at H
  have c2b0 : ((a0.size : Int) == 8) = true := beq_iff_eq.mpr c2
  have c2b1 : ((a0.size : Int) != 8) = false := bne_eq_false_iff_eq.mpr c2
  clear c2
  have H' := Aside0.mk H
  clear H
  go_enter Try.func119, Try.ntmps119
  go_wp2
  go_loopg [4, 11] k (fun kq v4 v11 w' => ∃ (x4_1 : Int) (x11_1 : Int), v4 = .int .u64 x4_1 ∧ v11 = .int .i64 x11_1 ∧ Aside0 (word_Take.l0 kq a0 x4_1 (a0.size : Int) x11_1 = some (r1, r2)) ∧ Aside0 (kq ≤ k) ∧ Drawn0 w w')
  case atStart => exact ⟨(0), (0), (by first | rfl | (simp; done) | (simp [*]; done)), (by first | rfl | (simp; done) | (simp [*]; done)), H', ⟨Nat.le_refl _⟩, by repeat (first | exact Drawn0.refl _ | apply Drawn0.step)⟩
  case round =>
   clear H'
   try clear c1
   try clear c2
   try clear c2b0
   try clear c2b1
   try clear p2
   obtain ⟨x4_1, x11_1, rfl, rfl, HA, HK1, ⟨m1, rfl⟩⟩ := hrel
   cases gk with
   | zero => exact absurd HA.out (by simp [word_Take.l0])
   | succ k1 =>
    have H := HA.out
    clear HA
    simp only [word_Take.l0] at H
    by_cases c3 : x11_1 < (a0.size : Int)
    ·rw [if_pos c3] at H
     have c3b0 : decide (x11_1 < (a0.size : Int)) = true := decide_eq_true c3
     clear c3
     by_cases c4 : 0 ≤ x11_1
     ·rw [if_pos c4] at H
      have c4b0 : decide (0 ≤ x11_1) = true := decide_eq_true c4
      clear c4
      by_cases c5 : x11_1 < (a0.size : Int)
      ·rw [if_pos c5] at H
       have c5b0 : decide (x11_1 < (a0.size : Int)) = true := decide_eq_true c5
       clear c5
       have H' := Aside0.mk H
       clear H
       have p6 : 0 ≤ (x11_1 : Int) := of_decide_eq_true (by first | (with_reducible assumption) | assumption)
       have q6 : x11_1 < (a0.size : Int) := of_decide_eq_true (by first | (with_reducible assumption) | assumption)
       have hx6 := bt_at a0 x11_1
       replace p6 := eq_true p6
       replace q6 := eq_true q6
       go_wp2
       go_roundg k1
       case measure => have := HK1.out; omega
       case rel => exact ⟨(Go.bits .or .u64 (IntKind.u64.wrap (x4_1 * 256)) (IntKind.u64.wrap (bt a0 x11_1))), (wrap64 (x11_1 + 1)), (by first | rfl | (simp; done) | (simp [*]; done)), (by first | rfl | (simp; done) | (simp [*]; done)), H', ⟨by have := HK1.out; omega⟩, by repeat (first | exact Drawn0.refl _ | apply Drawn0.step)⟩
      ·rw [if_neg c5] at H
       exact absurd H (by simp)
     ·rw [if_neg c4] at H
      exact absurd H (by simp)
    ·rw [if_neg c3] at H
     have c3b0 : decide (x11_1 < (a0.size : Int)) = false := decide_eq_false c3
     clear c3
     simp only [Option.some.injEq, Prod.mk.injEq] at H
     obtain ⟨rfl, rfl⟩ := H
     go_wp2
     go_ret2
     exact ⟨by first | rfl | (simp; done) | (simp [*]; done), by repeat (first | exact Drawn0.refl _ | apply Drawn0.step)⟩
 ·rw [if_neg c2] at H
  have c2b0 : ((a0.size : Int) == 8) = false := beq_eq_false_iff_ne.mpr c2
  have c2b1 : ((a0.size : Int) != 8) = true := bne_iff_ne.mpr c2
  simp only [Option.some.injEq, Prod.mk.injEq] at H
  obtain ⟨rfl, rfl⟩ := H
  go_enter Try.func119, Try.ntmps119
  go_wp2
  go_ret2
  exact ⟨by first | rfl | (simp; done) | (simp [*]; done), by repeat (first | exact Drawn0.refl _ | apply Drawn0.step)⟩
def word_Put.f (a0 : Int) : Option (ByteArray) := some (strOfNums (Wp.eight a0))
theorem word_Put.calls (a0 : Int) (r : BA) (w : World) (h : word_Put.f a0 = some r) :
  Calls Try.prog 120 #[.int .u64 a0] w fun e w' => e = .returned (.string r) ∧ Below w.heap.size w w' := by
 obtain rfl := Option.some.inj h
 exact Wp.put_any a0 w
def word_Add.f (k : Nat) (a0 : BA) (a1 : Bool) (a2 : Int) : Option (ByteArray) := (word_Take.f k a0).bind fun bt208 => (if a1 = true then (if bt208.2 = true then ((word_Put.f (IntKind.u64.wrap (bt208.1 + a2))).bind fun t210 => (some t210)) else (some a0)) else ((word_Put.f a2).bind fun t211 => (some t211)))
set_option maxHeartbeats 8000000 in
set_option maxRecDepth 100000 in
theorem word_Add.calls (k : Nat) (a0 : BA) (a1 : Bool) (a2 : Int) (r : BA) (w : World) (h : word_Add.f k a0 a1 a2 = some r) :
  Calls Try.prog 106 #[.string a0, .bool a1, .int .u64 a2] w fun e w' => e = .returned (.string r) ∧ Below w.heap.size w w' := by
 have HB := Aside0.mk (Below.refl w.heap.size w)
 have H : ((word_Take.f k a0).bind fun bt208 => (if a1 = true then (if bt208.2 = true then ((word_Put.f (IntKind.u64.wrap (bt208.1 + a2))).bind fun t210 => (some t210)) else (some a0)) else ((word_Put.f a2).bind fun t211 => (some t211)))) = some r := h
 clear h
 replace H := Option.bind_eq_some_iff.mp H
 obtain ⟨⟨t208, t209⟩, A40, H⟩ := H
 replace H : (if a1 = true then (if t209 = true then ((word_Put.f (IntKind.u64.wrap (t208 + a2))).bind fun t210 => (some t210)) else (some a0)) else ((word_Put.f a2).bind fun t211 => (some t211))) = some r := H
 have A4 := Aside0.mk A40
 clear A40
 by_cases c5 : a1 = true
 ·subst c5
  have H1 : (if t209 = true then ((word_Put.f (IntKind.u64.wrap (t208 + a2))).bind fun t210 => (some t210)) else (some a0)) = some r := by rw [if_pos rfl] at H; exact H
  clear H
  have H := H1
  clear H1
  by_cases c6 : t209 = true
  ·subst c6
   have H1 : ((word_Put.f (IntKind.u64.wrap (t208 + a2))).bind fun t210 => (some t210)) = some r := by rw [if_pos rfl] at H; exact H
   clear H
   have H := H1
   clear H1
   replace H := Option.bind_eq_some_iff.mp H
   obtain ⟨t210, A70, H⟩ := H
   replace H : (some t210) = some r := H
   have A7 := Aside0.mk A70
   clear A70
   obtain rfl := Option.some.inj H
   go_enter Try.func106, Try.ntmps106
   go_wp2_with (first | ((with_reducible refine gate_callee (f := 119) rfl ?_); refine goesL_ (some 11) rfl rfl Try.func119 (by kernel_rfl) rfl #[.string a0] rfl mS_ ?_; (with_reducible refine (word_Take.calls k a0 t208 true _ A4.out).mono ?_); rintro e w' ⟨rfl, ⟨nd, rfl⟩⟩; refine ⟨_, rfl, ?_⟩) | ((with_reducible refine gate_callee (f := 120) rfl ?_); refine goesL_ (some 24) rfl rfl Try.func120 (by kernel_rfl) rfl #[.int .u64 (IntKind.u64.wrap (t208 + a2))] rfl mS_ ?_; (with_reducible refine (word_Put.calls (IntKind.u64.wrap (t208 + a2)) t210 _ A7.out).mono ?_); rintro e w8 ⟨rfl, hb⟩; refine ⟨_, rfl, ?_⟩; have n0_ := Aside0.mk (wT bW_ hb); clear HB; have HB := n0_; clear n0_; (try clear hb); (try clear hb2); (try clear hk); (try clear hi)))
   go_ret
   exact ⟨eR_, bW_⟩
  ·replace c6 := Bool.eq_false_iff.mpr c6
   subst c6
   have H1 : (some a0) = some r := by rw [if_neg (show ¬ (false = true) by decide)] at H; exact H
   clear H
   have H := H1
   clear H1
   obtain rfl := Option.some.inj H
   go_enter Try.func106, Try.ntmps106
   go_wp2_with (first | ((with_reducible refine gate_callee (f := 119) rfl ?_); refine goesL_ (some 11) rfl rfl Try.func119 (by kernel_rfl) rfl #[.string a0] rfl mS_ ?_; (with_reducible refine (word_Take.calls k a0 t208 false _ A4.out).mono ?_); rintro e w' ⟨rfl, ⟨nd, rfl⟩⟩; refine ⟨_, rfl, ?_⟩))
   go_ret
   exact ⟨eR_, bW_⟩
 ·replace c5 := Bool.eq_false_iff.mpr c5
  subst c5
  have H1 : ((word_Put.f a2).bind fun t211 => (some t211)) = some r := by rw [if_neg (show ¬ (false = true) by decide)] at H; exact H
  clear H
  have H := H1
  clear H1
  replace H := Option.bind_eq_some_iff.mp H
  obtain ⟨t211, A90, H⟩ := H
  replace H : (some t211) = some r := H
  have A9 := Aside0.mk A90
  clear A90
  obtain rfl := Option.some.inj H
  go_enter Try.func106, Try.ntmps106
  go_wp2_with (first | ((with_reducible refine gate_callee (f := 119) rfl ?_); refine goesL_ (some 11) rfl rfl Try.func119 (by kernel_rfl) rfl #[.string a0] rfl mS_ ?_; (with_reducible refine (word_Take.calls k a0 t208 t209 _ A4.out).mono ?_); rintro e w' ⟨rfl, ⟨nd, rfl⟩⟩; refine ⟨_, rfl, ?_⟩) | ((with_reducible refine gate_callee (f := 120) rfl ?_); refine goesL_ (some 18) rfl rfl Try.func120 (by kernel_rfl) rfl #[.int .u64 a2] rfl mS_ ?_; (with_reducible refine (word_Put.calls a2 t211 _ A9.out).mono ?_); rintro e w10 ⟨rfl, hb⟩; refine ⟨_, rfl, ?_⟩; have n0_ := Aside0.mk (wT bW_ hb); clear HB; have HB := n0_; clear n0_; (try clear hb); (try clear hb2); (try clear hk); (try clear hi)))
  go_ret
  exact ⟨eR_, bW_⟩
def msg_Apply.j0 : Nat → ByteArray → Bool → Bool → Option (ByteArray × Bool)
 | 0, _, _, _ => none
 | k + 1, x1, x2, x21 => if x21 = true then (some ((⟨#[]⟩ : BA), false)) else (if x2 = true then (some (x1, true)) else (some ((⟨#[]⟩ : BA), false)))
def msg_Apply.f (k : Nat) (a0_0 : Int) (a0_1 : Int) (a0_2 : BA) (a0_3 : BA) (a0_4 : BA) (a0_5 : Int) (a1 : BA) (a2 : Bool) : Option (ByteArray × Bool) := if a0_0 = 1 then (some (a0_4, true)) else (if a0_0 = 3 then ((word_Add.f k a1 a2 a0_5).bind fun t213 => (some (t213, true))) else (if a0_0 = 2 then (msg_Apply.j0 k a1 a2 (a0_0 == 2)) else (msg_Apply.j0 k a1 a2 (a0_0 == 4))))
set_option maxHeartbeats 8000000 in
set_option maxRecDepth 100000 in
theorem msg_Apply.calls (k : Nat) (a0_0 : Int) (a0_1 : Int) (a0_2 : BA) (a0_3 : BA) (a0_4 : BA) (a0_5 : Int) (a1 : BA) (a2 : Bool) (r1 : BA) (r2 : Bool) (w : World) (h : msg_Apply.f k a0_0 a0_1 a0_2 a0_3 a0_4 a0_5 a1 a2 = some (r1, r2)) :
  Calls Try.prog 89 #[.agg #[.int .u8 a0_0, .int .i64 a0_1, .string a0_2, .string a0_3, .string a0_4, .int .u64 a0_5], .string a1, .bool a2] w fun e w' => e = .returned (.tuple #[.string r1, .bool r2]) ∧ Below w.heap.size w w' := by
 have hu117 := Try.underlying117
 have HB := Aside0.mk (Below.refl w.heap.size w)
 have H : (if a0_0 = 1 then (some (a0_4, true)) else (if a0_0 = 3 then ((word_Add.f k a1 a2 a0_5).bind fun t213 => (some (t213, true))) else (if a0_0 = 2 then (msg_Apply.j0 k a1 a2 (a0_0 == 2)) else (msg_Apply.j0 k a1 a2 (a0_0 == 4))))) = some (r1, r2) := h
 clear h
 by_cases c4 : a0_0 = 1
 ·rw [if_pos c4] at H
  have c4b0 : (a0_0 == 1) = true := beq_iff_eq.mpr c4
  have c4b1 : (a0_0 != 1) = false := bne_eq_false_iff_eq.mpr c4
  clear c4
  simp only [Option.some.injEq, Prod.mk.injEq] at H
  obtain ⟨rfl, rfl⟩ := H
  go_enter Try.func89, Try.ntmps89
  go_wp2_with (first | ((with_reducible refine gate_dst (N := 3) rfl ?_); refine box_event ?hg (N := 3) ?hd (cs := #[.int .u8 a0_0, .int .i64 a0_1, .string a0_2, .string a0_3, .string a0_4, .int .u64 a0_5]) (t := 117) ?hr ?_; (case hd => rfl); (case hg => rfl); (case hr => first | (go_simp; done) | (go_simp; rfl)); intro gb212 hg w5 hbox hb; have n0_ := Aside0.mk (wT bW_ hb); have n1_ := Aside0.mk (hbox); have n2_ := Aside0.mk ((by rw [hg]; exact (wZ bW_) : w.heap.size ≤ gb212)); have n3_ := n2_; clear HB; have HB := n0_; have BK212 := n1_; have GW212 := n2_; have GE212 := n3_; clear n0_ n1_ n2_ n3_; clear hb hbox hg; have hcz6_0 := cz_ BK212.out 0; have hcz6_1 := cz_ BK212.out 1; have hcz6_2 := cz_ BK212.out 2; have hcz6_3 := cz_ BK212.out 3; have hcz6_4 := cz_ BK212.out 4; have hcz6_5 := cz_ BK212.out 5; have hfz6_0 := bF BK212.out 0; have hfz6_1 := bF BK212.out 1; have hfz6_2 := bF BK212.out 2; have hfz6_3 := bF BK212.out 3; have hfz6_4 := bF BK212.out 4; have hfz6_5 := bF BK212.out 5))
  go_ret2
  exact ⟨by first | rfl | (simp [errW_none, errW_some] <;> rfl) | (simp [*, errW_none, errW_some] <;> rfl), by repeat (first | (with_reducible first | exact HB.out | apply wA | apply wN | apply w1 | refine wS ?_ GE212.out) | exact HB.out)⟩
 ·rw [if_neg c4] at H
  have c4b0 : (a0_0 == 1) = false := beq_eq_false_iff_ne.mpr c4
  have c4b1 : (a0_0 != 1) = true := bne_iff_ne.mpr c4
  by_cases c7 : a0_0 = 3
  ·rw [if_pos c7] at H
   have c7b0 : (a0_0 == 3) = true := beq_iff_eq.mpr c7
   have c7b1 : (a0_0 != 3) = false := bne_eq_false_iff_eq.mpr c7
   clear c7
   replace H := Option.bind_eq_some_iff.mp H
   obtain ⟨t213, A80, H⟩ := H
   replace H : (some (t213, true)) = some (r1, r2) := H
   have A8 := Aside0.mk A80
   clear A80
   simp only [Option.some.injEq, Prod.mk.injEq] at H
   obtain ⟨rfl, rfl⟩ := H
   go_enter Try.func89, Try.ntmps89
   go_wp2_with (first | ((with_reducible refine gate_dst (N := 3) rfl ?_); refine box_event ?hg (N := 3) ?hd (cs := #[.int .u8 a0_0, .int .i64 a0_1, .string a0_2, .string a0_3, .string a0_4, .int .u64 a0_5]) (t := 117) ?hr ?_; (case hd => rfl); (case hg => rfl); (case hr => first | (go_simp; done) | (go_simp; rfl)); intro gb212 hg w9 hbox hb; have n0_ := Aside0.mk (wT bW_ hb); have n1_ := Aside0.mk (hbox); have n2_ := Aside0.mk ((by rw [hg]; exact (wZ bW_) : w.heap.size ≤ gb212)); have n3_ := n2_; clear HB; have HB := n0_; have BK212 := n1_; have GW212 := n2_; have GE212 := n3_; clear n0_ n1_ n2_ n3_; clear hb hbox hg; have hcz10_0 := cz_ BK212.out 0; have hcz10_1 := cz_ BK212.out 1; have hcz10_2 := cz_ BK212.out 2; have hcz10_3 := cz_ BK212.out 3; have hcz10_4 := cz_ BK212.out 4; have hcz10_5 := cz_ BK212.out 5; have hfz10_0 := bF BK212.out 0; have hfz10_1 := bF BK212.out 1; have hfz10_2 := bF BK212.out 2; have hfz10_3 := bF BK212.out 3; have hfz10_4 := bF BK212.out 4; have hfz10_5 := bF BK212.out 5) | ((with_reducible refine gate_callee (f := 106) rfl ?_); refine goesL_ (some 20) rfl rfl Try.func106 (by kernel_rfl) rfl #[.string a1, .bool a2, .int .u64 a0_5] rfl mS_ ?_; (with_reducible refine (word_Add.calls k a1 a2 a0_5 t213 _ A8.out).mono ?_); rintro e w11 ⟨rfl, hb⟩; refine ⟨_, rfl, ?_⟩; have n0_ := Aside0.mk (bB (bX_ BK212.out) hb); have n1_ := Aside0.mk (wT (bS1_ GE212.out) hb); clear BK212; clear HB; have BK212 := n0_; have HB := n1_; clear n0_ n1_; (try clear hb); (try clear hb2); (try clear hk); (try clear hi)))
   go_ret2
   exact ⟨by first | rfl | (simp [errW_none, errW_some] <;> rfl) | (simp [*, errW_none, errW_some] <;> rfl), by repeat (first | (with_reducible first | exact HB.out | apply wA | apply wN | apply w1 | refine wS ?_ GE212.out) | exact HB.out)⟩
  ·rw [if_neg c7] at H
   have c7b0 : (a0_0 == 3) = false := beq_eq_false_iff_ne.mpr c7
   have c7b1 : (a0_0 != 3) = true := bne_iff_ne.mpr c7
   have HC12 := Aside0.mk H
   clear H
   go_enter Try.func89, Try.ntmps89
   go_upto_if 21 with (first | ((with_reducible refine gate_dst (N := 3) rfl ?_); refine box_event ?hg (N := 3) ?hd (cs := #[.int .u8 a0_0, .int .i64 a0_1, .string a0_2, .string a0_3, .string a0_4, .int .u64 a0_5]) (t := 117) ?hr ?_; (case hd => rfl); (case hg => rfl); (case hr => first | (go_simp; done) | (go_simp; rfl)); intro gb212 hg w13 hbox hb; have n0_ := Aside0.mk (wT bW_ hb); have n1_ := Aside0.mk (hbox); have n2_ := Aside0.mk ((by rw [hg]; exact (wZ bW_) : w.heap.size ≤ gb212)); have n3_ := n2_; clear HB; have HB := n0_; have BK212 := n1_; have GW212 := n2_; have GE212 := n3_; clear n0_ n1_ n2_ n3_; clear hb hbox hg; have hcz14_0 := cz_ BK212.out 0; have hcz14_1 := cz_ BK212.out 1; have hcz14_2 := cz_ BK212.out 2; have hcz14_3 := cz_ BK212.out 3; have hcz14_4 := cz_ BK212.out 4; have hcz14_5 := cz_ BK212.out 5; have hfz14_0 := bF BK212.out 0; have hfz14_1 := bF BK212.out 1; have hfz14_2 := bF BK212.out 2; have hfz14_3 := bF BK212.out 3; have hfz14_4 := bF BK212.out 4; have hfz14_5 := bF BK212.out 5))
   (try simp only [Act.put, sA1, sA2, sA3])
   go_cut [21] (fun v21 wc => ∃ (kq : Nat) (x21_11 : Bool), v21 = .bool x21_11 ∧ Aside0 (msg_Apply.j0 kq a1 a2 x21_11 = some (r1, r2)) ∧ Aside0 (kq ≤ k) ∧ Aside0 (wc.heap[gb212]? = some (.cells #[.int .u8 a0_0, .int .i64 a0_1, .string a0_2, .string a0_3, .string a0_4, .int .u64 a0_5] 117 (0, 0))) ∧ Aside0 (Below w.heap.size w wc))
   case first =>
    have H := HC12.out
    clear HC12
    by_cases c15 : a0_0 = 2
    ·rw [if_pos c15] at H
     have c15b0 : (a0_0 == 2) = true := beq_iff_eq.mpr c15
     have c15b1 : (a0_0 != 2) = false := bne_eq_false_iff_eq.mpr c15
     clear c15
     (first | rw [c15b0] | (simp only [i64_w, i32_w]; rw [c15b0]) | skip)
     have H' := Aside0.mk H
     clear H
     go_wp2
     go_meet
     case rel => exact ⟨_, ((a0_0 == 2)), (by first | rfl | (simp; done) | (simp [*]; done)), H', ⟨by first | omega | exact Nat.le_refl _⟩, ⟨by (with_reducible repeat (first | refine bN ?_ _ | refine bD ?_ | refine bA ?_ _)); exact BK212.out⟩, ⟨by repeat (first | (with_reducible first | exact HB.out | apply wA | apply wN | apply w1 | refine wS ?_ GE212.out) | exact HB.out)⟩⟩
    ·rw [if_neg c15] at H
     have c15b0 : (a0_0 == 2) = false := beq_eq_false_iff_ne.mpr c15
     have c15b1 : (a0_0 != 2) = true := bne_iff_ne.mpr c15
     (first | rw [c15b0] | (simp only [i64_w, i32_w]; rw [c15b0]) | skip)
     have H' := Aside0.mk H
     clear H
     go_wp2
     go_meet
     case rel => exact ⟨_, ((a0_0 == 4)), (by first | rfl | (simp; done) | (simp [*]; done)), H', ⟨by first | omega | exact Nat.le_refl _⟩, ⟨by (with_reducible repeat (first | refine bN ?_ _ | refine bD ?_ | refine bA ?_ _)); exact BK212.out⟩, ⟨by repeat (first | (with_reducible first | exact HB.out | apply wA | apply wN | apply w1 | refine wS ?_ GE212.out) | exact HB.out)⟩⟩
   case rest =>
    clear HC12
    try clear c1
    try clear p2
    try clear c4
    try clear c4b0
    try clear c4b1
    try clear c7
    try clear c7b0
    try clear c7b1
    try clear c8
    try clear c10
    try clear c15
    try clear c15b0
    try clear c15b1
    try clear hcz10_0
    try clear hcz10_1
    try clear hcz10_2
    try clear hcz10_3
    try clear hcz10_4
    try clear hcz10_5
    try clear hcz14_0
    try clear hcz14_1
    try clear hcz14_2
    try clear hcz14_3
    try clear hcz14_4
    try clear hcz14_5
    try clear hcz6_0
    try clear hcz6_1
    try clear hcz6_2
    try clear hcz6_3
    try clear hcz6_4
    try clear hcz6_5
    try clear hfz10_0
    try clear hfz10_1
    try clear hfz10_2
    try clear hfz10_3
    try clear hfz10_4
    try clear hfz10_5
    try clear hfz14_0
    try clear hfz14_1
    try clear hfz14_2
    try clear hfz14_3
    try clear hfz14_4
    try clear hfz14_5
    try clear hfz6_0
    try clear hfz6_1
    try clear hfz6_2
    try clear hfz6_3
    try clear hfz6_4
    try clear hfz6_5
    obtain ⟨kq, x21_11, rfl, HA, HJ11, BK212, HB⟩ := hcut
    cases kq with
    | zero => exact absurd HA.out (by simp [msg_Apply.j0])
    | succ kj11 =>
     have H := HA.out
     clear HA
     simp only [msg_Apply.j0] at H
     by_cases c16 : x21_11 = true
     ·subst c16
      have H1 : (some ((⟨#[]⟩ : BA), false)) = some (r1, r2) := by rw [if_pos rfl] at H; exact H
      clear H
      have H := H1
      clear H1
      simp only [Option.some.injEq, Prod.mk.injEq] at H
      obtain ⟨rfl, rfl⟩ := H
      go_wp2
      go_ret2
      exact ⟨by first | rfl | (simp [errW_none, errW_some] <;> rfl) | (simp [*, errW_none, errW_some] <;> rfl), by repeat (first | (with_reducible first | exact HB.out | apply wA | apply wN | apply w1 | refine wS ?_ GE212.out) | exact HB.out)⟩
     ·replace c16 := Bool.eq_false_iff.mpr c16
      subst c16
      have H1 : (if a2 = true then (some (a1, true)) else (some ((⟨#[]⟩ : BA), false))) = some (r1, r2) := by rw [if_neg (show ¬ (false = true) by decide)] at H; exact H
      clear H
      have H := H1
      clear H1
      by_cases c17 : a2 = true
      ·subst c17
       have H1 : (some (a1, true)) = some (r1, r2) := by rw [if_pos rfl] at H; exact H
       clear H
       have H := H1
       clear H1
       simp only [Option.some.injEq, Prod.mk.injEq] at H
       obtain ⟨rfl, rfl⟩ := H
       go_wp2
       go_ret2
       exact ⟨by first | rfl | (simp [errW_none, errW_some] <;> rfl) | (simp [*, errW_none, errW_some] <;> rfl), by repeat (first | (with_reducible first | exact HB.out | apply wA | apply wN | apply w1 | refine wS ?_ GE212.out) | exact HB.out)⟩
      ·replace c17 := Bool.eq_false_iff.mpr c17
       subst c17
       have H1 : (some ((⟨#[]⟩ : BA), false)) = some (r1, r2) := by rw [if_neg (show ¬ (false = true) by decide)] at H; exact H
       clear H
       have H := H1
       clear H1
       simp only [Option.some.injEq, Prod.mk.injEq] at H
       obtain ⟨rfl, rfl⟩ := H
       go_wp2
       go_ret2
       exact ⟨by first | rfl | (simp [errW_none, errW_some] <;> rfl) | (simp [*, errW_none, errW_some] <;> rfl), by repeat (first | (with_reducible first | exact HB.out | apply wA | apply wN | apply w1 | refine wS ?_ GE212.out) | exact HB.out)⟩
def room_Check.f (a0_0 : Int) (a0_1 : Int) (a0_2 : Int) (a0_3 : Int) (a0_4 : Int) (a0_5 : Int) (a0_6 : Int) (a0_7 : Int) (a0_8 : Int) : Option (Int) := (room_in.f a0_0 1 256).bind fun t215 => (if t215 = true then ((room_in.f a0_1 8 4096).bind fun t216 => (if t216 = true then ((room_in.f a0_2 4 64).bind fun t217 => (if t217 = true then ((room_in.f a0_3 0 1048576).bind fun t218 => (if t218 = true then ((room_in.f a0_4 4 256).bind fun t219 => (if t219 = true then ((room_in.f a0_5 2 a0_4).bind fun t220 => (if t220 = true then ((room_in.f a0_6 2 4096).bind fun t221 => (if t221 = true then ((room_in.f a0_7 0 1000).bind fun t222 => (if t222 = true then ((room_in.f a0_8 1 1024).bind fun t223 => (if t223 = true then (some 0) else (some 2))) else (some 2))) else (some 2))) else (some 2))) else (some 2))) else (some 2))) else (some 2))) else (some 2))) else (some 2))
set_option maxHeartbeats 8000000 in
set_option maxRecDepth 100000 in
theorem room_Check.calls (a0_0 : Int) (a0_1 : Int) (a0_2 : Int) (a0_3 : Int) (a0_4 : Int) (a0_5 : Int) (a0_6 : Int) (a0_7 : Int) (a0_8 : Int) (r : Int) (w : World) (h : room_Check.f a0_0 a0_1 a0_2 a0_3 a0_4 a0_5 a0_6 a0_7 a0_8 = some r) :
  Calls Try.prog 67 #[.agg #[.int .i64 a0_0, .int .i64 a0_1, .int .i64 a0_2, .int .i64 a0_3, .int .i64 a0_4, .int .i64 a0_5, .int .i64 a0_6, .int .i64 a0_7, .int .i64 a0_8]] w fun e w' => e = .returned (.int .i64 r) ∧ Below w.heap.size w w' := by
 have hu47 := Try.underlying47
 have HB := Aside0.mk (Below.refl w.heap.size w)
 have H : ((room_in.f a0_0 1 256).bind fun t215 => (if t215 = true then ((room_in.f a0_1 8 4096).bind fun t216 => (if t216 = true then ((room_in.f a0_2 4 64).bind fun t217 => (if t217 = true then ((room_in.f a0_3 0 1048576).bind fun t218 => (if t218 = true then ((room_in.f a0_4 4 256).bind fun t219 => (if t219 = true then ((room_in.f a0_5 2 a0_4).bind fun t220 => (if t220 = true then ((room_in.f a0_6 2 4096).bind fun t221 => (if t221 = true then ((room_in.f a0_7 0 1000).bind fun t222 => (if t222 = true then ((room_in.f a0_8 1 1024).bind fun t223 => (if t223 = true then (some 0) else (some 2))) else (some 2))) else (some 2))) else (some 2))) else (some 2))) else (some 2))) else (some 2))) else (some 2))) else (some 2))) = some r := h
 clear h
 replace H := Option.bind_eq_some_iff.mp H
 obtain ⟨t215, A20, H⟩ := H
 replace H : (if t215 = true then ((room_in.f a0_1 8 4096).bind fun t216 => (if t216 = true then ((room_in.f a0_2 4 64).bind fun t217 => (if t217 = true then ((room_in.f a0_3 0 1048576).bind fun t218 => (if t218 = true then ((room_in.f a0_4 4 256).bind fun t219 => (if t219 = true then ((room_in.f a0_5 2 a0_4).bind fun t220 => (if t220 = true then ((room_in.f a0_6 2 4096).bind fun t221 => (if t221 = true then ((room_in.f a0_7 0 1000).bind fun t222 => (if t222 = true then ((room_in.f a0_8 1 1024).bind fun t223 => (if t223 = true then (some 0) else (some 2))) else (some 2))) else (some 2))) else (some 2))) else (some 2))) else (some 2))) else (some 2))) else (some 2))) else (some 2)) = some r := H
 have A2 := Aside0.mk A20
 clear A20
 by_cases c3 : t215 = true
 ·subst c3
  have H1 : ((room_in.f a0_1 8 4096).bind fun t216 => (if t216 = true then ((room_in.f a0_2 4 64).bind fun t217 => (if t217 = true then ((room_in.f a0_3 0 1048576).bind fun t218 => (if t218 = true then ((room_in.f a0_4 4 256).bind fun t219 => (if t219 = true then ((room_in.f a0_5 2 a0_4).bind fun t220 => (if t220 = true then ((room_in.f a0_6 2 4096).bind fun t221 => (if t221 = true then ((room_in.f a0_7 0 1000).bind fun t222 => (if t222 = true then ((room_in.f a0_8 1 1024).bind fun t223 => (if t223 = true then (some 0) else (some 2))) else (some 2))) else (some 2))) else (some 2))) else (some 2))) else (some 2))) else (some 2))) else (some 2))) = some r := by rw [if_pos rfl] at H; exact H
  clear H
  have H := H1
  clear H1
  replace H := Option.bind_eq_some_iff.mp H
  obtain ⟨t216, A40, H⟩ := H
  replace H : (if t216 = true then ((room_in.f a0_2 4 64).bind fun t217 => (if t217 = true then ((room_in.f a0_3 0 1048576).bind fun t218 => (if t218 = true then ((room_in.f a0_4 4 256).bind fun t219 => (if t219 = true then ((room_in.f a0_5 2 a0_4).bind fun t220 => (if t220 = true then ((room_in.f a0_6 2 4096).bind fun t221 => (if t221 = true then ((room_in.f a0_7 0 1000).bind fun t222 => (if t222 = true then ((room_in.f a0_8 1 1024).bind fun t223 => (if t223 = true then (some 0) else (some 2))) else (some 2))) else (some 2))) else (some 2))) else (some 2))) else (some 2))) else (some 2))) else (some 2)) = some r := H
  have A4 := Aside0.mk A40
  clear A40
  by_cases c5 : t216 = true
  ·subst c5
   have H1 : ((room_in.f a0_2 4 64).bind fun t217 => (if t217 = true then ((room_in.f a0_3 0 1048576).bind fun t218 => (if t218 = true then ((room_in.f a0_4 4 256).bind fun t219 => (if t219 = true then ((room_in.f a0_5 2 a0_4).bind fun t220 => (if t220 = true then ((room_in.f a0_6 2 4096).bind fun t221 => (if t221 = true then ((room_in.f a0_7 0 1000).bind fun t222 => (if t222 = true then ((room_in.f a0_8 1 1024).bind fun t223 => (if t223 = true then (some 0) else (some 2))) else (some 2))) else (some 2))) else (some 2))) else (some 2))) else (some 2))) else (some 2))) = some r := by rw [if_pos rfl] at H; exact H
   clear H
   have H := H1
   clear H1
   replace H := Option.bind_eq_some_iff.mp H
   obtain ⟨t217, A60, H⟩ := H
   replace H : (if t217 = true then ((room_in.f a0_3 0 1048576).bind fun t218 => (if t218 = true then ((room_in.f a0_4 4 256).bind fun t219 => (if t219 = true then ((room_in.f a0_5 2 a0_4).bind fun t220 => (if t220 = true then ((room_in.f a0_6 2 4096).bind fun t221 => (if t221 = true then ((room_in.f a0_7 0 1000).bind fun t222 => (if t222 = true then ((room_in.f a0_8 1 1024).bind fun t223 => (if t223 = true then (some 0) else (some 2))) else (some 2))) else (some 2))) else (some 2))) else (some 2))) else (some 2))) else (some 2)) = some r := H
   have A6 := Aside0.mk A60
   clear A60
   by_cases c7 : t217 = true
   ·subst c7
    have H1 : ((room_in.f a0_3 0 1048576).bind fun t218 => (if t218 = true then ((room_in.f a0_4 4 256).bind fun t219 => (if t219 = true then ((room_in.f a0_5 2 a0_4).bind fun t220 => (if t220 = true then ((room_in.f a0_6 2 4096).bind fun t221 => (if t221 = true then ((room_in.f a0_7 0 1000).bind fun t222 => (if t222 = true then ((room_in.f a0_8 1 1024).bind fun t223 => (if t223 = true then (some 0) else (some 2))) else (some 2))) else (some 2))) else (some 2))) else (some 2))) else (some 2))) = some r := by rw [if_pos rfl] at H; exact H
    clear H
    have H := H1
    clear H1
    replace H := Option.bind_eq_some_iff.mp H
    obtain ⟨t218, A80, H⟩ := H
    replace H : (if t218 = true then ((room_in.f a0_4 4 256).bind fun t219 => (if t219 = true then ((room_in.f a0_5 2 a0_4).bind fun t220 => (if t220 = true then ((room_in.f a0_6 2 4096).bind fun t221 => (if t221 = true then ((room_in.f a0_7 0 1000).bind fun t222 => (if t222 = true then ((room_in.f a0_8 1 1024).bind fun t223 => (if t223 = true then (some 0) else (some 2))) else (some 2))) else (some 2))) else (some 2))) else (some 2))) else (some 2)) = some r := H
    have A8 := Aside0.mk A80
    clear A80
    by_cases c9 : t218 = true
    ·subst c9
     have H1 : ((room_in.f a0_4 4 256).bind fun t219 => (if t219 = true then ((room_in.f a0_5 2 a0_4).bind fun t220 => (if t220 = true then ((room_in.f a0_6 2 4096).bind fun t221 => (if t221 = true then ((room_in.f a0_7 0 1000).bind fun t222 => (if t222 = true then ((room_in.f a0_8 1 1024).bind fun t223 => (if t223 = true then (some 0) else (some 2))) else (some 2))) else (some 2))) else (some 2))) else (some 2))) = some r := by rw [if_pos rfl] at H; exact H
     clear H
     have H := H1
     clear H1
     replace H := Option.bind_eq_some_iff.mp H
     obtain ⟨t219, A100, H⟩ := H
     replace H : (if t219 = true then ((room_in.f a0_5 2 a0_4).bind fun t220 => (if t220 = true then ((room_in.f a0_6 2 4096).bind fun t221 => (if t221 = true then ((room_in.f a0_7 0 1000).bind fun t222 => (if t222 = true then ((room_in.f a0_8 1 1024).bind fun t223 => (if t223 = true then (some 0) else (some 2))) else (some 2))) else (some 2))) else (some 2))) else (some 2)) = some r := H
     have A10 := Aside0.mk A100
     clear A100
     by_cases c11 : t219 = true
     ·subst c11
      have H1 : ((room_in.f a0_5 2 a0_4).bind fun t220 => (if t220 = true then ((room_in.f a0_6 2 4096).bind fun t221 => (if t221 = true then ((room_in.f a0_7 0 1000).bind fun t222 => (if t222 = true then ((room_in.f a0_8 1 1024).bind fun t223 => (if t223 = true then (some 0) else (some 2))) else (some 2))) else (some 2))) else (some 2))) = some r := by rw [if_pos rfl] at H; exact H
      clear H
      have H := H1
      clear H1
      replace H := Option.bind_eq_some_iff.mp H
      obtain ⟨t220, A120, H⟩ := H
      replace H : (if t220 = true then ((room_in.f a0_6 2 4096).bind fun t221 => (if t221 = true then ((room_in.f a0_7 0 1000).bind fun t222 => (if t222 = true then ((room_in.f a0_8 1 1024).bind fun t223 => (if t223 = true then (some 0) else (some 2))) else (some 2))) else (some 2))) else (some 2)) = some r := H
      have A12 := Aside0.mk A120
      clear A120
      by_cases c13 : t220 = true
      ·subst c13
       have H1 : ((room_in.f a0_6 2 4096).bind fun t221 => (if t221 = true then ((room_in.f a0_7 0 1000).bind fun t222 => (if t222 = true then ((room_in.f a0_8 1 1024).bind fun t223 => (if t223 = true then (some 0) else (some 2))) else (some 2))) else (some 2))) = some r := by rw [if_pos rfl] at H; exact H
       clear H
       have H := H1
       clear H1
       replace H := Option.bind_eq_some_iff.mp H
       obtain ⟨t221, A140, H⟩ := H
       replace H : (if t221 = true then ((room_in.f a0_7 0 1000).bind fun t222 => (if t222 = true then ((room_in.f a0_8 1 1024).bind fun t223 => (if t223 = true then (some 0) else (some 2))) else (some 2))) else (some 2)) = some r := H
       have A14 := Aside0.mk A140
       clear A140
       by_cases c15 : t221 = true
       ·subst c15
        have H1 : ((room_in.f a0_7 0 1000).bind fun t222 => (if t222 = true then ((room_in.f a0_8 1 1024).bind fun t223 => (if t223 = true then (some 0) else (some 2))) else (some 2))) = some r := by rw [if_pos rfl] at H; exact H
        clear H
        have H := H1
        clear H1
        replace H := Option.bind_eq_some_iff.mp H
        obtain ⟨t222, A160, H⟩ := H
        replace H : (if t222 = true then ((room_in.f a0_8 1 1024).bind fun t223 => (if t223 = true then (some 0) else (some 2))) else (some 2)) = some r := H
        have A16 := Aside0.mk A160
        clear A160
        by_cases c17 : t222 = true
        ·subst c17
         have H1 : ((room_in.f a0_8 1 1024).bind fun t223 => (if t223 = true then (some 0) else (some 2))) = some r := by rw [if_pos rfl] at H; exact H
         clear H
         have H := H1
         clear H1
         replace H := Option.bind_eq_some_iff.mp H
         obtain ⟨t223, A180, H⟩ := H
         replace H : (if t223 = true then (some 0) else (some 2)) = some r := H
         have A18 := Aside0.mk A180
         clear A180
         by_cases c19 : t223 = true
         ·subst c19
          have H1 : (some 0) = some r := by rw [if_pos rfl] at H; exact H
          clear H
          have H := H1
          clear H1
          obtain rfl := Option.some.inj H
          go_enter Try.func67, Try.ntmps67
          go_wp2_with (first | ((with_reducible refine gate_dst (N := 1) rfl ?_); refine box_event ?hg (N := 1) ?hd (cs := #[.int .i64 a0_0, .int .i64 a0_1, .int .i64 a0_2, .int .i64 a0_3, .int .i64 a0_4, .int .i64 a0_5, .int .i64 a0_6, .int .i64 a0_7, .int .i64 a0_8]) (t := 47) ?hr ?_; (case hd => rfl); (case hg => rfl); (case hr => first | (go_simp; done) | (go_simp; rfl)); intro gb214 hg w20 hbox hb; have n0_ := Aside0.mk (wT bW_ hb); have n1_ := Aside0.mk (hbox); have n2_ := Aside0.mk ((by rw [hg]; exact (wZ bW_) : w.heap.size ≤ gb214)); have n3_ := n2_; clear HB; have HB := n0_; have BK214 := n1_; have GW214 := n2_; have GE214 := n3_; clear n0_ n1_ n2_ n3_; clear hb hbox hg; have hcz21_0 := cz_ BK214.out 0; have hcz21_1 := cz_ BK214.out 1; have hcz21_2 := cz_ BK214.out 2; have hcz21_3 := cz_ BK214.out 3; have hcz21_4 := cz_ BK214.out 4; have hcz21_5 := cz_ BK214.out 5; have hcz21_6 := cz_ BK214.out 6; have hcz21_7 := cz_ BK214.out 7; have hcz21_8 := cz_ BK214.out 8; have hfz21_0 := bF BK214.out 0; have hfz21_1 := bF BK214.out 1; have hfz21_2 := bF BK214.out 2; have hfz21_3 := bF BK214.out 3; have hfz21_4 := bF BK214.out 4; have hfz21_5 := bF BK214.out 5; have hfz21_6 := bF BK214.out 6; have hfz21_7 := bF BK214.out 7; have hfz21_8 := bF BK214.out 8) | ((with_reducible refine gate_callee (f := 84) rfl ?_); refine goesL_ (some 6) rfl rfl Try.func84 (by kernel_rfl) rfl #[.int .i64 a0_0, .int .i64 1, .int .i64 256] rfl mS_ ?_; (with_reducible refine (room_in.calls a0_0 1 256 true _ A2.out).mono ?_); rintro e w' ⟨rfl, ⟨nd, rfl⟩⟩; refine ⟨_, rfl, ?_⟩) | (go_at_call 84; (with_reducible refine (room_in.calls a0_1 8 4096 true _ A4.out).mono ?_); rintro e w' ⟨rfl, ⟨nd, rfl⟩⟩) | (go_at_call 84; (with_reducible refine (room_in.calls a0_2 4 64 true _ A6.out).mono ?_); rintro e w' ⟨rfl, ⟨nd, rfl⟩⟩) | (go_at_call 84; (with_reducible refine (room_in.calls a0_3 0 1048576 true _ A8.out).mono ?_); rintro e w' ⟨rfl, ⟨nd, rfl⟩⟩) | (go_at_call 84; (with_reducible refine (room_in.calls a0_4 4 256 true _ A10.out).mono ?_); rintro e w' ⟨rfl, ⟨nd, rfl⟩⟩) | (go_at_call 84; (with_reducible refine (room_in.calls a0_5 2 a0_4 true _ A12.out).mono ?_); rintro e w' ⟨rfl, ⟨nd, rfl⟩⟩) | (go_at_call 84; (with_reducible refine (room_in.calls a0_6 2 4096 true _ A14.out).mono ?_); rintro e w' ⟨rfl, ⟨nd, rfl⟩⟩) | (go_at_call 84; (with_reducible refine (room_in.calls a0_7 0 1000 true _ A16.out).mono ?_); rintro e w' ⟨rfl, ⟨nd, rfl⟩⟩) | (go_at_call 84; (with_reducible refine (room_in.calls a0_8 1 1024 true _ A18.out).mono ?_); rintro e w' ⟨rfl, ⟨nd, rfl⟩⟩))
          go_ret
          exact ⟨by first | rfl | (simp [errW_none, errW_some] <;> rfl) | (simp [*, errW_none, errW_some] <;> rfl), by repeat (first | (with_reducible first | exact HB.out | apply wA | apply wN | apply w1 | refine wS ?_ GE214.out) | exact HB.out)⟩
         ·replace c19 := Bool.eq_false_iff.mpr c19
          subst c19
          have H1 : (some 2) = some r := by rw [if_neg (show ¬ (false = true) by decide)] at H; exact H
          clear H
          have H := H1
          clear H1
          obtain rfl := Option.some.inj H
          go_enter Try.func67, Try.ntmps67
          go_wp2_with (first | ((with_reducible refine gate_dst (N := 1) rfl ?_); refine box_event ?hg (N := 1) ?hd (cs := #[.int .i64 a0_0, .int .i64 a0_1, .int .i64 a0_2, .int .i64 a0_3, .int .i64 a0_4, .int .i64 a0_5, .int .i64 a0_6, .int .i64 a0_7, .int .i64 a0_8]) (t := 47) ?hr ?_; (case hd => rfl); (case hg => rfl); (case hr => first | (go_simp; done) | (go_simp; rfl)); intro gb214 hg w22 hbox hb; have n0_ := Aside0.mk (wT bW_ hb); have n1_ := Aside0.mk (hbox); have n2_ := Aside0.mk ((by rw [hg]; exact (wZ bW_) : w.heap.size ≤ gb214)); have n3_ := n2_; clear HB; have HB := n0_; have BK214 := n1_; have GW214 := n2_; have GE214 := n3_; clear n0_ n1_ n2_ n3_; clear hb hbox hg; have hcz23_0 := cz_ BK214.out 0; have hcz23_1 := cz_ BK214.out 1; have hcz23_2 := cz_ BK214.out 2; have hcz23_3 := cz_ BK214.out 3; have hcz23_4 := cz_ BK214.out 4; have hcz23_5 := cz_ BK214.out 5; have hcz23_6 := cz_ BK214.out 6; have hcz23_7 := cz_ BK214.out 7; have hcz23_8 := cz_ BK214.out 8; have hfz23_0 := bF BK214.out 0; have hfz23_1 := bF BK214.out 1; have hfz23_2 := bF BK214.out 2; have hfz23_3 := bF BK214.out 3; have hfz23_4 := bF BK214.out 4; have hfz23_5 := bF BK214.out 5; have hfz23_6 := bF BK214.out 6; have hfz23_7 := bF BK214.out 7; have hfz23_8 := bF BK214.out 8) | ((with_reducible refine gate_callee (f := 84) rfl ?_); refine goesL_ (some 6) rfl rfl Try.func84 (by kernel_rfl) rfl #[.int .i64 a0_0, .int .i64 1, .int .i64 256] rfl mS_ ?_; (with_reducible refine (room_in.calls a0_0 1 256 true _ A2.out).mono ?_); rintro e w' ⟨rfl, ⟨nd, rfl⟩⟩; refine ⟨_, rfl, ?_⟩) | (go_at_call 84; (with_reducible refine (room_in.calls a0_1 8 4096 true _ A4.out).mono ?_); rintro e w' ⟨rfl, ⟨nd, rfl⟩⟩) | (go_at_call 84; (with_reducible refine (room_in.calls a0_2 4 64 true _ A6.out).mono ?_); rintro e w' ⟨rfl, ⟨nd, rfl⟩⟩) | (go_at_call 84; (with_reducible refine (room_in.calls a0_3 0 1048576 true _ A8.out).mono ?_); rintro e w' ⟨rfl, ⟨nd, rfl⟩⟩) | (go_at_call 84; (with_reducible refine (room_in.calls a0_4 4 256 true _ A10.out).mono ?_); rintro e w' ⟨rfl, ⟨nd, rfl⟩⟩) | (go_at_call 84; (with_reducible refine (room_in.calls a0_5 2 a0_4 true _ A12.out).mono ?_); rintro e w' ⟨rfl, ⟨nd, rfl⟩⟩) | (go_at_call 84; (with_reducible refine (room_in.calls a0_6 2 4096 true _ A14.out).mono ?_); rintro e w' ⟨rfl, ⟨nd, rfl⟩⟩) | (go_at_call 84; (with_reducible refine (room_in.calls a0_7 0 1000 true _ A16.out).mono ?_); rintro e w' ⟨rfl, ⟨nd, rfl⟩⟩) | (go_at_call 84; (with_reducible refine (room_in.calls a0_8 1 1024 false _ A18.out).mono ?_); rintro e w' ⟨rfl, ⟨nd, rfl⟩⟩))
          go_ret
          exact ⟨by first | rfl | (simp [errW_none, errW_some] <;> rfl) | (simp [*, errW_none, errW_some] <;> rfl), by repeat (first | (with_reducible first | exact HB.out | apply wA | apply wN | apply w1 | refine wS ?_ GE214.out) | exact HB.out)⟩
        ·replace c17 := Bool.eq_false_iff.mpr c17
         subst c17
         have H1 : (some 2) = some r := by rw [if_neg (show ¬ (false = true) by decide)] at H; exact H
         clear H
         have H := H1
         clear H1
         obtain rfl := Option.some.inj H
         go_enter Try.func67, Try.ntmps67
         go_wp2_with (first | ((with_reducible refine gate_dst (N := 1) rfl ?_); refine box_event ?hg (N := 1) ?hd (cs := #[.int .i64 a0_0, .int .i64 a0_1, .int .i64 a0_2, .int .i64 a0_3, .int .i64 a0_4, .int .i64 a0_5, .int .i64 a0_6, .int .i64 a0_7, .int .i64 a0_8]) (t := 47) ?hr ?_; (case hd => rfl); (case hg => rfl); (case hr => first | (go_simp; done) | (go_simp; rfl)); intro gb214 hg w24 hbox hb; have n0_ := Aside0.mk (wT bW_ hb); have n1_ := Aside0.mk (hbox); have n2_ := Aside0.mk ((by rw [hg]; exact (wZ bW_) : w.heap.size ≤ gb214)); have n3_ := n2_; clear HB; have HB := n0_; have BK214 := n1_; have GW214 := n2_; have GE214 := n3_; clear n0_ n1_ n2_ n3_; clear hb hbox hg; have hcz25_0 := cz_ BK214.out 0; have hcz25_1 := cz_ BK214.out 1; have hcz25_2 := cz_ BK214.out 2; have hcz25_3 := cz_ BK214.out 3; have hcz25_4 := cz_ BK214.out 4; have hcz25_5 := cz_ BK214.out 5; have hcz25_6 := cz_ BK214.out 6; have hcz25_7 := cz_ BK214.out 7; have hcz25_8 := cz_ BK214.out 8; have hfz25_0 := bF BK214.out 0; have hfz25_1 := bF BK214.out 1; have hfz25_2 := bF BK214.out 2; have hfz25_3 := bF BK214.out 3; have hfz25_4 := bF BK214.out 4; have hfz25_5 := bF BK214.out 5; have hfz25_6 := bF BK214.out 6; have hfz25_7 := bF BK214.out 7; have hfz25_8 := bF BK214.out 8) | ((with_reducible refine gate_callee (f := 84) rfl ?_); refine goesL_ (some 6) rfl rfl Try.func84 (by kernel_rfl) rfl #[.int .i64 a0_0, .int .i64 1, .int .i64 256] rfl mS_ ?_; (with_reducible refine (room_in.calls a0_0 1 256 true _ A2.out).mono ?_); rintro e w' ⟨rfl, ⟨nd, rfl⟩⟩; refine ⟨_, rfl, ?_⟩) | (go_at_call 84; (with_reducible refine (room_in.calls a0_1 8 4096 true _ A4.out).mono ?_); rintro e w' ⟨rfl, ⟨nd, rfl⟩⟩) | (go_at_call 84; (with_reducible refine (room_in.calls a0_2 4 64 true _ A6.out).mono ?_); rintro e w' ⟨rfl, ⟨nd, rfl⟩⟩) | (go_at_call 84; (with_reducible refine (room_in.calls a0_3 0 1048576 true _ A8.out).mono ?_); rintro e w' ⟨rfl, ⟨nd, rfl⟩⟩) | (go_at_call 84; (with_reducible refine (room_in.calls a0_4 4 256 true _ A10.out).mono ?_); rintro e w' ⟨rfl, ⟨nd, rfl⟩⟩) | (go_at_call 84; (with_reducible refine (room_in.calls a0_5 2 a0_4 true _ A12.out).mono ?_); rintro e w' ⟨rfl, ⟨nd, rfl⟩⟩) | (go_at_call 84; (with_reducible refine (room_in.calls a0_6 2 4096 true _ A14.out).mono ?_); rintro e w' ⟨rfl, ⟨nd, rfl⟩⟩) | (go_at_call 84; (with_reducible refine (room_in.calls a0_7 0 1000 false _ A16.out).mono ?_); rintro e w' ⟨rfl, ⟨nd, rfl⟩⟩))
         go_ret
         exact ⟨by first | rfl | (simp [errW_none, errW_some] <;> rfl) | (simp [*, errW_none, errW_some] <;> rfl), by repeat (first | (with_reducible first | exact HB.out | apply wA | apply wN | apply w1 | refine wS ?_ GE214.out) | exact HB.out)⟩
       ·replace c15 := Bool.eq_false_iff.mpr c15
        subst c15
        have H1 : (some 2) = some r := by rw [if_neg (show ¬ (false = true) by decide)] at H; exact H
        clear H
        have H := H1
        clear H1
        obtain rfl := Option.some.inj H
        go_enter Try.func67, Try.ntmps67
        go_wp2_with (first | ((with_reducible refine gate_dst (N := 1) rfl ?_); refine box_event ?hg (N := 1) ?hd (cs := #[.int .i64 a0_0, .int .i64 a0_1, .int .i64 a0_2, .int .i64 a0_3, .int .i64 a0_4, .int .i64 a0_5, .int .i64 a0_6, .int .i64 a0_7, .int .i64 a0_8]) (t := 47) ?hr ?_; (case hd => rfl); (case hg => rfl); (case hr => first | (go_simp; done) | (go_simp; rfl)); intro gb214 hg w26 hbox hb; have n0_ := Aside0.mk (wT bW_ hb); have n1_ := Aside0.mk (hbox); have n2_ := Aside0.mk ((by rw [hg]; exact (wZ bW_) : w.heap.size ≤ gb214)); have n3_ := n2_; clear HB; have HB := n0_; have BK214 := n1_; have GW214 := n2_; have GE214 := n3_; clear n0_ n1_ n2_ n3_; clear hb hbox hg; have hcz27_0 := cz_ BK214.out 0; have hcz27_1 := cz_ BK214.out 1; have hcz27_2 := cz_ BK214.out 2; have hcz27_3 := cz_ BK214.out 3; have hcz27_4 := cz_ BK214.out 4; have hcz27_5 := cz_ BK214.out 5; have hcz27_6 := cz_ BK214.out 6; have hcz27_7 := cz_ BK214.out 7; have hcz27_8 := cz_ BK214.out 8; have hfz27_0 := bF BK214.out 0; have hfz27_1 := bF BK214.out 1; have hfz27_2 := bF BK214.out 2; have hfz27_3 := bF BK214.out 3; have hfz27_4 := bF BK214.out 4; have hfz27_5 := bF BK214.out 5; have hfz27_6 := bF BK214.out 6; have hfz27_7 := bF BK214.out 7; have hfz27_8 := bF BK214.out 8) | ((with_reducible refine gate_callee (f := 84) rfl ?_); refine goesL_ (some 6) rfl rfl Try.func84 (by kernel_rfl) rfl #[.int .i64 a0_0, .int .i64 1, .int .i64 256] rfl mS_ ?_; (with_reducible refine (room_in.calls a0_0 1 256 true _ A2.out).mono ?_); rintro e w' ⟨rfl, ⟨nd, rfl⟩⟩; refine ⟨_, rfl, ?_⟩) | (go_at_call 84; (with_reducible refine (room_in.calls a0_1 8 4096 true _ A4.out).mono ?_); rintro e w' ⟨rfl, ⟨nd, rfl⟩⟩) | (go_at_call 84; (with_reducible refine (room_in.calls a0_2 4 64 true _ A6.out).mono ?_); rintro e w' ⟨rfl, ⟨nd, rfl⟩⟩) | (go_at_call 84; (with_reducible refine (room_in.calls a0_3 0 1048576 true _ A8.out).mono ?_); rintro e w' ⟨rfl, ⟨nd, rfl⟩⟩) | (go_at_call 84; (with_reducible refine (room_in.calls a0_4 4 256 true _ A10.out).mono ?_); rintro e w' ⟨rfl, ⟨nd, rfl⟩⟩) | (go_at_call 84; (with_reducible refine (room_in.calls a0_5 2 a0_4 true _ A12.out).mono ?_); rintro e w' ⟨rfl, ⟨nd, rfl⟩⟩) | (go_at_call 84; (with_reducible refine (room_in.calls a0_6 2 4096 false _ A14.out).mono ?_); rintro e w' ⟨rfl, ⟨nd, rfl⟩⟩))
        go_ret
        exact ⟨by first | rfl | (simp [errW_none, errW_some] <;> rfl) | (simp [*, errW_none, errW_some] <;> rfl), by repeat (first | (with_reducible first | exact HB.out | apply wA | apply wN | apply w1 | refine wS ?_ GE214.out) | exact HB.out)⟩
      ·replace c13 := Bool.eq_false_iff.mpr c13
       subst c13
       have H1 : (some 2) = some r := by rw [if_neg (show ¬ (false = true) by decide)] at H; exact H
       clear H
       have H := H1
       clear H1
       obtain rfl := Option.some.inj H
       go_enter Try.func67, Try.ntmps67
       go_wp2_with (first | ((with_reducible refine gate_dst (N := 1) rfl ?_); refine box_event ?hg (N := 1) ?hd (cs := #[.int .i64 a0_0, .int .i64 a0_1, .int .i64 a0_2, .int .i64 a0_3, .int .i64 a0_4, .int .i64 a0_5, .int .i64 a0_6, .int .i64 a0_7, .int .i64 a0_8]) (t := 47) ?hr ?_; (case hd => rfl); (case hg => rfl); (case hr => first | (go_simp; done) | (go_simp; rfl)); intro gb214 hg w28 hbox hb; have n0_ := Aside0.mk (wT bW_ hb); have n1_ := Aside0.mk (hbox); have n2_ := Aside0.mk ((by rw [hg]; exact (wZ bW_) : w.heap.size ≤ gb214)); have n3_ := n2_; clear HB; have HB := n0_; have BK214 := n1_; have GW214 := n2_; have GE214 := n3_; clear n0_ n1_ n2_ n3_; clear hb hbox hg; have hcz29_0 := cz_ BK214.out 0; have hcz29_1 := cz_ BK214.out 1; have hcz29_2 := cz_ BK214.out 2; have hcz29_3 := cz_ BK214.out 3; have hcz29_4 := cz_ BK214.out 4; have hcz29_5 := cz_ BK214.out 5; have hcz29_6 := cz_ BK214.out 6; have hcz29_7 := cz_ BK214.out 7; have hcz29_8 := cz_ BK214.out 8; have hfz29_0 := bF BK214.out 0; have hfz29_1 := bF BK214.out 1; have hfz29_2 := bF BK214.out 2; have hfz29_3 := bF BK214.out 3; have hfz29_4 := bF BK214.out 4; have hfz29_5 := bF BK214.out 5; have hfz29_6 := bF BK214.out 6; have hfz29_7 := bF BK214.out 7; have hfz29_8 := bF BK214.out 8) | ((with_reducible refine gate_callee (f := 84) rfl ?_); refine goesL_ (some 6) rfl rfl Try.func84 (by kernel_rfl) rfl #[.int .i64 a0_0, .int .i64 1, .int .i64 256] rfl mS_ ?_; (with_reducible refine (room_in.calls a0_0 1 256 true _ A2.out).mono ?_); rintro e w' ⟨rfl, ⟨nd, rfl⟩⟩; refine ⟨_, rfl, ?_⟩) | (go_at_call 84; (with_reducible refine (room_in.calls a0_1 8 4096 true _ A4.out).mono ?_); rintro e w' ⟨rfl, ⟨nd, rfl⟩⟩) | (go_at_call 84; (with_reducible refine (room_in.calls a0_2 4 64 true _ A6.out).mono ?_); rintro e w' ⟨rfl, ⟨nd, rfl⟩⟩) | (go_at_call 84; (with_reducible refine (room_in.calls a0_3 0 1048576 true _ A8.out).mono ?_); rintro e w' ⟨rfl, ⟨nd, rfl⟩⟩) | (go_at_call 84; (with_reducible refine (room_in.calls a0_4 4 256 true _ A10.out).mono ?_); rintro e w' ⟨rfl, ⟨nd, rfl⟩⟩) | (go_at_call 84; (with_reducible refine (room_in.calls a0_5 2 a0_4 false _ A12.out).mono ?_); rintro e w' ⟨rfl, ⟨nd, rfl⟩⟩))
       go_ret
       exact ⟨by first | rfl | (simp [errW_none, errW_some] <;> rfl) | (simp [*, errW_none, errW_some] <;> rfl), by repeat (first | (with_reducible first | exact HB.out | apply wA | apply wN | apply w1 | refine wS ?_ GE214.out) | exact HB.out)⟩
     ·replace c11 := Bool.eq_false_iff.mpr c11
      subst c11
      have H1 : (some 2) = some r := by rw [if_neg (show ¬ (false = true) by decide)] at H; exact H
      clear H
      have H := H1
      clear H1
      obtain rfl := Option.some.inj H
      go_enter Try.func67, Try.ntmps67
      go_wp2_with (first | ((with_reducible refine gate_dst (N := 1) rfl ?_); refine box_event ?hg (N := 1) ?hd (cs := #[.int .i64 a0_0, .int .i64 a0_1, .int .i64 a0_2, .int .i64 a0_3, .int .i64 a0_4, .int .i64 a0_5, .int .i64 a0_6, .int .i64 a0_7, .int .i64 a0_8]) (t := 47) ?hr ?_; (case hd => rfl); (case hg => rfl); (case hr => first | (go_simp; done) | (go_simp; rfl)); intro gb214 hg w30 hbox hb; have n0_ := Aside0.mk (wT bW_ hb); have n1_ := Aside0.mk (hbox); have n2_ := Aside0.mk ((by rw [hg]; exact (wZ bW_) : w.heap.size ≤ gb214)); have n3_ := n2_; clear HB; have HB := n0_; have BK214 := n1_; have GW214 := n2_; have GE214 := n3_; clear n0_ n1_ n2_ n3_; clear hb hbox hg; have hcz31_0 := cz_ BK214.out 0; have hcz31_1 := cz_ BK214.out 1; have hcz31_2 := cz_ BK214.out 2; have hcz31_3 := cz_ BK214.out 3; have hcz31_4 := cz_ BK214.out 4; have hcz31_5 := cz_ BK214.out 5; have hcz31_6 := cz_ BK214.out 6; have hcz31_7 := cz_ BK214.out 7; have hcz31_8 := cz_ BK214.out 8; have hfz31_0 := bF BK214.out 0; have hfz31_1 := bF BK214.out 1; have hfz31_2 := bF BK214.out 2; have hfz31_3 := bF BK214.out 3; have hfz31_4 := bF BK214.out 4; have hfz31_5 := bF BK214.out 5; have hfz31_6 := bF BK214.out 6; have hfz31_7 := bF BK214.out 7; have hfz31_8 := bF BK214.out 8) | ((with_reducible refine gate_callee (f := 84) rfl ?_); refine goesL_ (some 6) rfl rfl Try.func84 (by kernel_rfl) rfl #[.int .i64 a0_0, .int .i64 1, .int .i64 256] rfl mS_ ?_; (with_reducible refine (room_in.calls a0_0 1 256 true _ A2.out).mono ?_); rintro e w' ⟨rfl, ⟨nd, rfl⟩⟩; refine ⟨_, rfl, ?_⟩) | (go_at_call 84; (with_reducible refine (room_in.calls a0_1 8 4096 true _ A4.out).mono ?_); rintro e w' ⟨rfl, ⟨nd, rfl⟩⟩) | (go_at_call 84; (with_reducible refine (room_in.calls a0_2 4 64 true _ A6.out).mono ?_); rintro e w' ⟨rfl, ⟨nd, rfl⟩⟩) | (go_at_call 84; (with_reducible refine (room_in.calls a0_3 0 1048576 true _ A8.out).mono ?_); rintro e w' ⟨rfl, ⟨nd, rfl⟩⟩) | (go_at_call 84; (with_reducible refine (room_in.calls a0_4 4 256 false _ A10.out).mono ?_); rintro e w' ⟨rfl, ⟨nd, rfl⟩⟩))
      go_ret
      exact ⟨by first | rfl | (simp [errW_none, errW_some] <;> rfl) | (simp [*, errW_none, errW_some] <;> rfl), by repeat (first | (with_reducible first | exact HB.out | apply wA | apply wN | apply w1 | refine wS ?_ GE214.out) | exact HB.out)⟩
    ·replace c9 := Bool.eq_false_iff.mpr c9
     subst c9
     have H1 : (some 2) = some r := by rw [if_neg (show ¬ (false = true) by decide)] at H; exact H
     clear H
     have H := H1
     clear H1
     obtain rfl := Option.some.inj H
     go_enter Try.func67, Try.ntmps67
     go_wp2_with (first | ((with_reducible refine gate_dst (N := 1) rfl ?_); refine box_event ?hg (N := 1) ?hd (cs := #[.int .i64 a0_0, .int .i64 a0_1, .int .i64 a0_2, .int .i64 a0_3, .int .i64 a0_4, .int .i64 a0_5, .int .i64 a0_6, .int .i64 a0_7, .int .i64 a0_8]) (t := 47) ?hr ?_; (case hd => rfl); (case hg => rfl); (case hr => first | (go_simp; done) | (go_simp; rfl)); intro gb214 hg w32 hbox hb; have n0_ := Aside0.mk (wT bW_ hb); have n1_ := Aside0.mk (hbox); have n2_ := Aside0.mk ((by rw [hg]; exact (wZ bW_) : w.heap.size ≤ gb214)); have n3_ := n2_; clear HB; have HB := n0_; have BK214 := n1_; have GW214 := n2_; have GE214 := n3_; clear n0_ n1_ n2_ n3_; clear hb hbox hg; have hcz33_0 := cz_ BK214.out 0; have hcz33_1 := cz_ BK214.out 1; have hcz33_2 := cz_ BK214.out 2; have hcz33_3 := cz_ BK214.out 3; have hcz33_4 := cz_ BK214.out 4; have hcz33_5 := cz_ BK214.out 5; have hcz33_6 := cz_ BK214.out 6; have hcz33_7 := cz_ BK214.out 7; have hcz33_8 := cz_ BK214.out 8; have hfz33_0 := bF BK214.out 0; have hfz33_1 := bF BK214.out 1; have hfz33_2 := bF BK214.out 2; have hfz33_3 := bF BK214.out 3; have hfz33_4 := bF BK214.out 4; have hfz33_5 := bF BK214.out 5; have hfz33_6 := bF BK214.out 6; have hfz33_7 := bF BK214.out 7; have hfz33_8 := bF BK214.out 8) | ((with_reducible refine gate_callee (f := 84) rfl ?_); refine goesL_ (some 6) rfl rfl Try.func84 (by kernel_rfl) rfl #[.int .i64 a0_0, .int .i64 1, .int .i64 256] rfl mS_ ?_; (with_reducible refine (room_in.calls a0_0 1 256 true _ A2.out).mono ?_); rintro e w' ⟨rfl, ⟨nd, rfl⟩⟩; refine ⟨_, rfl, ?_⟩) | (go_at_call 84; (with_reducible refine (room_in.calls a0_1 8 4096 true _ A4.out).mono ?_); rintro e w' ⟨rfl, ⟨nd, rfl⟩⟩) | (go_at_call 84; (with_reducible refine (room_in.calls a0_2 4 64 true _ A6.out).mono ?_); rintro e w' ⟨rfl, ⟨nd, rfl⟩⟩) | (go_at_call 84; (with_reducible refine (room_in.calls a0_3 0 1048576 false _ A8.out).mono ?_); rintro e w' ⟨rfl, ⟨nd, rfl⟩⟩))
     go_ret
     exact ⟨by first | rfl | (simp [errW_none, errW_some] <;> rfl) | (simp [*, errW_none, errW_some] <;> rfl), by repeat (first | (with_reducible first | exact HB.out | apply wA | apply wN | apply w1 | refine wS ?_ GE214.out) | exact HB.out)⟩
   ·replace c7 := Bool.eq_false_iff.mpr c7
    subst c7
    have H1 : (some 2) = some r := by rw [if_neg (show ¬ (false = true) by decide)] at H; exact H
    clear H
    have H := H1
    clear H1
    obtain rfl := Option.some.inj H
    go_enter Try.func67, Try.ntmps67
    go_wp2_with (first | ((with_reducible refine gate_dst (N := 1) rfl ?_); refine box_event ?hg (N := 1) ?hd (cs := #[.int .i64 a0_0, .int .i64 a0_1, .int .i64 a0_2, .int .i64 a0_3, .int .i64 a0_4, .int .i64 a0_5, .int .i64 a0_6, .int .i64 a0_7, .int .i64 a0_8]) (t := 47) ?hr ?_; (case hd => rfl); (case hg => rfl); (case hr => first | (go_simp; done) | (go_simp; rfl)); intro gb214 hg w34 hbox hb; have n0_ := Aside0.mk (wT bW_ hb); have n1_ := Aside0.mk (hbox); have n2_ := Aside0.mk ((by rw [hg]; exact (wZ bW_) : w.heap.size ≤ gb214)); have n3_ := n2_; clear HB; have HB := n0_; have BK214 := n1_; have GW214 := n2_; have GE214 := n3_; clear n0_ n1_ n2_ n3_; clear hb hbox hg; have hcz35_0 := cz_ BK214.out 0; have hcz35_1 := cz_ BK214.out 1; have hcz35_2 := cz_ BK214.out 2; have hcz35_3 := cz_ BK214.out 3; have hcz35_4 := cz_ BK214.out 4; have hcz35_5 := cz_ BK214.out 5; have hcz35_6 := cz_ BK214.out 6; have hcz35_7 := cz_ BK214.out 7; have hcz35_8 := cz_ BK214.out 8; have hfz35_0 := bF BK214.out 0; have hfz35_1 := bF BK214.out 1; have hfz35_2 := bF BK214.out 2; have hfz35_3 := bF BK214.out 3; have hfz35_4 := bF BK214.out 4; have hfz35_5 := bF BK214.out 5; have hfz35_6 := bF BK214.out 6; have hfz35_7 := bF BK214.out 7; have hfz35_8 := bF BK214.out 8) | ((with_reducible refine gate_callee (f := 84) rfl ?_); refine goesL_ (some 6) rfl rfl Try.func84 (by kernel_rfl) rfl #[.int .i64 a0_0, .int .i64 1, .int .i64 256] rfl mS_ ?_; (with_reducible refine (room_in.calls a0_0 1 256 true _ A2.out).mono ?_); rintro e w' ⟨rfl, ⟨nd, rfl⟩⟩; refine ⟨_, rfl, ?_⟩) | (go_at_call 84; (with_reducible refine (room_in.calls a0_1 8 4096 true _ A4.out).mono ?_); rintro e w' ⟨rfl, ⟨nd, rfl⟩⟩) | (go_at_call 84; (with_reducible refine (room_in.calls a0_2 4 64 false _ A6.out).mono ?_); rintro e w' ⟨rfl, ⟨nd, rfl⟩⟩))
    go_ret
    exact ⟨by first | rfl | (simp [errW_none, errW_some] <;> rfl) | (simp [*, errW_none, errW_some] <;> rfl), by repeat (first | (with_reducible first | exact HB.out | apply wA | apply wN | apply w1 | refine wS ?_ GE214.out) | exact HB.out)⟩
  ·replace c5 := Bool.eq_false_iff.mpr c5
   subst c5
   have H1 : (some 2) = some r := by rw [if_neg (show ¬ (false = true) by decide)] at H; exact H
   clear H
   have H := H1
   clear H1
   obtain rfl := Option.some.inj H
   go_enter Try.func67, Try.ntmps67
   go_wp2_with (first | ((with_reducible refine gate_dst (N := 1) rfl ?_); refine box_event ?hg (N := 1) ?hd (cs := #[.int .i64 a0_0, .int .i64 a0_1, .int .i64 a0_2, .int .i64 a0_3, .int .i64 a0_4, .int .i64 a0_5, .int .i64 a0_6, .int .i64 a0_7, .int .i64 a0_8]) (t := 47) ?hr ?_; (case hd => rfl); (case hg => rfl); (case hr => first | (go_simp; done) | (go_simp; rfl)); intro gb214 hg w36 hbox hb; have n0_ := Aside0.mk (wT bW_ hb); have n1_ := Aside0.mk (hbox); have n2_ := Aside0.mk ((by rw [hg]; exact (wZ bW_) : w.heap.size ≤ gb214)); have n3_ := n2_; clear HB; have HB := n0_; have BK214 := n1_; have GW214 := n2_; have GE214 := n3_; clear n0_ n1_ n2_ n3_; clear hb hbox hg; have hcz37_0 := cz_ BK214.out 0; have hcz37_1 := cz_ BK214.out 1; have hcz37_2 := cz_ BK214.out 2; have hcz37_3 := cz_ BK214.out 3; have hcz37_4 := cz_ BK214.out 4; have hcz37_5 := cz_ BK214.out 5; have hcz37_6 := cz_ BK214.out 6; have hcz37_7 := cz_ BK214.out 7; have hcz37_8 := cz_ BK214.out 8; have hfz37_0 := bF BK214.out 0; have hfz37_1 := bF BK214.out 1; have hfz37_2 := bF BK214.out 2; have hfz37_3 := bF BK214.out 3; have hfz37_4 := bF BK214.out 4; have hfz37_5 := bF BK214.out 5; have hfz37_6 := bF BK214.out 6; have hfz37_7 := bF BK214.out 7; have hfz37_8 := bF BK214.out 8) | ((with_reducible refine gate_callee (f := 84) rfl ?_); refine goesL_ (some 6) rfl rfl Try.func84 (by kernel_rfl) rfl #[.int .i64 a0_0, .int .i64 1, .int .i64 256] rfl mS_ ?_; (with_reducible refine (room_in.calls a0_0 1 256 true _ A2.out).mono ?_); rintro e w' ⟨rfl, ⟨nd, rfl⟩⟩; refine ⟨_, rfl, ?_⟩) | (go_at_call 84; (with_reducible refine (room_in.calls a0_1 8 4096 false _ A4.out).mono ?_); rintro e w' ⟨rfl, ⟨nd, rfl⟩⟩))
   go_ret
   exact ⟨by first | rfl | (simp [errW_none, errW_some] <;> rfl) | (simp [*, errW_none, errW_some] <;> rfl), by repeat (first | (with_reducible first | exact HB.out | apply wA | apply wN | apply w1 | refine wS ?_ GE214.out) | exact HB.out)⟩
 ·replace c3 := Bool.eq_false_iff.mpr c3
  subst c3
  have H1 : (some 2) = some r := by rw [if_neg (show ¬ (false = true) by decide)] at H; exact H
  clear H
  have H := H1
  clear H1
  obtain rfl := Option.some.inj H
  go_enter Try.func67, Try.ntmps67
  go_wp2_with (first | ((with_reducible refine gate_dst (N := 1) rfl ?_); refine box_event ?hg (N := 1) ?hd (cs := #[.int .i64 a0_0, .int .i64 a0_1, .int .i64 a0_2, .int .i64 a0_3, .int .i64 a0_4, .int .i64 a0_5, .int .i64 a0_6, .int .i64 a0_7, .int .i64 a0_8]) (t := 47) ?hr ?_; (case hd => rfl); (case hg => rfl); (case hr => first | (go_simp; done) | (go_simp; rfl)); intro gb214 hg w38 hbox hb; have n0_ := Aside0.mk (wT bW_ hb); have n1_ := Aside0.mk (hbox); have n2_ := Aside0.mk ((by rw [hg]; exact (wZ bW_) : w.heap.size ≤ gb214)); have n3_ := n2_; clear HB; have HB := n0_; have BK214 := n1_; have GW214 := n2_; have GE214 := n3_; clear n0_ n1_ n2_ n3_; clear hb hbox hg; have hcz39_0 := cz_ BK214.out 0; have hcz39_1 := cz_ BK214.out 1; have hcz39_2 := cz_ BK214.out 2; have hcz39_3 := cz_ BK214.out 3; have hcz39_4 := cz_ BK214.out 4; have hcz39_5 := cz_ BK214.out 5; have hcz39_6 := cz_ BK214.out 6; have hcz39_7 := cz_ BK214.out 7; have hcz39_8 := cz_ BK214.out 8; have hfz39_0 := bF BK214.out 0; have hfz39_1 := bF BK214.out 1; have hfz39_2 := bF BK214.out 2; have hfz39_3 := bF BK214.out 3; have hfz39_4 := bF BK214.out 4; have hfz39_5 := bF BK214.out 5; have hfz39_6 := bF BK214.out 6; have hfz39_7 := bF BK214.out 7; have hfz39_8 := bF BK214.out 8) | ((with_reducible refine gate_callee (f := 84) rfl ?_); refine goesL_ (some 6) rfl rfl Try.func84 (by kernel_rfl) rfl #[.int .i64 a0_0, .int .i64 1, .int .i64 256] rfl mS_ ?_; (with_reducible refine (room_in.calls a0_0 1 256 false _ A2.out).mono ?_); rintro e w' ⟨rfl, ⟨nd, rfl⟩⟩; refine ⟨_, rfl, ?_⟩))
  go_ret
  exact ⟨by first | rfl | (simp [errW_none, errW_some] <;> rfl) | (simp [*, errW_none, errW_some] <;> rfl), by repeat (first | (with_reducible first | exact HB.out | apply wA | apply wN | apply w1 | refine wS ?_ GE214.out) | exact HB.out)⟩
end Go.Proofs.Ytljnlnbopohghaa.P
end
