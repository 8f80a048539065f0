/- Texts of one claim (laid by shake.py). -/
import Derived.Test.YtljnlnbopohghaaZWa4
import Derived.Test.YtljnlnbopohghaaZWa7
import Derived.Test.YtljnlnbopohghaaZWa11
set_option linter.unusedVariables false
set_option linter.unusedSimpArgs false
section
namespace Go.Proofs.Ytljnlnbopohghaa.P
open Go.RowKit Go.Proofs.YtljnlnbopohghaaW.PrintWords Go.Proofs.YtljnlnbopohghaaW.PrintLast Go.Proofs.YtljnlnbopohghaaW.PrintMore Go.Proofs.Ytljnlnbopohghaa.Own
open Go.Proofs.YtljnlnbopohghaaW.PrintWords renaming blk_cell → bC, blk_frozen → bF, blk_drewN → bN, blk_alloc → bA, pw_below_drewN → wN, blk_drew → bD, below_drew1 → w1, below_set → wS, below_alloc → wA, blk_below → bB, below_step → wT, below_size → wZ, blk_far → bR, blk_put → bP
open List renaming map_toArray → mA1, map_cons → mA2, map_nil → mA3, length_take → mA4, length_drop → mA5, setIfInBounds_toArray → sA1, set_cons_zero → sA2, set_cons_succ → sA3
attribute [local go_sem] max2_str max2_int min2_int max_two min_two max_three min_three max_four min_four   -- for this text's walks alone
def key_Holds.f (a0_0 a0_1 a1 : BA) : Option (Bool) := if ((Op.bytesLess a1.toList a0_0.toList) = true) then (some false) else ((key_ahead.f a1 a0_1).bind fun t160 => (some t160))
set_option maxHeartbeats 8000000 in
set_option maxRecDepth 100000 in
theorem key_Holds.calls (a0_0 a0_1 a1 : BA) (r : Bool) (w : World) (h : key_Holds.f a0_0 a0_1 a1 = some r) :
  Calls Try.prog 51 #[.agg #[.string a0_0, .string a0_1], .string a1] w fun e w' => e = .returned (.bool r) ∧ Below w.heap.size w w' := by
 have hu29 := Try.underlying29
 have HB := aK_ (Below.refl w.heap.size w)
 have H : (if ((Op.bytesLess a1.toList a0_0.toList) = true) then (some false) else ((key_ahead.f a1 a0_1).bind fun t160 => (some t160))) = some r := h
 clear h
 by_cases c3 : ((Op.bytesLess a1.toList a0_0.toList) = true)
 ·rw [if_pos c3] at H
  have c3b0 : (Op.bytesLess a1.toList a0_0.toList) = true := c3
  clear c3
  obtain rfl := Option.some.inj H
  go_enter Try.func51, Try.ntmps51
  go_wp2_with (first | ((with_reducible refine gate_dst (N := 2) rfl ?_); refine bE_ 2 #[.string a0_0, .string a0_1] 29 ?_; intro gb159 hg w4 hbox hb; have BK159 := aK_ (hbox); have GW159 := aK_ (gE_ hg); replace HB := aK_ (wT bW_ hb); have GE159 := GW159; clear hb hbox hg; have hz5 := cq2_ BK159.out))
  go_ret
  exact ⟨eR_, bS1_ GE159.out⟩
 rw [if_neg c3] at H
 have c3b0 : (Op.bytesLess a1.toList a0_0.toList) = false := by simpa using c3
 clear c3
 replace H := Option.bind_eq_some_iff.mp H
 obtain ⟨t160, A60, H⟩ := H
 replace H : (some t160) = some r := H
 have A6 := aK_ A60
 clear A60
 obtain rfl := Option.some.inj H
 go_enter Try.func51, Try.ntmps51
 go_wp2_with (first | ((with_reducible refine gate_dst (N := 2) rfl ?_); refine bE_ 2 #[.string a0_0, .string a0_1] 29 ?_; intro gb159 hg w7 hbox hb; have BK159 := aK_ (hbox); have GW159 := aK_ (gE_ hg); replace HB := aK_ (wT bW_ hb); have GE159 := GW159; clear hb hbox hg; have hz8 := cq2_ BK159.out) | (go_at_call 78; (with_reducible refine (key_ahead.calls a1 a0_1 t160 _ A6.out).mono ?_); rintro e w' ⟨rfl, ⟨nd, rfl⟩⟩))
 go_ret
 exact ⟨eR_, bS1_ GE159.out⟩
def room_spare.f (a0_0 : Int) (a0_1 a0_2 : BA) (a0_3 : Int) (l0_4 : List (S117)) : Option (Int × ByteArray × ByteArray × Int × (List (S117))) := if a0_0 = 1 then (some (a0_0, (⟨#[]⟩ : BA), a0_2, a0_3, l0_4)) else (if a0_0 = 2 then (some (a0_0, a0_1, a0_2, a0_3, ([] : List (S117)))) else (if a0_0 = 3 then (some (a0_0, (⟨#[]⟩ : BA), (⟨#[]⟩ : BA), 0, l0_4)) else (if a0_0 = 4 then (some (a0_0, (⟨#[]⟩ : BA), (⟨#[]⟩ : BA), a0_3, l0_4)) else (if a0_0 = 5 then (some (a0_0, a0_1, a0_2, 0, l0_4)) else (if a0_0 = 6 then (some (a0_0, a0_1, a0_2, 0, l0_4)) else (some (a0_0, a0_1, a0_2, a0_3, l0_4)))))))
set_option maxHeartbeats 8000000 in
set_option maxRecDepth 100000 in
theorem room_spare.calls (a0_0 : Int) (a0_1 a0_2 : BA) (a0_3 : Int) (P0_4_ : Nat → Prop) (A0_4 : Option Addr) (c0_4 : Nat) (l0_4 : List (S117)) (r1 : Int) (r2 r3 : BA) (r4 : Int) (r5 : List (S117)) (w : World) (hs0_4 : Kd.V k117 117 w w.heap.size (fun k_ => P0_4_ k_) (.slice A0_4 l0_4.length c0_4) l0_4) (h : room_spare.f a0_0 a0_1 a0_2 a0_3 l0_4 = some (r1, r2, r3, r4, r5)) :
  Calls Try.prog 83 #[.agg #[.int .u8 a0_0, .string a0_1, .string a0_2, .int .i64 a0_3, .slice A0_4 l0_4.length c0_4]] w fun e w' => ∃ v4_ : Value, e = .returned (.agg #[.int .u8 r1, .string r2, .string r3, .int .i64 r4, v4_]) ∧ Kd.V k117 117 w' w.heap.size (fun k_ => (P0_4_ k_ ∨ w.heap.size ≤ k_)) v4_ r5 ∧ Below w.heap.size w w' := by
 have hu := Try.underlying56
 have hA := aK_ (And.intro h hs0_4)
 have E := aK_ (fun (o1 o2 : Obj) => show ((w.alloc o1).alloc o2).heap[w.heap.size + 1]? = some o2 from by have := blk_new (w.alloc o1) o2; rwa [World.size_alloc] at this)
 clear h hs0_4
 go_enter Try.func83, Try.ntmps83
 go_wp2
 all_goals
  obtain ⟨h, hs⟩ := hA.out
  clear hA hu
  refine bodyPost_ret (results_cell_row rfl _ _ (w.heap.size + 1) 56 _ (0, 0) _ rfl (E.out _ _) Try.underlying56 rfl (by kernel_rfl)) rfl ?_
  unfold room_spare.f at h
  simp only [beq_iff_eq, Bool.not_eq_true, beq_eq_false_iff_ne, ne_eq, Bool.or_eq_true] at *
  simp only [*, if_true, if_false, Option.some.injEq, Prod.mk.injEq, Int.reduceEq, false_or, or_false, true_or, or_true] at h
  obtain ⟨rfl, rfl, rfl, rfl, rfl⟩ := h
  first
  | exact ⟨.slice A0_4 l0_4.length c0_4, by first | rfl | (simp [*]; done), Kd.V_mono (Kd.V_below hs (below_alloc (below_alloc (Below.refl _ _) _) _)) (fun _ q => .inl q), below_alloc (below_alloc (Below.refl _ _) _) _⟩
  | exact ⟨.slice none 0 0, by first | rfl | (simp [*]; done), Kd.V_nil _ _ _ _ _, below_alloc (below_alloc (Below.refl _ _) _) _⟩
def room_in.f (a0 a1 a2 : Int) : Option (Bool) := if a0 ≥ a1 then (some (decide (a0 ≤ a2))) else (some false)
set_option maxHeartbeats 8000000 in
set_option maxRecDepth 100000 in
theorem room_in.calls (a0 a1 a2 : Int) (r : Bool) (w : World) (h : room_in.f a0 a1 a2 = some r) :
  Calls Try.prog 84 #[.int .i64 a0, .int .i64 a1, .int .i64 a2] w fun e w' => e = .returned (.bool r) ∧ Drawn0 w w' := by
 have H : (if a0 ≥ a1 then (some (decide (a0 ≤ a2))) else (some false)) = some r := h
 clear h
 by_cases c4 : a0 ≥ a1
 ·rw [if_pos c4] at H
  have c4b0 : decide (a1 ≤ a0) = true := decide_eq_true c4
  clear c4
  obtain rfl := Option.some.inj H
  go_enter Try.func84, Try.ntmps84
  go_wp2
  go_ret
  exact ⟨rZ_, by repeat (first | exact Drawn0.refl _ | apply Drawn0.step)⟩
 rw [if_neg c4] at H
 have c4b0 : decide (a1 ≤ a0) = false := decide_eq_false c4
 clear c4
 obtain rfl := Option.some.inj H
 go_enter Try.func84, Try.ntmps84
 go_wp2
 go_ret
 exact ⟨rZ_, by repeat (first | exact Drawn0.refl _ | apply Drawn0.step)⟩
def msg_IsPoint.f (a0_0 a0_1 : Int) (a0_2 a0_3 a0_4 : BA) (a0_5 : Int) : Option (Bool) := if a0_0 = 1 then (some true) else (if a0_0 = 2 then (some true) else (some (a0_0 == 3)))
set_option maxHeartbeats 8000000 in
set_option maxRecDepth 100000 in
theorem msg_IsPoint.calls (a0_0 a0_1 : Int) (a0_2 a0_3 a0_4 : BA) (a0_5 : Int) (r : Bool) (w : World) (h : msg_IsPoint.f a0_0 a0_1 a0_2 a0_3 a0_4 a0_5 = some r) :
  Calls Try.prog 103 #[.agg #[.int .u8 a0_0, .int .i64 a0_1, .string a0_2, .string a0_3, .string a0_4, .int .u64 a0_5]] w fun e w' => e = .returned (.bool r) ∧ Below w.heap.size w w' := by
 have hu117 := Try.underlying117
 have HB := aK_ (Below.refl w.heap.size w)
 have H : (if a0_0 = 1 then (some true) else (if a0_0 = 2 then (some true) else (some (a0_0 == 3)))) = some r := h
 clear h
 by_cases c2 : a0_0 = 1
 ·rw [if_pos c2] at H
  have c2b0 := beq_iff_eq.mpr c2
  have c2b1 := bne_eq_false_iff_eq.mpr c2
  clear c2
  obtain rfl := Option.some.inj H
  go_enter Try.func103, Try.ntmps103
  go_wp2_with (first | ((with_reducible refine gate_dst (N := 1) rfl ?_); refine bE_ 1 #[.int .u8 a0_0, .int .i64 a0_1, .string a0_2, .string a0_3, .string a0_4, .int .u64 a0_5] 117 ?_; intro gb163 hg w3 hbox hb; have BK163 := aK_ (hbox); have GW163 := aK_ (gE_ hg); replace HB := aK_ (wT bW_ hb); have GE163 := GW163; clear hb hbox hg; have hz4 := cq6_ BK163.out))
  go_ret
  exact ⟨eR_, bS1_ GE163.out⟩
 rw [if_neg c2] at H
 have c2b0 := beq_eq_false_iff_ne.mpr c2
 have c2b1 := bne_iff_ne.mpr c2
 by_cases c5 : a0_0 = 2
 ·rw [if_pos c5] at H
  have c5b0 := beq_iff_eq.mpr c5
  have c5b1 := bne_eq_false_iff_eq.mpr c5
  clear c5
  obtain rfl := Option.some.inj H
  go_enter Try.func103, Try.ntmps103
  go_wp2_with (first | ((with_reducible refine gate_dst (N := 1) rfl ?_); refine bE_ 1 #[.int .u8 a0_0, .int .i64 a0_1, .string a0_2, .string a0_3, .string a0_4, .int .u64 a0_5] 117 ?_; intro gb163 hg w6 hbox hb; have BK163 := aK_ (hbox); have GW163 := aK_ (gE_ hg); replace HB := aK_ (wT bW_ hb); have GE163 := GW163; clear hb hbox hg; have hz7 := cq6_ BK163.out))
  go_ret
  exact ⟨eR_, bS1_ GE163.out⟩
 rw [if_neg c5] at H
 have c5b0 := beq_eq_false_iff_ne.mpr c5
 have c5b1 := bne_iff_ne.mpr c5
 obtain rfl := Option.some.inj H
 go_enter Try.func103, Try.ntmps103
 go_wp2_with (first | ((with_reducible refine gate_dst (N := 1) rfl ?_); refine bE_ 1 #[.int .u8 a0_0, .int .i64 a0_1, .string a0_2, .string a0_3, .string a0_4, .int .u64 a0_5] 117 ?_; intro gb163 hg w8 hbox hb; have BK163 := aK_ (hbox); have GW163 := aK_ (gE_ hg); replace HB := aK_ (wT bW_ hb); have GE163 := GW163; clear hb hbox hg; have hz9 := cq6_ BK163.out))
 go_ret
 exact ⟨eR_, bS1_ GE163.out⟩
def key_Point.f (a0 : BA) : Option (ByteArray × ByteArray) := (key_After.f a0).bind fun t165 => (some (a0, t165))
set_option maxHeartbeats 8000000 in
set_option maxRecDepth 100000 in
theorem key_Point.calls (a0 r1 r2 : BA) (w : World) (h : key_Point.f a0 = some (r1, r2)) :
  Calls Try.prog 104 #[.string a0] w fun e w' => e = .returned (.agg #[.string r1, .string r2]) ∧ Below w.heap.size w w' := by
 have hu29 := Try.underlying29
 have HB := aK_ (Below.refl w.heap.size w)
 have H : ((key_After.f a0).bind fun t165 => (some (a0, t165))) = some (r1, r2) := h
 clear h
 replace H := Option.bind_eq_some_iff.mp H
 obtain ⟨t165, A20, H⟩ := H
 replace H : (some (a0, t165)) = some (r1, r2) := H
 have A2 := aK_ A20
 clear A20
 simp only [Option.some.injEq, Prod.mk.injEq] at H
 obtain ⟨rfl, rfl⟩ := H
 go_enter Try.func104, Try.ntmps104
 go_wp2_with (first | ((with_reducible refine gate_dst (N := 2) rfl ?_); refine bE_ 2 #[.string (⟨#[]⟩ : BA), .string (⟨#[]⟩ : BA)] 29 ?_; intro gb164 hg w3 hbox hb; have BK164 := aK_ (hbox); have GW164 := aK_ (gE_ hg); replace HB := aK_ (wT bW_ hb); have GE164 := GW164; clear hb hbox hg) | ((with_reducible refine gate_callee (f := 80) rfl ?_); refine goesL_ (some 5) rfl rfl Try.func80 (by kernel_rfl) rfl #[.string a0] rfl mS_ ?_; (with_reducible refine (key_After.calls a0 t165 _ A2.out).mono ?_); rintro e w' ⟨rfl, ⟨nd, rfl⟩⟩; refine ⟨_, rfl, ?_⟩; (try (rw [drewN_self w3]; generalize hq_ : World.drewN w3 _ = w3; have n0_ : Aside0 (w3.heap[gb164]? = some (.cells #[.string (⟨#[]⟩ : BA), .string (⟨#[]⟩ : BA)] 29 (0, 0))) := ⟨by rw [← hq_]; exact (bX_ BK164.out)⟩; have n1_ : Aside0 (Below w.heap.size w w3) := ⟨by rw [← hq_]; exact (bS1_ GE164.out)⟩; clear BK164 HB hq_; have BK164 := n0_; have HB := n1_; clear n0_ n1_)); have hz4 := cq2_ BK164.out))
 refine bodyPost_ret (results_cell_row rfl _ _ gb164 29 #[.string a0, .string t165] (0, 0) _ rfl (by (with_reducible repeat (first | refine bN ?_ _ | refine bD ?_ | refine bA ?_ _)); refine bP (cs := #[.string a0, .string (⟨#[]⟩ : BA)]) ?_ 1 _ rfl; (with_reducible repeat (first | refine bN ?_ _ | refine bD ?_ | refine bA ?_ _)); refine bP (cs := #[.string (⟨#[]⟩ : BA), .string (⟨#[]⟩ : BA)]) ?_ 0 _ rfl; (with_reducible repeat (first | refine bN ?_ _ | refine bD ?_ | refine bA ?_ _)); exact BK164.out) Try.underlying29 rfl (by kernel_rfl)) rfl ?_
 exact ⟨eR_, bS1_ GE164.out⟩
def msg_Span.f (a0_0 a0_1 : Int) (a0_2 a0_3 a0_4 : BA) (a0_5 : Int) : Option (ByteArray × ByteArray) := (msg_IsPoint.f a0_0 a0_1 a0_2 a0_3 a0_4 a0_5).bind fun t168 => (if t168 = true then ((key_Point.f a0_2).bind fun bt169 => (some (bt169.1, bt169.2))) else (if a0_0 = 4 then (some (a0_2, a0_3)) else (some ((⟨#[]⟩ : BA), (⟨#[]⟩ : BA)))))
set_option maxHeartbeats 8000000 in
set_option maxRecDepth 100000 in
theorem msg_Span.calls (a0_0 a0_1 : Int) (a0_2 a0_3 a0_4 : BA) (a0_5 : Int) (r1 r2 : BA) (w : World) (h : msg_Span.f a0_0 a0_1 a0_2 a0_3 a0_4 a0_5 = some (r1, r2)) :
  Calls Try.prog 87 #[.agg #[.int .u8 a0_0, .int .i64 a0_1, .string a0_2, .string a0_3, .string a0_4, .int .u64 a0_5]] w fun e w' => e = .returned (.agg #[.string r1, .string r2]) ∧ Below w.heap.size w w' := by
 have hu117 := Try.underlying117
 have hu29 := Try.underlying29
 have HB := aK_ (Below.refl w.heap.size w)
 have H : ((msg_IsPoint.f a0_0 a0_1 a0_2 a0_3 a0_4 a0_5).bind fun t168 => (if t168 = true then ((key_Point.f a0_2).bind fun bt169 => (some (bt169.1, bt169.2))) else (if a0_0 = 4 then (some (a0_2, a0_3)) else (some ((⟨#[]⟩ : BA), (⟨#[]⟩ : BA)))))) = some (r1, r2) := h
 clear h
 replace H := Option.bind_eq_some_iff.mp H
 obtain ⟨t168, A20, H⟩ := H
 replace H : (if t168 = true then ((key_Point.f a0_2).bind fun bt169 => (some (bt169.1, bt169.2))) else (if a0_0 = 4 then (some (a0_2, a0_3)) else (some ((⟨#[]⟩ : BA), (⟨#[]⟩ : BA))))) = some (r1, r2) := H
 have A2 := aK_ A20
 clear A20
 by_cases c3 : t168 = true
 ·subst c3
  have H1 : ((key_Point.f a0_2).bind fun bt169 => (some (bt169.1, bt169.2))) = some (r1, r2) := by rw [if_pos rfl] at H; exact H
  clear H
  have H := H1
  clear H1
  replace H := Option.bind_eq_some_iff.mp H
  obtain ⟨⟨t169, t170⟩, A40, H⟩ := H
  replace H : (some (t169, t170)) = some (r1, r2) := H
  have A4 := aK_ A40
  clear A40
  simp only [Option.some.injEq, Prod.mk.injEq] at H
  obtain ⟨rfl, rfl⟩ := H
  go_enter Try.func87, Try.ntmps87
  go_wp2_with (first | ((with_reducible refine gate_dst (N := 1) rfl ?_); refine bE_ 1 #[.int .u8 a0_0, .int .i64 a0_1, .string a0_2, .string a0_3, .string a0_4, .int .u64 a0_5] 117 ?_; intro gb166 hg w5 hbox hb; have BK166 := aK_ (hbox); have GW166 := aK_ (gE_ hg); replace HB := aK_ (wT bW_ hb); have GE166 := GW166; clear hb hbox hg) | ((with_reducible refine gate_dst (N := 2) rfl ?_); refine bE_ 2 #[.string (⟨#[]⟩ : BA), .string (⟨#[]⟩ : BA)] 29 ?_; intro gb167 hg w6 hbox hb; have n0_ := aK_ (bB (bX_ BK166.out) hb); have n1_ := aK_ (wT (bS1_ GE166.out) hb); have n2_ := aK_ (hbox); have n3_ := aK_ ((by rw [hg]; exact (wZ (bS1_ GE166.out)) : w.heap.size ≤ gb167)); have n4_ := n3_; have n5_ := aK_ ((by rw [hg]; exact Nat.ne_of_lt (blk_lt (g := gb166) (o := .cells #[.int .u8 a0_0, .int .i64 a0_1, .string a0_2, .string a0_3, .string a0_4, .int .u64 a0_5] 117 (0, 0)) (bX_ BK166.out)) : gb166 ≠ gb167)); have n6_ := aK_ ((by rw [hg]; exact Nat.ne_of_gt (blk_lt (g := gb166) (o := .cells #[.int .u8 a0_0, .int .i64 a0_1, .string a0_2, .string a0_3, .string a0_4, .int .u64 a0_5] 117 (0, 0)) (bX_ BK166.out)) : gb167 ≠ gb166)); clear BK166; clear HB; have BK166 := n0_; have HB := n1_; have BK167 := n2_; have GW167 := n3_; have GE167 := n4_; have NB166_167 := n5_; have NB167_166 := n6_; clear n0_ n1_ n2_ n3_ n4_ n5_ n6_; clear hb hbox hg; have hnb7 := NB166_167.out; have hnc7 := NB167_166.out; have hz8 := cq6_ BK166.out) | ((with_reducible refine gate_callee (f := 103) rfl ?_); refine goesL_ (some 5) rfl rfl Try.func103 (by kernel_rfl) rfl #[.agg #[.int .u8 a0_0, .int .i64 a0_1, .string a0_2, .string a0_3, .string a0_4, .int .u64 a0_5]] rfl mS_ ?_; (with_reducible refine (msg_IsPoint.calls a0_0 a0_1 a0_2 a0_3 a0_4 a0_5 true _ A2.out).mono ?_); rintro e w9 ⟨rfl, hb⟩; refine ⟨_, rfl, ?_⟩; replace BK166 := aK_ (bB (bX_ BK166.out) hb); replace BK167 := aK_ (bB (bX_ BK167.out) hb); replace HB := aK_ (wT (bS2_ GE166.out GE167.out) hb); (try clear hb); (try clear hb2); (try clear hk); (try clear hi); have hz10 := cq6_ BK166.out) | ((with_reducible refine gate_callee (f := 104) rfl ?_); refine goesL_ (some 8) rfl rfl Try.func104 (by kernel_rfl) rfl #[.string a0_2] rfl mS_ ?_; (with_reducible refine (key_Point.calls a0_2 t169 t170 _ A4.out).mono ?_); rintro e w11 ⟨rfl, hb⟩; refine ⟨_, rfl, ?_⟩; replace BK166 := aK_ (bB (bX_ BK166.out) hb); replace BK167 := aK_ (bB (bX_ BK167.out) hb); replace HB := aK_ (wT (bS2_ GE166.out GE167.out) hb); (try clear hb); (try clear hb2); (try clear hk); (try clear hi); have hz12 := cq2_ BK167.out))
  refine bodyPost_ret (results_cell_row rfl _ _ gb167 29 #[.string t169, .string t170] (0, 0) _ rfl (by (with_reducible repeat (first | refine bN ?_ _ | refine bD ?_ | refine bA ?_ _)); refine bP (cs := #[.string t169, .string (⟨#[]⟩ : BA)]) ?_ 1 _ rfl; (with_reducible repeat (first | refine bN ?_ _ | refine bD ?_ | refine bA ?_ _)); refine bP (cs := #[.string (⟨#[]⟩ : BA), .string (⟨#[]⟩ : BA)]) ?_ 0 _ rfl; (with_reducible repeat (first | refine bN ?_ _ | refine bD ?_ | refine bA ?_ _)); exact BK167.out) Try.underlying29 rfl (by kernel_rfl)) rfl ?_
  exact ⟨eR_, bS2_ GE166.out GE167.out⟩
 replace c3 := Bool.eq_false_iff.mpr c3
 subst c3
 have H1 : (if a0_0 = 4 then (some (a0_2, a0_3)) else (some ((⟨#[]⟩ : BA), (⟨#[]⟩ : BA)))) = some (r1, r2) := by rw [if_neg (show ¬ (false = true) by decide)] at H; exact H
 clear H
 have H := H1
 clear H1
 by_cases c13 : a0_0 = 4
 ·rw [if_pos c13] at H
  have c13b0 := beq_iff_eq.mpr c13
  have c13b1 := bne_eq_false_iff_eq.mpr c13
  clear c13
  simp only [Option.some.injEq, Prod.mk.injEq] at H
  obtain ⟨rfl, rfl⟩ := H
  go_enter Try.func87, Try.ntmps87
  go_wp2_with (first | ((with_reducible refine gate_dst (N := 1) rfl ?_); refine bE_ 1 #[.int .u8 a0_0, .int .i64 a0_1, .string a0_2, .string a0_3, .string a0_4, .int .u64 a0_5] 117 ?_; intro gb166 hg w14 hbox hb; have BK166 := aK_ (hbox); have GW166 := aK_ (gE_ hg); replace HB := aK_ (wT bW_ hb); have GE166 := GW166; clear hb hbox hg) | ((with_reducible refine gate_dst (N := 2) rfl ?_); refine bE_ 2 #[.string (⟨#[]⟩ : BA), .string (⟨#[]⟩ : BA)] 29 ?_; intro gb167 hg w15 hbox hb; have n0_ := aK_ (bB (bX_ BK166.out) hb); have n1_ := aK_ (wT (bS1_ GE166.out) hb); have n2_ := aK_ (hbox); have n3_ := aK_ ((by rw [hg]; exact (wZ (bS1_ GE166.out)) : w.heap.size ≤ gb167)); have n4_ := n3_; have n5_ := aK_ ((by rw [hg]; exact Nat.ne_of_lt (blk_lt (g := gb166) (o := .cells #[.int .u8 a0_0, .int .i64 a0_1, .string a0_2, .string a0_3, .string a0_4, .int .u64 a0_5] 117 (0, 0)) (bX_ BK166.out)) : gb166 ≠ gb167)); have n6_ := aK_ ((by rw [hg]; exact Nat.ne_of_gt (blk_lt (g := gb166) (o := .cells #[.int .u8 a0_0, .int .i64 a0_1, .string a0_2, .string a0_3, .string a0_4, .int .u64 a0_5] 117 (0, 0)) (bX_ BK166.out)) : gb167 ≠ gb166)); clear BK166; clear HB; have BK166 := n0_; have HB := n1_; have BK167 := n2_; have GW167 := n3_; have GE167 := n4_; have NB166_167 := n5_; have NB167_166 := n6_; clear n0_ n1_ n2_ n3_ n4_ n5_ n6_; clear hb hbox hg; have hnb16 := NB166_167.out; have hnc16 := NB167_166.out; have hz17 := cq6_ BK166.out) | ((with_reducible refine gate_callee (f := 103) rfl ?_); refine goesL_ (some 5) rfl rfl Try.func103 (by kernel_rfl) rfl #[.agg #[.int .u8 a0_0, .int .i64 a0_1, .string a0_2, .string a0_3, .string a0_4, .int .u64 a0_5]] rfl mS_ ?_; (with_reducible refine (msg_IsPoint.calls a0_0 a0_1 a0_2 a0_3 a0_4 a0_5 false _ A2.out).mono ?_); rintro e w18 ⟨rfl, hb⟩; refine ⟨_, rfl, ?_⟩; replace BK166 := aK_ (bB (bX_ BK166.out) hb); replace BK167 := aK_ (bB (bX_ BK167.out) hb); replace HB := aK_ (wT (bS2_ GE166.out GE167.out) hb); (try clear hb); (try clear hb2); (try clear hk); (try clear hi); have hz19 := cq6_ BK166.out; have hz20 := cq2_ BK167.out))
  refine bodyPost_ret (results_cell_row rfl _ _ gb167 29 #[.string a0_2, .string a0_3] (0, 0) _ rfl (by (with_reducible repeat (first | refine bN ?_ _ | refine bD ?_ | refine bA ?_ _)); refine bP (cs := #[.string a0_2, .string (⟨#[]⟩ : BA)]) ?_ 1 _ rfl; (with_reducible repeat (first | refine bN ?_ _ | refine bD ?_ | refine bA ?_ _)); refine bP (cs := #[.string (⟨#[]⟩ : BA), .string (⟨#[]⟩ : BA)]) ?_ 0 _ rfl; (with_reducible repeat (first | refine bN ?_ _ | refine bD ?_ | refine bA ?_ _)); exact BK167.out) Try.underlying29 rfl (by kernel_rfl)) rfl ?_
  exact ⟨eR_, bS2_ GE166.out GE167.out⟩
 rw [if_neg c13] at H
 have c13b0 := beq_eq_false_iff_ne.mpr c13
 have c13b1 := bne_iff_ne.mpr c13
 simp only [Option.some.injEq, Prod.mk.injEq] at H
 obtain ⟨rfl, rfl⟩ := H
 go_enter Try.func87, Try.ntmps87
 go_wp2_with (first | ((with_reducible refine gate_dst (N := 1) rfl ?_); refine bE_ 1 #[.int .u8 a0_0, .int .i64 a0_1, .string a0_2, .string a0_3, .string a0_4, .int .u64 a0_5] 117 ?_; intro gb166 hg w21 hbox hb; have BK166 := aK_ (hbox); have GW166 := aK_ (gE_ hg); replace HB := aK_ (wT bW_ hb); have GE166 := GW166; clear hb hbox hg) | ((with_reducible refine gate_dst (N := 2) rfl ?_); refine bE_ 2 #[.string (⟨#[]⟩ : BA), .string (⟨#[]⟩ : BA)] 29 ?_; intro gb167 hg w22 hbox hb; have n0_ := aK_ (bB (bX_ BK166.out) hb); have n1_ := aK_ (wT (bS1_ GE166.out) hb); have n2_ := aK_ (hbox); have n3_ := aK_ ((by rw [hg]; exact (wZ (bS1_ GE166.out)) : w.heap.size ≤ gb167)); have n4_ := n3_; have n5_ := aK_ ((by rw [hg]; exact Nat.ne_of_lt (blk_lt (g := gb166) (o := .cells #[.int .u8 a0_0, .int .i64 a0_1, .string a0_2, .string a0_3, .string a0_4, .int .u64 a0_5] 117 (0, 0)) (bX_ BK166.out)) : gb166 ≠ gb167)); have n6_ := aK_ ((by rw [hg]; exact Nat.ne_of_gt (blk_lt (g := gb166) (o := .cells #[.int .u8 a0_0, .int .i64 a0_1, .string a0_2, .string a0_3, .string a0_4, .int .u64 a0_5] 117 (0, 0)) (bX_ BK166.out)) : gb167 ≠ gb166)); clear BK166; clear HB; have BK166 := n0_; have HB := n1_; have BK167 := n2_; have GW167 := n3_; have GE167 := n4_; have NB166_167 := n5_; have NB167_166 := n6_; clear n0_ n1_ n2_ n3_ n4_ n5_ n6_; clear hb hbox hg; have hnb23 := NB166_167.out; have hnc23 := NB167_166.out; have hz24 := cq6_ BK166.out) | ((with_reducible refine gate_callee (f := 103) rfl ?_); refine goesL_ (some 5) rfl rfl Try.func103 (by kernel_rfl) rfl #[.agg #[.int .u8 a0_0, .int .i64 a0_1, .string a0_2, .string a0_3, .string a0_4, .int .u64 a0_5]] rfl mS_ ?_; (with_reducible refine (msg_IsPoint.calls a0_0 a0_1 a0_2 a0_3 a0_4 a0_5 false _ A2.out).mono ?_); rintro e w25 ⟨rfl, hb⟩; refine ⟨_, rfl, ?_⟩; replace BK166 := aK_ (bB (bX_ BK166.out) hb); replace BK167 := aK_ (bB (bX_ BK167.out) hb); replace HB := aK_ (wT (bS2_ GE166.out GE167.out) hb); (try clear hb); (try clear hb2); (try clear hk); (try clear hi); have hz26 := cq6_ BK166.out; have hz27 := cq2_ BK167.out))
 refine bodyPost_ret (results_cell_row rfl _ _ gb167 29 #[.string (⟨#[]⟩ : BA), .string (⟨#[]⟩ : BA)] (0, 0) _ rfl (by (with_reducible repeat (first | refine bN ?_ _ | refine bD ?_ | refine bA ?_ _)); refine bP (cs := #[.string (⟨#[]⟩ : BA), .string (⟨#[]⟩ : BA)]) ?_ 1 _ rfl; (with_reducible repeat (first | refine bN ?_ _ | refine bD ?_ | refine bA ?_ _)); refine bP (cs := #[.string (⟨#[]⟩ : BA), .string (⟨#[]⟩ : BA)]) ?_ 0 _ rfl; (with_reducible repeat (first | refine bN ?_ _ | refine bD ?_ | refine bA ?_ _)); exact BK167.out) Try.underlying29 rfl (by kernel_rfl)) rfl ?_
 exact ⟨eR_, bS2_ GE166.out GE167.out⟩
def msg_bare.f (a0_0 a0_1 : Int) (a0_2 a0_3 a0_4 : BA) (a0_5 : Int) : Option (Int × Int × ByteArray × ByteArray × ByteArray × Int) := if a0_0 = 1 then (some (0, 0, (⟨#[]⟩ : BA), a0_3, (⟨#[]⟩ : BA), a0_5)) else (if a0_0 = 3 then (some (0, 0, (⟨#[]⟩ : BA), a0_3, a0_4, 0)) else (if a0_0 = 4 then (some (0, 0, (⟨#[]⟩ : BA), (⟨#[]⟩ : BA), a0_4, a0_5)) else (some (0, 0, (⟨#[]⟩ : BA), a0_3, a0_4, a0_5))))
set_option maxHeartbeats 8000000 in
set_option maxRecDepth 100000 in
theorem msg_bare.calls (a0_0 a0_1 : Int) (a0_2 a0_3 a0_4 : BA) (a0_5 r1 r2 : Int) (r3 r4 r5 : BA) (r6 : Int) (w : World) (h : msg_bare.f a0_0 a0_1 a0_2 a0_3 a0_4 a0_5 = some (r1, r2, r3, r4, r5, r6)) :
  Calls Try.prog 114 #[.agg #[.int .u8 a0_0, .int .i64 a0_1, .string a0_2, .string a0_3, .string a0_4, .int .u64 a0_5]] w fun e w' => e = .returned (.agg #[.int .u8 r1, .int .i64 r2, .string r3, .string r4, .string r5, .int .u64 r6]) ∧ Below w.heap.size w w' := by
 have hu := Try.underlying117
 have hA := aK_ h
 have E := aK_ (fun (o1 o2 : Obj) => show ((w.alloc o1).alloc o2).heap[w.heap.size + 1]? = some o2 from by have := blk_new (w.alloc o1) o2; rwa [World.size_alloc] at this)
 clear h
 go_enter Try.func114, Try.ntmps114
 go_wp2
 all_goals
  have h := hA.out
  clear hA hu
  refine bodyPost_ret (results_cell_row rfl _ _ (w.heap.size + 1) 117 _ (0, 0) _ rfl (E.out _ _) Try.underlying117 rfl (by kernel_rfl)) rfl ?_
  unfold msg_bare.f at h
  simp only [beq_iff_eq, Bool.not_eq_true, beq_eq_false_iff_ne, ne_eq, Bool.or_eq_true] at *
  simp only [*, if_true, if_false, Option.some.injEq, Prod.mk.injEq, Int.reduceEq, false_or, or_false, true_or, or_true] at h
  obtain ⟨rfl, rfl, rfl, rfl, rfl, rfl⟩ := h
  exact ⟨by first | rfl | (simp [*]; done), below_alloc (below_alloc (Below.refl _ _) _) _⟩
def key_Right.f (a0 : BA) (a1 : Int) : Option (Bool) := if (a0.size : Int) ≥ 1 then (some (decide ((a0.size : Int) ≤ a1))) else (some false)
set_option maxHeartbeats 8000000 in
set_option maxRecDepth 100000 in
theorem key_Right.calls (a0 : BA) (a1 : Int) (r : Bool) (w : World) (h : key_Right.f a0 a1 = some r) :
  Calls Try.prog 115 #[.string a0, .int .i64 a1] w fun e w' => e = .returned (.bool r) ∧ Drawn0 w w' := by
 have H : (if (a0.size : Int) ≥ 1 then (some (decide ((a0.size : Int) ≤ a1))) else (some false)) = some r := h
 clear h
 by_cases c3 : (a0.size : Int) ≥ 1
 ·rw [if_pos c3] at H
  have c3b0 : decide (1 ≤ (a0.size : Int)) = true := decide_eq_true c3
  have c3b1 : decide (1 ≤ a0.size) = true := decide_eq_true (by omega)
  clear c3
  obtain rfl := Option.some.inj H
  go_enter Try.func115, Try.ntmps115
  go_wp2
  go_ret
  exact ⟨rZ_, by repeat (first | exact Drawn0.refl _ | apply Drawn0.step)⟩
 rw [if_neg c3] at H
 have c3b0 : decide (1 ≤ (a0.size : Int)) = false := decide_eq_false c3
 have c3b1 : decide (1 ≤ a0.size) = false := decide_eq_false (by omega)
 clear c3
 obtain rfl := Option.some.inj H
 go_enter Try.func115, Try.ntmps115
 go_wp2
 go_ret
 exact ⟨rZ_, by repeat (first | exact Drawn0.refl _ | apply Drawn0.step)⟩
def word_Take.l0 : Nat → ByteArray → Int → Int → Int → Option (Int × Bool)
 | 0, _, _, _, _ => none
 | k + 1, x0, x4, x10, x11 => if x11 < x10 then (if 0 ≤ x11 then (if x11 < (x0.size : Int) then (word_Take.l0 k x0 (Go.bits .or .u64 (IntKind.u64.wrap (x4 * 256)) (IntKind.u64.wrap (bt x0 x11))) x10 (wrap64 (x11 + 1))) else (none)) else (none)) else (some (x4, true))
def word_Take.f (k : Nat) (a0 : BA) : Option (Int × Bool) := if (a0.size : Int) = 8 then (word_Take.l0 k a0 0 (a0.size : Int) 0) else (some (0, false))
set_option maxHeartbeats 8000000 in
set_option maxRecDepth 100000 in
theorem word_Take.calls (k : Nat) (a0 : BA) (r1 : Int) (r2 : Bool) (w : World) (h : word_Take.f k a0 = some (r1, r2)) :
  Calls Try.prog 119 #[.string a0] w fun e w' => e = .returned (.tuple #[.int .u64 r1, .bool r2]) ∧ Drawn0 w w' := by
 have H : (if (a0.size : Int) = 8 then (word_Take.l0 k a0 0 (a0.size : Int) 0) else (some (0, false))) = some (r1, r2) := h
 clear h
 by_cases c2 : (a0.size : Int) = 8
 ·rw [if_pos c2] at H
  have c2b0 := beq_iff_eq.mpr c2
  have c2b1 := bne_eq_false_iff_eq.mpr c2
  clear c2
  have H' := aK_ H; clear H
  go_enter Try.func119, Try.ntmps119
  go_wp2
  go_loopg [4, 11] k (fun kq v4 v11 w' => ∃ (x4_1 : Int) (x11_1 : Int), v4 = .int .u64 x4_1 ∧ v11 = .int .i64 x11_1 ∧ Aside0 (word_Take.l0 kq a0 x4_1 (a0.size : Int) x11_1 = some (r1, r2)) ∧ Aside0 (kq ≤ k) ∧ Drawn0 w w')
  case atStart => exact ⟨(0), (0), rZ_, rZ_, H', ⟨Nat.le_refl _⟩, by repeat (first | exact Drawn0.refl _ | apply Drawn0.step)⟩
  clear H'
  try clear c1
  try clear c2
  try clear c2b0
  try clear c2b1
  try clear p2
  obtain ⟨x4_1, x11_1, rfl, rfl, HA, HK1, ⟨m1, rfl⟩⟩ := hrel
  cases gk with
  | zero => exact absurd HA.out (by simp [word_Take.l0])
  | succ k1 => ?_
  have H := HA.out
  clear HA
  simp only [word_Take.l0] at H
  by_cases c3 : x11_1 < (a0.size : Int)
  ·rw [if_pos c3] at H
   have c3b0 := decide_eq_true c3
   clear c3
   by_cases c4 : 0 ≤ x11_1
   ·rw [if_pos c4] at H
    have c4b0 := decide_eq_true c4
    clear c4
    by_cases c5 : x11_1 < (a0.size : Int)
    ·rw [if_pos c5] at H
     have c5b0 := decide_eq_true c5
     clear c5
     have H' := aK_ H; clear H
     have p6 : 0 ≤ (x11_1 : Int) := pD_
     have q6 : x11_1 < (a0.size : Int) := pD_
     have hx6 := bt_at a0 x11_1
     replace p6 := eq_true p6
     replace q6 := eq_true q6
     go_wp2
     go_roundg k1
     case measure => have := HK1.out; omega
     case rel => exact ⟨(Go.bits .or .u64 (IntKind.u64.wrap (x4_1 * 256)) (IntKind.u64.wrap (bt a0 x11_1))), (wrap64 (x11_1 + 1)), rZ_, rZ_, H', ⟨by have := HK1.out; omega⟩, by repeat (first | exact Drawn0.refl _ | apply Drawn0.step)⟩
    rw [if_neg c5] at H
    exact absurd H (by simp)
   rw [if_neg c4] at H
   exact absurd H (by simp)
  rw [if_neg c3] at H
  have c3b0 := decide_eq_false c3
  clear c3
  simp only [Option.some.injEq, Prod.mk.injEq] at H
  obtain ⟨rfl, rfl⟩ := H
  go_wp2
  go_ret2
  exact ⟨rZ_, by repeat (first | exact Drawn0.refl _ | apply Drawn0.step)⟩
 rw [if_neg c2] at H
 have c2b0 := beq_eq_false_iff_ne.mpr c2
 have c2b1 := bne_iff_ne.mpr c2
 simp only [Option.some.injEq, Prod.mk.injEq] at H
 obtain ⟨rfl, rfl⟩ := H
 go_enter Try.func119, Try.ntmps119
 go_wp2
 go_ret2
 exact ⟨rZ_, by repeat (first | exact Drawn0.refl _ | apply Drawn0.step)⟩
def word_Put.f (a0 : Int) : Option (ByteArray) := some (strOfNums (Wp.eight a0))
theorem word_Put.calls (a0 : Int) (r : BA) (w : World) (h : word_Put.f a0 = some r) :
  Calls Try.prog 120 #[.int .u64 a0] w fun e w' => e = .returned (.string r) ∧ Below w.heap.size w w' := by
 obtain rfl := Option.some.inj h
 exact Wp.put_any a0 w
def word_Add.f (k : Nat) (a0 : BA) (a1 : Bool) (a2 : Int) : Option (ByteArray) := (word_Take.f k a0).bind fun bt208 => (if a1 = true then (if bt208.2 = true then ((word_Put.f (IntKind.u64.wrap (bt208.1 + a2))).bind fun t210 => (some t210)) else (some a0)) else ((word_Put.f a2).bind fun t211 => (some t211)))
set_option maxHeartbeats 8000000 in
set_option maxRecDepth 100000 in
theorem word_Add.calls (k : Nat) (a0 : BA) (a1 : Bool) (a2 : Int) (r : BA) (w : World) (h : word_Add.f k a0 a1 a2 = some r) :
  Calls Try.prog 106 #[.string a0, .bool a1, .int .u64 a2] w fun e w' => e = .returned (.string r) ∧ Below w.heap.size w w' := by
 have HB := aK_ (Below.refl w.heap.size w)
 have H : ((word_Take.f k a0).bind fun bt208 => (if a1 = true then (if bt208.2 = true then ((word_Put.f (IntKind.u64.wrap (bt208.1 + a2))).bind fun t210 => (some t210)) else (some a0)) else ((word_Put.f a2).bind fun t211 => (some t211)))) = some r := h
 clear h
 replace H := Option.bind_eq_some_iff.mp H
 obtain ⟨⟨t208, t209⟩, A40, H⟩ := H
 replace H : (if a1 = true then (if t209 = true then ((word_Put.f (IntKind.u64.wrap (t208 + a2))).bind fun t210 => (some t210)) else (some a0)) else ((word_Put.f a2).bind fun t211 => (some t211))) = some r := H
 have A4 := aK_ A40
 clear A40
 by_cases c5 : a1 = true
 ·subst c5
  have H1 : (if t209 = true then ((word_Put.f (IntKind.u64.wrap (t208 + a2))).bind fun t210 => (some t210)) else (some a0)) = some r := by rw [if_pos rfl] at H; exact H
  clear H
  have H := H1
  clear H1
  by_cases c6 : t209 = true
  ·subst c6
   have H1 : ((word_Put.f (IntKind.u64.wrap (t208 + a2))).bind fun t210 => (some t210)) = some r := by rw [if_pos rfl] at H; exact H
   clear H
   have H := H1
   clear H1
   replace H := Option.bind_eq_some_iff.mp H
   obtain ⟨t210, A70, H⟩ := H
   replace H : (some t210) = some r := H
   have A7 := aK_ A70
   clear A70
   obtain rfl := Option.some.inj H
   go_enter Try.func106, Try.ntmps106
   go_wp2_with (first | ((with_reducible refine gate_callee (f := 119) rfl ?_); refine goesL_ (some 11) rfl rfl Try.func119 (by kernel_rfl) rfl #[.string a0] rfl mS_ ?_; (with_reducible refine (word_Take.calls k a0 t208 true _ A4.out).mono ?_); rintro e w' ⟨rfl, ⟨nd, rfl⟩⟩; refine ⟨_, rfl, ?_⟩) | ((with_reducible refine gate_callee (f := 120) rfl ?_); refine goesL_ (some 24) rfl rfl Try.func120 (by kernel_rfl) rfl #[.int .u64 (IntKind.u64.wrap (t208 + a2))] rfl mS_ ?_; (with_reducible refine (word_Put.calls (IntKind.u64.wrap (t208 + a2)) t210 _ A7.out).mono ?_); rintro e w8 ⟨rfl, hb⟩; refine ⟨_, rfl, ?_⟩; replace HB := aK_ (wT bW_ hb); (try clear hb); (try clear hb2); (try clear hk); (try clear hi)))
   go_ret
   exact ⟨eR_, bW_⟩
  replace c6 := Bool.eq_false_iff.mpr c6
  subst c6
  have H1 : (some a0) = some r := by rw [if_neg (show ¬ (false = true) by decide)] at H; exact H
  clear H
  have H := H1
  clear H1
  obtain rfl := Option.some.inj H
  go_enter Try.func106, Try.ntmps106
  go_wp2_with (first | ((with_reducible refine gate_callee (f := 119) rfl ?_); refine goesL_ (some 11) rfl rfl Try.func119 (by kernel_rfl) rfl #[.string a0] rfl mS_ ?_; (with_reducible refine (word_Take.calls k a0 t208 false _ A4.out).mono ?_); rintro e w' ⟨rfl, ⟨nd, rfl⟩⟩; refine ⟨_, rfl, ?_⟩))
  go_ret
  exact ⟨eR_, bW_⟩
 replace c5 := Bool.eq_false_iff.mpr c5
 subst c5
 have H1 : ((word_Put.f a2).bind fun t211 => (some t211)) = some r := by rw [if_neg (show ¬ (false = true) by decide)] at H; exact H
 clear H
 have H := H1
 clear H1
 replace H := Option.bind_eq_some_iff.mp H
 obtain ⟨t211, A90, H⟩ := H
 replace H : (some t211) = some r := H
 have A9 := aK_ A90
 clear A90
 obtain rfl := Option.some.inj H
 go_enter Try.func106, Try.ntmps106
 go_wp2_with (first | ((with_reducible refine gate_callee (f := 119) rfl ?_); refine goesL_ (some 11) rfl rfl Try.func119 (by kernel_rfl) rfl #[.string a0] rfl mS_ ?_; (with_reducible refine (word_Take.calls k a0 t208 t209 _ A4.out).mono ?_); rintro e w' ⟨rfl, ⟨nd, rfl⟩⟩; refine ⟨_, rfl, ?_⟩) | ((with_reducible refine gate_callee (f := 120) rfl ?_); refine goesL_ (some 18) rfl rfl Try.func120 (by kernel_rfl) rfl #[.int .u64 a2] rfl mS_ ?_; (with_reducible refine (word_Put.calls a2 t211 _ A9.out).mono ?_); rintro e w10 ⟨rfl, hb⟩; refine ⟨_, rfl, ?_⟩; replace HB := aK_ (wT bW_ hb); (try clear hb); (try clear hb2); (try clear hk); (try clear hi)))
 go_ret
 exact ⟨eR_, bW_⟩
def msg_Apply.j0 : Nat → ByteArray → Bool → Bool → Option (ByteArray × Bool)
 | 0, _, _, _ => none
 | k + 1, x1, x2, x21 => if x21 = true then (some ((⟨#[]⟩ : BA), false)) else (if x2 = true then (some (x1, true)) else (some ((⟨#[]⟩ : BA), false)))
def msg_Apply.f (k : Nat) (a0_0 a0_1 : Int) (a0_2 a0_3 a0_4 : BA) (a0_5 : Int) (a1 : BA) (a2 : Bool) : Option (ByteArray × Bool) := if a0_0 = 1 then (some (a0_4, true)) else (if a0_0 = 3 then ((word_Add.f k a1 a2 a0_5).bind fun t213 => (some (t213, true))) else (if a0_0 = 2 then (msg_Apply.j0 k a1 a2 (a0_0 == 2)) else (msg_Apply.j0 k a1 a2 (a0_0 == 4))))
set_option maxHeartbeats 8000000 in
set_option maxRecDepth 100000 in
theorem msg_Apply.calls (k : Nat) (a0_0 a0_1 : Int) (a0_2 a0_3 a0_4 : BA) (a0_5 : Int) (a1 : BA) (a2 : Bool) (r1 : BA) (r2 : Bool) (w : World) (h : msg_Apply.f k a0_0 a0_1 a0_2 a0_3 a0_4 a0_5 a1 a2 = some (r1, r2)) :
  Calls Try.prog 89 #[.agg #[.int .u8 a0_0, .int .i64 a0_1, .string a0_2, .string a0_3, .string a0_4, .int .u64 a0_5], .string a1, .bool a2] w fun e w' => e = .returned (.tuple #[.string r1, .bool r2]) ∧ Below w.heap.size w w' := by
 have hu117 := Try.underlying117
 have HB := aK_ (Below.refl w.heap.size w)
 have H : (if a0_0 = 1 then (some (a0_4, true)) else (if a0_0 = 3 then ((word_Add.f k a1 a2 a0_5).bind fun t213 => (some (t213, true))) else (if a0_0 = 2 then (msg_Apply.j0 k a1 a2 (a0_0 == 2)) else (msg_Apply.j0 k a1 a2 (a0_0 == 4))))) = some (r1, r2) := h
 clear h
 by_cases c4 : a0_0 = 1
 ·rw [if_pos c4] at H
  have c4b0 := beq_iff_eq.mpr c4
  have c4b1 := bne_eq_false_iff_eq.mpr c4
  clear c4
  simp only [Option.some.injEq, Prod.mk.injEq] at H
  obtain ⟨rfl, rfl⟩ := H
  go_enter Try.func89, Try.ntmps89
  go_wp2_with (first | ((with_reducible refine gate_dst (N := 3) rfl ?_); refine bE_ 3 #[.int .u8 a0_0, .int .i64 a0_1, .string a0_2, .string a0_3, .string a0_4, .int .u64 a0_5] 117 ?_; intro gb212 hg w5 hbox hb; have BK212 := aK_ (hbox); have GW212 := aK_ (gE_ hg); replace HB := aK_ (wT bW_ hb); have GE212 := GW212; clear hb hbox hg; have hz6 := cq6_ BK212.out))
  go_ret2
  exact ⟨eR_, bS1_ GE212.out⟩
 rw [if_neg c4] at H
 have c4b0 := beq_eq_false_iff_ne.mpr c4
 have c4b1 := bne_iff_ne.mpr c4
 by_cases c7 : a0_0 = 3
 ·rw [if_pos c7] at H
  have c7b0 := beq_iff_eq.mpr c7
  have c7b1 := bne_eq_false_iff_eq.mpr c7
  clear c7
  replace H := Option.bind_eq_some_iff.mp H
  obtain ⟨t213, A80, H⟩ := H
  replace H : (some (t213, true)) = some (r1, r2) := H
  have A8 := aK_ A80
  clear A80
  simp only [Option.some.injEq, Prod.mk.injEq] at H
  obtain ⟨rfl, rfl⟩ := H
  go_enter Try.func89, Try.ntmps89
  go_wp2_with (first | ((with_reducible refine gate_dst (N := 3) rfl ?_); refine bE_ 3 #[.int .u8 a0_0, .int .i64 a0_1, .string a0_2, .string a0_3, .string a0_4, .int .u64 a0_5] 117 ?_; intro gb212 hg w9 hbox hb; have BK212 := aK_ (hbox); have GW212 := aK_ (gE_ hg); replace HB := aK_ (wT bW_ hb); have GE212 := GW212; clear hb hbox hg; have hz10 := cq6_ BK212.out) | ((with_reducible refine gate_callee (f := 106) rfl ?_); refine goesL_ (some 20) rfl rfl Try.func106 (by kernel_rfl) rfl #[.string a1, .bool a2, .int .u64 a0_5] rfl mS_ ?_; (with_reducible refine (word_Add.calls k a1 a2 a0_5 t213 _ A8.out).mono ?_); rintro e w11 ⟨rfl, hb⟩; refine ⟨_, rfl, ?_⟩; replace BK212 := aK_ (bB (bX_ BK212.out) hb); replace HB := aK_ (wT (bS1_ GE212.out) hb); (try clear hb); (try clear hb2); (try clear hk); (try clear hi)))
  go_ret2
  exact ⟨eR_, bS1_ GE212.out⟩
 rw [if_neg c7] at H
 have c7b0 := beq_eq_false_iff_ne.mpr c7
 have c7b1 := bne_iff_ne.mpr c7
 have HC12 := aK_ H
 clear H
 go_enter Try.func89, Try.ntmps89
 go_upto_if 21 with (first | ((with_reducible refine gate_dst (N := 3) rfl ?_); refine bE_ 3 #[.int .u8 a0_0, .int .i64 a0_1, .string a0_2, .string a0_3, .string a0_4, .int .u64 a0_5] 117 ?_; intro gb212 hg w13 hbox hb; have BK212 := aK_ (hbox); have GW212 := aK_ (gE_ hg); replace HB := aK_ (wT bW_ hb); have GE212 := GW212; clear hb hbox hg; have hz14 := cq6_ BK212.out))
 (try simp only [Act.put, sA1, sA2, sA3])
 go_cut [21] (fun v21 wc => ∃ (kq : Nat) (x21_11 : Bool), v21 = .bool x21_11 ∧ Aside0 (msg_Apply.j0 kq a1 a2 x21_11 = some (r1, r2)) ∧ Aside0 (kq ≤ k) ∧ Aside0 (wc.heap[gb212]? = some (.cells #[.int .u8 a0_0, .int .i64 a0_1, .string a0_2, .string a0_3, .string a0_4, .int .u64 a0_5] 117 (0, 0))) ∧ Aside0 (Below w.heap.size w wc))
 case first =>
  have H := HC12.out
  clear HC12
  by_cases c15 : a0_0 = 2
  ·rw [if_pos c15] at H
   have c15b0 := beq_iff_eq.mpr c15
   have c15b1 := bne_eq_false_iff_eq.mpr c15
   clear c15
   (first | rw [c15b0] | (simp only [i64_w, i32_w]; rw [c15b0]) | skip)
   have H' := aK_ H; clear H
   go_wp2
   go_meet
   case rel => exact ⟨_, ((a0_0 == 2)), rZ_, H', ⟨oM_⟩, ⟨bX_ BK212.out⟩, ⟨bS1_ GE212.out⟩⟩
  rw [if_neg c15] at H
  have c15b0 := beq_eq_false_iff_ne.mpr c15
  have c15b1 := bne_iff_ne.mpr c15
  (first | rw [c15b0] | (simp only [i64_w, i32_w]; rw [c15b0]) | skip)
  have H' := aK_ H; clear H
  go_wp2
  go_meet
  case rel => exact ⟨_, ((a0_0 == 4)), rZ_, H', ⟨oM_⟩, ⟨bX_ BK212.out⟩, ⟨bS1_ GE212.out⟩⟩
 clear HC12
 try clear c1
 try clear p2
 try clear c4
 try clear c4b0
 try clear c4b1
 try clear c7
 try clear c7b0
 try clear c7b1
 try clear c8
 try clear c10
 try clear c15
 try clear c15b0
 try clear c15b1
 try clear hz10
 try clear hz14
 try clear hz6
 try clear hz10
 try clear hz14
 try clear hz6
 obtain ⟨kq, x21_11, rfl, HA, HJ11, BK212, HB⟩ := hcut
 cases kq with
 | zero => exact absurd HA.out (by simp [msg_Apply.j0])
 | succ kj11 => ?_
 have H := HA.out
 clear HA
 simp only [msg_Apply.j0] at H
 by_cases c16 : x21_11 = true
 ·subst c16
  have H1 : (some ((⟨#[]⟩ : BA), false)) = some (r1, r2) := by rw [if_pos rfl] at H; exact H
  clear H
  have H := H1
  clear H1
  simp only [Option.some.injEq, Prod.mk.injEq] at H
  obtain ⟨rfl, rfl⟩ := H
  go_wp2
  go_ret2
  exact ⟨eR_, bS1_ GE212.out⟩
 replace c16 := Bool.eq_false_iff.mpr c16
 subst c16
 have H1 : (if a2 = true then (some (a1, true)) else (some ((⟨#[]⟩ : BA), false))) = some (r1, r2) := by rw [if_neg (show ¬ (false = true) by decide)] at H; exact H
 clear H
 have H := H1
 clear H1
 by_cases c17 : a2 = true
 ·subst c17
  have H1 : (some (a1, true)) = some (r1, r2) := by rw [if_pos rfl] at H; exact H
  clear H
  have H := H1
  clear H1
  simp only [Option.some.injEq, Prod.mk.injEq] at H
  obtain ⟨rfl, rfl⟩ := H
  go_wp2
  go_ret2
  exact ⟨eR_, bS1_ GE212.out⟩
 replace c17 := Bool.eq_false_iff.mpr c17
 subst c17
 have H1 : (some ((⟨#[]⟩ : BA), false)) = some (r1, r2) := by rw [if_neg (show ¬ (false = true) by decide)] at H; exact H
 clear H
 have H := H1
 clear H1
 simp only [Option.some.injEq, Prod.mk.injEq] at H
 obtain ⟨rfl, rfl⟩ := H
 go_wp2
 go_ret2
 exact ⟨eR_, bS1_ GE212.out⟩
def room_Check.f (a0_0 a0_1 a0_2 a0_3 a0_4 a0_5 a0_6 a0_7 a0_8 : Int) : Option (Int) := (room_in.f a0_0 1 256).bind fun t215 => (if t215 = true then ((room_in.f a0_1 8 4096).bind fun t216 => (if t216 = true then ((room_in.f a0_2 4 64).bind fun t217 => (if t217 = true then ((room_in.f a0_3 0 1048576).bind fun t218 => (if t218 = true then ((room_in.f a0_4 4 256).bind fun t219 => (if t219 = true then ((room_in.f a0_5 2 a0_4).bind fun t220 => (if t220 = true then ((room_in.f a0_6 2 4096).bind fun t221 => (if t221 = true then ((room_in.f a0_7 0 1000).bind fun t222 => (if t222 = true then ((room_in.f a0_8 1 1024).bind fun t223 => (if t223 = true then (some 0) else (some 2))) else (some 2))) else (some 2))) else (some 2))) else (some 2))) else (some 2))) else (some 2))) else (some 2))) else (some 2))
set_option maxHeartbeats 8000000 in
set_option maxRecDepth 100000 in
theorem room_Check.calls (a0_0 a0_1 a0_2 a0_3 a0_4 a0_5 a0_6 a0_7 a0_8 r : Int) (w : World) (h : room_Check.f a0_0 a0_1 a0_2 a0_3 a0_4 a0_5 a0_6 a0_7 a0_8 = some r) :
  Calls Try.prog 67 #[.agg #[.int .i64 a0_0, .int .i64 a0_1, .int .i64 a0_2, .int .i64 a0_3, .int .i64 a0_4, .int .i64 a0_5, .int .i64 a0_6, .int .i64 a0_7, .int .i64 a0_8]] w fun e w' => e = .returned (.int .i64 r) ∧ Below w.heap.size w w' := by
 have hu := Try.underlying47
 have IN : ∀ n a b W, Calls Try.prog 84 #[.int .i64 n, .int .i64 a, .int .i64 b] W fun e w' => e = .returned (.bool (decide (n ≥ a) && decide (n ≤ b))) ∧ Drawn0 W w' := fun n a b W => room_in.calls n a b (decide (n ≥ a) && decide (n ≤ b)) W (by unfold room_in.f; by_cases q : n ≥ a <;> simp [q])
 have key : room_Check.f a0_0 a0_1 a0_2 a0_3 a0_4 a0_5 a0_6 a0_7 a0_8 = some (if (1 ≤ a0_0 ∧ a0_0 ≤ 256) ∧ (8 ≤ a0_1 ∧ a0_1 ≤ 4096) ∧ (4 ≤ a0_2 ∧ a0_2 ≤ 64) ∧ (0 ≤ a0_3 ∧ a0_3 ≤ 1048576) ∧ (4 ≤ a0_4 ∧ a0_4 ≤ 256) ∧ (2 ≤ a0_5 ∧ a0_5 ≤ a0_4) ∧ (2 ≤ a0_6 ∧ a0_6 ≤ 4096) ∧ (0 ≤ a0_7 ∧ a0_7 ≤ 1000) ∧ (1 ≤ a0_8 ∧ a0_8 ≤ 1024) then 0 else 2) := by
  have in_ : ∀ n a b, room_in.f n a b = some (decide (a ≤ n ∧ n ≤ b)) := fun n a b => by unfold room_in.f; by_cases q : n ≥ a <;> simp [q] <;> omega
  unfold room_Check.f
  simp only [in_, Option.bind_some, decide_eq_true_eq]
  by_cases c0 : 1 ≤ a0_0 ∧ a0_0 ≤ 256
  rotate_left
  ·simp only [c0, and_self, if_true, if_false, and_false, false_and, Bool.false_eq_true]
  by_cases c1 : 8 ≤ a0_1 ∧ a0_1 ≤ 4096
  rotate_left
  ·simp only [c0, c1, and_self, if_true, if_false, and_false, false_and, Bool.false_eq_true]
  by_cases c2 : 4 ≤ a0_2 ∧ a0_2 ≤ 64
  rotate_left
  ·simp only [c0, c1, c2, and_self, if_true, if_false, and_false, false_and, Bool.false_eq_true]
  by_cases c3 : 0 ≤ a0_3 ∧ a0_3 ≤ 1048576
  rotate_left
  ·simp only [c0, c1, c2, c3, and_self, if_true, if_false, and_false, false_and, Bool.false_eq_true]
  by_cases c4 : 4 ≤ a0_4 ∧ a0_4 ≤ 256
  rotate_left
  ·simp only [c0, c1, c2, c3, c4, and_self, if_true, if_false, and_false, false_and, Bool.false_eq_true]
  by_cases c5 : 2 ≤ a0_5 ∧ a0_5 ≤ a0_4
  rotate_left
  ·simp only [c0, c1, c2, c3, c4, c5, and_self, if_true, if_false, and_false, false_and, Bool.false_eq_true]
  by_cases c6 : 2 ≤ a0_6 ∧ a0_6 ≤ 4096
  rotate_left
  ·simp only [c0, c1, c2, c3, c4, c5, c6, and_self, if_true, if_false, and_false, false_and, Bool.false_eq_true]
  by_cases c7 : 0 ≤ a0_7 ∧ a0_7 ≤ 1000
  rotate_left
  ·simp only [c0, c1, c2, c3, c4, c5, c6, c7, and_self, if_true, if_false, and_false, false_and, Bool.false_eq_true]
  by_cases c8 : 1 ≤ a0_8 ∧ a0_8 ≤ 1024
  rotate_left
  ·simp only [c0, c1, c2, c3, c4, c5, c6, c7, c8, and_self, if_true, if_false, and_false, false_and, Bool.false_eq_true]
  simp only [c0, c1, c2, c3, c4, c5, c6, c7, c8, and_self, if_true]
 have hr := Option.some.inj (key.symm.trans h)
 have hA := aK_ hr
 clear h key hr
 go_enter Try.func67, Try.ntmps67
 go_wp2_with (go_at_call 84; refine (IN _ _ _ _).mono ?_; rintro e w1 ⟨rfl, ⟨nd, rfl⟩⟩)
 all_goals
  go_ret
  simp only [Bool.not_eq_true', Bool.not_eq_false', decide_eq_false_iff_not, decide_eq_true_eq] at *
  refine ⟨?_, by repeat (first | exact below_alloc (Below.refl _ _) _ | refine pw_below_drewN ?_ _)⟩
  rw [← hA.out]
  first | (rw [if_pos (by omega)] <;> rfl) | (rw [if_neg (by omega)] <;> rfl)
end Go.Proofs.Ytljnlnbopohghaa.P
end
