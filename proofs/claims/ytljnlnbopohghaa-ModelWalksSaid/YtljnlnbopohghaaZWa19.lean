/- Texts of one claim (laid by shake.py). -/
import Derived.Test.YtljnlnbopohghaaZWa4
import Derived.Test.YtljnlnbopohghaaZWa12
import Derived.Test.YtljnlnbopohghaaZWa18
set_option linter.unusedVariables false
set_option linter.unusedSimpArgs false
section
namespace Go.Proofs.Ytljnlnbopohghaa.P
open Go.RowKit Go.Proofs.YtljnlnbopohghaaW.PrintWords Go.Proofs.YtljnlnbopohghaaW.PrintLast Go.Proofs.YtljnlnbopohghaaW.PrintMore Go.Proofs.Ytljnlnbopohghaa.Own
open Go.Proofs.YtljnlnbopohghaaW.PrintWords renaming blk_cell → bC, blk_frozen → bF, blk_drewN → bN, blk_alloc → bA, pw_below_drewN → wN, blk_drew → bD, below_drew1 → w1, below_set → wS, below_alloc → wA, blk_below → bB, below_step → wT, below_size → wZ, blk_far → bR, blk_put → bP
open List renaming setIfInBounds_toArray → sA1, set_cons_zero → sA2, set_cons_succ → sA3, map_toArray → mA1, map_cons → mA2, map_nil → mA3, length_take → mA4, length_drop → mA5
attribute [local go_sem] max2_str max2_int min2_int max_two min_two max_three min_three max_four min_four   -- for this text's walks alone
mutual
def room_Ask.j0 : Nat → Bool → Int → ByteArray → ByteArray → Int → List (S117) → Int → Int → Int → Int → Int → Int → Int → Int → Int → Option (Int)
 | 0, _, _, _, _, _, _, _, _, _, _, _, _, _, _, _ => none
 | k + 1, x33, x193000, x193001, x193002, x193003, x193004, x194000, x194001, x194002, x194003, x194004, x194005, x194006, x194007, x194008 => if x33 = true then (some 3) else (if x193000 = 1 then ((room_in.f (x193001.size : Int) 1 x194000).bind fun t203 => (if t203 = true then (some 0) else (some 6))) else (if x193000 = 2 then ((room_batch.f k x193004 x194000 x194001 x194002 x194003 x194004 x194005 x194006 x194007 x194008).bind fun t204 => (some t204)) else (if x193000 = 3 then (room_Ask.j1 k (x193000 == 3) x193000 x193001 x193002 x193003 x193004 x194000 x194001 x194002 x194003 x194004 x194005 x194006 x194007 x194008) else (room_Ask.j1 k (x193000 == 4) x193000 x193001 x193002 x193003 x193004 x194000 x194001 x194002 x194003 x194004 x194005 x194006 x194007 x194008))))
def room_Ask.j1 : Nat → Bool → Int → ByteArray → ByteArray → Int → List (S117) → Int → Int → Int → Int → Int → Int → Int → Int → Int → Option (Int)
 | 0, _, _, _, _, _, _, _, _, _, _, _, _, _, _, _ => none
 | k + 1, x51, x193000, x193001, x193002, x193003, x193004, x194000, x194001, x194002, x194003, x194004, x194005, x194006, x194007, x194008 => if x51 = true then (if (x193001.size : Int) > x194000 then (room_Ask.j2 k true x193000 x193001 x193002 x193003 x193004 x194000 x194001 x194002 x194003 x194004 x194005 x194006 x194007 x194008) else (room_Ask.j2 k (decide ((x193002.size : Int) > x194000)) x193000 x193001 x193002 x193003 x193004 x194000 x194001 x194002 x194003 x194004 x194005 x194006 x194007 x194008)) else (some 0)
def room_Ask.j2 : Nat → Bool → Int → ByteArray → ByteArray → Int → List (S117) → Int → Int → Int → Int → Int → Int → Int → Int → Int → Option (Int)
 | 0, _, _, _, _, _, _, _, _, _, _, _, _, _, _, _ => none
 | k + 1, x54, x193000, x193001, x193002, x193003, x193004, x194000, x194001, x194002, x194003, x194004, x194005, x194006, x194007, x194008 => if x54 = true then (some 6) else (if x193002.toList = ([] : List UInt8) then (room_Ask.j3 k false x193000 x193001 x193002 x193003 x193004 x194000 x194001 x194002 x194003 x194004 x194005 x194006 x194007 x194008) else (room_Ask.j3 k (!(Op.bytesLess x193001.toList x193002.toList)) x193000 x193001 x193002 x193003 x193004 x194000 x194001 x194002 x194003 x194004 x194005 x194006 x194007 x194008))
def room_Ask.j3 : Nat → Bool → Int → ByteArray → ByteArray → Int → List (S117) → Int → Int → Int → Int → Int → Int → Int → Int → Int → Option (Int)
 | 0, _, _, _, _, _, _, _, _, _, _, _, _, _, _, _ => none
 | k + 1, x69, x193000, x193001, x193002, x193003, x193004, x194000, x194001, x194002, x194003, x194004, x194005, x194006, x194007, x194008 => if x69 = true then (some 7) else (if x193000 = 3 then ((room_in.f x193003 1 x194008).bind fun t205 => (if t205 = true then (some 0) else (some 4))) else (some 0))
end
def room_Ask.f (k : Nat) (a0_0 : Int) (a0_1 a0_2 : BA) (a0_3 : Int) (l0_4 : List (S117)) (a1_0 a1_1 a1_2 a1_3 a1_4 a1_5 a1_6 a1_7 a1_8 : Int) : Option (Int) := (room_spare.f a0_0 a0_1 a0_2 a0_3 l0_4).bind fun bt194 => ((room_in.f (wrap64 (a0_0)) 1 6).bind fun t202 => (if t202 = true then (if bt194.2.1.toList = ([] : List UInt8) then (if bt194.2.2.1.toList = ([] : List UInt8) then (if bt194.2.2.2.1 = 0 then (room_Ask.j0 k (decide ((bt194.2.2.2.2.length : Int) > 0)) a0_0 a0_1 a0_2 a0_3 l0_4 a1_0 a1_1 a1_2 a1_3 a1_4 a1_5 a1_6 a1_7 a1_8) else (room_Ask.j0 k true a0_0 a0_1 a0_2 a0_3 l0_4 a1_0 a1_1 a1_2 a1_3 a1_4 a1_5 a1_6 a1_7 a1_8)) else (room_Ask.j0 k true a0_0 a0_1 a0_2 a0_3 l0_4 a1_0 a1_1 a1_2 a1_3 a1_4 a1_5 a1_6 a1_7 a1_8)) else (room_Ask.j0 k true a0_0 a0_1 a0_2 a0_3 l0_4 a1_0 a1_1 a1_2 a1_3 a1_4 a1_5 a1_6 a1_7 a1_8)) else (room_Ask.j0 k true a0_0 a0_1 a0_2 a0_3 l0_4 a1_0 a1_1 a1_2 a1_3 a1_4 a1_5 a1_6 a1_7 a1_8)))
set_option maxHeartbeats 8000000 in
set_option maxRecDepth 100000 in
theorem room_Ask.calls (k : Nat) (a0_0 : Int) (a0_1 a0_2 : BA) (a0_3 : Int) (A0_4 : Option Addr) (c0_4 : Nat) (l0_4 : List (S117)) (a1_0 a1_1 a1_2 a1_3 a1_4 a1_5 a1_6 a1_7 a1_8 r : Int) (w : World) (hr0_4 : Kd.C k117 w A0_4 l0_4.length l0_4) (hc0_4 : l0_4.length ≤ c0_4) (h : room_Ask.f k a0_0 a0_1 a0_2 a0_3 l0_4 a1_0 a1_1 a1_2 a1_3 a1_4 a1_5 a1_6 a1_7 a1_8 = some r) :
  Calls Try.prog 55 #[.agg #[.int .u8 a0_0, .string a0_1, .string a0_2, .int .i64 a0_3, .slice A0_4 l0_4.length c0_4], .agg #[.int .i64 a1_0, .int .i64 a1_1, .int .i64 a1_2, .int .i64 a1_3, .int .i64 a1_4, .int .i64 a1_5, .int .i64 a1_6, .int .i64 a1_7, .int .i64 a1_8]] w fun e w' => e = .returned (.int .i64 r) ∧ Below w.heap.size w w' := by
 have hu := Try.underlying56
 have hc := Try.underlying47
 have IN : ∀ n a b W, Calls Try.prog 84 #[.int .i64 n, .int .i64 a, .int .i64 b] W fun e w' => e = .returned (.bool (decide (n ≥ a) && decide (n ≤ b))) ∧ Drawn0 W w' := fun n a b W => room_in.calls n a b (decide (n ≥ a) && decide (n ≤ b)) W (by unfold room_in.f; by_cases q : n ≥ a <;> simp [q])
 obtain ⟨⟨r1, r2, r3, r4, r5⟩, hs⟩ : ∃ x, room_spare.f a0_0 a0_1 a0_2 a0_3 l0_4 = some x := Option.isSome_iff_exists.1 (by unfold room_spare.f; (repeat' split) <;> rfl)
 have B2 : Below w.heap.size w ((w.alloc (.cells #[.int .u8 a0_0, .string a0_1, .string a0_2, .int .i64 a0_3, .slice A0_4 l0_4.length c0_4] 56 (0, 0))).alloc (.cells #[.int .i64 a1_0, .int .i64 a1_1, .int .i64 a1_2, .int .i64 a1_3, .int .i64 a1_4, .int .i64 a1_5, .int .i64 a1_6, .int .i64 a1_7, .int .i64 a1_8] 47 (0, 0))) := below_alloc (below_alloc (Below.refl _ _) _) _
 have SQ : Calls Try.prog 83 #[.agg #[.int .u8 a0_0, .string a0_1, .string a0_2, .int .i64 a0_3, .slice A0_4 l0_4.length c0_4]] ((w.alloc (.cells #[.int .u8 a0_0, .string a0_1, .string a0_2, .int .i64 a0_3, .slice A0_4 l0_4.length c0_4] 56 (0, 0))).alloc (.cells #[.int .i64 a1_0, .int .i64 a1_1, .int .i64 a1_2, .int .i64 a1_3, .int .i64 a1_4, .int .i64 a1_5, .int .i64 a1_6, .int .i64 a1_7, .int .i64 a1_8] 47 (0, 0))) fun e W => ∃ A c, e = .returned (.agg #[.int .u8 r1, .string r2, .string r3, .int .i64 r4, .slice A r5.length c]) ∧ (∀ o : Obj, (W.alloc o).cell? ⟨w.heap.size, 0, none⟩ = some (.int .u8 a0_0) ∧ (W.alloc o).cell? ⟨w.heap.size, 1, none⟩ = some (.string a0_1) ∧ (W.alloc o).cell? ⟨w.heap.size, 2, none⟩ = some (.string a0_2) ∧ (W.alloc o).cell? ⟨w.heap.size, 3, none⟩ = some (.int .i64 a0_3) ∧ (W.alloc o).cell? ⟨w.heap.size, 4, none⟩ = some (.slice A0_4 l0_4.length c0_4) ∧ (W.alloc o).cell? ⟨w.heap.size + 1, 0, none⟩ = some (.int .i64 a1_0) ∧ (W.alloc o).cell? ⟨w.heap.size + 1, 1, none⟩ = some (.int .i64 a1_1) ∧ (W.alloc o).cell? ⟨w.heap.size + 1, 2, none⟩ = some (.int .i64 a1_2) ∧ (W.alloc o).cell? ⟨w.heap.size + 1, 3, none⟩ = some (.int .i64 a1_3) ∧ (W.alloc o).cell? ⟨w.heap.size + 1, 4, none⟩ = some (.int .i64 a1_4) ∧ (W.alloc o).cell? ⟨w.heap.size + 1, 5, none⟩ = some (.int .i64 a1_5) ∧ (W.alloc o).cell? ⟨w.heap.size + 1, 6, none⟩ = some (.int .i64 a1_6) ∧ (W.alloc o).cell? ⟨w.heap.size + 1, 7, none⟩ = some (.int .i64 a1_7) ∧ (W.alloc o).cell? ⟨w.heap.size + 1, 8, none⟩ = some (.int .i64 a1_8)) ∧ (w.heap.size ≠ W.heap.size ∧ w.heap.size + 1 ≠ W.heap.size) ∧ Aside0 (Below w.heap.size w W) := by
  refine (room_spare.calls a0_0 a0_1 a0_2 a0_3 (fun k_ => k_ < w.heap.size) _ _ l0_4 r1 r2 r3 r4 r5 _ (Kd.V_mk hc0_4 (Kd.F_below (Kd.C_F k117_heap hr0_4) B2)) hs).mono ?_
  rintro e W ⟨v, rfl, hv, hb⟩
  obtain ⟨A, c, rfl, _⟩ := hv
  refine ⟨A, c, rfl, fun o => ?_, (by have := hb.size; simp at this; omega), ⟨below_then B2 B2.size hb⟩⟩
  have h0 := blk_below (blk_alloc (blk_new w (.cells #[.int .u8 a0_0, .string a0_1, .string a0_2, .int .i64 a0_3, .slice A0_4 l0_4.length c0_4] 56 (0, 0))) (.cells #[.int .i64 a1_0, .int .i64 a1_1, .int .i64 a1_2, .int .i64 a1_3, .int .i64 a1_4, .int .i64 a1_5, .int .i64 a1_6, .int .i64 a1_7, .int .i64 a1_8] 47 (0, 0))) hb
  have h1 := blk_below (by have := blk_new (w.alloc (.cells #[.int .u8 a0_0, .string a0_1, .string a0_2, .int .i64 a0_3, .slice A0_4 l0_4.length c0_4] 56 (0, 0))) (.cells #[.int .i64 a1_0, .int .i64 a1_1, .int .i64 a1_2, .int .i64 a1_3, .int .i64 a1_4, .int .i64 a1_5, .int .i64 a1_6, .int .i64 a1_7, .int .i64 a1_8] 47 (0, 0)); rwa [World.size_alloc] at this) hb
  exact ⟨(blk_cell (blk_alloc h0 o) 0).trans rfl, (blk_cell (blk_alloc h0 o) 1).trans rfl, (blk_cell (blk_alloc h0 o) 2).trans rfl, (blk_cell (blk_alloc h0 o) 3).trans rfl, (blk_cell (blk_alloc h0 o) 4).trans rfl, (blk_cell (blk_alloc h1 o) 0).trans rfl, (blk_cell (blk_alloc h1 o) 1).trans rfl, (blk_cell (blk_alloc h1 o) 2).trans rfl, (blk_cell (blk_alloc h1 o) 3).trans rfl, (blk_cell (blk_alloc h1 o) 4).trans rfl, (blk_cell (blk_alloc h1 o) 5).trans rfl, (blk_cell (blk_alloc h1 o) 6).trans rfl, (blk_cell (blk_alloc h1 o) 7).trans rfl, (blk_cell (blk_alloc h1 o) 8).trans rfl⟩
 have BT : ∀ W k2 e2, Below w.heap.size w W → room_batch.f k2 l0_4 a1_0 a1_1 a1_2 a1_3 a1_4 a1_5 a1_6 a1_7 a1_8 = some e2 → Calls Try.prog 85 #[.slice A0_4 l0_4.length c0_4, .agg #[.int .i64 a1_0, .int .i64 a1_1, .int .i64 a1_2, .int .i64 a1_3, .int .i64 a1_4, .int .i64 a1_5, .int .i64 a1_6, .int .i64 a1_7, .int .i64 a1_8]] W fun e w' => e = .returned (.int .i64 e2) ∧ Below w.heap.size w w' := fun W k2 e2 hW hf =>
  (room_batch.calls k2 A0_4 c0_4 l0_4 a1_0 a1_1 a1_2 a1_3 a1_4 a1_5 a1_6 a1_7 a1_8 e2 W (Kd.C_below hr0_4 hW) hc0_4 hf).mono (fun _ _ q => ⟨q.1, below_then hW hW.size q.2⟩)
 have hA := aK_ (And.intro h hs)
 clear h hr0_4 hc0_4 hs B2
 go_enter Try.func55, Try.ntmps55
 go_wp2_with (first
  | (go_at_call 83; refine SQ.mono ?_; clear SQ; rintro e w1 ⟨A, c, rfl, hz, hne, hb1⟩)
  | (go_at_call 84; refine (IN _ _ _ _).mono ?_; rintro e w2 ⟨rfl, ⟨nd, rfl⟩⟩))
 all_goals obtain ⟨h, hs⟩ := hA.out
 all_goals have in_ : ∀ n a b, room_in.f n a b = some (decide (a ≤ n ∧ n ≤ b)) := fun n a b => by unfold room_in.f; by_cases q : n ≥ a <;> simp [q]
 all_goals clear hA IN
 all_goals try simp only [Bool.not_eq_true', Bool.not_eq_false', decide_eq_false_iff_not, decide_eq_true_eq, beq_iff_eq, beq_eq_false_iff_ne, Bool.or_eq_true, Bool.or_eq_false_iff, Bool.and_eq_true] at *
 all_goals first
  | (go_ret
     refine ⟨?_, by repeat (first | exact hb1.out | refine pw_below_drewN ?_ _ | refine below_alloc ?_ _)⟩
     clear hb1 hz hne BT hu hc
     refine congrArg Ending.returned (congrArg (Value.int .i64) ?_)
     rcases k with _ | _ | _ | _ | k <;> simp only [room_Ask.f, hs, Option.bind_some, in_, room_Ask.j0, room_Ask.j1, room_Ask.j2, room_Ask.j3] at h <;> grind)
  | (have hk : ∃ k2, room_batch.f k2 l0_4 a1_0 a1_1 a1_2 a1_3 a1_4 a1_5 a1_6 a1_7 a1_8 = some r := by
      rcases k with _ | k <;> simp only [room_Ask.f, hs, Option.bind_some, in_, room_Ask.j0] at h
      · grind
      · exact ⟨k, by grind⟩
     obtain ⟨k2, hk2⟩ := hk
     refine (BT _ k2 r (by repeat (first | exact hb1.out | refine pw_below_drewN ?_ _ | refine below_alloc ?_ _)) hk2).mono ?_
     rintro e w3 ⟨rfl, hb3⟩
     go_wp2
     go_ret
     exact ⟨rfl, hb3⟩)
end Go.Proofs.Ytljnlnbopohghaa.P
end
