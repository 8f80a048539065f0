/- Texts of one claim (laid by shake.py). -/
import Derived.Test.YtljnlnbopohghaaZCf7
import Derived.Test.YtljnlnbopohghaaZCf8
import Derived.Laws.BitsAllLaws
import Derived.Test.YtljnlnbopohghaaProg
import Derived.Test.YtljnlnbopohghaaZCf0
import Derived.LoopN
import Derived.Test.YtljnlnbopohghaaZCf5
import Derived.Test.YtljnlnbopohghaaZCf6
import Derived.RangeFuncBox
import Derived.Maps.OwnIn
import Derived.Deep.RegionHeld3
import Derived.Carry
import Derived.LoopTactic
set_option linter.unusedVariables false
set_option linter.unusedSimpArgs false
section
namespace Go.Proofs.Ytljnlnbopohghaa.P
open Go.RowKit Go.Proofs.YtljnlnbopohghaaW.PrintWords Go.Proofs.YtljnlnbopohghaaW.PrintLast Go.Proofs.YtljnlnbopohghaaW.PrintMore Go.Proofs.Ytljnlnbopohghaa.Own Go.Proofs.Ytljnlnbopohghaa
theorem ahead_eq (s t : ByteArray) : key_ahead.f s t = some (emp t || lt s t) := by
 unfold key_ahead.f emp lt
 by_cases h : t.toList = [] <;> simp [h]
end Go.Proofs.Ytljnlnbopohghaa.P
end
section
namespace Go.Proofs.Ytljnlnbopohghaa.Mdl
open Go.RowKit Go.Shelf Go.Proofs.YtljnlnbopohghaaW.PrintWords Go.Proofs.YtljnlnbopohghaaW.PrintLast Go.Proofs.YtljnlnbopohghaaW.PrintMore Go.Proofs.Ytljnlnbopohghaa.Own Go.Proofs.Ytljnlnbopohghaa.Ord Go.Proofs.Ytljnlnbopohghaa Go.Proofs.Ytljnlnbopohghaa.P
open Go.Proofs.Ytljnlnbopohghaa.OrdSm (Hold hold_from_iter from_in lin cell_two_new)
attribute [local go_sem] Oper.semAt_some
set_option maxHeartbeats 2000000
set_option maxRecDepth 100000
abbrev En := S103
structure Cf where (f0 f1 f2 f3 f4 f5 f6 f7 f8 : Int)
abbrev Row := List (ByteArray × ByteArray)
abbrev objM (c : Cf) (n : Int) (em cb : Nat) (sends : Int) : Obj := .cells #[.int .i64 c.f0, .int .i64 c.f1, .int .i64 c.f2, .int .i64 c.f3, .int .i64 c.f4, .int .i64 c.f5, .int .i64 c.f6, .int .i64 c.f7, .int .i64 c.f8, .int .i64 n, .pointer (some ⟨em, 0, none⟩), .map (some cb), .int .i64 sends] 122 (0, 0)
end Go.Proofs.Ytljnlnbopohghaa.Mdl
end
section
namespace Go.Proofs.Ytljnlnbopohghaa.Cur
open Go Go.RowKit Go.Maps Go.Proofs.YtljnlnbopohghaaW.PrintWords Go.Proofs.YtljnlnbopohghaaW.PrintLast Go.Proofs.YtljnlnbopohghaaW.PrintMore Go.Proofs.Ytljnlnbopohghaa.Own Go.Proofs.Ytljnlnbopohghaa.Ord Go.Proofs.Ytljnlnbopohghaa.P
set_option maxHeartbeats 2000000
set_option maxRecDepth 100000
structure Tb (w : World) (p b : Nat) (last : Int) (n : Nat) (F : Int → Option X) (c : Nat) : Prop where
 blk : w.heap[p]? = some (.cells #[.int .i64 last, .map (some b)] 88 (0, 0))
 map : TM w b n F c
theorem Tb.fr {w w' : World} {p b n c : Nat} {last : Int} {F : Int → Option X} (h : Tb w p b last n F c) {B : List Nat} (f : Fr B w w') (hp : p ∉ B) (hb : b ∉ B) : Tb w' p b last n F c :=
 ⟨f.blk h.blk hp, h.map.fr f hb⟩
theorem Tb.ne {w : World} {p b n c : Nat} {last : Int} {F : Int → Option X} (h : Tb w p b last n F c) : p ≠ b := by
 rintro rfl
 obtain ⟨D, ⟨es, clock, hb, _⟩, _⟩ := h.map
 rw [h.blk] at hb
 cases hb
theorem new_any (w : World) : Calls Try.prog 10 #[] w fun e w' => e = .returned (.pointer (some ⟨w.heap.size + 1, 0, none⟩)) ∧ Tb w' (w.heap.size + 1) w.heap.size 0 0 (fun _ => none) 0 ∧ Below w.heap.size w w' := by
 have hmm := @run_makeMap Try.prog
 have hu := Try.underlying86
 have hus := Try.underlying88
 go_enter Try.func10, Try.ntmps10
 go_wp2
 go_ret
 refine ⟨rfl, ⟨?_, (TM.made w).fr (B := []) (Fr.of_below ((Below.refl _ _).alloc (Nat.le_refl _) _)) (by simp)⟩, ((Below.refl _ w).alloc (Nat.le_refl _) _).alloc (by simp) _⟩
 have := blk_new (w.alloc (.map #[] 0)) (Obj.cells #[Value.int IntKind.i64 0, Value.map (some w.heap.size)] 88)
 rwa [World.size_alloc] at this
def rrB (f t : ByteArray) : Bool := if t.toList = [] then true else Op.bytesLess f.toList t.toList
theorem rr_eq (f t : ByteArray) : key_RightRange.f f t = some (rrB f t) := by
 unfold key_RightRange.f key_ahead.f rrB
 split <;> rfl
theorem wf_small {k : Int} (h0 : -1000000000 ≤ k) (h1 : k ≤ 1000000000) : (Lit.int .i64 k).wf = true := WalkArith.wf_i64 (by omega)
theorem open_yes {w : World} {p b n c : Nat} {last : Int} {F : Int → Option X} (h : Tb w p b last n F c) (h0 : 0 ≤ last) (h1 : last < 1000000) (hn : n < 1000000) (f t : ByteArray) (hr : rrB f t = true) {c' : Nat} (hcA : Aside (c' = (if (F (last + 1)).isSome then c else c + 1))) :
  Calls Try.prog 15 #[.pointer (some ⟨p, 0, none⟩), .agg #[.string f, .string t]] w fun e w' => e = .returned (.tuple #[.int .i64 (last + 1), .int .i64 0]) ∧ Tb w' p b (last + 1) (n + 1) (upd F (last + 1) (some (f, t, false))) c' ∧ Fr [p, b] w w' := by
 have hw1 : IntKind.i64.wrap (last + 1) = last + 1 := IntWalk.i64_in _ (by omega)
 have hu := Try.underlying86
 have hus := Try.underlying88
 have hur := Try.underlying29
 have hux := Try.underlying106
 have hl := blk_lt h.blk
 have hlb := h.map.lt
 have hne := h.ne
 go_enter Try.func15, Try.ntmps15
 have f0 : Fr [p, b] w (w.alloc (.cells #[.string f, .string t] 29)) := (Fr.refl _ _).alloc _
 go_wp2_with (go_at_call 46; refine (key_RightRange.calls f t true _ ((rr_eq f t).trans (by rw [hr]))).mono ?_; rintro e w1 ⟨rfl, hB1⟩; have f1 : Fr [p, b] w w1 := f0.trans (C := []) (Fr.of_below hB1) (by simp); have hT1 : Aside (Tb w1 p b last n F c) := ⟨blk_below (blk_alloc h.blk _) hB1, (h.map.fr (B := []) ((Fr.refl _ _).alloc _) (by simp)).fr (B := []) (Fr.of_below hB1) (by simp)⟩; have hbx := blk_below (blk_new w (.cells #[.string f, .string t] 29)) hB1; have c0 := blk_cell hT1.out.blk 0; have z0 := blk_frozen hT1.out.blk 0; simp at c0; clear hB1)
 have hT2 : Aside (Tb (w1.setCell ⟨p, 0, none⟩ (.int .i64 (last + 1))) p b (last + 1) n F c) := ⟨blk_set hT1.out.blk 0 _, hT1.out.map.fr (B := [p]) ((Fr.refl _ _).set (.inl (by simp)) _) (by simpa using fun e => hne e.symm)⟩
 have f2 : Fr [p, b] w (w1.setCell ⟨p, 0, none⟩ (.int .i64 (last + 1))) := f1.set (.inl (by simp)) _
 have hbx2 : (w1.setCell ⟨p, 0, none⟩ (.int .i64 (last + 1))).heap[w.heap.size]? = some (.cells #[.string f, .string t] 29 (0, 0)) := blk_far hbx (by simp; omega) _
 clear hT1 hbx c0 z0 f1 f0
 refine still_tail 10 (by kernel_rfl) (by kernel_rfl) (fun W hW => ?_)
 simp only [List.take_succ_cons, List.take_zero, List.drop_succ_cons, List.drop_zero]
 have hT3 : Aside (Tb W p b (last + 1) n F c) := by rw [hW]; exact hT2.out.fr (B := []) (Fr.refl _ _).drew (by simp) (by simp)
 have f3 : Fr [p, b] w W := by rw [hW]; exact f2.drew
 have hbx3 : W.heap[w.heap.size]? = some (.cells #[.string f, .string t] 29 (0, 0)) := by rw [hW]; exact hbx2
 clear hW hT2 f2 hbx2
 have c0 := blk_cell hT3.out.blk 0
 have c1 := blk_cell hT3.out.blk 1
 have b0 := blk_cell hbx3 0
 have b1 := blk_cell hbx3 1
 simp at c0 c1 b0 b1
 iterate 10 still_step
 refine wpStill_nil ?_
 have hT3' := hT3.out.map
 refine store W rfl _ _ _ rfl b n F c rfl hT3' hn (last + 1) rfl (wf_small (by omega) (by omega)) (f, t, false) rfl (fun w4 hT4 f4 => ?_)
 rw [← hcA.out] at hT4
 have hT5 : Aside (Tb w4 p b (last + 1) (n + 1) (upd F (last + 1) (some (f, t, false))) c') := ⟨f4.blk hT3.out.blk (by simpa using hne), hT4⟩
 have f5 : Fr [p, b] w w4 := f3.trans f4 (fun x hx => .inl (by simp at hx; simp [hx]))
 have c4 := blk_cell hT5.out.blk 0
 simp at c4
 clear hT3 hT3' hT4 c0 c1 b0 b1 f3 f4 hbx3
 go_wp2_with fail
 go_ret2
 exact ⟨rfl, hT5.out, f5⟩
theorem open_no {w : World} {p : Nat} (f t : ByteArray) (hr : rrB f t = false) :
  Calls Try.prog 15 #[.pointer (some ⟨p, 0, none⟩), .agg #[.string f, .string t]] w fun e w' => e = .returned (.tuple #[.int .i64 0, .int .i64 7]) ∧ Below w.heap.size w w' := by
 have hur := Try.underlying29
 go_enter Try.func15, Try.ntmps15
 have f0 : Below w.heap.size w (w.alloc (.cells #[.string f, .string t] 29)) := below_alloc (Below.refl _ _) _
 go_wp2_with (go_at_call 46; refine (key_RightRange.calls f t false _ ((rr_eq f t).trans (by rw [hr]))).mono ?_; rintro e w1 ⟨rfl, hB1⟩; have f1 := below_step f0 hB1; clear hB1)
 go_ret2
 exact ⟨rfl, f1⟩
theorem len_any {w : World} {p b n c : Nat} {last : Int} {F : Int → Option X} (h : Tb w p b last n F c) :
  Calls Try.prog 19 #[.pointer (some ⟨p, 0, none⟩)] w fun e w' => e = .returned (.int .i64 c) ∧ w' = w := by
 have hus := Try.underlying88
 have c1 := blk_cell h.blk 1
 simp at c1
 have hT := h.map
 clear h
 go_enter Try.func19, Try.ntmps19
 go_wp2_with (refine lenOf w rfl _ rfl b n F c rfl hT ?_)
 go_ret
 exact ⟨rfl, rfl⟩
theorem find_none {w : World} {p b n c : Nat} {last : Int} {F : Int → Option X} (h : Tb w p b last n F c) (k : Int) (hk : (Lit.int .i64 k).wf = true) (hF : F k = none) :
  Calls Try.prog 47 #[.pointer (some ⟨p, 0, none⟩), .int .i64 k] w fun e w' => e = .returned (.tuple #[.agg #[.string ⟨#[]⟩, .string ⟨#[]⟩, .bool false], .int .i64 11]) ∧ Below w.heap.size w w' := by
 have hus := Try.underlying88
 have hur := Try.underlying29
 have hux := Try.underlying106
 have hl := blk_lt h.blk
 go_enter Try.func47, Try.ntmps47
 have hT1 : Aside (Tb (w.alloc (.cells #[.string ⟨#[]⟩, .string ⟨#[]⟩, .bool false] 106)) p b last n F c) := h.fr (B := []) ((Fr.refl _ _).alloc _) (by simp) (by simp)
 have hB1 : Below w.heap.size w (w.alloc (.cells #[.string ⟨#[]⟩, .string ⟨#[]⟩, .bool false] 106)) := below_alloc (Below.refl _ _) _
 have hT1' := hT1.out.map
 have c1 := blk_cell hT1.out.blk 1
 simp at c1
 clear h
 have hA : Aside (F k = none) := hF
 clear hF
 go_wp2_with (refine look _ rfl _ _ rfl b n F c rfl hT1' k rfl hk ?_; rw [hA.out]; simp only [Option.getD_none, Option.isSome_none, Option.getD_some, Option.isSome_some, restV, x0, e0])
 refine bodyPost_ret (results_ct rfl _ _ w.heap.size 106 _ (0, 0) _ rfl (blk_alloc (blk_new _ _) _) hux rfl (by kernel_rfl)) rfl ?_
 exact ⟨rfl, below_alloc hB1 _⟩
theorem find_some {w : World} {p b n c : Nat} {last : Int} {F : Int → Option X} (h : Tb w p b last n F c) (k : Int) (hk : (Lit.int .i64 k).wf = true) (f t : ByteArray) (d : Bool) (hF : F k = some (f, t, d)) :
  Calls Try.prog 47 #[.pointer (some ⟨p, 0, none⟩), .int .i64 k] w fun e w' => e = .returned (.tuple #[.agg #[.string f, .string t, .bool d], .int .i64 0]) ∧ Below w.heap.size w w' := by
 have hus := Try.underlying88
 have hur := Try.underlying29
 have hux := Try.underlying106
 have hl := blk_lt h.blk
 go_enter Try.func47, Try.ntmps47
 have hT1 : Aside (Tb (w.alloc (.cells #[.string ⟨#[]⟩, .string ⟨#[]⟩, .bool false] 106)) p b last n F c) := h.fr (B := []) ((Fr.refl _ _).alloc _) (by simp) (by simp)
 have hB1 : Below w.heap.size w (w.alloc (.cells #[.string ⟨#[]⟩, .string ⟨#[]⟩, .bool false] 106)) := below_alloc (Below.refl _ _) _
 have hT1' := hT1.out.map
 have c1 := blk_cell hT1.out.blk 1
 simp at c1
 clear h
 have hA : Aside (F k = some (f, t, d)) := hF
 clear hF
 go_wp2_with (refine look _ rfl _ _ rfl b n F c rfl hT1' k rfl hk ?_; rw [hA.out]; simp only [Option.getD_none, Option.isSome_none, Option.getD_some, Option.isSome_some, restV, x0, e0])
 refine bodyPost_ret (results_ct rfl _ _ w.heap.size 106 #[.string f, .string t, .bool d] (0, 0) _ rfl ?_ hux rfl (by kernel_rfl)) rfl ?_
 ·exact blk_alloc (blk_new _ _) _
 exact ⟨rfl, below_alloc (below_alloc (Below.refl _ _) _) _⟩
theorem left_some {w : World} {p b n c : Nat} {last : Int} {F : Int → Option X} (h : Tb w p b last n F c) (k : Int) (hk : (Lit.int .i64 k).wf = true) (f t : ByteArray) (d : Bool) (hF : F k = some (f, t, d)) :
  Calls Try.prog 16 #[.pointer (some ⟨p, 0, none⟩), .int .i64 k] w fun e w' => e = .returned (.tuple #[.agg #[.string f, .string t], .bool d, .int .i64 0]) ∧ Below w.heap.size w w' := by
 have hur := Try.underlying29
 have hux := Try.underlying106
 have hT1 : Tb (w.alloc (.cells #[.string ⟨#[]⟩, .string ⟨#[]⟩] 29)) p b last n F c := h.fr (B := []) ((Fr.refl _ _).alloc _) (by simp) (by simp)
 have hB1 : Below w.heap.size w (w.alloc (.cells #[.string ⟨#[]⟩, .string ⟨#[]⟩] 29)) := below_alloc (Below.refl _ _) _
 have hfind := find_some hT1 k hk f t d hF
 clear h hT1
 go_enter Try.func16, Try.ntmps16
 go_wp2_with (go_at_call 47; refine hfind.mono ?_; clear hfind; rintro e w1 ⟨rfl, hB2⟩; have hb1 := blk_below (blk_new w (.cells #[.string ⟨#[]⟩, .string ⟨#[]⟩] 29)) hB2; have hB3 := below_step hB1 hB2; have hlt : w1.heap.size ≠ w.heap.size := (by have := hB2.size; simp at this; omega); clear hB1 hB2)
 have hb2 : (w1.alloc (.cells #[.string f, .string t, .bool d] 106)).heap[w.heap.size]? = some (.cells #[.string ⟨#[]⟩, .string ⟨#[]⟩] 29 (0, 0)) := blk_alloc hb1 _
 have hn2 := blk_new w1 (.cells #[.string f, .string t, .bool d] 106)
 have hB4 : Below w.heap.size w (w1.alloc (.cells #[.string f, .string t, .bool d] 106)) := below_alloc hB3 _
 clear hb1 hB3
 generalize w1.alloc (.cells #[.string f, .string t, .bool d] 106) = W at hb2 hn2 hB4 ⊢
 have c0 := blk_cell hn2 0
 have c1 := blk_cell hn2 1
 have c2 := blk_cell hn2 2
 have d0 := blk_cell hb2 0
 have d1 := blk_cell hb2 1
 have z0 := blk_frozen hb2 0
 have z1 := blk_frozen hb2 1
 simp at c0 c1 c2 d0 d1
 have hA1 := aK_ hb2
 have hA2 := aK_ hB4
 clear hb2 hn2 hB4
 have hne : w1.heap.size ≠ w.heap.size := hlt
 go_region_held3 (fun w' => w'.cell? ⟨w1.heap.size, 0, none⟩ = some (.string f) ∧ w'.cell? ⟨w1.heap.size, 1, none⟩ = some (.string t) ∧ w'.cell? ⟨w1.heap.size, 2, none⟩ = some (.bool d)) (first | assumption | exact ⟨c0, c1, c2⟩ | (simp [World.cell?_setCell_other, hne, hne.symm, c0, c1, c2]; done)) (fail)
 go_wp2_with fail
 refine bodyPost_ret (results_ctt rfl _ _ w.heap.size 29 #[.string f, .string t] (0, 0) _ rfl ?_ hur rfl (by kernel_rfl)) rfl ?_
 ·exact blk_set (blk_set (blk_drew hA1.out) 0 _) 1 _
 exact ⟨rfl, below_set (below_set (below_drew1 hA2.out) (Nat.le_refl _)) (Nat.le_refl _)⟩
theorem close_none {w : World} {p b n c : Nat} {last : Int} {F : Int → Option X} (h : Tb w p b last n F c) (k : Int) (hk : (Lit.int .i64 k).wf = true) (hF : F k = none) :
  Calls Try.prog 18 #[.pointer (some ⟨p, 0, none⟩), .int .i64 k] w fun e w' => e = .returned (.int .i64 11) ∧ Below w.heap.size w w' := by
 have hux := Try.underlying106
 have hur := Try.underlying29
 have hfind := find_none h k hk hF
 clear h
 go_enter Try.func18, Try.ntmps18
 go_wp2_with (go_at_call 47; refine hfind.mono ?_; clear hfind; rintro e w1 ⟨rfl, hB2⟩)
 go_ret
 exact ⟨rfl, below_alloc hB2 _⟩
theorem close_some {w : World} {p b n c : Nat} {last : Int} {F : Int → Option X} (h : Tb w p b last n F c) (k : Int) (hk : (Lit.int .i64 k).wf = true) (f t : ByteArray) (d : Bool) (hF : F k = some (f, t, d)) :
  Calls Try.prog 18 #[.pointer (some ⟨p, 0, none⟩), .int .i64 k] w fun e w' => e = .returned (.int .i64 0) ∧ (∀ c', c' + 1 = c → Tb w' p b last n (upd F k none) c') ∧ Fr [b] w w' := by
 have hux := Try.underlying106
 have hur := Try.underlying29
 have hus := Try.underlying88
 have hne := h.ne
 have hfind := find_some h k hk f t d hF
 have hA := aK_ hF
 clear hF
 go_enter Try.func18, Try.ntmps18
 go_wp2_with (first
  | (go_at_call 47; refine hfind.mono ?_; clear hfind; rintro e w1 ⟨rfl, hB2⟩; have hT : Aside (Tb (w1.alloc (.cells #[.string f, .string t, .bool d] 106)) p b last n F c) := h.fr (B := []) (Fr.of_below (below_alloc hB2 _)) (by simp) (by simp); have f1 : Fr [b] w (w1.alloc (.cells #[.string f, .string t, .bool d] 106)) := Fr.of_below (below_alloc hB2 _); have hM := hT.out.map; have c1 := blk_cell hT.out.blk 1; simp at c1; clear h hB2)
  | (refine drop _ rfl _ _ rfl b n F c rfl hM k rfl hk (fun w4 hT4 f4 => ?_)))
 go_ret
 have h1 := hT4
 rw [hA.out] at h1
 simp only [Option.isSome_some, if_true] at h1
 exact ⟨rfl, fun c' hc => ⟨f4.blk hT.out.blk (by simpa using hne), h1 c' hc⟩, f1.trans f4 (fun x hx => .inl hx)⟩
abbrev En := P.S103
def ltB (a b : ByteArray) : Bool := Op.bytesLess a.toList b.toList
def holdsB (f t s : ByteArray) : Bool := !ltB s f && rrB s t
theorem ahead_eq (a b : ByteArray) : key_ahead.f a b = some (rrB a b) := by
 unfold key_ahead.f rrB
 split <;> rfl
theorem holds_any (f t s : ByteArray) (w : World) : Calls Try.prog 51 #[.agg #[.string f, .string t], .string s] w fun e w' => e = .returned (.bool (holdsB f t s)) ∧ Below w.heap.size w w' := by
 have hur := Try.underlying29
 obtain ⟨r, hr⟩ : ∃ r, r = holdsB f t s := ⟨_, rfl⟩
 rw [← hr]
 obtain ⟨q, hq⟩ : ∃ q, q = rrB s t := ⟨_, rfl⟩
 unfold holdsB ltB at hr
 rw [← hq] at hr
 have ha : key_ahead.f s t = some q := by rw [hq]; exact ahead_eq s t
 have hB0 : Below w.heap.size w (w.alloc (.cells #[.string f, .string t] 29)) := below_alloc (Below.refl _ _) _
 clear hq
 cases hl : Op.bytesLess s.toList f.toList
 ·rw [hl] at hr
  simp at hr
  subst hr
  go_enter Try.func51, Try.ntmps51
  go_wp2_with (go_at_call 78; refine (key_ahead.calls s t r _ ha).mono ?_; rintro e w1 ⟨rfl, hB1'⟩; have hB1 := hB1'.below; clear hB1')
  go_ret
  exact ⟨by simp, below_step hB0 hB1⟩
 rw [hl] at hr
 simp at hr
 subst hr
 go_enter Try.func51, Try.ntmps51
 go_wp2
 go_ret
 exact ⟨rfl, hB0⟩
theorem closure_any {w : World} {B : Nat} {f t : ByteArray} {d : Bool} (hx : w.heap[B]? = some (.cells #[.string f, .string t, .bool d] 106 (0, 0))) (s v : ByteArray) :
  Calls Try.prog 50 #[.agg #[.string s, .string v], .pointer (some ⟨B, 0, none⟩)] w fun e w' => e = .returned (.bool !holdsB f t s) ∧ Below w.heap.size w w' := by
 have hur := Try.underlying29
 have hux := Try.underlying106
 have hue := Try.underlying103
 obtain ⟨r, hr⟩ : ∃ r, r = holdsB f t s := ⟨_, rfl⟩
 have HH := fun W => holds_any f t s W
 rw [← hr] at HH
 rw [← hr]
 clear hr
 have hB0 : Below w.heap.size w (w.alloc (.cells #[.string s, .string v] 103)) := below_alloc (Below.refl _ _) _
 have hx1 : (w.alloc (.cells #[.string s, .string v] 103)).heap[B]? = _ := blk_alloc hx _
 have c0 := blk_cell hx1 0
 have c1 := blk_cell hx1 1
 simp at c0 c1
 go_enter Try.func50, Try.ntmps50
 go_wp2_with (go_at_call 51; refine (HH _).mono ?_; clear HH; rintro e w1 ⟨rfl, hB1⟩)
 go_ret
 exact ⟨rfl, below_step hB0 hB1⟩
theorem at_E {w : World} {A : Option Addr} {n : Nat} {xs : List En} (h : Kd.C P.k103 w A n xs) (i : Int) (h0 : 0 ≤ i) (h1 : i < n) : ∃ ad, ∃ x : En, A = some ad ∧ xs[i.toNat]? = some x ∧ w.cell? (ad.add (i.toNat * 2)) = some (.string x.f0) ∧
  w.cell? ⟨(ad.add (i.toNat * 2)).block, (ad.add (i.toNat * 2)).off + 1, none⟩ = some (.string x.f1) := by
 obtain ⟨ad, c, e, _, hK, hc0⟩ := Kd.C_get h P.z103 i h0 h1
 have hc : ∀ j u, c[j]? = some u → w.cell? (ad.add (i.toNat * 2 + j)) = some u := hc0
 obtain rfl := P.k103_open hK
 have hl := h.1
 refine ⟨ad, _, e, ?_, hc 0 _ rfl, by rw [← add_field _ _ 1 (by omega)]; exact hc 1 _ rfl⟩
 rw [List.getD_eq_getElem?_getD, List.getElem?_eq_getElem (by omega)]
 rfl
theorem index_any {w : World} {B : Nat} {f t : ByteArray} {d : Bool} (hx : w.heap[B]? = some (.cells #[.string f, .string t, .bool d] 106 (0, 0))) {A : Option Addr} {c : Nat} {l : List En} (hC : Kd.C P.k103 w A l.length l) (hcap : l.length ≤ c) :
  Calls Try.prog 79 #[.slice A l.length c, .func (.func 50) #[] #[.pointer (some ⟨B, 0, none⟩)]] w fun e w' => (∃ i : Int, e = .returned (.int .i64 i) ∧ (0 ≤ i) = (l.any (fun y => !holdsB f t y.f0) = true)) ∧ Below w.heap.size w w' := by
 have hmax := Kd.C_max hC
 have hue := Try.underlying103
 go_enter Try.func79, Try.ntmps79
 go_wp2
 go_loopg [8] l.length (fun g iv wr => ∃ j : Int, iv = .int .i64 j ∧ Aside (0 ≤ j ∧ j.toNat + g = l.length ∧ (l.take j.toNat).any (fun y => !holdsB f t y.f0) = false) ∧ Below w.heap.size w wr)
 case atStart => exact ⟨0, rfl, ⟨Int.le_refl _, by simp, by simp⟩, Below.refl _ _⟩
 obtain ⟨j, rfl, hj, hB⟩ := hrel
 obtain ⟨h0, hg, hno⟩ := hj.out
 have hnoA := aK_ hno
 clear hno hj
 cases gk with
 | zero =>
  have d0 : decide (j < (l.length : Int)) = false := decide_eq_false (by omega)
  go_wp2
  go_ret
  refine ⟨⟨-1, rfl, ?_⟩, hB⟩
  have := hnoA.out
  rw [show j.toNat = l.length by omega, List.take_length] at this
  rw [this]
  simp
 | succ g => ?_
 have hlt : j < (l.length : Int) := by omega
 have d0 := decide_eq_true hlt
 have d1 := decide_eq_true h0
 have p0 := eq_true h0
 have p1 := eq_true hlt
 obtain ⟨ad, x, rfl, hxj, q0, q1⟩ := at_E (Kd.C_below hC hB) j h0 hlt
 have hwi : wrap64 (j + 1) = j + 1 := IntWalk.wrap64_in _ (by omega)
 have CC := closure_any (blk_below hx hB) x.f0 x.f1
 have hsplit : (l.take (j + 1).toNat).any (fun y => !holdsB f t y.f0) = ((l.take j.toNat).any (fun y => !holdsB f t y.f0) || !holdsB f t x.f0) := by
  rw [show (j + 1).toNat = j.toNat + 1 by omega, List.take_add_one, hxj]
  simp
 cases hh : holdsB f t x.f0
 ·rw [hh] at CC
  have hall : l.any (fun y => !holdsB f t y.f0) = true := List.any_eq_true.2 ⟨x, List.mem_of_getElem? hxj, by rw [hh]; rfl⟩
  have hA := aK_ hall
  clear hh hsplit hxj hall hC hx
  go_wp2_with (go_at_call 50; refine CC.mono ?_; clear CC; rintro e w1 ⟨rfl, hB1⟩)
  go_ret
  exact ⟨⟨j, rfl, by rw [hA.out]; simp [h0]⟩, below_step hB hB1⟩
 rw [hh] at CC hsplit
 have hA := aK_ hsplit
 have hxA := aK_ hx
 have hCA := aK_ hC
 clear hh hsplit hxj hC hx
 go_wp2_with (go_at_call 50; refine CC.mono ?_; clear CC; rintro e w1 ⟨rfl, hB1⟩)
 go_roundg g
 case measure => omega
 case rel => exact ⟨j + 1, rfl, ⟨by omega, by omega, by rw [hA.out, hnoA.out]; rfl⟩, below_step hB hB1⟩
theorem contains_any {w : World} {B : Nat} {f t : ByteArray} {d : Bool} (hx : w.heap[B]? = some (.cells #[.string f, .string t, .bool d] 106 (0, 0))) {A : Option Addr} {c : Nat} {l : List En} (hC : Kd.C P.k103 w A l.length l) (hcap : l.length ≤ c) :
  Calls Try.prog 49 #[.slice A l.length c, .func (.func 50) #[] #[.pointer (some ⟨B, 0, none⟩)]] w fun e w' => e = .returned (.bool (l.any (fun y => !holdsB f t y.f0))) ∧ Below w.heap.size w w' := by
 have HI := index_any hx hC hcap
 clear hx hC
 generalize l.any (fun y => !holdsB f t y.f0) = r at HI ⊢
 go_enter Try.func49, Try.ntmps49
 go_wp2_with (go_at_call 79; refine HI.mono ?_; clear HI; rintro e w1 ⟨⟨i, rfl, hi⟩, hB1⟩; have hi2 := aK_ hi; clear hi)
 go_ret
 refine ⟨?_, hB1⟩
 have h3 := hi2.out
 cases r <;> simp_all
theorem took_none {w : World} {p b n c : Nat} {last : Int} {F : Int → Option X} (h : Tb w p b last n F c) (k : Int) (hk : (Lit.int .i64 k).wf = true) {A : Option Addr} {cl : Nat} {l : List En} (hC : Kd.C P.k103 w A l.length l) (hcap : l.length ≤ cl) (most : Int) (hF : F k = none) :
  Calls Try.prog 17 #[.pointer (some ⟨p, 0, none⟩), .int .i64 k, .slice A l.length cl, .int .i64 most] w fun e w' => e = .returned (.tuple #[.bool false, .int .i64 11]) ∧ Below w.heap.size w w' := by
 have hur := Try.underlying29
 have hux := Try.underlying106
 have hus := Try.underlying88
 have hue := Try.underlying103
 have hfind := find_none h k hk hF
 clear h hC
 go_enter Try.func17, Try.ntmps17
 go_wp2_with (go_at_call 47; refine hfind.mono ?_; clear hfind; rintro e w1 ⟨rfl, hB1⟩; have hBF := below_alloc hB1 (.cells #[.string ⟨#[]⟩, .string ⟨#[]⟩, .bool false] 106))
 go_ret2
 exact ⟨rfl, hBF⟩
theorem took_state {w : World} {p b n c : Nat} {last : Int} {F : Int → Option X} (h : Tb w p b last n F c) (k : Int) (hk : (Lit.int .i64 k).wf = true) {A : Option Addr} {cl : Nat} {l : List En} (hC : Kd.C P.k103 w A l.length l) (hcap : l.length ≤ cl) (most : Int) (f t : ByteArray) (hF : F k = some (f, t, true)) (h1 : 0 < l.length) :
  Calls Try.prog 17 #[.pointer (some ⟨p, 0, none⟩), .int .i64 k, .slice A l.length cl, .int .i64 most] w fun e w' => e = .returned (.tuple #[.bool false, .int .i64 15]) ∧ Below w.heap.size w w' := by
 have hur := Try.underlying29
 have hux := Try.underlying106
 have hus := Try.underlying88
 have hue := Try.underlying103
 have hfind := find_some h k hk f t true hF
 have d1 : decide ((0 : Int) < (l.length : Int)) = true := decide_eq_true (by omega)
 clear h hC
 go_enter Try.func17, Try.ntmps17
 go_wp2_with (go_at_call 47; refine hfind.mono ?_; clear hfind; rintro e w1 ⟨rfl, hB1⟩; have hBF := below_alloc hB1 (.cells #[.string f, .string t, .bool true] 106))
 go_ret2
 exact ⟨rfl, hBF⟩
theorem took_arg_true {w : World} {p b n c : Nat} {last : Int} {F : Int → Option X} (h : Tb w p b last n F c) (k : Int) (hk : (Lit.int .i64 k).wf = true) {A : Option Addr} {cl : Nat} (hC : Kd.C P.k103 w A ([] : List En).length []) (most : Int) (f t : ByteArray) (hF : F k = some (f, t, true)) (h2 : most < 1) :
  Calls Try.prog 17 #[.pointer (some ⟨p, 0, none⟩), .int .i64 k, .slice A 0 cl, .int .i64 most] w fun e w' => e = .returned (.tuple #[.bool false, .int .i64 2]) ∧ Below w.heap.size w w' := by
 have hur := Try.underlying29
 have hux := Try.underlying106
 have hus := Try.underlying88
 have hue := Try.underlying103
 have hfind := find_some h k hk f t true hF
 have d2 : decide (most < 1) = true := decide_eq_true h2
 clear h hC
 go_enter Try.func17, Try.ntmps17
 go_wp2_with (go_at_call 47; refine hfind.mono ?_; clear hfind; rintro e w1 ⟨rfl, hB1⟩; have hBF := below_alloc hB1 (.cells #[.string f, .string t, .bool true] 106))
 go_ret2
 exact ⟨rfl, hBF⟩
theorem took_arg_false {w : World} {p b n c : Nat} {last : Int} {F : Int → Option X} (h : Tb w p b last n F c) (k : Int) (hk : (Lit.int .i64 k).wf = true) {A : Option Addr} {cl : Nat} {l : List En} (hC : Kd.C P.k103 w A l.length l) (hcap : l.length ≤ cl) (most : Int) (f t : ByteArray) (hF : F k = some (f, t, false)) (h2 : most < 1) :
  Calls Try.prog 17 #[.pointer (some ⟨p, 0, none⟩), .int .i64 k, .slice A l.length cl, .int .i64 most] w fun e w' => e = .returned (.tuple #[.bool false, .int .i64 2]) ∧ Below w.heap.size w w' := by
 have hur := Try.underlying29
 have hux := Try.underlying106
 have hus := Try.underlying88
 have hue := Try.underlying103
 have hfind := find_some h k hk f t false hF
 have d2 : decide (most < 1) = true := decide_eq_true h2
 clear h hC
 go_enter Try.func17, Try.ntmps17
 go_wp2_with (go_at_call 47; refine hfind.mono ?_; clear hfind; rintro e w1 ⟨rfl, hB1⟩; have hBF := below_alloc hB1 (.cells #[.string f, .string t, .bool false] 106))
 go_ret2
 exact ⟨rfl, hBF⟩
theorem took_limit_false {w : World} {p b n c : Nat} {last : Int} {F : Int → Option X} (h : Tb w p b last n F c) (k : Int) (hk : (Lit.int .i64 k).wf = true) {A : Option Addr} {cl : Nat} {l : List En} (hC : Kd.C P.k103 w A l.length l) (hcap : l.length ≤ cl) (most : Int) (f t : ByteArray) (hF : F k = some (f, t, false)) (h2 : 1 ≤ most) (h3 : most < l.length) :
  Calls Try.prog 17 #[.pointer (some ⟨p, 0, none⟩), .int .i64 k, .slice A l.length cl, .int .i64 most] w fun e w' => e = .returned (.tuple #[.bool false, .int .i64 4]) ∧ Below w.heap.size w w' := by
 have hur := Try.underlying29
 have hux := Try.underlying106
 have hus := Try.underlying88
 have hue := Try.underlying103
 have hfind := find_some h k hk f t false hF
 have d2 : decide (most < 1) = false := decide_eq_false (by omega)
 have d3 : decide (most < (l.length : Int)) = true := decide_eq_true h3
 clear h hC
 go_enter Try.func17, Try.ntmps17
 go_wp2_with (go_at_call 47; refine hfind.mono ?_; clear hfind; rintro e w1 ⟨rfl, hB1⟩; have hBF := below_alloc hB1 (.cells #[.string f, .string t, .bool false] 106))
 go_ret2
 exact ⟨rfl, hBF⟩
theorem took_rise_false {w : World} {p b n c : Nat} {last : Int} {F : Int → Option X} (h : Tb w p b last n F c) (k : Int) (hk : (Lit.int .i64 k).wf = true) {A : Option Addr} {cl : Nat} {l : List En} (hC : Kd.C P.k103 w A l.length l) (hcap : l.length ≤ cl) (most : Int) (f t : ByteArray) (hF : F k = some (f, t, false)) (h2 : 1 ≤ most) (h3 : l.length ≤ most) (kr : Nat) (hri : fold_Rises.f kr l = some false) :
  Calls Try.prog 17 #[.pointer (some ⟨p, 0, none⟩), .int .i64 k, .slice A l.length cl, .int .i64 most] w fun e w' => e = .returned (.tuple #[.bool false, .int .i64 16]) ∧ Below w.heap.size w w' := by
 have hur := Try.underlying29
 have hux := Try.underlying106
 have hus := Try.underlying88
 have hue := Try.underlying103
 have hfind := find_some h k hk f t false hF
 have d2 : decide (most < 1) = false := decide_eq_false (by omega)
 have d3 : decide (most < (l.length : Int)) = false := decide_eq_false (by omega)
 clear h
 go_enter Try.func17, Try.ntmps17
 go_wp2_with (first
  | (go_at_call 47; refine hfind.mono ?_; clear hfind; rintro e w1 ⟨rfl, hB1⟩; have hBF := below_alloc hB1 (.cells #[.string f, .string t, .bool false] 106))
  | (go_at_call 48; refine (fold_Rises.calls kr A cl l false _ (Kd.C_below hC hBF) hcap hri).mono ?_; rintro e w2 ⟨rfl, hD⟩; have hx2 := blk_below (blk_new w1 (.cells #[.string f, .string t, .bool false] 106)) hD.below; have hB2 := below_step hBF hD.below; clear hBF hB1 hD; have hBF := hB2; clear hB2))
 go_ret2
 exact ⟨rfl, hBF⟩
theorem took_order_false {w : World} {p b n c : Nat} {last : Int} {F : Int → Option X} (h : Tb w p b last n F c) (k : Int) (hk : (Lit.int .i64 k).wf = true) {A : Option Addr} {cl : Nat} {l : List En} (hC : Kd.C P.k103 w A l.length l) (hcap : l.length ≤ cl) (most : Int) (f t : ByteArray) (hF : F k = some (f, t, false)) (h2 : 1 ≤ most) (h3 : l.length ≤ most) (kr : Nat) (hri : fold_Rises.f kr l = some true) (hany : Aside (l.any (fun y => !holdsB f t y.f0) = true)) :
  Calls Try.prog 17 #[.pointer (some ⟨p, 0, none⟩), .int .i64 k, .slice A l.length cl, .int .i64 most] w fun e w' => e = .returned (.tuple #[.bool false, .int .i64 16]) ∧ Below w.heap.size w w' := by
 have hur := Try.underlying29
 have hux := Try.underlying106
 have hus := Try.underlying88
 have hue := Try.underlying103
 have hfind := find_some h k hk f t false hF
 have d2 : decide (most < 1) = false := decide_eq_false (by omega)
 have d3 : decide (most < (l.length : Int)) = false := decide_eq_false (by omega)
 clear h
 go_enter Try.func17, Try.ntmps17
 go_wp2_with (first
  | (go_at_call 47; refine hfind.mono ?_; clear hfind; rintro e w1 ⟨rfl, hB1⟩; have hBF := below_alloc hB1 (.cells #[.string f, .string t, .bool false] 106))
  | (go_at_call 48; refine (fold_Rises.calls kr A cl l true _ (Kd.C_below hC hBF) hcap hri).mono ?_; rintro e w2 ⟨rfl, hD⟩; have hx2 := blk_below (blk_new w1 (.cells #[.string f, .string t, .bool false] 106)) hD.below; have hB2 := below_step hBF hD.below; clear hBF hB1 hD; have hBF := hB2; clear hB2)
  | (go_at_call 49; refine (contains_any hx2 (Kd.C_below hC hBF) hcap).mono ?_; rw [hany.out]; rintro e w3 ⟨rfl, hB3⟩; have hx3 := blk_below hx2 hB3; have hB4 := below_step hBF hB3; clear hBF hB3 hx2; have hBF := hB4; clear hB4))
 go_ret2
 exact ⟨rfl, hBF⟩
theorem took_end_true {w : World} {p b n c : Nat} {last : Int} {F : Int → Option X} (h : Tb w p b last n F c) (k : Int) (hk : (Lit.int .i64 k).wf = true) {A : Option Addr} {cl : Nat} (hC : Kd.C P.k103 w A ([] : List En).length []) (most : Int) (f t : ByteArray) (hF : F k = some (f, t, true)) (hn : n < 1000000) (h2 : 1 ≤ most) (kr : Nat) (hri : fold_Rises.f kr [] = some true) (hany : Aside (([] : List En).any (fun y => !holdsB f t y.f0) = false)) :
  Calls Try.prog 17 #[.pointer (some ⟨p, 0, none⟩), .int .i64 k, .slice A 0 cl, .int .i64 most] w fun e w' => e = .returned (.tuple #[.bool true, .int .i64 0]) ∧ Tb w' p b last (n + 1) (upd F k (some (e0, e0, true))) c ∧ Fr [b] w w' := by
 have hur := Try.underlying29
 have hux := Try.underlying106
 have hus := Try.underlying88
 have hue := Try.underlying103
 have hfind := find_some h k hk f t true hF
 have d2 : decide (most < 1) = false := decide_eq_false (by omega)
 have d3 : decide (most < 0) = false := decide_eq_false (by omega)
 have hcA : Aside (c = (if (F k).isSome then c else c + 1)) := by rw [hF]; exact rfl
 have hpb := h.ne
 have hlb := h.map.lt
 have hlp := blk_lt h.blk
 replace h := aK_ h
 clear hF
 go_enter Try.func17, Try.ntmps17
 go_wp2_with (first
  | (go_at_call 47; refine hfind.mono ?_; clear hfind; rintro e w1 ⟨rfl, hB1⟩; have hsz := hB1.size; have hBF := below_alloc hB1 (.cells #[.string f, .string t, .bool true] 106))
  | (go_at_call 48; refine (fold_Rises.calls kr A cl [] true _ (Kd.C_below hC hBF) (Nat.zero_le _) hri).mono ?_; rintro e w2 ⟨rfl, hD⟩; have hx2 := blk_below (blk_new w1 (.cells #[.string f, .string t, .bool true] 106)) hD.below; have hB2 := below_step hBF hD.below; clear hBF hB1 hD; have hBF := hB2; clear hB2)
  | (go_at_call 49; refine (contains_any hx2 (Kd.C_below hC hBF) (Nat.zero_le _)).mono ?_; rw [hany.out]; rintro e w3 ⟨rfl, hB3⟩; have hx3 := blk_below hx2 hB3; have hB4 := below_step hBF hB3; clear hBF hB3 hx2; have hBF := hB4; clear hB4; have c0 := blk_cell hx3 0; have c1 := blk_cell hx3 1; have c2 := blk_cell hx3 2; have z0 := blk_frozen hx3 0; have z1 := blk_frozen hx3 1; have z2 := blk_frozen hx3 2; simp at c0 c1 c2))
 have hx4 := blk_set (blk_set (blk_set hx3 0 (.string ⟨#[]⟩)) 1 (.string ⟨#[]⟩)) 2 (.bool true)
 have hw1 : w.heap.size ≤ w1.heap.size := hsz
 have hB4 := below_set (j := 2) (v := .bool true) (below_set (j := 1) (v := .string ⟨#[]⟩) (below_set (j := 0) (v := .string ⟨#[]⟩) hBF hw1) hw1) hw1
 have hwb : w1.heap.size ≠ b := by omega
 clear hx3 hBF c0 c1 c2 z0 z1 z2
 refine still_tail 6 (by kernel_rfl) (by kernel_rfl) (fun W hW => ?_)
 simp only [List.take_succ_cons, List.take_zero, List.drop_succ_cons, List.drop_zero]
 have hxW : W.heap[w1.heap.size]? = some (.cells #[.string ⟨#[]⟩, .string ⟨#[]⟩, .bool true] 106 (0, 0)) := by rw [hW]; exact blk_drew hx4
 have hBW : Below w.heap.size w W := by rw [hW]; exact below_drew1 hB4
 clear hW hx4 hB4
 have hTA : Aside (Tb W p b last n F c) := h.out.fr (B := []) (Fr.of_below hBW) (by simp) (by simp)
 have hMA := hTA.out.map
 have k1 := blk_cell hTA.out.blk 1
 have k2 := blk_cell hxW 0
 have k3 := blk_cell hxW 1
 have k4 := blk_cell hxW 2
 simp at k1 k2 k3 k4
 clear hC
 iterate 6 still_step
 refine wpStill_nil ?_
 refine store W rfl _ _ _ rfl b n F c rfl hMA hn k rfl hk (e0, e0, true) rfl (fun w5 hT5 f5 => ?_)
 rw [← hcA.out] at hT5
 have hx5 := f5.blk hxW (by simpa using fun e => hwb e)
 have k5 := blk_cell hx5 2
 simp at k5
 have hTF : Aside (Tb w5 p b last (n + 1) (upd F k (some (e0, e0, true))) c) := ⟨f5.blk hTA.out.blk (by simpa using hpb), hT5⟩
 have fF : Fr [b] w w5 := (Fr.of_below hBW).trans f5 (fun x hx => .inl hx)
 clear hTA hMA k1 k2 k3 k4 hT5 f5 hxW hx5 hBW
 go_wp2_with fail
 go_ret2
 exact ⟨rfl, hTF.out, fF⟩
theorem took_end_false {w : World} {p b n c : Nat} {last : Int} {F : Int → Option X} (h : Tb w p b last n F c) (k : Int) (hk : (Lit.int .i64 k).wf = true) {A : Option Addr} {cl : Nat} {l : List En} (hC : Kd.C P.k103 w A l.length l) (hcap : l.length ≤ cl) (most : Int) (f t : ByteArray) (hF : F k = some (f, t, false)) (hn : n < 1000000) (h2 : 1 ≤ most) (h3 : l.length < most) (kr : Nat) (hri : fold_Rises.f kr l = some true) (hany : Aside (l.any (fun y => !holdsB f t y.f0) = false)) :
  Calls Try.prog 17 #[.pointer (some ⟨p, 0, none⟩), .int .i64 k, .slice A l.length cl, .int .i64 most] w fun e w' => e = .returned (.tuple #[.bool true, .int .i64 0]) ∧ Tb w' p b last (n + 1) (upd F k (some (e0, e0, true))) c ∧ Fr [b] w w' := by
 have hur := Try.underlying29
 have hux := Try.underlying106
 have hus := Try.underlying88
 have hue := Try.underlying103
 have hfind := find_some h k hk f t false hF
 have d2 : decide (most < 1) = false := decide_eq_false (by omega)
 have d3 : decide (most < (l.length : Int)) = false := decide_eq_false (by omega)
 have d4 : decide ((l.length : Int) < most) = true := decide_eq_true h3
 have hcA : Aside (c = (if (F k).isSome then c else c + 1)) := by rw [hF]; exact rfl
 have hpb := h.ne
 have hlb := h.map.lt
 have hlp := blk_lt h.blk
 replace h := aK_ h
 clear hF
 go_enter Try.func17, Try.ntmps17
 go_wp2_with (first
  | (go_at_call 47; refine hfind.mono ?_; clear hfind; rintro e w1 ⟨rfl, hB1⟩; have hsz := hB1.size; have hBF := below_alloc hB1 (.cells #[.string f, .string t, .bool false] 106))
  | (go_at_call 48; refine (fold_Rises.calls kr A cl l true _ (Kd.C_below hC hBF) hcap hri).mono ?_; rintro e w2 ⟨rfl, hD⟩; have hx2 := blk_below (blk_new w1 (.cells #[.string f, .string t, .bool false] 106)) hD.below; have hB2 := below_step hBF hD.below; clear hBF hB1 hD; have hBF := hB2; clear hB2)
  | (go_at_call 49; refine (contains_any hx2 (Kd.C_below hC hBF) hcap).mono ?_; rw [hany.out]; rintro e w3 ⟨rfl, hB3⟩; have hx3 := blk_below hx2 hB3; have hB4 := below_step hBF hB3; clear hBF hB3 hx2; have hBF := hB4; clear hB4; have c0 := blk_cell hx3 0; have c1 := blk_cell hx3 1; have c2 := blk_cell hx3 2; have z0 := blk_frozen hx3 0; have z1 := blk_frozen hx3 1; have z2 := blk_frozen hx3 2; simp at c0 c1 c2))
 have hx4 := blk_set (blk_set (blk_set hx3 0 (.string ⟨#[]⟩)) 1 (.string ⟨#[]⟩)) 2 (.bool true)
 have hw1 : w.heap.size ≤ w1.heap.size := hsz
 have hB4 := below_set (j := 2) (v := .bool true) (below_set (j := 1) (v := .string ⟨#[]⟩) (below_set (j := 0) (v := .string ⟨#[]⟩) hBF hw1) hw1) hw1
 have hwb : w1.heap.size ≠ b := by omega
 clear hx3 hBF c0 c1 c2 z0 z1 z2
 refine still_tail 6 (by kernel_rfl) (by kernel_rfl) (fun W hW => ?_)
 simp only [List.take_succ_cons, List.take_zero, List.drop_succ_cons, List.drop_zero]
 have hxW : W.heap[w1.heap.size]? = some (.cells #[.string ⟨#[]⟩, .string ⟨#[]⟩, .bool true] 106 (0, 0)) := by rw [hW]; exact blk_drew hx4
 have hBW : Below w.heap.size w W := by rw [hW]; exact below_drew1 hB4
 clear hW hx4 hB4
 have hTA : Aside (Tb W p b last n F c) := h.out.fr (B := []) (Fr.of_below hBW) (by simp) (by simp)
 have hMA := hTA.out.map
 have k1 := blk_cell hTA.out.blk 1
 have k2 := blk_cell hxW 0
 have k3 := blk_cell hxW 1
 have k4 := blk_cell hxW 2
 simp at k1 k2 k3 k4
 clear hC
 iterate 6 still_step
 refine wpStill_nil ?_
 refine store W rfl _ _ _ rfl b n F c rfl hMA hn k rfl hk (e0, e0, true) rfl (fun w5 hT5 f5 => ?_)
 rw [← hcA.out] at hT5
 have hx5 := f5.blk hxW (by simpa using fun e => hwb e)
 have k5 := blk_cell hx5 2
 simp at k5
 have hTF : Aside (Tb w5 p b last (n + 1) (upd F k (some (e0, e0, true))) c) := ⟨f5.blk hTA.out.blk (by simpa using hpb), hT5⟩
 have fF : Fr [b] w w5 := (Fr.of_below hBW).trans f5 (fun x hx => .inl hx)
 clear hTA hMA k1 k2 k3 k4 hT5 f5 hxW hx5 hBW
 go_wp2_with fail
 go_ret2
 exact ⟨rfl, hTF.out, fF⟩
theorem took_more {w : World} {p b n c : Nat} {last : Int} {F : Int → Option X} (h : Tb w p b last n F c) (k : Int) (hk : (Lit.int .i64 k).wf = true) {A : Option Addr} {cl : Nat} {l : List En} (hC : Kd.C P.k103 w A l.length l) (hcap : l.length ≤ cl) (most : Int) (f t : ByteArray) (hF : F k = some (f, t, false)) (hn : n < 1000000) (h2 : 1 ≤ most) (h3 : most = l.length) (kr : Nat) (hri : fold_Rises.f kr l = some true) (hany : Aside (l.any (fun y => !holdsB f t y.f0) = false)) (x : En) (hlast : l[l.length - 1]? = some x) (r1 r2 : ByteArray) (r3 : Bool) (hbeh : cursor_behind.f f t x.f0 = some (r1, r2, r3)) :
  Calls Try.prog 17 #[.pointer (some ⟨p, 0, none⟩), .int .i64 k, .slice A l.length cl, .int .i64 most] w fun e w' => e = .returned (.tuple #[.bool r3, .int .i64 0]) ∧ Tb w' p b last (n + 1) (upd F k (some (r1, r2, r3))) c ∧ Fr [b] w w' := by
 have hur := Try.underlying29
 have hux := Try.underlying106
 have hus := Try.underlying88
 have hue := Try.underlying103
 have hfind := find_some h k hk f t false hF
 have d2 : decide (most < 1) = false := decide_eq_false (by omega)
 have d3 : decide (most < (l.length : Int)) = false := decide_eq_false (by omega)
 have d4 : decide ((l.length : Int) < most) = false := decide_eq_false (by omega)
 have hmax := Kd.C_max hC
 obtain ⟨i, hi⟩ : ∃ i : Int, i = (l.length : Int) - 1 := ⟨_, rfl⟩
 have hws : wrap64 ((l.length : Int) - 1) = i := by rw [hi]; exact IntWalk.wrap64_in _ (by omega)
 have hws2 : IntKind.i64.wrap ((l.length : Int) - 1) = i := by rw [hi]; exact IntWalk.i64_in _ (by omega)
 have i0 : 0 ≤ i := by omega
 have i1 : i < (l.length : Int) := by omega
 have hit : i.toNat = l.length - 1 := by omega
 have di0 := decide_eq_true i0
 have di1 := decide_eq_true i1
 have pi0 := eq_true i0
 have pi1 := eq_true i1
 rw [← hit] at hlast
 obtain ⟨ad, hAd⟩ : ∃ ad, A = some ad := by obtain ⟨ad, _, e, _⟩ := at_E hC i i0 i1; exact ⟨ad, e⟩
 subst hAd
 have hcA : Aside (c = (if (F k).isSome then c else c + 1)) := by rw [hF]; exact rfl
 have hpb := h.ne
 have hlb := h.map.lt
 have hlp := blk_lt h.blk
 replace h := aK_ h
 have h3A := aK_ h3
 have hiA := aK_ hi
 have hlastA := aK_ hlast
 clear hF h3 hi hit hlast i0 i1
 go_enter Try.func17, Try.ntmps17
 go_wp2_with (first
  | (go_at_call 47; refine hfind.mono ?_; clear hfind; rintro e w1 ⟨rfl, hB1⟩; have hsz := hB1.size; have hBF := below_alloc hB1 (.cells #[.string f, .string t, .bool false] 106))
  | (go_at_call 48; refine (fold_Rises.calls kr (some ad) cl l true _ (Kd.C_below hC hBF) hcap hri).mono ?_; rintro e w2 ⟨rfl, hD⟩; have hx2 := blk_below (blk_new w1 (.cells #[.string f, .string t, .bool false] 106)) hD.below; have hB2 := below_step hBF hD.below; clear hBF hB1 hD; have hBF := hB2; clear hB2)
  | (go_at_call 49; refine (contains_any hx2 (Kd.C_below hC hBF) hcap).mono ?_; rw [hany.out]; rintro e w3 ⟨rfl, hB3⟩; have hx3 := blk_below hx2 hB3; have hB4 := below_step hBF hB3; clear hBF hB3 hx2; have hBF := hB4; clear hB4; have c0 := blk_cell hx3 0; have c1 := blk_cell hx3 1; have c2 := blk_cell hx3 2; have z0 := blk_frozen hx3 0; have z1 := blk_frozen hx3 1; have z2 := blk_frozen hx3 2; simp at c0 c1 c2))
 clear c0 c1 c2 z0 z1 z2
 refine still_tail 9 (by kernel_rfl) (by kernel_rfl) (fun W hW => ?_)
 simp only [List.take_succ_cons, List.take_zero, List.drop_succ_cons, List.drop_zero]
 have hxW : W.heap[w1.heap.size]? = some (.cells #[.string f, .string t, .bool false] 106 (0, 0)) := by rw [hW]; exact blk_drew hx3
 have hBW : Below w.heap.size w W := by rw [hW]; exact below_drew1 hBF
 clear hW hx3 hBF
 have c0 := blk_cell hxW 0
 have c1 := blk_cell hxW 1
 simp at c0 c1
 obtain ⟨ad', x', e', hx', q0, q1⟩ := at_E (Kd.C_below hC hBW) i (by simpa using pi0) (by simpa using pi1)
 cases e'
 obtain rfl : x' = x := by rw [hlastA.out] at hx'; exact (Option.some.inj hx').symm
 clear hx'
 iterate 9 still_step
 refine wpStill_nil ?_
 go_wp2_with (go_at_call 52; refine (cursor_behind.calls f t x'.f0 r1 r2 r3 _ hbeh).mono ?_; rintro e w4 ⟨rfl, hB4⟩; have hx4 := blk_below hxW hB4; have hB5 := below_step hBW hB4; clear hxW hBW hB4 c0 c1 q0 q1; have c0 := blk_cell hx4 0; have c1 := blk_cell hx4 1; have c2 := blk_cell hx4 2; have z0 := blk_frozen hx4 0; have z1 := blk_frozen hx4 1; have z2 := blk_frozen hx4 2; simp at c0 c1 c2)
 have hw1 : w.heap.size ≤ w1.heap.size := hsz
 have hx5 := blk_set (blk_set (blk_set hx4 0 (.string r1)) 1 (.string r2)) 2 (.bool r3)
 have hB6 := below_set (j := 2) (v := .bool r3) (below_set (j := 1) (v := .string r2) (below_set (j := 0) (v := .string r1) hB5 hw1) hw1) hw1
 have hwb : w1.heap.size ≠ b := by omega
 clear hx4 hB5 c0 c1 c2 z0 z1 z2
 refine still_tail 6 (by kernel_rfl) (by kernel_rfl) (fun W hW => ?_)
 simp only [List.take_succ_cons, List.take_zero, List.drop_succ_cons, List.drop_zero]
 have hxW : W.heap[w1.heap.size]? = some (.cells #[.string r1, .string r2, .bool r3] 106 (0, 0)) := by rw [hW]; exact blk_drew hx5
 have hBW : Below w.heap.size w W := by rw [hW]; exact below_drew1 hB6
 clear hW hx5 hB6
 have hTA : Aside (Tb W p b last n F c) := h.out.fr (B := []) (Fr.of_below hBW) (by simp) (by simp)
 have hMA := hTA.out.map
 have k1 := blk_cell hTA.out.blk 1
 have k2 := blk_cell hxW 0
 have k3 := blk_cell hxW 1
 have k4 := blk_cell hxW 2
 simp at k1 k2 k3 k4
 clear hC
 iterate 6 still_step
 refine wpStill_nil ?_
 refine store W rfl _ _ _ rfl b n F c rfl hMA hn k rfl hk (r1, r2, r3) rfl (fun w5 hT5 f5 => ?_)
 rw [← hcA.out] at hT5
 have hx5 := f5.blk hxW (by simpa using fun e => hwb e)
 have k5 := blk_cell hx5 2
 simp at k5
 have hTF : Aside (Tb w5 p b last (n + 1) (upd F k (some (r1, r2, r3))) c) := ⟨f5.blk hTA.out.blk (by simpa using hpb), hT5⟩
 have fF : Fr [b] w w5 := (Fr.of_below hBW).trans f5 (fun x hx => .inl hx)
 clear hTA hMA k1 k2 k3 k4 hT5 f5 hxW hx5 hBW
 go_wp2_with fail
 go_ret2
 exact ⟨rfl, hTF.out, fF⟩
def incB : List En → Bool
  | [] => true
  | [_] => true
  | x :: y :: l => ltB x.f0 y.f0 && incB (y :: l)
theorem getD_at {L : List En} {i : Nat} {x : En} (h : L[i]? = some x) : rd_T103 L (i : Int) = x := by
  show L.getD ((i : Int).toNat) _ = x
  rw [Int.toNat_natCast, List.getD_eq_getElem?_getD, h]
  rfl
theorem drop_at {L l : List En} {i : Nat} {x : En} (hd : L.drop i = x :: l) : i < L.length ∧ L[i]? = some x ∧ L.drop (i + 1) = l := by
  have hlt : i < L.length := by
    rcases Nat.lt_or_ge i L.length with h | h
    · exact h
    · rw [List.drop_eq_nil_of_le h] at hd; cases hd
  refine ⟨hlt, ?_, ?_⟩
  · have := congrArg (fun z => z[0]?) hd
    simpa using this
  · have := congrArg (List.drop 1) hd
    simpa [List.drop_drop] using this
theorem rises_loop (L : List En) (hL : L.length ≤ 9223372036854775806) : ∀ (l : List En) (i k : Nat) (x : En), L.drop (i + 1) = l → L[i]? = some x → fold_Rises.l0 (k + 1 + l.length) L L.length ((i : Int) + 1) = some (incB (x :: l)) := by
  intro l
  induction l with
  | nil =>
    intro i k x hd hx
    have hlen : L.length ≤ i + 1 := by have := congrArg List.length hd; simp at this; omega
    rw [List.length_nil, Nat.add_zero, fold_Rises.l0, if_neg (by omega)]
    rfl
  | cons y l ih =>
    intro i k x hd hx
    obtain ⟨hlt, hy, hd2⟩ := drop_at hd
    rw [show k + 1 + (y :: l).length = (k + 1 + l.length) + 1 from by simp; omega, fold_Rises.l0]
    rw [if_pos (by omega), if_pos (by omega), IntWalk.wrap64_in ((i : Int) + 1 - 1) (by omega), if_pos (by omega), if_pos (by omega), if_pos (by omega), if_pos (by omega)]
    rw [show (i : Int) + 1 - 1 = (i : Int) by omega, getD_at hx, show (i : Int) + 1 = ((i + 1 : Nat) : Int) by omega, getD_at hy, IntWalk.wrap64_in _ (by omega)]
    rw [ih (i + 1) k y hd2 hy]
    show (if ltB x.f0 y.f0 = true then _ else _) = some (ltB x.f0 y.f0 && incB (y :: l))
    cases ltB x.f0 y.f0 <;> rfl
theorem fold_eq (k : Nat) (L : List En) (hL : L.length ≤ 9223372036854775806) : fold_Rises.f (k + 2 + L.length) L = some (incB L) := by
  unfold fold_Rises.f
  cases L with
  | nil =>
           rw [List.length_nil, Nat.add_zero, show k + 2 = (k + 1) + 1 from rfl, fold_Rises.l0, if_neg (by simp)]
           try rfl
  | cons x l =>
    rw [show k + 2 + (x :: l).length = (k + 1 + 1 + l.length) + 1 from by simp; omega, fold_Rises.l0, if_pos (by rw [List.length_cons]; omega), if_neg (by omega), IntWalk.wrap64_in _ (by omega)]
    exact rises_loop (x :: l) hL l 0 (k + 1) x rfl rfl
theorem ref_loop (L : List En) (hL : L.length ≤ 9223372036854775806) : ∀ (l : List En) (i k : Nat) (x : En), L.drop (i + 1) = l → L[i]? = some x → catchmentref05_Rises.l0 (k + 1 + l.length) L ((i : Int) + 1) = some (incB (x :: l)) := by
  intro l
  induction l with
  | nil =>
    intro i k x hd hx
    have hlen : L.length ≤ i + 1 := by have := congrArg List.length hd; simp at this; omega
    rw [List.length_nil, Nat.add_zero, catchmentref05_Rises.l0, if_neg (by omega)]
    rfl
  | cons y l ih =>
    intro i k x hd hx
    obtain ⟨hlt, hy, hd2⟩ := drop_at hd
    rw [show k + 1 + (y :: l).length = (k + 1 + l.length) + 1 from by simp; omega, catchmentref05_Rises.l0]
    rw [if_pos (by omega), IntWalk.wrap64_in ((i : Int) + 1 - 1) (by omega), if_pos (by omega), if_pos (by omega), if_pos (by omega)]
    rw [show (i : Int) + 1 - 1 = (i : Int) by omega, getD_at hx, show (i : Int) + 1 = ((i + 1 : Nat) : Int) by omega, getD_at hy, IntWalk.wrap64_in _ (by omega)]
    rw [ih (i + 1) k y hd2 hy]
    show (if ltB x.f0 y.f0 = true then _ else _) = some (ltB x.f0 y.f0 && incB (y :: l))
    cases ltB x.f0 y.f0 <;> rfl
theorem ref_eq (k : Nat) (L : List En) (hL : L.length ≤ 9223372036854775806) : catchmentref05_Rises.f (k + 2 + L.length) L = some (incB L) := by
  unfold catchmentref05_Rises.f
  cases L with
  | nil =>
           rw [List.length_nil, Nat.add_zero, show k + 2 = (k + 1) + 1 from rfl, catchmentref05_Rises.l0, if_neg (by simp)]
           try rfl
  | cons x l =>
    rw [show k + 2 + (x :: l).length = k + 1 + 1 + l.length + 1 from by simp; omega]
    have := ref_loop (x :: l) hL l 0 (k + 2) x rfl rfl
    rw [show k + 2 + 1 + l.length = k + 1 + 1 + l.length + 1 by omega] at this
    exact this
def aft (s : ByteArray) : ByteArray := s ++ (⟨#[0]⟩ : ByteArray)
def behV (f t s : ByteArray) : X := if rrB (aft s) t = true then (aft s, t, false) else (e0, e0, true)
theorem behind_eq (f t s : ByteArray) (h : s.size ≤ 140737488351232) : cursor_behind.f f t s = some (behV f t s) := by
  unfold cursor_behind.f key_After.f behV
  rw [if_pos (by omega)]
  simp only [Option.bind_some, rr_eq]
  show (if rrB (aft s) t = true then _ else _) = _
  split <;> rfl
def outside (f t : ByteArray) (l : List En) : Bool := l.any (fun y => !holdsB f t y.f0)
def tookV (o : Option X) (l : List En) (most : Int) : Bool × Int × Option X :=
  match o with
  | none => (false, 11, none)
  | some (f, t, d) =>
    if d = true ∧ 0 < l.length then (false, 15, none)
    else if most < 1 then (false, 2, none)
    else if most < l.length then (false, 4, none)
    else if incB l = false then (false, 16, none)
    else if outside f t l = true then (false, 16, none)
    else if d = true ∨ (l.length : Int) < most then (true, 0, some (e0, e0, true))
    else match l[l.length - 1]? with
      | none => (true, 0, none)
      | some x => ((behV f t x.f0).2.2, 0, some (behV f t x.f0))
def now (F : Int → Option X) (k : Int) : Option X → Int → Option X
  | none => F
  | some y => upd F k (some y)
theorem took_any {w : World} {p b n c : Nat} {last : Int} {F : Int → Option X} (h : Tb w p b last n F c) (k : Int) (hk : (Lit.int .i64 k).wf = true) {A : Option Addr} {cl : Nat} {l : List En} (hC : Kd.C P.k103 w A l.length l) (hcap : l.length ≤ cl) (most : Int) (hn : n < 1000000) (hsz : ∀ x ∈ l, x.f0.size ≤ 140737488351232) (hlen : l.length ≤ 1000000) :
    Calls Try.prog 17 #[.pointer (some ⟨p, 0, none⟩), .int .i64 k, .slice A l.length cl, .int .i64 most] w fun e w' => e = .returned (.tuple #[.bool (tookV (F k) l most).1, .int .i64 (tookV (F k) l most).2.1]) ∧ Tb w' p b last (n + 1) (now F k (tookV (F k) l most).2.2) c ∧ Fr [b] w w' := by
  have stay : ∀ {w'}, Below w.heap.size w w' → Tb w' p b last (n + 1) F c ∧ Fr [b] w w' := fun {w'} hb => ⟨⟨(h.fr (B := []) (Fr.of_below hb) (by simp) (by simp)).blk, (h.fr (B := []) (Fr.of_below hb) (by simp) (by simp)).map.mono (by omega)⟩, Fr.of_below hb⟩
  unfold tookV
  cases hF : F k with
  | none => exact (took_none h k hk hC hcap most hF).mono fun e w' q => ⟨q.1, stay q.2⟩
  | some y =>
    obtain ⟨f, t, d⟩ := y
    simp only []
    have hri := fold_eq 0 l (by omega)
    by_cases a1 : d = true ∧ 0 < l.length
    · rw [if_pos a1]
      obtain ⟨rfl, a1⟩ := a1
      exact (took_state h k hk hC hcap most f t hF a1).mono fun e w' q => ⟨q.1, stay q.2⟩
    · rw [if_neg a1]
      by_cases a2 : most < 1
      · rw [if_pos a2]
        cases d with
        | false => exact (took_arg_false h k hk hC hcap most f t hF a2).mono fun e w' q => ⟨q.1, stay q.2⟩
        | true =>
          obtain rfl : l = [] := by cases l with | nil => rfl | cons x l => simp at a1
          exact (took_arg_true h k hk hC most f t hF a2).mono fun e w' q => ⟨q.1, stay q.2⟩
      · rw [if_neg a2]
        by_cases a3 : most < l.length
        · rw [if_pos a3]
          cases d with
          | false => exact (took_limit_false h k hk hC hcap most f t hF (by omega) a3).mono fun e w' q => ⟨q.1, stay q.2⟩
          | true =>
            obtain rfl : l = [] := by cases l with | nil => rfl | cons x l => simp at a1
            simp at a3; omega
        · rw [if_neg a3]
          by_cases a4 : incB l = false
          · rw [if_pos a4]
            rw [a4] at hri
            cases d with
            | false => exact (took_rise_false h k hk hC hcap most f t hF (by omega) (by omega) _ hri).mono fun e w' q => ⟨q.1, stay q.2⟩
            | true =>
              obtain rfl : l = [] := by cases l with | nil => rfl | cons x l => simp at a1
              cases a4
          · rw [if_neg a4]
            rw [Bool.not_eq_false] at a4
            rw [a4] at hri
            by_cases a5 : outside f t l = true
            · rw [if_pos a5]
              cases d with
              | false => exact (took_order_false h k hk hC hcap most f t hF (by omega) (by omega) _ hri a5).mono fun e w' q => ⟨q.1, stay q.2⟩
              | true =>
                obtain rfl : l = [] := by cases l with | nil => rfl | cons x l => simp at a1
                cases a5
            · rw [if_neg a5]
              rw [Bool.not_eq_true] at a5
              by_cases a6 : d = true ∨ (l.length : Int) < most
              · rw [if_pos a6]
                cases d with
                | false => exact took_end_false h k hk hC hcap most f t hF hn (by omega) (by simpa using a6) _ hri a5
                | true =>
                  obtain rfl : l = [] := by cases l with | nil => rfl | cons x l => simp at a1
                  exact took_end_true h k hk hC most f t hF hn (by omega) _ hri a5
              · rw [if_neg a6]
                obtain rfl : d = false := by cases d <;> simp_all
                have hlast : l.length - 1 < l.length := by omega
                rw [List.getElem?_eq_getElem hlast]
                simp only []
                exact took_more h k hk hC hcap most f t hF hn (by omega) (by simp at a6; omega) _ hri a5 _ (List.getElem?_eq_getElem hlast) _ _ _ (behind_eq f t _ (hsz _ (List.getElem_mem hlast)))
end Go.Proofs.Ytljnlnbopohghaa.Cur
end
