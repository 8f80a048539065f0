/- A table of cursors: New, Open, find, Left, Len, Close. -/
import Derived.Test.YtohipdjoeoaphaaCa
import Derived.Carry
set_option linter.unusedVariables false
set_option linter.unusedSimpArgs false
namespace Go.Proofs.Ytohipdjoeoaphaa.Cur
open Go Go.RowKit Go.Maps Go.Proofs.YtohipdjoeoaphaaW.PrintWords Go.Proofs.YtohipdjoeoaphaaW.PrintLast Go.Proofs.YtohipdjoeoaphaaW.PrintMore Go.Proofs.Ytohipdjoeoaphaa.Own Go.Proofs.Ytohipdjoeoaphaa.Ord Go.Proofs.Ytohipdjoeoaphaa.P
set_option maxHeartbeats 2000000
set_option maxRecDepth 100000
/-- The table at p: how many cursors were opened, and the map at b. -/
structure Tb (w : World) (p b : Nat) (last : Int) (n : Nat) (F : Int → Option X) (c : Nat) : Prop where
  blk : w.heap[p]? = some (.cells #[.int .i64 last, .map (some b)] 50 (0, 0))
  map : TM w b n F c
theorem Tb.fr {w w' : World} {p b n c : Nat} {last : Int} {F : Int → Option X} (h : Tb w p b last n F c) {B : List Nat} (f : Fr B w w') (hp : p ∉ B) (hb : b ∉ B) : Tb w' p b last n F c :=
  ⟨f.blk h.blk hp, h.map.fr f hb⟩
theorem Tb.ne {w : World} {p b n c : Nat} {last : Int} {F : Int → Option X} (h : Tb w p b last n F c) : p ≠ b := by
  rintro rfl
  obtain ⟨D, ⟨es, clock, hb, _⟩, _⟩ := h.map
  rw [h.blk] at hb
  cases hb
theorem new_any (w : World) : Calls Try.prog 5 #[] w fun e w' => e = .returned (.pointer (some ⟨w.heap.size + 1, 0, none⟩)) ∧ Tb w' (w.heap.size + 1) w.heap.size 0 0 (fun _ => none) 0 ∧ Below w.heap.size w w' := by
  have hmm := @run_makeMap Try.prog
  have hu := Try.underlying48
  have hus := Try.underlying50
  go_enter Try.func5, Try.ntmps5
  go_wp2
  go_ret
  refine ⟨rfl, ⟨?_, (TM.made w).fr (B := []) (Fr.of_below ((Below.refl _ _).alloc (Nat.le_refl _) _)) (by simp)⟩, ((Below.refl _ w).alloc (Nat.le_refl _) _).alloc (by simp) _⟩
  have := blk_new (w.alloc (.map #[] 0)) (Obj.cells #[Value.int IntKind.i64 0, Value.map (some w.heap.size)] 50)
  rwa [World.size_alloc] at this
/-- May a range be? -/
def rrB (f t : ByteArray) : Bool := if t.toList = [] then true else Op.bytesLess f.toList t.toList
theorem rr_eq (f t : ByteArray) : key_RightRange.f f t = some (rrB f t) := by
  unfold key_RightRange.f key_ahead.f rrB
  split <;> rfl
theorem wf_small {k : Int} (h0 : -1000000000 ≤ k) (h1 : k ≤ 1000000000) : (Lit.int .i64 k).wf = true := WalkArith.wf_i64 (by omega)
theorem open_yes {w : World} {p b n c : Nat} {last : Int} {F : Int → Option X} (h : Tb w p b last n F c) (h0 : 0 ≤ last) (h1 : last < 1000000) (hn : n < 1000000) (f t : ByteArray) (hr : rrB f t = true) {c' : Nat} (hcA : Aside (c' = (if (F (last + 1)).isSome then c else c + 1))) :
    Calls Try.prog 6 #[.pointer (some ⟨p, 0, none⟩), .agg #[.string f, .string t]] w fun e w' => e = .returned (.tuple #[.int .i64 (last + 1), .int .i64 0]) ∧ Tb w' p b (last + 1) (n + 1) (upd F (last + 1) (some (f, t, false))) c' ∧ Fr [p, b] w w' := by
  have hw1 : IntKind.i64.wrap (last + 1) = last + 1 := IntWalk.i64_in _ (by omega)
  have hu := Try.underlying48
  have hus := Try.underlying50
  have hur := Try.underlying23
  have hux := Try.underlying52
  have hl := blk_lt h.blk
  have hlb := h.map.lt
  have hne := h.ne
  go_enter Try.func6, Try.ntmps6
  have f0 : Fr [p, b] w (w.alloc (.cells #[.string f, .string t] 23)) := (Fr.refl _ _).alloc _
  go_wp2_with (go_at_call 16; refine (key_RightRange.calls f t true _ ((rr_eq f t).trans (by rw [hr]))).mono ?_; rintro e w1 ⟨rfl, hB1⟩; have f1 : Fr [p, b] w w1 := f0.trans (C := []) (Fr.of_below hB1) (by simp); have hT1 : Aside (Tb w1 p b last n F c) := ⟨blk_below (blk_alloc h.blk _) hB1, (h.map.fr (B := []) ((Fr.refl _ _).alloc _) (by simp)).fr (B := []) (Fr.of_below hB1) (by simp)⟩; have hbx := blk_below (blk_new w (.cells #[.string f, .string t] 23)) hB1; have c0 := blk_cell hT1.out.blk 0; have z0 := blk_frozen hT1.out.blk 0; simp at c0; clear hB1)
  have hT2 : Aside (Tb (w1.setCell ⟨p, 0, none⟩ (.int .i64 (last + 1))) p b (last + 1) n F c) := ⟨blk_set hT1.out.blk 0 _, hT1.out.map.fr (B := [p]) ((Fr.refl _ _).set (.inl (by simp)) _) (by simpa using fun e => hne e.symm)⟩
  have f2 : Fr [p, b] w (w1.setCell ⟨p, 0, none⟩ (.int .i64 (last + 1))) := f1.set (.inl (by simp)) _
  have hbx2 : (w1.setCell ⟨p, 0, none⟩ (.int .i64 (last + 1))).heap[w.heap.size]? = some (.cells #[.string f, .string t] 23 (0, 0)) := blk_far hbx (by simp; omega) _
  clear hT1 hbx c0 z0 f1 f0
  refine still_tail 10 (by kernel_rfl) (by kernel_rfl) (fun W hW => ?_)
  simp only [List.take_succ_cons, List.take_zero, List.drop_succ_cons, List.drop_zero]
  have hT3 : Aside (Tb W p b (last + 1) n F c) := by rw [hW]; exact hT2.out.fr (B := []) (Fr.refl _ _).drew (by simp) (by simp)
  have f3 : Fr [p, b] w W := by rw [hW]; exact f2.drew
  have hbx3 : W.heap[w.heap.size]? = some (.cells #[.string f, .string t] 23 (0, 0)) := by rw [hW]; exact hbx2
  clear hW hT2 f2 hbx2
  have c0 := blk_cell hT3.out.blk 0
  have c1 := blk_cell hT3.out.blk 1
  have b0 := blk_cell hbx3 0
  have b1 := blk_cell hbx3 1
  simp at c0 c1 b0 b1
  iterate 10 still_step
  refine wpStill_nil ?_
  have hT3' := hT3.out.map
  refine store W rfl _ _ _ rfl b n F c rfl hT3' hn (last + 1) rfl (wf_small (by omega) (by omega)) (f, t, false) rfl (fun w4 hT4 f4 => ?_)
  rw [← hcA.out] at hT4
  have hT5 : Aside (Tb w4 p b (last + 1) (n + 1) (upd F (last + 1) (some (f, t, false))) c') := ⟨f4.blk hT3.out.blk (by simpa using hne), hT4⟩
  have f5 : Fr [p, b] w w4 := f3.trans f4 (fun x hx => .inl (by simp at hx; simp [hx]))
  have c4 := blk_cell hT5.out.blk 0
  simp at c4
  clear hT3 hT3' hT4 c0 c1 b0 b1 f3 f4 hbx3
  go_wp2_with fail
  go_ret2
  exact ⟨rfl, hT5.out, f5⟩
theorem open_no {w : World} {p : Nat} (f t : ByteArray) (hr : rrB f t = false) :
    Calls Try.prog 6 #[.pointer (some ⟨p, 0, none⟩), .agg #[.string f, .string t]] w fun e w' => e = .returned (.tuple #[.int .i64 0, .int .i64 7]) ∧ Below w.heap.size w w' := by
  have hur := Try.underlying23
  go_enter Try.func6, Try.ntmps6
  have f0 : Below w.heap.size w (w.alloc (.cells #[.string f, .string t] 23)) := below_alloc (Below.refl _ _) _
  go_wp2_with (go_at_call 16; refine (key_RightRange.calls f t false _ ((rr_eq f t).trans (by rw [hr]))).mono ?_; rintro e w1 ⟨rfl, hB1⟩; have f1 := below_step f0 hB1; clear hB1)
  go_ret2
  exact ⟨rfl, f1⟩
theorem len_any {w : World} {p b n c : Nat} {last : Int} {F : Int → Option X} (h : Tb w p b last n F c) :
    Calls Try.prog 17 #[.pointer (some ⟨p, 0, none⟩)] w fun e w' => e = .returned (.int .i64 c) ∧ w' = w := by
  have hus := Try.underlying50
  have c1 := blk_cell h.blk 1
  simp at c1
  have hT := h.map
  clear h
  go_enter Try.func17, Try.ntmps17
  go_wp2_with (refine lenOf w rfl _ rfl b n F c rfl hT ?_)
  go_ret
  exact ⟨rfl, rfl⟩
theorem find_none {w : World} {p b n c : Nat} {last : Int} {F : Int → Option X} (h : Tb w p b last n F c) (k : Int) (hk : (Lit.int .i64 k).wf = true) (hF : F k = none) :
    Calls Try.prog 19 #[.pointer (some ⟨p, 0, none⟩), .int .i64 k] w fun e w' => e = .returned (.tuple #[.agg #[.string ⟨#[]⟩, .string ⟨#[]⟩, .bool false], .int .i64 11]) ∧ Below w.heap.size w w' := by
  have hus := Try.underlying50
  have hur := Try.underlying23
  have hux := Try.underlying52
  have hl := blk_lt h.blk
  go_enter Try.func19, Try.ntmps19
  have hT1 : Aside (Tb (w.alloc (.cells #[.string ⟨#[]⟩, .string ⟨#[]⟩, .bool false] 52)) p b last n F c) := h.fr (B := []) ((Fr.refl _ _).alloc _) (by simp) (by simp)
  have hB1 : Below w.heap.size w (w.alloc (.cells #[.string ⟨#[]⟩, .string ⟨#[]⟩, .bool false] 52)) := below_alloc (Below.refl _ _) _
  have hT1' := hT1.out.map
  have c1 := blk_cell hT1.out.blk 1
  simp at c1
  clear h
  have hA : Aside (F k = none) := hF
  clear hF
  go_wp2_with (refine look _ rfl _ _ rfl b n F c rfl hT1' k rfl hk ?_; rw [hA.out]; simp only [Option.getD_none, Option.isSome_none, Option.getD_some, Option.isSome_some, restV, x0, e0])
  refine bodyPost_ret (results_ct rfl _ _ w.heap.size 52 _ (0, 0) _ rfl (blk_alloc (blk_new _ _) _) hux rfl (by kernel_rfl)) rfl ?_
  exact ⟨rfl, below_alloc hB1 _⟩
theorem find_some {w : World} {p b n c : Nat} {last : Int} {F : Int → Option X} (h : Tb w p b last n F c) (k : Int) (hk : (Lit.int .i64 k).wf = true) (f t : ByteArray) (d : Bool) (hF : F k = some (f, t, d)) :
    Calls Try.prog 19 #[.pointer (some ⟨p, 0, none⟩), .int .i64 k] w fun e w' => e = .returned (.tuple #[.agg #[.string f, .string t, .bool d], .int .i64 0]) ∧ Below w.heap.size w w' := by
  have hus := Try.underlying50
  have hur := Try.underlying23
  have hux := Try.underlying52
  have hl := blk_lt h.blk
  go_enter Try.func19, Try.ntmps19
  have hT1 : Aside (Tb (w.alloc (.cells #[.string ⟨#[]⟩, .string ⟨#[]⟩, .bool false] 52)) p b last n F c) := h.fr (B := []) ((Fr.refl _ _).alloc _) (by simp) (by simp)
  have hB1 : Below w.heap.size w (w.alloc (.cells #[.string ⟨#[]⟩, .string ⟨#[]⟩, .bool false] 52)) := below_alloc (Below.refl _ _) _
  have hT1' := hT1.out.map
  have c1 := blk_cell hT1.out.blk 1
  simp at c1
  clear h
  have hA : Aside (F k = some (f, t, d)) := hF
  clear hF
  go_wp2_with (refine look _ rfl _ _ rfl b n F c rfl hT1' k rfl hk ?_; rw [hA.out]; simp only [Option.getD_none, Option.isSome_none, Option.getD_some, Option.isSome_some, restV, x0, e0])
  refine bodyPost_ret (results_ct rfl _ _ w.heap.size 52 #[.string f, .string t, .bool d] (0, 0) _ rfl ?_ hux rfl (by kernel_rfl)) rfl ?_
  · exact blk_alloc (blk_new _ _) _
  · exact ⟨rfl, below_alloc (below_alloc (Below.refl _ _) _) _⟩
theorem left_some {w : World} {p b n c : Nat} {last : Int} {F : Int → Option X} (h : Tb w p b last n F c) (k : Int) (hk : (Lit.int .i64 k).wf = true) (f t : ByteArray) (d : Bool) (hF : F k = some (f, t, d)) :
    Calls Try.prog 12 #[.pointer (some ⟨p, 0, none⟩), .int .i64 k] w fun e w' => e = .returned (.tuple #[.agg #[.string f, .string t], .bool d, .int .i64 0]) ∧ Below w.heap.size w w' := by
  have hur := Try.underlying23
  have hux := Try.underlying52
  have hT1 : Tb (w.alloc (.cells #[.string ⟨#[]⟩, .string ⟨#[]⟩] 23)) p b last n F c := h.fr (B := []) ((Fr.refl _ _).alloc _) (by simp) (by simp)
  have hB1 : Below w.heap.size w (w.alloc (.cells #[.string ⟨#[]⟩, .string ⟨#[]⟩] 23)) := below_alloc (Below.refl _ _) _
  have hfind := find_some hT1 k hk f t d hF
  clear h hT1
  go_enter Try.func12, Try.ntmps12
  go_wp2_with (go_at_call 19; refine hfind.mono ?_; clear hfind; rintro e w1 ⟨rfl, hB2⟩; have hb1 := blk_below (blk_new w (.cells #[.string ⟨#[]⟩, .string ⟨#[]⟩] 23)) hB2; have hB3 := below_step hB1 hB2; have hlt : w1.heap.size ≠ w.heap.size := (by have := hB2.size; simp at this; omega); clear hB1 hB2)
  have hb2 : (w1.alloc (.cells #[.string f, .string t, .bool d] 52)).heap[w.heap.size]? = some (.cells #[.string ⟨#[]⟩, .string ⟨#[]⟩] 23 (0, 0)) := blk_alloc hb1 _
  have hn2 := blk_new w1 (.cells #[.string f, .string t, .bool d] 52)
  have hB4 : Below w.heap.size w (w1.alloc (.cells #[.string f, .string t, .bool d] 52)) := below_alloc hB3 _
  clear hb1 hB3
  generalize w1.alloc (.cells #[.string f, .string t, .bool d] 52) = W at hb2 hn2 hB4 ⊢
  have c0 := blk_cell hn2 0
  have c1 := blk_cell hn2 1
  have c2 := blk_cell hn2 2
  have d0 := blk_cell hb2 0
  have d1 := blk_cell hb2 1
  have z0 := blk_frozen hb2 0
  have z1 := blk_frozen hb2 1
  simp at c0 c1 c2 d0 d1
  have hA1 := Aside0.mk hb2
  have hA2 := Aside0.mk hB4
  clear hb2 hn2 hB4
  have hne : w1.heap.size ≠ w.heap.size := hlt
  go_region_held3 (fun w' => w'.cell? ⟨w1.heap.size, 0, none⟩ = some (.string f) ∧ w'.cell? ⟨w1.heap.size, 1, none⟩ = some (.string t) ∧ w'.cell? ⟨w1.heap.size, 2, none⟩ = some (.bool d)) (first | assumption | exact ⟨c0, c1, c2⟩ | (simp [World.cell?_setCell_other, hne, hne.symm, c0, c1, c2]; done)) (fail)
  go_wp2_with fail
  refine bodyPost_ret (results_ctt rfl _ _ w.heap.size 23 #[.string f, .string t] (0, 0) _ rfl ?_ hur rfl (by kernel_rfl)) rfl ?_
  · exact blk_set (blk_set (blk_drew hA1.out) 0 _) 1 _
  · exact ⟨rfl, below_set (below_set (below_drew1 hA2.out) (Nat.le_refl _)) (Nat.le_refl _)⟩
theorem close_none {w : World} {p b n c : Nat} {last : Int} {F : Int → Option X} (h : Tb w p b last n F c) (k : Int) (hk : (Lit.int .i64 k).wf = true) (hF : F k = none) :
    Calls Try.prog 18 #[.pointer (some ⟨p, 0, none⟩), .int .i64 k] w fun e w' => e = .returned (.int .i64 11) ∧ Below w.heap.size w w' := by
  have hux := Try.underlying52
  have hur := Try.underlying23
  have hfind := find_none h k hk hF
  clear h
  go_enter Try.func18, Try.ntmps18
  go_wp2_with (go_at_call 19; refine hfind.mono ?_; clear hfind; rintro e w1 ⟨rfl, hB2⟩)
  go_ret
  exact ⟨rfl, below_alloc hB2 _⟩
theorem close_some {w : World} {p b n c : Nat} {last : Int} {F : Int → Option X} (h : Tb w p b last n F c) (k : Int) (hk : (Lit.int .i64 k).wf = true) (f t : ByteArray) (d : Bool) (hF : F k = some (f, t, d)) :
    Calls Try.prog 18 #[.pointer (some ⟨p, 0, none⟩), .int .i64 k] w fun e w' => e = .returned (.int .i64 0) ∧ (∀ c', c' + 1 = c → Tb w' p b last n (upd F k none) c') ∧ Fr [b] w w' := by
  have hux := Try.underlying52
  have hur := Try.underlying23
  have hus := Try.underlying50
  have hne := h.ne
  have hfind := find_some h k hk f t d hF
  have hA := Aside0.mk hF
  clear hF
  go_enter Try.func18, Try.ntmps18
  go_wp2_with (first
    | (go_at_call 19; refine hfind.mono ?_; clear hfind; rintro e w1 ⟨rfl, hB2⟩; have hT : Aside (Tb (w1.alloc (.cells #[.string f, .string t, .bool d] 52)) p b last n F c) := h.fr (B := []) (Fr.of_below (below_alloc hB2 _)) (by simp) (by simp); have f1 : Fr [b] w (w1.alloc (.cells #[.string f, .string t, .bool d] 52)) := Fr.of_below (below_alloc hB2 _); have hM := hT.out.map; have c1 := blk_cell hT.out.blk 1; simp at c1; clear h hB2)
    | (refine drop _ rfl _ _ rfl b n F c rfl hM k rfl hk (fun w4 hT4 f4 => ?_)))
  go_ret
  have h1 := hT4
  rw [hA.out] at h1
  simp only [Option.isSome_some, if_true] at h1
  exact ⟨rfl, fun c' hc => ⟨f4.blk hT.out.blk (by simpa using hne), h1 c' hc⟩, f1.trans f4 (fun x hx => .inl hx)⟩
end Go.Proofs.Ytohipdjoeoaphaa.Cur
