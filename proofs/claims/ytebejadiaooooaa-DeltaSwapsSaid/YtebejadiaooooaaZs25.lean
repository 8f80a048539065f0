/- Texts of one claim (laid by shake.py). -/
import Derived.Test.YtebejadiaooooaaZs4
import Derived.Test.YtebejadiaooooaaZs16
import Derived.Test.YtebejadiaooooaaZs2
import Derived.Test.YtebejadiaooooaaZs3
import Derived.WalkKit
import Derived.Below
import Derived.Maps.AppendAt
import Derived.Lib.SliceRun
import Derived.Shelf.RegionOpenPlain
import Derived.Deep.RegionLaw
import Derived.Test.YtebejadiaooooaaZs22
import Derived.Test.YtebejadiaooooaaZs11
import Derived.Test.YtebejadiaooooaaZs14
import Derived.Test.YtebejadiaooooaaZs15
import Derived.LoopTactic
set_option linter.unusedVariables false
set_option linter.unusedSimpArgs false
section
namespace Go.Proofs.Ytebejadiaooooaa.Cp
open Go.RowKit Go.Proofs.YtebejadiaooooaaW.PrintWords Go.Proofs.YtebejadiaooooaaW.PrintLast Go.Proofs.YtebejadiaooooaaW.PrintMore Go.Proofs.Ytebejadiaooooaa.Own Go.Proofs.Ytebejadiaooooaa
abbrev Ms := P.S32
def enc (m : Ms) : List Value := [.int .u8 m.f0, .int .i64 m.f1, .string m.f2, .string m.f3, .string m.f4, .int .u64 m.f5]
def flat (l : List Ms) : List Value := l.flatMap enc
theorem enc_length (m : Ms) : (enc m).length = 6 := rfl
theorem flat_nil : flat [] = [] := rfl
theorem flat_cons (m : Ms) (l : List Ms) : flat (m :: l) = enc m ++ flat l := rfl
theorem flat_append (a b : List Ms) : flat (a ++ b) = flat a ++ flat b := by simp [flat]
theorem flat_snoc (l : List Ms) (m : Ms) : flat (l ++ [m]) = flat l ++ enc m := by rw [flat_append, flat_cons, flat_nil, List.append_nil]
theorem flat_length : ∀ l : List Ms, (flat l).length = l.length * 6
 | [] => rfl
 | m :: l => by rw [flat_cons, List.length_append, enc_length, flat_length l, List.length_cons]; omega
theorem flat_drop : ∀ (l : List Ms) (n : Nat), (flat l).drop (n * 6) = flat (l.drop n)
 | l, 0 => by simp
 | [], n + 1 => by simp [flat_nil]
 | m :: l, n + 1 => by
  rw [flat_cons, List.drop_succ_cons, ← flat_drop l n, List.drop_append, enc_length, List.drop_of_length_le (by rw [enc_length]; omega), List.nil_append]
  congr 1
  omega
theorem flat_one {u : Value} : ∀ {l : List Ms}, u ∈ flat l → u.oneCell' = true
 | [], h => by simp [flat_nil] at h
 | m :: l, h => by
  rw [flat_cons, List.mem_append] at h
  rcases h with h | h
  ·simp only [enc, List.mem_cons, List.not_mem_nil, or_false] at h
   rcases h with rfl | rfl | rfl | rfl | rfl | rfl <;> rfl
  ·exact flat_one h
abbrev Rw (W : World) (base : Nat) (v : Value) (l : List Ms) : Prop := W.ownsRow base 32 6 v l.length (flat l)
theorem reps_flat (w : World) (base : Nat) (ok : Nat → Prop) (xs : List Ms) : Reps (P.k32.M w base ok) 6 xs (flat xs) := by
 have key : ∀ l : List Ms, Reps (P.k32.M w base ok) 6 l.reverse (flat l.reverse) := fun l => by
  induction l with
  | nil => exact Reps.none _ _
  | cons x l ih =>
   rw [List.reverse_cons, flat_snoc]
   exact Reps.snoc ih (P.k32_mkM w base ok x) rfl
 simpa using key xs.reverse
theorem R_of_Rw {w : World} {base : Nat} {v : Value} {xs : List Ms} (ho : Rw w base v xs) : P.k32.R 32 w base (fun _ => True) v xs :=
 ⟨fun _ _ => trivial, flat xs, ho, reps_flat _ _ _ _⟩
theorem Rw.slice {w : World} {base : Nat} {v : Value} {xs : List Ms} (ho : Rw w base v xs) : ∃ A c, v = .slice A xs.length c := Kd.R_slice (R_of_Rw ho)
theorem Rw.block {w : World} {base : Nat} {v : Value} {xs : List Ms} (ho : Rw w base v xs) (hn : 0 < xs.length) :
  ∃ g cap cur, v = .slice (some ⟨g, 0, none⟩) xs.length cap ∧ base ≤ g ∧ w.heap[g]? = some (.cells cur 32 (0, 0)) ∧ xs.length ≤ cap ∧ cap ≤ maxLen ∧ cur.size = cap * 6 ∧ cur.toList.take (xs.length * 6) = flat xs := by
 rcases ho.2 with ⟨_, h⟩ | h
 ·omega
 ·exact h
theorem Rw.mk {w : World} {base g cap : Nat} {cur : Array Value} {xs : List Ms} (hb : base ≤ g) (hh : w.heap[g]? = some (.cells cur 32 (0, 0))) (hc : xs.length ≤ cap) (hm : cap ≤ maxLen) (hs : cur.size = cap * 6) (ht : cur.toList.take (xs.length * 6) = flat xs) : Rw w base (.slice (some ⟨g, 0, none⟩) xs.length cap) xs :=
 ⟨flat_length xs, .inr ⟨g, cap, cur, rfl, hb, hh, hc, hm, hs, ht⟩⟩
theorem Rw.below {w W : World} {base : Nat} {v : Value} {xs : List Ms} (ho : Rw w base v xs) (hb : Below w.heap.size w W) : Rw W base v xs :=
 own_move ho (fun k hk => hb.block k (own_lt ho k hk))
theorem heap_setCells {g e : Nat} : ∀ (vs : List Value) (o : Nat) (w : World) (cur : Array Value), w.heap[g]? = some (.cells cur e (0, 0)) → o + vs.length ≤ cur.size →
  ∃ cur', (w.setCells g o vs).heap[g]? = some (.cells cur' e (0, 0)) ∧ cur'.toList = cur.toList.take o ++ vs ++ cur.toList.drop (o + vs.length)
 | [], o, w, cur, h, _ => ⟨cur, h, by simp⟩
 | v :: vs, o, w, cur, h, hl => by
  simp only [List.length_cons] at hl
  have h1 := blk_set h o v
  obtain ⟨cur', h2, h3⟩ := heap_setCells vs (o + 1) (w.setCell ⟨g, o, none⟩ v) _ h1 (by rw [Array.size_setIfInBounds]; omega)
  refine ⟨cur', h2, h3.trans ?_⟩
  have hlt : o < cur.toList.length := by rw [Array.length_toList]; omega
  rw [Array.toList_setIfInBounds, List.take_set, List.drop_set, if_pos (by omega)]
  rw [List.take_add_one, List.getElem?_eq_getElem hlt]
  simp only [Option.toList_some, List.length_cons]
  rw [List.set_append_right _ _ (by rw [List.length_take]; exact Nat.min_le_left _ _), List.length_take, Nat.min_eq_left (by omega), Nat.sub_self]
  simp only [List.set_cons_zero, List.append_assoc, List.cons_append, List.nil_append]
  rw [show o + 1 + vs.length = o + (vs.length + 1) by omega]
end Go.Proofs.Ytebejadiaooooaa.Cp
end
section
namespace Go.Proofs.Ytebejadiaooooaa.P
open Go.RowKit Go.Proofs.YtebejadiaooooaaW.PrintWords Go.Proofs.YtebejadiaooooaaW.PrintLast Go.Proofs.YtebejadiaooooaaW.PrintMore Go.Proofs.Ytebejadiaooooaa.Own Go.Proofs.Ytebejadiaooooaa
def first (a b : ByteArray) : ByteArray := if before b a = true then b else a
def meet (f t g u : ByteArray) : ByteArray × ByteArray × Bool :=
 if (rr f t && rr g u && rr (mxs f g) (first t u)) = true then (mxs f g, first t u, true) else (e0, e0, false)
def within (f t g u : ByteArray) : Bool := (meet f t g u).2.2 && (same (meet f t g u).1 f && same (meet f t g u).2.1 t)
theorem holds_rr {a b s : ByteArray} (h : holds a b s = true) : rr a b = true := by
 rw [holds_def] at h
 simp only [Bool.and_eq_true, Bool.not_eq_true'] at h
 rw [rr_def]
 exact ah_le h.1 h.2
theorem lt_mxs (y f s : ByteArray) : lt s (mxs y f) = (lt s y || lt s f) := by
 have e : mxs y f = if lt y f = true then f else y := rfl
 rw [e]
 split
 ·rename_i h
  cases q : lt s y
  ·rfl
  ·rw [lt_trans q h]; rfl
 ·rename_i h
  have h : lt y f = false := by simpa using h
  cases q : lt s f
  ·simp
  ·rw [lt_of_lt_le q h]; rfl
theorem ah_first (t u s : ByteArray) : ah s (first t u) = (ah s t && ah s u) := by
 unfold first
 split
 ·rename_i h
  rw [before_def] at h
  simp only [Bool.and_eq_true, Bool.not_eq_true'] at h
  cases q : ah s u
  ·simp
  ·have : ah s t = true := by
    unfold ah at q
    rw [h.1] at q
    simp only [Bool.false_or] at q
    exact ah_lt q h.2
   rw [this]; rfl
 ·rename_i h
  have h : before u t = false := by simpa using h
  rw [before_def] at h
  cases q : ah s t
  ·rfl
  ·have : ah s u = true := by
    cases hu : emp u
    ·rw [hu] at h
     simp only [Bool.not_false, Bool.true_and] at h
     unfold ah at h q ⊢
     rw [hu]
     simp only [Bool.or_eq_false_iff] at h
     rw [h.1] at q
     simp only [Bool.false_or] at q ⊢
     exact lt_of_lt_le q h.2
    ·unfold ah; rw [hu]; rfl
   rw [this]; rfl
theorem holds_meet (y t f u s : ByteArray) : holds (mxs y f) (first t u) s = (holds y t s && holds f u s) := by
 rw [holds_def, holds_def, holds_def, lt_mxs, ah_first]
 cases lt s y <;> cases lt s f <;> cases ah s t <;> cases ah s u <;> rfl
end Go.Proofs.Ytebejadiaooooaa.P
end
section
namespace Go.Proofs.Ytebejadiaooooaa.P
open Go.RowKit Go.Proofs.YtebejadiaooooaaW.PrintWords Go.Proofs.YtebejadiaooooaaW.PrintLast Go.Proofs.YtebejadiaooooaaW.PrintMore Go.Proofs.Ytebejadiaooooaa.Own Go.Proofs.Ytebejadiaooooaa
def touchesM (m : Ms) (s : ByteArray) : Bool := touches m.f0 m.f2 m.f3 s
def lastN (l : List Ms) (s : ByteArray) : Nat → Int
 | 0 => -1
 | n + 1 => match l[n]? with
  | some m => if touchesM m s = true then (n : Int) else lastN l s n
  | none => lastN l s n
def lastI (l : List Ms) (s : ByteArray) : Int := lastN l s l.length
def okS (m : Ms) : Prop := m.f2.size ≤ 140737488351232
theorem last_loop (l : List Ms) (s : ByteArray) (hl : l.length ≤ 1000000) (hs : ∀ m ∈ l, okS m) : ∀ (n k : Nat), n ≤ l.length → n < k → compact_last.l0 k l s ((n : Int) - 1) = some (lastN l s n) := by
 intro n
 induction n with
 | zero =>
  intro k _ hk
  obtain ⟨k, rfl⟩ : ∃ m, k = m + 1 := ⟨k - 1, by omega⟩
  rw [compact_last.l0, if_neg (by omega)]
  rfl
 | succ n ih =>
  intro k hn hk
  obtain ⟨k, rfl⟩ : ∃ m, k = m + 1 := ⟨k - 1, by omega⟩
  have e : ((n + 1 : Nat) : Int) - 1 = (n : Int) := by omega
  have hx : l[n]? = some l[n] := List.getElem?_eq_getElem (by omega)
  rw [compact_last.l0, e, if_pos (by omega), if_pos (by omega), if_pos (by omega), rdM_at hx, Touches_eq _ _ _ _ _ _ _ (hs _ (List.getElem_mem _)), Option.bind_some, IntWalk.wrap64_in _ (by omega), ih k (by omega) (by omega)]
  have e2 : lastN l s (n + 1) = if touchesM l[n] s = true then (n : Int) else lastN l s n := by rw [lastN, hx]
  rw [e2]
  unfold touchesM
  split <;> rfl
theorem last_eq (k : Nat) (l : List Ms) (s : ByteArray) (hl : l.length ≤ 1000000) (hs : ∀ m ∈ l, okS m) (hk : l.length < k) : compact_last.f k l s = some (lastI l s) := by
 unfold compact_last.f lastI
 rw [IntWalk.wrap64_in _ (by omega)]
 exact last_loop l s hl hs l.length k (Nat.le_refl _) hk
def gone (f t : ByteArray) (x : Ms) : Bool := (isPt x.f0 && holds f t x.f2) || (decide (x.f0 = 4) && within x.f2 x.f3 f t)
end Go.Proofs.Ytebejadiaooooaa.P
end
section
namespace Go.Proofs.Ytebejadiaooooaa.Cp
open Go.RowKit Go.Shelf Go.Proofs.YtebejadiaooooaaW.PrintWords Go.Proofs.YtebejadiaooooaaW.PrintLast Go.Proofs.YtebejadiaooooaaW.PrintMore Go.Proofs.Ytebejadiaooooaa.Own Go.Proofs.Ytebejadiaooooaa
set_option maxHeartbeats 4000000
set_option maxRecDepth 100000
abbrev objM (m : Ms) : Obj := .cells #[.int .u8 m.f0, .int .i64 m.f1, .string m.f2, .string m.f3, .string m.f4, .int .u64 m.f5] 32 (0, 0)
abbrev objR (f t : ByteArray) : Obj := .cells #[.string f, .string t] 28 (0, 0)
structure Bx (W0 : World) (D : Nat) (x : Ms) (B : Nat) (f t : ByteArray) (w : World) : Prop where
 d : w.heap[D]? = some (objM x)
 b : w.heap[B]? = some (objR f t)
 w : Below W0.heap.size W0 w
theorem Bx.below {W0 w w' : World} {D B : Nat} {x : Ms} {f t : ByteArray} (h : Bx W0 D x B f t w) (hb : Below w.heap.size w w') : Bx W0 D x B f t w' := ⟨blk_below h.d hb, blk_below h.b hb, below_step h.w hb⟩
theorem Bx.cells {W0 w : World} {D B : Nat} {x : Ms} {f t : ByteArray} (h : Bx W0 D x B f t w) : w.cell? ⟨D, 0, none⟩ = some (.int .u8 x.f0) ∧ w.cell? ⟨D, 1, none⟩ = some (.int .i64 x.f1) ∧ w.cell? ⟨D, 2, none⟩ = some (.string x.f2) ∧ w.cell? ⟨D, 3, none⟩ = some (.string x.f3) ∧ w.cell? ⟨D, 4, none⟩ = some (.string x.f4) ∧ w.cell? ⟨D, 5, none⟩ = some (.int .u64 x.f5) ∧ w.cell? ⟨B, 0, none⟩ = some (.string f) ∧ w.cell? ⟨B, 1, none⟩ = some (.string t) :=
 ⟨blk_cell h.d 0, blk_cell h.d 1, blk_cell h.d 2, blk_cell h.d 3, blk_cell h.d 4, blk_cell h.d 5, blk_cell h.b 0, blk_cell h.b 1⟩
end Go.Proofs.Ytebejadiaooooaa.Cp
end
section
namespace Go.Proofs.Ytebejadiaooooaa.Cp
open Go.RowKit Go.Shelf Go.Proofs.YtebejadiaooooaaW.PrintWords Go.Proofs.YtebejadiaooooaaW.PrintLast Go.Proofs.YtebejadiaooooaaW.PrintMore Go.Proofs.Ytebejadiaooooaa.Own Go.Proofs.Ytebejadiaooooaa
set_option maxHeartbeats 2000000
set_option maxRecDepth 100000
theorem at_M {w : World} {A : Option Addr} {n : Nat} {xs : List Ms} (h : Kd.C P.k32 w A n xs) (i : Int) (h0 : 0 ≤ i) (h1 : i < n) : ∃ ad, ∃ x : Ms, A = some ad ∧ xs[i.toNat]? = some x ∧ w.cell? (ad.add (i.toNat * 6)) = some (.int .u8 x.f0) ∧
  w.cell? ⟨(ad.add (i.toNat * 6)).block, (ad.add (i.toNat * 6)).off + 1, none⟩ = some (.int .i64 x.f1) ∧ w.cell? ⟨(ad.add (i.toNat * 6)).block, (ad.add (i.toNat * 6)).off + 2, none⟩ = some (.string x.f2) ∧ w.cell? ⟨(ad.add (i.toNat * 6)).block, (ad.add (i.toNat * 6)).off + 3, none⟩ = some (.string x.f3) ∧
  w.cell? ⟨(ad.add (i.toNat * 6)).block, (ad.add (i.toNat * 6)).off + 4, none⟩ = some (.string x.f4) ∧ w.cell? ⟨(ad.add (i.toNat * 6)).block, (ad.add (i.toNat * 6)).off + 5, none⟩ = some (.int .u64 x.f5) := by
 obtain ⟨ad, c, e, _, hK, hc0⟩ := Kd.C_get h P.z32 i h0 h1
 have hc : ∀ j u, c[j]? = some u → w.cell? (ad.add (i.toNat * 6 + j)) = some u := hc0
 obtain rfl := P.k32_open hK
 have hl := h.1
 refine ⟨ad, _, e, ?_, hc 0 _ rfl, by rw [← add_field _ _ 1 (by omega)]; exact hc 1 _ rfl, by rw [← add_field _ _ 2 (by omega)]; exact hc 2 _ rfl, by rw [← add_field _ _ 3 (by omega)]; exact hc 3 _ rfl, by rw [← add_field _ _ 4 (by omega)]; exact hc 4 _ rfl, by rw [← add_field _ _ 5 (by omega)]; exact hc 5 _ rfl⟩
 rw [List.getD_eq_getElem?_getD, List.getElem?_eq_getElem (by omega)]
 rfl
theorem cell_below {w W : World} (hb : Below w.heap.size w W) {a : Addr} {v : Value} (h : w.cell? a = some v) : W.cell? a = some v := (World.cell?_of_block (hb.block a.block (World.block_lt_of_cell? w a h))).trans h
end Go.Proofs.Ytebejadiaooooaa.Cp
end
section
namespace Go.Proofs.Ytebejadiaooooaa.Cp
open Go.RowKit Go.Shelf Go.Lib Go.Proofs.YtebejadiaooooaaW.PrintWords Go.Proofs.YtebejadiaooooaaW.PrintLast Go.Proofs.YtebejadiaooooaaW.PrintMore Go.Proofs.Ytebejadiaooooaa.Own Go.Proofs.Ytebejadiaooooaa
set_option maxHeartbeats 4000000
set_option maxRecDepth 1000000
def zM : Value := .agg #[.int .u8 0, .int .i64 0, .string ⟨#[]⟩, .string ⟨#[]⟩, .string ⟨#[]⟩, .int .u64 0]
end Go.Proofs.Ytebejadiaooooaa.Cp
end
section
namespace Go.Proofs.Ytebejadiaooooaa.Cp
open Go.RowKit Go.Shelf Go.Proofs.YtebejadiaooooaaW.PrintWords Go.Proofs.YtebejadiaooooaaW.PrintLast Go.Proofs.YtebejadiaooooaaW.PrintMore Go.Proofs.Ytebejadiaooooaa.Own Go.Proofs.Ytebejadiaooooaa
set_option maxHeartbeats 4000000
set_option maxRecDepth 100000
theorem Rw.snoc {w' : World} {base : Nat} {v' : Value} {l : List Ms} {m : Ms} (h : w'.ownsRow base 32 6 v' (l.length + 1) (flat l ++ enc m)) : Rw w' base v' (l ++ [m]) := by
 show w'.ownsRow _ _ _ _ _ _
 rw [List.length_append, flat_snoc]
 exact h
theorem cell_enc {W : World} {D : Nat} {m : Ms} (h : W.heap[D]? = some (objM m)) : ∀ j u, (enc m)[j]? = some u → W.cell? ((⟨D, 0, none⟩ : Addr).add j) = some u := by
 intro j u hu
 rw [Addr.add_lit, Nat.zero_add, cell_of_row W D j _ _ _ h]
 have hj : j < 6 := (List.getElem?_eq_some_iff.1 hu).1
 obtain rfl | rfl | rfl | rfl | rfl | rfl : j = 0 ∨ j = 1 ∨ j = 2 ∨ j = 3 ∨ j = 4 ∨ j = 5 := by omega
 all_goals exact hu
theorem enc_one (m : Ms) : ∀ u ∈ enc m, u.oneCell' = true := fun u hu => flat_one (l := [m]) (by rw [flat_cons, flat_nil, List.append_nil]; exact hu)
theorem le_max {n : Nat} (h : n ≤ 100000) : n + 1 ≤ maxLen := Nat.le_trans (Nat.succ_le_succ h) (by unfold maxLen; decide)
end Go.Proofs.Ytebejadiaooooaa.Cp
end
section
namespace Go.Proofs.Ytebejadiaooooaa.Cp
open Go.RowKit Go.Shelf Go.Proofs.YtebejadiaooooaaW.PrintWords Go.Proofs.YtebejadiaooooaaW.PrintLast Go.Proofs.YtebejadiaooooaaW.PrintMore Go.Proofs.Ytebejadiaooooaa.Own Go.Proofs.Ytebejadiaooooaa
set_option maxHeartbeats 4000000
set_option maxRecDepth 100000
theorem put_any (d : Int) (W : World) : Calls Try.prog 95 #[.int .u64 d] W fun e w' => e = .returned (.string (strOfNums (Wp.eight d))) ∧ Below W.heap.size W w' := P.word_Put.calls d _ W rfl
end Go.Proofs.Ytebejadiaooooaa.Cp
end
section
namespace Go.Proofs.Ytebejadiaooooaa.Cp
open Go.RowKit Go.Shelf Go.Proofs.YtebejadiaooooaaW.PrintWords Go.Proofs.YtebejadiaooooaaW.PrintLast Go.Proofs.YtebejadiaooooaaW.PrintMore Go.Proofs.Ytebejadiaooooaa.Own Go.Proofs.Ytebejadiaooooaa
set_option maxHeartbeats 4000000
set_option maxRecDepth 100000
def St (g cap : Nat) (l : List Ms) (p : Ms → Bool) (i j : Nat) (W : World) : Prop :=
 ∃ cur : Array Value, W.heap[g]? = some (.cells cur 32 (0, 0)) ∧ cur.size = cap * 6 ∧ cur.toList.take (i * 6) = flat ((l.take j).filter p) ∧ (cur.toList.drop (j * 6)).take ((l.length - j) * 6) = flat (l.drop j)
theorem St.below {g cap i j : Nat} {l : List Ms} {p : Ms → Bool} {W W' : World} (h : St g cap l p i j W) (hb : Below W.heap.size W W') : St g cap l p i j W' := by
 obtain ⟨cur, hh, h1, h2, h3⟩ := h
 exact ⟨cur, blk_below hh hb, h1, h2, h3⟩
theorem St.lt {g cap i j : Nat} {l : List Ms} {p : Ms → Bool} {W : World} (h : St g cap l p i j W) : g < W.heap.size := by
 obtain ⟨cur, hh, _⟩ := h
 exact (Array.getElem?_eq_some_iff.1 hh).1
theorem St.keep {g cap i j : Nat} {l : List Ms} {p : Ms → Bool} {W : World} (h : St g cap l p i j W) (hj : j < l.length) (hc : l.length ≤ cap) (hij : i < j) (hi : i = ((l.take j).filter p).length) {x : Ms} (hx : l[j]? = some x) (hp : p x = true) : St g cap l p (i + 1) (j + 1) (W.setCells g (i * 6) (enc x)) := by
 obtain ⟨cur, hh, h1, h2, h3⟩ := h
 obtain ⟨cur', hh', hcur⟩ := heap_setCells (enc x) (i * 6) W cur hh (by rw [enc_length]; omega)
 have hl : cur.toList.length = cap * 6 := by rw [Array.length_toList, h1]
 have hl' : cur'.toList.length = cap * 6 := by
  rw [hcur, List.length_append, List.length_append, List.length_take, List.length_drop, enc_length, hl]
  omega
 refine ⟨cur', hh', by rw [← Array.length_toList]; exact hl', ?_, ?_⟩
 ·rw [hcur, h2, List.take_add_one, hx, List.filter_append]
  have hfl : (flat ((l.take j).filter p)).length = i * 6 := by rw [flat_length, ← hi]
  rw [List.take_append_of_le_length (by rw [List.length_append, hfl, enc_length]; omega), List.take_of_length_le (by rw [List.length_append, hfl, enc_length]; omega)]
  simp [hp, flat_append, flat_cons, flat_nil]
 ·rw [hcur, List.drop_append, List.drop_append]
  have hfl : (cur.toList.take (i * 6)).length = i * 6 := by rw [List.length_take, hl]; omega
  rw [List.drop_of_length_le (by rw [hfl]; omega), List.drop_of_length_le (by rw [enc_length, hfl]; omega), List.drop_drop, List.length_append, hfl, enc_length]
  have h4 := congrArg (fun q => q.drop 6) h3
  simp only [List.drop_take, List.drop_drop] at h4
  rw [show i * 6 + 6 + ((j + 1) * 6 - (i * 6 + 6)) = j * 6 + 6 by omega, show (l.length - (j + 1)) * 6 = (l.length - j) * 6 - 6 by omega]
  simp only [List.nil_append]
  rw [h4]
  have := flat_drop (l.drop j) 1
  rw [List.drop_drop] at this
  simpa using this
end Go.Proofs.Ytebejadiaooooaa.Cp
end
section
namespace Go.Proofs.Ytebejadiaooooaa.Cp
open Go.RowKit Go.Shelf Go.Proofs.YtebejadiaooooaaW.PrintWords Go.Proofs.YtebejadiaooooaaW.PrintLast Go.Proofs.YtebejadiaooooaaW.PrintMore Go.Proofs.Ytebejadiaooooaa.Own Go.Proofs.Ytebejadiaooooaa
theorem cellsM {W : World} {D : Nat} {x : Ms} (h : W.heap[D]? = some (objM x)) : W.cell? ⟨D, 0, none⟩ = some (.int .u8 x.f0) ∧ W.cell? ⟨D, 1, none⟩ = some (.int .i64 x.f1) ∧ W.cell? ⟨D, 2, none⟩ = some (.string x.f2) ∧ W.cell? ⟨D, 3, none⟩ = some (.string x.f3) ∧ W.cell? ⟨D, 4, none⟩ = some (.string x.f4) ∧ W.cell? ⟨D, 5, none⟩ = some (.int .u64 x.f5) :=
 ⟨blk_cell h 0, blk_cell h 1, blk_cell h 2, blk_cell h 3, blk_cell h 4, blk_cell h 5⟩
theorem append_step {P : Program} {ops : Array Oper} {o : Oper} {a : Act} {w : World} {Q : Exit → Act → World → Prop} {Kc : Act → World → Prop} {N : Option Tmp} (hw : Region.wanted o (yielded ops a.tmps) = true) (hN : o.dst = N) (s x : Operand) (t : TypeId)
  (ho : o.op = .call { callee := .builtin .append, args := #[s, x], argTypes := #[t, t] })
  (base : Nat) (e : TypeId) (i : TypeInfo) (z : Value) (size bytes : Nat) (ht : P.underlying t = some (.slice e)) (hi : P.info? e = some i) (hz : i.zero = some z)
  (hsize : i.size = size) (hby : i.bytes = bytes) (hzs : z.cells.size = size) (hsz : 0 < size)
  (v : Value) (n : Nat) (xs : List Value) (hs : a.eval s = v) (hown : w.ownsRow base e size v n xs)
  (ad : Addr) (m c : Nat) (news : List Value) (hx : a.eval x = .slice (some ad) m c) (hl : news.length = m * size) (hnews : ∀ j u, news[j]? = some u → w.cell? (ad.add j) = some u) (h1 : ∀ u ∈ news, u.oneCell' = true)
  (h63 : n + m ≤ maxLen) (hbytes : (n + m) * bytes ≤ 140737488355328) (hbase : base ≤ w.heap.size)
  (h : ∀ v' w', w'.ownsRow base e size v' (n + m) (xs ++ news) → w.grownBy w' v.ownBlock → (v'.ownBlock = v.ownBlock ∨ v'.ownBlock = some w.heap.size) → Kc (a.put N v') w') :
  if Region.wanted o (yielded ops a.tmps) = true then Oper.wp P o a w Kc Q else Kc (a.put N undef) w := by
 rw [if_pos hw]
 subst hN
 obtain ⟨v', w', hr, h2, h3, h4, h5⟩ := run_append_own_at (P := P) w base t o.type e i z size bytes ht hi hz hsize hby hzs hsz v n xs hown ad m c news hl hnews h1 h63 hbytes hbase
 unfold Oper.wp
 simp [execOp, ho, resolve, invoke, builtin, hs, hx, hr, Result.andThen]
 exact h v' w' h2 h3 h5
end Go.Proofs.Ytebejadiaooooaa.Cp
end
section
namespace Go.Proofs.Ytebejadiaooooaa.Cp
open Go.RowKit Go.Shelf Go.Proofs.YtebejadiaooooaaW.PrintWords Go.Proofs.YtebejadiaooooaaW.PrintLast Go.Proofs.YtebejadiaooooaaW.PrintMore Go.Proofs.Ytebejadiaooooaa.Own Go.Proofs.Ytebejadiaooooaa
set_option maxHeartbeats 8000000
set_option maxRecDepth 100000
theorem right_any (f t : ByteArray) (W : World) : Calls Try.prog 53 #[.agg #[.string f, .string t]] W fun e w' => e = .returned (.bool (P.rr f t)) ∧ Below W.heap.size W w' := P.key_RightRange.calls _ _ _ W (P.RightRange_eq _ _)
end Go.Proofs.Ytebejadiaooooaa.Cp
end
