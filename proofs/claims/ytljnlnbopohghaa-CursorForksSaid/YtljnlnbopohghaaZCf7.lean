/- Texts of one claim (laid by shake.py). -/
import Derived.Test.YtljnlnbopohghaaZCf6
import Derived.Test.YtljnlnbopohghaaZCf3
import Derived.Lib.Strings
set_option linter.unusedVariables false
set_option linter.unusedSimpArgs false
section
namespace Go.Proofs.Ytljnlnbopohghaa.OrdSm
open Go.RowKit Go.Shelf Go.Proofs.YtljnlnbopohghaaW.PrintWords Go.Proofs.YtljnlnbopohghaaW.PrintLast Go.Proofs.YtljnlnbopohghaaW.PrintMore Go.Proofs.Ytljnlnbopohghaa.Own Go.Proofs.Ytljnlnbopohghaa.Ord
theorem ba_ext {a b : ByteArray} (h : a.toList = b.toList) : a = b := by
 cases a; cases b
 rw [Lib.toList_data, Lib.toList_data] at h
 congr 1
 exact Array.toList_inj.1 h
theorem lin : Lin (K := ByteArray) lt := ⟨fun a => Bo.irrefl _, fun h k => Bo.trans h k, fun h k => ba_ext (Bo.tri h k)⟩
theorem walkA_toL : ∀ T : Kn ByteArray ByteArray, walkA T = T.toL
 | .nil => rfl
 | .node _ _ _ l r => by rw [walkA, Kn.toL, walkA_toL l, walkA_toL r]
theorem walkB_toL (s : ByteArray) : ∀ T : Kn ByteArray ByteArray, Rise lt T.toL → walkB s T = T.toL.filter (fun x => !lt x.1 s)
 | .nil, _ => rfl
 | .node b k v l r, h => by
  obtain ⟨hl, hr, h1, h2⟩ := rise_node h
  unfold walkB
  by_cases hA : lt k s = true
  ·rw [if_pos hA, walkB_toL s r hr]
   have e1 : l.toL.filter (fun x => !lt x.1 s) = [] := fil_none fun x hx => by rw [lin.tr (h1 x hx) hA]; rfl
   simp only [Kn.toL, List.filter_append, List.filter_cons, e1, hA]
   simp
  rw [if_neg hA, walkB_toL s l hl, walkA_toL]
  have hA' : lt k s = false := by simpa using hA
  have e2 : r.toL.filter (fun x => !lt x.1 s) = r.toL := fil_all fun x hx => by
   cases q : lt x.1 s with
   | false => rfl
   | true => rw [lin.tr (h2 x hx) q] at hA'; cases hA'
  simp only [Kn.toL, List.filter_append, List.filter_cons, e2, hA']
  simp
def Hold (U : Nat → Prop) (w : World) (m : Nat) (L : List (ByteArray × ByteArray)) : Prop := ∃ T, Mp w m T ∧ T.toL = L ∧ Rise lt L ∧ ∀ x ∈ m :: T.bs, U x
theorem Hold.mono {U U' : Nat → Prop} {w : World} {m : Nat} {L : List (ByteArray × ByteArray)} (h : Hold U w m L) (hU : ∀ k, U k → U' k) : Hold U' w m L := by
 obtain ⟨T, h1, h2, h3, h4⟩ := h
 exact ⟨T, h1, h2, h3, fun x hx => hU x (h4 x hx)⟩
theorem Hold.bound {U : Nat → Prop} {w : World} {m : Nat} {L : List (ByteArray × ByteArray)} (h : Hold U w m L) : Hold (fun k => U k ∧ k < w.heap.size) w m L := by
 obtain ⟨T, h1, h2, h3, h4⟩ := h
 refine ⟨T, h1, h2, h3, fun x hx => ⟨h4 x hx, ?_⟩⟩
 rcases List.mem_cons.1 hx with rfl | hx
 ·exact blk_lt h1.blk
 exact in_lt h1.inn x hx
theorem Hold.frm {U : Nat → Prop} {w w' : World} {m : Nat} {L : List (ByteArray × ByteArray)} (h : Hold U w m L) {M : Nat → Prop} (f : It.FrM M w w') (hM : ∀ k, U k → k < w.heap.size → ¬ M k) : Hold U w' m L := by
 obtain ⟨T, hT, h2, h3, h4⟩ := h
 have f' : Fr ((List.range w.heap.size).filter (fun k => decide (k ∉ m :: T.bs))) w w' := ⟨f.os, f.tape, f.output, f.size, fun k hk hn => f.block k hk (hM k (by
  refine h4 k ?_
  by_cases q : k ∈ m :: T.bs
  ·exact q
  exact absurd (List.mem_filter.2 ⟨List.mem_range.2 hk, by simpa using q⟩) hn) hk)⟩
 refine ⟨T, hT.fr f' (fun hm => ?_) (fun x hx hm => ?_), h2, h3, h4⟩
 ·have := (List.mem_filter.1 hm).2
  simp at this
 have := (List.mem_filter.1 hm).2
 simp only [decide_eq_true_eq] at this
 exact this (List.mem_cons_of_mem _ hx)
theorem Hold.below {U : Nat → Prop} {w w' : World} {m : Nat} {L : List (ByteArray × ByteArray)} (h : Hold U w m L) (b : Below w.heap.size w w') : Hold U w' m L :=
 h.frm (It.FrM.of_below (M := fun _ => False) b) (fun _ _ _ q => q)
theorem Hold.putObj {U : Nat → Prop} {w : World} {m : Nat} {L : List (ByteArray × ByteArray)} (h : Hold U w m L) {D : Nat} {o : Obj} (o' : Obj) (hD : w.heap[D]? = some o) (ho : o.isCells = false) : Hold U (w.putObj D o') m L := by
 obtain ⟨T, hM, h2, h3, h4⟩ := h
 refine ⟨T, hM.fr (B := [D]) ⟨rfl, rfl, rfl, by simp, fun k _ hn => World.putObj_heap_other (by simp at hn; omega)⟩ (fun hm => ?_) (fun x hx hm => ?_), h2, h3, h4⟩
 ·obtain rfl : m = D := by simpa using hm
  rw [hM.blk] at hD; cases hD; cases ho
 obtain rfl : x = D := by simpa using hm
 obtain ⟨cells, hc⟩ := in_typed hM.inn x hx
 rw [hc] at hD; cases hD; cases ho
theorem hold_len {U : Nat → Prop} {w : World} {m : Nat} {L : List (ByteArray × ByteArray)} (h : Hold U w m L) :
  Calls Try.prog 54 #[.pointer (some ⟨m, 0, none⟩)] w fun e w' => e = .returned (.int .i64 L.length) ∧ w' = w := by
 obtain ⟨T, hM, rfl, hr, hB⟩ := h
 have := len_any hM
 rw [Kn.cnt_len] at this
 exact this
theorem hold_from_iter (n Bb Bk : Nat) {U : Nat → Prop} {w0 w : World} {m : Nat} {L : List (ByteArray × ByteArray)} (h : Hold U w0 m L) (hw : Below w0.heap.size w0 w) (s : ByteArray) (hBb : Bb < w.heap.size) (hBk : Bk < w.heap.size) (hc : w.cell? ⟨Bb, 0, none⟩ = some (.pointer (some ⟨m, 0, none⟩))) (hk : w.cell? ⟨Bk, 0, none⟩ = some (.string s)) :
  ∃ S : Nat → Prop, (∀ k, S k → (k = Bb ∨ k = Bk ∨ (U k ∧ k < w0.heap.size)) ∧ k < w.heap.size) ∧ It.Iter Fence.wide n Try.prog 99 #[.pointer (some ⟨Bb, 0, none⟩), .pointer (some ⟨Bk, 0, none⟩)] (fun x : ByteArray × ByteArray => #[.string x.1, .string x.2]) (fun ys => ys = L.filter (fun x => !lt x.1 s)) (fun pre => pre <+: L.filter (fun x => !lt x.1 s)) (L.filter (fun x => !lt x.1 s)).length S w := by
 obtain ⟨T, hM, rfl, hr, hB⟩ := h
 have hlt := in_lt hM.inn
 have hml := blk_lt hM.blk
 have hM' := hM.below hw
 have hsz := hw.size
 have hS : ∀ k, (k = Bb ∨ k = Bk ∨ k ∈ m :: T.bs) → (k = Bb ∨ k = Bk ∨ (U k ∧ k < w0.heap.size)) ∧ k < w.heap.size := by
  rintro k (rfl | rfl | hk)
  ·exact ⟨.inl rfl, hBb⟩
  ·exact ⟨.inr (.inl rfl), hBk⟩
  have h1 : k < w0.heap.size := by
   rcases List.mem_cons.1 hk with rfl | hk
   ·exact hml
   exact hlt k hk
  exact ⟨.inr (.inr ⟨hB k hk, h1⟩), by omega⟩
 refine ⟨fun k => k = Bb ∨ k = Bk ∨ k ∈ m :: T.bs, hS, ?_⟩
 have := from_iter n Bb Bk (fun k => k = Bb ∨ k = Bk ∨ k ∈ m :: T.bs) (some ⟨m, 0, none⟩) s T w (fun k hk => (hS k hk).2) (.inl rfl) hc hk (.inr (.inl rfl)) ⟨.inr (.inr List.mem_cons_self), blk_cell hM'.blk 0, hM'.inn, fun x hx => .inr (.inr (List.mem_cons_of_mem _ hx))⟩
 rw [walkB_toL s T hr] at this
 exact this
end Go.Proofs.Ytljnlnbopohghaa.OrdSm
end
section
namespace Go.Proofs.Ytljnlnbopohghaa.P
open Go.RowKit Go.Proofs.YtljnlnbopohghaaW.PrintWords Go.Proofs.YtljnlnbopohghaaW.PrintLast Go.Proofs.YtljnlnbopohghaaW.PrintMore Go.Proofs.Ytljnlnbopohghaa.Own Go.Proofs.Ytljnlnbopohghaa
theorem ba_ext {a b : ByteArray} (h : a.toList = b.toList) : a = b := by
 rw [Lib.toList_data, Lib.toList_data] at h
 cases a; cases b
 simp only [ByteArray.mk.injEq]
 exact Array.toList_inj.1 h
theorem ba_mk (l : Array UInt8) : (⟨l⟩ : ByteArray).toList = l.toList := by rw [Lib.toList_data]
theorem ba_size (a : ByteArray) : a.size = a.toList.length := by rw [Lib.toList_data]; simp
def lt (a b : ByteArray) : Bool := Op.bytesLess a.toList b.toList
def emp (a : ByteArray) : Bool := decide (a.toList = [])
def same (a b : ByteArray) : Bool := decide (a.toList = b.toList)
abbrev e0 : ByteArray := ⟨#[]⟩
def rr (f t : ByteArray) : Bool := emp t || lt f t
def holds (f t s : ByteArray) : Bool := !lt s f && (emp t || lt s t)
def before (a b : ByteArray) : Bool := !emp a && (emp b || lt a b)
theorem lt_irrefl (a : ByteArray) : lt a a = false := Bo.irrefl _
theorem lt_trans {a b c : ByteArray} (h : lt a b = true) (k : lt b c = true) : lt a c = true := Bo.trans h k
theorem lt_tri (a b : ByteArray) : lt a b = true ∨ a = b ∨ lt b a = true := by
 rcases Bo.le_or a.toList b.toList with h | h | h
 ·exact .inl h
 ·exact .inr (.inl (ba_ext h))
 exact .inr (.inr h)
theorem le_trans {s b c : ByteArray} (h : lt s b = false) (k : lt b c = false) : lt s c = false := by
 cases q : lt s c with
 | false => rfl
 | true =>
  rcases lt_tri s b with h1 | h1 | h1
  ·rw [h] at h1; cases h1
  ·subst h1; rw [k] at q; cases q
  rw [lt_trans h1 q] at k; cases k
end Go.Proofs.Ytljnlnbopohghaa.P
end
