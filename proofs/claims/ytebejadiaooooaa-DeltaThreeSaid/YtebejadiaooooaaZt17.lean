/- Texts of one claim (laid by shake.py). -/
import Derived.Test.YtebejadiaooooaaZt16
import Derived.Test.YtebejadiaooooaaZt3
import Derived.Lib.Strings
import Derived.Test.YtebejadiaooooaaZt13
import Derived.StillTailTactics
set_option linter.unusedVariables false
set_option linter.unusedSimpArgs false
section
namespace Go.Proofs.Ytebejadiaooooaa.OrdSs
open Go.RowKit Go.Shelf Go.Proofs.YtebejadiaooooaaW.PrintWords Go.Proofs.YtebejadiaooooaaW.PrintLast Go.Proofs.YtebejadiaooooaaW.PrintMore Go.Proofs.Ytebejadiaooooaa.Own Go.Proofs.Ytebejadiaooooaa.Ord
theorem ba_ext {a b : ByteArray} (h : a.toList = b.toList) : a = b := by
 cases a; cases b
 rw [Lib.toList_data, Lib.toList_data] at h
 congr 1
 exact Array.toList_inj.1 h
theorem lin : Lin (K := ByteArray) lt := ⟨fun a => Bo.irrefl _, fun h k => Bo.trans h k, fun h k => ba_ext (Bo.tri h k)⟩
theorem walkA_toL : ∀ T : Kn ByteArray ByteArray, walkA T = T.toL
 | .nil => rfl
 | .node _ _ _ l r => by rw [walkA, Kn.toL, walkA_toL l, walkA_toL r]
theorem walkB_toL (s : ByteArray) : ∀ T : Kn ByteArray ByteArray, Rise lt T.toL → walkB s T = T.toL.filter (fun x => !lt x.1 s)
 | .nil, _ => rfl
 | .node b k v l r, h => by
  obtain ⟨hl, hr, h1, h2⟩ := rise_node h
  unfold walkB
  by_cases hA : lt k s = true
  ·rw [if_pos hA, walkB_toL s r hr]
   have e1 : l.toL.filter (fun x => !lt x.1 s) = [] := fil_none fun x hx => by rw [lin.tr (h1 x hx) hA]; rfl
   simp only [Kn.toL, List.filter_append, List.filter_cons, e1, hA]
   simp
  ·rw [if_neg hA, walkB_toL s l hl, walkA_toL]
   have hA' : lt k s = false := by simpa using hA
   have e2 : r.toL.filter (fun x => !lt x.1 s) = r.toL := fil_all fun x hx => by
    cases q : lt x.1 s with
    | false => rfl
    | true => rw [lin.tr (h2 x hx) q] at hA'; cases hA'
   simp only [Kn.toL, List.filter_append, List.filter_cons, e2, hA']
   simp
theorem takeWhile_rise (b : ByteArray) : ∀ l : List (ByteArray × ByteArray), Rise lt l → l.takeWhile (fun x => lt x.1 b) = l.filter (fun x => lt x.1 b)
 | [], _ => rfl
 | x :: l, h => by
  rw [Rise, List.pairwise_cons] at h
  rw [List.takeWhile_cons, List.filter_cons]
  cases hx : lt x.1 b with
  | true => simp only [if_true]; rw [takeWhile_rise b l h.2]
  | false =>
   simp only [Bool.false_eq_true, if_false]
   rw [fil_none]
   intro y hy
   cases q : lt y.1 b with
   | false => rfl
   | true => rw [lin.tr (h.1 y hy) q] at hx; cases hx
theorem cutL_eq (s b : ByteArray) (T : Kn ByteArray ByteArray) (h : Rise lt T.toL) : cutL s b T = (T.toL.filter (fun x => !lt x.1 s && lt x.1 b)).map (·.1) := by
 unfold cutL
 rw [walkB_toL s T h, takeWhile_rise b _ (h.filter _), List.filter_filter]
 congr 1
 apply List.filter_congr
 intro x _
 rw [Bool.and_comm]
theorem dropAll_toL : ∀ (l : List ByteArray) (T : Kn ByteArray ByteArray), Rise lt T.toL → (dropAll l T).toL = T.toL.filter (fun x => l.all (fun k => lt x.1 k || lt k x.1)) ∧ Rise lt (dropAll l T).toL
 | [], T, h => ⟨(fil_all (fun _ _ => rfl)).symm, h⟩
 | k :: l, T, h => by
  have e := drop_toL lin k T h
  have h2 : Rise lt (Kn.drop lt k T).toL := by rw [e]; exact del_rise k h
  obtain ⟨i1, i2⟩ := dropAll_toL l (Kn.drop lt k T) h2
  refine ⟨?_, i2⟩
  show (dropAll l (Kn.drop lt k T)).toL = _
  rw [i1, e, del, List.filter_filter]
  apply List.filter_congr
  intro x _
  rw [List.all_cons, Bool.and_comm]
def cutM (s b : ByteArray) (l : List (ByteArray × ByteArray)) : List (ByteArray × ByteArray) := l.filter (fun x => lt x.1 s || !lt x.1 b)
theorem cut_toL (s b : ByteArray) (T : Kn ByteArray ByteArray) (h : Rise lt T.toL) : (dropAll (cutL s b T) T).toL = cutM s b T.toL ∧ Rise lt (cutM s b T.toL) := by
 obtain ⟨e, r⟩ := dropAll_toL (cutL s b T) T h
 have e2 : (dropAll (cutL s b T) T).toL = cutM s b T.toL := by
  rw [e, cutM]
  apply List.filter_congr
  intro x hx
  rw [cutL_eq s b T h]
  cases hA : lt x.1 s with
  | true =>
   simp only [Bool.true_or, List.all_eq_true, List.mem_map, List.mem_filter, Bool.and_eq_true, Bool.not_eq_true']
   rintro k ⟨y, ⟨_, h1, _⟩, rfl⟩
   have : lt x.1 y.1 = true := by
    cases q : lt x.1 y.1 with
    | true => rfl
    | false =>
     cases q2 : lt y.1 x.1 with
     | true => rw [lin.tr q2 hA] at h1; cases h1
     | false => rw [lin.tri q q2] at hA; rw [hA] at h1; cases h1
   rw [this]; rfl
  | false =>
   cases hB : lt x.1 b with
   | true =>
    simp only [Bool.false_or, Bool.not_true]
    rw [List.all_eq_false]
    exact ⟨x.1, List.mem_map.2 ⟨x, List.mem_filter.2 ⟨hx, by rw [hA, hB]; rfl⟩, rfl⟩, by rw [lin.irr]; decide⟩
   | false =>
    simp only [Bool.false_or, Bool.not_false, List.all_eq_true, List.mem_map, List.mem_filter, Bool.and_eq_true, Bool.not_eq_true']
    rintro k ⟨y, ⟨_, _, h1⟩, rfl⟩
    have : lt y.1 x.1 = true := by
     cases q : lt y.1 x.1 with
     | true => rfl
     | false =>
      cases q2 : lt x.1 y.1 with
      | true => rw [lin.tr q2 h1] at hB; cases hB
      | false => rw [lin.tri q q2] at h1; rw [h1] at hB; cases hB
    rw [this, Bool.or_true]
 exact ⟨e2, e2 ▸ r⟩
theorem got_look (key : ByteArray) (T : Kn ByteArray ByteArray) (h : Rise lt T.toL) : got key T = match lookK lt key T.toL with | some v => (v, true) | none => (ByteArray.empty, false) := by
 rw [← find_look lin key T h]
 unfold got
 cases Kn.find lt key T <;> rfl
def Hold (U : Nat → Prop) (w : World) (m : Nat) (L : List (ByteArray × ByteArray)) : Prop := ∃ T, Mp w m T ∧ T.toL = L ∧ Rise lt L ∧ ∀ x ∈ m :: T.bs, U x
theorem Hold.mono {U U' : Nat → Prop} {w : World} {m : Nat} {L : List (ByteArray × ByteArray)} (h : Hold U w m L) (hU : ∀ k, U k → U' k) : Hold U' w m L := by
 obtain ⟨T, h1, h2, h3, h4⟩ := h
 exact ⟨T, h1, h2, h3, fun x hx => hU x (h4 x hx)⟩
theorem Hold.rise {U : Nat → Prop} {w : World} {m : Nat} {L : List (ByteArray × ByteArray)} (h : Hold U w m L) : Rise lt L := by obtain ⟨T, h1, h2, h3, h4⟩ := h; exact h3
theorem Hold.bound {U : Nat → Prop} {w : World} {m : Nat} {L : List (ByteArray × ByteArray)} (h : Hold U w m L) : Hold (fun k => U k ∧ k < w.heap.size) w m L := by
 obtain ⟨T, h1, h2, h3, h4⟩ := h
 refine ⟨T, h1, h2, h3, fun x hx => ⟨h4 x hx, ?_⟩⟩
 rcases List.mem_cons.1 hx with rfl | hx
 ·exact blk_lt h1.blk
 ·exact in_lt h1.inn x hx
theorem Hold.frm {U : Nat → Prop} {w w' : World} {m : Nat} {L : List (ByteArray × ByteArray)} (h : Hold U w m L) {M : Nat → Prop} (f : It.FrM M w w') (hM : ∀ k, U k → k < w.heap.size → ¬ M k) : Hold U w' m L := by
 obtain ⟨T, hT, h2, h3, h4⟩ := h
 have f' : Fr ((List.range w.heap.size).filter (fun k => decide (k ∉ m :: T.bs))) w w' := ⟨f.os, f.tape, f.output, f.size, fun k hk hn => f.block k hk (hM k (by
  refine h4 k ?_
  by_cases q : k ∈ m :: T.bs
  ·exact q
  ·exact absurd (List.mem_filter.2 ⟨List.mem_range.2 hk, by simpa using q⟩) hn) hk)⟩
 refine ⟨T, hT.fr f' (fun hm => ?_) (fun x hx hm => ?_), h2, h3, h4⟩
 ·have := (List.mem_filter.1 hm).2
  simp at this
 ·have := (List.mem_filter.1 hm).2
  simp only [decide_eq_true_eq] at this
  exact this (List.mem_cons_of_mem _ hx)
theorem Hold.below {U : Nat → Prop} {w w' : World} {m : Nat} {L : List (ByteArray × ByteArray)} (h : Hold U w m L) (b : Below w.heap.size w w') : Hold U w' m L :=
 h.frm (It.FrM.of_below (M := fun _ => False) b) (fun _ _ _ q => q)
theorem Hold.putObj {U : Nat → Prop} {w : World} {m : Nat} {L : List (ByteArray × ByteArray)} (h : Hold U w m L) {D : Nat} {o : Obj} (o' : Obj) (hD : w.heap[D]? = some o) (ho : o.isCells = false) : Hold U (w.putObj D o') m L := by
 obtain ⟨T, hM, h2, h3, h4⟩ := h
 refine ⟨T, hM.fr (B := [D]) ⟨rfl, rfl, rfl, by simp, fun k _ hn => World.putObj_heap_other (by simp at hn; omega)⟩ (fun hm => ?_) (fun x hx hm => ?_), h2, h3, h4⟩
 ·obtain rfl : m = D := by simpa using hm
  rw [hM.blk] at hD; cases hD; cases ho
 ·obtain rfl : x = D := by simpa using hm
  obtain ⟨cells, hc⟩ := in_typed hM.inn x hx
  rw [hc] at hD; cases hD; cases ho
theorem frm_of_fr {B : List Nat} {U : Nat → Prop} {w w' : World} (f : Fr B w w') (hB : ∀ k ∈ B, U k) : It.FrM U w w' := ⟨f.os, f.tape, f.output, f.size, fun k hk hn => f.block k hk (fun hm => hn (hB k hm))⟩
theorem hold_new (w : World) : Calls Try.prog 97 #[] w fun e w' => ∃ m, e = .returned (.pointer (some ⟨m, 0, none⟩)) ∧ Hold (fun k => w.heap.size ≤ k) w' m [] ∧ Below w.heap.size w w' :=
 (new_any w).mono (by
  rintro e w' ⟨m, hm, rfl, hM, fr⟩
  exact ⟨m, rfl, ⟨.nil, hM, rfl, List.Pairwise.nil, by simp [Kn.bs]; exact hm⟩, fr.below (by simp) (Nat.le_refl _)⟩)
theorem hold_put {U : Nat → Prop} {w : World} {m : Nat} {L : List (ByteArray × ByteArray)} (h : Hold U w m L) (hU : ∀ k, w.heap.size ≤ k → U k) (hl : L.length < 1000000) (k : ByteArray) (v : ByteArray) :
  Calls Try.prog 98 #[.pointer (some ⟨m, 0, none⟩), .string k, .string v] w fun e w' => (∃ b, e = .returned (.bool b)) ∧ Hold U w' m (ins lt k v L) ∧ It.FrM U w w' := by
 obtain ⟨T, hM, rfl, hr, hB⟩ := h
 have hc := Kn.cnt_len T
 refine (mput_any k v hM (by omega)).mono ?_
 rintro e w' ⟨nb, hnb, rfl, hM', fr⟩
 have ht := put_toL lin nb k v T hr
 refine ⟨⟨_, rfl⟩, ⟨_, hM', ht, ins_rise lin k v hr, fun x hx => ?_⟩, frm_of_fr fr hB⟩
 rcases List.mem_cons.1 hx with rfl | hx
 ·exact hB _ List.mem_cons_self
 ·rcases Kn.put_mem hx with e | e
  ·exact hU _ (by omega)
  ·exact hB _ (List.mem_cons_of_mem _ e)
theorem hold_get {U : Nat → Prop} {w : World} {m : Nat} {L : List (ByteArray × ByteArray)} (h : Hold U w m L) (k : ByteArray) :
  Calls Try.prog 72 #[.pointer (some ⟨m, 0, none⟩), .string k] w fun e w' => e = .returned (.tuple #[.string ((lookK lt k L).getD (ByteArray.empty)), .bool (lookK lt k L).isSome]) ∧ w' = w := by
 obtain ⟨T, hM, rfl, hr, hB⟩ := h
 have := get_any k hM
 rw [got_look k T hr] at this
 cases hq : lookK lt k T.toL with
 | none => rw [hq] at this; exact this
 | some v => rw [hq] at this; exact this
theorem hold_drop {U : Nat → Prop} {w : World} {m : Nat} {L : List (ByteArray × ByteArray)} (h : Hold U w m L) (hl : L.length < 1000000) (k : ByteArray) :
  Calls Try.prog 100 #[.pointer (some ⟨m, 0, none⟩), .string k] w fun e w' => (∃ b, e = .returned (.bool b)) ∧ Hold U w' m (del lt k L) ∧ It.FrM U w w' := by
 obtain ⟨T, hM, rfl, hr, hB⟩ := h
 have hc := Kn.cnt_len T
 refine (mdrop_any k hM (by omega)).mono ?_
 rintro e w' ⟨rfl, hM', fr⟩
 have ht := drop_toL lin k T hr
 refine ⟨⟨_, rfl⟩, ⟨_, hM', ht, del_rise k hr, fun x hx => ?_⟩, frm_of_fr fr hB⟩
 rcases List.mem_cons.1 hx with rfl | hx
 ·exact hB _ List.mem_cons_self
 ·exact hB _ (List.mem_cons_of_mem _ (Kn.drop_mem hx))
theorem hold_cut {U : Nat → Prop} {w : World} {m : Nat} {L : List (ByteArray × ByteArray)} (h : Hold U w m L) (hl : L.length < 1000000) (a b : ByteArray) :
  Calls Try.prog 120 #[.pointer (some ⟨m, 0, none⟩), .string a, .string b] w fun e w' => (∃ n, e = .returned (.int .i64 n)) ∧ Hold U w' m (cutM a b L) ∧ It.FrM U w w' := by
 obtain ⟨T, hM, rfl, hr, hB⟩ := h
 have hc := Kn.cnt_len T
 refine (cut_any a b (p := some ⟨m, 0, none⟩) ⟨rfl, hM⟩ (by omega) (by rw [walkB_toL a T hr, hc]; have := List.length_filter_le (fun x : ByteArray × ByteArray => !lt x.1 a) T.toL; omega)).mono ?_
 rintro e w' ⟨rfl, hM', fr⟩
 obtain ⟨h1, h2⟩ := cut_toL a b T hr
 refine ⟨⟨_, rfl⟩, ⟨_, hM'.2, h1, h2, fun x hx => ?_⟩, frm_of_fr fr (fun k hk => ?_)⟩
 ·rcases List.mem_cons.1 hx with rfl | hx
  ·exact hB _ List.mem_cons_self
  ·exact hB _ (List.mem_cons_of_mem _ (dropAll_mem _ _ _ hx))
 ·simp only [mb, List.singleton_append] at hk
  exact hB k hk
theorem hold_all_iter (n Bb : Nat) {U : Nat → Prop} {w0 w : World} {m : Nat} {L : List (ByteArray × ByteArray)} (h : Hold U w0 m L) (hw : Below w0.heap.size w0 w) (hBb : Bb < w.heap.size) (hc : w.cell? ⟨Bb, 0, none⟩ = some (.pointer (some ⟨m, 0, none⟩))) :
  ∃ S : Nat → Prop, (∀ k, S k → (k = Bb ∨ (U k ∧ k < w0.heap.size)) ∧ k < w.heap.size) ∧ It.Iter Fence.wide n Try.prog 101 #[.pointer (some ⟨Bb, 0, none⟩)] (fun x : ByteArray × ByteArray => #[.string x.1, .string x.2]) (fun ys => ys = L) (fun pre => pre <+: L) L.length S w := by
 obtain ⟨T, hM, rfl, hr, hB⟩ := h
 have hlt := in_lt hM.inn
 have hml := blk_lt hM.blk
 have hM' := hM.below hw
 have hsz := hw.size
 refine ⟨fun k => k = Bb ∨ k ∈ m :: T.bs, ?_, ?_⟩
 ·rintro k (rfl | hk)
  ·exact ⟨.inl rfl, hBb⟩
  ·have h1 : k < w0.heap.size := by
    rcases List.mem_cons.1 hk with rfl | hk
    ·exact hml
    ·exact hlt k hk
   exact ⟨.inr ⟨hB k hk, h1⟩, by omega⟩
 ·have := all_iter n Bb (fun k => k = Bb ∨ k ∈ m :: T.bs) (some ⟨m, 0, none⟩) T w ?_ (.inl rfl) hc ⟨.inr List.mem_cons_self, blk_cell hM'.blk 0, hM'.inn, fun x hx => .inr (List.mem_cons_of_mem _ hx)⟩
  ·rw [walkA_toL] at this
   exact this
  ·rintro k (rfl | hk)
   ·exact hBb
   ·rcases List.mem_cons.1 hk with rfl | hk
    ·omega
    ·have := hlt k hk; omega
theorem hold_from_iter (n Bb Bk : Nat) {U : Nat → Prop} {w0 w : World} {m : Nat} {L : List (ByteArray × ByteArray)} (h : Hold U w0 m L) (hw : Below w0.heap.size w0 w) (s : ByteArray) (hBb : Bb < w.heap.size) (hBk : Bk < w.heap.size) (hc : w.cell? ⟨Bb, 0, none⟩ = some (.pointer (some ⟨m, 0, none⟩))) (hk : w.cell? ⟨Bk, 0, none⟩ = some (.string s)) :
  ∃ S : Nat → Prop, (∀ k, S k → (k = Bb ∨ k = Bk ∨ (U k ∧ k < w0.heap.size)) ∧ k < w.heap.size) ∧ It.Iter Fence.wide n Try.prog 117 #[.pointer (some ⟨Bb, 0, none⟩), .pointer (some ⟨Bk, 0, none⟩)] (fun x : ByteArray × ByteArray => #[.string x.1, .string x.2]) (fun ys => ys = L.filter (fun x => !lt x.1 s)) (fun pre => pre <+: L.filter (fun x => !lt x.1 s)) (L.filter (fun x => !lt x.1 s)).length S w := by
 obtain ⟨T, hM, rfl, hr, hB⟩ := h
 have hlt := in_lt hM.inn
 have hml := blk_lt hM.blk
 have hM' := hM.below hw
 have hsz := hw.size
 have hS : ∀ k, (k = Bb ∨ k = Bk ∨ k ∈ m :: T.bs) → (k = Bb ∨ k = Bk ∨ (U k ∧ k < w0.heap.size)) ∧ k < w.heap.size := by
  rintro k (rfl | rfl | hk)
  ·exact ⟨.inl rfl, hBb⟩
  ·exact ⟨.inr (.inl rfl), hBk⟩
  ·have h1 : k < w0.heap.size := by
    rcases List.mem_cons.1 hk with rfl | hk
    ·exact hml
    ·exact hlt k hk
   exact ⟨.inr (.inr ⟨hB k hk, h1⟩), by omega⟩
 refine ⟨fun k => k = Bb ∨ k = Bk ∨ k ∈ m :: T.bs, hS, ?_⟩
 have := from_iter n Bb Bk (fun k => k = Bb ∨ k = Bk ∨ k ∈ m :: T.bs) (some ⟨m, 0, none⟩) s T w (fun k hk => (hS k hk).2) (.inl rfl) hc hk (.inr (.inl rfl)) ⟨.inr (.inr List.mem_cons_self), blk_cell hM'.blk 0, hM'.inn, fun x hx => .inr (.inr (List.mem_cons_of_mem _ hx))⟩
 rw [walkB_toL s T hr] at this
 exact this
end Go.Proofs.Ytebejadiaooooaa.OrdSs
end
section
namespace Go.Proofs.Ytebejadiaooooaa.Fo
open Go.RowKit Go.Proofs.YtebejadiaooooaaW.PrintWords Go.Proofs.YtebejadiaooooaaW.PrintLast Go.Proofs.YtebejadiaooooaaW.PrintMore Go.Proofs.Ytebejadiaooooaa.Own Go.Proofs.Ytebejadiaooooaa.Ord Go.Proofs.Ytebejadiaooooaa
abbrev Row := List (ByteArray × ByteArray)
open Go.Proofs.Ytebejadiaooooaa.OrdSs (lt)
abbrev Ms := P.Ms
abbrev En := P.En
def tab1 (L : Row) (x : En) : Row := if (lookK lt x.f0 L).isSome = true then L else ins lt x.f0 x.f1 L
def tabFrom : Row → List En → Row
  | L, [] => L
  | L, x :: e => tabFrom (tab1 L x) e
def tabV (e : List En) : Row := tabFrom [] e
def clearV (f t : ByteArray) (L : Row) : Row := L.filter (fun x => !P.holds f t x.1)
def msgV (m : Ms) (L : Row) : Row :=
  if m.f0 = 4 then clearV m.f2 m.f3 L
  else if P.isPt m.f0 = true then
    (let p := P.applyV m.f0 m.f4 m.f5 ((lookK lt m.f2 L).getD P.e0) (lookK lt m.f2 L).isSome
     if p.2 = true then ins lt m.f2 p.1 L else del lt m.f2 L)
  else L
def msgsFrom : Row → List Ms → Row
  | L, [] => L
  | L, m :: l => msgsFrom (msgV m L) l
def foldV (l : List Ms) (e : List En) : Row := msgsFrom (tabV e) l
theorem ins_len (k v : ByteArray) (L : Row) (h : Rise lt L) : (ins lt k v L).length ≤ L.length + 1 := by
  have hd : ∀ x : ByteArray × ByteArray, ¬ (lt x.1 k = true ∧ lt k x.1 = true) := fun x ⟨a, b⟩ => by have := OrdSs.lin.asym a; rw [this] at b; cases b
  have key : ∀ l : Row, (l.filter (fun x => lt x.1 k)).length + (l.filter (fun x => lt k x.1)).length ≤ l.length := by
    intro l
    induction l with
    | nil => simp
    | cons x l ih =>
      rw [List.filter_cons, List.filter_cons]
      have := hd x
      cases h1 : lt x.1 k <;> cases h2 : lt k x.1 <;> simp_all <;> omega
  have := key L
  unfold ins
  rw [List.length_append, List.length_cons]
  omega
theorem tab1_rise {L : Row} (h : Rise lt L) (x : En) : Rise lt (tab1 L x) ∧ (tab1 L x).length ≤ L.length + 1 := by
  unfold tab1
  split
  · exact ⟨h, by omega⟩
  · exact ⟨ins_rise OrdSs.lin _ _ h, ins_len _ _ _ h⟩
theorem tabFrom_rise : ∀ (e : List En) {L : Row}, Rise lt L → Rise lt (tabFrom L e) ∧ (tabFrom L e).length ≤ L.length + e.length
  | [], L, h => ⟨h, by simp [tabFrom]⟩
  | x :: e, L, h => by
    obtain ⟨a, b⟩ := tab1_rise h x
    obtain ⟨c, d⟩ := tabFrom_rise e a
    exact ⟨c, by simp only [tabFrom, List.length_cons]; omega⟩
theorem tab_rise (e : List En) : Rise lt (tabV e) ∧ (tabV e).length ≤ e.length := by
  have := tabFrom_rise e (L := []) List.Pairwise.nil
  exact ⟨this.1, by have h := this.2; simp at h; exact h⟩
theorem msgV_rise {L : Row} (h : Rise lt L) (m : Ms) : Rise lt (msgV m L) ∧ (msgV m L).length ≤ L.length + 1 := by
  unfold msgV
  split
  · exact ⟨h.filter _, by have := List.length_filter_le (fun x : ByteArray × ByteArray => !P.holds m.f2 m.f3 x.1) L; unfold clearV; omega⟩
  · split
    · simp only
      split
      · exact ⟨ins_rise OrdSs.lin _ _ h, ins_len _ _ _ h⟩
      · exact ⟨h.filter _, by have := List.length_filter_le (fun x : ByteArray × ByteArray => lt x.1 m.f2 || lt m.f2 x.1) L; unfold del; omega⟩
    · exact ⟨h, by omega⟩
theorem msgs_rise : ∀ (l : List Ms) {L : Row}, Rise lt L → Rise lt (msgsFrom L l) ∧ (msgsFrom L l).length ≤ L.length + l.length
  | [], L, h => ⟨h, by simp [msgsFrom]⟩
  | m :: l, L, h => by
    obtain ⟨a, b⟩ := msgV_rise h m
    obtain ⟨c, d⟩ := msgs_rise l a
    exact ⟨c, by simp only [msgsFrom, List.length_cons]; omega⟩
theorem fold_rise (l : List Ms) (e : List En) : Rise lt (foldV l e) ∧ (foldV l e).length ≤ l.length + e.length := by
  obtain ⟨a, b⟩ := tab_rise e
  obtain ⟨c, d⟩ := msgs_rise l a
  exact ⟨c, by unfold foldV; omega⟩
theorem tabFrom_snoc : ∀ (e : List En) (L : Row) (x : En), tabFrom L (e ++ [x]) = tab1 (tabFrom L e) x
  | [], _, _ => rfl
  | y :: e, L, x => tabFrom_snoc e (tab1 L y) x
theorem msgsFrom_snoc : ∀ (l : List Ms) (L : Row) (m : Ms), msgsFrom L (l ++ [m]) = msgV m (msgsFrom L l)
  | [], _, _ => rfl
  | y :: l, L, m => msgsFrom_snoc l (msgV y L) m
def heldV (f t : ByteArray) (L : Row) : Row := if P.rr f t = true then L.filter (fun x => P.holds f t x.1) else []
def toE (x : ByteArray × ByteArray) : En := ⟨x.1, x.2⟩
end Go.Proofs.Ytebejadiaooooaa.Fo
end
section
namespace Go.Proofs.Ytebejadiaooooaa.OrdSb
open Go.RowKit Go.Proofs.YtebejadiaooooaaW.PrintWords Go.Proofs.YtebejadiaooooaaW.PrintLast Go.Proofs.YtebejadiaooooaaW.PrintMore Go.Proofs.Ytebejadiaooooaa.Own Go.Proofs.Ytebejadiaooooaa.Ord
def In (w : World) : Kn ByteArray Bool → Prop
 | .nil => True
 | .node b k v l r => w.heap[b]? = some (.cells #[.string k, .bool v, .pointer l.adr, .pointer r.adr, .int .i64 (Kn.node b k v l r).hgt, .int .i64 (Kn.node b k v l r).cnt] 139 (0, 0)) ∧ In w l ∧ In w r
theorem in_fr {w w' : World} {B : List Nat} (h : Fr B w w') : ∀ {T : Kn ByteArray Bool}, In w T → (∀ x ∈ T.bs, x ∉ B) → In w' T
 | .nil, _, _ => trivial
 | .node b k v l r, hi, hn => ⟨h.blk hi.1 (hn b (by simp [Kn.bs])), in_fr h hi.2.1 (fun x hx => hn x (by simp [Kn.bs, hx])), in_fr h hi.2.2 (fun x hx => hn x (by simp [Kn.bs, hx]))⟩
theorem in_lt {w : World} : ∀ {T : Kn ByteArray Bool}, In w T → ∀ x ∈ T.bs, x < w.heap.size
 | .nil, _, x, hx => by simp [Kn.bs] at hx
 | .node b k v l r, hi, x, hx => by
  simp only [Kn.bs, List.mem_cons, List.mem_append] at hx
  rcases hx with rfl | hx | hx
  ·exact blk_lt hi.1
  ·exact in_lt hi.2.1 x hx
  ·exact in_lt hi.2.2 x hx
theorem in_typed {w : World} : ∀ {T : Kn ByteArray Bool}, In w T → ∀ x ∈ T.bs, ∃ cells, w.heap[x]? = some (.cells cells 139 (0, 0))
 | .nil, _, x, hx => by simp [Kn.bs] at hx
 | .node b k v l r, hi, x, hx => by
  simp only [Kn.bs, List.mem_cons, List.mem_append] at hx
  rcases hx with rfl | hx | hx
  ·exact ⟨_, hi.1⟩
  ·exact in_typed hi.2.1 x hx
  ·exact in_typed hi.2.2 x hx
theorem in_drewN {w : World} (n : Nat) : ∀ {T : Kn ByteArray Bool}, In w T → In (w.drewN n) T
 | .nil, _ => trivial
 | .node _ _ _ _ _, hi => ⟨hi.1, in_drewN n hi.2.1, in_drewN n hi.2.2⟩
attribute [local go_sem] max2_int max_two
set_option maxHeartbeats 2000000
set_option maxRecDepth 100000
theorem depth_any (T : Kn ByteArray Bool) (w : World) (h : In w T) : Calls Try.prog 135 #[.pointer T.adr] w fun e w' => e = .returned (.int .i64 T.hgt) ∧ w' = w := by
 cases T with
 | nil =>
  show Calls Try.prog 135 #[.pointer none] w _
  go_enter Try.func135, Try.ntmps135
  go_wp2
  go_ret
  exact ⟨rfl, rfl⟩
 | node b k v l r =>
  show Calls Try.prog 135 #[.pointer (some ⟨b, 0, none⟩)] w _
  have c : w.cell? ⟨b, 4, none⟩ = some (.int .i64 (Kn.node b k v l r).hgt) := blk_cell h.1 4
  go_enter Try.func135, Try.ntmps135
  go_wp2
  go_ret
  exact ⟨rfl, rfl⟩
theorem size_any (T : Kn ByteArray Bool) (w : World) (h : In w T) : Calls Try.prog 123 #[.pointer T.adr] w fun e w' => e = .returned (.int .i64 T.cnt) ∧ w' = w := by
 cases T with
 | nil =>
  show Calls Try.prog 123 #[.pointer none] w _
  go_enter Try.func123, Try.ntmps123
  go_wp2
  go_ret
  exact ⟨rfl, rfl⟩
 | node b k v l r =>
  show Calls Try.prog 123 #[.pointer (some ⟨b, 0, none⟩)] w _
  have c : w.cell? ⟨b, 5, none⟩ = some (.int .i64 (Kn.node b k v l r).cnt) := blk_cell h.1 5
  go_enter Try.func123, Try.ntmps123
  go_wp2
  go_ret
  exact ⟨rfl, rfl⟩
theorem fresh_any (b : Nat) (k : ByteArray) (v : Bool) (l r : Kn ByteArray Bool) (d s : Int) (w : World)
  (hb : w.heap[b]? = some (.cells #[.string k, .bool v, .pointer l.adr, .pointer r.adr, .int .i64 d, .int .i64 s] 139 (0, 0))) (hl : In w l) (hr : In w r) (nl : b ∉ l.bs) (nr : b ∉ r.bs) (hc : l.cnt + r.cnt < 4611686018427387904) :
  Calls Try.prog 124 #[.pointer (some ⟨b, 0, none⟩)] w fun e w' => e = .returned (.pointer (some ⟨b, 0, none⟩)) ∧ In w' (.node b k v l r) ∧ Fr [b] w w' := by
 obtain ⟨m, hm⟩ : ∃ m, m = mx l.hgt r.hgt := ⟨_, rfl⟩
 have h1 := Kn.bounds l
 have h2 := Kn.bounds r
 have hm2 : 0 ≤ m ∧ m < 4611686018427387904 := by rw [hm]; unfold mx; split <;> omega
 have hw1 : IntKind.i64.wrap (1 + m) = 1 + m := IntWalk.i64_in _ (by omega)
 have hmH : Hid (m = mx l.hgt r.hgt) := hm
 clear hm
 have hw2 : IntKind.i64.wrap (1 + l.cnt) = 1 + l.cnt := IntWalk.i64_in _ (by omega)
 have hw3 : IntKind.i64.wrap (1 + l.cnt + r.cnt) = 1 + l.cnt + r.cnt := IntWalk.i64_in _ (by omega)
 go_enter Try.func124, Try.ntmps124
 go_wp2_with fail
 refine still_tail 13 (by kernel_rfl) (by kernel_rfl) (fun W hW => ?_)
 simp only [List.take_succ_cons, List.take_zero, List.drop_succ_cons, List.drop_zero]
 have hb1 : W.heap[b]? = some (.cells #[.string k, .bool v, .pointer l.adr, .pointer r.adr, .int .i64 d, .int .i64 s] 139 (0, 0)) := by rw [hW]; exact hb
 have fr1 : Fr [b] w W := by rw [hW]; exact (Fr.refl _ _).drew
 clear hW hb
 have hl1 : In W l := in_fr fr1 hl (fun x hx => by simp; rintro rfl; exact nl hx)
 have hr1 : In W r := in_fr fr1 hr (fun x hx => by simp; rintro rfl; exact nr hx)
 have c2 : W.cell? ⟨b, 2, none⟩ = some (.pointer l.adr) := blk_cell hb1 2
 have c3 : W.cell? ⟨b, 3, none⟩ = some (.pointer r.adr) := blk_cell hb1 3
 have c4 : W.cell? ⟨b, 4, none⟩ = some (.int .i64 d) := blk_cell hb1 4
 have f4 := blk_frozen hb1 4
 iterate 5 still_step
 still_call (depth_any l _ hl1)
 iterate 4 still_step
 still_call (depth_any r _ hr1)
 iterate 2 still_step
 refine wpStill_nil ?_
 simp only [show (if l.hgt < r.hgt then r.hgt else l.hgt) = m from hmH.out.symm, hw1]
 go_wp2_with fail
 refine still_tail 13 (by kernel_rfl) (by kernel_rfl) (fun W2 hW2 => ?_)
 simp only [List.take_succ_cons, List.take_zero, List.drop_succ_cons, List.drop_zero]
 have hb2 : W2.heap[b]? = some (.cells #[.string k, .bool v, .pointer l.adr, .pointer r.adr, .int .i64 (1 + m), .int .i64 s] 139 (0, 0)) := by rw [hW2]; exact blk_put hb1 4 _ rfl
 have fr2 : Fr [b] W W2 := by rw [hW2]; exact ((Fr.refl _ _).set (.inl (by simp)) _).drew
 clear hW2 hb1 c2 c3 c4 f4
 have hl2 : In W2 l := in_fr fr2 hl1 (fun x hx => by simp; rintro rfl; exact nl hx)
 have hr2 : In W2 r := in_fr fr2 hr1 (fun x hx => by simp; rintro rfl; exact nr hx)
 have c2 : W2.cell? ⟨b, 2, none⟩ = some (.pointer l.adr) := blk_cell hb2 2
 have c3 : W2.cell? ⟨b, 3, none⟩ = some (.pointer r.adr) := blk_cell hb2 3
 have c5 : W2.cell? ⟨b, 5, none⟩ = some (.int .i64 s) := blk_cell hb2 5
 have f5 := blk_frozen hb2 5
 iterate 5 still_step
 still_call (size_any l _ hl2)
 iterate 5 still_step
 still_call (size_any r _ hr2)
 still_step
 refine wpStill_nil ?_
 go_wp2_with fail
 go_ret
 have fr3 : Fr [b] W2 (W2.setCell ⟨b, 5, none⟩ (.int .i64 (1 + l.cnt + r.cnt))) := (Fr.refl _ _).set (.inl (by simp)) _
 refine ⟨rfl, ⟨?_, in_fr fr3 hl2 (fun x hx => by simp; rintro rfl; exact nl hx), in_fr fr3 hr2 (fun x hx => by simp; rintro rfl; exact nr hx)⟩, (fr1.trans fr2 (fun x hx => .inl hx)).trans fr3 (fun x hx => .inl hx)⟩
 simp only [Kn.hgt, Kn.cnt, ← hmH.out]
 exact blk_put hb2 5 _ rfl
end Go.Proofs.Ytebejadiaooooaa.OrdSb
end
section
namespace Go.Proofs.Ytebejadiaooooaa.OrdSb
open Go.RowKit Go.Proofs.YtebejadiaooooaaW.PrintWords Go.Proofs.YtebejadiaooooaaW.PrintLast Go.Proofs.YtebejadiaooooaaW.PrintMore Go.Proofs.Ytebejadiaooooaa.Own Go.Proofs.Ytebejadiaooooaa.Ord
def Top (w : World) (b : Nat) (k : ByteArray) (v : Bool) (l r : Option Addr) : Prop := ∃ d s : Int, w.heap[b]? = some (.cells #[.string k, .bool v, .pointer l, .pointer r, .int .i64 d, .int .i64 s] 139 (0, 0))
theorem Top.fr {w w' : World} {B : List Nat} {b : Nat} {k : ByteArray} {v : Bool} {l r : Option Addr} (h : Top w b k v l r) (f : Fr B w w') (hn : b ∉ B) : Top w' b k v l r := by
  obtain ⟨d, s, h⟩ := h
  exact ⟨d, s, f.blk h hn⟩
theorem Top.low {w : World} {b : Nat} {k : ByteArray} {v : Bool} {l r : Option Addr} (h : Top w b k v l r) (l' : Option Addr) : Top (w.setCell ⟨b, 2, none⟩ (.pointer l')) b k v l' r := by
  obtain ⟨d, s, h⟩ := h
  exact ⟨d, s, blk_put h 2 _ rfl⟩
theorem Top.high {w : World} {b : Nat} {k : ByteArray} {v : Bool} {l r : Option Addr} (h : Top w b k v l r) (r' : Option Addr) : Top (w.setCell ⟨b, 3, none⟩ (.pointer r')) b k v l r' := by
  obtain ⟨d, s, h⟩ := h
  exact ⟨d, s, blk_put h 3 _ rfl⟩
theorem Top.of_in {w : World} {b : Nat} {k : ByteArray} {v : Bool} {l r : Kn ByteArray Bool} (h : In w (.node b k v l r)) : Top w b k v l.adr r.adr := ⟨_, _, h.1⟩
theorem Top.cells {w : World} {b : Nat} {k : ByteArray} {v : Bool} {l r : Option Addr} (h : Top w b k v l r) :
    w.cell? ⟨b, 0, none⟩ = some (.string k) ∧ w.cell? ⟨b, 1, none⟩ = some (.bool v) ∧ w.cell? ⟨b, 2, none⟩ = some (.pointer l) ∧ w.cell? ⟨b, 3, none⟩ = some (.pointer r) ∧ w.frozen? ⟨b, 1, none⟩ = false ∧ w.frozen? ⟨b, 2, none⟩ = false ∧ w.frozen? ⟨b, 3, none⟩ = false := by
  obtain ⟨d, s, h⟩ := h
  exact ⟨blk_cell h 0, blk_cell h 1, blk_cell h 2, blk_cell h 3, blk_frozen h 1, blk_frozen h 2, blk_frozen h 3⟩
theorem fresh_top {b : Nat} {k : ByteArray} {v : Bool} {l r : Kn ByteArray Bool} {w : World} (hb : Top w b k v l.adr r.adr) (hl : In w l) (hr : In w r) (nl : b ∉ l.bs) (nr : b ∉ r.bs) (hc : l.cnt + r.cnt < 4611686018427387904) :
    Calls Try.prog 124 #[.pointer (some ⟨b, 0, none⟩)] w fun e w' => e = .returned (.pointer (some ⟨b, 0, none⟩)) ∧ In w' (.node b k v l r) ∧ Fr [b] w w' := by
  obtain ⟨d, s, hb⟩ := hb
  exact fresh_any b k v l r d s w hb hl hr nl nr hc
theorem set_in {w : World} {T : Kn ByteArray Bool} (h : In w T) {b : Nat} (hn : b ∉ T.bs) (i : Nat) (u : Value) : In (w.setCell ⟨b, i, none⟩ u) T :=
  in_fr (B := [b]) ((Fr.refl _ w).set (.inl (by simp)) u) h (fun x hx => by simp; rintro rfl; exact hn hx)
set_option maxHeartbeats 2000000
set_option maxRecDepth 100000
theorem up_any {b hb : Nat} {k hk : ByteArray} {v hv : Bool} {l hl hr : Kn ByteArray Bool} {w : World} (h1 : Top w b k v l.adr (some ⟨hb, 0, none⟩)) (h2 : Top w hb hk hv hl.adr hr.adr) (il : In w l) (ihl : In w hl) (ihr : In w hr)
    (hnd : (Kn.node b k v l (.node hb hk hv hl hr)).bs.Nodup) (hc : (Kn.node b k v l (.node hb hk hv hl hr)).cnt < 4611686018427387904) :
    Calls Try.prog 136 #[.pointer (some ⟨b, 0, none⟩)] w fun e w' => e = .returned (.pointer (some ⟨hb, 0, none⟩)) ∧ In w' (.node hb hk hv (.node b k v l hl) hr) ∧ Fr [b, hb] w w' := by
  simp only [Kn.bs, List.nodup_cons, List.nodup_append, List.mem_append, List.mem_cons, not_or] at hnd
  simp only [Kn.cnt] at hc
  obtain ⟨⟨nbl, nbh, nbhl, nbhr⟩, ndl, ⟨⟨nhhl, nhhr⟩, ndhl, ndhr, dj⟩, dl⟩ := hnd
  have nhl : hb ∉ l.bs := fun h => dl hb h hb (.inl rfl) rfl
  have := Kn.bounds l; have := Kn.bounds hl; have := Kn.bounds hr
  have b1 : l.cnt + hl.cnt < 4611686018427387904 := by omega
  have b2 : (Kn.node b k v l hl).cnt + hr.cnt < 4611686018427387904 := by simp only [Kn.cnt]; omega
  obtain ⟨c10, c11, c12, c13, f11, f12, f13⟩ := h1.cells
  obtain ⟨c20, c21, c22, c23, f21, f22, f23⟩ := h2.cells
  have W1 := fresh_top (h1.high hl.adr) (set_in il nbl 3 _) (set_in ihl nbhl 3 _) nbl nbhl b1
  have fr0 : Fr [b, hb] w (w.setCell ⟨b, 3, none⟩ (.pointer hl.adr)) := (Fr.refl _ _).set (.inl (by simp)) _
  have h2' : Top (w.setCell ⟨b, 3, none⟩ (.pointer hl.adr)) hb hk hv hl.adr hr.adr := h2.fr (B := [b]) ((Fr.refl _ _).set (.inl (by simp)) _) (by simp; exact fun e => nbh e.symm)
  have ihr' := set_in ihr nbhr 3 (.pointer hl.adr)
  clear h1 h2 il ihl ihr
  go_enter Try.func136, Try.ntmps136
  go_wp2_with (first
    | (go_at_call_of 124 (some (⟨b, 0, none⟩ : Addr))
       refine W1.mono ?_
       clear W1
       rintro e w1 ⟨rfl, hi, fr⟩
       have h3 := h2'.fr fr (by simp; exact fun e => nbh e.symm)
       have ihr1 := in_fr fr ihr' (fun x hx => by simp; rintro rfl; exact nbhr hx)
       obtain ⟨c30, c31, c32, c33, f31, f32, f33⟩ := h3.cells
       have nn : hb ∉ (Kn.node b k v l hl).bs := by simp only [Kn.bs, List.mem_cons, List.mem_append, not_or]; exact ⟨fun e => nbh e.symm, nhl, nhhl⟩
       have W2 := fresh_top (h3.low (some ⟨b, 0, none⟩)) (l := Kn.node b k v l hl) (set_in hi nn 2 _) (set_in ihr1 nhhr 2 _) nn nhhr b2
       have fr1 : Fr [b, hb] w (w1.setCell ⟨hb, 2, none⟩ (.pointer (some ⟨b, 0, none⟩))) := (fr0.trans fr (fun x hx => .inl (by simp at hx; simp [hx]))).set (.inl (by simp)) _
       clear h3 ihr1 hi)
    | (go_at_call_of 124 (some (⟨hb, 0, none⟩ : Addr))
       refine W2.mono ?_
       clear W2
       rintro e w2 ⟨rfl, hi2, fr2⟩))
  go_ret
  exact ⟨rfl, hi2, fr1.trans fr2 (fun x hx => .inl (by simp at hx; simp [hx]))⟩
theorem down_any {b lb : Nat} {k lk : ByteArray} {v lv : Bool} {r ll lr : Kn ByteArray Bool} {w : World} (h1 : Top w b k v (some ⟨lb, 0, none⟩) r.adr) (h2 : Top w lb lk lv ll.adr lr.adr) (ir : In w r) (ill : In w ll) (ilr : In w lr)
    (hnd : (Kn.node b k v (.node lb lk lv ll lr) r).bs.Nodup) (hc : (Kn.node b k v (.node lb lk lv ll lr) r).cnt < 4611686018427387904) :
    Calls Try.prog 137 #[.pointer (some ⟨b, 0, none⟩)] w fun e w' => e = .returned (.pointer (some ⟨lb, 0, none⟩)) ∧ In w' (.node lb lk lv ll (.node b k v lr r)) ∧ Fr [b, lb] w w' := by
  simp only [Kn.bs, List.nodup_cons, List.nodup_append, List.mem_append, List.mem_cons, not_or] at hnd
  simp only [Kn.cnt] at hc
  obtain ⟨⟨⟨nbh, nbll, nblr⟩, nbr⟩, ⟨⟨nlll, nllr⟩, ndll, ndlr, dj⟩, ndr, dl⟩ := hnd
  have nlr : lb ∉ r.bs := fun h => dl lb (.inl rfl) lb h rfl
  have := Kn.bounds r; have := Kn.bounds ll; have := Kn.bounds lr
  have b1 : lr.cnt + r.cnt < 4611686018427387904 := by omega
  have b2 : ll.cnt + (Kn.node b k v lr r).cnt < 4611686018427387904 := by simp only [Kn.cnt]; omega
  obtain ⟨c10, c11, c12, c13, f11, f12, f13⟩ := h1.cells
  obtain ⟨c20, c21, c22, c23, f21, f22, f23⟩ := h2.cells
  have W1 := fresh_top (h1.low lr.adr) (set_in ilr nblr 2 _) (set_in ir nbr 2 _) nblr nbr b1
  have fr0 : Fr [b, lb] w (w.setCell ⟨b, 2, none⟩ (.pointer lr.adr)) := (Fr.refl _ _).set (.inl (by simp)) _
  have h2' : Top (w.setCell ⟨b, 2, none⟩ (.pointer lr.adr)) lb lk lv ll.adr lr.adr := h2.fr (B := [b]) ((Fr.refl _ _).set (.inl (by simp)) _) (by simp; exact fun e => nbh e.symm)
  have ill' := set_in ill nbll 2 (.pointer lr.adr)
  clear h1 h2 ill ilr ir
  go_enter Try.func137, Try.ntmps137
  go_wp2_with (first
    | (go_at_call_of 124 (some (⟨b, 0, none⟩ : Addr))
       refine W1.mono ?_
       clear W1
       rintro e w1 ⟨rfl, hi, fr⟩
       have h3 := h2'.fr fr (by simp; exact fun e => nbh e.symm)
       have ill1 := in_fr fr ill' (fun x hx => by simp; rintro rfl; exact nbll hx)
       obtain ⟨c30, c31, c32, c33, f31, f32, f33⟩ := h3.cells
       have nn : lb ∉ (Kn.node b k v lr r).bs := by simp only [Kn.bs, List.mem_cons, List.mem_append, not_or]; exact ⟨fun e => nbh e.symm, nllr, nlr⟩
       have W2 := fresh_top (h3.high (some ⟨b, 0, none⟩)) (r := Kn.node b k v lr r) (set_in ill1 nlll 3 _) (set_in hi nn 3 _) nlll nn b2
       have fr1 : Fr [b, lb] w (w1.setCell ⟨lb, 3, none⟩ (.pointer (some ⟨b, 0, none⟩))) := (fr0.trans fr (fun x hx => .inl (by simp at hx; simp [hx]))).set (.inl (by simp)) _
       clear h3 ill1 hi)
    | (go_at_call_of 124 (some (⟨lb, 0, none⟩ : Addr))
       refine W2.mono ?_
       clear W2
       rintro e w2 ⟨rfl, hi2, fr2⟩))
  go_ret
  exact ⟨rfl, hi2, fr1.trans fr2 (fun x hx => .inl (by simp at hx; simp [hx]))⟩
end Go.Proofs.Ytebejadiaooooaa.OrdSb
end
section
namespace Go.Proofs.Ytebejadiaooooaa.OrdSb
open Go.RowKit Go.Proofs.YtebejadiaooooaaW.PrintWords Go.Proofs.YtebejadiaooooaaW.PrintLast Go.Proofs.YtebejadiaooooaaW.PrintMore Go.Proofs.Ytebejadiaooooaa.Own Go.Proofs.Ytebejadiaooooaa.Ord
set_option maxHeartbeats 2000000
set_option maxRecDepth 100000
theorem even_a1 {b lb xb : Nat} {k lk xk : ByteArray} {v lv xv : Bool} {r ll xl xr : Kn ByteArray Bool} {w : World} (h1 : Top w b k v (some ⟨lb, 0, none⟩) r.adr) (il : In w (.node lb lk lv ll (.node xb xk xv xl xr))) (ir : In w r)
    (hnd : (Kn.node b k v (.node lb lk lv ll (.node xb xk xv xl xr)) r).bs.Nodup) (hc : (Kn.node b k v (.node lb lk lv ll (.node xb xk xv xl xr)) r).cnt < 4611686018427387904)
    (hd : 1 < (Kn.node lb lk lv ll (.node xb xk xv xl xr)).hgt - r.hgt) (hx : ll.hgt < (Kn.node xb xk xv xl xr).hgt) :
    Calls Try.prog 126 #[.pointer (some ⟨b, 0, none⟩)] w fun e w' => e = .returned (.pointer (some ⟨xb, 0, none⟩)) ∧ In w' (.node xb xk xv (.node lb lk lv ll xl) (.node b k v xr r)) ∧ Fr (Kn.node b k v (.node lb lk lv ll (.node xb xk xv xl xr)) r).bs w w' := by
  have hndL : (Kn.node lb lk lv ll (.node xb xk xv xl xr)).bs.Nodup := by
    simp only [Kn.bs, List.nodup_cons, List.nodup_append] at hnd ⊢; exact hnd.2.1
  have nbL : b ∉ (Kn.node lb lk lv ll (.node xb xk xv xl xr)).bs := by
    simp only [Kn.bs, List.nodup_cons, List.mem_append, not_or] at hnd ⊢; exact hnd.1.1
  have nbr : b ∉ r.bs := by simp only [Kn.bs, List.nodup_cons, List.mem_append, not_or] at hnd ⊢; exact hnd.1.2
  have nLr : ∀ x ∈ (Kn.node lb lk lv ll (.node xb xk xv xl xr)).bs, x ∉ r.bs := fun x hx hr => by
    have := hnd; simp only [Kn.bs, List.nodup_cons, List.nodup_append] at this hx
    exact this.2.2.2 x hx x hr rfl
  have pU : (Kn.node xb xk xv (.node lb lk lv ll xl) xr).bs.Perm (Kn.node lb lk lv ll (.node xb xk xv xl xr)).bs := Kn.up_bs (.node lb lk lv ll (.node xb xk xv xl xr))
  have hnd2 : (Kn.node b k v (.node xb xk xv (.node lb lk lv ll xl) xr) r).bs.Nodup := (Kn.perm_left pU).nodup_iff.2 hnd
  have hcL : (Kn.node lb lk lv ll (.node xb xk xv xl xr)).cnt < 4611686018427387904 := by
    have := Kn.bounds r; simp only [Kn.cnt] at hc ⊢; omega
  have hc2 : (Kn.node b k v (.node xb xk xv (.node lb lk lv ll xl) xr) r).cnt < 4611686018427387904 := by simp only [Kn.cnt] at hc ⊢; omega
  have hbL := Kn.bounds (Kn.node lb lk lv ll (.node xb xk xv xl xr))
  have hbr := Kn.bounds r
  have hbc : r.cnt < 4611686018427387904 := by simp only [Kn.cnt] at hc; have := Kn.bounds ll; have := Kn.bounds xl; have := Kn.bounds xr; omega
  have hw1 : IntKind.i64.wrap ((Kn.node lb lk lv ll (.node xb xk xv xl xr)).hgt - r.hgt) = (Kn.node lb lk lv ll (.node xb xk xv xl xr)).hgt - r.hgt := IntWalk.i64_in _ (by omega)
  obtain ⟨c10, c11, c12, c13, f11, f12, f13⟩ := h1.cells
  go_enter Try.func126, Try.ntmps126
  go_wp2_with fail
  refine still_all (by kernel_rfl) (by kernel_rfl) (fun W hW => ?_)
  have fr1 : Fr [] w W := by rw [hW]; exact (Fr.refl _ _).drew
  clear hW c10 c11 c12 c13 f11 f12 f13
  have h1 := h1.fr fr1 (by simp)
  have il := in_fr fr1 il (by simp)
  have ir := in_fr fr1 ir (by simp)
  obtain ⟨c10, c11, c12, c13, f11, f12, f13⟩ := h1.cells
  repeat still_step
  still_call (depth_any (Kn.node lb lk lv ll (.node xb xk xv xl xr)) _ il)
  repeat still_step
  still_call (depth_any r _ ir)
  repeat still_step
  refine wpStill_nil ?_
  obtain ⟨D, hD⟩ : ∃ D, D = (Kn.node lb lk lv ll (.node xb xk xv xl xr)).hgt := ⟨_, rfl⟩
  rw [← hD] at hd hw1
  simp only [← hD]
  clear hD
  go_wp2_with fail
  refine still_all (by kernel_rfl) (by kernel_rfl) (fun W2 hW => ?_)
  have fr2 : Fr [] W W2 := by rw [hW]; exact (Fr.refl _ _).drew
  clear hW c10 c11 c12 c13 f11 f12 f13
  have h2 := h1.fr fr2 (by simp)
  have il2 := in_fr fr2 il (by simp)
  have ir2 := in_fr fr2 ir (by simp)
  clear h1 il ir
  obtain ⟨c10, c11, c12, c13, f11, f12, f13⟩ := h2.cells
  obtain ⟨d10, d11, d12, d13, g11, g12, g13⟩ := (Top.of_in il2).cells
  rw [Kn.adr] at d13
  repeat still_step
  still_call (depth_any ll _ il2.2.1)
  repeat still_step
  still_call (depth_any (Kn.node xb xk xv xl xr) _ il2.2.2)
  repeat still_step
  refine wpStill_nil ?_
  obtain ⟨E, hE⟩ : ∃ E, E = (Kn.node xb xk xv xl xr).hgt := ⟨_, rfl⟩
  rw [← hE] at hx
  simp only [← hE]
  clear hE
  have W1 := up_any (Top.of_in il2) (Top.of_in il2.2.2) il2.2.1 il2.2.2.2.1 il2.2.2.2.2 hndL hcL
  have fl : ∀ x ∈ [lb, xb], x ∈ (Kn.node lb lk lv ll (.node xb xk xv xl xr)).bs := by intro x hx; simp at hx; rcases hx with rfl | rfl <;> simp [Kn.bs]
  have fb : b ∉ [lb, xb] := fun h => nbL (fl b h)
  go_wp2_with (first
    | (go_at_call 136
       refine W1.mono ?_
       clear W1
       rintro e w3 ⟨rfl, hi, fr3⟩
       have h3 := h2.fr fr3 fb
       have ir3 := in_fr fr3 ir2 (fun x hx hm => nLr x (fl x hm) hx)
       obtain ⟨c30, c31, c32, c33, f31, f32, f33⟩ := h3.cells
       have nb3 : b ∉ (Kn.node xb xk xv (.node lb lk lv ll xl) xr).bs := fun h => nbL (pU.mem_iff.1 h)
       have hi4 := set_in hi nb3 2 (.pointer (some ⟨xb, 0, none⟩))
       have W4 := down_any (h3.low (some ⟨xb, 0, none⟩)) (Top.of_in hi4) (set_in ir3 nbr 2 _) hi4.2.1 hi4.2.2 hnd2 hc2
       have fr4 : Fr (Kn.node b k v (.node lb lk lv ll (.node xb xk xv xl xr)) r).bs w (w3.setCell ⟨b, 2, none⟩ (.pointer (some ⟨xb, 0, none⟩))) := by
         refine ((((fr1.wide (fun _ h => by cases h)).trans fr2 (fun _ h => by cases h)).trans fr3 (fun x hx => .inl ?_)).set (.inl ?_) _)
         · exact List.mem_cons_of_mem _ (List.mem_append_left _ (fl x hx))
         · simp [Kn.bs]
       clear hi h3 ir3 hi4)
    | (go_at_call 137
       refine W4.mono ?_
       clear W4
       rintro e w5 ⟨rfl, hi5, fr5⟩))
  go_ret
  exact ⟨rfl, hi5, fr4.trans fr5 (fun x hx => .inl (by simp at hx; rcases hx with rfl | rfl <;> simp [Kn.bs]))⟩
theorem even_a2 {b lb : Nat} {k lk : ByteArray} {v lv : Bool} {r ll lr : Kn ByteArray Bool} {w : World} (h1 : Top w b k v (some ⟨lb, 0, none⟩) r.adr) (il : In w (.node lb lk lv ll lr)) (ir : In w r)
    (hnd : (Kn.node b k v (.node lb lk lv ll lr) r).bs.Nodup) (hc : (Kn.node b k v (.node lb lk lv ll lr) r).cnt < 4611686018427387904)
    (hd : 1 < (Kn.node lb lk lv ll lr).hgt - r.hgt) (hx : ¬ ll.hgt < lr.hgt) :
    Calls Try.prog 126 #[.pointer (some ⟨b, 0, none⟩)] w fun e w' => e = .returned (.pointer (some ⟨lb, 0, none⟩)) ∧ In w' (.node lb lk lv ll (.node b k v lr r)) ∧ Fr (Kn.node b k v (.node lb lk lv ll lr) r).bs w w' := by
  have hbL := Kn.bounds (Kn.node lb lk lv ll lr)
  have hbr := Kn.bounds r
  have hbc : r.cnt < 4611686018427387904 ∧ (Kn.node lb lk lv ll lr).cnt < 4611686018427387904 := by simp only [Kn.cnt] at hc ⊢; have := Kn.bounds ll; have := Kn.bounds lr; omega
  have hw1 : IntKind.i64.wrap ((Kn.node lb lk lv ll lr).hgt - r.hgt) = (Kn.node lb lk lv ll lr).hgt - r.hgt := IntWalk.i64_in _ (by omega)
  have hx2 : lr.hgt ≤ ll.hgt := by omega
  obtain ⟨c10, c11, c12, c13, f11, f12, f13⟩ := h1.cells
  go_enter Try.func126, Try.ntmps126
  go_wp2_with fail
  refine still_all (by kernel_rfl) (by kernel_rfl) (fun W hW => ?_)
  have fr1 : Fr [] w W := by rw [hW]; exact (Fr.refl _ _).drew
  clear hW c10 c11 c12 c13 f11 f12 f13
  have h1 := h1.fr fr1 (by simp)
  have il := in_fr fr1 il (by simp)
  have ir := in_fr fr1 ir (by simp)
  obtain ⟨c10, c11, c12, c13, f11, f12, f13⟩ := h1.cells
  repeat still_step
  still_call (depth_any (Kn.node lb lk lv ll lr) _ il)
  repeat still_step
  still_call (depth_any r _ ir)
  repeat still_step
  refine wpStill_nil ?_
  obtain ⟨D, hD⟩ : ∃ D, D = (Kn.node lb lk lv ll lr).hgt := ⟨_, rfl⟩
  rw [← hD] at hd hw1
  simp only [← hD]
  clear hD
  go_wp2_with fail
  refine still_all (by kernel_rfl) (by kernel_rfl) (fun W2 hW => ?_)
  have fr2 : Fr [] W W2 := by rw [hW]; exact (Fr.refl _ _).drew
  clear hW c10 c11 c12 c13 f11 f12 f13
  have h2 := h1.fr fr2 (by simp)
  have il2 := in_fr fr2 il (by simp)
  have ir2 := in_fr fr2 ir (by simp)
  clear h1 il ir
  obtain ⟨c10, c11, c12, c13, f11, f12, f13⟩ := h2.cells
  obtain ⟨d10, d11, d12, d13, g11, g12, g13⟩ := (Top.of_in il2).cells
  repeat still_step
  still_call (depth_any ll _ il2.2.1)
  repeat still_step
  still_call (depth_any lr _ il2.2.2)
  repeat still_step
  refine wpStill_nil ?_
  have W4 := down_any h2 (Top.of_in il2) ir2 il2.2.1 il2.2.2 hnd hc
  have fr4 : Fr (Kn.node b k v (.node lb lk lv ll lr) r).bs w W2 := (fr1.wide (fun _ h => by cases h)).trans fr2 (fun _ h => by cases h)
  go_wp2_with (go_at_call 137; refine W4.mono ?_; clear W4; rintro e w5 ⟨rfl, hi5, fr5⟩)
  go_ret
  exact ⟨rfl, hi5, fr4.trans fr5 (fun x hx => .inl (by simp at hx; rcases hx with rfl | rfl <;> simp [Kn.bs]))⟩
theorem even_b1 {b rb xb : Nat} {k rk xk : ByteArray} {v rv xv : Bool} {l rr xl xr : Kn ByteArray Bool} {w : World} (h1 : Top w b k v l.adr (some ⟨rb, 0, none⟩)) (il : In w l) (ir : In w (.node rb rk rv (.node xb xk xv xl xr) rr))
    (hnd : (Kn.node b k v l (.node rb rk rv (.node xb xk xv xl xr) rr)).bs.Nodup) (hc : (Kn.node b k v l (.node rb rk rv (.node xb xk xv xl xr) rr)).cnt < 4611686018427387904)
    (hd : l.hgt - (Kn.node rb rk rv (.node xb xk xv xl xr) rr).hgt < -1) (hx : rr.hgt < (Kn.node xb xk xv xl xr).hgt) :
    Calls Try.prog 126 #[.pointer (some ⟨b, 0, none⟩)] w fun e w' => e = .returned (.pointer (some ⟨xb, 0, none⟩)) ∧ In w' (.node xb xk xv (.node b k v l xl) (.node rb rk rv xr rr)) ∧ Fr (Kn.node b k v l (.node rb rk rv (.node xb xk xv xl xr) rr)).bs w w' := by
  have hndL : (Kn.node rb rk rv (.node xb xk xv xl xr) rr).bs.Nodup := by
    simp only [Kn.bs, List.nodup_cons, List.nodup_append] at hnd ⊢; exact hnd.2.2.1
  have nbL : b ∉ (Kn.node rb rk rv (.node xb xk xv xl xr) rr).bs := by
    simp only [Kn.bs, List.nodup_cons, List.mem_append, not_or] at hnd ⊢; exact hnd.1.2
  have nbr : b ∉ l.bs := by simp only [Kn.bs, List.nodup_cons, List.mem_append, not_or] at hnd ⊢; exact hnd.1.1
  have nLr : ∀ x ∈ (Kn.node rb rk rv (.node xb xk xv xl xr) rr).bs, x ∉ l.bs := fun x hx hr => by
    have := hnd; simp only [Kn.bs, List.nodup_cons, List.nodup_append] at this hx
    exact this.2.2.2 x hr x hx rfl
  have pU : (Kn.node xb xk xv xl (.node rb rk rv xr rr)).bs.Perm (Kn.node rb rk rv (.node xb xk xv xl xr) rr).bs := Kn.down_bs (.node rb rk rv (.node xb xk xv xl xr) rr)
  have hnd2 : (Kn.node b k v l (.node xb xk xv xl (.node rb rk rv xr rr))).bs.Nodup := (Kn.perm_right pU).nodup_iff.2 hnd
  have hcL : (Kn.node rb rk rv (.node xb xk xv xl xr) rr).cnt < 4611686018427387904 := by
    have := Kn.bounds l; simp only [Kn.cnt] at hc ⊢; omega
  have hc2 : (Kn.node b k v l (.node xb xk xv xl (.node rb rk rv xr rr))).cnt < 4611686018427387904 := by simp only [Kn.cnt] at hc ⊢; omega
  have hbL := Kn.bounds (Kn.node rb rk rv (.node xb xk xv xl xr) rr)
  have hbr := Kn.bounds l
  have hbc : l.cnt < 4611686018427387904 := by simp only [Kn.cnt] at hc; have := Kn.bounds rr; have := Kn.bounds xl; have := Kn.bounds xr; omega
  have hw1 : IntKind.i64.wrap (l.hgt - (Kn.node rb rk rv (.node xb xk xv xl xr) rr).hgt) = l.hgt - (Kn.node rb rk rv (.node xb xk xv xl xr) rr).hgt := IntWalk.i64_in _ (by omega)
  obtain ⟨c10, c11, c12, c13, f11, f12, f13⟩ := h1.cells
  go_enter Try.func126, Try.ntmps126
  go_wp2_with fail
  refine still_all (by kernel_rfl) (by kernel_rfl) (fun W hW => ?_)
  have fr1 : Fr [] w W := by rw [hW]; exact (Fr.refl _ _).drew
  clear hW c10 c11 c12 c13 f11 f12 f13
  have h1 := h1.fr fr1 (by simp)
  have il := in_fr fr1 il (by simp)
  have ir := in_fr fr1 ir (by simp)
  obtain ⟨c10, c11, c12, c13, f11, f12, f13⟩ := h1.cells
  repeat still_step
  still_call (depth_any l _ il)
  repeat still_step
  still_call (depth_any (Kn.node rb rk rv (.node xb xk xv xl xr) rr) _ ir)
  repeat still_step
  refine wpStill_nil ?_
  obtain ⟨D, hD⟩ : ∃ D, D = (Kn.node rb rk rv (.node xb xk xv xl xr) rr).hgt := ⟨_, rfl⟩
  rw [← hD] at hd hw1
  simp only [← hD]
  clear hD
  have hd0 : l.hgt - D ≤ 1 := by omega
  go_wp2_with fail
  refine still_all (by kernel_rfl) (by kernel_rfl) (fun W2 hW => ?_)
  have fr2 : Fr [] W W2 := by rw [hW]; exact (Fr.refl _ _).drew
  clear hW c10 c11 c12 c13 f11 f12 f13
  have h2 := h1.fr fr2 (by simp)
  have il2 := in_fr fr2 il (by simp)
  have ir2 := in_fr fr2 ir (by simp)
  clear h1 il ir
  obtain ⟨c10, c11, c12, c13, f11, f12, f13⟩ := h2.cells
  obtain ⟨d10, d11, d12, d13, g11, g12, g13⟩ := (Top.of_in ir2).cells
  rw [Kn.adr] at d12
  repeat still_step
  still_call (depth_any rr _ ir2.2.2)
  repeat still_step
  still_call (depth_any (Kn.node xb xk xv xl xr) _ ir2.2.1)
  repeat still_step
  refine wpStill_nil ?_
  obtain ⟨E, hE⟩ : ∃ E, E = (Kn.node xb xk xv xl xr).hgt := ⟨_, rfl⟩
  rw [← hE] at hx
  simp only [← hE]
  clear hE
  have W1 := down_any (Top.of_in ir2) (Top.of_in ir2.2.1) ir2.2.2 ir2.2.1.2.1 ir2.2.1.2.2 hndL hcL
  have fl : ∀ x ∈ [rb, xb], x ∈ (Kn.node rb rk rv (.node xb xk xv xl xr) rr).bs := by intro x hx; simp at hx; rcases hx with rfl | rfl <;> simp [Kn.bs]
  have fb : b ∉ [rb, xb] := fun h => nbL (fl b h)
  go_wp2_with (first
    | (go_at_call 137
       refine W1.mono ?_
       clear W1
       rintro e w3 ⟨rfl, hi, fr3⟩
       have h3 := h2.fr fr3 fb
       have il3 := in_fr fr3 il2 (fun x hx hm => nLr x (fl x hm) hx)
       obtain ⟨c30, c31, c32, c33, f31, f32, f33⟩ := h3.cells
       have nb3 : b ∉ (Kn.node xb xk xv xl (.node rb rk rv xr rr)).bs := fun h => nbL (pU.mem_iff.1 h)
       have hi4 := set_in hi nb3 3 (.pointer (some ⟨xb, 0, none⟩))
       have W4 := up_any (h3.high (some ⟨xb, 0, none⟩)) (Top.of_in hi4) (set_in il3 nbr 3 _) hi4.2.1 hi4.2.2 hnd2 hc2
       have fr4 : Fr (Kn.node b k v l (.node rb rk rv (.node xb xk xv xl xr) rr)).bs w (w3.setCell ⟨b, 3, none⟩ (.pointer (some ⟨xb, 0, none⟩))) := by
         refine ((((fr1.wide (fun _ h => by cases h)).trans fr2 (fun _ h => by cases h)).trans fr3 (fun x hx => .inl ?_)).set (.inl ?_) _)
         · exact List.mem_cons_of_mem _ (List.mem_append_right _ (fl x hx))
         · simp [Kn.bs]
       clear hi h3 il3 hi4)
    | (go_at_call 136
       refine W4.mono ?_
       clear W4
       rintro e w5 ⟨rfl, hi5, fr5⟩))
  go_ret
  exact ⟨rfl, hi5, fr4.trans fr5 (fun x hx => .inl (by simp at hx; rcases hx with rfl | rfl <;> simp [Kn.bs]))⟩
theorem even_b2 {b rb : Nat} {k rk : ByteArray} {v rv : Bool} {l rl rr : Kn ByteArray Bool} {w : World} (h1 : Top w b k v l.adr (some ⟨rb, 0, none⟩)) (il : In w l) (ir : In w (.node rb rk rv rl rr))
    (hnd : (Kn.node b k v l (.node rb rk rv rl rr)).bs.Nodup) (hc : (Kn.node b k v l (.node rb rk rv rl rr)).cnt < 4611686018427387904)
    (hd : l.hgt - (Kn.node rb rk rv rl rr).hgt < -1) (hx : ¬ rr.hgt < rl.hgt) :
    Calls Try.prog 126 #[.pointer (some ⟨b, 0, none⟩)] w fun e w' => e = .returned (.pointer (some ⟨rb, 0, none⟩)) ∧ In w' (.node rb rk rv (.node b k v l rl) rr) ∧ Fr (Kn.node b k v l (.node rb rk rv rl rr)).bs w w' := by
  have hbL := Kn.bounds (Kn.node rb rk rv rl rr)
  have hbr := Kn.bounds l
  have hbc : l.cnt < 4611686018427387904 ∧ (Kn.node rb rk rv rl rr).cnt < 4611686018427387904 := by simp only [Kn.cnt] at hc ⊢; have := Kn.bounds rl; have := Kn.bounds rr; omega
  have hw1 : IntKind.i64.wrap (l.hgt - (Kn.node rb rk rv rl rr).hgt) = l.hgt - (Kn.node rb rk rv rl rr).hgt := IntWalk.i64_in _ (by omega)
  have hx2 : rl.hgt ≤ rr.hgt := by omega
  obtain ⟨c10, c11, c12, c13, f11, f12, f13⟩ := h1.cells
  go_enter Try.func126, Try.ntmps126
  go_wp2_with fail
  refine still_all (by kernel_rfl) (by kernel_rfl) (fun W hW => ?_)
  have fr1 : Fr [] w W := by rw [hW]; exact (Fr.refl _ _).drew
  clear hW c10 c11 c12 c13 f11 f12 f13
  have h1 := h1.fr fr1 (by simp)
  have il := in_fr fr1 il (by simp)
  have ir := in_fr fr1 ir (by simp)
  obtain ⟨c10, c11, c12, c13, f11, f12, f13⟩ := h1.cells
  repeat still_step
  still_call (depth_any l _ il)
  repeat still_step
  still_call (depth_any (Kn.node rb rk rv rl rr) _ ir)
  repeat still_step
  refine wpStill_nil ?_
  obtain ⟨D, hD⟩ : ∃ D, D = (Kn.node rb rk rv rl rr).hgt := ⟨_, rfl⟩
  rw [← hD] at hd hw1
  simp only [← hD]
  clear hD
  have hd0 : l.hgt - D ≤ 1 := by omega
  go_wp2_with fail
  refine still_all (by kernel_rfl) (by kernel_rfl) (fun W2 hW => ?_)
  have fr2 : Fr [] W W2 := by rw [hW]; exact (Fr.refl _ _).drew
  clear hW c10 c11 c12 c13 f11 f12 f13
  have h2 := h1.fr fr2 (by simp)
  have il2 := in_fr fr2 il (by simp)
  have ir2 := in_fr fr2 ir (by simp)
  clear h1 il ir
  obtain ⟨c10, c11, c12, c13, f11, f12, f13⟩ := h2.cells
  obtain ⟨d10, d11, d12, d13, g11, g12, g13⟩ := (Top.of_in ir2).cells
  repeat still_step
  still_call (depth_any rr _ ir2.2.2)
  repeat still_step
  still_call (depth_any rl _ ir2.2.1)
  repeat still_step
  refine wpStill_nil ?_
  have W4 := up_any h2 (Top.of_in ir2) il2 ir2.2.1 ir2.2.2 hnd hc
  have fr4 : Fr (Kn.node b k v l (.node rb rk rv rl rr)).bs w W2 := (fr1.wide (fun _ h => by cases h)).trans fr2 (fun _ h => by cases h)
  go_wp2_with (go_at_call 136; refine W4.mono ?_; clear W4; rintro e w5 ⟨rfl, hi5, fr5⟩)
  go_ret
  exact ⟨rfl, hi5, fr4.trans fr5 (fun x hx => .inl (by simp at hx; rcases hx with rfl | rfl <;> simp [Kn.bs]))⟩
theorem even_c {b : Nat} {k : ByteArray} {v : Bool} {l r : Kn ByteArray Bool} {w : World} (h1 : Top w b k v l.adr r.adr) (il : In w l) (ir : In w r)
    (hnd : (Kn.node b k v l r).bs.Nodup) (hc : (Kn.node b k v l r).cnt < 4611686018427387904) (hd : l.hgt - r.hgt ≤ 1) (hx : -1 ≤ l.hgt - r.hgt) :
    Calls Try.prog 126 #[.pointer (some ⟨b, 0, none⟩)] w fun e w' => e = .returned (.pointer (some ⟨b, 0, none⟩)) ∧ In w' (.node b k v l r) ∧ Fr (Kn.node b k v l r).bs w w' := by
  have hbL := Kn.bounds l
  have hbr := Kn.bounds r
  have hbc : l.cnt + r.cnt < 4611686018427387904 := by simp only [Kn.cnt] at hc; omega
  have hw1 : IntKind.i64.wrap (l.hgt - r.hgt) = l.hgt - r.hgt := IntWalk.i64_in _ (by omega)
  have nbl : b ∉ l.bs := by simp only [Kn.bs, List.nodup_cons, List.mem_append, not_or] at hnd; exact hnd.1.1
  have nbr : b ∉ r.bs := by simp only [Kn.bs, List.nodup_cons, List.mem_append, not_or] at hnd; exact hnd.1.2
  obtain ⟨c10, c11, c12, c13, f11, f12, f13⟩ := h1.cells
  go_enter Try.func126, Try.ntmps126
  go_wp2_with fail
  refine still_all (by kernel_rfl) (by kernel_rfl) (fun W hW => ?_)
  have fr1 : Fr [] w W := by rw [hW]; exact (Fr.refl _ _).drew
  clear hW c10 c11 c12 c13 f11 f12 f13
  have h1 := h1.fr fr1 (by simp)
  have il := in_fr fr1 il (by simp)
  have ir := in_fr fr1 ir (by simp)
  obtain ⟨c10, c11, c12, c13, f11, f12, f13⟩ := h1.cells
  repeat still_step
  still_call (depth_any l _ il)
  repeat still_step
  still_call (depth_any r _ ir)
  repeat still_step
  refine wpStill_nil ?_
  have W4 := fresh_top h1 il ir nbl nbr hbc
  go_wp2_with (go_at_call 124; refine W4.mono ?_; clear W4; rintro e w5 ⟨rfl, hi5, fr5⟩)
  go_ret
  exact ⟨rfl, hi5, (fr1.wide (fun _ h => by cases h)).trans fr5 (fun x hx => .inl (by simp at hx; subst hx; simp [Kn.bs]))⟩
theorem even_any {b : Nat} {k : ByteArray} {v : Bool} {l r : Kn ByteArray Bool} {w : World} (h1 : Top w b k v l.adr r.adr) (il : In w l) (ir : In w r) (hnd : (Kn.node b k v l r).bs.Nodup) (hc : (Kn.node b k v l r).cnt < 4611686018427387904) :
    Calls Try.prog 126 #[.pointer (some ⟨b, 0, none⟩)] w fun e w' => e = .returned (.pointer (Kn.even b k v l r).adr) ∧ In w' (Kn.even b k v l r) ∧ Fr (Kn.node b k v l r).bs w w' := by
  by_cases hA : l.hgt - r.hgt > 1
  · cases l with
    | nil => have := Kn.bounds r; simp only [Kn.hgt] at hA; omega
    | node lb lk lv ll lr =>
      by_cases hx : ll.hgt < lr.hgt
      · cases lr with
        | nil => have := Kn.bounds ll; simp only [Kn.hgt] at hx; omega
        | node xb xk xv xl xr =>
          have e : Kn.even b k v (.node lb lk lv ll (.node xb xk xv xl xr)) r = .node xb xk xv (.node lb lk lv ll xl) (.node b k v xr r) := by
            unfold Kn.even; rw [if_pos hA]; simp only [if_pos hx]; rfl
          rw [e]
          exact even_a1 h1 il ir hnd hc hA hx
      · have e : Kn.even b k v (.node lb lk lv ll lr) r = .node lb lk lv ll (.node b k v lr r) := by
          unfold Kn.even; rw [if_pos hA]; simp only [if_neg hx]; rfl
        rw [e]
        exact even_a2 h1 il ir hnd hc hA hx
  · by_cases hB : l.hgt - r.hgt < -1
    · cases r with
      | nil => have := Kn.bounds l; simp only [Kn.hgt] at hB; omega
      | node rb rk rv rl rr =>
        by_cases hx : rr.hgt < rl.hgt
        · cases rl with
          | nil => have := Kn.bounds rr; simp only [Kn.hgt] at hx; omega
          | node xb xk xv xl xr =>
            have e : Kn.even b k v l (.node rb rk rv (.node xb xk xv xl xr) rr) = .node xb xk xv (.node b k v l xl) (.node rb rk rv xr rr) := by
              unfold Kn.even; rw [if_neg hA, if_pos hB]; simp only [if_pos hx]; rfl
            rw [e]
            exact even_b1 h1 il ir hnd hc hB hx
        · have e : Kn.even b k v l (.node rb rk rv rl rr) = .node rb rk rv (.node b k v l rl) rr := by
            unfold Kn.even; rw [if_neg hA, if_pos hB]; simp only [if_neg hx]; rfl
          rw [e]
          exact even_b2 h1 il ir hnd hc hB hx
    · have e : Kn.even b k v l r = .node b k v l r := by unfold Kn.even; rw [if_neg hA, if_neg hB]
      rw [e]
      exact even_c h1 il ir hnd hc (by omega) (by omega)
end Go.Proofs.Ytebejadiaooooaa.OrdSb
end
