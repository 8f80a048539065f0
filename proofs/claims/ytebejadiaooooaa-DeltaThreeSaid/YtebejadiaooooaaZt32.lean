/- Texts of one claim (laid by shake.py). -/
import Derived.Test.YtebejadiaooooaaZt0
import Derived.Deep.Slices
import Derived.ChangeArms
import Derived.SizedLaws
import Derived.OpenShut
import Derived.Test.YtebejadiaooooaaZt4
import Derived.Test.YtebejadiaooooaaZt13
import Derived.Test.YtebejadiaooooaaZt26
import Derived.Test.YtebejadiaooooaaZt19
import Derived.Test.YtebejadiaooooaaZt8
import Derived.Test.YtebejadiaooooaaZt7
import Derived.Test.YtebejadiaooooaaZt20
import Derived.Test.YtebejadiaooooaaZt21
import Derived.Test.YtebejadiaooooaaZt5
import Derived.Test.YtebejadiaooooaaZt27
import Derived.Test.YtebejadiaooooaaZt29
import Derived.Test.YtebejadiaooooaaZt28
import Derived.Test.YtebejadiaooooaaZt10
import Derived.Test.YtebejadiaooooaaZt12
set_option linter.unusedVariables false
set_option linter.unusedSimpArgs false
section
namespace Go.Proofs.Ytebejadiaooooaa.Rd
open Go.RowKit Go.ChangeShapes Go.WideShapes Go.Deep Go.Proofs.YtebejadiaooooaaW.PrintWords
structure Opens {α : Type} (P : Program) (t : TypeId) (d : Kd α) (wf : α → Prop) : Prop where
 cells : P.cellsOf t = d.sz
 down : ∀ {H : Type} {enc : TypeId × Value → H} {w : World} {base : Nat} {spare : Nat → Bool} {held : Bool} {fuel : Nat} {cs : List Value} {x : DataW H × List MemPlace},
  DataW.trod enc P w base spare held fuel t cs = some x → (∀ n ∈ x.1.weights P t, n ≤ reachBytes) → ∃ a, d.K w a cs ∧ wf a
theorem mem_weightsAll {H : Type} {P : Program} {e : TypeId} {d : DataW H} : ∀ {l : List (DataW H)}, d ∈ l → ∀ n ∈ d.weights P e, n ∈ DataW.weightsAll P e l
 | x :: l, hd, n, hn => by
  simp only [DataW.weightsAll, List.mem_append]
  rcases List.mem_cons.1 hd with rfl | hd
  ·exact .inl hn
  ·exact .inr (mem_weightsAll hd n hn)
theorem Opens.int {P : Program} {t : TypeId} {k : IntKind} (ht : P.underlying t = some (.int k)) (hc : P.cellsOf t = 1) : Opens P t (Kd.int k) (fun n => (Lit.int k n).wf = true) where
 cells := hc
 down := by
  intro H enc w base spare held fuel cs x h _
  obtain ⟨n, rfl, _, hw⟩ := DataW.trod_int ht h
  exact ⟨n, rfl, hw⟩
theorem Opens.bool {P : Program} {t : TypeId} (ht : P.underlying t = some .bool) (hc : P.cellsOf t = 1) : Opens P t Kd.bool (fun _ => True) where
 cells := hc
 down := by
  intro H enc w base spare held fuel cs x h _
  obtain ⟨b, rfl, _⟩ := DataW.trod_bool ht h
  exact ⟨b, rfl, trivial⟩
theorem Opens.string {P : Program} {t : TypeId} (ht : P.underlying t = some .string) (hc : P.cellsOf t = 1) : Opens P t Kd.string (fun s => s.size ≤ 140737488351232) where
 cells := hc
 down := by
  intro H enc w base spare held fuel cs x h hw
  obtain ⟨s, rfl, rfl, _⟩ := DataW.trod_string ht h
  refine ⟨s, rfl, ?_⟩
  have := hw s.data.toList.length (by simp [DataW.weights])
  have e : s.data.toList.length = s.size := by simp
  rw [e] at this
  exact this
theorem Opens.slice {α : Type} {P : Program} {t e : TypeId} {d : Kd α} {wf : α → Prop} (ht : P.underlying t = some (.slice e)) (hc : P.cellsOf t = 1) {B : Nat} (hB : P.bytesOf e = B) (he : Opens P e d wf) :
  Opens P t (Kd.slice e d) (fun l => l.length * B ≤ 140737488351232 ∧ ∀ a ∈ l, wf a) where
 cells := hc
 down := by
  intro H enc w base spare held fuel cs x h hw
  rcases open_slice ht h with ⟨rfl, _⟩ | ⟨a, len, cap, m, n, D, Pl, rfl, hb, hl, hm, hmm, rfl, hx⟩
  ·exact ⟨[], ⟨none, 0, rfl, Nat.le_refl _, rfl, by simp, fun h0 => absurd h0 (by simp)⟩, by simp, fun a ha => by simp at ha⟩
  ·have hlm : len ≤ m := by rw [hmm]; split <;> omega
   have hel : ∀ i : Fin len, ∃ y : α, ∃ c : List Value, w.cells? base (a.add (i.1 * P.cellsOf e)) (P.cellsOf e) = some c ∧ d.K w y c ∧ wf y := by
    intro i
    obtain ⟨c, h1, h2⟩ := hx i.1 (by omega)
    obtain ⟨y, hy, hwf⟩ := he.down h2 (fun n hn => hw n (by
     simp only [DataW.weights, ht, List.mem_cons, List.mem_append]
     exact .inr (.inl (mem_weightsAll (List.mem_map.2 ⟨i.1, List.mem_range.2 i.2, rfl⟩) n hn))))
    exact ⟨y, c, h1, hy, hwf⟩
   obtain ⟨f, hf⟩ := Classical.axiomOfChoice hel
   have hlen : (List.ofFn f).length = len := by simp
   have hmax : len ≤ 9223372036854775807 := by simp only [maxLen] at hm; omega
   refine ⟨List.ofFn f, ⟨some a, cap, ?_, ?_, ?_, ?_, ?_⟩, ?_, ?_⟩
   ·rw [hlen]
   ·rw [hlen]; exact hl
   ·rfl
   ·rw [hlen]; exact hmax
   ·intro _
    refine ⟨a, rfl, fun j p hj => ?_⟩
    obtain ⟨hjl, rfl⟩ := List.getElem?_eq_some_iff.1 hj
    rw [hlen] at hjl
    obtain ⟨c, h1, hy, _⟩ := hf ⟨j, hjl⟩
    obtain ⟨_, hcl, hcell⟩ := World.cells?_some h1
    refine ⟨c, by rw [hcl, he.cells], by simpa using hy, fun i u hu => ?_⟩
    have hi : i < P.cellsOf e := by
     have := (List.getElem?_eq_some_iff.1 hu).1
     omega
    have := hcell i hi
    rw [Go.Deep.add_add] at this
    rw [← he.cells, this, hu]
   ·rw [hlen]
    have hz := hw (((List.range len).map D).length + ((List.range (m - len)).map fun j => D (len + j)).length |>.mul (P.bytesOf e)) (by
     simp only [DataW.weights, ht, List.mem_cons]
     exact .inl rfl)
    rw [hB] at hz
    simp only [List.length_map, List.length_range] at hz
    have h2 : len * B ≤ (len + (m - len)) * B := Nat.mul_le_mul_right _ (by omega)
    exact Nat.le_trans h2 hz
   ·intro y hy
    obtain ⟨i, rfl⟩ := List.mem_ofFn.1 hy
    obtain ⟨_, _, _, hwf⟩ := hf i
    exact hwf
theorem Opens.iso {α β : Type} {P : Program} {t : TypeId} {d : Kd α} {wf : α → Prop} {f : β → α} (g : α → β) (hg : ∀ a, f (g a) = a) (h : Opens P t d wf) : Opens P t (Kd.iso d f) (fun b => wf (f b)) where
 cells := h.cells
 down := by
  intro H enc w base spare held fuel cs x hx hw
  obtain ⟨a, hk, hwf⟩ := h.down hx hw
  refine ⟨g a, ?_, ?_⟩
  ·show d.K w (f (g a)) cs
   rw [hg]; exact hk
  ·show wf (f (g a))
   rw [hg]; exact hwf
structure OpensFs {α : Type} (P : Program) (fs : List Field) (off : Nat) (d : Kd α) (wf : α → Prop) : Prop where
 down : ∀ {H : Type} {enc : TypeId × Value → H} {w : World} {base : Nat} {spare : Nat → Bool} {held : Bool} {fuel : Nat} {cs : List Value} {xs : List (DataW H × List MemPlace)},
  cs.length = d.sz → xs.length = fs.length → (∀ (i : Nat) (f : Field), fs[i]? = some f → DataW.trod enc P w base spare held fuel f.type ((cs.drop (f.offset - off)).take (P.cellsOf f.type)) = xs[i]?) →
  (∀ n ∈ DataW.weightsEach P (fs.map (·.type)) (xs.map (·.1)), n ≤ reachBytes) → ∃ a, d.K w a cs ∧ wf a
 offs : ∀ f ∈ fs, off ≤ f.offset
theorem OpensFs.one {α : Type} {P : Program} {f : Field} {off : Nat} {d : Kd α} {wf : α → Prop} (ho : f.offset = off) (h : Opens P f.type d wf) : OpensFs P [f] off d wf where
 offs := by simp [ho]
 down := by
  intro H enc w base spare held fuel cs xs hl hxs hx hw
  have h0 := hx 0 f rfl
  obtain ⟨x, rfl⟩ : ∃ x, xs = [x] := by
   match xs, hxs with
   | [x], _ => exact ⟨x, rfl⟩
  rw [ho, Nat.sub_self, List.drop_zero, h.cells, ← hl, List.take_length] at h0
  exact h.down h0 (fun n hn => hw n (by simp [DataW.weightsEach, hn]))
theorem OpensFs.cons {α β : Type} {P : Program} {f : Field} {fs : List Field} {off off2 : Nat} {d : Kd α} {d2 : Kd β} {wf : α → Prop} {wf2 : β → Prop} (ho : f.offset = off) (h : Opens P f.type d wf) (ho2 : off2 = off + d.sz)
  (h2 : OpensFs P fs off2 d2 wf2) : OpensFs P (f :: fs) off (Kd.pair d d2) (fun p => wf p.1 ∧ wf2 p.2) where
 offs := by
  intro g hg
  rcases List.mem_cons.1 hg with rfl | hg
  ·omega
  ·have := h2.offs g hg; omega
 down := by
  intro H enc w base spare held fuel cs xs hl hxs hx hw
  obtain ⟨x, ys, rfl⟩ : ∃ x ys, xs = x :: ys := by
   match xs, hxs with
   | x :: ys, _ => exact ⟨x, ys, rfl⟩
  have hl' : cs.length = d.sz + d2.sz := hl
  have h0 := hx 0 f rfl
  rw [ho, Nat.sub_self, List.drop_zero, h.cells] at h0
  obtain ⟨a, ha, hwa⟩ := h.down h0 (fun n hn => hw n (by simp [DataW.weightsEach, hn]))
  obtain ⟨b, hb, hwb⟩ := h2.down (cs := cs.drop d.sz) (xs := ys) (by rw [List.length_drop, hl']; omega) (by simpa using hxs) (fun i g hg => by
   have h1 := hx (i + 1) g (by simpa using hg)
   have hgo := h2.offs g (List.mem_of_getElem? hg)
   rw [List.drop_drop]
   have e : d.sz + (g.offset - off2) = g.offset - off := by omega
   rw [e]
   simpa using h1) (fun n hn => hw n (by simp [DataW.weightsEach, hn]))
  exact ⟨(a, b), ⟨cs.take d.sz, cs.drop d.sz, (List.take_append_drop _ _).symm, ha, hb⟩, hwa, hwb⟩
theorem Opens.struct {α : Type} {P : Program} {t : TypeId} {fs : Array Field} {d : Kd α} {wf : α → Prop} (ht : P.underlying t = some (.struct fs)) (hc : P.cellsOf t = d.sz) (h : OpensFs P fs.toList 0 d wf) : Opens P t d wf where
 cells := hc
 down := by
  intro H enc w base spare held fuel cs x hx hw
  obtain ⟨xs, n, rfl, rfl, hl, hxs, hf⟩ := DataW.trod_struct ht hx
  refine h.down (enc := enc) (w := w) (base := base) (spare := spare) (held := held) (fuel := n) (cs := cs) (xs := xs) (by rw [hl, hc]) (by simpa using hxs) (fun i f hi => ?_) (fun n hn => hw n (by simpa [DataW.weights, ht] using hn))
  rw [Nat.sub_zero]
  exact hf i f (by simpa using hi)
end Go.Proofs.Ytebejadiaooooaa.Rd
end
section
namespace Go.Proofs.Ytebejadiaooooaa.P
open Go.RowKit Go.Proofs.Ytebejadiaooooaa.Rd Go.Proofs.YtebejadiaooooaaW.PrintWords
theorem o9 : Opens Try.prog 9 Kd.string (fun x_ => x_.size ≤ 140737488351232) := Opens.string Try.underlying9 (by kernel_rfl)
def wf39 (x : S39) : Prop := (x.f0.size ≤ 140737488351232) ∧ (x.f1.size ≤ 140737488351232)
theorem o39 : Opens Try.prog 39 k39 wf39 := Opens.iso (g := fun p_ => (⟨p_.1, p_.2⟩ : S39)) (fun _ => rfl) (Opens.struct Try.underlying39 (by kernel_rfl) (OpensFs.cons rfl o9 rfl (OpensFs.one rfl o9)))
theorem o23 : Opens Try.prog 23 (Kd.slice 39 k39) (fun x_ => x_.length * 32 ≤ 140737488351232 ∧ ∀ a_ ∈ x_, wf39 a_) := Opens.slice Try.underlying23 (by kernel_rfl) (by kernel_rfl) o39
end Go.Proofs.Ytebejadiaooooaa.P
end
section
namespace Go.Proofs.Ytebejadiaooooaa.P
open Go.RowKit Go.Proofs.YtebejadiaooooaaW.PrintWords Go.Proofs.YtebejadiaooooaaW.PrintLast Go.Proofs.YtebejadiaooooaaW.PrintMore Go.Proofs.Ytebejadiaooooaa.Own Go.Proofs.Ytebejadiaooooaa
theorem rises_tail {x : En} {l : List En} (h : risesV (x :: l) = true) : risesV l = true := by
 cases l with
 | nil => rfl
 | cons y l => simp only [risesV, Bool.and_eq_true] at h; exact h.2
theorem rises_lt : ∀ (x : En) (l : List En), risesV (x :: l) = true → ∀ y ∈ l, lt x.f0 y.f0 = true
 | _, [], _, _, hy => by cases hy
 | x, z :: l, h, y, hy => by
  simp only [risesV, Bool.and_eq_true] at h
  rcases List.mem_cons.1 hy with rfl | hy
  ·exact h.1
  ·exact lt_trans h.1 (rises_lt z l h.2 y hy)
theorem rises_cons {x : En} {l : List En} (h : ∀ y ∈ l, lt x.f0 y.f0 = true) (hl : risesV l = true) : risesV (x :: l) = true := by
 cases l with
 | nil => rfl
 | cons y l => simp only [risesV, Bool.and_eq_true]; exact ⟨h y (by simp), hl⟩
end Go.Proofs.Ytebejadiaooooaa.P
end
section
namespace Go.Proofs.Ytebejadiaooooaa.P
open Go.RowKit Go.Proofs.YtebejadiaooooaaW.PrintWords Go.Proofs.YtebejadiaooooaaW.PrintLast Go.Proofs.YtebejadiaooooaaW.PrintMore Go.Proofs.Ytebejadiaooooaa.Own Go.Proofs.Ytebejadiaooooaa
def ofO : Option ByteArray → ByteArray × Bool
 | none => (e0, false)
 | some v => (v, true)
def toO (p : ByteArray × Bool) : Option ByteArray := if p.2 = true then some p.1 else none
theorem toO_ofO (o : Option ByteArray) : toO (ofO o) = o := by cases o <;> rfl
def tidy (p : ByteArray × Bool) : Prop := p.2 = false → p.1 = e0
theorem ofO_toO {p : ByteArray × Bool} (h : tidy p) : ofO (toO p) = p := by
 obtain ⟨v, b⟩ := p
 cases b
 ·have := h rfl; simp at this; subst this; rfl
 ·rfl
theorem tidy_apply (k : Int) (vv : ByteArray) (d : Int) (v : ByteArray) (is : Bool) : tidy (applyV k vv d v is) := by
 unfold applyV tidy
 (repeat' split) <;> simp
theorem tidy_on (m : Ms) (s : ByteArray) (p : ByteArray × Bool) : tidy (onM m s p) := by
 unfold onM onV
 split
 ·exact tidy_apply _ _ _ _ _
 ·unfold tidy
  split <;> simp
theorem tidy_find : ∀ (e : List En) (s : ByteArray), tidy (findV e s)
 | [], s => by simp [findV, tidy]
 | x :: e, s => by
  unfold findV
  split
  ·simp [tidy]
  ·exact tidy_find e s
theorem tidy_doAll (s : ByteArray) : ∀ (l : List Ms) (p : ByteArray × Bool), tidy p → tidy (doAll s l p)
 | [], p, h => h
 | m :: l, p, h => tidy_doAll s l _ (tidy_on m s p)
theorem norm_tidy {p : ByteArray × Bool} (h : tidy p) : (norm p.1 p.2, p.2) = p := by
 obtain ⟨v, b⟩ := p
 cases b
 ·have := h rfl; simp at this; subst this; rfl
 ·rfl
def valO (l : List Ms) (e : List En) (s : ByteArray) : Option ByteArray := toO (doAll s l (findV e s))
theorem valueV_find (l : List Ms) (e : List En) (s : ByteArray) : valueV l s (findV e s).1 (findV e s).2 = doAll s l (findV e s) := by
 unfold valueV
 rw [norm_tidy (tidy_find e s)]
theorem valueV_ofO (l : List Ms) (e : List En) (s : ByteArray) : valueV l s (findV e s).1 (findV e s).2 = ofO (valO l e s) := by
 rw [valueV_find]
 unfold valO
 rw [ofO_toO (tidy_doAll s l _ (tidy_find e s))]
theorem doAll_append (s : ByteArray) : ∀ (a b : List Ms) (p : ByteArray × Bool), doAll s (a ++ b) p = doAll s b (doAll s a p)
 | [], _, _ => rfl
 | m :: a, b, p => doAll_append s a b (onM m s p)
theorem find_mem : ∀ (e : List En) (s : ByteArray), (findV e s).2 = true → ∃ x ∈ e, x.f0 = s
 | [], s, h => by simp [findV] at h
 | x :: e, s, h => by
  unfold findV at h
  split at h
  ·rename_i q; exact ⟨x, by simp, same_iff.1 q⟩
  ·obtain ⟨y, hy, hs⟩ := find_mem e s h
   exact ⟨y, List.mem_cons_of_mem _ hy, hs⟩
theorem on_some (m : Ms) (s : ByteArray) (p : ByteArray × Bool) (h : (onM m s p).2 = true) : p.2 = true ∨ (isPt m.f0 = true ∧ m.f2 = s) := by
 unfold onM onV at h
 split at h
 ·rename_i ht
  unfold touches at ht
  simp only [Bool.or_eq_true, Bool.and_eq_true, decide_eq_true_eq] at ht
  rcases ht with ht | ht
  ·exact .inr ⟨ht.1, same_iff.1 ht.2⟩
  ·rw [ht.1] at h
   simp [applyV] at h
 ·left
  cases q : p.2
  ·rw [q] at h; simp at h
  ·rfl
theorem do_some (s : ByteArray) : ∀ (l : List Ms) (p : ByteArray × Bool), (doAll s l p).2 = true → p.2 = true ∨ ∃ m ∈ l, isPt m.f0 = true ∧ m.f2 = s
 | [], p, h => .inl h
 | m :: l, p, h => by
  rcases do_some s l _ h with h1 | ⟨x, hx, h2⟩
  ·rcases on_some m s p h1 with h3 | h3
   ·exact .inl h3
   ·exact .inr ⟨m, by simp, h3⟩
  ·exact .inr ⟨x, List.mem_cons_of_mem _ hx, h2⟩
abbrev RiseK (l : List ByteArray) : Prop := l.Pairwise (fun a b => lt a b = true)
theorem mem_intoV (s x : ByteArray) : ∀ L : List ByteArray, x ∈ intoV L s ↔ x ∈ L ∨ x = s
 | [] => by simp [intoV]
 | y :: L => by
  unfold intoV
  split
  ·rw [List.mem_cons, mem_intoV s x L, List.mem_cons, or_assoc]
  ·split
   ·rename_i h
    have := same_iff.1 h
    subst this
    simp only [List.mem_cons]
    constructor
    ·exact .inl
    ·rintro (h | h)
     ·exact h
     ·exact .inl h
   ·simp only [List.mem_cons]
    constructor
    ·rintro (h | h | h)
     ·exact .inr h
     ·exact .inl (.inl h)
     ·exact .inl (.inr h)
    ·rintro ((h | h) | h)
     ·exact .inr (.inl h)
     ·exact .inr (.inr h)
     ·exact .inl h
theorem rise_intoV (s : ByteArray) : ∀ L : List ByteArray, RiseK L → RiseK (intoV L s)
 | [], _ => by simp [intoV]
 | y :: L, h => by
  obtain ⟨h1, h2⟩ := List.pairwise_cons.1 h
  unfold intoV
  split
  ·rename_i hy
   refine List.pairwise_cons.2 ⟨fun x hx => ?_, rise_intoV s L h2⟩
   rcases (mem_intoV s x L).1 hx with hx | rfl
   ·exact h1 x hx
   ·exact hy
  ·rename_i hy
   split
   ·exact h
   ·rename_i hs
    have hsy : lt s y = true := by
     rcases lt_tri s y with q | q | q
     ·exact q
     ·exact absurd (same_iff.2 q.symm) hs
     ·exact absurd q hy
    refine List.pairwise_cons.2 ⟨fun x hx => ?_, h⟩
    rcases List.mem_cons.1 hx with rfl | hx
    ·exact hsy
    ·exact lt_trans hsy (h1 x hx)
theorem rise_keysFrom : ∀ (l : List Ms) (o : List ByteArray), RiseK o → RiseK (keysFrom o l)
 | [], o, h => h
 | m :: l, o, h => by
  unfold keysFrom
  refine rise_keysFrom l _ ?_
  split
  ·exact rise_intoV _ _ h
  ·exact h
theorem mem_keysFrom (x : ByteArray) : ∀ (l : List Ms) (o : List ByteArray), x ∈ keysFrom o l ↔ x ∈ o ∨ ∃ m ∈ l, isPt m.f0 = true ∧ m.f2 = x
 | [], o => by simp [keysFrom]
 | m :: l, o => by
  unfold keysFrom
  rw [mem_keysFrom x l]
  by_cases hp : isPt m.f0 = true
  ·rw [if_pos hp, mem_intoV]
   constructor
   ·rintro ((h | h) | ⟨q, hq, h⟩)
    ·exact .inl h
    ·exact .inr ⟨m, by simp, hp, h.symm⟩
    ·exact .inr ⟨q, List.mem_cons_of_mem _ hq, h⟩
   ·rintro (h | ⟨q, hq, h⟩)
    ·exact .inl (.inl h)
    ·rcases List.mem_cons.1 hq with rfl | hq
     ·exact .inl (.inr h.2.symm)
     ·exact .inr ⟨q, hq, h⟩
  ·rw [if_neg hp]
   constructor
   ·rintro (h | ⟨q, hq, h⟩)
    ·exact .inl h
    ·exact .inr ⟨q, List.mem_cons_of_mem _ hq, h⟩
   ·rintro (h | ⟨q, hq, h⟩)
    ·exact .inl h
    ·rcases List.mem_cons.1 hq with rfl | hq
     ·exact absurd h.1 hp
     ·exact .inr ⟨q, hq, h⟩
theorem rise_addKeys : ∀ (e : List En) (o : List ByteArray), RiseK o → RiseK (addKeys o e)
 | [], o, h => h
 | x :: e, o, h => rise_addKeys e _ (rise_intoV _ _ h)
theorem mem_addKeys (s : ByteArray) : ∀ (e : List En) (o : List ByteArray), s ∈ addKeys o e ↔ s ∈ o ∨ ∃ x ∈ e, x.f0 = s
 | [], o => by simp [addKeys]
 | x :: e, o => by
  unfold addKeys
  rw [mem_addKeys s e, mem_intoV]
  constructor
  ·rintro ((h | h) | ⟨q, hq, h⟩)
   ·exact .inl h
   ·exact .inr ⟨x, by simp, h.symm⟩
   ·exact .inr ⟨q, List.mem_cons_of_mem _ hq, h⟩
  ·rintro (h | ⟨q, hq, h⟩)
   ·exact .inl (.inl h)
   ·rcases List.mem_cons.1 hq with rfl | hq
    ·exact .inl (.inr h.symm)
    ·exact .inr ⟨q, hq, h⟩
theorem rise_named (l : List Ms) (e : List En) : RiseK (namedV l e) := rise_addKeys e _ (rise_keysFrom l [] List.Pairwise.nil)
theorem mem_named (l : List Ms) (e : List En) (s : ByteArray) : s ∈ namedV l e ↔ (∃ m ∈ l, isPt m.f0 = true ∧ m.f2 = s) ∨ ∃ x ∈ e, x.f0 = s := by
 unfold namedV keysV
 rw [mem_addKeys, mem_keysFrom]
 simp
theorem named_of_val {l : List Ms} {e : List En} {s v : ByteArray} (h : valO l e s = some v) : s ∈ namedV l e := by
 have h2 : (doAll s l (findV e s)).2 = true := by
  unfold valO toO at h
  split at h
  ·assumption
  ·cases h
 rw [mem_named]
 rcases do_some s l _ h2 with h3 | h3
 ·exact .inr (find_mem e s h3)
 ·exact .inl h3
theorem rise_ext {α : Type} (R : α → α → Prop) (irr : ∀ a, ¬ R a a) (tr : ∀ {a b c}, R a b → R b c → R a c) : ∀ {a b : List α}, a.Pairwise R → b.Pairwise R → (∀ x, x ∈ a ↔ x ∈ b) → a = b
 | [], [], _, _, _ => rfl
 | [], y :: b, _, _, h => absurd ((h y).2 (by simp)) (by simp)
 | x :: a, [], _, _, h => absurd ((h x).1 (by simp)) (by simp)
 | x :: a, y :: b, ha, hb, h => by
  obtain ⟨ha1, ha2⟩ := List.pairwise_cons.1 ha
  obtain ⟨hb1, hb2⟩ := List.pairwise_cons.1 hb
  have hxy : x = y := by
   rcases List.mem_cons.1 ((h x).1 (by simp)) with q | q
   ·exact q
   ·rcases List.mem_cons.1 ((h y).2 (by simp)) with r | r
    ·exact r.symm
    ·exact absurd (tr (ha1 y r) (hb1 x q)) (irr x)
  subst hxy
  have : a = b := rise_ext R irr tr ha2 hb2 (fun z => by
   have hz := h z
   constructor
   ·intro q
    rcases List.mem_cons.1 (hz.1 (List.mem_cons_of_mem _ q)) with r | r
    ·subst r; exact absurd (ha1 z q) (irr z)
    ·exact r
   ·intro q
    rcases List.mem_cons.1 (hz.2 (List.mem_cons_of_mem _ q)) with r | r
    ·subst r; exact absurd (hb1 z q) (irr z)
    ·exact r)
  rw [this]
theorem riseK_ext {a b : List ByteArray} (ha : RiseK a) (hb : RiseK b) (h : ∀ x, x ∈ a ↔ x ∈ b) : a = b :=
 rise_ext (fun a b => lt a b = true) (fun a h => by rw [lt_irrefl] at h; cases h) (fun h k => lt_trans h k) ha hb h
abbrev RiseE (l : List En) : Prop := l.Pairwise (fun a b => lt a.f0 b.f0 = true)
theorem riseE_iff : ∀ {l : List En}, risesV l = true ↔ RiseE l
 | [] => by simp [risesV]
 | x :: l => by
  rw [RiseE, List.pairwise_cons]
  constructor
  ·intro h
   exact ⟨rises_lt x l h, riseE_iff.1 (rises_tail h)⟩
  ·rintro ⟨h1, h2⟩
   exact rises_cons h1 (riseE_iff.2 h2)
theorem riseE_ext {a b : List En} (ha : RiseE a) (hb : RiseE b) (h : ∀ x, x ∈ a ↔ x ∈ b) : a = b :=
 rise_ext (fun a b : En => lt a.f0 b.f0 = true) (fun a h => by rw [lt_irrefl] at h; cases h) (fun h k => lt_trans h k) ha hb h
theorem entryOf_eq (l : List Ms) (e : List En) (f t s : ByteArray) : entryOf l e f t s = if (rr f t && holds f t s) = true then (valO l e s).map (fun v => (⟨s, v⟩ : En)) else none := by
 unfold entryOf
 simp only
 rw [valueV_ofO]
 cases valO l e s <;> cases rr f t <;> cases holds f t s <;> simp [ofO]
theorem mem_entries (l : List Ms) (e : List En) (f t : ByteArray) (x : En) : x ∈ entriesV l e f t ↔ rr f t = true ∧ holds f t x.f0 = true ∧ valO l e x.f0 = some x.f1 := by
 unfold entriesV
 rw [List.mem_filterMap]
 constructor
 ·rintro ⟨s, hs, h⟩
  rw [entryOf_eq] at h
  split at h
  ·rename_i q
   simp only [Bool.and_eq_true] at q
   cases hv : valO l e s with
   | none => rw [hv] at h; cases h
   | some v =>
    rw [hv] at h
    simp only [Option.map_some, Option.some.injEq] at h
    subst h
    exact ⟨q.1, q.2, hv⟩
  ·cases h
 ·rintro ⟨h1, h2, h3⟩
  refine ⟨x.f0, named_of_val h3, ?_⟩
  rw [entryOf_eq, h1, h2, h3]
  rfl
theorem filterMap_rise {α : Type} (g : ByteArray → Option En) (hg : ∀ s x, g s = some x → x.f0 = s) : ∀ K : List ByteArray, RiseK K → RiseE (K.filterMap g)
 | [], _ => by simp
 | s :: K, h => by
  obtain ⟨h1, h2⟩ := List.pairwise_cons.1 h
  rw [List.filterMap_cons]
  split
  ·exact filterMap_rise (α := α) g hg K h2
  ·rename_i x hx
   refine List.pairwise_cons.2 ⟨fun y hy => ?_, filterMap_rise (α := α) g hg K h2⟩
   obtain ⟨s', hs', hy'⟩ := List.mem_filterMap.1 hy
   rw [hg s x hx, hg s' y hy']
   exact h1 s' hs'
theorem rise_entries (l : List Ms) (e : List En) (f t : ByteArray) : RiseE (entriesV l e f t) := by
 refine filterMap_rise (α := Unit) _ (fun s x h => ?_) _ (rise_named l e)
 rw [entryOf_eq] at h
 split at h
 ·cases hv : valO l e s with
  | none => rw [hv] at h; cases h
  | some v => rw [hv] at h; simp only [Option.map_some, Option.some.injEq] at h; subst h; rfl
 ·cases h
theorem rr_all : rr e0 e0 = true := by simp [rr, emp_e0]
theorem lt_e0 (s : ByteArray) : lt s e0 = false := by
 cases q : lt s e0 with
 | false => rfl
 | true => have := lt_emp q; rw [emp_e0] at this; cases this
theorem holds_all (s : ByteArray) : holds e0 e0 s = true := by simp [holds, emp_e0, lt_e0]
def sameO (a b : ByteArray × Bool) : Bool := same a.1 b.1 && (a.2 == b.2)
theorem sameO_iff {a b : ByteArray × Bool} : sameO a b = true ↔ a = b := by
 obtain ⟨a, x⟩ := a; obtain ⟨b, y⟩ := b
 simp only [sameO, Bool.and_eq_true, same_iff, beq_iff_eq, Prod.mk.injEq]
end Go.Proofs.Ytebejadiaooooaa.P
end
section
namespace Go.Proofs.Ytebejadiaooooaa.P
open Go.RowKit Go.Proofs.YtebejadiaooooaaW.PrintWords Go.Proofs.YtebejadiaooooaaW.PrintLast Go.Proofs.YtebejadiaooooaaW.PrintMore Go.Proofs.Ytebejadiaooooaa.Own Go.Proofs.Ytebejadiaooooaa
theorem onM_touch {m : Ms} {s : ByteArray} (h : touchesM m s = true) (p : ByteArray × Bool) : onM m s p = applyV m.f0 m.f4 m.f5 p.1 p.2 := by
 unfold onM onV
 rw [if_pos (show touches m.f0 m.f2 m.f3 s = true from h)]
theorem onM_far {m : Ms} {s : ByteArray} (h : touchesM m s = false) {p : ByteArray × Bool} (hp : tidy p) : onM m s p = p := by
 unfold onM onV
 have h2 : ¬ (touches m.f0 m.f2 m.f3 s = true) := by unfold touchesM at h; rw [h]; simp
 rw [if_neg h2]
 obtain ⟨v, b⟩ := p
 cases b
 ·have := hp rfl; simp at this; subst this; rfl
 ·rfl
theorem doAll_far {s : ByteArray} : ∀ {l : List Ms} {p : ByteArray × Bool}, tidy p → (∀ m ∈ l, touchesM m s = false) → doAll s l p = p
 | [], p, _, _ => rfl
 | m :: l, p, hp, h => by
  show doAll s l (onM m s p) = p
  rw [onM_far (h m (by simp)) hp]
  exact doAll_far hp (fun x hx => h x (List.mem_cons_of_mem _ hx))
end Go.Proofs.Ytebejadiaooooaa.P
end
section
namespace Go.Proofs.Ytebejadiaooooaa.P
open Go.RowKit Go.Proofs.YtebejadiaooooaaW.PrintWords Go.Proofs.YtebejadiaooooaaW.PrintLast Go.Proofs.YtebejadiaooooaaW.PrintMore Go.Proofs.Ytebejadiaooooaa.Own Go.Proofs.Ytebejadiaooooaa
theorem Same3_loop (L : List ByteArray) (hL : L.length ≤ 1000000) : ∀ (l : List ByteArray) (k i : Nat), L.drop i = l → i ≤ L.length → l.length < k → catchmentref03_Same.l0 k L L i = some true := by
 intro l
 induction l with
 | nil =>
  intro k i hd hi hk
  obtain ⟨k, rfl⟩ : ∃ m, k = m + 1 := ⟨k - 1, by omega⟩
  obtain rfl := drop_none hd hi
  rw [catchmentref03_Same.l0, if_neg (by omega)]
 | cons x l ih =>
  intro k i hd hi hk
  simp only [List.length_cons] at hk
  obtain ⟨k, rfl⟩ : ∃ m, k = m + 1 := ⟨k - 1, by omega⟩
  obtain ⟨hlt, hx, hd2, _, _⟩ := drop_any hd
  rw [catchmentref03_Same.l0, if_pos (by omega), if_pos (by omega), if_pos (by omega), if_pos rfl, wrap1 (by omega)]
  exact ih k (i + 1) hd2 (by omega) (by omega)
theorem Same3_refl (k : Nat) (L : List ByteArray) (hL : L.length ≤ 1000000) (hk : L.length < k) : catchmentref03_Same.f k L L = some true := by
 unfold catchmentref03_Same.f
 rw [if_pos rfl]
 exact Same3_loop L hL L k 0 rfl (by omega) hk
end Go.Proofs.Ytebejadiaooooaa.P
end
section
namespace Go.Proofs.Ytebejadiaooooaa.Fo
open Go.RowKit Go.Proofs.YtebejadiaooooaaW.PrintWords Go.Proofs.YtebejadiaooooaaW.PrintLast Go.Proofs.YtebejadiaooooaaW.PrintMore Go.Proofs.Ytebejadiaooooaa.Own Go.Proofs.Ytebejadiaooooaa.Ord Go.Proofs.Ytebejadiaooooaa Go.Proofs.Ytebejadiaooooaa.P
section
variable {V : Type}
theorem rise_uniq {k : ByteArray} {v v' : V} : ∀ {L : List (ByteArray × V)}, Rise OrdSs.lt L → (k, v) ∈ L → (k, v') ∈ L → v = v'
 | [], _, h, _ => by cases h
 | x :: L, hr, h, h' => by
  obtain ⟨h1, h2⟩ := List.pairwise_cons.1 hr
  rcases List.mem_cons.1 h with q | q
  ·rcases List.mem_cons.1 h' with r | r
   ·exact (Prod.mk.inj (q.trans r.symm)).2
   ·have := h1 _ r
    rw [← q, OrdSs.lin.irr] at this; cases this
  ·rcases List.mem_cons.1 h' with r | r
   ·have := h1 _ q
    rw [← r, OrdSs.lin.irr] at this; cases this
   ·exact rise_uniq h2 q r
theorem look_iff {L : List (ByteArray × V)} (h : Rise OrdSs.lt L) (k : ByteArray) (v : V) : lookK OrdSs.lt k L = some v ↔ (k, v) ∈ L := by
 unfold lookK
 have hk : ∀ x : ByteArray × V, (!OrdSs.lt x.1 k && !OrdSs.lt k x.1) = true ↔ x.1 = k := fun x => by
  simp only [Bool.and_eq_true, Bool.not_eq_true']
  constructor
  ·rintro ⟨a, b⟩; exact OrdSs.lin.tri a b
  ·intro e; rw [e]; exact ⟨OrdSs.lin.irr k, OrdSs.lin.irr k⟩
 cases hf : L.find? (fun x => !OrdSs.lt x.1 k && !OrdSs.lt k x.1) with
 | none =>
  constructor
  ·intro q; cases q
  ·intro q
   have := List.find?_eq_none.1 hf _ q
   exact absurd ((hk _).2 rfl) this
 | some y =>
  have hy := List.mem_of_find?_eq_some hf
  have hyk := (hk y).1 (by have := List.find?_some hf; exact this)
  obtain ⟨a, b⟩ := y
  simp only at hyk
  subst hyk
  simp only [Option.map_some, Option.some.injEq]
  constructor
  ·rintro rfl; exact hy
  ·intro q; exact rise_uniq h hy q
theorem look_ext {L : List (ByteArray × V)} (h : Rise OrdSs.lt L) (k : ByteArray) (o : Option V) (ho : ∀ v, (k, v) ∈ L ↔ o = some v) : lookK OrdSs.lt k L = o := by
 apply Option.ext
 intro v
 rw [look_iff h, ho]
theorem mem_ins (k : ByteArray) (v : V) (L : List (ByteArray × V)) (a : ByteArray) (b : V) : (a, b) ∈ ins OrdSs.lt k v L ↔ (a = k ∧ b = v) ∨ (a ≠ k ∧ (a, b) ∈ L) := by
 unfold ins
 rw [List.mem_append, List.mem_cons, List.mem_filter, List.mem_filter]
 simp only [Prod.mk.injEq]
 have tri : a ≠ k ↔ OrdSs.lt a k = true ∨ OrdSs.lt k a = true := by
  constructor
  ·intro h
   cases q : OrdSs.lt a k with
   | true => exact .inl rfl
   | false =>
    cases r : OrdSs.lt k a with
    | true => exact .inr rfl
    | false => exact absurd (OrdSs.lin.tri q r) h
  ·rintro (h | h) rfl
   ·rw [OrdSs.lin.irr] at h; cases h
   ·rw [OrdSs.lin.irr] at h; cases h
 rw [tri]
 constructor
 ·rintro (⟨h1, h2⟩ | h | ⟨h1, h2⟩)
  ·exact .inr ⟨.inl h2, h1⟩
  ·exact .inl h
  ·exact .inr ⟨.inr h2, h1⟩
 ·rintro (h | ⟨h1 | h1, h2⟩)
  ·exact .inr (.inl h)
  ·exact .inl ⟨h2, h1⟩
  ·exact .inr (.inr ⟨h2, h1⟩)
theorem mem_del (k : ByteArray) (L : List (ByteArray × V)) (a : ByteArray) (b : V) : (a, b) ∈ del OrdSs.lt k L ↔ a ≠ k ∧ (a, b) ∈ L := by
 unfold del
 rw [List.mem_filter]
 simp only [Bool.or_eq_true]
 constructor
 ·rintro ⟨h1, h2⟩
  refine ⟨?_, h1⟩
  rintro rfl
  rw [OrdSs.lin.irr] at h2
  simp at h2
 ·rintro ⟨h1, h2⟩
  refine ⟨h2, ?_⟩
  cases q : OrdSs.lt a k with
  | true => exact .inl rfl
  | false =>
   cases r : OrdSs.lt k a with
   | true => exact .inr rfl
   | false => exact absurd (OrdSs.lin.tri q r) h1
theorem look_ins {L : List (ByteArray × V)} (h : Rise OrdSs.lt L) (k : ByteArray) (v : V) (s : ByteArray) : lookK OrdSs.lt s (ins OrdSs.lt k v L) = if s = k then some v else lookK OrdSs.lt s L := by
 refine look_ext (ins_rise OrdSs.lin k v h) s _ (fun b => ?_)
 rw [mem_ins]
 by_cases hs : s = k
 ·rw [if_pos hs]
  simp only [hs, true_and, ne_eq, not_true_eq_false, false_and, or_false, Option.some.injEq]
  exact eq_comm
 ·rw [if_neg hs, look_iff h]
  simp [hs]
theorem look_del {L : List (ByteArray × V)} (h : Rise OrdSs.lt L) (k s : ByteArray) : lookK OrdSs.lt s (del OrdSs.lt k L) = if s = k then none else lookK OrdSs.lt s L := by
 refine look_ext (L := del OrdSs.lt k L) (h.filter _) s _ (fun b => ?_)
 rw [mem_del]
 by_cases hs : s = k
 ·rw [if_pos hs]; simp [hs]
 ·rw [if_neg hs, look_iff h]; simp [hs]
theorem look_filter {L : List (ByteArray × V)} (h : Rise OrdSs.lt L) (p : ByteArray → Bool) (s : ByteArray) : lookK OrdSs.lt s (L.filter (fun x => p x.1)) = if p s = true then lookK OrdSs.lt s L else none := by
 refine look_ext (h.filter _) s _ (fun b => ?_)
 rw [List.mem_filter]
 by_cases hs : p s = true
 ·rw [if_pos hs, look_iff h]; simp [hs]
 ·rw [if_neg hs]; simp [hs]
end
theorem look_nil (s : ByteArray) : lookK OrdSs.lt s ([] : Row) = none := rfl
theorem look_tabFrom (s : ByteArray) : ∀ (e : List En) (L : Row), Rise OrdSs.lt L → lookK OrdSs.lt s (tabFrom L e) = (lookK OrdSs.lt s L).or (toO (findV e s))
 | [], L, _ => by simp [tabFrom, findV, toO]
 | x :: e, L, h => by
  rw [tabFrom, look_tabFrom s e _ (tab1_rise h x).1]
  have hfv : findV (x :: e) s = if same x.f0 s = true then (x.f1, true) else findV e s := rfl
  unfold tab1
  rw [hfv]
  by_cases hs : same x.f0 s = true
  ·have hx := same_iff.1 hs
   rw [if_pos hs]
   cases hq : lookK OrdSs.lt s L with
   | some v =>
    rw [hx, hq]
    simp [hq]
   | none =>
    rw [hx, hq]
    simp only [Option.isSome_none, Bool.false_eq_true, if_false]
    rw [look_ins h, if_pos rfl]
    rfl
  ·rw [if_neg hs]
   have hne : s ≠ x.f0 := fun e => hs (by rw [e]; exact same_iff.2 rfl)
   split
   ·rfl
   ·rw [look_ins h, if_neg hne]
theorem look_tab (e : List En) (s : ByteArray) : lookK OrdSs.lt s (tabV e) = toO (findV e s) := by
 unfold tabV
 rw [look_tabFrom s e [] List.Pairwise.nil]
 simp [look_nil]
theorem getD_ofO (o : Option ByteArray) : o.getD e0 = (ofO o).1 := by cases o <;> rfl
theorem isSome_ofO (o : Option ByteArray) : o.isSome = (ofO o).2 := by cases o <;> rfl
theorem look_msg {L : Row} (h : Rise OrdSs.lt L) (m : Ms) (s : ByteArray) : lookK OrdSs.lt s (msgV m L) = toO (onM m s (ofO (lookK OrdSs.lt s L))) := by
 have still : (touches m.f0 m.f2 m.f3 s = false) → toO (onM m s (ofO (lookK OrdSs.lt s L))) = lookK OrdSs.lt s L := fun ht => by
  unfold onM onV
  rw [ht]
  cases lookK OrdSs.lt s L <;> rfl
 unfold msgV
 by_cases h4 : m.f0 = 4
 ·rw [if_pos h4]
  unfold clearV
  rw [look_filter h (fun k => !holds m.f2 m.f3 k)]
  have ht : touches m.f0 m.f2 m.f3 s = holds m.f2 m.f3 s := by unfold touches; rw [h4]; simp [isPt]
  cases hh : holds m.f2 m.f3 s with
  | true =>
   unfold onM onV
   rw [ht, hh, h4]
   simp [applyV, toO]
  | false =>
   rw [hh] at ht
   rw [still ht]; simp
 ·rw [if_neg h4]
  have ht : touches m.f0 m.f2 m.f3 s = (isPt m.f0 && same m.f2 s) := by unfold touches; simp [h4]
  by_cases hp : isPt m.f0 = true
  ·rw [if_pos hp]
   simp only
   rw [getD_ofO, isSome_ofO]
   by_cases hs : s = m.f2
   ·have hs2 : same m.f2 s = true := same_iff.2 hs.symm
    rw [hp, hs2] at ht
    unfold onM onV
    rw [ht, ← hs]
    simp only [Bool.and_self, if_true]
    unfold toO
    split
    ·rw [look_ins h, if_pos rfl]
    ·rw [look_del h, if_pos rfl]
   ·have hs2 : same m.f2 s = false := by cases q : same m.f2 s with | false => rfl | true => exact absurd (same_iff.1 q).symm hs
    rw [hs2, Bool.and_false] at ht
    rw [still ht]
    split
    ·rw [look_ins h, if_neg hs]
    ·rw [look_del h, if_neg hs]
  ·rw [if_neg hp]
   have hp' : isPt m.f0 = false := by simpa using hp
   rw [hp', Bool.false_and] at ht
   rw [still ht]
theorem look_msgs (s : ByteArray) : ∀ (l : List Ms) (L : Row), Rise OrdSs.lt L → lookK OrdSs.lt s (msgsFrom L l) = toO (doAll s l (ofO (lookK OrdSs.lt s L)))
 | [], L, _ => by rw [doAll, toO_ofO]; rfl
 | m :: l, L, h => by
  rw [msgsFrom, look_msgs s l _ (msgV_rise h m).1, look_msg h, doAll, ofO_toO (tidy_on m s _)]
theorem look_fold (l : List Ms) (e : List En) (s : ByteArray) : lookK OrdSs.lt s (foldV l e) = valO l e s := by
 unfold foldV valO
 rw [look_msgs s l _ (tab_rise e).1, look_tab, ofO_toO (tidy_find e s)]
theorem held_eq (l : List Ms) (e : List En) (f t : ByteArray) : (heldV f t (foldV l e)).map toE = entriesV l e f t := by
 have hr := (fold_rise l e).1
 have hR : Rise OrdSs.lt (heldV f t (foldV l e)) := by
  unfold heldV
  split
  ·exact hr.filter _
  ·exact List.Pairwise.nil
 refine riseE_ext ?_ (rise_entries l e f t) (fun x => ?_)
 ·exact List.pairwise_map.2 hR
 ·rw [mem_entries, ← look_fold, look_iff hr]
  unfold heldV
  rw [List.mem_map]
  constructor
  ·rintro ⟨y, hy, rfl⟩
   split at hy
   ·rename_i q
    rw [List.mem_filter] at hy
    exact ⟨q, hy.2, hy.1⟩
   ·cases hy
  ·rintro ⟨h1, h2, h3⟩
   exact ⟨(x.f0, x.f1), by rw [if_pos h1, List.mem_filter]; exact ⟨h3, h2⟩, rfl⟩
end Go.Proofs.Ytebejadiaooooaa.Fo
end
section
namespace Go.Proofs.Ytebejadiaooooaa.P
open Go.RowKit Go.Proofs.YtebejadiaooooaaW.PrintWords Go.Proofs.YtebejadiaooooaaW.PrintLast Go.Proofs.YtebejadiaooooaaW.PrintMore Go.Proofs.Ytebejadiaooooaa.Own Go.Proofs.Ytebejadiaooooaa
structure Okd (n : Nat) (l : List Ms) (e : List En) : Prop where
 ll : l.length ≤ n
 el : e.length ≤ n
 od : ∀ m ∈ l, okD m
 os : ∀ m ∈ l, m.f2.size ≤ 140737488351232
theorem entriesF_eq {l : List Ms} {e : List En} (h : Okd 100000 l e) (f t : ByteArray) : Fo.entriesF l e f t = some (entriesV l e f t) := by
 unfold Fo.entriesF
 rw [if_pos (Fo.okF_iff.2 ⟨h.ll, h.el, h.os⟩)]
 exact congrArg some (Fo.held_eq l e f t)
theorem Okd.mono {n m : Nat} {l : List Ms} {e : List En} (h : Okd n l e) (k : n ≤ m) : Okd m l e := ⟨Nat.le_trans h.ll k, Nat.le_trans h.el k, h.od, h.os⟩
theorem same_self (k : Nat) (a : List En) (ha : a.length ≤ 1000000) (hk : a.length < k) : catchmentref05_Same.f k a a = some true := by
 rw [Same_eq k a a ha hk, sameE_iff.2 rfl]
end Go.Proofs.Ytebejadiaooooaa.P
end
section
namespace Go.Proofs.Ytebejadiaooooaa.P
open Go.RowKit Go.Proofs.YtebejadiaooooaaW.PrintWords Go.Proofs.YtebejadiaooooaaW.PrintLast Go.Proofs.YtebejadiaooooaaW.PrintMore Go.Proofs.Ytebejadiaooooaa.Own Go.Proofs.Ytebejadiaooooaa
theorem mem_find : ∀ (e : List En), RiseE e → ∀ x : En, x ∈ e ↔ toO (findV e x.f0) = some x.f1
 | [], _, x => by simp [findV, toO]
 | y :: e, h, x => by
  obtain ⟨h1, h2⟩ := List.pairwise_cons.1 h
  have ih := mem_find e h2 x
  by_cases hk : same y.f0 x.f0 = true
  ·have hk2 := same_iff.1 hk
   have hn : x ∉ e := fun hx => by
    have := h1 x hx
    rw [hk2, lt_irrefl] at this; cases this
   rw [findV, if_pos hk]
   obtain ⟨x0, x1⟩ := x
   obtain ⟨y0, y1⟩ := y
   simp only at hk2 hn ⊢
   simp [hn, toO, hk2, eq_comm]
  ·have hne2 : x ≠ y := fun h => by rw [h] at hk; exact hk (same_iff.2 rfl)
   rw [findV, if_neg hk, List.mem_cons, ← ih]
   simp [hne2]
end Go.Proofs.Ytebejadiaooooaa.P
end
section
namespace Go.Proofs.Ytebejadiaooooaa.P
open Go.RowKit Go.Proofs.YtebejadiaooooaaW.PrintWords Go.Proofs.YtebejadiaooooaaW.PrintLast Go.Proofs.YtebejadiaooooaaW.PrintMore Go.Proofs.Ytebejadiaooooaa.Own Go.Proofs.Ytebejadiaooooaa
abbrev Sd := S95
theorem rdD_at {L : List Sd} {i : Nat} {x : Sd} (h : L[i]? = some x) : rd_T95 L (i : Int) = x := by
 simp [rd_T95, rdOf, h]
def besideV : List En → List En → List Sd
 | [], [] => []
 | [], y :: b => ⟨y.f0, e0, y.f1, true, false⟩ :: besideV [] b
 | x :: a, [] => ⟨x.f0, x.f1, e0, false, true⟩ :: besideV a []
 | x :: a, y :: b => if lt x.f0 y.f0 = true then ⟨x.f0, x.f1, e0, false, true⟩ :: besideV a (y :: b) else if x.f0.toList = y.f0.toList then ⟨y.f0, x.f1, y.f1, true, true⟩ :: besideV a b else ⟨y.f0, e0, y.f1, true, false⟩ :: besideV (x :: a) b
termination_by a b => a.length + b.length
theorem beside_length : ∀ (n : Nat) (a b : List En), a.length + b.length ≤ n → (besideV a b).length ≤ n
 | n, [], [], _ => by simp [besideV]
 | 0, [], y :: b, h => by simp at h
 | n + 1, [], y :: b, h => by
  rw [besideV, List.length_cons]
  have := beside_length n [] b (by simp at h ⊢; omega)
  omega
 | 0, x :: a, [], h => by simp at h
 | n + 1, x :: a, [], h => by
  rw [besideV, List.length_cons]
  have := beside_length n a [] (by simp at h ⊢; omega)
  omega
 | 0, x :: a, y :: b, h => by simp at h
 | n + 1, x :: a, y :: b, h => by
  have h1 := beside_length n a (y :: b) (by simp at h ⊢; omega)
  have h2 := beside_length n a b (by simp at h ⊢; omega)
  have h3 := beside_length n (x :: a) b (by simp at h ⊢; omega)
  rw [besideV]
  split
  ·rw [List.length_cons]; omega
  ·split <;> (rw [List.length_cons]; omega)
theorem beside_loop (A B : List En) (hA : A.length ≤ 1000) (hB : B.length ≤ 1000) : ∀ (n : Nat) (a b : List En) (k i j : Nat) (o : List Sd), A.drop i = a → B.drop j = b → i ≤ A.length → j ≤ B.length → a.length + b.length ≤ n → o.length + n ≤ 100000 → 3 * n + 3 ≤ k → delta_beside.l0 k A B o (i : Int) (j : Int) = some (o ++ besideV a b) := by
 intro n
 induction n with
 | zero =>
  intro a b k i j o hda hdb hi hj hn ho hk
  obtain rfl : a = [] := List.eq_nil_of_length_eq_zero (by omega)
  obtain rfl : b = [] := List.eq_nil_of_length_eq_zero (by omega)
  obtain ⟨k, rfl⟩ : ∃ m, k = m + 1 + 1 := ⟨k - 2, by omega⟩
  have e1 := drop_none hda hi
  have e2 := drop_none hdb hj
  rw [delta_beside.l0, if_neg (by omega), delta_beside.j1, decide_eq_false (by omega), if_neg (by simp), besideV, List.append_nil]
 | succ n ih =>
  intro a b k i j o hda hdb hi hj hn ho hk
  obtain ⟨k, rfl⟩ : ∃ m, k = m + 1 + 1 + 1 := ⟨k - 3, by omega⟩
  have hz : (⟨#[]⟩ : ByteArray) = e0 := rfl
  have app : ∀ (y : Sd) (i' j' : Nat) (a' b' : List En), A.drop i' = a' → B.drop j' = b' → i' ≤ A.length → j' ≤ B.length → a'.length + b'.length ≤ n → delta_beside.l0 k A B (o ++ [y]) (i' : Int) (j' : Int) = some (o ++ y :: besideV a' b') := fun y i' j' a' b' h1 h2 h3 h4 h5 => by
   rw [ih a' b' k i' j' (o ++ [y]) h1 h2 h3 h4 h5 (by rw [List.length_append, List.length_singleton]; omega) (by omega)]
   simp
  match a, b, hda, hdb, hn with
  | [], [], hda, hdb, hn =>
   have e1 := drop_none hda hi
   have e2 := drop_none hdb hj
   rw [delta_beside.l0, if_neg (by omega), delta_beside.j1, decide_eq_false (by omega), if_neg (by simp), besideV, List.append_nil]
  | [], y :: b, hda, hdb, hn =>
   have e1 := drop_none hda hi
   obtain ⟨hlj, hy, hdb2, _, _⟩ := drop_any hdb
   rw [delta_beside.l0, if_neg (by omega), delta_beside.j1, decide_eq_true (by omega), if_pos rfl, if_neg (by omega), if_neg (by omega), delta_beside.j2, if_neg (by simp), if_neg (by omega), if_pos (by omega), if_pos (by omega), if_pos (by omega), rdE_at hy, wrap1 (by omega), besideV]
   exact app _ i (j + 1) [] b hda hdb2 hi (by omega) (by simp at hn ⊢; omega)
  | x :: a, [], hda, hdb, hn =>
   have e2 := drop_none hdb hj
   obtain ⟨hli, hx, hda2, _, _⟩ := drop_any hda
   rw [delta_beside.l0, if_pos (by omega), delta_beside.j1, if_pos rfl, if_pos (by omega), delta_beside.j2, if_pos rfl, if_pos (by omega), if_pos (by omega), if_pos (by omega), rdE_at hx, wrap1 (by omega), besideV]
   exact app _ (i + 1) j a [] hda2 hdb (by omega) hj (by simp at hn ⊢; omega)
  | x :: a, y :: b, hda, hdb, hn =>
   obtain ⟨hli, hx, hda2, _, _⟩ := drop_any hda
   obtain ⟨hlj, hy, hdb2, _, _⟩ := drop_any hdb
   have e3 : Op.bytesLess x.f0.toList y.f0.toList = lt x.f0 y.f0 := rfl
   rw [delta_beside.l0, if_pos (by omega), delta_beside.j1, if_pos rfl, if_neg (by omega), if_pos (by omega), if_pos (by omega), if_pos (by omega), if_pos (by omega), rdE_at hx, rdE_at hy, e3, delta_beside.j2, besideV]
   by_cases h1 : lt x.f0 y.f0 = true
   ·rw [if_pos h1, if_pos h1, if_pos (by omega), if_pos (by omega), if_pos (by omega), rdE_at hx, wrap1 (by omega)]
    exact app _ (i + 1) j a (y :: b) hda2 hdb (by omega) hj (by simp at hn ⊢; omega)
   ·rw [if_neg h1, if_neg h1, if_pos (by omega), if_pos (by omega), if_pos (by omega), if_pos (by omega), rdE_at hx, rdE_at hy, wrap1 (by omega), wrap1 (by omega)]
    by_cases h2 : x.f0.toList = y.f0.toList
    ·rw [if_pos h2, if_pos h2, if_pos (by omega)]
     exact app _ (i + 1) (j + 1) a b hda2 hdb2 (by omega) (by omega) (by simp at hn ⊢; omega)
    ·rw [if_neg h2, if_neg h2, if_pos (by omega)]
     exact app _ i (j + 1) (x :: a) b hda hdb2 hi (by omega) (by simp at hn ⊢; omega)
theorem Beside_eq (k : Nat) (a b : List En) (ha : a.length ≤ 1000) (hb : b.length ≤ 1000) (hk : 3 * (a.length + b.length) + 3 ≤ k) : delta_beside.f k a b = some (besideV a b) :=
 beside_loop a b ha hb (a.length + b.length) a b k 0 0 [] rfl rfl (by omega) (by omega) (Nat.le_refl _) (by simp; omega) hk
def diffM (x : Sd) : Option Ms :=
 if x.f3 = true then (if x.f4 = true then (if same x.f1 x.f2 = true then none else some ⟨1, 0, x.f0, e0, x.f2, 0⟩) else some ⟨1, 0, x.f0, e0, x.f2, 0⟩) else some ⟨2, 0, x.f0, e0, e0, 0⟩
def diffV (a b : List En) : List Ms := (besideV a b).filterMap diffM
theorem Diff_loop (L : List Sd) (hL : L.length ≤ 100000) : ∀ (l : List Sd) (k i : Nat) (o : List Ms), L.drop i = l → i ≤ L.length → o.length + l.length ≤ 100000 → l.length < k → delta_Diff.l0 k o L (L.length : Int) (i : Int) = some (o ++ l.filterMap diffM) := by
 intro l
 induction l with
 | nil =>
  intro k i o hd hi ho hk
  obtain ⟨k, rfl⟩ : ∃ m, k = m + 1 := ⟨k - 1, by omega⟩
  have := drop_none hd hi
  rw [delta_Diff.l0, if_neg (by omega)]
  simp
 | cons x l ih =>
  intro k i o hd hi ho hk
  simp only [List.length_cons] at ho hk
  obtain ⟨k, rfl⟩ : ∃ m, k = m + 1 := ⟨k - 1, by omega⟩
  obtain ⟨hlt, hx, hd2, _, _⟩ := drop_any hd
  have app : ∀ y : Ms, delta_Diff.l0 k (o ++ [y]) L (L.length : Int) ((i + 1 : Nat) : Int) = some (o ++ y :: l.filterMap diffM) := fun y => by
   rw [ih k (i + 1) (o ++ [y]) hd2 (by omega) (by rw [List.length_append, List.length_singleton]; omega) (by omega)]
   simp
  rw [delta_Diff.l0, if_pos (by omega), if_pos (by omega), if_pos (by omega), rdD_at hx, wrap1 (by omega), List.filterMap_cons]
  have hlo : o.length < 1954687338268 := by omega
  unfold diffM at app ⊢
  by_cases h3 : x.f3 = true
  ·rw [if_pos h3, if_pos h3]
   by_cases h4 : x.f4 = true
   ·rw [if_pos h4, if_pos h4]
    by_cases hs : x.f1.toList = x.f2.toList
    ·have hs2 : same x.f1 x.f2 = true := by simpa [same] using hs
     rw [if_pos hs, if_pos hs2]
     exact ih k (i + 1) o hd2 (by omega) (by omega) (by omega)
    ·have hs2 : ¬ same x.f1 x.f2 = true := by simpa [same] using hs
     rw [if_neg hs, if_neg hs2, if_pos hlo]
     exact app _
   ·rw [if_neg h4, if_neg h4, if_pos hlo]
    exact app _
  ·rw [if_neg h3, if_neg h3, if_pos hlo]
   exact app _
theorem Diff_eq (k : Nat) (a b : List En) (ha : a.length ≤ 1000) (hb : b.length ≤ 1000) (hk : 3 * (a.length + b.length) + 3 ≤ k) : delta_Diff.f k a b = some (diffV a b) := by
 have hl := beside_length _ a b (Nat.le_refl _)
 unfold delta_Diff.f
 rw [Beside_eq k a b ha hb hk, Option.bind_some]
 exact Diff_loop (besideV a b) (by omega) (besideV a b) k 0 [] rfl (by omega) (by simp; omega) (by omega)
structure Sides (a b : List En) (L : List Sd) : Prop where
 rise : L.Pairwise (fun x y => lt x.f0 y.f0 = true)
 val : ∀ x ∈ L, findV a x.f0 = (x.f1, x.f4) ∧ findV b x.f0 = (x.f2, x.f3)
 all : ∀ s, (findV a s).2 = true ∨ (findV b s).2 = true → ∃ x ∈ L, x.f0 = s
 some : ∀ x ∈ L, x.f3 = true ∨ x.f4 = true
theorem find_far {e : List En} {s : ByteArray} (h : ∀ x ∈ e, x.f0 ≠ s) : findV e s = (e0, false) := by
 induction e with
 | nil => rfl
 | cons x e ih =>
  rw [findV, if_neg (fun hs => h x (by simp) (same_iff.1 hs))]
  exact ih (fun y hy => h y (List.mem_cons_of_mem _ hy))
theorem lt_ne {a b : ByteArray} (h : lt a b = true) : a ≠ b := fun e => by rw [e, lt_irrefl] at h; cases h
theorem sides_gt {a b : List En} {L : List Sd} (h : Sides a b L) {k : ByteArray} (ha : ∀ x ∈ a, lt k x.f0 = true) (hb : ∀ x ∈ b, lt k x.f0 = true) : ∀ z ∈ L, lt k z.f0 = true := by
 intro z hz
 obtain ⟨v1, v2⟩ := h.val z hz
 rcases h.some z hz with h3 | h4
 ·obtain ⟨y, hy, e⟩ := find_mem b z.f0 (by rw [v2]; exact h3)
  rw [← e]; exact hb y hy
 ·obtain ⟨y, hy, e⟩ := find_mem a z.f0 (by rw [v1]; exact h4)
  rw [← e]; exact ha y hy
theorem sides_cons {A B a b : List En} {L : List Sd} {k v u : ByteArray} {p q : Bool} (h : Sides a b L) (ha : ∀ x ∈ a, lt k x.f0 = true) (hb : ∀ x ∈ b, lt k x.f0 = true) (hA : ∀ s, s ≠ k → findV A s = findV a s) (hB : ∀ s, s ≠ k → findV B s = findV b s) (hAk : findV A k = (v, q)) (hBk : findV B k = (u, p)) (hs : p = true ∨ q = true) : Sides A B (⟨k, v, u, p, q⟩ :: L) := by
 have hg := sides_gt h ha hb
 refine ⟨List.pairwise_cons.2 ⟨hg, h.rise⟩, fun x hx => ?_, fun s hs2 => ?_, fun x hx => ?_⟩
 ·rcases List.mem_cons.1 hx with rfl | hx
  ·exact ⟨hAk, hBk⟩
  ·have hne : x.f0 ≠ k := fun e => by have := hg x hx; rw [e, lt_irrefl] at this; cases this
   rw [hA _ hne, hB _ hne]
   exact h.val x hx
 ·by_cases hk : s = k
  ·exact ⟨_, List.mem_cons_self, hk.symm⟩
  ·rw [hA s hk, hB s hk] at hs2
   obtain ⟨x, hx, e⟩ := h.all s hs2
   exact ⟨x, List.mem_cons_of_mem _ hx, e⟩
 ·rcases List.mem_cons.1 hx with rfl | hx
  ·exact hs
  ·exact h.some x hx
theorem find_cons_ne {x : En} {a : List En} {s : ByteArray} (h : s ≠ x.f0) : findV (x :: a) s = findV a s := by
 rw [findV, if_neg (fun hs => h (same_iff.1 hs).symm)]
theorem find_cons_eq (x : En) (a : List En) : findV (x :: a) x.f0 = (x.f1, true) := by rw [findV, if_pos (same_iff.2 rfl)]
theorem beside_sides : ∀ (n : Nat) (a b : List En), a.length + b.length ≤ n → RiseE a → RiseE b → Sides a b (besideV a b)
 | n, [], [], _, _, _ => by
  rw [besideV]
  exact ⟨List.Pairwise.nil, fun x hx => by simp at hx, fun s hs => by simp [findV] at hs, fun x hx => by simp at hx⟩
 | 0, [], y :: b, h, _, _ => by simp at h
 | n + 1, [], y :: b, h, ha, hb => by
  obtain ⟨h1, h2⟩ := List.pairwise_cons.1 hb
  rw [besideV]
  exact sides_cons (beside_sides n [] b (by simp at h ⊢; omega) ha h2) (fun x hx => by simp at hx) h1 (fun s _ => rfl) (fun s hs => find_cons_ne hs) rfl (find_cons_eq y b) (.inl rfl)
 | 0, x :: a, [], h, _, _ => by simp at h
 | n + 1, x :: a, [], h, ha, hb => by
  obtain ⟨h1, h2⟩ := List.pairwise_cons.1 ha
  rw [besideV]
  exact sides_cons (beside_sides n a [] (by simp at h ⊢; omega) h2 hb) h1 (fun x hx => by simp at hx) (fun s hs => find_cons_ne hs) (fun s _ => rfl) (find_cons_eq x a) rfl (.inr rfl)
 | 0, x :: a, y :: b, h, _, _ => by simp at h
 | n + 1, x :: a, y :: b, h, ha, hb => by
  obtain ⟨a1, a2⟩ := List.pairwise_cons.1 ha
  obtain ⟨b1, b2⟩ := List.pairwise_cons.1 hb
  rw [besideV]
  split
  ·rename_i hl
   have hyb : ∀ z ∈ y :: b, lt x.f0 z.f0 = true := fun z hz => by
    rcases List.mem_cons.1 hz with rfl | hz
    ·exact hl
    ·exact lt_trans hl (b1 z hz)
   exact sides_cons (beside_sides n a (y :: b) (by simp at h ⊢; omega) a2 hb) a1 hyb (fun s hs => find_cons_ne hs) (fun s _ => rfl) (find_cons_eq x a) (find_far (fun z hz e => lt_ne (hyb z hz) e.symm)) (.inr rfl)
  ·rename_i hl
   split
   ·rename_i he
    have he : x.f0 = y.f0 := same_iff.1 (by simpa [same] using he)
    exact sides_cons (beside_sides n a b (by simp at h ⊢; omega) a2 b2) (fun z hz => by rw [← he]; exact a1 z hz) b1 (fun s hs => find_cons_ne (by rw [he]; exact hs)) (fun s hs => find_cons_ne hs) (by rw [← he]; exact find_cons_eq x a) (find_cons_eq y b) (.inl rfl)
   ·rename_i he
    have hyx : lt y.f0 x.f0 = true := by
     rcases lt_tri x.f0 y.f0 with q | q | q
     ·exact absurd q hl
     ·exact absurd (by rw [q]) he
     ·exact q
    have hxa : ∀ z ∈ x :: a, lt y.f0 z.f0 = true := fun z hz => by
     rcases List.mem_cons.1 hz with rfl | hz
     ·exact hyx
     ·exact lt_trans hyx (a1 z hz)
    exact sides_cons (beside_sides n (x :: a) b (by simp at h ⊢; omega) ha b2) hxa b1 (fun s _ => rfl) (fun s hs => find_cons_ne hs) (find_far (fun z hz e => lt_ne (hxa z hz) e.symm)) (find_cons_eq y b) (.inl rfl)
theorem sides {a b : List En} (ha : RiseE a) (hb : RiseE b) : Sides a b (besideV a b) := beside_sides _ a b (Nat.le_refl _) ha hb
end Go.Proofs.Ytebejadiaooooaa.P
end
section
namespace Go.Proofs.Ytebejadiaooooaa.P
open Go.RowKit Go.Proofs.YtebejadiaooooaaW.PrintWords Go.Proofs.YtebejadiaooooaaW.PrintLast Go.Proofs.YtebejadiaooooaaW.PrintMore Go.Proofs.Ytebejadiaooooaa.Own Go.Proofs.Ytebejadiaooooaa
theorem diffM_key {x : Sd} {m : Ms} (h : diffM x = some m) : m.f2 = x.f0 ∧ isPt m.f0 = true := by
 unfold diffM at h
 (repeat' split at h) <;> first | (cases h; done) | (obtain rfl := Option.some.inj h; exact ⟨rfl, rfl⟩)
theorem point_far {m : Ms} {s : ByteArray} (hp : isPt m.f0 = true) (h : m.f2 ≠ s) : touchesM m s = false := by
 have h4 := isPt_ne4 hp
 have : same m.f2 s = false := by
  cases q : same m.f2 s with
  | false => rfl
  | true => exact absurd (same_iff.1 q) h
 simp [touchesM, touches, hp, h4, this]
theorem point_on {m : Ms} {s : ByteArray} (hp : isPt m.f0 = true) (h : m.f2 = s) : touchesM m s = true := by
 have h4 := isPt_ne4 hp
 have : same m.f2 s = true := same_iff.2 h
 simp [touchesM, touches, hp, h4, this]
theorem diffM_on (x : Sd) (h1 : tidy (x.f1, x.f4)) (h2 : tidy (x.f2, x.f3)) : doAll x.f0 ((diffM x).toList) (x.f1, x.f4) = (x.f2, x.f3) := by
 obtain ⟨s, a, b, has, had⟩ := x
 unfold diffM
 cases has with
 | false =>
  have := h2 rfl
  simp only at this
  rw [if_neg (by simp)]
  show onM _ _ _ = _
  rw [onM_touch (point_on rfl rfl)]
  simp [applyV, this]
 | true =>
  cases had with
  | false =>
   rw [if_pos rfl, if_neg (by simp)]
   show onM _ _ _ = _
   rw [onM_touch (point_on rfl rfl)]
   simp [applyV]
  | true =>
   rw [if_pos rfl, if_pos rfl]
   split
   ·rename_i hs
    have := same_iff.1 hs
    simp only at this
    rw [this]; rfl
   ·show onM _ _ _ = _
    rw [onM_touch (point_on rfl rfl)]
    simp [applyV]
theorem diff_far {s : ByteArray} {L : List Sd} (h : ∀ x ∈ L, x.f0 ≠ s) {p : ByteArray × Bool} (hp : tidy p) : doAll s (L.filterMap diffM) p = p := by
 refine doAll_far hp (fun m hm => ?_)
 obtain ⟨x, hx, e⟩ := List.mem_filterMap.1 hm
 obtain ⟨h1, h2⟩ := diffM_key e
 exact point_far h2 (by rw [h1]; exact h x hx)
theorem key_split {L : List Sd} (hr : L.Pairwise (fun x y => lt x.f0 y.f0 = true)) {x : Sd} (hx : x ∈ L) : ∃ L1 L2, L = L1 ++ x :: L2 ∧ (∀ y ∈ L1, y.f0 ≠ x.f0) ∧ (∀ y ∈ L2, y.f0 ≠ x.f0) := by
 obtain ⟨L1, L2, rfl⟩ := List.append_of_mem hx
 obtain ⟨_, h2, h3⟩ := List.pairwise_append.1 hr
 obtain ⟨h4, _⟩ := List.pairwise_cons.1 h2
 exact ⟨L1, L2, rfl, fun y hy => lt_ne (h3 y hy x (by simp)), fun y hy => (lt_ne (h4 y hy)).symm⟩
theorem diff_val {a b : List En} {L : List Sd} (h : Sides a b L) (s : ByteArray) : doAll s (L.filterMap diffM) (findV a s) = findV b s := by
 by_cases hs : ∃ x ∈ L, x.f0 = s
 ·obtain ⟨x, hx, rfl⟩ := hs
  obtain ⟨v1, v2⟩ := h.val x hx
  obtain ⟨L1, L2, e, f1, f2⟩ := key_split h.rise hx
  have t1 := tidy_find a x.f0
  have t2 := tidy_find b x.f0
  rw [e, List.filterMap_append, doAll_append, diff_far f1 t1]
  have e2 : (x :: L2).filterMap diffM = (diffM x).toList ++ L2.filterMap diffM := by
   rw [List.filterMap_cons]
   cases diffM x <;> rfl
  rw [e2, doAll_append]
  rw [v1] at t1 ⊢
  rw [v2] at t2 ⊢
  rw [diffM_on x t1 t2, diff_far f2 t2]
 ·have hn : ∀ x ∈ L, x.f0 ≠ s := fun x hx e => hs ⟨x, hx, e⟩
  rw [diff_far hn (tidy_find a s)]
  have ha : (findV a s).2 = false := by
   cases q : (findV a s).2 with
   | false => rfl
   | true => exact absurd (h.all s (.inl q)) hs
  have hb : (findV b s).2 = false := by
   cases q : (findV b s).2 with
   | false => rfl
   | true => exact absurd (h.all s (.inr q)) hs
  have e1 := tidy_find a s ha
  have e2 := tidy_find b s hb
  exact Prod.ext (by rw [e1, e2]) (by rw [ha, hb])
theorem entries_of_val {l : List Ms} {a b : List En} (hb : RiseE b) (h : ∀ s, doAll s l (findV a s) = findV b s) : entriesV l a e0 e0 = b := by
 refine riseE_ext (rise_entries _ _ _ _) hb (fun x => ?_)
 rw [mem_entries, mem_find b hb x]
 unfold valO
 rw [h x.f0]
 simp [rr_all, holds_all]
open Go.Proofs.Ytebejadiaooooaa.Dl (endV stepR runsF runsV)
theorem told_far {x : Sd} {s : ByteArray} (h : x.f0 ≠ s) {p : ByteArray × Bool} (hp : tidy p) : doAll s ((diffM x).toList) p = p := by
 refine doAll_far hp (fun m hm => ?_)
 have e : diffM x = some m := by
  cases q : diffM x with
  | none => rw [q] at hm; simp at hm
  | some y => rw [q] at hm; simp at hm; rw [hm]
 obtain ⟨h1, h2⟩ := diffM_key e
 exact point_far h2 (by rw [h1]; exact h)
end Go.Proofs.Ytebejadiaooooaa.P
end
section
namespace Go.Proofs.Ytebejadiaooooaa.P
open Go.RowKit Go.Proofs.YtebejadiaooooaaW.PrintWords Go.Proofs.YtebejadiaooooaaW.PrintLast Go.Proofs.YtebejadiaooooaaW.PrintMore Go.Proofs.Ytebejadiaooooaa.Own Go.Proofs.Ytebejadiaooooaa
open Go.Proofs.Ytebejadiaooooaa.Dl (endV stepR runsF runsV okR okR_iff runsC)
def rightV (a : List En) : Bool := decide (a.length ≤ 40) && risesV a
theorem right_eq (k : Nat) (a : List En) (hk : 41 < k) : catchmentlaw37_right.f k a = some (rightV a) := by
 unfold catchmentlaw37_right.f rightV
 by_cases h : a.length ≤ 40
 ·rw [if_pos (by omega), Rises_eq _ _ (by omega) (by omega), Option.bind_some, decide_eq_true h, Bool.true_and]
 ·rw [if_neg (by omega), decide_eq_false h, Bool.false_and]
def keyOk (e : List En) : Prop := ∀ x ∈ e, x.f0.size ≤ 140737488351232
theorem side_size {a b : List En} {L : List Sd} (h : Sides a b L) (ha : keyOk a) (hb : keyOk b) : ∀ x ∈ L, x.f0.size ≤ 140737488351232 := by
 intro x hx
 obtain ⟨v1, v2⟩ := h.val x hx
 rcases h.some x hx with h3 | h4
 ·obtain ⟨y, hy, e⟩ := find_mem b x.f0 (by rw [v2]; exact h3)
  rw [← e]; exact hb y hy
 ·obtain ⟨y, hy, e⟩ := find_mem a x.f0 (by rw [v1]; exact h4)
  rw [← e]; exact ha y hy
theorem diff_ok {L : List Sd} (hs : ∀ x ∈ L, x.f0.size ≤ 140737488351232) : ∀ m ∈ L.filterMap diffM, okD m ∧ m.f2.size ≤ 140737488351232 := by
 intro m hm
 obtain ⟨x, hx, e⟩ := List.mem_filterMap.1 hm
 refine ⟨?_, by rw [(diffM_key e).1]; exact hs x hx⟩
 unfold diffM at e
 have z : (0 : Int) ≤ 0 ∧ (0 : Int) < 18446744073709551616 := ⟨Int.le_refl _, by decide⟩
 (repeat' split at e) <;> first | (cases e; done) | (obtain rfl := Option.some.inj e; exact z)
theorem Patch_eq {a : List En} {l : List Ms} (ha : a.length ≤ 1000) (hl : l.length ≤ 1000) (h : ∀ m ∈ l, okD m ∧ m.f2.size ≤ 140737488351232) : delta_Patch.f a l = some (entriesV l a e0 e0) := by
 unfold delta_Patch.f
 rw [show fold_Entries.f l a ⟨#[]⟩ ⟨#[]⟩ = some (entriesV l a e0 e0) from entriesF_eq ⟨by omega, by omega, fun m hm => (h m hm).1, fun m hm => (h m hm).2⟩ e0 e0, Option.bind_some]
end Go.Proofs.Ytebejadiaooooaa.P
end
section
namespace Go.Proofs.Ytebejadiaooooaa.P
open Go.RowKit Go.Proofs.YtebejadiaooooaaW.PrintWords Go.Proofs.YtebejadiaooooaaW.PrintLast Go.Proofs.YtebejadiaooooaaW.PrintMore Go.Proofs.Ytebejadiaooooaa.Own Go.Proofs.Ytebejadiaooooaa
open Go.Proofs.Ytebejadiaooooaa.Dl (endV runsV)
theorem rdL_at {X : List (List En)} {i : Nat} {e : List En} (h : X[i]? = some e) : rd_L7 X (i : Int) = e := by
 simp [rd_L7, rdOf, h]
theorem keys_in (X : List (List En)) (e : List En) (he : e.length ≤ 100) (i : Nat) (hi : X[i]? = some e) (hi2 : i < 1000) (n : Nat) (hn : 300 ≤ n) (r : Option (List ByteArray)) : ∀ (q : List En) (k j : Nat) (o : List ByteArray), e.drop j = q → j ≤ e.length → o.length + q.length ≤ 200 → n + q.length < k → (∀ k', n ≤ k' → catchmentref37_keys.l0 k' X (addKeys o q) ((i + 1 : Nat) : Int) = r) → catchmentref37_keys.l1 k X o (i : Int) (j : Int) = r := by
 intro q
 have hlt := (List.getElem?_eq_some_iff.1 hi).1
 induction q with
 | nil =>
  intro k j o hd hj ho hk h0
  obtain ⟨k, rfl⟩ : ∃ m, k = m + 1 := ⟨k - 1, by omega⟩
  have := drop_none hd hj
  rw [catchmentref37_keys.l1, if_pos (by omega), if_pos (by omega), rdL_at hi, if_neg (by omega), wrap1 (by omega)]
  exact h0 k (by simp at hk; omega)
 | cons x q ih =>
  intro k j o hd hj ho hk h0
  simp only [List.length_cons] at ho hk
  obtain ⟨k, rfl⟩ : ∃ m, k = m + 1 := ⟨k - 1, by omega⟩
  obtain ⟨hltj, hx, hd2, _, _⟩ := drop_any hd
  have hl := intoV_length x.f0 o
  rw [catchmentref37_keys.l1, if_pos (by omega), if_pos (by omega), rdL_at hi, if_pos (by omega), if_pos (by omega), rdE_at hx, Into_eq _ _ _ (by omega) (by omega), Option.bind_some, wrap1 (by omega)]
  exact ih k (j + 1) (intoV o x.f0) hd2 (by omega) (by omega) (by omega) h0
theorem has_key {e : List En} (h : RiseE e) (s : ByteArray) : (findV e s).2 = true ↔ ∃ x ∈ e, x.f0 = s := by
 constructor
 ·exact find_mem e s
 ·rintro ⟨x, hx, rfl⟩
  have := (mem_find e h x).1 hx
  unfold toO at this
  cases q : (findV e x.f0).2 with
  | true => rfl
  | false => rw [q, if_neg (by simp)] at this; cases this
theorem same37_eq (k : Nat) (a b : List En) (s : ByteArray) (ha : a.length ≤ 40) (hb : b.length ≤ 40) (hk : 41 ≤ k) : catchmentref37_same.f k a b s = some (sameO (findV a s) (findV b s)) := by
 unfold catchmentref37_same.f
 rw [Find_eq _ _ _ (by omega) (by omega), Option.bind_some, Find_eq _ _ _ (by omega) (by omega), Option.bind_some]
 unfold sameO same
 by_cases h : (findV a s).1.toList = (findV b s).1.toList
 ·rw [if_pos h, decide_eq_true h, Bool.true_and]
 ·rw [if_neg h, decide_eq_false h, Bool.false_and]
theorem told_is (x : Sd) (h : x.f3 = true ∨ x.f4 = true) : diffM x = if sameO (x.f1, x.f4) (x.f2, x.f3) = true then none else some (if x.f3 = true then ⟨1, 0, x.f0, e0, x.f2, 0⟩ else ⟨2, 0, x.f0, e0, e0, 0⟩) := by
 obtain ⟨s, u, v, p, q⟩ := x
 unfold diffM sameO
 cases p <;> cases q <;> simp at h ⊢
section
variable {a b : List En} {L : List Sd} (hS : Sides a b L) (ha : a.length ≤ 40) (hb : b.length ≤ 40) (hL : L.length ≤ 80)
include hS ha hb hL
end
end Go.Proofs.Ytebejadiaooooaa.P
end
