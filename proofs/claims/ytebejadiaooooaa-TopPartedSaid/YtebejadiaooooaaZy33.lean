/- Texts of one claim (laid by shake.py). -/
import Derived.Test.YtebejadiaooooaaZy0
import Derived.Deep.Slices
import Derived.ChangeArms
import Derived.SizedLaws
import Derived.OpenShut
import Derived.Test.YtebejadiaooooaaZy3
import Derived.Test.YtebejadiaooooaaZy16
import Derived.Test.YtebejadiaooooaaZy28
import Derived.Test.YtebejadiaooooaaZy30
import Derived.Test.YtebejadiaooooaaZy31
import Derived.Test.YtebejadiaooooaaZy24
set_option linter.unusedVariables false
set_option linter.unusedSimpArgs false
section
namespace Go.Proofs.Ytebejadiaooooaa.Rd
open Go.RowKit Go.ChangeShapes Go.WideShapes Go.Deep Go.Proofs.YtebejadiaooooaaW.PrintWords
structure Opens {α : Type} (P : Program) (t : TypeId) (d : Kd α) (wf : α → Prop) : Prop where
 cells : P.cellsOf t = d.sz
 down : ∀ {H : Type} {enc : TypeId × Value → H} {w : World} {base : Nat} {spare : Nat → Bool} {held : Bool} {fuel : Nat} {cs : List Value} {x : DataW H × List MemPlace},
  DataW.trod enc P w base spare held fuel t cs = some x → (∀ n ∈ x.1.weights P t, n ≤ reachBytes) → ∃ a, d.K w a cs ∧ wf a
theorem mem_weightsAll {H : Type} {P : Program} {e : TypeId} {d : DataW H} : ∀ {l : List (DataW H)}, d ∈ l → ∀ n ∈ d.weights P e, n ∈ DataW.weightsAll P e l
 | x :: l, hd, n, hn => by
  simp only [DataW.weightsAll, List.mem_append]
  rcases List.mem_cons.1 hd with rfl | hd
  ·exact .inl hn
  ·exact .inr (mem_weightsAll hd n hn)
theorem Opens.int {P : Program} {t : TypeId} {k : IntKind} (ht : P.underlying t = some (.int k)) (hc : P.cellsOf t = 1) : Opens P t (Kd.int k) (fun n => (Lit.int k n).wf = true) where
 cells := hc
 down := by
  intro H enc w base spare held fuel cs x h _
  obtain ⟨n, rfl, _, hw⟩ := DataW.trod_int ht h
  exact ⟨n, rfl, hw⟩
theorem Opens.bool {P : Program} {t : TypeId} (ht : P.underlying t = some .bool) (hc : P.cellsOf t = 1) : Opens P t Kd.bool (fun _ => True) where
 cells := hc
 down := by
  intro H enc w base spare held fuel cs x h _
  obtain ⟨b, rfl, _⟩ := DataW.trod_bool ht h
  exact ⟨b, rfl, trivial⟩
theorem Opens.string {P : Program} {t : TypeId} (ht : P.underlying t = some .string) (hc : P.cellsOf t = 1) : Opens P t Kd.string (fun s => s.size ≤ 140737488351232) where
 cells := hc
 down := by
  intro H enc w base spare held fuel cs x h hw
  obtain ⟨s, rfl, rfl, _⟩ := DataW.trod_string ht h
  refine ⟨s, rfl, ?_⟩
  have := hw s.data.toList.length (by simp [DataW.weights])
  have e : s.data.toList.length = s.size := by simp
  rw [e] at this
  exact this
theorem Opens.slice {α : Type} {P : Program} {t e : TypeId} {d : Kd α} {wf : α → Prop} (ht : P.underlying t = some (.slice e)) (hc : P.cellsOf t = 1) {B : Nat} (hB : P.bytesOf e = B) (he : Opens P e d wf) :
  Opens P t (Kd.slice e d) (fun l => l.length * B ≤ 140737488351232 ∧ ∀ a ∈ l, wf a) where
 cells := hc
 down := by
  intro H enc w base spare held fuel cs x h hw
  rcases open_slice ht h with ⟨rfl, _⟩ | ⟨a, len, cap, m, n, D, Pl, rfl, hb, hl, hm, hmm, rfl, hx⟩
  ·exact ⟨[], ⟨none, 0, rfl, Nat.le_refl _, rfl, by simp, fun h0 => absurd h0 (by simp)⟩, by simp, fun a ha => by simp at ha⟩
  ·have hlm : len ≤ m := by rw [hmm]; split <;> omega
   have hel : ∀ i : Fin len, ∃ y : α, ∃ c : List Value, w.cells? base (a.add (i.1 * P.cellsOf e)) (P.cellsOf e) = some c ∧ d.K w y c ∧ wf y := by
    intro i
    obtain ⟨c, h1, h2⟩ := hx i.1 (by omega)
    obtain ⟨y, hy, hwf⟩ := he.down h2 (fun n hn => hw n (by
     simp only [DataW.weights, ht, List.mem_cons, List.mem_append]
     exact .inr (.inl (mem_weightsAll (List.mem_map.2 ⟨i.1, List.mem_range.2 i.2, rfl⟩) n hn))))
    exact ⟨y, c, h1, hy, hwf⟩
   obtain ⟨f, hf⟩ := Classical.axiomOfChoice hel
   have hlen : (List.ofFn f).length = len := by simp
   have hmax : len ≤ 9223372036854775807 := by simp only [maxLen] at hm; omega
   refine ⟨List.ofFn f, ⟨some a, cap, ?_, ?_, ?_, ?_, ?_⟩, ?_, ?_⟩
   ·rw [hlen]
   ·rw [hlen]; exact hl
   ·rfl
   ·rw [hlen]; exact hmax
   ·intro _
    refine ⟨a, rfl, fun j p hj => ?_⟩
    obtain ⟨hjl, rfl⟩ := List.getElem?_eq_some_iff.1 hj
    rw [hlen] at hjl
    obtain ⟨c, h1, hy, _⟩ := hf ⟨j, hjl⟩
    obtain ⟨_, hcl, hcell⟩ := World.cells?_some h1
    refine ⟨c, by rw [hcl, he.cells], by simpa using hy, fun i u hu => ?_⟩
    have hi : i < P.cellsOf e := by
     have := (List.getElem?_eq_some_iff.1 hu).1
     omega
    have := hcell i hi
    rw [Go.Deep.add_add] at this
    rw [← he.cells, this, hu]
   ·rw [hlen]
    have hz := hw (((List.range len).map D).length + ((List.range (m - len)).map fun j => D (len + j)).length |>.mul (P.bytesOf e)) (by
     simp only [DataW.weights, ht, List.mem_cons]
     exact .inl rfl)
    rw [hB] at hz
    simp only [List.length_map, List.length_range] at hz
    have h2 : len * B ≤ (len + (m - len)) * B := Nat.mul_le_mul_right _ (by omega)
    exact Nat.le_trans h2 hz
   ·intro y hy
    obtain ⟨i, rfl⟩ := List.mem_ofFn.1 hy
    obtain ⟨_, _, _, hwf⟩ := hf i
    exact hwf
theorem Opens.iso {α β : Type} {P : Program} {t : TypeId} {d : Kd α} {wf : α → Prop} {f : β → α} (g : α → β) (hg : ∀ a, f (g a) = a) (h : Opens P t d wf) : Opens P t (Kd.iso d f) (fun b => wf (f b)) where
 cells := h.cells
 down := by
  intro H enc w base spare held fuel cs x hx hw
  obtain ⟨a, hk, hwf⟩ := h.down hx hw
  refine ⟨g a, ?_, ?_⟩
  ·show d.K w (f (g a)) cs
   rw [hg]; exact hk
  ·show wf (f (g a))
   rw [hg]; exact hwf
structure OpensFs {α : Type} (P : Program) (fs : List Field) (off : Nat) (d : Kd α) (wf : α → Prop) : Prop where
 down : ∀ {H : Type} {enc : TypeId × Value → H} {w : World} {base : Nat} {spare : Nat → Bool} {held : Bool} {fuel : Nat} {cs : List Value} {xs : List (DataW H × List MemPlace)},
  cs.length = d.sz → xs.length = fs.length → (∀ (i : Nat) (f : Field), fs[i]? = some f → DataW.trod enc P w base spare held fuel f.type ((cs.drop (f.offset - off)).take (P.cellsOf f.type)) = xs[i]?) →
  (∀ n ∈ DataW.weightsEach P (fs.map (·.type)) (xs.map (·.1)), n ≤ reachBytes) → ∃ a, d.K w a cs ∧ wf a
 offs : ∀ f ∈ fs, off ≤ f.offset
theorem OpensFs.one {α : Type} {P : Program} {f : Field} {off : Nat} {d : Kd α} {wf : α → Prop} (ho : f.offset = off) (h : Opens P f.type d wf) : OpensFs P [f] off d wf where
 offs := by simp [ho]
 down := by
  intro H enc w base spare held fuel cs xs hl hxs hx hw
  have h0 := hx 0 f rfl
  obtain ⟨x, rfl⟩ : ∃ x, xs = [x] := by
   match xs, hxs with
   | [x], _ => exact ⟨x, rfl⟩
  rw [ho, Nat.sub_self, List.drop_zero, h.cells, ← hl, List.take_length] at h0
  exact h.down h0 (fun n hn => hw n (by simp [DataW.weightsEach, hn]))
theorem OpensFs.cons {α β : Type} {P : Program} {f : Field} {fs : List Field} {off off2 : Nat} {d : Kd α} {d2 : Kd β} {wf : α → Prop} {wf2 : β → Prop} (ho : f.offset = off) (h : Opens P f.type d wf) (ho2 : off2 = off + d.sz)
  (h2 : OpensFs P fs off2 d2 wf2) : OpensFs P (f :: fs) off (Kd.pair d d2) (fun p => wf p.1 ∧ wf2 p.2) where
 offs := by
  intro g hg
  rcases List.mem_cons.1 hg with rfl | hg
  ·omega
  ·have := h2.offs g hg; omega
 down := by
  intro H enc w base spare held fuel cs xs hl hxs hx hw
  obtain ⟨x, ys, rfl⟩ : ∃ x ys, xs = x :: ys := by
   match xs, hxs with
   | x :: ys, _ => exact ⟨x, ys, rfl⟩
  have hl' : cs.length = d.sz + d2.sz := hl
  have h0 := hx 0 f rfl
  rw [ho, Nat.sub_self, List.drop_zero, h.cells] at h0
  obtain ⟨a, ha, hwa⟩ := h.down h0 (fun n hn => hw n (by simp [DataW.weightsEach, hn]))
  obtain ⟨b, hb, hwb⟩ := h2.down (cs := cs.drop d.sz) (xs := ys) (by rw [List.length_drop, hl']; omega) (by simpa using hxs) (fun i g hg => by
   have h1 := hx (i + 1) g (by simpa using hg)
   have hgo := h2.offs g (List.mem_of_getElem? hg)
   rw [List.drop_drop]
   have e : d.sz + (g.offset - off2) = g.offset - off := by omega
   rw [e]
   simpa using h1) (fun n hn => hw n (by simp [DataW.weightsEach, hn]))
  exact ⟨(a, b), ⟨cs.take d.sz, cs.drop d.sz, (List.take_append_drop _ _).symm, ha, hb⟩, hwa, hwb⟩
theorem Opens.struct {α : Type} {P : Program} {t : TypeId} {fs : Array Field} {d : Kd α} {wf : α → Prop} (ht : P.underlying t = some (.struct fs)) (hc : P.cellsOf t = d.sz) (h : OpensFs P fs.toList 0 d wf) : Opens P t d wf where
 cells := hc
 down := by
  intro H enc w base spare held fuel cs x hx hw
  obtain ⟨xs, n, rfl, rfl, hl, hxs, hf⟩ := DataW.trod_struct ht hx
  refine h.down (enc := enc) (w := w) (base := base) (spare := spare) (held := held) (fuel := n) (cs := cs) (xs := xs) (by rw [hl, hc]) (by simpa using hxs) (fun i f hi => ?_) (fun n hn => hw n (by simpa [DataW.weights, ht] using hn))
  rw [Nat.sub_zero]
  exact hf i f (by simpa using hi)
end Go.Proofs.Ytebejadiaooooaa.Rd
end
section
namespace Go.Proofs.Ytebejadiaooooaa.P
open Go.RowKit Go.Proofs.Ytebejadiaooooaa.Rd Go.Proofs.YtebejadiaooooaaW.PrintWords
theorem o9 : Opens Try.prog 9 Kd.string (fun x_ => x_.size ≤ 140737488351232) := Opens.string Try.underlying9 (by kernel_rfl)
def wf39 (x : S39) : Prop := (x.f0.size ≤ 140737488351232) ∧ (x.f1.size ≤ 140737488351232)
theorem o39 : Opens Try.prog 39 k39 wf39 := Opens.iso (g := fun p_ => (⟨p_.1, p_.2⟩ : S39)) (fun _ => rfl) (Opens.struct Try.underlying39 (by kernel_rfl) (OpensFs.cons rfl o9 rfl (OpensFs.one rfl o9)))
theorem o23 : Opens Try.prog 23 (Kd.slice 39 k39) (fun x_ => x_.length * 32 ≤ 140737488351232 ∧ ∀ a_ ∈ x_, wf39 a_) := Opens.slice Try.underlying23 (by kernel_rfl) (by kernel_rfl) o39
theorem o29 : Opens Try.prog 29 (Kd.int .u8) (fun n => (Lit.int .u8 n).wf = true) := Opens.int Try.underlying29 (by kernel_rfl)
theorem o3 : Opens Try.prog 3 (Kd.int .i64) (fun n => (Lit.int .i64 n).wf = true) := Opens.int Try.underlying3 (by kernel_rfl)
theorem o30 : Opens Try.prog 30 (Kd.int .u64) (fun n => (Lit.int .u64 n).wf = true) := Opens.int Try.underlying30 (by kernel_rfl)
def wf32 (x : S32) : Prop := ((Lit.int .u8 x.f0).wf = true) ∧ ((Lit.int .i64 x.f1).wf = true) ∧ (x.f2.size ≤ 140737488351232) ∧ (x.f3.size ≤ 140737488351232) ∧ (x.f4.size ≤ 140737488351232) ∧ ((Lit.int .u64 x.f5).wf = true)
theorem o32 : Opens Try.prog 32 k32 wf32 := Opens.iso (g := fun p_ => (⟨p_.1, p_.2.1, p_.2.2.1, p_.2.2.2.1, p_.2.2.2.2.1, p_.2.2.2.2.2⟩ : S32)) (fun _ => rfl) (Opens.struct Try.underlying32 (by kernel_rfl) (OpensFs.cons rfl o29 rfl (OpensFs.cons rfl o3 rfl (OpensFs.cons rfl o9 rfl (OpensFs.cons rfl o9 rfl (OpensFs.cons rfl o9 rfl (OpensFs.one rfl o30)))))))
theorem o22 : Opens Try.prog 22 (Kd.slice 32 k32) (fun x_ => x_.length * 72 ≤ 140737488351232 ∧ ∀ a_ ∈ x_, wf32 a_) := Opens.slice Try.underlying22 (by kernel_rfl) (by kernel_rfl) o32
theorem o24 : Opens Try.prog 24 (Kd.slice 9 Kd.string) (fun x_ => x_.length * 16 ≤ 140737488351232 ∧ ∀ a_ ∈ x_, a_.size ≤ 140737488351232) := Opens.slice Try.underlying24 (by kernel_rfl) (by kernel_rfl) o9
end Go.Proofs.Ytebejadiaooooaa.P
end
section
namespace Go.Proofs.Ytebejadiaooooaa.P
open Go.RowKit Go.Proofs.YtebejadiaooooaaW.PrintWords Go.Proofs.YtebejadiaooooaaW.PrintLast Go.Proofs.YtebejadiaooooaaW.PrintMore Go.Proofs.Ytebejadiaooooaa.Own Go.Proofs.Ytebejadiaooooaa
def ofO : Option ByteArray → ByteArray × Bool
 | none => (e0, false)
 | some v => (v, true)
def toO (p : ByteArray × Bool) : Option ByteArray := if p.2 = true then some p.1 else none
theorem toO_ofO (o : Option ByteArray) : toO (ofO o) = o := by cases o <;> rfl
def tidy (p : ByteArray × Bool) : Prop := p.2 = false → p.1 = e0
theorem ofO_toO {p : ByteArray × Bool} (h : tidy p) : ofO (toO p) = p := by
 obtain ⟨v, b⟩ := p
 cases b
 ·have := h rfl; simp at this; subst this; rfl
 ·rfl
theorem tidy_apply (k : Int) (vv : ByteArray) (d : Int) (v : ByteArray) (is : Bool) : tidy (applyV k vv d v is) := by
 unfold applyV tidy
 (repeat' split) <;> simp
theorem tidy_on (m : Ms) (s : ByteArray) (p : ByteArray × Bool) : tidy (onM m s p) := by
 unfold onM onV
 split
 ·exact tidy_apply _ _ _ _ _
 ·unfold tidy
  split <;> simp
theorem tidy_find : ∀ (e : List En) (s : ByteArray), tidy (findV e s)
 | [], s => by simp [findV, tidy]
 | x :: e, s => by
  unfold findV
  split
  ·simp [tidy]
  ·exact tidy_find e s
theorem tidy_doAll (s : ByteArray) : ∀ (l : List Ms) (p : ByteArray × Bool), tidy p → tidy (doAll s l p)
 | [], p, h => h
 | m :: l, p, h => tidy_doAll s l _ (tidy_on m s p)
theorem norm_tidy {p : ByteArray × Bool} (h : tidy p) : (norm p.1 p.2, p.2) = p := by
 obtain ⟨v, b⟩ := p
 cases b
 ·have := h rfl; simp at this; subst this; rfl
 ·rfl
def valO (l : List Ms) (e : List En) (s : ByteArray) : Option ByteArray := toO (doAll s l (findV e s))
theorem valueV_find (l : List Ms) (e : List En) (s : ByteArray) : valueV l s (findV e s).1 (findV e s).2 = doAll s l (findV e s) := by
 unfold valueV
 rw [norm_tidy (tidy_find e s)]
theorem valueV_ofO (l : List Ms) (e : List En) (s : ByteArray) : valueV l s (findV e s).1 (findV e s).2 = ofO (valO l e s) := by
 rw [valueV_find]
 unfold valO
 rw [ofO_toO (tidy_doAll s l _ (tidy_find e s))]
theorem doAll_append (s : ByteArray) : ∀ (a b : List Ms) (p : ByteArray × Bool), doAll s (a ++ b) p = doAll s b (doAll s a p)
 | [], _, _ => rfl
 | m :: a, b, p => doAll_append s a b (onM m s p)
theorem find_mem : ∀ (e : List En) (s : ByteArray), (findV e s).2 = true → ∃ x ∈ e, x.f0 = s
 | [], s, h => by simp [findV] at h
 | x :: e, s, h => by
  unfold findV at h
  split at h
  ·rename_i q; exact ⟨x, by simp, same_iff.1 q⟩
  ·obtain ⟨y, hy, hs⟩ := find_mem e s h
   exact ⟨y, List.mem_cons_of_mem _ hy, hs⟩
theorem on_some (m : Ms) (s : ByteArray) (p : ByteArray × Bool) (h : (onM m s p).2 = true) : p.2 = true ∨ (isPt m.f0 = true ∧ m.f2 = s) := by
 unfold onM onV at h
 split at h
 ·rename_i ht
  unfold touches at ht
  simp only [Bool.or_eq_true, Bool.and_eq_true, decide_eq_true_eq] at ht
  rcases ht with ht | ht
  ·exact .inr ⟨ht.1, same_iff.1 ht.2⟩
  ·rw [ht.1] at h
   simp [applyV] at h
 ·left
  cases q : p.2
  ·rw [q] at h; simp at h
  ·rfl
theorem do_some (s : ByteArray) : ∀ (l : List Ms) (p : ByteArray × Bool), (doAll s l p).2 = true → p.2 = true ∨ ∃ m ∈ l, isPt m.f0 = true ∧ m.f2 = s
 | [], p, h => .inl h
 | m :: l, p, h => by
  rcases do_some s l _ h with h1 | ⟨x, hx, h2⟩
  ·rcases on_some m s p h1 with h3 | h3
   ·exact .inl h3
   ·exact .inr ⟨m, by simp, h3⟩
  ·exact .inr ⟨x, List.mem_cons_of_mem _ hx, h2⟩
abbrev RiseK (l : List ByteArray) : Prop := l.Pairwise (fun a b => lt a b = true)
theorem mem_intoV (s x : ByteArray) : ∀ L : List ByteArray, x ∈ intoV L s ↔ x ∈ L ∨ x = s
 | [] => by simp [intoV]
 | y :: L => by
  unfold intoV
  split
  ·rw [List.mem_cons, mem_intoV s x L, List.mem_cons, or_assoc]
  ·split
   ·rename_i h
    have := same_iff.1 h
    subst this
    simp only [List.mem_cons]
    constructor
    ·exact .inl
    ·rintro (h | h)
     ·exact h
     ·exact .inl h
   ·simp only [List.mem_cons]
    constructor
    ·rintro (h | h | h)
     ·exact .inr h
     ·exact .inl (.inl h)
     ·exact .inl (.inr h)
    ·rintro ((h | h) | h)
     ·exact .inr (.inl h)
     ·exact .inr (.inr h)
     ·exact .inl h
theorem rise_intoV (s : ByteArray) : ∀ L : List ByteArray, RiseK L → RiseK (intoV L s)
 | [], _ => by simp [intoV]
 | y :: L, h => by
  obtain ⟨h1, h2⟩ := List.pairwise_cons.1 h
  unfold intoV
  split
  ·rename_i hy
   refine List.pairwise_cons.2 ⟨fun x hx => ?_, rise_intoV s L h2⟩
   rcases (mem_intoV s x L).1 hx with hx | rfl
   ·exact h1 x hx
   ·exact hy
  ·rename_i hy
   split
   ·exact h
   ·rename_i hs
    have hsy : lt s y = true := by
     rcases lt_tri s y with q | q | q
     ·exact q
     ·exact absurd (same_iff.2 q.symm) hs
     ·exact absurd q hy
    refine List.pairwise_cons.2 ⟨fun x hx => ?_, h⟩
    rcases List.mem_cons.1 hx with rfl | hx
    ·exact hsy
    ·exact lt_trans hsy (h1 x hx)
theorem rise_keysFrom : ∀ (l : List Ms) (o : List ByteArray), RiseK o → RiseK (keysFrom o l)
 | [], o, h => h
 | m :: l, o, h => by
  unfold keysFrom
  refine rise_keysFrom l _ ?_
  split
  ·exact rise_intoV _ _ h
  ·exact h
theorem mem_keysFrom (x : ByteArray) : ∀ (l : List Ms) (o : List ByteArray), x ∈ keysFrom o l ↔ x ∈ o ∨ ∃ m ∈ l, isPt m.f0 = true ∧ m.f2 = x
 | [], o => by simp [keysFrom]
 | m :: l, o => by
  unfold keysFrom
  rw [mem_keysFrom x l]
  by_cases hp : isPt m.f0 = true
  ·rw [if_pos hp, mem_intoV]
   constructor
   ·rintro ((h | h) | ⟨q, hq, h⟩)
    ·exact .inl h
    ·exact .inr ⟨m, by simp, hp, h.symm⟩
    ·exact .inr ⟨q, List.mem_cons_of_mem _ hq, h⟩
   ·rintro (h | ⟨q, hq, h⟩)
    ·exact .inl (.inl h)
    ·rcases List.mem_cons.1 hq with rfl | hq
     ·exact .inl (.inr h.2.symm)
     ·exact .inr ⟨q, hq, h⟩
  ·rw [if_neg hp]
   constructor
   ·rintro (h | ⟨q, hq, h⟩)
    ·exact .inl h
    ·exact .inr ⟨q, List.mem_cons_of_mem _ hq, h⟩
   ·rintro (h | ⟨q, hq, h⟩)
    ·exact .inl h
    ·rcases List.mem_cons.1 hq with rfl | hq
     ·exact absurd h.1 hp
     ·exact .inr ⟨q, hq, h⟩
theorem rise_addKeys : ∀ (e : List En) (o : List ByteArray), RiseK o → RiseK (addKeys o e)
 | [], o, h => h
 | x :: e, o, h => rise_addKeys e _ (rise_intoV _ _ h)
theorem mem_addKeys (s : ByteArray) : ∀ (e : List En) (o : List ByteArray), s ∈ addKeys o e ↔ s ∈ o ∨ ∃ x ∈ e, x.f0 = s
 | [], o => by simp [addKeys]
 | x :: e, o => by
  unfold addKeys
  rw [mem_addKeys s e, mem_intoV]
  constructor
  ·rintro ((h | h) | ⟨q, hq, h⟩)
   ·exact .inl h
   ·exact .inr ⟨x, by simp, h.symm⟩
   ·exact .inr ⟨q, List.mem_cons_of_mem _ hq, h⟩
  ·rintro (h | ⟨q, hq, h⟩)
   ·exact .inl (.inl h)
   ·rcases List.mem_cons.1 hq with rfl | hq
    ·exact .inl (.inr h.symm)
    ·exact .inr ⟨q, hq, h⟩
theorem rise_named (l : List Ms) (e : List En) : RiseK (namedV l e) := rise_addKeys e _ (rise_keysFrom l [] List.Pairwise.nil)
theorem mem_named (l : List Ms) (e : List En) (s : ByteArray) : s ∈ namedV l e ↔ (∃ m ∈ l, isPt m.f0 = true ∧ m.f2 = s) ∨ ∃ x ∈ e, x.f0 = s := by
 unfold namedV keysV
 rw [mem_addKeys, mem_keysFrom]
 simp
theorem named_of_val {l : List Ms} {e : List En} {s v : ByteArray} (h : valO l e s = some v) : s ∈ namedV l e := by
 have h2 : (doAll s l (findV e s)).2 = true := by
  unfold valO toO at h
  split at h
  ·assumption
  ·cases h
 rw [mem_named]
 rcases do_some s l _ h2 with h3 | h3
 ·exact .inr (find_mem e s h3)
 ·exact .inl h3
theorem rise_ext {α : Type} (R : α → α → Prop) (irr : ∀ a, ¬ R a a) (tr : ∀ {a b c}, R a b → R b c → R a c) : ∀ {a b : List α}, a.Pairwise R → b.Pairwise R → (∀ x, x ∈ a ↔ x ∈ b) → a = b
 | [], [], _, _, _ => rfl
 | [], y :: b, _, _, h => absurd ((h y).2 (by simp)) (by simp)
 | x :: a, [], _, _, h => absurd ((h x).1 (by simp)) (by simp)
 | x :: a, y :: b, ha, hb, h => by
  obtain ⟨ha1, ha2⟩ := List.pairwise_cons.1 ha
  obtain ⟨hb1, hb2⟩ := List.pairwise_cons.1 hb
  have hxy : x = y := by
   rcases List.mem_cons.1 ((h x).1 (by simp)) with q | q
   ·exact q
   ·rcases List.mem_cons.1 ((h y).2 (by simp)) with r | r
    ·exact r.symm
    ·exact absurd (tr (ha1 y r) (hb1 x q)) (irr x)
  subst hxy
  have : a = b := rise_ext R irr tr ha2 hb2 (fun z => by
   have hz := h z
   constructor
   ·intro q
    rcases List.mem_cons.1 (hz.1 (List.mem_cons_of_mem _ q)) with r | r
    ·subst r; exact absurd (ha1 z q) (irr z)
    ·exact r
   ·intro q
    rcases List.mem_cons.1 (hz.2 (List.mem_cons_of_mem _ q)) with r | r
    ·subst r; exact absurd (hb1 z q) (irr z)
    ·exact r)
  rw [this]
abbrev RiseE (l : List En) : Prop := l.Pairwise (fun a b => lt a.f0 b.f0 = true)
theorem riseE_ext {a b : List En} (ha : RiseE a) (hb : RiseE b) (h : ∀ x, x ∈ a ↔ x ∈ b) : a = b :=
 rise_ext (fun a b : En => lt a.f0 b.f0 = true) (fun a h => by rw [lt_irrefl] at h; cases h) (fun h k => lt_trans h k) ha hb h
theorem entryOf_eq (l : List Ms) (e : List En) (f t s : ByteArray) : entryOf l e f t s = if (rr f t && holds f t s) = true then (valO l e s).map (fun v => (⟨s, v⟩ : En)) else none := by
 unfold entryOf
 simp only
 rw [valueV_ofO]
 cases valO l e s <;> cases rr f t <;> cases holds f t s <;> simp [ofO]
theorem mem_entries (l : List Ms) (e : List En) (f t : ByteArray) (x : En) : x ∈ entriesV l e f t ↔ rr f t = true ∧ holds f t x.f0 = true ∧ valO l e x.f0 = some x.f1 := by
 unfold entriesV
 rw [List.mem_filterMap]
 constructor
 ·rintro ⟨s, hs, h⟩
  rw [entryOf_eq] at h
  split at h
  ·rename_i q
   simp only [Bool.and_eq_true] at q
   cases hv : valO l e s with
   | none => rw [hv] at h; cases h
   | some v =>
    rw [hv] at h
    simp only [Option.map_some, Option.some.injEq] at h
    subst h
    exact ⟨q.1, q.2, hv⟩
  ·cases h
 ·rintro ⟨h1, h2, h3⟩
  refine ⟨x.f0, named_of_val h3, ?_⟩
  rw [entryOf_eq, h1, h2, h3]
  rfl
theorem filterMap_rise {α : Type} (g : ByteArray → Option En) (hg : ∀ s x, g s = some x → x.f0 = s) : ∀ K : List ByteArray, RiseK K → RiseE (K.filterMap g)
 | [], _ => by simp
 | s :: K, h => by
  obtain ⟨h1, h2⟩ := List.pairwise_cons.1 h
  rw [List.filterMap_cons]
  split
  ·exact filterMap_rise (α := α) g hg K h2
  ·rename_i x hx
   refine List.pairwise_cons.2 ⟨fun y hy => ?_, filterMap_rise (α := α) g hg K h2⟩
   obtain ⟨s', hs', hy'⟩ := List.mem_filterMap.1 hy
   rw [hg s x hx, hg s' y hy']
   exact h1 s' hs'
theorem rise_entries (l : List Ms) (e : List En) (f t : ByteArray) : RiseE (entriesV l e f t) := by
 refine filterMap_rise (α := Unit) _ (fun s x h => ?_) _ (rise_named l e)
 rw [entryOf_eq] at h
 split at h
 ·cases hv : valO l e s with
  | none => rw [hv] at h; cases h
  | some v => rw [hv] at h; simp only [Option.map_some, Option.some.injEq] at h; subst h; rfl
 ·cases h
theorem rr_all : rr e0 e0 = true := by simp [rr, emp_e0]
theorem val_ext {l l' : List Ms} {e e' : List En} {f t : ByteArray} (h : ∀ s, rr f t = true → holds f t s = true → valO l e s = valO l' e' s) : entriesV l e f t = entriesV l' e' f t :=
 riseE_ext (rise_entries _ _ _ _) (rise_entries _ _ _ _) (fun x => by
  rw [mem_entries, mem_entries]
  constructor
  ·rintro ⟨a, b, c⟩; exact ⟨a, b, by rw [← h _ a b]; exact c⟩
  ·rintro ⟨a, b, c⟩; exact ⟨a, b, by rw [h _ a b]; exact c⟩)
end Go.Proofs.Ytebejadiaooooaa.P
end
section
namespace Go.Proofs.Ytebejadiaooooaa.P
open Go.RowKit Go.Proofs.YtebejadiaooooaaW.PrintWords Go.Proofs.YtebejadiaooooaaW.PrintLast Go.Proofs.YtebejadiaooooaaW.PrintMore Go.Proofs.Ytebejadiaooooaa.Own Go.Proofs.Ytebejadiaooooaa
theorem eight_size (n : Int) : (strOfNums (eight n)).size = 8 := by rw [strOfNums_size]; rfl
theorem wrap_wrap (a b : Int) : IntKind.u64.wrap (IntKind.u64.wrap a + b) = IntKind.u64.wrap (a + b) := by
 simp only [IntKind.wrap, IntKind.signed, IntKind.bits]
 simp
theorem wrap_wrap' (a b : Int) : IntKind.u64.wrap (a + IntKind.u64.wrap b) = IntKind.u64.wrap (a + b) := by
 rw [Int.add_comm, wrap_wrap, Int.add_comm]
theorem valN_eight (n : Int) (h0 : 0 ≤ n) (h1 : n < 18446744073709551616) : valN (strOfNums (eight n)) 8 = n := by
 have hb : ∀ (l : List Int) (i : Nat) (a : Int), l[i]? = some a → 0 ≤ a → a < 256 → bt (strOfNums l) i = a := by
  intro l i a h ha ha2
  have hi := (List.getElem?_eq_some_iff.1 h).1
  unfold bt
  rw [dif_pos (by rw [strOfNums_size]; simpa using hi)]
  have e : (strOfNums l)[((i : Int)).toNat]'(by rw [strOfNums_size]; simpa using hi) = UInt8.ofNat a.toNat := by
   show (strOfNums l).data[((i : Int)).toNat]'_ = _
   simp only [strOfNums, Int.toNat_natCast, List.getElem_toArray, List.getElem_map]
   rw [(List.getElem?_eq_some_iff.1 h).2]
  rw [e]
  simp
  omega
 have h0' := hb (eight n) 0 _ rfl (by omega) (by omega)
 have h1' := hb (eight n) 1 _ rfl (by omega) (by omega)
 have h2' := hb (eight n) 2 _ rfl (by omega) (by omega)
 have h3' := hb (eight n) 3 _ rfl (by omega) (by omega)
 have h4' := hb (eight n) 4 _ rfl (by omega) (by omega)
 have h5' := hb (eight n) 5 _ rfl (by omega) (by omega)
 have h6' := hb (eight n) 6 _ rfl (by omega) (by omega)
 have h7' := hb (eight n) 7 _ rfl (by omega) (by omega)
 simp only [valN]
 rw [h0', h1', h2', h3', h4', h5', h6', h7']
 omega
theorem addV_some (v : ByteArray) (a b : Int) (ha : 0 ≤ a) (ha2 : a < 18446744073709551616) : addV (addV v true a) true b = addV v true (IntKind.u64.wrap (b + a)) := by
 unfold addV
 simp only [if_true]
 by_cases h : v.size = 8
 ·simp only [h, if_true, eight_size]
  have := u64_wrap_range (valN v 8 + a)
  rw [valN_eight _ this.1 this.2, wrap_wrap, wrap_wrap']
  congr 3
  omega
 ·simp only [h, if_false]
theorem addV_none (v : ByteArray) (a b : Int) (ha : 0 ≤ a) (ha2 : a < 18446744073709551616) : addV (addV v false a) true b = addV v false (IntKind.u64.wrap (b + a)) := by
 unfold addV
 simp only [if_true, Bool.false_eq_true, if_false, eight_size]
 rw [valN_eight _ ha ha2, Int.add_comm]
theorem onM_touch {m : Ms} {s : ByteArray} (h : touchesM m s = true) (p : ByteArray × Bool) : onM m s p = applyV m.f0 m.f4 m.f5 p.1 p.2 := by
 unfold onM onV
 rw [if_pos (show touches m.f0 m.f2 m.f3 s = true from h)]
theorem onM_far {m : Ms} {s : ByteArray} (h : touchesM m s = false) {p : ByteArray × Bool} (hp : tidy p) : onM m s p = p := by
 unfold onM onV
 have h2 : ¬ (touches m.f0 m.f2 m.f3 s = true) := by unfold touchesM at h; rw [h]; simp
 rw [if_neg h2]
 obtain ⟨v, b⟩ := p
 cases b
 ·have := hp rfl; simp at this; subst this; rfl
 ·rfl
theorem doAll_far {s : ByteArray} : ∀ {l : List Ms} {p : ByteArray × Bool}, tidy p → (∀ m ∈ l, touchesM m s = false) → doAll s l p = p
 | [], p, _, _ => rfl
 | m :: l, p, hp, h => by
  show doAll s l (onM m s p) = p
  rw [onM_far (h m (by simp)) hp]
  exact doAll_far hp (fun x hx => h x (List.mem_cons_of_mem _ hx))
theorem doAll_snoc (s : ByteArray) (l : List Ms) (m : Ms) (p : ByteArray × Bool) : doAll s (l ++ [m]) p = onM m s (doAll s l p) := by rw [doAll_append]; rfl
theorem doAll_filter {s : ByteArray} (g : Ms → Bool) : ∀ {l : List Ms} {p : ByteArray × Bool}, tidy p → (∀ m ∈ l, g m = false → touchesM m s = false) → doAll s (l.filter g) p = doAll s l p
 | [], p, _, _ => rfl
 | m :: l, p, hp, h => by
  rw [List.filter_cons]
  have ih := fun {q : ByteArray × Bool} (hq : tidy q) => doAll_filter (s := s) g (l := l) hq (fun x hx => h x (List.mem_cons_of_mem _ hx))
  cases hg : g m with
  | true =>
   simp only [if_true]
   exact ih (tidy_on m s p)
  | false =>
   simp only [Bool.false_eq_true, if_false]
   rw [ih hp]
   show _ = doAll s l (onM m s p)
   rw [onM_far (h m (by simp) hg) hp]
theorem okD_join {a b : Ms} (hb : okD b) : okD (joinM a b) := by
 unfold joinM
 split
 ·split
  ·exact u64_wrap_range _
  ·exact ⟨Int.le_refl _, by show (0 : Int) < 18446744073709551616; decide⟩
 ·exact hb
theorem onM_join {x m : Ms} {s : ByteArray} (hx : isPt x.f0 = true) (hm : isPt m.f0 = true) (hk : x.f2 = m.f2) (hxd : okD x) (hmd : okD m) {p : ByteArray × Bool} (hp : tidy p) : onM (joinM x m) s p = onM m s (onM x s p) := by
 have tp : ∀ y : Ms, isPt y.f0 = true → touchesM y s = same y.f2 s := fun y hy => by
  have h4 := isPt_ne4 hy
  simp [touchesM, touches, hy, h4]
 have hj := joinM_pt (a := x) hm
 cases hs : same m.f2 s with
 | false =>
  rw [onM_far (by rw [tp _ hj, joinM_key]; exact hs) hp, onM_far (m := x) (by rw [tp _ hx, hk]; exact hs) hp, onM_far (by rw [tp _ hm]; exact hs) hp]
 | true =>
  rw [onM_touch (by rw [tp _ hj, joinM_key]; exact hs), onM_touch (m := x) (by rw [tp _ hx, hk]; exact hs), onM_touch (by rw [tp _ hm]; exact hs)]
  obtain ⟨v, is⟩ := p
  simp only [isPt, decide_eq_true_eq] at hx hm
  unfold joinM
  by_cases h3 : m.f0 = 3
  ·rw [if_pos h3]
   by_cases hx3 : x.f0 = 3
   ·rw [if_pos hx3]
    simp only [applyV, h3, hx3]
    cases is
    ·simp [addV_none _ _ _ hxd.1 hxd.2]
    ·simp [addV_some _ _ _ hxd.1 hxd.2]
   ·rw [if_neg hx3]
    have hx12 : x.f0 = 1 ∨ x.f0 = 2 := by omega
    rcases hx12 with h | h
    ·simp [applyV, h3, h]
    ·simp [applyV, h3, h]
  ·rw [if_neg h3]
   have hm12 : m.f0 = 1 ∨ m.f0 = 2 := by omega
   rcases hm12 with h | h
   ·simp [applyV, h]
   ·simp [applyV, h]
theorem pointF_val (s : ByteArray) : ∀ (n : Nat) (l : List Ms) (m : Ms) (p : ByteArray × Bool), tidy p → isPt m.f0 = true → (∀ x ∈ l, okD x) → okD m → l.length < n → doAll s (pointF n l m) p = onM m s (doAll s l p)
 | 0, l, m, p, _, _, _, _, h => by omega
 | n + 1, l, m, p, hp, hm, hl, hmd, hn => by
  have tpm : touchesM m s = same m.f2 s := by
   have h4 := isPt_ne4 hm
   simp [touchesM, touches, hm, h4]
  unfold pointF
  rcases lastI_spec l m.f2 with ⟨h1, _⟩ | ⟨i, x, hi, h2, hx, ht, hlast⟩
  ·rw [if_pos (by omega), doAll_snoc]
  ·rw [if_neg (by omega)]
   have e : (lastI l m.f2).toNat = i := by omega
   rw [e, hx]
   simp only
   have hsplit : l = l.take i ++ (x :: l.drop (i + 1)) := by
    have h := List.drop_eq_getElem?_toList_append (l := l) (i := i)
    rw [hx] at h
    simp only [Option.toList_some, List.cons_append, List.nil_append] at h
    rw [← h, List.take_append_drop]
   have hfar : ∀ y ∈ l.drop (i + 1), touchesM y m.f2 = false := fun y hy => by
    obtain ⟨j, hj⟩ := List.getElem?_of_mem hy
    rw [List.getElem?_drop] at hj
    exact hlast (i + 1 + j) y (by omega) hj
   have hxl := List.mem_of_getElem? hx
   have hq : tidy (doAll s (l.take i) p) := tidy_doAll s _ _ hp
   have hD : doAll s l p = doAll s (l.drop (i + 1)) (onM x s (doAll s (l.take i) p)) := by
    conv => lhs; rw [hsplit]
    rw [doAll_append]
    rfl
   cases hpx : isPt x.f0 with
   | true =>
    rw [if_pos rfl]
    have hkey : x.f2 = m.f2 := by
     have h4 := isPt_ne4 hpx
     have : same x.f2 m.f2 = true := by simpa [touchesM, touches, hpx, h4] using ht
     exact same_iff.1 this
    rw [pointF_val s n (l.eraseIdx i) (joinM x m) p hp (joinM_pt hm) (fun y hy => hl y (List.mem_of_mem_eraseIdx hy)) (okD_join hmd) (by have := List.length_eraseIdx_of_lt hi; omega)]
    rw [hD, List.eraseIdx_eq_take_drop_succ, doAll_append]
    cases hs : same m.f2 s with
    | true =>
     have hsm := same_iff.1 hs
     subst hsm
     rw [doAll_far hq hfar, doAll_far (tidy_on x _ _) hfar]
     exact onM_join hpx hm hkey (hl x hxl) hmd hq
    | false =>
     have hxf : touchesM x s = false := by
      have h4 := isPt_ne4 hpx
      simpa [touchesM, touches, hpx, h4, hkey] using hs
     rw [onM_far hxf hq]
     have hjf : touchesM (joinM x m) s = false := by
      have hj := joinM_pt (a := x) hm
      have h4 := isPt_ne4 hj
      simpa [touchesM, touches, hj, h4, joinM_key] using hs
     rw [onM_far hjf (tidy_doAll s _ _ hq), onM_far (by rw [tpm]; exact hs) (tidy_doAll s _ _ hq)]
   | false =>
    rw [if_neg (by simp)]
    have hx4 : x.f0 = 4 := by
     have : decide (x.f0 = 4) = true := by
      cases h : decide (x.f0 = 4) with
      | true => rfl
      | false => simp [touchesM, touches, hpx, h] at ht
     simpa using this
    have hcl : same m.f2 s = true → doAll s l p = (e0, false) := fun hs => by
     have hsm := same_iff.1 hs
     subst hsm
     rw [hD, onM_touch ht]
     have : applyV x.f0 x.f4 x.f5 (doAll m.f2 (l.take i) p).1 (doAll m.f2 (l.take i) p).2 = (e0, false) := by simp [applyV, hx4]
     rw [this]
     exact doAll_far (by simp [tidy]) hfar
    have hlq : tidy (doAll s l p) := tidy_doAll s _ _ hp
    by_cases h2' : m.f0 = 2
    ·rw [if_pos h2']
     cases hs : same m.f2 s with
     | true =>
      rw [hcl hs, onM_touch (by rw [tpm]; exact hs)]
      simp [applyV, h2']
     | false => rw [onM_far (by rw [tpm]; exact hs) hlq]
    ·rw [if_neg h2']
     by_cases h3 : m.f0 = 3
     ·rw [if_pos h3, doAll_snoc]
      have tpy : touchesM ⟨1, m.f1, m.f2, e0, strOfNums (Wp.eight m.f5), 0⟩ s = same m.f2 s := by simp [touchesM, touches, isPt]
      cases hs : same m.f2 s with
      | true =>
       rw [hcl hs, onM_touch (by rw [tpy]; exact hs), onM_touch (by rw [tpm]; exact hs)]
       simp [applyV, h3, addV]
       rfl
      | false => rw [onM_far (by rw [tpy]; exact hs) hlq, onM_far (by rw [tpm]; exact hs) hlq]
     ·rw [if_neg h3, doAll_snoc]
theorem gone_far {f t : ByteArray} {x : Ms} {s : ByteArray} (hg : gone f t x = true) (hs : holds f t s = false) : touchesM x s = false := by
 cases ht : touchesM x s with
 | false => rfl
 | true =>
  exfalso
  simp only [gone, Bool.or_eq_true, Bool.and_eq_true, decide_eq_true_eq] at hg
  simp only [touchesM, touches, Bool.or_eq_true, Bool.and_eq_true, decide_eq_true_eq] at ht
  rcases hg with ⟨hp, hh⟩ | ⟨h4, hw⟩
  ·rcases ht with ⟨_, h⟩ | ⟨h, _⟩
   ·rw [same_iff.1 h] at hh; rw [hh] at hs; cases hs
   ·exact isPt_ne4 hp h
  ·rcases ht with ⟨h, _⟩ | ⟨_, h⟩
   ·exact isPt_ne4 h h4
   ·simp only [within, Bool.and_eq_true] at hw
    obtain ⟨hm, h1, h2⟩ := hw
    unfold meet at hm h1 h2
    split at hm
    ·rename_i hc
     rw [if_pos hc] at h1 h2
     have e1 : mxs x.f2 f = x.f2 := same_iff.1 h1
     have e2 : first x.f3 t = x.f3 := same_iff.1 h2
     have := holds_meet x.f2 x.f3 f t s
     rw [e1, e2, h, hs] at this
     cases this
    ·cases hm
theorem stepV_val (s : ByteArray) (o : List Ms) (m : Ms) (p : ByteArray × Bool) (hp : tidy p) (ho : ∀ x ∈ o, okD x) (hm : okD m) : doAll s (stepV o m) p = onM m s (doAll s o p) := by
 have hq := tidy_doAll s o p hp
 unfold stepV
 split
 ·rename_i h
  exact pointF_val s _ o m p hp h ho hm (Nat.lt_succ_self _)
 ·rename_i h
  have hpf : isPt m.f0 = false := by simpa using h
  split
  ·rename_i h4
   simp only [Bool.and_eq_true, decide_eq_true_eq] at h4
   rw [doAll_snoc]
   cases ht : touchesM m s with
   | true =>
    rw [onM_touch ht, onM_touch ht]
    simp [applyV, h4.1]
   | false =>
    rw [onM_far ht (tidy_doAll s _ _ hp), onM_far ht hq]
    refine doAll_filter _ hp (fun x _ hx => gone_far (f := m.f2) (t := m.f3) (by simpa using hx) ?_)
    have e : touchesM m s = holds m.f2 m.f3 s := by
     unfold touchesM touches
     rw [hpf, decide_eq_true h4.1]
     rfl
    rw [← e]; exact ht
  ·rename_i h4
   refine (onM_far ?_ hq).symm
   cases ht : touchesM m s with
   | false => rfl
   | true =>
    exfalso
    simp only [touchesM, touches, hpf, Bool.false_and, Bool.false_or, Bool.and_eq_true, decide_eq_true_eq] at ht
    exact h4 (by rw [holds_rr ht.2, decide_eq_true ht.1]; rfl)
theorem pointF_okD : ∀ (n : Nat) (l : List Ms) (m : Ms), (∀ x ∈ l, okD x) → okD m → ∀ x ∈ pointF n l m, okD x
 | 0, l, m, hl, hm, x, hx => by
  simp only [pointF, List.mem_append, List.mem_singleton] at hx
  rcases hx with hx | rfl
  ·exact hl x hx
  ·exact hm
 | n + 1, l, m, hl, hm, x, hx => by
  have app : ∀ y : Ms, okD y → x ∈ l ++ [y] → okD x := fun y hy h => by
   simp only [List.mem_append, List.mem_singleton] at h
   rcases h with h | rfl
   ·exact hl x h
   ·exact hy
  unfold pointF at hx
  split at hx
  ·exact app m hm hx
  ·split at hx
   ·exact app m hm hx
   ·split at hx
    ·exact pointF_okD n _ _ (fun y hy => hl y (List.mem_of_mem_eraseIdx hy)) (okD_join hm) x hx
    ·split at hx
     ·exact hl x hx
     ·split at hx
      ·exact app ⟨1, m.f1, m.f2, e0, strOfNums (Wp.eight m.f5), 0⟩ ⟨Int.le_refl _, by show (0 : Int) < 18446744073709551616; decide⟩ hx
      ·exact app m hm hx
theorem stepV_okD (out : List Ms) (m : Ms) (hl : ∀ x ∈ out, okD x) (hm : okD m) : ∀ x ∈ stepV out m, okD x := by
 intro x hx
 unfold stepV at hx
 split at hx
 ·exact pointF_okD _ _ _ hl hm x hx
 ·split at hx
  ·simp only [List.mem_append, List.mem_singleton] at hx
   rcases hx with hx | rfl
   ·exact hl x (List.mem_filter.1 hx).1
   ·exact hm
  ·exact hl x hx
theorem foldl_val (s : ByteArray) : ∀ (l o : List Ms) (p : ByteArray × Bool), tidy p → (∀ x ∈ o, okD x) → (∀ x ∈ l, okD x) → doAll s (l.foldl stepV o) p = doAll s l (doAll s o p) ∧ ∀ x ∈ l.foldl stepV o, okD x
 | [], o, p, _, ho, _ => ⟨rfl, ho⟩
 | m :: l, o, p, hp, ho, hl => by
  have h := foldl_val s l (stepV o m) p hp (stepV_okD o m ho (hl m (by simp))) (fun x hx => hl x (List.mem_cons_of_mem _ hx))
  refine ⟨h.1.trans ?_, h.2⟩
  rw [stepV_val s o m p hp ho (hl m (by simp))]
  rfl
theorem list_val (s : ByteArray) (l : List Ms) (p : ByteArray × Bool) (hp : tidy p) (hl : ∀ x ∈ l, okD x) : doAll s (listV l) p = doAll s l p := (foldl_val s l [] p hp (fun x hx => by simp at hx) hl).1
theorem list_okD (l : List Ms) (hl : ∀ x ∈ l, okD x) : ∀ x ∈ listV l, okD x := (foldl_val e0 l [] (e0, false) (by simp [tidy]) (fun x hx => by simp at hx) hl).2
end Go.Proofs.Ytebejadiaooooaa.P
end
section
namespace Go.Proofs.Ytebejadiaooooaa.P
open Go.RowKit Go.Proofs.YtebejadiaooooaaW.PrintWords Go.Proofs.YtebejadiaooooaaW.PrintLast Go.Proofs.YtebejadiaooooaaW.PrintMore Go.Proofs.Ytebejadiaooooaa.Own Go.Proofs.Ytebejadiaooooaa
structure Ok6 (l : List Ms) : Prop where
 ll : l.length ≤ 30
 od : ∀ m ∈ l, okD m
 os : ∀ m ∈ l, okS m
theorem ok6_take {l : List Ms} (h : ∀ a ∈ l, wf32 a) : Ok6 (l.take 30) := by
 refine ⟨by simp; omega, fun m hm => ?_, fun m hm => (h m (List.mem_of_mem_take hm)).2.2.1⟩
 have h1 := (h m (List.mem_of_mem_take hm)).2.2.2.2.2
 simp [Lit.wf, IntKind.min, IntKind.max, IntKind.signed, IntKind.bits] at h1
 unfold okD
 omega
theorem list_length (l : List Ms) : (listV l).length ≤ l.length := by have := Cp.listV_bound l []; simpa [listV] using this
theorem list_okS (l : List Ms) (h : ∀ m ∈ l, okS m) : ∀ m ∈ listV l, okS m := Cp.listV_okS l [] h (fun x hx => by simp at hx)
theorem ok6_list {l : List Ms} (h : Ok6 l) : Ok6 (listV l) := ⟨Nat.le_trans (list_length l) h.ll, list_okD l h.od, list_okS l h.os⟩
theorem List_eq {l : List Ms} (h : Ok6 l) : compact_List.f l = some (listV l) := by
 unfold compact_List.f Cp.listF
 rw [if_pos (Cp.okL_iff.2 ⟨by have := h.ll; omega, h.os⟩)]
end Go.Proofs.Ytebejadiaooooaa.P
end
section
namespace Go.Proofs.Ytebejadiaooooaa.Fo
open Go.RowKit Go.Proofs.YtebejadiaooooaaW.PrintWords Go.Proofs.YtebejadiaooooaaW.PrintLast Go.Proofs.YtebejadiaooooaaW.PrintMore Go.Proofs.Ytebejadiaooooaa.Own Go.Proofs.Ytebejadiaooooaa.Ord Go.Proofs.Ytebejadiaooooaa Go.Proofs.Ytebejadiaooooaa.P
section
variable {V : Type}
theorem rise_uniq {k : ByteArray} {v v' : V} : ∀ {L : List (ByteArray × V)}, Rise OrdSs.lt L → (k, v) ∈ L → (k, v') ∈ L → v = v'
 | [], _, h, _ => by cases h
 | x :: L, hr, h, h' => by
  obtain ⟨h1, h2⟩ := List.pairwise_cons.1 hr
  rcases List.mem_cons.1 h with q | q
  ·rcases List.mem_cons.1 h' with r | r
   ·exact (Prod.mk.inj (q.trans r.symm)).2
   ·have := h1 _ r
    rw [← q, OrdSs.lin.irr] at this; cases this
  ·rcases List.mem_cons.1 h' with r | r
   ·have := h1 _ q
    rw [← r, OrdSs.lin.irr] at this; cases this
   ·exact rise_uniq h2 q r
theorem look_iff {L : List (ByteArray × V)} (h : Rise OrdSs.lt L) (k : ByteArray) (v : V) : lookK OrdSs.lt k L = some v ↔ (k, v) ∈ L := by
 unfold lookK
 have hk : ∀ x : ByteArray × V, (!OrdSs.lt x.1 k && !OrdSs.lt k x.1) = true ↔ x.1 = k := fun x => by
  simp only [Bool.and_eq_true, Bool.not_eq_true']
  constructor
  ·rintro ⟨a, b⟩; exact OrdSs.lin.tri a b
  ·intro e; rw [e]; exact ⟨OrdSs.lin.irr k, OrdSs.lin.irr k⟩
 cases hf : L.find? (fun x => !OrdSs.lt x.1 k && !OrdSs.lt k x.1) with
 | none =>
  constructor
  ·intro q; cases q
  ·intro q
   have := List.find?_eq_none.1 hf _ q
   exact absurd ((hk _).2 rfl) this
 | some y =>
  have hy := List.mem_of_find?_eq_some hf
  have hyk := (hk y).1 (by have := List.find?_some hf; exact this)
  obtain ⟨a, b⟩ := y
  simp only at hyk
  subst hyk
  simp only [Option.map_some, Option.some.injEq]
  constructor
  ·rintro rfl; exact hy
  ·intro q; exact rise_uniq h hy q
theorem look_ext {L : List (ByteArray × V)} (h : Rise OrdSs.lt L) (k : ByteArray) (o : Option V) (ho : ∀ v, (k, v) ∈ L ↔ o = some v) : lookK OrdSs.lt k L = o := by
 apply Option.ext
 intro v
 rw [look_iff h, ho]
theorem mem_ins (k : ByteArray) (v : V) (L : List (ByteArray × V)) (a : ByteArray) (b : V) : (a, b) ∈ ins OrdSs.lt k v L ↔ (a = k ∧ b = v) ∨ (a ≠ k ∧ (a, b) ∈ L) := by
 unfold ins
 rw [List.mem_append, List.mem_cons, List.mem_filter, List.mem_filter]
 simp only [Prod.mk.injEq]
 have tri : a ≠ k ↔ OrdSs.lt a k = true ∨ OrdSs.lt k a = true := by
  constructor
  ·intro h
   cases q : OrdSs.lt a k with
   | true => exact .inl rfl
   | false =>
    cases r : OrdSs.lt k a with
    | true => exact .inr rfl
    | false => exact absurd (OrdSs.lin.tri q r) h
  ·rintro (h | h) rfl
   ·rw [OrdSs.lin.irr] at h; cases h
   ·rw [OrdSs.lin.irr] at h; cases h
 rw [tri]
 constructor
 ·rintro (⟨h1, h2⟩ | h | ⟨h1, h2⟩)
  ·exact .inr ⟨.inl h2, h1⟩
  ·exact .inl h
  ·exact .inr ⟨.inr h2, h1⟩
 ·rintro (h | ⟨h1 | h1, h2⟩)
  ·exact .inr (.inl h)
  ·exact .inl ⟨h2, h1⟩
  ·exact .inr (.inr ⟨h2, h1⟩)
theorem mem_del (k : ByteArray) (L : List (ByteArray × V)) (a : ByteArray) (b : V) : (a, b) ∈ del OrdSs.lt k L ↔ a ≠ k ∧ (a, b) ∈ L := by
 unfold del
 rw [List.mem_filter]
 simp only [Bool.or_eq_true]
 constructor
 ·rintro ⟨h1, h2⟩
  refine ⟨?_, h1⟩
  rintro rfl
  rw [OrdSs.lin.irr] at h2
  simp at h2
 ·rintro ⟨h1, h2⟩
  refine ⟨h2, ?_⟩
  cases q : OrdSs.lt a k with
  | true => exact .inl rfl
  | false =>
   cases r : OrdSs.lt k a with
   | true => exact .inr rfl
   | false => exact absurd (OrdSs.lin.tri q r) h1
theorem look_ins {L : List (ByteArray × V)} (h : Rise OrdSs.lt L) (k : ByteArray) (v : V) (s : ByteArray) : lookK OrdSs.lt s (ins OrdSs.lt k v L) = if s = k then some v else lookK OrdSs.lt s L := by
 refine look_ext (ins_rise OrdSs.lin k v h) s _ (fun b => ?_)
 rw [mem_ins]
 by_cases hs : s = k
 ·rw [if_pos hs]
  simp only [hs, true_and, ne_eq, not_true_eq_false, false_and, or_false, Option.some.injEq]
  exact eq_comm
 ·rw [if_neg hs, look_iff h]
  simp [hs]
theorem look_del {L : List (ByteArray × V)} (h : Rise OrdSs.lt L) (k s : ByteArray) : lookK OrdSs.lt s (del OrdSs.lt k L) = if s = k then none else lookK OrdSs.lt s L := by
 refine look_ext (L := del OrdSs.lt k L) (h.filter _) s _ (fun b => ?_)
 rw [mem_del]
 by_cases hs : s = k
 ·rw [if_pos hs]; simp [hs]
 ·rw [if_neg hs, look_iff h]; simp [hs]
theorem look_filter {L : List (ByteArray × V)} (h : Rise OrdSs.lt L) (p : ByteArray → Bool) (s : ByteArray) : lookK OrdSs.lt s (L.filter (fun x => p x.1)) = if p s = true then lookK OrdSs.lt s L else none := by
 refine look_ext (h.filter _) s _ (fun b => ?_)
 rw [List.mem_filter]
 by_cases hs : p s = true
 ·rw [if_pos hs, look_iff h]; simp [hs]
 ·rw [if_neg hs]; simp [hs]
end
theorem look_nil (s : ByteArray) : lookK OrdSs.lt s ([] : Row) = none := rfl
theorem look_tabFrom (s : ByteArray) : ∀ (e : List En) (L : Row), Rise OrdSs.lt L → lookK OrdSs.lt s (tabFrom L e) = (lookK OrdSs.lt s L).or (toO (findV e s))
 | [], L, _ => by simp [tabFrom, findV, toO]
 | x :: e, L, h => by
  rw [tabFrom, look_tabFrom s e _ (tab1_rise h x).1]
  have hfv : findV (x :: e) s = if same x.f0 s = true then (x.f1, true) else findV e s := rfl
  unfold tab1
  rw [hfv]
  by_cases hs : same x.f0 s = true
  ·have hx := same_iff.1 hs
   rw [if_pos hs]
   cases hq : lookK OrdSs.lt s L with
   | some v =>
    rw [hx, hq]
    simp [hq]
   | none =>
    rw [hx, hq]
    simp only [Option.isSome_none, Bool.false_eq_true, if_false]
    rw [look_ins h, if_pos rfl]
    rfl
  ·rw [if_neg hs]
   have hne : s ≠ x.f0 := fun e => hs (by rw [e]; exact same_iff.2 rfl)
   split
   ·rfl
   ·rw [look_ins h, if_neg hne]
theorem look_tab (e : List En) (s : ByteArray) : lookK OrdSs.lt s (tabV e) = toO (findV e s) := by
 unfold tabV
 rw [look_tabFrom s e [] List.Pairwise.nil]
 simp [look_nil]
theorem getD_ofO (o : Option ByteArray) : o.getD e0 = (ofO o).1 := by cases o <;> rfl
theorem isSome_ofO (o : Option ByteArray) : o.isSome = (ofO o).2 := by cases o <;> rfl
theorem look_msg {L : Row} (h : Rise OrdSs.lt L) (m : Ms) (s : ByteArray) : lookK OrdSs.lt s (msgV m L) = toO (onM m s (ofO (lookK OrdSs.lt s L))) := by
 have still : (touches m.f0 m.f2 m.f3 s = false) → toO (onM m s (ofO (lookK OrdSs.lt s L))) = lookK OrdSs.lt s L := fun ht => by
  unfold onM onV
  rw [ht]
  cases lookK OrdSs.lt s L <;> rfl
 unfold msgV
 by_cases h4 : m.f0 = 4
 ·rw [if_pos h4]
  unfold clearV
  rw [look_filter h (fun k => !holds m.f2 m.f3 k)]
  have ht : touches m.f0 m.f2 m.f3 s = holds m.f2 m.f3 s := by unfold touches; rw [h4]; simp [isPt]
  cases hh : holds m.f2 m.f3 s with
  | true =>
   unfold onM onV
   rw [ht, hh, h4]
   simp [applyV, toO]
  | false =>
   rw [hh] at ht
   rw [still ht]; simp
 ·rw [if_neg h4]
  have ht : touches m.f0 m.f2 m.f3 s = (isPt m.f0 && same m.f2 s) := by unfold touches; simp [h4]
  by_cases hp : isPt m.f0 = true
  ·rw [if_pos hp]
   simp only
   rw [getD_ofO, isSome_ofO]
   by_cases hs : s = m.f2
   ·have hs2 : same m.f2 s = true := same_iff.2 hs.symm
    rw [hp, hs2] at ht
    unfold onM onV
    rw [ht, ← hs]
    simp only [Bool.and_self, if_true]
    unfold toO
    split
    ·rw [look_ins h, if_pos rfl]
    ·rw [look_del h, if_pos rfl]
   ·have hs2 : same m.f2 s = false := by cases q : same m.f2 s with | false => rfl | true => exact absurd (same_iff.1 q).symm hs
    rw [hs2, Bool.and_false] at ht
    rw [still ht]
    split
    ·rw [look_ins h, if_neg hs]
    ·rw [look_del h, if_neg hs]
  ·rw [if_neg hp]
   have hp' : isPt m.f0 = false := by simpa using hp
   rw [hp', Bool.false_and] at ht
   rw [still ht]
theorem look_msgs (s : ByteArray) : ∀ (l : List Ms) (L : Row), Rise OrdSs.lt L → lookK OrdSs.lt s (msgsFrom L l) = toO (doAll s l (ofO (lookK OrdSs.lt s L)))
 | [], L, _ => by rw [doAll, toO_ofO]; rfl
 | m :: l, L, h => by
  rw [msgsFrom, look_msgs s l _ (msgV_rise h m).1, look_msg h, doAll, ofO_toO (tidy_on m s _)]
theorem look_fold (l : List Ms) (e : List En) (s : ByteArray) : lookK OrdSs.lt s (foldV l e) = valO l e s := by
 unfold foldV valO
 rw [look_msgs s l _ (tab_rise e).1, look_tab, ofO_toO (tidy_find e s)]
theorem held_eq (l : List Ms) (e : List En) (f t : ByteArray) : (heldV f t (foldV l e)).map toE = entriesV l e f t := by
 have hr := (fold_rise l e).1
 have hR : Rise OrdSs.lt (heldV f t (foldV l e)) := by
  unfold heldV
  split
  ·exact hr.filter _
  ·exact List.Pairwise.nil
 refine riseE_ext ?_ (rise_entries l e f t) (fun x => ?_)
 ·exact List.pairwise_map.2 hR
 ·rw [mem_entries, ← look_fold, look_iff hr]
  unfold heldV
  rw [List.mem_map]
  constructor
  ·rintro ⟨y, hy, rfl⟩
   split at hy
   ·rename_i q
    rw [List.mem_filter] at hy
    exact ⟨q, hy.2, hy.1⟩
   ·cases hy
  ·rintro ⟨h1, h2, h3⟩
   exact ⟨(x.f0, x.f1), by rw [if_pos h1, List.mem_filter]; exact ⟨h3, h2⟩, rfl⟩
end Go.Proofs.Ytebejadiaooooaa.Fo
end
