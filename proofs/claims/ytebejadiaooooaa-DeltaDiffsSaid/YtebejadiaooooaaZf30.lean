/- THE ROW of DeltaDiffs: for every input the call returns true, and each argument reads afterwards as it read before: no condition beyond the row's own. Out of the walk (its contract over the Lean function of the same text) and the plain law (module YtebejadiaooooaaPureDeltaDiffs). (Laid by rowgen.py.) -/
/- Texts of one claim (laid by shake.py). -/
import Derived.Test.YtebejadiaooooaaZf0
import Derived.Deep.Slices
import Derived.ChangeArms
import Derived.SizedLaws
import Derived.OpenShut
import Derived.Test.YtebejadiaooooaaZf4
import Derived.Test.YtebejadiaooooaaZf13
import Derived.Test.YtebejadiaooooaaZf25
import Derived.Test.YtebejadiaooooaaZf26
import Derived.Test.YtebejadiaooooaaZf20
import Derived.Test.YtebejadiaooooaaZf9
import Derived.Test.YtebejadiaooooaaZf8
import Derived.Test.YtebejadiaooooaaZf21
import Derived.Test.YtebejadiaooooaaZf27
import Derived.Test.YtebejadiaooooaaZf11
import Derived.Test.YtebejadiaooooaaZf28
import Derived.Test.YtebejadiaooooaaZf12
import Derived.Test.YtebejadiaooooaaZf29
import Derived.Test.YtebejadiaooooaaRows
import Derived.WalkKit
import Derived.ProofKit
import Derived.ShutString
import Derived.ChangeOld
import Derived.Below
set_option linter.unusedVariables false
set_option linter.unusedSimpArgs false
section
namespace Go.Proofs.Ytebejadiaooooaa.Rd
open Go.RowKit Go.ChangeShapes Go.WideShapes Go.Deep Go.Proofs.YtebejadiaooooaaW.PrintWords
structure Opens {α : Type} (P : Program) (t : TypeId) (d : Kd α) (wf : α → Prop) : Prop where
 cells : P.cellsOf t = d.sz
 down : ∀ {H : Type} {enc : TypeId × Value → H} {w : World} {base : Nat} {spare : Nat → Bool} {held : Bool} {fuel : Nat} {cs : List Value} {x : DataW H × List MemPlace},
  DataW.trod enc P w base spare held fuel t cs = some x → (∀ n ∈ x.1.weights P t, n ≤ reachBytes) → ∃ a, d.K w a cs ∧ wf a
theorem mem_weightsAll {H : Type} {P : Program} {e : TypeId} {d : DataW H} : ∀ {l : List (DataW H)}, d ∈ l → ∀ n ∈ d.weights P e, n ∈ DataW.weightsAll P e l
 | x :: l, hd, n, hn => by
  simp only [DataW.weightsAll, List.mem_append]
  rcases List.mem_cons.1 hd with rfl | hd
  ·exact .inl hn
  ·exact .inr (mem_weightsAll hd n hn)
theorem Opens.int {P : Program} {t : TypeId} {k : IntKind} (ht : P.underlying t = some (.int k)) (hc : P.cellsOf t = 1) : Opens P t (Kd.int k) (fun n => (Lit.int k n).wf = true) where
 cells := hc
 down := by
  intro H enc w base spare held fuel cs x h _
  obtain ⟨n, rfl, _, hw⟩ := DataW.trod_int ht h
  exact ⟨n, rfl, hw⟩
theorem Opens.bool {P : Program} {t : TypeId} (ht : P.underlying t = some .bool) (hc : P.cellsOf t = 1) : Opens P t Kd.bool (fun _ => True) where
 cells := hc
 down := by
  intro H enc w base spare held fuel cs x h _
  obtain ⟨b, rfl, _⟩ := DataW.trod_bool ht h
  exact ⟨b, rfl, trivial⟩
theorem Opens.string {P : Program} {t : TypeId} (ht : P.underlying t = some .string) (hc : P.cellsOf t = 1) : Opens P t Kd.string (fun s => s.size ≤ 140737488351232) where
 cells := hc
 down := by
  intro H enc w base spare held fuel cs x h hw
  obtain ⟨s, rfl, rfl, _⟩ := DataW.trod_string ht h
  refine ⟨s, rfl, ?_⟩
  have := hw s.data.toList.length (by simp [DataW.weights])
  have e : s.data.toList.length = s.size := by simp
  rw [e] at this
  exact this
theorem Opens.slice {α : Type} {P : Program} {t e : TypeId} {d : Kd α} {wf : α → Prop} (ht : P.underlying t = some (.slice e)) (hc : P.cellsOf t = 1) {B : Nat} (hB : P.bytesOf e = B) (he : Opens P e d wf) :
  Opens P t (Kd.slice e d) (fun l => l.length * B ≤ 140737488351232 ∧ ∀ a ∈ l, wf a) where
 cells := hc
 down := by
  intro H enc w base spare held fuel cs x h hw
  rcases open_slice ht h with ⟨rfl, _⟩ | ⟨a, len, cap, m, n, D, Pl, rfl, hb, hl, hm, hmm, rfl, hx⟩
  ·exact ⟨[], ⟨none, 0, rfl, Nat.le_refl _, rfl, by simp, fun h0 => absurd h0 (by simp)⟩, by simp, fun a ha => by simp at ha⟩
  ·have hlm : len ≤ m := by rw [hmm]; split <;> omega
   have hel : ∀ i : Fin len, ∃ y : α, ∃ c : List Value, w.cells? base (a.add (i.1 * P.cellsOf e)) (P.cellsOf e) = some c ∧ d.K w y c ∧ wf y := by
    intro i
    obtain ⟨c, h1, h2⟩ := hx i.1 (by omega)
    obtain ⟨y, hy, hwf⟩ := he.down h2 (fun n hn => hw n (by
     simp only [DataW.weights, ht, List.mem_cons, List.mem_append]
     exact .inr (.inl (mem_weightsAll (List.mem_map.2 ⟨i.1, List.mem_range.2 i.2, rfl⟩) n hn))))
    exact ⟨y, c, h1, hy, hwf⟩
   obtain ⟨f, hf⟩ := Classical.axiomOfChoice hel
   have hlen : (List.ofFn f).length = len := by simp
   have hmax : len ≤ 9223372036854775807 := by simp only [maxLen] at hm; omega
   refine ⟨List.ofFn f, ⟨some a, cap, ?_, ?_, ?_, ?_, ?_⟩, ?_, ?_⟩
   ·rw [hlen]
   ·rw [hlen]; exact hl
   ·rfl
   ·rw [hlen]; exact hmax
   ·intro _
    refine ⟨a, rfl, fun j p hj => ?_⟩
    obtain ⟨hjl, rfl⟩ := List.getElem?_eq_some_iff.1 hj
    rw [hlen] at hjl
    obtain ⟨c, h1, hy, _⟩ := hf ⟨j, hjl⟩
    obtain ⟨_, hcl, hcell⟩ := World.cells?_some h1
    refine ⟨c, by rw [hcl, he.cells], by simpa using hy, fun i u hu => ?_⟩
    have hi : i < P.cellsOf e := by
     have := (List.getElem?_eq_some_iff.1 hu).1
     omega
    have := hcell i hi
    rw [Go.Deep.add_add] at this
    rw [← he.cells, this, hu]
   ·rw [hlen]
    have hz := hw (((List.range len).map D).length + ((List.range (m - len)).map fun j => D (len + j)).length |>.mul (P.bytesOf e)) (by
     simp only [DataW.weights, ht, List.mem_cons]
     exact .inl rfl)
    rw [hB] at hz
    simp only [List.length_map, List.length_range] at hz
    have h2 : len * B ≤ (len + (m - len)) * B := Nat.mul_le_mul_right _ (by omega)
    exact Nat.le_trans h2 hz
   ·intro y hy
    obtain ⟨i, rfl⟩ := List.mem_ofFn.1 hy
    obtain ⟨_, _, _, hwf⟩ := hf i
    exact hwf
theorem Opens.iso {α β : Type} {P : Program} {t : TypeId} {d : Kd α} {wf : α → Prop} {f : β → α} (g : α → β) (hg : ∀ a, f (g a) = a) (h : Opens P t d wf) : Opens P t (Kd.iso d f) (fun b => wf (f b)) where
 cells := h.cells
 down := by
  intro H enc w base spare held fuel cs x hx hw
  obtain ⟨a, hk, hwf⟩ := h.down hx hw
  refine ⟨g a, ?_, ?_⟩
  ·show d.K w (f (g a)) cs
   rw [hg]; exact hk
  ·show wf (f (g a))
   rw [hg]; exact hwf
structure OpensFs {α : Type} (P : Program) (fs : List Field) (off : Nat) (d : Kd α) (wf : α → Prop) : Prop where
 down : ∀ {H : Type} {enc : TypeId × Value → H} {w : World} {base : Nat} {spare : Nat → Bool} {held : Bool} {fuel : Nat} {cs : List Value} {xs : List (DataW H × List MemPlace)},
  cs.length = d.sz → xs.length = fs.length → (∀ (i : Nat) (f : Field), fs[i]? = some f → DataW.trod enc P w base spare held fuel f.type ((cs.drop (f.offset - off)).take (P.cellsOf f.type)) = xs[i]?) →
  (∀ n ∈ DataW.weightsEach P (fs.map (·.type)) (xs.map (·.1)), n ≤ reachBytes) → ∃ a, d.K w a cs ∧ wf a
 offs : ∀ f ∈ fs, off ≤ f.offset
theorem OpensFs.one {α : Type} {P : Program} {f : Field} {off : Nat} {d : Kd α} {wf : α → Prop} (ho : f.offset = off) (h : Opens P f.type d wf) : OpensFs P [f] off d wf where
 offs := by simp [ho]
 down := by
  intro H enc w base spare held fuel cs xs hl hxs hx hw
  have h0 := hx 0 f rfl
  obtain ⟨x, rfl⟩ : ∃ x, xs = [x] := by
   match xs, hxs with
   | [x], _ => exact ⟨x, rfl⟩
  rw [ho, Nat.sub_self, List.drop_zero, h.cells, ← hl, List.take_length] at h0
  exact h.down h0 (fun n hn => hw n (by simp [DataW.weightsEach, hn]))
theorem OpensFs.cons {α β : Type} {P : Program} {f : Field} {fs : List Field} {off off2 : Nat} {d : Kd α} {d2 : Kd β} {wf : α → Prop} {wf2 : β → Prop} (ho : f.offset = off) (h : Opens P f.type d wf) (ho2 : off2 = off + d.sz)
  (h2 : OpensFs P fs off2 d2 wf2) : OpensFs P (f :: fs) off (Kd.pair d d2) (fun p => wf p.1 ∧ wf2 p.2) where
 offs := by
  intro g hg
  rcases List.mem_cons.1 hg with rfl | hg
  ·omega
  ·have := h2.offs g hg; omega
 down := by
  intro H enc w base spare held fuel cs xs hl hxs hx hw
  obtain ⟨x, ys, rfl⟩ : ∃ x ys, xs = x :: ys := by
   match xs, hxs with
   | x :: ys, _ => exact ⟨x, ys, rfl⟩
  have hl' : cs.length = d.sz + d2.sz := hl
  have h0 := hx 0 f rfl
  rw [ho, Nat.sub_self, List.drop_zero, h.cells] at h0
  obtain ⟨a, ha, hwa⟩ := h.down h0 (fun n hn => hw n (by simp [DataW.weightsEach, hn]))
  obtain ⟨b, hb, hwb⟩ := h2.down (cs := cs.drop d.sz) (xs := ys) (by rw [List.length_drop, hl']; omega) (by simpa using hxs) (fun i g hg => by
   have h1 := hx (i + 1) g (by simpa using hg)
   have hgo := h2.offs g (List.mem_of_getElem? hg)
   rw [List.drop_drop]
   have e : d.sz + (g.offset - off2) = g.offset - off := by omega
   rw [e]
   simpa using h1) (fun n hn => hw n (by simp [DataW.weightsEach, hn]))
  exact ⟨(a, b), ⟨cs.take d.sz, cs.drop d.sz, (List.take_append_drop _ _).symm, ha, hb⟩, hwa, hwb⟩
theorem Opens.struct {α : Type} {P : Program} {t : TypeId} {fs : Array Field} {d : Kd α} {wf : α → Prop} (ht : P.underlying t = some (.struct fs)) (hc : P.cellsOf t = d.sz) (h : OpensFs P fs.toList 0 d wf) : Opens P t d wf where
 cells := hc
 down := by
  intro H enc w base spare held fuel cs x hx hw
  obtain ⟨xs, n, rfl, rfl, hl, hxs, hf⟩ := DataW.trod_struct ht hx
  refine h.down (enc := enc) (w := w) (base := base) (spare := spare) (held := held) (fuel := n) (cs := cs) (xs := xs) (by rw [hl, hc]) (by simpa using hxs) (fun i f hi => ?_) (fun n hn => hw n (by simpa [DataW.weights, ht] using hn))
  rw [Nat.sub_zero]
  exact hf i f (by simpa using hi)
end Go.Proofs.Ytebejadiaooooaa.Rd
end
section
namespace Go.Proofs.Ytebejadiaooooaa.P
open Go.RowKit Go.Proofs.Ytebejadiaooooaa.Rd Go.Proofs.YtebejadiaooooaaW.PrintWords
theorem o9 : Opens Try.prog 9 Kd.string (fun x_ => x_.size ≤ 140737488351232) := Opens.string Try.underlying9 (by kernel_rfl)
def wf39 (x : S39) : Prop := (x.f0.size ≤ 140737488351232) ∧ (x.f1.size ≤ 140737488351232)
theorem o39 : Opens Try.prog 39 k39 wf39 := Opens.iso (g := fun p_ => (⟨p_.1, p_.2⟩ : S39)) (fun _ => rfl) (Opens.struct Try.underlying39 (by kernel_rfl) (OpensFs.cons rfl o9 rfl (OpensFs.one rfl o9)))
theorem o23 : Opens Try.prog 23 (Kd.slice 39 k39) (fun x_ => x_.length * 32 ≤ 140737488351232 ∧ ∀ a_ ∈ x_, wf39 a_) := Opens.slice Try.underlying23 (by kernel_rfl) (by kernel_rfl) o39
end Go.Proofs.Ytebejadiaooooaa.P
end
section
namespace Go.Proofs.Ytebejadiaooooaa.P
open Go.RowKit Go.Proofs.YtebejadiaooooaaW.PrintWords Go.Proofs.YtebejadiaooooaaW.PrintLast Go.Proofs.YtebejadiaooooaaW.PrintMore Go.Proofs.Ytebejadiaooooaa.Own Go.Proofs.Ytebejadiaooooaa
theorem rises_tail {x : En} {l : List En} (h : risesV (x :: l) = true) : risesV l = true := by
 cases l with
 | nil => rfl
 | cons y l => simp only [risesV, Bool.and_eq_true] at h; exact h.2
theorem rises_lt : ∀ (x : En) (l : List En), risesV (x :: l) = true → ∀ y ∈ l, lt x.f0 y.f0 = true
 | _, [], _, _, hy => by cases hy
 | x, z :: l, h, y, hy => by
  simp only [risesV, Bool.and_eq_true] at h
  rcases List.mem_cons.1 hy with rfl | hy
  ·exact h.1
  ·exact lt_trans h.1 (rises_lt z l h.2 y hy)
theorem rises_cons {x : En} {l : List En} (h : ∀ y ∈ l, lt x.f0 y.f0 = true) (hl : risesV l = true) : risesV (x :: l) = true := by
 cases l with
 | nil => rfl
 | cons y l => simp only [risesV, Bool.and_eq_true]; exact ⟨h y (by simp), hl⟩
end Go.Proofs.Ytebejadiaooooaa.P
end
section
namespace Go.Proofs.Ytebejadiaooooaa.P
open Go.RowKit Go.Proofs.YtebejadiaooooaaW.PrintWords Go.Proofs.YtebejadiaooooaaW.PrintLast Go.Proofs.YtebejadiaooooaaW.PrintMore Go.Proofs.Ytebejadiaooooaa.Own Go.Proofs.Ytebejadiaooooaa
def toO (p : ByteArray × Bool) : Option ByteArray := if p.2 = true then some p.1 else none
theorem find_mem : ∀ (e : List En) (s : ByteArray), (findV e s).2 = true → ∃ x ∈ e, x.f0 = s
 | [], s, h => by simp [findV] at h
 | x :: e, s, h => by
  unfold findV at h
  split at h
  ·rename_i q; exact ⟨x, by simp, same_iff.1 q⟩
  ·obtain ⟨y, hy, hs⟩ := find_mem e s h
   exact ⟨y, List.mem_cons_of_mem _ hy, hs⟩
abbrev RiseK (l : List ByteArray) : Prop := l.Pairwise (fun a b => lt a b = true)
theorem mem_intoV (s x : ByteArray) : ∀ L : List ByteArray, x ∈ intoV L s ↔ x ∈ L ∨ x = s
 | [] => by simp [intoV]
 | y :: L => by
  unfold intoV
  split
  ·rw [List.mem_cons, mem_intoV s x L, List.mem_cons, or_assoc]
  ·split
   ·rename_i h
    have := same_iff.1 h
    subst this
    simp only [List.mem_cons]
    constructor
    ·exact .inl
    ·rintro (h | h)
     ·exact h
     ·exact .inl h
   ·simp only [List.mem_cons]
    constructor
    ·rintro (h | h | h)
     ·exact .inr h
     ·exact .inl (.inl h)
     ·exact .inl (.inr h)
    ·rintro ((h | h) | h)
     ·exact .inr (.inl h)
     ·exact .inr (.inr h)
     ·exact .inl h
theorem rise_intoV (s : ByteArray) : ∀ L : List ByteArray, RiseK L → RiseK (intoV L s)
 | [], _ => by simp [intoV]
 | y :: L, h => by
  obtain ⟨h1, h2⟩ := List.pairwise_cons.1 h
  unfold intoV
  split
  ·rename_i hy
   refine List.pairwise_cons.2 ⟨fun x hx => ?_, rise_intoV s L h2⟩
   rcases (mem_intoV s x L).1 hx with hx | rfl
   ·exact h1 x hx
   ·exact hy
  ·rename_i hy
   split
   ·exact h
   ·rename_i hs
    have hsy : lt s y = true := by
     rcases lt_tri s y with q | q | q
     ·exact q
     ·exact absurd (same_iff.2 q.symm) hs
     ·exact absurd q hy
    refine List.pairwise_cons.2 ⟨fun x hx => ?_, h⟩
    rcases List.mem_cons.1 hx with rfl | hx
    ·exact hsy
    ·exact lt_trans hsy (h1 x hx)
theorem rise_addKeys : ∀ (e : List En) (o : List ByteArray), RiseK o → RiseK (addKeys o e)
 | [], o, h => h
 | x :: e, o, h => rise_addKeys e _ (rise_intoV _ _ h)
theorem mem_addKeys (s : ByteArray) : ∀ (e : List En) (o : List ByteArray), s ∈ addKeys o e ↔ s ∈ o ∨ ∃ x ∈ e, x.f0 = s
 | [], o => by simp [addKeys]
 | x :: e, o => by
  unfold addKeys
  rw [mem_addKeys s e, mem_intoV]
  constructor
  ·rintro ((h | h) | ⟨q, hq, h⟩)
   ·exact .inl h
   ·exact .inr ⟨x, by simp, h.symm⟩
   ·exact .inr ⟨q, List.mem_cons_of_mem _ hq, h⟩
  ·rintro (h | ⟨q, hq, h⟩)
   ·exact .inl (.inl h)
   ·rcases List.mem_cons.1 hq with rfl | hq
    ·exact .inl (.inr h.symm)
    ·exact .inr ⟨q, hq, h⟩
theorem rise_ext {α : Type} (R : α → α → Prop) (irr : ∀ a, ¬ R a a) (tr : ∀ {a b c}, R a b → R b c → R a c) : ∀ {a b : List α}, a.Pairwise R → b.Pairwise R → (∀ x, x ∈ a ↔ x ∈ b) → a = b
 | [], [], _, _, _ => rfl
 | [], y :: b, _, _, h => absurd ((h y).2 (by simp)) (by simp)
 | x :: a, [], _, _, h => absurd ((h x).1 (by simp)) (by simp)
 | x :: a, y :: b, ha, hb, h => by
  obtain ⟨ha1, ha2⟩ := List.pairwise_cons.1 ha
  obtain ⟨hb1, hb2⟩ := List.pairwise_cons.1 hb
  have hxy : x = y := by
   rcases List.mem_cons.1 ((h x).1 (by simp)) with q | q
   ·exact q
   ·rcases List.mem_cons.1 ((h y).2 (by simp)) with r | r
    ·exact r.symm
    ·exact absurd (tr (ha1 y r) (hb1 x q)) (irr x)
  subst hxy
  have : a = b := rise_ext R irr tr ha2 hb2 (fun z => by
   have hz := h z
   constructor
   ·intro q
    rcases List.mem_cons.1 (hz.1 (List.mem_cons_of_mem _ q)) with r | r
    ·subst r; exact absurd (ha1 z q) (irr z)
    ·exact r
   ·intro q
    rcases List.mem_cons.1 (hz.2 (List.mem_cons_of_mem _ q)) with r | r
    ·subst r; exact absurd (hb1 z q) (irr z)
    ·exact r)
  rw [this]
theorem riseK_ext {a b : List ByteArray} (ha : RiseK a) (hb : RiseK b) (h : ∀ x, x ∈ a ↔ x ∈ b) : a = b :=
 rise_ext (fun a b => lt a b = true) (fun a h => by rw [lt_irrefl] at h; cases h) (fun h k => lt_trans h k) ha hb h
abbrev RiseE (l : List En) : Prop := l.Pairwise (fun a b => lt a.f0 b.f0 = true)
theorem riseE_iff : ∀ {l : List En}, risesV l = true ↔ RiseE l
 | [] => by simp [risesV]
 | x :: l => by
  rw [RiseE, List.pairwise_cons]
  constructor
  ·intro h
   exact ⟨rises_lt x l h, riseE_iff.1 (rises_tail h)⟩
  ·rintro ⟨h1, h2⟩
   exact rises_cons h1 (riseE_iff.2 h2)
def sameO (a b : ByteArray × Bool) : Bool := same a.1 b.1 && (a.2 == b.2)
end Go.Proofs.Ytebejadiaooooaa.P
end
section
namespace Go.Proofs.Ytebejadiaooooaa.P
open Go.RowKit Go.Proofs.YtebejadiaooooaaW.PrintWords Go.Proofs.YtebejadiaooooaaW.PrintLast Go.Proofs.YtebejadiaooooaaW.PrintMore Go.Proofs.Ytebejadiaooooaa.Own Go.Proofs.Ytebejadiaooooaa
theorem mem_find : ∀ (e : List En), RiseE e → ∀ x : En, x ∈ e ↔ toO (findV e x.f0) = some x.f1
 | [], _, x => by simp [findV, toO]
 | y :: e, h, x => by
  obtain ⟨h1, h2⟩ := List.pairwise_cons.1 h
  have ih := mem_find e h2 x
  by_cases hk : same y.f0 x.f0 = true
  ·have hk2 := same_iff.1 hk
   have hn : x ∉ e := fun hx => by
    have := h1 x hx
    rw [hk2, lt_irrefl] at this; cases this
   rw [findV, if_pos hk]
   obtain ⟨x0, x1⟩ := x
   obtain ⟨y0, y1⟩ := y
   simp only at hk2 hn ⊢
   simp [hn, toO, hk2, eq_comm]
  ·have hne2 : x ≠ y := fun h => by rw [h] at hk; exact hk (same_iff.2 rfl)
   rw [findV, if_neg hk, List.mem_cons, ← ih]
   simp [hne2]
end Go.Proofs.Ytebejadiaooooaa.P
end
section
namespace Go.Proofs.Ytebejadiaooooaa.P
open Go.RowKit Go.Proofs.YtebejadiaooooaaW.PrintWords Go.Proofs.YtebejadiaooooaaW.PrintLast Go.Proofs.YtebejadiaooooaaW.PrintMore Go.Proofs.Ytebejadiaooooaa.Own Go.Proofs.Ytebejadiaooooaa
abbrev Sd := S95
theorem rdD_at {L : List Sd} {i : Nat} {x : Sd} (h : L[i]? = some x) : rd_T95 L (i : Int) = x := by
 simp [rd_T95, rdOf, h]
def besideV : List En → List En → List Sd
 | [], [] => []
 | [], y :: b => ⟨y.f0, e0, y.f1, true, false⟩ :: besideV [] b
 | x :: a, [] => ⟨x.f0, x.f1, e0, false, true⟩ :: besideV a []
 | x :: a, y :: b => if lt x.f0 y.f0 = true then ⟨x.f0, x.f1, e0, false, true⟩ :: besideV a (y :: b) else if x.f0.toList = y.f0.toList then ⟨y.f0, x.f1, y.f1, true, true⟩ :: besideV a b else ⟨y.f0, e0, y.f1, true, false⟩ :: besideV (x :: a) b
termination_by a b => a.length + b.length
theorem beside_length : ∀ (n : Nat) (a b : List En), a.length + b.length ≤ n → (besideV a b).length ≤ n
 | n, [], [], _ => by simp [besideV]
 | 0, [], y :: b, h => by simp at h
 | n + 1, [], y :: b, h => by
  rw [besideV, List.length_cons]
  have := beside_length n [] b (by simp at h ⊢; omega)
  omega
 | 0, x :: a, [], h => by simp at h
 | n + 1, x :: a, [], h => by
  rw [besideV, List.length_cons]
  have := beside_length n a [] (by simp at h ⊢; omega)
  omega
 | 0, x :: a, y :: b, h => by simp at h
 | n + 1, x :: a, y :: b, h => by
  have h1 := beside_length n a (y :: b) (by simp at h ⊢; omega)
  have h2 := beside_length n a b (by simp at h ⊢; omega)
  have h3 := beside_length n (x :: a) b (by simp at h ⊢; omega)
  rw [besideV]
  split
  ·rw [List.length_cons]; omega
  ·split <;> (rw [List.length_cons]; omega)
theorem beside_loop (A B : List En) (hA : A.length ≤ 1000) (hB : B.length ≤ 1000) : ∀ (n : Nat) (a b : List En) (k i j : Nat) (o : List Sd), A.drop i = a → B.drop j = b → i ≤ A.length → j ≤ B.length → a.length + b.length ≤ n → o.length + n ≤ 100000 → 3 * n + 3 ≤ k → delta_beside.l0 k A B o (i : Int) (j : Int) = some (o ++ besideV a b) := by
 intro n
 induction n with
 | zero =>
  intro a b k i j o hda hdb hi hj hn ho hk
  obtain rfl : a = [] := List.eq_nil_of_length_eq_zero (by omega)
  obtain rfl : b = [] := List.eq_nil_of_length_eq_zero (by omega)
  obtain ⟨k, rfl⟩ : ∃ m, k = m + 1 + 1 := ⟨k - 2, by omega⟩
  have e1 := drop_none hda hi
  have e2 := drop_none hdb hj
  rw [delta_beside.l0, if_neg (by omega), delta_beside.j1, decide_eq_false (by omega), if_neg (by simp), besideV, List.append_nil]
 | succ n ih =>
  intro a b k i j o hda hdb hi hj hn ho hk
  obtain ⟨k, rfl⟩ : ∃ m, k = m + 1 + 1 + 1 := ⟨k - 3, by omega⟩
  have hz : (⟨#[]⟩ : ByteArray) = e0 := rfl
  have app : ∀ (y : Sd) (i' j' : Nat) (a' b' : List En), A.drop i' = a' → B.drop j' = b' → i' ≤ A.length → j' ≤ B.length → a'.length + b'.length ≤ n → delta_beside.l0 k A B (o ++ [y]) (i' : Int) (j' : Int) = some (o ++ y :: besideV a' b') := fun y i' j' a' b' h1 h2 h3 h4 h5 => by
   rw [ih a' b' k i' j' (o ++ [y]) h1 h2 h3 h4 h5 (by rw [List.length_append, List.length_singleton]; omega) (by omega)]
   simp
  match a, b, hda, hdb, hn with
  | [], [], hda, hdb, hn =>
   have e1 := drop_none hda hi
   have e2 := drop_none hdb hj
   rw [delta_beside.l0, if_neg (by omega), delta_beside.j1, decide_eq_false (by omega), if_neg (by simp), besideV, List.append_nil]
  | [], y :: b, hda, hdb, hn =>
   have e1 := drop_none hda hi
   obtain ⟨hlj, hy, hdb2, _, _⟩ := drop_any hdb
   rw [delta_beside.l0, if_neg (by omega), delta_beside.j1, decide_eq_true (by omega), if_pos rfl, if_neg (by omega), if_neg (by omega), delta_beside.j2, if_neg (by simp), if_neg (by omega), if_pos (by omega), if_pos (by omega), if_pos (by omega), rdE_at hy, wrap1 (by omega), besideV]
   exact app _ i (j + 1) [] b hda hdb2 hi (by omega) (by simp at hn ⊢; omega)
  | x :: a, [], hda, hdb, hn =>
   have e2 := drop_none hdb hj
   obtain ⟨hli, hx, hda2, _, _⟩ := drop_any hda
   rw [delta_beside.l0, if_pos (by omega), delta_beside.j1, if_pos rfl, if_pos (by omega), delta_beside.j2, if_pos rfl, if_pos (by omega), if_pos (by omega), if_pos (by omega), rdE_at hx, wrap1 (by omega), besideV]
   exact app _ (i + 1) j a [] hda2 hdb (by omega) hj (by simp at hn ⊢; omega)
  | x :: a, y :: b, hda, hdb, hn =>
   obtain ⟨hli, hx, hda2, _, _⟩ := drop_any hda
   obtain ⟨hlj, hy, hdb2, _, _⟩ := drop_any hdb
   have e3 : Op.bytesLess x.f0.toList y.f0.toList = lt x.f0 y.f0 := rfl
   rw [delta_beside.l0, if_pos (by omega), delta_beside.j1, if_pos rfl, if_neg (by omega), if_pos (by omega), if_pos (by omega), if_pos (by omega), if_pos (by omega), rdE_at hx, rdE_at hy, e3, delta_beside.j2, besideV]
   by_cases h1 : lt x.f0 y.f0 = true
   ·rw [if_pos h1, if_pos h1, if_pos (by omega), if_pos (by omega), if_pos (by omega), rdE_at hx, wrap1 (by omega)]
    exact app _ (i + 1) j a (y :: b) hda2 hdb (by omega) hj (by simp at hn ⊢; omega)
   ·rw [if_neg h1, if_neg h1, if_pos (by omega), if_pos (by omega), if_pos (by omega), if_pos (by omega), rdE_at hx, rdE_at hy, wrap1 (by omega), wrap1 (by omega)]
    by_cases h2 : x.f0.toList = y.f0.toList
    ·rw [if_pos h2, if_pos h2, if_pos (by omega)]
     exact app _ (i + 1) (j + 1) a b hda2 hdb2 (by omega) (by omega) (by simp at hn ⊢; omega)
    ·rw [if_neg h2, if_neg h2, if_pos (by omega)]
     exact app _ i (j + 1) (x :: a) b hda hdb2 hi (by omega) (by simp at hn ⊢; omega)
theorem Beside_eq (k : Nat) (a b : List En) (ha : a.length ≤ 1000) (hb : b.length ≤ 1000) (hk : 3 * (a.length + b.length) + 3 ≤ k) : delta_beside.f k a b = some (besideV a b) :=
 beside_loop a b ha hb (a.length + b.length) a b k 0 0 [] rfl rfl (by omega) (by omega) (Nat.le_refl _) (by simp; omega) hk
def diffM (x : Sd) : Option Ms :=
 if x.f3 = true then (if x.f4 = true then (if same x.f1 x.f2 = true then none else some ⟨1, 0, x.f0, e0, x.f2, 0⟩) else some ⟨1, 0, x.f0, e0, x.f2, 0⟩) else some ⟨2, 0, x.f0, e0, e0, 0⟩
def diffV (a b : List En) : List Ms := (besideV a b).filterMap diffM
theorem Diff_loop (L : List Sd) (hL : L.length ≤ 100000) : ∀ (l : List Sd) (k i : Nat) (o : List Ms), L.drop i = l → i ≤ L.length → o.length + l.length ≤ 100000 → l.length < k → delta_Diff.l0 k o L (L.length : Int) (i : Int) = some (o ++ l.filterMap diffM) := by
 intro l
 induction l with
 | nil =>
  intro k i o hd hi ho hk
  obtain ⟨k, rfl⟩ : ∃ m, k = m + 1 := ⟨k - 1, by omega⟩
  have := drop_none hd hi
  rw [delta_Diff.l0, if_neg (by omega)]
  simp
 | cons x l ih =>
  intro k i o hd hi ho hk
  simp only [List.length_cons] at ho hk
  obtain ⟨k, rfl⟩ : ∃ m, k = m + 1 := ⟨k - 1, by omega⟩
  obtain ⟨hlt, hx, hd2, _, _⟩ := drop_any hd
  have app : ∀ y : Ms, delta_Diff.l0 k (o ++ [y]) L (L.length : Int) ((i + 1 : Nat) : Int) = some (o ++ y :: l.filterMap diffM) := fun y => by
   rw [ih k (i + 1) (o ++ [y]) hd2 (by omega) (by rw [List.length_append, List.length_singleton]; omega) (by omega)]
   simp
  rw [delta_Diff.l0, if_pos (by omega), if_pos (by omega), if_pos (by omega), rdD_at hx, wrap1 (by omega), List.filterMap_cons]
  have hlo : o.length < 1954687338268 := by omega
  unfold diffM at app ⊢
  by_cases h3 : x.f3 = true
  ·rw [if_pos h3, if_pos h3]
   by_cases h4 : x.f4 = true
   ·rw [if_pos h4, if_pos h4]
    by_cases hs : x.f1.toList = x.f2.toList
    ·have hs2 : same x.f1 x.f2 = true := by simpa [same] using hs
     rw [if_pos hs, if_pos hs2]
     exact ih k (i + 1) o hd2 (by omega) (by omega) (by omega)
    ·have hs2 : ¬ same x.f1 x.f2 = true := by simpa [same] using hs
     rw [if_neg hs, if_neg hs2, if_pos hlo]
     exact app _
   ·rw [if_neg h4, if_neg h4, if_pos hlo]
    exact app _
  ·rw [if_neg h3, if_neg h3, if_pos hlo]
   exact app _
theorem Diff_eq (k : Nat) (a b : List En) (ha : a.length ≤ 1000) (hb : b.length ≤ 1000) (hk : 3 * (a.length + b.length) + 3 ≤ k) : delta_Diff.f k a b = some (diffV a b) := by
 have hl := beside_length _ a b (Nat.le_refl _)
 unfold delta_Diff.f
 rw [Beside_eq k a b ha hb hk, Option.bind_some]
 exact Diff_loop (besideV a b) (by omega) (besideV a b) k 0 [] rfl (by omega) (by simp; omega) (by omega)
structure Sides (a b : List En) (L : List Sd) : Prop where
 rise : L.Pairwise (fun x y => lt x.f0 y.f0 = true)
 val : ∀ x ∈ L, findV a x.f0 = (x.f1, x.f4) ∧ findV b x.f0 = (x.f2, x.f3)
 all : ∀ s, (findV a s).2 = true ∨ (findV b s).2 = true → ∃ x ∈ L, x.f0 = s
 some : ∀ x ∈ L, x.f3 = true ∨ x.f4 = true
theorem find_far {e : List En} {s : ByteArray} (h : ∀ x ∈ e, x.f0 ≠ s) : findV e s = (e0, false) := by
 induction e with
 | nil => rfl
 | cons x e ih =>
  rw [findV, if_neg (fun hs => h x (by simp) (same_iff.1 hs))]
  exact ih (fun y hy => h y (List.mem_cons_of_mem _ hy))
theorem lt_ne {a b : ByteArray} (h : lt a b = true) : a ≠ b := fun e => by rw [e, lt_irrefl] at h; cases h
theorem sides_gt {a b : List En} {L : List Sd} (h : Sides a b L) {k : ByteArray} (ha : ∀ x ∈ a, lt k x.f0 = true) (hb : ∀ x ∈ b, lt k x.f0 = true) : ∀ z ∈ L, lt k z.f0 = true := by
 intro z hz
 obtain ⟨v1, v2⟩ := h.val z hz
 rcases h.some z hz with h3 | h4
 ·obtain ⟨y, hy, e⟩ := find_mem b z.f0 (by rw [v2]; exact h3)
  rw [← e]; exact hb y hy
 ·obtain ⟨y, hy, e⟩ := find_mem a z.f0 (by rw [v1]; exact h4)
  rw [← e]; exact ha y hy
theorem sides_cons {A B a b : List En} {L : List Sd} {k v u : ByteArray} {p q : Bool} (h : Sides a b L) (ha : ∀ x ∈ a, lt k x.f0 = true) (hb : ∀ x ∈ b, lt k x.f0 = true) (hA : ∀ s, s ≠ k → findV A s = findV a s) (hB : ∀ s, s ≠ k → findV B s = findV b s) (hAk : findV A k = (v, q)) (hBk : findV B k = (u, p)) (hs : p = true ∨ q = true) : Sides A B (⟨k, v, u, p, q⟩ :: L) := by
 have hg := sides_gt h ha hb
 refine ⟨List.pairwise_cons.2 ⟨hg, h.rise⟩, fun x hx => ?_, fun s hs2 => ?_, fun x hx => ?_⟩
 ·rcases List.mem_cons.1 hx with rfl | hx
  ·exact ⟨hAk, hBk⟩
  ·have hne : x.f0 ≠ k := fun e => by have := hg x hx; rw [e, lt_irrefl] at this; cases this
   rw [hA _ hne, hB _ hne]
   exact h.val x hx
 ·by_cases hk : s = k
  ·exact ⟨_, List.mem_cons_self, hk.symm⟩
  ·rw [hA s hk, hB s hk] at hs2
   obtain ⟨x, hx, e⟩ := h.all s hs2
   exact ⟨x, List.mem_cons_of_mem _ hx, e⟩
 ·rcases List.mem_cons.1 hx with rfl | hx
  ·exact hs
  ·exact h.some x hx
theorem find_cons_ne {x : En} {a : List En} {s : ByteArray} (h : s ≠ x.f0) : findV (x :: a) s = findV a s := by
 rw [findV, if_neg (fun hs => h (same_iff.1 hs).symm)]
theorem find_cons_eq (x : En) (a : List En) : findV (x :: a) x.f0 = (x.f1, true) := by rw [findV, if_pos (same_iff.2 rfl)]
theorem beside_sides : ∀ (n : Nat) (a b : List En), a.length + b.length ≤ n → RiseE a → RiseE b → Sides a b (besideV a b)
 | n, [], [], _, _, _ => by
  rw [besideV]
  exact ⟨List.Pairwise.nil, fun x hx => by simp at hx, fun s hs => by simp [findV] at hs, fun x hx => by simp at hx⟩
 | 0, [], y :: b, h, _, _ => by simp at h
 | n + 1, [], y :: b, h, ha, hb => by
  obtain ⟨h1, h2⟩ := List.pairwise_cons.1 hb
  rw [besideV]
  exact sides_cons (beside_sides n [] b (by simp at h ⊢; omega) ha h2) (fun x hx => by simp at hx) h1 (fun s _ => rfl) (fun s hs => find_cons_ne hs) rfl (find_cons_eq y b) (.inl rfl)
 | 0, x :: a, [], h, _, _ => by simp at h
 | n + 1, x :: a, [], h, ha, hb => by
  obtain ⟨h1, h2⟩ := List.pairwise_cons.1 ha
  rw [besideV]
  exact sides_cons (beside_sides n a [] (by simp at h ⊢; omega) h2 hb) h1 (fun x hx => by simp at hx) (fun s hs => find_cons_ne hs) (fun s _ => rfl) (find_cons_eq x a) rfl (.inr rfl)
 | 0, x :: a, y :: b, h, _, _ => by simp at h
 | n + 1, x :: a, y :: b, h, ha, hb => by
  obtain ⟨a1, a2⟩ := List.pairwise_cons.1 ha
  obtain ⟨b1, b2⟩ := List.pairwise_cons.1 hb
  rw [besideV]
  split
  ·rename_i hl
   have hyb : ∀ z ∈ y :: b, lt x.f0 z.f0 = true := fun z hz => by
    rcases List.mem_cons.1 hz with rfl | hz
    ·exact hl
    ·exact lt_trans hl (b1 z hz)
   exact sides_cons (beside_sides n a (y :: b) (by simp at h ⊢; omega) a2 hb) a1 hyb (fun s hs => find_cons_ne hs) (fun s _ => rfl) (find_cons_eq x a) (find_far (fun z hz e => lt_ne (hyb z hz) e.symm)) (.inr rfl)
  ·rename_i hl
   split
   ·rename_i he
    have he : x.f0 = y.f0 := same_iff.1 (by simpa [same] using he)
    exact sides_cons (beside_sides n a b (by simp at h ⊢; omega) a2 b2) (fun z hz => by rw [← he]; exact a1 z hz) b1 (fun s hs => find_cons_ne (by rw [he]; exact hs)) (fun s hs => find_cons_ne hs) (by rw [← he]; exact find_cons_eq x a) (find_cons_eq y b) (.inl rfl)
   ·rename_i he
    have hyx : lt y.f0 x.f0 = true := by
     rcases lt_tri x.f0 y.f0 with q | q | q
     ·exact absurd q hl
     ·exact absurd (by rw [q]) he
     ·exact q
    have hxa : ∀ z ∈ x :: a, lt y.f0 z.f0 = true := fun z hz => by
     rcases List.mem_cons.1 hz with rfl | hz
     ·exact hyx
     ·exact lt_trans hyx (a1 z hz)
    exact sides_cons (beside_sides n (x :: a) b (by simp at h ⊢; omega) ha b2) hxa b1 (fun s _ => rfl) (fun s hs => find_cons_ne hs) (find_far (fun z hz e => lt_ne (hxa z hz) e.symm)) (find_cons_eq y b) (.inl rfl)
theorem sides {a b : List En} (ha : RiseE a) (hb : RiseE b) : Sides a b (besideV a b) := beside_sides _ a b (Nat.le_refl _) ha hb
end Go.Proofs.Ytebejadiaooooaa.P
end
section
namespace Go.Proofs.Ytebejadiaooooaa.P
open Go.RowKit Go.Proofs.YtebejadiaooooaaW.PrintWords Go.Proofs.YtebejadiaooooaaW.PrintLast Go.Proofs.YtebejadiaooooaaW.PrintMore Go.Proofs.Ytebejadiaooooaa.Own Go.Proofs.Ytebejadiaooooaa
open Go.Proofs.Ytebejadiaooooaa.Dl (endV stepR runsF runsV)
def runsG : List ByteArray → List Sd → List Ms
 | row, [] => endV [] row
 | row, x :: l => if x.f3 = true then endV [] row ++ ((diffM x).toList ++ runsG [] l) else runsG (row ++ [x.f0]) l
theorem endV_out (o : List Ms) (r : List ByteArray) : endV o r = o ++ endV [] r := by
 unfold endV
 split <;> simp
theorem told_same (x : Sd) (h : x.f3 = true) : (diffM x).toList = if (!x.f4 || !same x.f1 x.f2) = true then [⟨1, 0, x.f0, e0, x.f2, 0⟩] else [] := by
 unfold diffM
 rw [if_pos h]
 cases x.f4 <;> cases same x.f1 x.f2 <;> simp
theorem runsF_G : ∀ (l : List Sd) (o : List Ms) (r : List ByteArray), endV (l.foldl stepR (o, r)).1 (l.foldl stepR (o, r)).2 = o ++ runsG r l
 | [], o, r => by simp only [List.foldl_nil, runsG]; exact endV_out o r
 | x :: l, o, r => by
  rw [List.foldl_cons, runsG]
  by_cases h3 : x.f3 = true
  ·have e1 : stepR (o, r) x = (endV o r ++ (diffM x).toList, []) := by
    unfold stepR
    rw [if_pos h3, told_same x h3]
    split <;> simp
   rw [if_pos h3, e1, runsF_G l _ [], endV_out o r]
   simp
  ·have e2 : stepR (o, r) x = (o, r ++ [x.f0]) := by
    unfold stepR
    rw [if_neg h3]
   rw [if_neg h3, e2]
   exact runsF_G l o (r ++ [x.f0])
theorem runs_G (l : List Sd) : runsV l = runsG [] l := by
 have := runsF_G l [] []
 simpa [runsV, runsF] using this
theorem end_length (r : List ByteArray) : (endV [] r).length ≤ r.length := by
 unfold endV
 split <;> simp
theorem runsG_length : ∀ (L : List Sd) (r : List ByteArray), (runsG r L).length ≤ r.length + (L.filterMap diffM).length
 | [], r => by simp only [runsG, List.filterMap_nil, List.length_nil]; exact end_length r
 | x :: L, r => by
  rw [runsG, List.filterMap_cons]
  by_cases h3 : x.f3 = true
  ·have h1 : (runsG [] L).length ≤ (L.filterMap diffM).length := by simpa using runsG_length L []
   have h2 := end_length r
   rw [if_pos h3, List.length_append, List.length_append]
   cases diffM x with
   | none => simp; omega
   | some m => simp; omega
  ·have h1 := runsG_length L (r ++ [x.f0])
   have e : diffM x = some ⟨2, 0, x.f0, e0, e0, 0⟩ := by unfold diffM; rw [if_neg h3]
   rw [if_neg h3, e]
   simp only [List.length_append, List.length_cons, List.length_nil] at h1 ⊢
   omega
theorem runs_length (L : List Sd) : (runsV L).length ≤ (L.filterMap diffM).length := by
 rw [runs_G]
 have := runsG_length L []
 simpa using this
end Go.Proofs.Ytebejadiaooooaa.P
end
section
namespace Go.Proofs.Ytebejadiaooooaa.P
open Go.RowKit Go.Proofs.YtebejadiaooooaaW.PrintWords Go.Proofs.YtebejadiaooooaaW.PrintLast Go.Proofs.YtebejadiaooooaaW.PrintMore Go.Proofs.Ytebejadiaooooaa.Own Go.Proofs.Ytebejadiaooooaa
open Go.Proofs.Ytebejadiaooooaa.Dl (endV stepR runsF runsV okR okR_iff runsC)
def rightV (a : List En) : Bool := decide (a.length ≤ 40) && risesV a
theorem right_eq (k : Nat) (a : List En) (hk : 41 < k) : catchmentlaw37_right.f k a = some (rightV a) := by
 unfold catchmentlaw37_right.f rightV
 by_cases h : a.length ≤ 40
 ·rw [if_pos (by omega), Rises_eq _ _ (by omega) (by omega), Option.bind_some, decide_eq_true h, Bool.true_and]
 ·rw [if_neg (by omega), decide_eq_false h, Bool.false_and]
def keyOk (e : List En) : Prop := ∀ x ∈ e, x.f0.size ≤ 140737488351232
theorem side_size {a b : List En} {L : List Sd} (h : Sides a b L) (ha : keyOk a) (hb : keyOk b) : ∀ x ∈ L, x.f0.size ≤ 140737488351232 := by
 intro x hx
 obtain ⟨v1, v2⟩ := h.val x hx
 rcases h.some x hx with h3 | h4
 ·obtain ⟨y, hy, e⟩ := find_mem b x.f0 (by rw [v2]; exact h3)
  rw [← e]; exact hb y hy
 ·obtain ⟨y, hy, e⟩ := find_mem a x.f0 (by rw [v1]; exact h4)
  rw [← e]; exact ha y hy
theorem Runs_eq (k : Nat) (a b : List En) (ha : a.length ≤ 40) (hb : b.length ≤ 40) (hk : 300 ≤ k) (hs : ∀ x ∈ besideV a b, x.f0.size ≤ 140737488351232) : delta_Runs.f k a b = some (runsV (besideV a b)) := by
 have hl := beside_length _ a b (Nat.le_refl _)
 unfold delta_Runs.f runsC
 rw [Beside_eq k a b (by omega) (by omega) (by omega), Option.bind_some, if_pos (okR_iff.2 ⟨by omega, hs⟩)]
end Go.Proofs.Ytebejadiaooooaa.P
end
section
namespace Go.Proofs.Ytebejadiaooooaa.P
open Go.RowKit Go.Proofs.YtebejadiaooooaaW.PrintWords Go.Proofs.YtebejadiaooooaaW.PrintLast Go.Proofs.YtebejadiaooooaaW.PrintMore Go.Proofs.Ytebejadiaooooaa.Own Go.Proofs.Ytebejadiaooooaa
theorem same4_loop (l : List Ms) (hl : l.length ≤ 1000000) : ∀ (d i n : Nat), i + d = l.length → d < n → catchmentref04_Same.l0 n l l (i : Int) = some true := by
 intro d
 induction d with
 | zero =>
  intro i n h hn
  obtain ⟨n, rfl⟩ : ∃ m, n = m + 1 := ⟨n - 1, by omega⟩
  rw [catchmentref04_Same.l0, if_neg (by omega)]
 | succ d ih =>
  intro i n h hn
  obtain ⟨n, rfl⟩ : ∃ m, n = m + 1 := ⟨n - 1, by omega⟩
  rw [catchmentref04_Same.l0, if_pos (by omega), if_pos (by omega), if_pos (by omega), if_neg (by simp), IntWalk.wrap64_in _ (by omega)]
  exact ih (i + 1) n (by omega) (by omega)
theorem same4_self (l : List Ms) (hl : l.length ≤ 1000000) (n : Nat) (hn : l.length < n) : catchmentref04_Same.f n l l = some true := by
 unfold catchmentref04_Same.f
 rw [if_pos rfl]
 exact same4_loop l hl l.length 0 n (by omega) hn
end Go.Proofs.Ytebejadiaooooaa.P
end
section
namespace Go.Proofs.Ytebejadiaooooaa.P
open Go.RowKit Go.Proofs.YtebejadiaooooaaW.PrintWords Go.Proofs.YtebejadiaooooaaW.PrintLast Go.Proofs.YtebejadiaooooaaW.PrintMore Go.Proofs.Ytebejadiaooooaa.Own Go.Proofs.Ytebejadiaooooaa
open Go.Proofs.Ytebejadiaooooaa.Dl (endV runsV)
theorem rdL_at {X : List (List En)} {i : Nat} {e : List En} (h : X[i]? = some e) : rd_L8 X (i : Int) = e := by
 simp [rd_L8, rdOf, h]
theorem keys_in (X : List (List En)) (e : List En) (he : e.length ≤ 100) (i : Nat) (hi : X[i]? = some e) (hi2 : i < 1000) (n : Nat) (hn : 300 ≤ n) (r : Option (List ByteArray)) : ∀ (q : List En) (k j : Nat) (o : List ByteArray), e.drop j = q → j ≤ e.length → o.length + q.length ≤ 200 → n + q.length < k → (∀ k', n ≤ k' → catchmentref37_keys.l0 k' X (addKeys o q) ((i + 1 : Nat) : Int) = r) → catchmentref37_keys.l1 k X o (i : Int) (j : Int) = r := by
 intro q
 have hlt := (List.getElem?_eq_some_iff.1 hi).1
 induction q with
 | nil =>
  intro k j o hd hj ho hk h0
  obtain ⟨k, rfl⟩ : ∃ m, k = m + 1 := ⟨k - 1, by omega⟩
  have := drop_none hd hj
  rw [catchmentref37_keys.l1, if_pos (by omega), if_pos (by omega), rdL_at hi, if_neg (by omega), wrap1 (by omega)]
  exact h0 k (by simp at hk; omega)
 | cons x q ih =>
  intro k j o hd hj ho hk h0
  simp only [List.length_cons] at ho hk
  obtain ⟨k, rfl⟩ : ∃ m, k = m + 1 := ⟨k - 1, by omega⟩
  obtain ⟨hltj, hx, hd2, _, _⟩ := drop_any hd
  have hl := intoV_length x.f0 o
  rw [catchmentref37_keys.l1, if_pos (by omega), if_pos (by omega), rdL_at hi, if_pos (by omega), if_pos (by omega), rdE_at hx, Into_eq _ _ _ (by omega) (by omega), Option.bind_some, wrap1 (by omega)]
  exact ih k (j + 1) (intoV o x.f0) hd2 (by omega) (by omega) (by omega) h0
theorem keys37_eq (a b : List En) (ha : a.length ≤ 40) (hb : b.length ≤ 40) (k : Nat) (hk : 500 ≤ k) : catchmentref37_keys.f k [a, b] = some (addKeys (addKeys [] a) b) := by
 unfold catchmentref37_keys.f
 obtain ⟨k, rfl⟩ : ∃ m, k = m + 1 := ⟨k - 1, by omega⟩
 have h1 := addKeys_length a []
 rw [catchmentref37_keys.l0, if_pos (by simp)]
 refine keys_in [a, b] a (by omega) 0 rfl (by omega) 400 (by omega) _ a k 0 [] rfl (by omega) (by simp; omega) (by omega) (fun k' hk' => ?_)
 obtain ⟨k', rfl⟩ : ∃ m, k' = m + 1 := ⟨k' - 1, by omega⟩
 rw [catchmentref37_keys.l0, if_pos (by simp)]
 refine keys_in [a, b] b (by omega) 1 rfl (by omega) 300 (by omega) _ b k' 0 (addKeys [] a) rfl (by omega) (by simp at h1; omega) (by omega) (fun k2 hk2 => ?_)
 obtain ⟨k2, rfl⟩ : ∃ m, k2 = m + 1 := ⟨k2 - 1, by omega⟩
 rw [catchmentref37_keys.l0, if_neg (by simp)]
theorem has_key {e : List En} (h : RiseE e) (s : ByteArray) : (findV e s).2 = true ↔ ∃ x ∈ e, x.f0 = s := by
 constructor
 ·exact find_mem e s
 ·rintro ⟨x, hx, rfl⟩
  have := (mem_find e h x).1 hx
  unfold toO at this
  cases q : (findV e x.f0).2 with
  | true => rfl
  | false => rw [q, if_neg (by simp)] at this; cases this
theorem keys_sides {a b : List En} {L : List Sd} (ha : RiseE a) (hb : RiseE b) (h : Sides a b L) : addKeys (addKeys [] a) b = L.map (·.f0) := by
 refine riseK_ext (rise_addKeys b _ (rise_addKeys a [] List.Pairwise.nil)) (List.pairwise_map.2 h.rise) (fun s => ?_)
 rw [mem_addKeys, mem_addKeys, List.mem_map]
 constructor
 ·intro hs
  refine h.all s ?_
  rcases hs with (hs | hs) | hs
  ·simp at hs
  ·exact .inl ((has_key ha s).2 hs)
  ·exact .inr ((has_key hb s).2 hs)
 ·rintro ⟨x, hx, rfl⟩
  obtain ⟨v1, v2⟩ := h.val x hx
  rcases h.some x hx with h3 | h4
  ·exact .inr ((has_key hb x.f0).1 (by rw [v2]; exact h3))
  ·exact .inl (.inr ((has_key ha x.f0).1 (by rw [v1]; exact h4)))
theorem same37_eq (k : Nat) (a b : List En) (s : ByteArray) (ha : a.length ≤ 40) (hb : b.length ≤ 40) (hk : 41 ≤ k) : catchmentref37_same.f k a b s = some (sameO (findV a s) (findV b s)) := by
 unfold catchmentref37_same.f
 rw [Find_eq _ _ _ (by omega) (by omega), Option.bind_some, Find_eq _ _ _ (by omega) (by omega), Option.bind_some]
 unfold sameO same
 by_cases h : (findV a s).1.toList = (findV b s).1.toList
 ·rw [if_pos h, decide_eq_true h, Bool.true_and]
 ·rw [if_neg h, decide_eq_false h, Bool.false_and]
theorem told_is (x : Sd) (h : x.f3 = true ∨ x.f4 = true) : diffM x = if sameO (x.f1, x.f4) (x.f2, x.f3) = true then none else some (if x.f3 = true then ⟨1, 0, x.f0, e0, x.f2, 0⟩ else ⟨2, 0, x.f0, e0, e0, 0⟩) := by
 obtain ⟨s, u, v, p, q⟩ := x
 unfold diffM sameO
 cases p <;> cases q <;> simp at h ⊢
section
variable {a b : List En} {L : List Sd} (hS : Sides a b L) (ha : a.length ≤ 40) (hb : b.length ≤ 40) (hL : L.length ≤ 80)
include hS ha hb hL
theorem rDiff_loop : ∀ (q : List Sd) (k i : Nat) (o : List Ms), L.drop i = q → i ≤ L.length → o.length + q.length ≤ 1000 → 100 + q.length < k → catchmentref37_Diff.l0 k a b o (L.map (·.f0)) (i : Int) = some (o ++ q.filterMap diffM) := by
 intro q
 induction q with
 | nil =>
  intro k i o hd hi ho hk
  obtain ⟨k, rfl⟩ : ∃ m, k = m + 1 := ⟨k - 1, by omega⟩
  have := drop_none hd hi
  rw [catchmentref37_Diff.l0, if_neg (by simp; omega)]
  simp
 | cons x q ih =>
  intro k i o hd hi ho hk
  simp only [List.length_cons] at ho hk
  obtain ⟨k, rfl⟩ : ∃ m, k = m + 1 := ⟨k - 1, by omega⟩
  obtain ⟨hlt, hx, hd2, _, hm⟩ := drop_any hd
  obtain ⟨v1, v2⟩ := hS.val x hm
  have hK : (L.map (·.f0))[i]? = some x.f0 := by rw [List.getElem?_map, hx]; rfl
  have app : ∀ y : Ms, catchmentref37_Diff.l0 k a b (o ++ [y]) (L.map (·.f0)) ((i + 1 : Nat) : Int) = some (o ++ y :: q.filterMap diffM) := fun y => by
   rw [ih k (i + 1) (o ++ [y]) hd2 (by omega) (by rw [List.length_append, List.length_singleton]; omega) (by omega)]
   simp
  have hlo : o.length < 1954687338268 := by omega
  rw [catchmentref37_Diff.l0, if_pos (by rw [List.length_map]; omega), if_pos (by omega), rdS_at hK, Find_eq _ _ _ (by omega) (by omega), Option.bind_some, same37_eq _ _ _ _ ha hb (by omega), Option.bind_some, wrap1 (by omega), v1, v2, List.filterMap_cons, told_is x (hS.some x hm)]
  by_cases hs : sameO (x.f1, x.f4) (x.f2, x.f3) = true
  ·rw [if_pos hs, if_pos hs]
   exact ih k (i + 1) o hd2 (by omega) (by omega) (by omega)
  ·rw [if_neg hs, if_neg hs]
   by_cases h3 : x.f3 = true
   ·rw [if_pos h3, if_pos h3, if_pos hlo]
    exact app _
   ·rw [if_neg h3, if_neg h3, if_pos hlo]
    exact app _
theorem runs_loops (hz : ∀ x ∈ L, x.f0.size ≤ 140737488351232) : ∀ n : Nat,
  (∀ (q : List Sd) (k i : Nat) (o : List Ms), q.length = n → L.drop i = q → i ≤ L.length → o.length + q.length ≤ 1000 → 100 + 2 * n < k → catchmentref37_Runs.l0 k a b o (L.map (·.f0)) (i : Int) = some (o ++ runsG [] q)) ∧
  (∀ (q : List Sd) (k i e : Nat) (o : List Ms), q.length = n → i ≤ e → e < L.length → L.drop (e + 1) = q → o.length + q.length ≤ 999 → 101 + 2 * n < k → catchmentref37_Runs.l1 k a b o (L.map (·.f0)) (i : Int) (e : Int) = some (o ++ runsG (((L.map (·.f0)).drop i).take (e + 1 - i)) q)) := by
 have KL : (L.map (·.f0)).length = L.length := List.length_map _
 have close : ∀ (k i e : Nat) (o : List Ms) (r : Option (List Ms)), i ≤ e → e < L.length → o.length ≤ 999 → catchmentref37_Runs.l0 k a b (o ++ endV [] (((L.map (·.f0)).drop i).take (e + 1 - i))) (L.map (·.f0)) ((e + 1 : Nat) : Int) = r →
   (if (e : Int) = (i : Int) then (if 0 ≤ (i : Int) then (if (i : Int) < ((L.map (·.f0)).length : Int) then (if o.length < 1954687338268 then (catchmentref37_Runs.l0 k a b (o ++ [(⟨2, 0, rdOf ByteArray.empty (L.map (·.f0)) (i : Int), (⟨#[]⟩ : ByteArray), (⟨#[]⟩ : ByteArray), 0⟩ : Ms)]) (L.map (·.f0)) (wrap64 ((e : Int) + 1))) else (none)) else (none)) else (none)) else (if 0 ≤ (i : Int) then (if (i : Int) < ((L.map (·.f0)).length : Int) then (if 0 ≤ (e : Int) then (if (e : Int) < ((L.map (·.f0)).length : Int) then (if (rdOf ByteArray.empty (L.map (·.f0)) (e : Int)).size + 1 ≤ 9223372036854775807 then (if o.length < 1954687338268 then (catchmentref37_Runs.l0 k a b (o ++ [(⟨4, 0, rdOf ByteArray.empty (L.map (·.f0)) (i : Int), (rdOf ByteArray.empty (L.map (·.f0)) (e : Int)) ++ (⟨#[0]⟩ : ByteArray), (⟨#[]⟩ : ByteArray), 0⟩ : Ms)]) (L.map (·.f0)) (wrap64 ((e : Int) + 1))) else (none)) else (none)) else (none)) else (none)) else (none)) else (none))) = r := by
  intro k i e o r hie he ho h0
  have hxi : L[i]? = some L[i] := List.getElem?_eq_getElem (by omega)
  have hxe : L[e]? = some L[e] := List.getElem?_eq_getElem he
  have hKi : (L.map (·.f0))[i]? = some L[i].f0 := by rw [List.getElem?_map, hxi]; rfl
  have hKe : (L.map (·.f0))[e]? = some L[e].f0 := by rw [List.getElem?_map, hxe]; rfl
  have hze := hz L[e] (List.getElem_mem _)
  rw [wrap1 (by omega), rdS_at hKi, rdS_at hKe]
  by_cases h : e = i
  ·subst h
   have e9 : endV [] (((L.map (·.f0)).drop e).take (e + 1 - e)) = [⟨2, 0, L[e].f0, e0, e0, 0⟩] := by
    rw [show e + 1 - e = 0 + 1 by omega, List.take_add_one, List.getElem?_drop, Nat.add_zero, hKe]
    rfl
   rw [e9] at h0
   rw [if_pos rfl, if_pos (by omega), if_pos (by omega), if_pos (by omega)]
   exact h0
  ·have e9 : endV [] (((L.map (·.f0)).drop i).take (e + 1 - i)) = [⟨4, 0, L[i].f0, succB L[e].f0, e0, 0⟩] := by
    have hl : (((L.map (·.f0)).drop i).take (e + 1 - i)).length = e + 1 - i := by rw [List.length_take, List.length_drop, KL]; omega
    have h1 : (((L.map (·.f0)).drop i).take (e + 1 - i))[0]? = some L[i].f0 := by rw [List.getElem?_take, if_pos (by omega), List.getElem?_drop, Nat.add_zero]; exact hKi
    have h2 : (((L.map (·.f0)).drop i).take (e + 1 - i))[e - i]? = some L[e].f0 := by rw [List.getElem?_take, if_pos (by omega), List.getElem?_drop, show i + (e - i) = e by omega]; exact hKe
    generalize ((L.map (·.f0)).drop i).take (e + 1 - i) = row at hl h1 h2
    match row, hl, h1, h2 with
    | [], hl, _, _ => simp at hl; omega
    | [s], hl, _, _ => simp at hl; omega
    | s :: t :: l, hl, h1, h2 =>
     have hs : s = L[i].f0 := by simpa using h1
     have hlast : (s :: t :: l).getLast (by simp) = L[e].f0 := by
      rw [List.getLast_eq_getElem]
      have h3 := (List.getElem?_eq_some_iff.1 h2).2
      rw [← h3]
      congr 1
      omega
     show [(⟨4, 0, s, succB ((s :: t :: l).getLast (by simp)), e0, 0⟩ : Ms)] = _
     rw [hlast, hs]
   rw [e9] at h0
   rw [if_neg (by omega), if_pos (by omega), if_pos (by omega), if_pos (by omega), if_pos (by omega), if_pos (by omega), if_pos (by omega)]
   exact h0
 intro n
 induction n with
 | zero =>
  have P0 : ∀ (q : List Sd) (k i : Nat) (o : List Ms), q.length = 0 → L.drop i = q → i ≤ L.length → o.length + q.length ≤ 1000 → 100 + 2 * 0 < k → catchmentref37_Runs.l0 k a b o (L.map (·.f0)) (i : Int) = some (o ++ runsG [] q) := by
   intro q k i o hq hd hi ho hk
   obtain rfl := List.eq_nil_of_length_eq_zero hq
   obtain ⟨k, rfl⟩ : ∃ m, k = m + 1 := ⟨k - 1, by omega⟩
   have := drop_none hd hi
   rw [catchmentref37_Runs.l0, if_neg (by rw [KL]; omega)]
   simp [runsG, endV]
  refine ⟨P0, ?_⟩
  intro q k i e o hq hie he hd ho hk
  obtain rfl := List.eq_nil_of_length_eq_zero hq
  obtain ⟨k, rfl⟩ : ∃ m, k = m + 1 := ⟨k - 1, by omega⟩
  have hlen := drop_none hd (by omega)
  have hw : wrap64 (((L.map (·.f0)).length : Int) - 1) = ((L.map (·.f0)).length : Int) - 1 := IntWalk.wrap64_in _ (by omega)
  rw [catchmentref37_Runs.l1, hw, if_neg (by rw [KL]; omega)]
  refine close k i e o _ hie he (by omega) ?_
  have hel := end_length (((L.map (·.f0)).drop i).take (e + 1 - i))
  have hrl : (((L.map (·.f0)).drop i).take (e + 1 - i)).length ≤ 80 := by rw [List.length_take, List.length_drop, KL]; omega
  obtain ⟨k2, rfl⟩ : ∃ m, k = m + 1 := ⟨k - 1, by omega⟩
  rw [catchmentref37_Runs.l0, if_neg (by rw [KL]; omega), runsG]
 | succ n ih =>
  obtain ⟨ih0, ih1⟩ := ih
  have P0 : ∀ (q : List Sd) (k i : Nat) (o : List Ms), q.length = n + 1 → L.drop i = q → i ≤ L.length → o.length + q.length ≤ 1000 → 100 + 2 * (n + 1) < k → catchmentref37_Runs.l0 k a b o (L.map (·.f0)) (i : Int) = some (o ++ runsG [] q) := by
   intro q k i o hq hd hi ho hk
   match q, hq with
   | x :: q, hq =>
    simp only [List.length_cons] at hq ho
    obtain ⟨k, rfl⟩ : ∃ m, k = m + 1 := ⟨k - 1, by omega⟩
    obtain ⟨hlt, hx, hd2, _, hm⟩ := drop_any hd
    obtain ⟨v1, v2⟩ := hS.val x hm
    have hK : (L.map (·.f0))[i]? = some x.f0 := by rw [List.getElem?_map, hx]; rfl
    have hlo : o.length < 1954687338268 := by omega
    rw [catchmentref37_Runs.l0, if_pos (by rw [KL]; omega), if_pos (by omega), rdS_at hK, Find_eq _ _ _ (by omega) (by omega), Option.bind_some, v2, runsG]
    by_cases h3 : x.f3 = true
    ·rw [if_pos h3, if_pos h3, same37_eq _ _ _ _ ha hb (by omega), Option.bind_some, v1, v2, wrap1 (by omega), told_is x (hS.some x hm), if_pos h3]
     have e8 : endV [] ([] : List ByteArray) = [] := rfl
     rw [e8, List.nil_append]
     by_cases hs : sameO (x.f1, x.f4) (x.f2, x.f3) = true
     ·rw [if_pos hs, if_pos hs]
      exact ih0 q k (i + 1) o (by omega) hd2 (by omega) (by omega) (by omega)
     ·rw [if_neg hs, if_neg hs, if_pos hlo, ih0 q k (i + 1) _ (by omega) hd2 (by omega) (by rw [List.length_append, List.length_singleton]; omega) (by omega)]
      simp
    ·rw [if_neg h3, if_neg h3, ih1 q k i i o (by omega) (Nat.le_refl _) hlt hd2 (by omega) (by omega), show i + 1 - i = 0 + 1 by omega, List.take_add_one, List.getElem?_drop, Nat.add_zero, hK]
     rfl
  refine ⟨P0, ?_⟩
  intro q k i e o hq hie he hd ho hk
  match q, hq with
  | y :: q, hq =>
   simp only [List.length_cons] at hq ho
   obtain ⟨k, rfl⟩ : ∃ m, k = m + 1 := ⟨k - 1, by omega⟩
   obtain ⟨hlt, hy, hd2, _, hm⟩ := drop_any hd
   obtain ⟨v1, v2⟩ := hS.val y hm
   have hK : (L.map (·.f0))[e + 1]? = some y.f0 := by rw [List.getElem?_map, hy]; rfl
   have g1 : (e : Int) < ((L.map (·.f0)).length : Int) - 1 := by rw [KL]; omega
   have g2 : (0 : Int) ≤ ((e + 1 : Nat) : Int) := by omega
   have g3 : ((e + 1 : Nat) : Int) < ((L.map (·.f0)).length : Int) := by rw [KL]; omega
   have g4 : b.length ≤ 1000000 := by omega
   have g5 : b.length < k := by omega
   have g6 : o.length ≤ 999 := by omega
   have g7 : (y :: q).length = n + 1 := by simp; omega
   have g8 : e + 1 ≤ L.length := by omega
   have g9 : o.length + 1 + (q.length + 1) ≤ 1000 := by omega
   have g10 : 100 + 2 * (n + 1) < k := by omega
   have g11 : q.length = n := by omega
   have g12 : i ≤ e + 1 := by omega
   have g13 : o.length + q.length ≤ 999 := by omega
   have g14 : 101 + 2 * n < k := by omega
   have g15 : e + 1 + 1 - i = (e + 1 - i) + 1 := by omega
   have g16 : i + (e + 1 - i) = e + 1 := by omega
   have h9 : (endV [] (((L.map (·.f0)).drop i).take (e + 1 - i))).length ≤ 1 := by unfold endV; split <;> simp
   have g17 : (o ++ endV [] (((L.map (·.f0)).drop i).take (e + 1 - i))).length + (y :: q).length ≤ 1000 := by rw [List.length_append, List.length_cons]; omega
   have hw : wrap64 (((L.map (·.f0)).length : Int) - 1) = ((L.map (·.f0)).length : Int) - 1 := IntWalk.wrap64_in _ (by omega)
   have hw2 : wrap64 ((e : Int) + 1) = ((e + 1 : Nat) : Int) := wrap1 (by omega)
   rw [catchmentref37_Runs.l1, hw, if_pos g1, hw2, if_pos g2, if_pos g3, rdS_at hK, Find_eq _ _ _ g4 g5, Option.bind_some, v2, runsG]
   by_cases h3 : y.f3 = true
   ·rw [if_pos h3, if_pos h3, ← hw2]
    clear hw hw2
    refine close k i e o _ hie he g6 ?_
    rw [P0 (y :: q) k (e + 1) _ g7 hd g8 g17 g10, runsG, if_pos h3]
    have e8 : endV [] ([] : List ByteArray) = [] := rfl
    rw [e8, List.nil_append, List.append_assoc]
   ·clear hw hw2
    rw [if_neg h3, if_neg h3, ih1 q k i (e + 1) o g11 g12 hlt hd2 g13 g14, g15, List.take_add_one, List.getElem?_drop, g16, hK]
    rfl
end
theorem rDiff_eq {a b : List En} (ra : RiseE a) (rb : RiseE b) {L : List Sd} (hS : Sides a b L) (ha : a.length ≤ 40) (hb : b.length ≤ 40) (hL : L.length ≤ 80) (k : Nat) (hk : 500 ≤ k) : catchmentref37_Diff.f k a b = some (L.filterMap diffM) := by
 unfold catchmentref37_Diff.f
 rw [keys37_eq a b ha hb k hk, Option.bind_some, keys_sides ra rb hS]
 exact rDiff_loop hS ha hb hL L k 0 [] rfl (by omega) (by simp; omega) (by omega)
theorem rRuns_eq {a b : List En} (ra : RiseE a) (rb : RiseE b) {L : List Sd} (hS : Sides a b L) (ha : a.length ≤ 40) (hb : b.length ≤ 40) (hL : L.length ≤ 80) (hz : ∀ x ∈ L, x.f0.size ≤ 140737488351232) (k : Nat) (hk : 500 ≤ k) : catchmentref37_Runs.f k a b = some (runsV L) := by
 unfold catchmentref37_Runs.f
 rw [keys37_eq a b ha hb k hk, Option.bind_some, keys_sides ra rb hS, runs_G]
 exact (runs_loops hS ha hb hL hz L.length).1 L k 0 [] rfl rfl (by omega) (by simp; omega) (by omega)
end Go.Proofs.Ytebejadiaooooaa.P
end
section
namespace Go.Proofs.Ytebejadiaooooaa.Pure
open Go.RowKit Go.Proofs.Ytebejadiaooooaa.P Go.Proofs.YtebejadiaooooaaW.PrintWords Go.Proofs.YtebejadiaooooaaW.PrintLast Go.Proofs.YtebejadiaooooaaW.PrintMore Go.Proofs.Ytebejadiaooooaa.Own Go.Proofs.Ytebejadiaooooaa
open Go.Proofs.Ytebejadiaooooaa.Dl (runsV)
theorem live37_c : catchmentlaw37_live.f 700 = some true := by kernel_rfl
theorem diffs_main (a b : List S39) (w0 : ∀ a_ ∈ a, wf39 a_) (w1 : ∀ a_ ∈ b, wf39 a_) (hra : rightV a = true) (hrb : rightV b = true) (k : Nat) (hk : 600 ≤ k) (live : catchmentlaw37_live.f k = some true) : catchmentlaw37_DeltaDiffs.j0 (k + 1) a b false = some true := by
 unfold rightV at hra hrb
 simp only [Bool.and_eq_true, decide_eq_true_eq] at hra hrb
 obtain ⟨la, ra⟩ := hra
 obtain ⟨lb, rb⟩ := hrb
 have ra := riseE_iff.1 ra
 have rb := riseE_iff.1 rb
 have eD : delta_Diff.f k a b = some (diffV a b) := Diff_eq k a b (by omega) (by omega) (by omega)
 have hS := sides ra rb
 have hK := side_size hS (fun x hx => (w0 x hx).1) (fun x hx => (w1 x hx).1)
 have hk3 : 300 ≤ k := by omega
 have hk5 : 500 ≤ k := by omega
 have eR : delta_Runs.f k a b = some (runsV (besideV a b)) := Runs_eq k a b la lb hk3 hK
 have hBl : (besideV a b).length ≤ 80 := Nat.le_trans (beside_length _ a b (Nat.le_refl _)) (Nat.add_le_add la lb)
 unfold diffV at eD
 generalize besideV a b = L at hS hK eD eR hBl
 have hdl : (L.filterMap diffM).length ≤ 80 := Nat.le_trans (List.length_filterMap_le _ _) hBl
 have hrl : (runsV L).length ≤ 80 := Nat.le_trans (runs_length L) hdl
 have h1 : (L.filterMap diffM).length ≤ 1000000 := by omega
 have h2 : (L.filterMap diffM).length < k := by omega
 have h3 : (runsV L).length ≤ 1000000 := by omega
 have h4 : (runsV L).length < k := by omega
 rw [catchmentlaw37_DeltaDiffs.j0, if_neg (by simp), live, Option.bind_some, if_pos rfl, eD, Option.bind_some, rDiff_eq ra rb hS la lb hBl k hk5, Option.bind_some, same4_self _ h1 _ h2, Option.bind_some, if_pos rfl, eR, Option.bind_some, rRuns_eq ra rb hS la lb hBl hK k hk5, Option.bind_some, same4_self _ h3 _ h4, Option.bind_some]
theorem DeltaDiffs : ∀ (x0 : (List S39)) (x1 : (List S39)), (x0.length * 32 ≤ 140737488351232 ∧ ∀ a_ ∈ x0, wf39 a_) → (x1.length * 32 ≤ 140737488351232 ∧ ∀ a_ ∈ x1, wf39 a_) → ∃ k, catchmentlaw37_DeltaDiffs.f k x0 x1 = some true := by
 intro a b w0 w1
 refine ⟨701, ?_⟩
 unfold catchmentlaw37_DeltaDiffs.f
 have no : catchmentlaw37_DeltaDiffs.j0 701 a b true = some true := by
  show catchmentlaw37_DeltaDiffs.j0 (700 + 1) a b true = some true
  rw [catchmentlaw37_DeltaDiffs.j0, if_pos rfl, live37_c, Option.bind_some]
 rw [right_eq _ _ (by decide), Option.bind_some]
 cases hra : rightV a with
 | false => rw [if_neg (by simp)]; exact no
 | true =>
  rw [if_pos rfl, right_eq _ _ (by decide), Option.bind_some]
  cases hrb : rightV b with
  | false => exact no
  | true => exact diffs_main a b w0.2 w1.2 hra hrb 700 (by decide) live37_c
end Go.Proofs.Ytebejadiaooooaa.Pure
end
section
namespace Go.Proofs.Ytebejadiaooooaa.deltaDiffs
open Go.ChangeShapes Go.WideShapes Go.ChangeAt Go.RowKit Go.Proofs.Ytebejadiaooooaa.P Go.Proofs.Ytebejadiaooooaa.Rd Go.Proofs.YtebejadiaooooaaW.PrintWords
open Go.ChangeMaps (open_string shut_string)
theorem own : ownKnob Try.prog.godebug = none := by kernel_rfl
theorem laidOut : laidOutB Try.prog = true := by kernel_rfl
set_option maxHeartbeats 2000000 in
set_option maxRecDepth 100000 in
theorem lifted (os : Os) (started : os.Started) (H : Type) (enc : TypeId × Value → H) :
  ReturnsInHanded {} Try.checked os 8 .any (Rows.deltaDiffsSpec.pre6 enc Try.prog Try.f8 Rows.deltaDiffsRow.domain false) (Rows.deltaDiffsSpec.post enc Try.prog Try.f8 false true false false) := by
 refine returnsInHanded_of_change_sized (C := Try.checked) own started (by kernel_rfl) Try.func8
  (ChangeSpec.witness6 (enc := enc) (C := Try.checked) false ⟨#[], #[.slice none 0 0, .slice none 0 0], []⟩ 8 (by kernel_rfl) (by kernel_rfl) (by kernel_rfl) (by kernel_rfl)) ?_
 intro W base args ds gs before hval0 hW hcnd hsz0 _
 have hsz : (DataW.weightsEach Try.prog (Try.f8.params.toList ++ Rows.deltaDiffsSpec.plain.varTypes Try.prog) (ds ++ gs)).all (· ≤ reachBytes) = true := hsz0
 have hval : ∀ (j : Nat) t v, Try.f8.params[j]? = some t → args[j]? = some v → Value.okWide Try.prog W .any base t v := hval0
 have hW' := hW
 obtain ⟨p, q, hA0, hV, rfl, hfz, hnd⟩ := hW
 have hA : DataW.TrodAll enc Try.prog W 0 (fun _ => true) true Try.f8.params.toList args.toList ds p := hA0
 rw [Try.params8] at hA hval hsz
 obtain ⟨v0, vs0, d0, ds0, p0, q0, hargs, rfl, rfl, h0, r0⟩ := trodAll_cons hA
 obtain ⟨v1, vs1, d1, ds1, p1, q1, rfl, rfl, rfl, h1, r1⟩ := trodAll_cons r0
 obtain ⟨rfl, rfl, rfl⟩ := trodAll_nil r1
 obtain rfl : args = #[v0, v1] := by cases args; simp_all
 obtain ⟨rfl, rfl⟩ := trodVars_none hV
 have k0 := h0
 have lt0 : ∀ x ∈ p0, x.block < W.heap.size := by obtain ⟨m, hm⟩ := k0; exact DataW.trod_lt m _ _ _ hm
 have ww0 : ∀ n ∈ d0.weights Try.prog 23, n ≤ reachBytes := fun n hn => by simpa using List.all_eq_true.1 hsz n (DataW.weights_mem_each (j := 0) rfl rfl n hn)
 obtain ⟨ad0, len0, cap0, rfl⟩ := okWide_slice Try.underlying23 (hval 0 23 v0 rfl rfl)
 obtain ⟨fu0, hf0⟩ := h0
 obtain ⟨x0, kx0, w0⟩ := o23.down hf0 ww0
 obtain ⟨A0, c0, e0, hc0, hr0⟩ := kx0
 obtain ⟨rfl, rfl, rfl⟩ : ad0 = A0 ∧ len0 = x0.length ∧ cap0 = c0 := by simpa [Value.cells] using e0
 have k1 := h1
 have lt1 : ∀ x ∈ p1, x.block < W.heap.size := by obtain ⟨m, hm⟩ := k1; exact DataW.trod_lt m _ _ _ hm
 have ww1 : ∀ n ∈ d1.weights Try.prog 23, n ≤ reachBytes := fun n hn => by simpa using List.all_eq_true.1 hsz n (DataW.weights_mem_each (j := 1) rfl rfl n hn)
 obtain ⟨ad1, len1, cap1, rfl⟩ := okWide_slice Try.underlying23 (hval 1 23 v1 rfl rfl)
 obtain ⟨fu1, hf1⟩ := h1
 obtain ⟨x1, kx1, w1⟩ := o23.down hf1 ww1
 obtain ⟨A1, c1, e1, hc1, hr1⟩ := kx1
 obtain ⟨rfl, rfl, rfl⟩ : ad1 = A1 ∧ len1 = x1.length ∧ cap1 = c1 := by simpa [Value.cells] using e1
 clear hA0 hval0 hsz0 hsz
 obtain ⟨k_, hp⟩ := Pure.DeltaDiffs x0 x1 w0 w1
 refine (catchmentlaw37_DeltaDiffs.calls (k := k_) (r := true) (w := W) (hr0 := hr0) (hc0 := hc0) (hr1 := hr1) (hc1 := hc1) (h := hp)).mono fun e W' ⟨he, bel0⟩ => ?_
 have bel : Below W.heap.size W W' := bel0
 subst he
 exact ⟨_, rfl, _, _, _, [], _, [], hW', trodAll_mk1 (shut_bool Try.underlying4 _), (trodAll_cons_mk (Below.trod laidOut (by kernel_rfl) (of_decide_eq_true (by kernel_rfl)) k0 bel lt0) (trodAll_cons_mk (Below.trod laidOut (by kernel_rfl) (of_decide_eq_true (by kernel_rfl)) k1 bel lt1) trodAll_mk0)), rfl, bel.frame _, fun h => by cases h⟩
theorem over : Rows.deltaDiffsRow.holds Try.pinned (OpenSpec.ofChange Rows.deltaDiffsSpec) :=
 OpenClaim.holds_of_wide 8 Try.f8 rfl rfl rfl rfl rfl rfl rfl ⟨rfl, rfl, rfl, rfl, rfl⟩ rfl rfl rfl rfl rfl (by kernel_rfl) Try.func8 (by kernel_rfl)
  (of_decide_eq_true (by kernel_rfl)) (by unfold Func.isWrapper; first | (rw [if_pos (by decide +kernel)]; kernel_rfl) | (rw [if_neg (by decide +kernel)]; exact ⟨rfl, rfl⟩))
  (fun os started H enc _ => lifted os started H enc)
end Go.Proofs.Ytebejadiaooooaa.deltaDiffs
namespace Go.Proofs.Ytebejadiaooooaa
theorem deltaDiffs_holds : Rows.DeltaDiffsSaid := deltaDiffs.over
#print axioms deltaDiffs_holds
end Go.Proofs.Ytebejadiaooooaa
end
