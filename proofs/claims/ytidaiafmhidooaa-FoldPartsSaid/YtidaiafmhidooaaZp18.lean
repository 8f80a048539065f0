/- THE ROW of FoldParts: for every input the call returns true, and each argument reads afterwards as it read before: no condition beyond the row's own. Out of the walk (its contract over the Lean function of the same text) and the plain law (module YtidaiafmhidooaaPureFoldParts). (Laid by rowgen.py.) -/
/- Texts of this seat's own and of the kit's print program, of one claim: only what the claim uses (laid by wip/tools/shake.py; Lean checks them). -/
import Derived.Test.YtidaiafmhidooaaZp0
import Derived.Deep.Slices
import Derived.ChangeArms
import Derived.SizedLaws
import Derived.OpenShut
import Derived.Test.YtidaiafmhidooaaZp2
import Derived.Test.YtidaiafmhidooaaZp8
import Derived.Test.YtidaiafmhidooaaZp16
import Derived.Test.YtidaiafmhidooaaZp15
import Derived.Test.YtidaiafmhidooaaZp6
import Derived.Test.YtidaiafmhidooaaZp17
import Derived.Test.YtidaiafmhidooaaZp7
import Derived.Test.YtidaiafmhidooaaRows
import Derived.WalkKit
import Derived.ProofKit
import Derived.ShutString
import Derived.ChangeOld
import Derived.Below
section
namespace Go.Proofs.Ytidaiafmhidooaa.Rd
open Go.RowKit Go.ChangeShapes Go.WideShapes Go.Deep Go.Proofs.YtidaiafmhidooaaW.PrintWords
structure Opens {α : Type} (P : Program) (t : TypeId) (d : Kd α) (wf : α → Prop) : Prop where
  cells : P.cellsOf t = d.sz
  down : ∀ {H : Type} {enc : TypeId × Value → H} {w : World} {base : Nat} {spare : Nat → Bool} {held : Bool} {fuel : Nat} {cs : List Value} {x : DataW H × List MemPlace},
    DataW.trod enc P w base spare held fuel t cs = some x → (∀ n ∈ x.1.weights P t, n ≤ reachBytes) → ∃ a, d.K w a cs ∧ wf a
theorem mem_weightsAll {H : Type} {P : Program} {e : TypeId} {d : DataW H} : ∀ {l : List (DataW H)}, d ∈ l → ∀ n ∈ d.weights P e, n ∈ DataW.weightsAll P e l
  | x :: l, hd, n, hn => by
    simp only [DataW.weightsAll, List.mem_append]
    rcases List.mem_cons.1 hd with rfl | hd
    · exact .inl hn
    · exact .inr (mem_weightsAll hd n hn)
theorem Opens.int {P : Program} {t : TypeId} {k : IntKind} (ht : P.underlying t = some (.int k)) (hc : P.cellsOf t = 1) : Opens P t (Kd.int k) (fun n => (Lit.int k n).wf = true) where
  cells := hc
  down := by
    intro H enc w base spare held fuel cs x h _
    obtain ⟨n, rfl, _, hw⟩ := DataW.trod_int ht h
    exact ⟨n, rfl, hw⟩
theorem Opens.bool {P : Program} {t : TypeId} (ht : P.underlying t = some .bool) (hc : P.cellsOf t = 1) : Opens P t Kd.bool (fun _ => True) where
  cells := hc
  down := by
    intro H enc w base spare held fuel cs x h _
    obtain ⟨b, rfl, _⟩ := DataW.trod_bool ht h
    exact ⟨b, rfl, trivial⟩
theorem Opens.string {P : Program} {t : TypeId} (ht : P.underlying t = some .string) (hc : P.cellsOf t = 1) : Opens P t Kd.string (fun s => s.size ≤ 140737488351232) where
  cells := hc
  down := by
    intro H enc w base spare held fuel cs x h hw
    obtain ⟨s, rfl, rfl, _⟩ := DataW.trod_string ht h
    refine ⟨s, rfl, ?_⟩
    have := hw s.data.toList.length (by simp [DataW.weights])
    have e : s.data.toList.length = s.size := by simp
    rw [e] at this
    exact this
theorem Opens.slice {α : Type} {P : Program} {t e : TypeId} {d : Kd α} {wf : α → Prop} (ht : P.underlying t = some (.slice e)) (hc : P.cellsOf t = 1) {B : Nat} (hB : P.bytesOf e = B) (he : Opens P e d wf) :
    Opens P t (Kd.slice e d) (fun l => l.length * B ≤ 140737488351232 ∧ ∀ a ∈ l, wf a) where
  cells := hc
  down := by
    intro H enc w base spare held fuel cs x h hw
    rcases open_slice ht h with ⟨rfl, _⟩ | ⟨a, len, cap, m, n, D, Pl, rfl, hb, hl, hm, hmm, rfl, hx⟩
    · exact ⟨[], ⟨none, 0, rfl, Nat.le_refl _, rfl, by simp, fun h0 => absurd h0 (by simp)⟩, by simp, fun a ha => by simp at ha⟩
    · have hlm : len ≤ m := by rw [hmm]; split <;> omega
      have hel : ∀ i : Fin len, ∃ y : α, ∃ c : List Value, w.cells? base (a.add (i.1 * P.cellsOf e)) (P.cellsOf e) = some c ∧ d.K w y c ∧ wf y := by
        intro i
        obtain ⟨c, h1, h2⟩ := hx i.1 (by omega)
        obtain ⟨y, hy, hwf⟩ := he.down h2 (fun n hn => hw n (by
          simp only [DataW.weights, ht, List.mem_cons, List.mem_append]
          exact .inr (.inl (mem_weightsAll (List.mem_map.2 ⟨i.1, List.mem_range.2 i.2, rfl⟩) n hn))))
        exact ⟨y, c, h1, hy, hwf⟩
      obtain ⟨f, hf⟩ := Classical.axiomOfChoice hel
      have hlen : (List.ofFn f).length = len := by simp
      have hmax : len ≤ 9223372036854775807 := by simp only [maxLen] at hm; omega
      refine ⟨List.ofFn f, ⟨some a, cap, ?_, ?_, ?_, ?_, ?_⟩, ?_, ?_⟩
      · rw [hlen]
      · rw [hlen]; exact hl
      · rfl
      · rw [hlen]; exact hmax
      · intro _
        refine ⟨a, rfl, fun j p hj => ?_⟩
        obtain ⟨hjl, rfl⟩ := List.getElem?_eq_some_iff.1 hj
        rw [hlen] at hjl
        obtain ⟨c, h1, hy, _⟩ := hf ⟨j, hjl⟩
        obtain ⟨_, hcl, hcell⟩ := World.cells?_some h1
        refine ⟨c, by rw [hcl, he.cells], by simpa using hy, fun i u hu => ?_⟩
        have hi : i < P.cellsOf e := by
          have := (List.getElem?_eq_some_iff.1 hu).1
          omega
        have := hcell i hi
        rw [Go.Deep.add_add] at this
        rw [← he.cells, this, hu]
      · rw [hlen]
        have hz := hw (((List.range len).map D).length + ((List.range (m - len)).map fun j => D (len + j)).length |>.mul (P.bytesOf e)) (by
          simp only [DataW.weights, ht, List.mem_cons]
          exact .inl rfl)
        rw [hB] at hz
        simp only [List.length_map, List.length_range] at hz
        have h2 : len * B ≤ (len + (m - len)) * B := Nat.mul_le_mul_right _ (by omega)
        exact Nat.le_trans h2 hz
      · intro y hy
        obtain ⟨i, rfl⟩ := List.mem_ofFn.1 hy
        obtain ⟨_, _, _, hwf⟩ := hf i
        exact hwf
theorem Opens.iso {α β : Type} {P : Program} {t : TypeId} {d : Kd α} {wf : α → Prop} {f : β → α} (g : α → β) (hg : ∀ a, f (g a) = a) (h : Opens P t d wf) : Opens P t (Kd.iso d f) (fun b => wf (f b)) where
  cells := h.cells
  down := by
    intro H enc w base spare held fuel cs x hx hw
    obtain ⟨a, hk, hwf⟩ := h.down hx hw
    refine ⟨g a, ?_, ?_⟩
    · show d.K w (f (g a)) cs
      rw [hg]; exact hk
    · show wf (f (g a))
      rw [hg]; exact hwf
structure OpensFs {α : Type} (P : Program) (fs : List Field) (off : Nat) (d : Kd α) (wf : α → Prop) : Prop where
  down : ∀ {H : Type} {enc : TypeId × Value → H} {w : World} {base : Nat} {spare : Nat → Bool} {held : Bool} {fuel : Nat} {cs : List Value} {xs : List (DataW H × List MemPlace)},
    cs.length = d.sz → xs.length = fs.length → (∀ (i : Nat) (f : Field), fs[i]? = some f → DataW.trod enc P w base spare held fuel f.type ((cs.drop (f.offset - off)).take (P.cellsOf f.type)) = xs[i]?) →
    (∀ n ∈ DataW.weightsEach P (fs.map (·.type)) (xs.map (·.1)), n ≤ reachBytes) → ∃ a, d.K w a cs ∧ wf a
  offs : ∀ f ∈ fs, off ≤ f.offset
theorem OpensFs.one {α : Type} {P : Program} {f : Field} {off : Nat} {d : Kd α} {wf : α → Prop} (ho : f.offset = off) (h : Opens P f.type d wf) : OpensFs P [f] off d wf where
  offs := by simp [ho]
  down := by
    intro H enc w base spare held fuel cs xs hl hxs hx hw
    have h0 := hx 0 f rfl
    obtain ⟨x, rfl⟩ : ∃ x, xs = [x] := by
      match xs, hxs with
      | [x], _ => exact ⟨x, rfl⟩
    rw [ho, Nat.sub_self, List.drop_zero, h.cells, ← hl, List.take_length] at h0
    exact h.down h0 (fun n hn => hw n (by simp [DataW.weightsEach, hn]))
theorem OpensFs.cons {α β : Type} {P : Program} {f : Field} {fs : List Field} {off off2 : Nat} {d : Kd α} {d2 : Kd β} {wf : α → Prop} {wf2 : β → Prop} (ho : f.offset = off) (h : Opens P f.type d wf) (ho2 : off2 = off + d.sz)
    (h2 : OpensFs P fs off2 d2 wf2) : OpensFs P (f :: fs) off (Kd.pair d d2) (fun p => wf p.1 ∧ wf2 p.2) where
  offs := by
    intro g hg
    rcases List.mem_cons.1 hg with rfl | hg
    · omega
    · have := h2.offs g hg; omega
  down := by
    intro H enc w base spare held fuel cs xs hl hxs hx hw
    obtain ⟨x, ys, rfl⟩ : ∃ x ys, xs = x :: ys := by
      match xs, hxs with
      | x :: ys, _ => exact ⟨x, ys, rfl⟩
    have hl' : cs.length = d.sz + d2.sz := hl
    have h0 := hx 0 f rfl
    rw [ho, Nat.sub_self, List.drop_zero, h.cells] at h0
    obtain ⟨a, ha, hwa⟩ := h.down h0 (fun n hn => hw n (by simp [DataW.weightsEach, hn]))
    obtain ⟨b, hb, hwb⟩ := h2.down (cs := cs.drop d.sz) (xs := ys) (by rw [List.length_drop, hl']; omega) (by simpa using hxs) (fun i g hg => by
      have h1 := hx (i + 1) g (by simpa using hg)
      have hgo := h2.offs g (List.mem_of_getElem? hg)
      rw [List.drop_drop]
      have e : d.sz + (g.offset - off2) = g.offset - off := by omega
      rw [e]
      simpa using h1) (fun n hn => hw n (by simp [DataW.weightsEach, hn]))
    exact ⟨(a, b), ⟨cs.take d.sz, cs.drop d.sz, (List.take_append_drop _ _).symm, ha, hb⟩, hwa, hwb⟩
theorem Opens.struct {α : Type} {P : Program} {t : TypeId} {fs : Array Field} {d : Kd α} {wf : α → Prop} (ht : P.underlying t = some (.struct fs)) (hc : P.cellsOf t = d.sz) (h : OpensFs P fs.toList 0 d wf) : Opens P t d wf where
  cells := hc
  down := by
    intro H enc w base spare held fuel cs x hx hw
    obtain ⟨xs, n, rfl, rfl, hl, hxs, hf⟩ := DataW.trod_struct ht hx
    refine h.down (enc := enc) (w := w) (base := base) (spare := spare) (held := held) (fuel := n) (cs := cs) (xs := xs) (by rw [hl, hc]) (by simpa using hxs) (fun i f hi => ?_) (fun n hn => hw n (by simpa [DataW.weights, ht] using hn))
    rw [Nat.sub_zero]
    exact hf i f (by simpa using hi)
end Go.Proofs.Ytidaiafmhidooaa.Rd
end
section
namespace Go.Proofs.Ytidaiafmhidooaa.P
open Go.RowKit Go.Proofs.Ytidaiafmhidooaa.Rd Go.Proofs.YtidaiafmhidooaaW.PrintWords
theorem o30 : Opens Try.prog 30 (Kd.int .u8) (fun n => (Lit.int .u8 n).wf = true) := Opens.int Try.underlying30 (by kernel_rfl)
theorem o3 : Opens Try.prog 3 (Kd.int .i64) (fun n => (Lit.int .i64 n).wf = true) := Opens.int Try.underlying3 (by kernel_rfl)
theorem o9 : Opens Try.prog 9 Kd.string (fun x_ => x_.size ≤ 140737488351232) := Opens.string Try.underlying9 (by kernel_rfl)
theorem o31 : Opens Try.prog 31 (Kd.int .u64) (fun n => (Lit.int .u64 n).wf = true) := Opens.int Try.underlying31 (by kernel_rfl)
def wf33 (x : S33) : Prop := ((Lit.int .u8 x.f0).wf = true) ∧ ((Lit.int .i64 x.f1).wf = true) ∧ (x.f2.size ≤ 140737488351232) ∧ (x.f3.size ≤ 140737488351232) ∧ (x.f4.size ≤ 140737488351232) ∧ ((Lit.int .u64 x.f5).wf = true)
theorem o33 : Opens Try.prog 33 k33 wf33 := Opens.iso (g := fun p_ => (⟨p_.1, p_.2.1, p_.2.2.1, p_.2.2.2.1, p_.2.2.2.2.1, p_.2.2.2.2.2⟩ : S33)) (fun _ => rfl) (Opens.struct Try.underlying33 (by kernel_rfl) (OpensFs.cons rfl o30 rfl (OpensFs.cons rfl o3 rfl (OpensFs.cons rfl o9 rfl (OpensFs.cons rfl o9 rfl (OpensFs.cons rfl o9 rfl (OpensFs.one rfl o31)))))))
theorem o22 : Opens Try.prog 22 (Kd.slice 33 k33) (fun x_ => x_.length * 72 ≤ 140737488351232 ∧ ∀ a_ ∈ x_, wf33 a_) := Opens.slice Try.underlying22 (by kernel_rfl) (by kernel_rfl) o33
theorem o5 : Opens Try.prog 5 (Kd.int .u8) (fun n => (Lit.int .u8 n).wf = true) := Opens.int Try.underlying5 (by kernel_rfl)
def wf55 (x : S55) : Prop := (x.f0.size ≤ 140737488351232) ∧ (x.f1.size ≤ 140737488351232)
theorem o55 : Opens Try.prog 55 k55 wf55 := Opens.iso (g := fun p_ => (⟨p_.1, p_.2⟩ : S55)) (fun _ => rfl) (Opens.struct Try.underlying55 (by kernel_rfl) (OpensFs.cons rfl o9 rfl (OpensFs.one rfl o9)))
theorem o36 : Opens Try.prog 36 (Kd.slice 55 k55) (fun x_ => x_.length * 32 ≤ 140737488351232 ∧ ∀ a_ ∈ x_, wf55 a_) := Opens.slice Try.underlying36 (by kernel_rfl) (by kernel_rfl) o55
def wf38 (x : S38) : Prop := (x.f0.size ≤ 140737488351232) ∧ (x.f1.size ≤ 140737488351232)
theorem o38 : Opens Try.prog 38 k38 wf38 := Opens.iso (g := fun p_ => (⟨p_.1, p_.2⟩ : S38)) (fun _ => rfl) (Opens.struct Try.underlying38 (by kernel_rfl) (OpensFs.cons rfl o9 rfl (OpensFs.one rfl o9)))
end Go.Proofs.Ytidaiafmhidooaa.P
end
section
set_option linter.unusedVariables false
set_option linter.unusedSimpArgs false
namespace Go.Proofs.Ytidaiafmhidooaa.P
open Go.RowKit Go.Proofs.YtidaiafmhidooaaW.PrintWords Go.Proofs.YtidaiafmhidooaaW.PrintLast Go.Proofs.YtidaiafmhidooaaW.PrintMore Go.Proofs.Ytidaiafmhidooaa.Own Go.Proofs.Ytidaiafmhidooaa
def ofO : Option ByteArray → ByteArray × Bool
  | none => (e0, false)
  | some v => (v, true)
def toO (p : ByteArray × Bool) : Option ByteArray := if p.2 = true then some p.1 else none
theorem toO_ofO (o : Option ByteArray) : toO (ofO o) = o := by cases o <;> rfl
def tidy (p : ByteArray × Bool) : Prop := p.2 = false → p.1 = e0
theorem ofO_toO {p : ByteArray × Bool} (h : tidy p) : ofO (toO p) = p := by
  obtain ⟨v, b⟩ := p
  cases b
  · have := h rfl; simp at this; subst this; rfl
  · rfl
theorem tidy_apply (k : Int) (vv : ByteArray) (d : Int) (v : ByteArray) (is : Bool) : tidy (applyV k vv d v is) := by
  unfold applyV tidy
  (repeat' split) <;> simp
theorem tidy_on (m : Ms) (s : ByteArray) (p : ByteArray × Bool) : tidy (onM m s p) := by
  unfold onM onV
  split
  · exact tidy_apply _ _ _ _ _
  · unfold tidy
    split <;> simp
theorem tidy_find : ∀ (e : List En) (s : ByteArray), tidy (findV e s)
  | [], s => by simp [findV, tidy]
  | x :: e, s => by
    unfold findV
    split
    · simp [tidy]
    · exact tidy_find e s
theorem tidy_doAll (s : ByteArray) : ∀ (l : List Ms) (p : ByteArray × Bool), tidy p → tidy (doAll s l p)
  | [], p, h => h
  | m :: l, p, h => tidy_doAll s l _ (tidy_on m s p)
theorem norm_tidy {p : ByteArray × Bool} (h : tidy p) : (norm p.1 p.2, p.2) = p := by
  obtain ⟨v, b⟩ := p
  cases b
  · have := h rfl; simp at this; subst this; rfl
  · rfl
def valO (l : List Ms) (e : List En) (s : ByteArray) : Option ByteArray := toO (doAll s l (findV e s))
theorem valueV_find (l : List Ms) (e : List En) (s : ByteArray) : valueV l s (findV e s).1 (findV e s).2 = doAll s l (findV e s) := by
  unfold valueV
  rw [norm_tidy (tidy_find e s)]
theorem valueV_ofO (l : List Ms) (e : List En) (s : ByteArray) : valueV l s (findV e s).1 (findV e s).2 = ofO (valO l e s) := by
  rw [valueV_find]
  unfold valO
  rw [ofO_toO (tidy_doAll s l _ (tidy_find e s))]
theorem doAll_append (s : ByteArray) : ∀ (a b : List Ms) (p : ByteArray × Bool), doAll s (a ++ b) p = doAll s b (doAll s a p)
  | [], _, _ => rfl
  | m :: a, b, p => doAll_append s a b (onM m s p)
theorem find_mem : ∀ (e : List En) (s : ByteArray), (findV e s).2 = true → ∃ x ∈ e, x.f0 = s
  | [], s, h => by simp [findV] at h
  | x :: e, s, h => by
    unfold findV at h
    split at h
    · rename_i q; exact ⟨x, by simp, same_iff.1 q⟩
    · obtain ⟨y, hy, hs⟩ := find_mem e s h
      exact ⟨y, List.mem_cons_of_mem _ hy, hs⟩
theorem on_some (m : Ms) (s : ByteArray) (p : ByteArray × Bool) (h : (onM m s p).2 = true) : p.2 = true ∨ (isPt m.f0 = true ∧ m.f2 = s) := by
  unfold onM onV at h
  split at h
  · rename_i ht
    unfold touches at ht
    simp only [Bool.or_eq_true, Bool.and_eq_true, decide_eq_true_eq] at ht
    rcases ht with ht | ht
    · exact .inr ⟨ht.1, same_iff.1 ht.2⟩
    · rw [ht.1] at h
      simp [applyV] at h
  · left
    cases q : p.2
    · rw [q] at h; simp at h
    · rfl
theorem do_some (s : ByteArray) : ∀ (l : List Ms) (p : ByteArray × Bool), (doAll s l p).2 = true → p.2 = true ∨ ∃ m ∈ l, isPt m.f0 = true ∧ m.f2 = s
  | [], p, h => .inl h
  | m :: l, p, h => by
    rcases do_some s l _ h with h1 | ⟨x, hx, h2⟩
    · rcases on_some m s p h1 with h3 | h3
      · exact .inl h3
      · exact .inr ⟨m, by simp, h3⟩
    · exact .inr ⟨x, List.mem_cons_of_mem _ hx, h2⟩
abbrev RiseK (l : List ByteArray) : Prop := l.Pairwise (fun a b => lt a b = true)
theorem mem_intoV (s x : ByteArray) : ∀ L : List ByteArray, x ∈ intoV L s ↔ x ∈ L ∨ x = s
  | [] => by simp [intoV]
  | y :: L => by
    unfold intoV
    split
    · rw [List.mem_cons, mem_intoV s x L, List.mem_cons, or_assoc]
    · split
      · rename_i h
        have := same_iff.1 h
        subst this
        simp only [List.mem_cons]
        constructor
        · exact .inl
        · rintro (h | h)
          · exact h
          · exact .inl h
      · simp only [List.mem_cons]
        constructor
        · rintro (h | h | h)
          · exact .inr h
          · exact .inl (.inl h)
          · exact .inl (.inr h)
        · rintro ((h | h) | h)
          · exact .inr (.inl h)
          · exact .inr (.inr h)
          · exact .inl h
theorem rise_intoV (s : ByteArray) : ∀ L : List ByteArray, RiseK L → RiseK (intoV L s)
  | [], _ => by simp [intoV]
  | y :: L, h => by
    obtain ⟨h1, h2⟩ := List.pairwise_cons.1 h
    unfold intoV
    split
    · rename_i hy
      refine List.pairwise_cons.2 ⟨fun x hx => ?_, rise_intoV s L h2⟩
      rcases (mem_intoV s x L).1 hx with hx | rfl
      · exact h1 x hx
      · exact hy
    · rename_i hy
      split
      · exact h
      · rename_i hs
        have hsy : lt s y = true := by
          rcases lt_tri s y with q | q | q
          · exact q
          · exact absurd (same_iff.2 q.symm) hs
          · exact absurd q hy
        refine List.pairwise_cons.2 ⟨fun x hx => ?_, h⟩
        rcases List.mem_cons.1 hx with rfl | hx
        · exact hsy
        · exact lt_trans hsy (h1 x hx)
theorem rise_keysFrom : ∀ (l : List Ms) (o : List ByteArray), RiseK o → RiseK (keysFrom o l)
  | [], o, h => h
  | m :: l, o, h => by
    unfold keysFrom
    refine rise_keysFrom l _ ?_
    split
    · exact rise_intoV _ _ h
    · exact h
theorem mem_keysFrom (x : ByteArray) : ∀ (l : List Ms) (o : List ByteArray), x ∈ keysFrom o l ↔ x ∈ o ∨ ∃ m ∈ l, isPt m.f0 = true ∧ m.f2 = x
  | [], o => by simp [keysFrom]
  | m :: l, o => by
    unfold keysFrom
    rw [mem_keysFrom x l]
    by_cases hp : isPt m.f0 = true
    · rw [if_pos hp, mem_intoV]
      constructor
      · rintro ((h | h) | ⟨q, hq, h⟩)
        · exact .inl h
        · exact .inr ⟨m, by simp, hp, h.symm⟩
        · exact .inr ⟨q, List.mem_cons_of_mem _ hq, h⟩
      · rintro (h | ⟨q, hq, h⟩)
        · exact .inl (.inl h)
        · rcases List.mem_cons.1 hq with rfl | hq
          · exact .inl (.inr h.2.symm)
          · exact .inr ⟨q, hq, h⟩
    · rw [if_neg hp]
      constructor
      · rintro (h | ⟨q, hq, h⟩)
        · exact .inl h
        · exact .inr ⟨q, List.mem_cons_of_mem _ hq, h⟩
      · rintro (h | ⟨q, hq, h⟩)
        · exact .inl h
        · rcases List.mem_cons.1 hq with rfl | hq
          · exact absurd h.1 hp
          · exact .inr ⟨q, hq, h⟩
theorem rise_addKeys : ∀ (e : List En) (o : List ByteArray), RiseK o → RiseK (addKeys o e)
  | [], o, h => h
  | x :: e, o, h => rise_addKeys e _ (rise_intoV _ _ h)
theorem mem_addKeys (s : ByteArray) : ∀ (e : List En) (o : List ByteArray), s ∈ addKeys o e ↔ s ∈ o ∨ ∃ x ∈ e, x.f0 = s
  | [], o => by simp [addKeys]
  | x :: e, o => by
    unfold addKeys
    rw [mem_addKeys s e, mem_intoV]
    constructor
    · rintro ((h | h) | ⟨q, hq, h⟩)
      · exact .inl h
      · exact .inr ⟨x, by simp, h.symm⟩
      · exact .inr ⟨q, List.mem_cons_of_mem _ hq, h⟩
    · rintro (h | ⟨q, hq, h⟩)
      · exact .inl (.inl h)
      · rcases List.mem_cons.1 hq with rfl | hq
        · exact .inl (.inr h.symm)
        · exact .inr ⟨q, hq, h⟩
theorem rise_named (l : List Ms) (e : List En) : RiseK (namedV l e) := rise_addKeys e _ (rise_keysFrom l [] List.Pairwise.nil)
theorem mem_named (l : List Ms) (e : List En) (s : ByteArray) : s ∈ namedV l e ↔ (∃ m ∈ l, isPt m.f0 = true ∧ m.f2 = s) ∨ ∃ x ∈ e, x.f0 = s := by
  unfold namedV keysV
  rw [mem_addKeys, mem_keysFrom]
  simp
theorem named_of_val {l : List Ms} {e : List En} {s v : ByteArray} (h : valO l e s = some v) : s ∈ namedV l e := by
  have h2 : (doAll s l (findV e s)).2 = true := by
    unfold valO toO at h
    split at h
    · assumption
    · cases h
  rw [mem_named]
  rcases do_some s l _ h2 with h3 | h3
  · exact .inr (find_mem e s h3)
  · exact .inl h3
theorem rise_ext {α : Type} (R : α → α → Prop) (irr : ∀ a, ¬ R a a) (tr : ∀ {a b c}, R a b → R b c → R a c) : ∀ {a b : List α}, a.Pairwise R → b.Pairwise R → (∀ x, x ∈ a ↔ x ∈ b) → a = b
  | [], [], _, _, _ => rfl
  | [], y :: b, _, _, h => absurd ((h y).2 (by simp)) (by simp)
  | x :: a, [], _, _, h => absurd ((h x).1 (by simp)) (by simp)
  | x :: a, y :: b, ha, hb, h => by
    obtain ⟨ha1, ha2⟩ := List.pairwise_cons.1 ha
    obtain ⟨hb1, hb2⟩ := List.pairwise_cons.1 hb
    have hxy : x = y := by
      rcases List.mem_cons.1 ((h x).1 (by simp)) with q | q
      · exact q
      · rcases List.mem_cons.1 ((h y).2 (by simp)) with r | r
        · exact r.symm
        · exact absurd (tr (ha1 y r) (hb1 x q)) (irr x)
    subst hxy
    have : a = b := rise_ext R irr tr ha2 hb2 (fun z => by
      have hz := h z
      constructor
      · intro q
        rcases List.mem_cons.1 (hz.1 (List.mem_cons_of_mem _ q)) with r | r
        · subst r; exact absurd (ha1 z q) (irr z)
        · exact r
      · intro q
        rcases List.mem_cons.1 (hz.2 (List.mem_cons_of_mem _ q)) with r | r
        · subst r; exact absurd (hb1 z q) (irr z)
        · exact r)
    rw [this]
abbrev RiseE (l : List En) : Prop := l.Pairwise (fun a b => lt a.f0 b.f0 = true)
theorem riseE_ext {a b : List En} (ha : RiseE a) (hb : RiseE b) (h : ∀ x, x ∈ a ↔ x ∈ b) : a = b :=
  rise_ext (fun a b : En => lt a.f0 b.f0 = true) (fun a h => by rw [lt_irrefl] at h; cases h) (fun h k => lt_trans h k) ha hb h
theorem entryOf_eq (l : List Ms) (e : List En) (f t s : ByteArray) : entryOf l e f t s = if (rr f t && holds f t s) = true then (valO l e s).map (fun v => (⟨s, v⟩ : En)) else none := by
  unfold entryOf
  simp only
  rw [valueV_ofO]
  cases valO l e s <;> cases rr f t <;> cases holds f t s <;> simp [ofO]
theorem mem_entries (l : List Ms) (e : List En) (f t : ByteArray) (x : En) : x ∈ entriesV l e f t ↔ rr f t = true ∧ holds f t x.f0 = true ∧ valO l e x.f0 = some x.f1 := by
  unfold entriesV
  rw [List.mem_filterMap]
  constructor
  · rintro ⟨s, hs, h⟩
    rw [entryOf_eq] at h
    split at h
    · rename_i q
      simp only [Bool.and_eq_true] at q
      cases hv : valO l e s with
      | none => rw [hv] at h; cases h
      | some v =>
        rw [hv] at h
        simp only [Option.map_some, Option.some.injEq] at h
        subst h
        exact ⟨q.1, q.2, hv⟩
    · cases h
  · rintro ⟨h1, h2, h3⟩
    refine ⟨x.f0, named_of_val h3, ?_⟩
    rw [entryOf_eq, h1, h2, h3]
    rfl
theorem filterMap_rise {α : Type} (g : ByteArray → Option En) (hg : ∀ s x, g s = some x → x.f0 = s) : ∀ K : List ByteArray, RiseK K → RiseE (K.filterMap g)
  | [], _ => by simp
  | s :: K, h => by
    obtain ⟨h1, h2⟩ := List.pairwise_cons.1 h
    rw [List.filterMap_cons]
    split
    · exact filterMap_rise (α := α) g hg K h2
    · rename_i x hx
      refine List.pairwise_cons.2 ⟨fun y hy => ?_, filterMap_rise (α := α) g hg K h2⟩
      obtain ⟨s', hs', hy'⟩ := List.mem_filterMap.1 hy
      rw [hg s x hx, hg s' y hy']
      exact h1 s' hs'
theorem rise_entries (l : List Ms) (e : List En) (f t : ByteArray) : RiseE (entriesV l e f t) := by
  refine filterMap_rise (α := Unit) _ (fun s x h => ?_) _ (rise_named l e)
  rw [entryOf_eq] at h
  split at h
  · cases hv : valO l e s with
    | none => rw [hv] at h; cases h
    | some v => rw [hv] at h; simp only [Option.map_some, Option.some.injEq] at h; subst h; rfl
  · cases h
theorem find_rise {e : List En} (h : RiseE e) (s : ByteArray) (o : Option ByteArray) (ho : ∀ v, (⟨s, v⟩ : En) ∈ e ↔ o = some v) : findV e s = ofO o := by
  induction e with
  | nil =>
    cases o with
    | none => rfl
    | some v => have := (ho v).2 rfl; cases this
  | cons x e ih =>
    obtain ⟨h1, h2⟩ := List.pairwise_cons.1 h
    unfold findV
    by_cases hs : same x.f0 s = true
    · rw [if_pos hs]
      have hx := same_iff.1 hs
      have : o = some x.f1 := (ho x.f1).1 (by subst hx; simp)
      rw [this]; rfl
    · rw [if_neg hs]
      refine ih h2 (fun v => ?_)
      rw [← ho v, List.mem_cons]
      constructor
      · exact .inr
      · rintro (q | q)
        · exact absurd (by subst q; exact same_iff.2 rfl) hs
        · exact q
theorem find_entries (l : List Ms) (e : List En) (f t s : ByteArray) (h1 : rr f t = true) (h2 : holds f t s = true) : findV (entriesV l e f t) s = ofO (valO l e s) :=
  find_rise (rise_entries l e f t) s _ (fun v => by rw [mem_entries]; simp [h1, h2])
theorem rr_all : rr e0 e0 = true := by simp [rr, emp_e0]
theorem lt_e0 (s : ByteArray) : lt s e0 = false := by
  cases q : lt s e0 with
  | false => rfl
  | true => have := lt_emp q; rw [emp_e0] at this; cases this
theorem holds_all (s : ByteArray) : holds e0 e0 s = true := by simp [holds, emp_e0, lt_e0]
theorem val_ext {l l' : List Ms} {e e' : List En} {f t : ByteArray} (h : ∀ s, rr f t = true → holds f t s = true → valO l e s = valO l' e' s) : entriesV l e f t = entriesV l' e' f t :=
  riseE_ext (rise_entries _ _ _ _) (rise_entries _ _ _ _) (fun x => by
    rw [mem_entries, mem_entries]
    constructor
    · rintro ⟨a, b, c⟩; exact ⟨a, b, by rw [← h _ a b]; exact c⟩
    · rintro ⟨a, b, c⟩; exact ⟨a, b, by rw [h _ a b]; exact c⟩)
end Go.Proofs.Ytidaiafmhidooaa.P
end
section
set_option linter.unusedVariables false
set_option linter.unusedSimpArgs false
namespace Go.Proofs.Ytidaiafmhidooaa.Fo
open Go.RowKit Go.Proofs.YtidaiafmhidooaaW.PrintWords Go.Proofs.YtidaiafmhidooaaW.PrintLast Go.Proofs.YtidaiafmhidooaaW.PrintMore Go.Proofs.Ytidaiafmhidooaa.Own Go.Proofs.Ytidaiafmhidooaa.Ord Go.Proofs.Ytidaiafmhidooaa Go.Proofs.Ytidaiafmhidooaa.P
section
variable {V : Type}
theorem rise_uniq {k : ByteArray} {v v' : V} : ∀ {L : List (ByteArray × V)}, Rise OrdSs.lt L → (k, v) ∈ L → (k, v') ∈ L → v = v'
  | [], _, h, _ => by cases h
  | x :: L, hr, h, h' => by
    obtain ⟨h1, h2⟩ := List.pairwise_cons.1 hr
    rcases List.mem_cons.1 h with q | q
    · rcases List.mem_cons.1 h' with r | r
      · exact (Prod.mk.inj (q.trans r.symm)).2
      · have := h1 _ r
        rw [← q, OrdSs.lin.irr] at this; cases this
    · rcases List.mem_cons.1 h' with r | r
      · have := h1 _ q
        rw [← r, OrdSs.lin.irr] at this; cases this
      · exact rise_uniq h2 q r
theorem look_iff {L : List (ByteArray × V)} (h : Rise OrdSs.lt L) (k : ByteArray) (v : V) : lookK OrdSs.lt k L = some v ↔ (k, v) ∈ L := by
  unfold lookK
  have hk : ∀ x : ByteArray × V, (!OrdSs.lt x.1 k && !OrdSs.lt k x.1) = true ↔ x.1 = k := fun x => by
    simp only [Bool.and_eq_true, Bool.not_eq_true']
    constructor
    · rintro ⟨a, b⟩; exact OrdSs.lin.tri a b
    · intro e; rw [e]; exact ⟨OrdSs.lin.irr k, OrdSs.lin.irr k⟩
  cases hf : L.find? (fun x => !OrdSs.lt x.1 k && !OrdSs.lt k x.1) with
  | none =>
    constructor
    · intro q; cases q
    · intro q
      have := List.find?_eq_none.1 hf _ q
      exact absurd ((hk _).2 rfl) this
  | some y =>
    have hy := List.mem_of_find?_eq_some hf
    have hyk := (hk y).1 (by have := List.find?_some hf; exact this)
    obtain ⟨a, b⟩ := y
    simp only at hyk
    subst hyk
    simp only [Option.map_some, Option.some.injEq]
    constructor
    · rintro rfl; exact hy
    · intro q; exact rise_uniq h hy q
theorem look_ext {L : List (ByteArray × V)} (h : Rise OrdSs.lt L) (k : ByteArray) (o : Option V) (ho : ∀ v, (k, v) ∈ L ↔ o = some v) : lookK OrdSs.lt k L = o := by
  apply Option.ext
  intro v
  rw [look_iff h, ho]
theorem mem_ins (k : ByteArray) (v : V) (L : List (ByteArray × V)) (a : ByteArray) (b : V) : (a, b) ∈ ins OrdSs.lt k v L ↔ (a = k ∧ b = v) ∨ (a ≠ k ∧ (a, b) ∈ L) := by
  unfold ins
  rw [List.mem_append, List.mem_cons, List.mem_filter, List.mem_filter]
  simp only [Prod.mk.injEq]
  have tri : a ≠ k ↔ OrdSs.lt a k = true ∨ OrdSs.lt k a = true := by
    constructor
    · intro h
      cases q : OrdSs.lt a k with
      | true => exact .inl rfl
      | false =>
        cases r : OrdSs.lt k a with
        | true => exact .inr rfl
        | false => exact absurd (OrdSs.lin.tri q r) h
    · rintro (h | h) rfl
      · rw [OrdSs.lin.irr] at h; cases h
      · rw [OrdSs.lin.irr] at h; cases h
  rw [tri]
  constructor
  · rintro (⟨h1, h2⟩ | h | ⟨h1, h2⟩)
    · exact .inr ⟨.inl h2, h1⟩
    · exact .inl h
    · exact .inr ⟨.inr h2, h1⟩
  · rintro (h | ⟨h1 | h1, h2⟩)
    · exact .inr (.inl h)
    · exact .inl ⟨h2, h1⟩
    · exact .inr (.inr ⟨h2, h1⟩)
theorem mem_del (k : ByteArray) (L : List (ByteArray × V)) (a : ByteArray) (b : V) : (a, b) ∈ del OrdSs.lt k L ↔ a ≠ k ∧ (a, b) ∈ L := by
  unfold del
  rw [List.mem_filter]
  simp only [Bool.or_eq_true]
  constructor
  · rintro ⟨h1, h2⟩
    refine ⟨?_, h1⟩
    rintro rfl
    rw [OrdSs.lin.irr] at h2
    simp at h2
  · rintro ⟨h1, h2⟩
    refine ⟨h2, ?_⟩
    cases q : OrdSs.lt a k with
    | true => exact .inl rfl
    | false =>
      cases r : OrdSs.lt k a with
      | true => exact .inr rfl
      | false => exact absurd (OrdSs.lin.tri q r) h1
theorem look_ins {L : List (ByteArray × V)} (h : Rise OrdSs.lt L) (k : ByteArray) (v : V) (s : ByteArray) : lookK OrdSs.lt s (ins OrdSs.lt k v L) = if s = k then some v else lookK OrdSs.lt s L := by
  refine look_ext (ins_rise OrdSs.lin k v h) s _ (fun b => ?_)
  rw [mem_ins]
  by_cases hs : s = k
  · rw [if_pos hs]
    simp only [hs, true_and, ne_eq, not_true_eq_false, false_and, or_false, Option.some.injEq]
    exact eq_comm
  · rw [if_neg hs, look_iff h]
    simp [hs]
theorem look_del {L : List (ByteArray × V)} (h : Rise OrdSs.lt L) (k s : ByteArray) : lookK OrdSs.lt s (del OrdSs.lt k L) = if s = k then none else lookK OrdSs.lt s L := by
  refine look_ext (L := del OrdSs.lt k L) (h.filter _) s _ (fun b => ?_)
  rw [mem_del]
  by_cases hs : s = k
  · rw [if_pos hs]; simp [hs]
  · rw [if_neg hs, look_iff h]; simp [hs]
theorem look_filter {L : List (ByteArray × V)} (h : Rise OrdSs.lt L) (p : ByteArray → Bool) (s : ByteArray) : lookK OrdSs.lt s (L.filter (fun x => p x.1)) = if p s = true then lookK OrdSs.lt s L else none := by
  refine look_ext (h.filter _) s _ (fun b => ?_)
  rw [List.mem_filter]
  by_cases hs : p s = true
  · rw [if_pos hs, look_iff h]; simp [hs]
  · rw [if_neg hs]; simp [hs]
end
theorem look_nil (s : ByteArray) : lookK OrdSs.lt s ([] : Row) = none := rfl
theorem look_tabFrom (s : ByteArray) : ∀ (e : List En) (L : Row), Rise OrdSs.lt L → lookK OrdSs.lt s (tabFrom L e) = (lookK OrdSs.lt s L).or (toO (findV e s))
  | [], L, _ => by simp [tabFrom, findV, toO]
  | x :: e, L, h => by
    rw [tabFrom, look_tabFrom s e _ (tab1_rise h x).1]
    have hfv : findV (x :: e) s = if same x.f0 s = true then (x.f1, true) else findV e s := rfl
    unfold tab1
    rw [hfv]
    by_cases hs : same x.f0 s = true
    · have hx := same_iff.1 hs
      rw [if_pos hs]
      cases hq : lookK OrdSs.lt s L with
      | some v =>
        rw [hx, hq]
        simp [hq]
      | none =>
        rw [hx, hq]
        simp only [Option.isSome_none, Bool.false_eq_true, if_false]
        rw [look_ins h, if_pos rfl]
        rfl
    · rw [if_neg hs]
      have hne : s ≠ x.f0 := fun e => hs (by rw [e]; exact same_iff.2 rfl)
      split
      · rfl
      · rw [look_ins h, if_neg hne]
theorem look_tab (e : List En) (s : ByteArray) : lookK OrdSs.lt s (tabV e) = toO (findV e s) := by
  unfold tabV
  rw [look_tabFrom s e [] List.Pairwise.nil]
  simp [look_nil]
theorem getD_ofO (o : Option ByteArray) : o.getD e0 = (ofO o).1 := by cases o <;> rfl
theorem isSome_ofO (o : Option ByteArray) : o.isSome = (ofO o).2 := by cases o <;> rfl
theorem look_msg {L : Row} (h : Rise OrdSs.lt L) (m : Ms) (s : ByteArray) : lookK OrdSs.lt s (msgV m L) = toO (onM m s (ofO (lookK OrdSs.lt s L))) := by
  have still : (touches m.f0 m.f2 m.f3 s = false) → toO (onM m s (ofO (lookK OrdSs.lt s L))) = lookK OrdSs.lt s L := fun ht => by
    unfold onM onV
    rw [ht]
    cases lookK OrdSs.lt s L <;> rfl
  unfold msgV
  by_cases h4 : m.f0 = 4
  · rw [if_pos h4]
    unfold clearV
    rw [look_filter h (fun k => !holds m.f2 m.f3 k)]
    have ht : touches m.f0 m.f2 m.f3 s = holds m.f2 m.f3 s := by unfold touches; rw [h4]; simp [isPt]
    cases hh : holds m.f2 m.f3 s with
    | true =>
      unfold onM onV
      rw [ht, hh, h4]
      simp [applyV, toO]
    | false =>
      rw [hh] at ht
      rw [still ht]; simp
  · rw [if_neg h4]
    have ht : touches m.f0 m.f2 m.f3 s = (isPt m.f0 && same m.f2 s) := by unfold touches; simp [h4]
    by_cases hp : isPt m.f0 = true
    · rw [if_pos hp]
      simp only
      rw [getD_ofO, isSome_ofO]
      by_cases hs : s = m.f2
      · have hs2 : same m.f2 s = true := same_iff.2 hs.symm
        rw [hp, hs2] at ht
        unfold onM onV
        rw [ht, ← hs]
        simp only [Bool.and_self, if_true]
        unfold toO
        split
        · rw [look_ins h, if_pos rfl]
        · rw [look_del h, if_pos rfl]
      · have hs2 : same m.f2 s = false := by cases q : same m.f2 s with | false => rfl | true => exact absurd (same_iff.1 q).symm hs
        rw [hs2, Bool.and_false] at ht
        rw [still ht]
        split
        · rw [look_ins h, if_neg hs]
        · rw [look_del h, if_neg hs]
    · rw [if_neg hp]
      have hp' : isPt m.f0 = false := by simpa using hp
      rw [hp', Bool.false_and] at ht
      rw [still ht]
theorem look_msgs (s : ByteArray) : ∀ (l : List Ms) (L : Row), Rise OrdSs.lt L → lookK OrdSs.lt s (msgsFrom L l) = toO (doAll s l (ofO (lookK OrdSs.lt s L)))
  | [], L, _ => by rw [doAll, toO_ofO]; rfl
  | m :: l, L, h => by
    rw [msgsFrom, look_msgs s l _ (msgV_rise h m).1, look_msg h, doAll, ofO_toO (tidy_on m s _)]
theorem look_fold (l : List Ms) (e : List En) (s : ByteArray) : lookK OrdSs.lt s (foldV l e) = valO l e s := by
  unfold foldV valO
  rw [look_msgs s l _ (tab_rise e).1, look_tab, ofO_toO (tidy_find e s)]
theorem held_eq (l : List Ms) (e : List En) (f t : ByteArray) : (heldV f t (foldV l e)).map toE = entriesV l e f t := by
  have hr := (fold_rise l e).1
  have hR : Rise OrdSs.lt (heldV f t (foldV l e)) := by
    unfold heldV
    split
    · exact hr.filter _
    · exact List.Pairwise.nil
  refine riseE_ext ?_ (rise_entries l e f t) (fun x => ?_)
  · exact List.pairwise_map.2 hR
  · rw [mem_entries, ← look_fold, look_iff hr]
    unfold heldV
    rw [List.mem_map]
    constructor
    · rintro ⟨y, hy, rfl⟩
      split at hy
      · rename_i q
        rw [List.mem_filter] at hy
        exact ⟨q, hy.2, hy.1⟩
      · cases hy
    · rintro ⟨h1, h2, h3⟩
      exact ⟨(x.f0, x.f1), by rw [if_pos h1, List.mem_filter]; exact ⟨h3, h2⟩, rfl⟩
end Go.Proofs.Ytidaiafmhidooaa.Fo
end
section
set_option linter.unusedVariables false
set_option linter.unusedSimpArgs false
namespace Go.Proofs.Ytidaiafmhidooaa.P
open Go.RowKit Go.Proofs.YtidaiafmhidooaaW.PrintWords Go.Proofs.YtidaiafmhidooaaW.PrintLast Go.Proofs.YtidaiafmhidooaaW.PrintMore Go.Proofs.Ytidaiafmhidooaa.Own Go.Proofs.Ytidaiafmhidooaa
theorem take_mn {α : Type} (l : List α) : l.take (mn (l.length : Int) 40).toNat = l.take 40 := by
  unfold mn
  split
  · rfl
  · rename_i h
    rw [List.take_of_length_le (by omega), List.take_of_length_le (by omega)]
theorem mn_le (n : Nat) : 0 ≤ mn (n : Int) 40 ∧ mn (n : Int) 40 ≤ n := by
  unfold mn
  split <;> omega
theorem few_eq (l : List Ms) : catchmentlaw05_few.f l = some (l.take 40) := by
  have := mn_le l.length
  unfold catchmentlaw05_few.f
  rw [if_pos this.1, if_pos this.2, take_mn]
theorem some_eq (l : List En) : catchmentlaw05_some.f l = some (l.take 40) := by
  have := mn_le l.length
  unfold catchmentlaw05_some.f
  rw [if_pos this.1, if_pos this.2, take_mn]
structure Okd (n : Nat) (l : List Ms) (e : List En) : Prop where
  ll : l.length ≤ n
  el : e.length ≤ n
  od : ∀ m ∈ l, okD m
  os : ∀ m ∈ l, m.f2.size ≤ 140737488351232
theorem wfM {l : List Ms} (h : ∀ a ∈ l, wf33 a) : (∀ m ∈ l, okD m) ∧ (∀ m ∈ l, m.f2.size ≤ 140737488351232) := by
  refine ⟨fun m hm => ?_, fun m hm => (h m hm).2.2.1⟩
  have h1 := (h m hm).2.2.2.2.2
  simp [Lit.wf, IntKind.min, IntKind.max, IntKind.signed, IntKind.bits] at h1
  unfold okD
  omega
theorem okd_take {l : List Ms} {e : List En} (h : ∀ a ∈ l, wf33 a) : Okd 40 (l.take 40) (e.take 40) := by
  have := wfM h
  exact ⟨by simp; omega, by simp; omega, fun m hm => this.1 m (List.mem_of_mem_take hm), fun m hm => this.2 m (List.mem_of_mem_take hm)⟩
theorem entriesF_eq {l : List Ms} {e : List En} (h : Okd 100000 l e) (f t : ByteArray) : Fo.entriesF l e f t = some (entriesV l e f t) := by
  unfold Fo.entriesF
  rw [if_pos (Fo.okF_iff.2 ⟨h.ll, h.el, h.os⟩)]
  exact congrArg some (Fo.held_eq l e f t)
theorem Okd.mono {n m : Nat} {l : List Ms} {e : List En} (h : Okd n l e) (k : n ≤ m) : Okd m l e := ⟨Nat.le_trans h.ll k, Nat.le_trans h.el k, h.od, h.os⟩
theorem live_eq : catchmentlaw05_live.f = some true := by kernel_rfl
theorem same_self (k : Nat) (a : List En) (ha : a.length ≤ 1000000) (hk : a.length < k) : catchmentref05_Same.f k a a = some true := by
  rw [Same_eq k a a ha hk, sameE_iff.2 rfl]
theorem val_parts (n : Nat) (l : List Ms) (e : List En) (s : ByteArray) : valO (l.drop n) (entriesV (l.take n) e e0 e0) s = valO l e s := by
  unfold valO
  rw [find_entries _ _ _ _ _ rr_all (holds_all s)]
  unfold valO
  rw [ofO_toO (tidy_doAll s _ _ (tidy_find e s)), ← doAll_append, List.take_append_drop]
end Go.Proofs.Ytidaiafmhidooaa.P
end
section
set_option linter.unusedVariables false
set_option linter.unusedSimpArgs false
namespace Go.Proofs.Ytidaiafmhidooaa.Pure
open Go.RowKit Go.Proofs.Ytidaiafmhidooaa.P Go.Proofs.YtidaiafmhidooaaW.PrintWords Go.Proofs.YtidaiafmhidooaaW.PrintLast Go.Proofs.YtidaiafmhidooaaW.PrintMore Go.Proofs.Ytidaiafmhidooaa.Own Go.Proofs.Ytidaiafmhidooaa
theorem FoldParts : ∀ (x0 : (List S33)) (x1 : Int) (x2 : (List S55)) (x3 : S38), (x0.length * 72 ≤ 140737488351232 ∧ ∀ a_ ∈ x0, wf33 a_) → ((Lit.int .u8 x1).wf = true) → (x2.length * 32 ≤ 140737488351232 ∧ ∀ a_ ∈ x2, wf55 a_) → (wf38 x3) → ∃ k, catchmentlaw05_FoldParts.f k x0 x1 x2 x3.f0 x3.f1 = some true := by
  intro x0 x1 x2 x3 w0 w1 w2 w3
  refine ⟨1000, ?_⟩
  have hu : 0 ≤ x1 ∧ x1 ≤ 255 := by
    simp [Lit.wf, IntKind.min, IntKind.max, IntKind.signed, IntKind.bits] at w1
    omega
  have hO : Okd 40 (x0.take 40) (x2.take 40) := okd_take w0.2
  unfold catchmentlaw05_FoldParts.f
  rw [few_eq, Option.bind_some, some_eq, Option.bind_some]
  generalize x0.take 40 = l at hO ⊢
  generalize x2.take 40 = e at hO ⊢
  have hl := hO.ll
  have he := hO.el
  rw [IntWalk.wrap64_in ((l.length : Int) + 1) (by omega), IntWalk.wrap64_in x1 (by omega)]
  rw [if_neg (by omega), live_eq, Option.bind_some, if_pos rfl]
  have ht : Int.tmod x1 ((l.length : Int) + 1) = x1 % ((l.length : Int) + 1) := Int.tmod_eq_emod_of_nonneg hu.1
  rw [ht]
  have h1 := Int.emod_nonneg x1 (show ((l.length : Int) + 1) ≠ 0 by omega)
  have h2 := Int.emod_lt_of_pos x1 (show 0 < ((l.length : Int) + 1) by omega)
  generalize x1 % ((l.length : Int) + 1) = q at h1 h2 ⊢
  obtain ⟨n, rfl⟩ := Int.eq_ofNat_of_zero_le h1
  rw [if_pos (by omega), if_pos (by omega)]
  simp only [Int.toNat_natCast]
  have hA : Okd 100000 (l.take n) e := ⟨by simp; omega, by omega, fun m hm => hO.od m (List.mem_of_mem_take hm), fun m hm => hO.os m (List.mem_of_mem_take hm)⟩
  have hel := entriesV_length (l.take n) e e0 e0
  have hB : Okd 100000 (l.drop n) (entriesV (l.take n) e e0 e0) := ⟨by simp; omega, by simp at hel; omega, fun m hm => hO.od m (List.mem_of_mem_drop hm), fun m hm => hO.os m (List.mem_of_mem_drop hm)⟩
  unfold fold_Entries.f
  rw [entriesF_eq hA, Option.bind_some, entriesF_eq hB, Option.bind_some, entriesF_eq (hO.mono (by omega)), Option.bind_some, val_ext (l' := l) (e' := e) (fun s _ _ => val_parts n l e s)]
  have := entriesV_length l e x3.f0 x3.f1
  rw [same_self _ _ (by omega) (by omega)]
  rfl
end Go.Proofs.Ytidaiafmhidooaa.Pure
end
section
namespace Go.Proofs.Ytidaiafmhidooaa.foldParts
open Go.ChangeShapes Go.WideShapes Go.ChangeAt Go.RowKit Go.Proofs.Ytidaiafmhidooaa.P Go.Proofs.Ytidaiafmhidooaa.Rd Go.Proofs.YtidaiafmhidooaaW.PrintWords
open Go.ChangeMaps (open_string shut_string)
set_option linter.unusedVariables false
theorem own : ownKnob Try.prog.godebug = none := by kernel_rfl
theorem laidOut : laidOutB Try.prog = true := by kernel_rfl
set_option maxHeartbeats 2000000 in
set_option maxRecDepth 100000 in
theorem lifted (os : Os) (started : os.Started) (H : Type) (enc : TypeId × Value → H) :
    ReturnsInHanded {} Try.checked os 6 .any (Rows.foldPartsSpec.pre6 enc Try.prog Try.f6 Rows.foldPartsRow.domain false) (Rows.foldPartsSpec.post enc Try.prog Try.f6 false true false false) := by
  refine returnsInHanded_of_change_sized (C := Try.checked) own started (by kernel_rfl) Try.func6
    (ChangeSpec.witness6 (enc := enc) (C := Try.checked) false ⟨#[], #[.slice none 0 0, .int .u8 0, .slice none 0 0, .agg #[.string ByteArray.empty, .string ByteArray.empty]], []⟩ 8 (by kernel_rfl) (by kernel_rfl) (by kernel_rfl) (by kernel_rfl)) ?_
  intro W base args ds gs before hval0 hW hcnd hsz0 _
  have hsz : (DataW.weightsEach Try.prog (Try.f6.params.toList ++ Rows.foldPartsSpec.plain.varTypes Try.prog) (ds ++ gs)).all (· ≤ reachBytes) = true := hsz0
  have hval : ∀ (j : Nat) t v, Try.f6.params[j]? = some t → args[j]? = some v → Value.okWide Try.prog W .any base t v := hval0
  have hW' := hW
  obtain ⟨p, q, hA0, hV, rfl, hfz, hnd⟩ := hW
  have hA : DataW.TrodAll enc Try.prog W 0 (fun _ => true) true Try.f6.params.toList args.toList ds p := hA0
  rw [Try.params6] at hA hval hsz
  obtain ⟨v0, vs0, d0, ds0, p0, q0, hargs, rfl, rfl, h0, r0⟩ := trodAll_cons hA
  obtain ⟨v1, vs1, d1, ds1, p1, q1, rfl, rfl, rfl, h1, r1⟩ := trodAll_cons r0
  obtain ⟨v2, vs2, d2, ds2, p2, q2, rfl, rfl, rfl, h2, r2⟩ := trodAll_cons r1
  obtain ⟨v3, vs3, d3, ds3, p3, q3, rfl, rfl, rfl, h3, r3⟩ := trodAll_cons r2
  obtain ⟨rfl, rfl, rfl⟩ := trodAll_nil r3
  obtain rfl : args = #[v0, v1, v2, v3] := by cases args; simp_all
  obtain ⟨rfl, rfl⟩ := trodVars_none hV
  have k0 := h0
  have lt0 : ∀ x ∈ p0, x.block < W.heap.size := by obtain ⟨m, hm⟩ := k0; exact DataW.trod_lt m _ _ _ hm
  have ww0 : ∀ n ∈ d0.weights Try.prog 22, n ≤ reachBytes := fun n hn => by simpa using List.all_eq_true.1 hsz n (DataW.weights_mem_each (j := 0) rfl rfl n hn)
  obtain ⟨ad0, len0, cap0, rfl⟩ := okWide_slice Try.underlying22 (hval 0 22 v0 rfl rfl)
  obtain ⟨fu0, hf0⟩ := h0
  obtain ⟨x0, kx0, w0⟩ := o22.down hf0 ww0
  obtain ⟨A0, c0, e0, hc0, hr0⟩ := kx0
  obtain ⟨rfl, rfl, rfl⟩ : ad0 = A0 ∧ len0 = x0.length ∧ cap0 = c0 := by simpa [Value.cells] using e0
  have k1 := h1
  have lt1 : ∀ x ∈ p1, x.block < W.heap.size := by obtain ⟨m, hm⟩ := k1; exact DataW.trod_lt m _ _ _ hm
  have ww1 : ∀ n ∈ d1.weights Try.prog 5, n ≤ reachBytes := fun n hn => by simpa using List.all_eq_true.1 hsz n (DataW.weights_mem_each (j := 1) rfl rfl n hn)
  obtain ⟨y1, rfl⟩ := okWide_int Try.underlying5 (hval 1 5 v1 rfl rfl)
  obtain ⟨fu1, hf1⟩ := h1
  obtain ⟨x1, kx1, w1⟩ := o5.down hf1 ww1
  obtain rfl : x1 = y1 := Eq.symm (by simpa [Value.cells, Kd.int, Kd.scalar] using kx1)
  have k2 := h2
  have lt2 : ∀ x ∈ p2, x.block < W.heap.size := by obtain ⟨m, hm⟩ := k2; exact DataW.trod_lt m _ _ _ hm
  have ww2 : ∀ n ∈ d2.weights Try.prog 36, n ≤ reachBytes := fun n hn => by simpa using List.all_eq_true.1 hsz n (DataW.weights_mem_each (j := 2) rfl rfl n hn)
  obtain ⟨ad2, len2, cap2, rfl⟩ := okWide_slice Try.underlying36 (hval 2 36 v2 rfl rfl)
  obtain ⟨fu2, hf2⟩ := h2
  obtain ⟨x2, kx2, w2⟩ := o36.down hf2 ww2
  obtain ⟨A2, c2, e2, hc2, hr2⟩ := kx2
  obtain ⟨rfl, rfl, rfl⟩ : ad2 = A2 ∧ len2 = x2.length ∧ cap2 = c2 := by simpa [Value.cells] using e2
  have k3 := h3
  have lt3 : ∀ x ∈ p3, x.block < W.heap.size := by obtain ⟨m, hm⟩ := k3; exact DataW.trod_lt m _ _ _ hm
  have ww3 : ∀ n ∈ d3.weights Try.prog 38, n ≤ reachBytes := fun n hn => by simpa using List.all_eq_true.1 hsz n (DataW.weights_mem_each (j := 3) rfl rfl n hn)
  obtain ⟨cs3, rfl, _⟩ := okWide_struct Try.underlying38 (hval 3 38 v3 rfl rfl)
  obtain ⟨fu3, hf3⟩ := h3
  obtain ⟨x3, kx3, w3⟩ := o38.down hf3 ww3
  have e3 := k38_open kx3
  obtain rfl : cs3 = #[.string x3.f0, .string x3.f1] := Array.toList_inj.1 (show cs3.toList = (#[.string x3.f0, .string x3.f1] : Array Value).toList from e3)
  clear hA0 hval0 hsz0 hsz
  obtain ⟨k_, hp⟩ := Pure.FoldParts x0 x1 x2 x3 w0 w1 w2 w3
  refine (catchmentlaw05_FoldParts.calls (k := k_) (r := true) (w := W) (hr0 := hr0) (hc0 := hc0) (hr2 := hr2) (hc2 := hc2) (h := hp)).mono fun e W' ⟨he, bel0⟩ => ?_
  have bel : Below W.heap.size W W' := bel0
  subst he
  exact ⟨_, rfl, _, _, _, [], _, [], hW', trodAll_mk1 (shut_bool Try.underlying4 _), (trodAll_cons_mk (Below.trod laidOut (by kernel_rfl) (of_decide_eq_true (by kernel_rfl)) k0 bel lt0) (trodAll_cons_mk (Below.trod laidOut (by kernel_rfl) (of_decide_eq_true (by kernel_rfl)) k1 bel lt1) (trodAll_cons_mk (Below.trod laidOut (by kernel_rfl) (of_decide_eq_true (by kernel_rfl)) k2 bel lt2) (trodAll_cons_mk (Below.trod laidOut (by kernel_rfl) (of_decide_eq_true (by kernel_rfl)) k3 bel lt3) trodAll_mk0)))), rfl, bel.frame _, fun h => by cases h⟩
theorem over : Rows.foldPartsRow.holds Try.pinned (OpenSpec.ofChange Rows.foldPartsSpec) :=
  OpenClaim.holds_of_wide 6 Try.f6 rfl rfl rfl rfl rfl rfl rfl ⟨rfl, rfl, rfl, rfl, rfl⟩ rfl rfl rfl rfl rfl (by kernel_rfl) Try.func6 (by kernel_rfl)
    (of_decide_eq_true (by kernel_rfl)) (by unfold Func.isWrapper; first | (rw [if_pos (by decide +kernel)]; kernel_rfl) | (rw [if_neg (by decide +kernel)]; exact ⟨rfl, rfl⟩))
    (fun os started H enc _ => lifted os started H enc)
end Go.Proofs.Ytidaiafmhidooaa.foldParts
namespace Go.Proofs.Ytidaiafmhidooaa
theorem foldParts_holds : Rows.FoldPartsSaid := foldParts.over
#print axioms foldParts_holds
end Go.Proofs.Ytidaiafmhidooaa
end
