/- THE ROW of ModelSame: for every input the call returns true, and each argument reads afterwards as it read before: no condition beyond the row's own. Out of the walk (its contract over the Lean function of the same text) and the plain law (module YtljnlnbopohghaaPureModelSame). (Laid by rowgen.py.) -/
/- Texts of one claim (laid by shake.py). -/
import Derived.Test.YtljnlnbopohghaaZs0
import Derived.Deep.Slices
import Derived.ChangeArms
import Derived.SizedLaws
import Derived.OpenShut
import Derived.Test.YtljnlnbopohghaaZs3
import Derived.Test.YtljnlnbopohghaaZs18
import Derived.Test.YtljnlnbopohghaaZs5
import Derived.Test.YtljnlnbopohghaaZs4
import Derived.Test.YtljnlnbopohghaaZs30
import Derived.Test.YtljnlnbopohghaaRows
import Derived.WalkKit
import Derived.ProofKit
import Derived.ShutString
import Derived.ChangeOld
import Derived.Below
set_option linter.unusedVariables false
set_option linter.unusedSimpArgs false
section
namespace Go.Proofs.Ytljnlnbopohghaa.Rd
open Go.RowKit Go.ChangeShapes Go.WideShapes Go.Deep Go.Proofs.YtljnlnbopohghaaW.PrintWords
structure Opens {α : Type} (P : Program) (t : TypeId) (d : Kd α) (wf : α → Prop) : Prop where
 cells : P.cellsOf t = d.sz
 down : ∀ {H : Type} {enc : TypeId × Value → H} {w : World} {base : Nat} {spare : Nat → Bool} {held : Bool} {fuel : Nat} {cs : List Value} {x : DataW H × List MemPlace},
  DataW.trod enc P w base spare held fuel t cs = some x → (∀ n ∈ x.1.weights P t, n ≤ reachBytes) → ∃ a, d.K w a cs ∧ wf a
theorem mem_weightsAll {H : Type} {P : Program} {e : TypeId} {d : DataW H} : ∀ {l : List (DataW H)}, d ∈ l → ∀ n ∈ d.weights P e, n ∈ DataW.weightsAll P e l
 | x :: l, hd, n, hn => by
  simp only [DataW.weightsAll, List.mem_append]
  rcases List.mem_cons.1 hd with rfl | hd
  ·exact .inl hn
  ·exact .inr (mem_weightsAll hd n hn)
theorem Opens.int {P : Program} {t : TypeId} {k : IntKind} (ht : P.underlying t = some (.int k)) (hc : P.cellsOf t = 1) : Opens P t (Kd.int k) (fun n => (Lit.int k n).wf = true) where
 cells := hc
 down := by
  intro H enc w base spare held fuel cs x h _
  obtain ⟨n, rfl, _, hw⟩ := DataW.trod_int ht h
  exact ⟨n, rfl, hw⟩
theorem Opens.bool {P : Program} {t : TypeId} (ht : P.underlying t = some .bool) (hc : P.cellsOf t = 1) : Opens P t Kd.bool (fun _ => True) where
 cells := hc
 down := by
  intro H enc w base spare held fuel cs x h _
  obtain ⟨b, rfl, _⟩ := DataW.trod_bool ht h
  exact ⟨b, rfl, trivial⟩
theorem Opens.string {P : Program} {t : TypeId} (ht : P.underlying t = some .string) (hc : P.cellsOf t = 1) : Opens P t Kd.string (fun s => s.size ≤ 140737488351232) where
 cells := hc
 down := by
  intro H enc w base spare held fuel cs x h hw
  obtain ⟨s, rfl, rfl, _⟩ := DataW.trod_string ht h
  refine ⟨s, rfl, ?_⟩
  have := hw s.data.toList.length (by simp [DataW.weights])
  have e : s.data.toList.length = s.size := by simp
  rw [e] at this
  exact this
theorem Opens.slice {α : Type} {P : Program} {t e : TypeId} {d : Kd α} {wf : α → Prop} (ht : P.underlying t = some (.slice e)) (hc : P.cellsOf t = 1) {B : Nat} (hB : P.bytesOf e = B) (he : Opens P e d wf) :
  Opens P t (Kd.slice e d) (fun l => l.length * B ≤ 140737488351232 ∧ ∀ a ∈ l, wf a) where
 cells := hc
 down := by
  intro H enc w base spare held fuel cs x h hw
  rcases open_slice ht h with ⟨rfl, _⟩ | ⟨a, len, cap, m, n, D, Pl, rfl, hb, hl, hm, hmm, rfl, hx⟩
  ·exact ⟨[], ⟨none, 0, rfl, Nat.le_refl _, rfl, by simp, fun h0 => absurd h0 (by simp)⟩, by simp, fun a ha => by simp at ha⟩
  ·have hlm : len ≤ m := by rw [hmm]; split <;> omega
   have hel : ∀ i : Fin len, ∃ y : α, ∃ c : List Value, w.cells? base (a.add (i.1 * P.cellsOf e)) (P.cellsOf e) = some c ∧ d.K w y c ∧ wf y := by
    intro i
    obtain ⟨c, h1, h2⟩ := hx i.1 (by omega)
    obtain ⟨y, hy, hwf⟩ := he.down h2 (fun n hn => hw n (by
     simp only [DataW.weights, ht, List.mem_cons, List.mem_append]
     exact .inr (.inl (mem_weightsAll (List.mem_map.2 ⟨i.1, List.mem_range.2 i.2, rfl⟩) n hn))))
    exact ⟨y, c, h1, hy, hwf⟩
   obtain ⟨f, hf⟩ := Classical.axiomOfChoice hel
   have hlen : (List.ofFn f).length = len := by simp
   have hmax : len ≤ 9223372036854775807 := by simp only [maxLen] at hm; omega
   refine ⟨List.ofFn f, ⟨some a, cap, ?_, ?_, ?_, ?_, ?_⟩, ?_, ?_⟩
   ·rw [hlen]
   ·rw [hlen]; exact hl
   ·rfl
   ·rw [hlen]; exact hmax
   ·intro _
    refine ⟨a, rfl, fun j p hj => ?_⟩
    obtain ⟨hjl, rfl⟩ := List.getElem?_eq_some_iff.1 hj
    rw [hlen] at hjl
    obtain ⟨c, h1, hy, _⟩ := hf ⟨j, hjl⟩
    obtain ⟨_, hcl, hcell⟩ := World.cells?_some h1
    refine ⟨c, by rw [hcl, he.cells], by simpa using hy, fun i u hu => ?_⟩
    have hi : i < P.cellsOf e := by
     have := (List.getElem?_eq_some_iff.1 hu).1
     omega
    have := hcell i hi
    rw [Go.Deep.add_add] at this
    rw [← he.cells, this, hu]
   ·rw [hlen]
    have hz := hw (((List.range len).map D).length + ((List.range (m - len)).map fun j => D (len + j)).length |>.mul (P.bytesOf e)) (by
     simp only [DataW.weights, ht, List.mem_cons]
     exact .inl rfl)
    rw [hB] at hz
    simp only [List.length_map, List.length_range] at hz
    have h2 : len * B ≤ (len + (m - len)) * B := Nat.mul_le_mul_right _ (by omega)
    exact Nat.le_trans h2 hz
   ·intro y hy
    obtain ⟨i, rfl⟩ := List.mem_ofFn.1 hy
    obtain ⟨_, _, _, hwf⟩ := hf i
    exact hwf
theorem Opens.iso {α β : Type} {P : Program} {t : TypeId} {d : Kd α} {wf : α → Prop} {f : β → α} (g : α → β) (hg : ∀ a, f (g a) = a) (h : Opens P t d wf) : Opens P t (Kd.iso d f) (fun b => wf (f b)) where
 cells := h.cells
 down := by
  intro H enc w base spare held fuel cs x hx hw
  obtain ⟨a, hk, hwf⟩ := h.down hx hw
  refine ⟨g a, ?_, ?_⟩
  ·show d.K w (f (g a)) cs
   rw [hg]; exact hk
  ·show wf (f (g a))
   rw [hg]; exact hwf
structure OpensFs {α : Type} (P : Program) (fs : List Field) (off : Nat) (d : Kd α) (wf : α → Prop) : Prop where
 down : ∀ {H : Type} {enc : TypeId × Value → H} {w : World} {base : Nat} {spare : Nat → Bool} {held : Bool} {fuel : Nat} {cs : List Value} {xs : List (DataW H × List MemPlace)},
  cs.length = d.sz → xs.length = fs.length → (∀ (i : Nat) (f : Field), fs[i]? = some f → DataW.trod enc P w base spare held fuel f.type ((cs.drop (f.offset - off)).take (P.cellsOf f.type)) = xs[i]?) →
  (∀ n ∈ DataW.weightsEach P (fs.map (·.type)) (xs.map (·.1)), n ≤ reachBytes) → ∃ a, d.K w a cs ∧ wf a
 offs : ∀ f ∈ fs, off ≤ f.offset
theorem OpensFs.one {α : Type} {P : Program} {f : Field} {off : Nat} {d : Kd α} {wf : α → Prop} (ho : f.offset = off) (h : Opens P f.type d wf) : OpensFs P [f] off d wf where
 offs := by simp [ho]
 down := by
  intro H enc w base spare held fuel cs xs hl hxs hx hw
  have h0 := hx 0 f rfl
  obtain ⟨x, rfl⟩ : ∃ x, xs = [x] := by
   match xs, hxs with
   | [x], _ => exact ⟨x, rfl⟩
  rw [ho, Nat.sub_self, List.drop_zero, h.cells, ← hl, List.take_length] at h0
  exact h.down h0 (fun n hn => hw n (by simp [DataW.weightsEach, hn]))
theorem OpensFs.cons {α β : Type} {P : Program} {f : Field} {fs : List Field} {off off2 : Nat} {d : Kd α} {d2 : Kd β} {wf : α → Prop} {wf2 : β → Prop} (ho : f.offset = off) (h : Opens P f.type d wf) (ho2 : off2 = off + d.sz)
  (h2 : OpensFs P fs off2 d2 wf2) : OpensFs P (f :: fs) off (Kd.pair d d2) (fun p => wf p.1 ∧ wf2 p.2) where
 offs := by
  intro g hg
  rcases List.mem_cons.1 hg with rfl | hg
  ·omega
  ·have := h2.offs g hg; omega
 down := by
  intro H enc w base spare held fuel cs xs hl hxs hx hw
  obtain ⟨x, ys, rfl⟩ : ∃ x ys, xs = x :: ys := by
   match xs, hxs with
   | x :: ys, _ => exact ⟨x, ys, rfl⟩
  have hl' : cs.length = d.sz + d2.sz := hl
  have h0 := hx 0 f rfl
  rw [ho, Nat.sub_self, List.drop_zero, h.cells] at h0
  obtain ⟨a, ha, hwa⟩ := h.down h0 (fun n hn => hw n (by simp [DataW.weightsEach, hn]))
  obtain ⟨b, hb, hwb⟩ := h2.down (cs := cs.drop d.sz) (xs := ys) (by rw [List.length_drop, hl']; omega) (by simpa using hxs) (fun i g hg => by
   have h1 := hx (i + 1) g (by simpa using hg)
   have hgo := h2.offs g (List.mem_of_getElem? hg)
   rw [List.drop_drop]
   have e : d.sz + (g.offset - off2) = g.offset - off := by omega
   rw [e]
   simpa using h1) (fun n hn => hw n (by simp [DataW.weightsEach, hn]))
  exact ⟨(a, b), ⟨cs.take d.sz, cs.drop d.sz, (List.take_append_drop _ _).symm, ha, hb⟩, hwa, hwb⟩
theorem Opens.struct {α : Type} {P : Program} {t : TypeId} {fs : Array Field} {d : Kd α} {wf : α → Prop} (ht : P.underlying t = some (.struct fs)) (hc : P.cellsOf t = d.sz) (h : OpensFs P fs.toList 0 d wf) : Opens P t d wf where
 cells := hc
 down := by
  intro H enc w base spare held fuel cs x hx hw
  obtain ⟨xs, n, rfl, rfl, hl, hxs, hf⟩ := DataW.trod_struct ht hx
  refine h.down (enc := enc) (w := w) (base := base) (spare := spare) (held := held) (fuel := n) (cs := cs) (xs := xs) (by rw [hl, hc]) (by simpa using hxs) (fun i f hi => ?_) (fun n hn => hw n (by simpa [DataW.weights, ht] using hn))
  rw [Nat.sub_zero]
  exact hf i f (by simpa using hi)
end Go.Proofs.Ytljnlnbopohghaa.Rd
end
section
namespace Go.Proofs.Ytljnlnbopohghaa.P
open Go.RowKit Go.Proofs.Ytljnlnbopohghaa.Rd Go.Proofs.YtljnlnbopohghaaW.PrintWords
structure S59 where
 f0 : Int
 f1 : Bool
 f2 : ByteArray
 f3 : (List S103)
 f4 : Int
 f5 : Bool
def k59 : Kd S59 := Kd.iso (Kd.pair (Kd.int .i64) (Kd.pair Kd.bool (Kd.pair Kd.string (Kd.pair (Kd.slice 103 k103) (Kd.pair (Kd.int .i64) Kd.bool))))) (fun x : S59 => (x.f0, x.f1, x.f2, x.f3, x.f4, x.f5))
theorem k59_open {w : World} {x : S59} {cs : List Value} (h : k59.K w x cs) : ∃ A3 c3, cs = [.int .i64 x.f0, .bool x.f1, .string x.f2, .slice A3 x.f3.length c3, .int .i64 x.f4, .bool x.f5] ∧ x.f3.length ≤ c3 ∧ k103.C w A3 x.f3.length x.f3 := by
 obtain ⟨_, _, rfl, rfl, ⟨_, _, rfl, rfl, ⟨_, _, rfl, rfl, ⟨_, _, rfl, ⟨A3, c3, rfl, l3, g3⟩, ⟨_, _, rfl, rfl, rfl⟩⟩⟩⟩⟩ := h
 exact ⟨A3, c3, rfl, l3, g3⟩
theorem o36 : Opens Try.prog 36 (Kd.int .i64) (fun n => (Lit.int .i64 n).wf = true) := Opens.int Try.underlying36 (by kernel_rfl)
theorem o4 : Opens Try.prog 4 Kd.bool (fun _ => True) := Opens.bool Try.underlying4 (by kernel_rfl)
theorem o9 : Opens Try.prog 9 Kd.string (fun x_ => x_.size ≤ 140737488351232) := Opens.string Try.underlying9 (by kernel_rfl)
def wf103 (x : S103) : Prop := (x.f0.size ≤ 140737488351232) ∧ (x.f1.size ≤ 140737488351232)
theorem o103 : Opens Try.prog 103 k103 wf103 := Opens.iso (g := fun p_ => (⟨p_.1, p_.2⟩ : S103)) (fun _ => rfl) (Opens.struct Try.underlying103 (by kernel_rfl) (OpensFs.cons rfl o9 rfl (OpensFs.one rfl o9)))
theorem o30 : Opens Try.prog 30 (Kd.slice 103 k103) (fun x_ => x_.length * 32 ≤ 140737488351232 ∧ ∀ a_ ∈ x_, wf103 a_) := Opens.slice Try.underlying30 (by kernel_rfl) (by kernel_rfl) o103
theorem o3 : Opens Try.prog 3 (Kd.int .i64) (fun n => (Lit.int .i64 n).wf = true) := Opens.int Try.underlying3 (by kernel_rfl)
def wf59 (x : S59) : Prop := ((Lit.int .i64 x.f0).wf = true) ∧ (True) ∧ (x.f2.size ≤ 140737488351232) ∧ (x.f3.length * 32 ≤ 140737488351232 ∧ ∀ a_ ∈ x.f3, wf103 a_) ∧ ((Lit.int .i64 x.f4).wf = true) ∧ (True)
theorem o59 : Opens Try.prog 59 k59 wf59 := Opens.iso (g := fun p_ => (⟨p_.1, p_.2.1, p_.2.2.1, p_.2.2.2.1, p_.2.2.2.2.1, p_.2.2.2.2.2⟩ : S59)) (fun _ => rfl) (Opens.struct Try.underlying59 (by kernel_rfl) (OpensFs.cons rfl o36 rfl (OpensFs.cons rfl o4 rfl (OpensFs.cons rfl o9 rfl (OpensFs.cons rfl o30 rfl (OpensFs.cons rfl o3 rfl (OpensFs.one rfl o4)))))))
end Go.Proofs.Ytljnlnbopohghaa.P
end
section
namespace Go.Proofs.Ytljnlnbopohghaa.P
open Go.RowKit Go.Proofs.YtljnlnbopohghaaW.PrintWords Go.Proofs.YtljnlnbopohghaaW.PrintLast Go.Proofs.YtljnlnbopohghaaW.PrintMore Go.Proofs.Ytljnlnbopohghaa.Own Go.Proofs.Ytljnlnbopohghaa
theorem Equal_loop (A B : List En) (hA : A.length ≤ 1000000) (hab : A.length = B.length) : ∀ (a b : List En) (k i : Nat), A.drop i = a → B.drop i = b → i ≤ A.length → a.length < k → api_Entry_66.l0 k A B (A.length : Int) i = some (sameE a b) := by
 intro a
 induction a with
 | nil =>
  intro b k i hd he hi hk
  obtain ⟨k, rfl⟩ : ∃ m, k = m + 1 := ⟨k - 1, by omega⟩
  obtain rfl := drop_none hd hi
  obtain rfl : b = [] := by rw [← he, hab, List.drop_length]
  rw [api_Entry_66.l0, if_neg (by omega)]
  rfl
 | cons x a ih =>
  intro b k i hd he hi hk
  simp only [List.length_cons] at hk
  obtain ⟨k, rfl⟩ : ∃ m, k = m + 1 := ⟨k - 1, by omega⟩
  obtain ⟨hlt, hx, hd2, _, _⟩ := drop_any hd
  cases b with
  | nil =>
   have := congrArg List.length he
   simp at this
   omega
  | cons y b =>
   obtain ⟨_, hy, he2, _, _⟩ := drop_any he
   rw [api_Entry_66.l0, if_pos (by omega), if_pos (by omega), if_pos (by omega), if_pos (by omega), rdE_at hx, rdE_at hy, wrap1 (by omega), ih b k (i + 1) hd2 he2 (by omega) (by omega)]
   simp only [sameE, same]
   by_cases h1 : x.f0.toList = y.f0.toList
   ·by_cases h2 : x.f1.toList = y.f1.toList
    ·simp [h1, h2]
    ·simp [h1, h2]
   ·simp [h1]
theorem S24_loop (p0 q0 p4 q4 : Int) (p1 q1 p5 q5 : Bool) (p2 q2 : ByteArray) (A B : List En) (hA : A.length ≤ 1000000) (hab : A.length = B.length) : ∀ (a b : List En) (k i : Nat), A.drop i = a → B.drop i = b → i ≤ A.length → a.length < k → catchmentref24_Same.l0 k i p0 p1 p2 A p4 p5 q0 q1 q2 B q4 q5 = some (sameE a b) := by
 intro a
 induction a with
 | nil =>
  intro b k i hd he hi hk
  obtain ⟨k, rfl⟩ : ∃ m, k = m + 1 := ⟨k - 1, by omega⟩
  obtain rfl := drop_none hd hi
  obtain rfl : b = [] := by rw [← he, hab, List.drop_length]
  rw [catchmentref24_Same.l0, if_neg (by omega)]
  rfl
 | cons x a ih =>
  intro b k i hd he hi hk
  simp only [List.length_cons] at hk
  obtain ⟨k, rfl⟩ : ∃ m, k = m + 1 := ⟨k - 1, by omega⟩
  obtain ⟨hlt, hx, hd2, _, _⟩ := drop_any hd
  cases b with
  | nil =>
   have := congrArg List.length he
   simp at this
   omega
  | cons y b =>
   obtain ⟨_, hy, he2, _, _⟩ := drop_any he
   rw [catchmentref24_Same.l0, if_pos (by omega), if_pos (by omega), if_pos (by omega), rdE_at hx, rdE_at hy, wrap1 (by omega), ih b k (i + 1) hd2 he2 (by omega) (by omega)]
   simp only [sameE, same]
   by_cases h1 : x.f0.toList = y.f0.toList
   ·by_cases h2 : x.f1.toList = y.f1.toList
    ·simp [h1, h2]
    ·simp [h1, h2]
   ·simp [h1]
theorem Equal_eq (k : Nat) (a b : List En) (ha : a.length ≤ 1000000) (hk : a.length < k) : api_Entry_66.f k a b = some (sameE a b) := by
 unfold api_Entry_66.f
 by_cases h : a.length = b.length
 ·rw [if_pos (by omega)]
  exact Equal_loop a b ha h a b k 0 rfl rfl (by omega) hk
 ·rw [if_neg (by omega), sameE_len h]
def sameR (p0 : Int) (p1 : Bool) (p2 : ByteArray) (A : List En) (p4 : Int) (p5 : Bool) (q0 : Int) (q1 : Bool) (q2 : ByteArray) (B : List En) (q4 : Int) (q5 : Bool) : Bool :=
 decide (p0 = q0 ∧ p1 = q1 ∧ p2.toList = q2.toList ∧ p4 = q4 ∧ p5 = q5) && sameE A B
theorem modelSame_eq (k : Nat) (p0 : Int) (p1 : Bool) (p2 : ByteArray) (A : List En) (p4 : Int) (p5 : Bool) (q0 : Int) (q1 : Bool) (q2 : ByteArray) (B : List En) (q4 : Int) (q5 : Bool) (hA : A.length ≤ 1000000) (hk : A.length < k) :
  model_Same.f k p0 p1 p2 A p4 p5 q0 q1 q2 B q4 q5 = some (sameR p0 p1 p2 A p4 p5 q0 q1 q2 B q4 q5) := by
 unfold model_Same.f sameR
 rw [Equal_eq k A B hA hk]
 by_cases h0 : p0 = q0
 ·by_cases h1 : p1 = q1
  ·by_cases h2 : p2.toList = q2.toList
   ·by_cases h4 : p4 = q4
    ·by_cases h5 : p5 = q5
     ·simp [h0, h1, h2, h4, h5]
     ·simp [h0, h1, h2, h4, h5]
    ·simp [h0, h1, h2, h4]
   ·simp [h0, h1, h2]
  ·simp [h0, h1]
 ·simp [h0]
theorem neLen (A B : List En) : ((A.length : Int) != (B.length : Int)) = decide (A.length ≠ B.length) := by
 by_cases h : A.length = B.length
 ·simp [h]
 ·have h2 : ¬ (A.length : Int) = (B.length : Int) := by omega
  simp [h, h2]
theorem Same24_eq (k : Nat) (p0 : Int) (p1 : Bool) (p2 : ByteArray) (A : List En) (p4 : Int) (p5 : Bool) (q0 : Int) (q1 : Bool) (q2 : ByteArray) (B : List En) (q4 : Int) (q5 : Bool) (hA : A.length ≤ 1000000) (hk : A.length < k) :
  catchmentref24_Same.f (k + 1) p0 p1 p2 A p4 p5 q0 q1 q2 B q4 q5 = some (sameR p0 p1 p2 A p4 p5 q0 q1 q2 B q4 q5) := by
 have jt : catchmentref24_Same.j0 (k + 1) true p0 p1 p2 A p4 p5 q0 q1 q2 B q4 q5 = some false := by simp [catchmentref24_Same.j0]
 have jf : ∀ b, b = decide (A.length ≠ B.length) → catchmentref24_Same.j0 (k + 1) b p0 p1 p2 A p4 p5 q0 q1 q2 B q4 q5 = some (sameE A B) := by
  rintro b rfl
  simp only [catchmentref24_Same.j0]
  by_cases h : A.length = B.length
  ·rw [if_neg (by simp [h])]
   exact S24_loop p0 q0 p4 q4 p1 q1 p5 q5 p2 q2 A B hA h A B k 0 rfl rfl (by omega) hk
  ·rw [if_pos (by simp [h]), sameE_len h]
 unfold catchmentref24_Same.f sameR
 rw [jt]
 by_cases h0 : p0 = q0
 ·by_cases h1 : p1 = q1
  ·by_cases h2 : p2.toList = q2.toList
   ·by_cases h4 : p4 = q4
    ·by_cases h5 : p5 = q5
     ·subst h0 h1 h4 h5
      rw [jf ((A.length : Int) != (B.length : Int)) (neLen A B)]
      simp [h2]
     ·simp [h0, h1, h2, h4, h5]
    ·simp [h0, h1, h2, h4]
   ·simp [h0, h1, h2]
  ·simp [h0, h1]
 ·simp [h0]
end Go.Proofs.Ytljnlnbopohghaa.P
end
section
namespace Go.Proofs.Ytljnlnbopohghaa.Pure
open Go.RowKit Go.Proofs.Ytljnlnbopohghaa.P Go.Proofs.YtljnlnbopohghaaW.PrintWords Go.Proofs.YtljnlnbopohghaaW.PrintLast Go.Proofs.YtljnlnbopohghaaW.PrintMore
theorem ModelSame : ∀ (x0 : S59) (x1 : S59), (wf59 x0) → (wf59 x1) → ∃ k, catchmentlaw28_ModelSame.f k x0.f0 x0.f1 x0.f2 x0.f3 x0.f4 x0.f5 x1.f0 x1.f1 x1.f2 x1.f3 x1.f4 x1.f5 = some true := by
 intro x0 x1 h0 h1
 refine ⟨102, ?_⟩
 have lv : catchmentlaw28_live.f = some true := rfl
 have jt : catchmentlaw28_ModelSame.j0 102 true x0.f0 x0.f1 x0.f2 x0.f3 x0.f4 x0.f5 x1.f0 x1.f1 x1.f2 x1.f3 x1.f4 x1.f5 = some true := by
  simp [catchmentlaw28_ModelSame.j0, lv]
 unfold catchmentlaw28_ModelSame.f
 by_cases c0 : (x0.f3.length : Int) > 40
 ·rw [if_pos c0, jt]
 rw [if_neg c0]
 by_cases c1 : (x1.f3.length : Int) > 40
 ·rw [decide_eq_true c1, jt]
 rw [decide_eq_false c1]
 have l0 : x0.f3.length ≤ 40 := by omega
 simp only [catchmentlaw28_ModelSame.j0, Bool.false_eq_true, if_false, lv, Option.bind_some, if_true]
 rw [modelSame_eq 101 _ _ _ _ _ _ _ _ _ _ _ _ (by omega) (by omega), modelSame_eq 101 _ _ _ _ _ _ _ _ _ _ _ _ (by omega) (by omega), Same24_eq 100 _ _ _ _ _ _ _ _ _ _ _ _ (by omega) (by omega)]
 have ss : sameR x0.f0 x0.f1 x0.f2 x0.f3 x0.f4 x0.f5 x0.f0 x0.f1 x0.f2 x0.f3 x0.f4 x0.f5 = true := by
  unfold sameR
  rw [sameE_iff.2 rfl]
  simp
 rw [ss]
 unfold model_Refused.f
 by_cases h : x0.f0 = 10
 ·simp [h]
 ·simp [h]
end Go.Proofs.Ytljnlnbopohghaa.Pure
end
section
namespace Go.Proofs.Ytljnlnbopohghaa.modelSame
open Go.ChangeShapes Go.WideShapes Go.ChangeAt Go.RowKit Go.Proofs.Ytljnlnbopohghaa.P Go.Proofs.Ytljnlnbopohghaa.Rd Go.Proofs.YtljnlnbopohghaaW.PrintWords
open Go.ChangeMaps (open_string shut_string)
theorem own : ownKnob Try.prog.godebug = none := by kernel_rfl
theorem laidOut : laidOutB Try.prog = true := by kernel_rfl
set_option maxHeartbeats 2000000 in
set_option maxRecDepth 100000 in
theorem lifted (os : Os) (started : os.Started) (H : Type) (enc : TypeId × Value → H) :
  ReturnsInHanded {} Try.checked os 7 .any (Rows.modelSameSpec.pre6 enc Try.prog Try.f7 Rows.modelSameRow.domain false) (Rows.modelSameSpec.post enc Try.prog Try.f7 false true false false) := by
 refine returnsInHanded_of_change_sized (C := Try.checked) own started (by kernel_rfl) Try.func7
  (ChangeSpec.witness6 (enc := enc) (C := Try.checked) false ⟨#[], #[.agg #[.int .i64 0, .bool false, .string ByteArray.empty, .slice none 0 0, .int .i64 0, .bool false], .agg #[.int .i64 0, .bool false, .string ByteArray.empty, .slice none 0 0, .int .i64 0, .bool false]], []⟩ 8 (by kernel_rfl) (by kernel_rfl) (by kernel_rfl) (by kernel_rfl)) ?_
 intro W base args ds gs before hval0 hW hcnd hsz0 _
 have hsz : (DataW.weightsEach Try.prog (Try.f7.params.toList ++ Rows.modelSameSpec.plain.varTypes Try.prog) (ds ++ gs)).all (· ≤ reachBytes) = true := hsz0
 have hval : ∀ (j : Nat) t v, Try.f7.params[j]? = some t → args[j]? = some v → Value.okWide Try.prog W .any base t v := hval0
 have hW' := hW
 obtain ⟨p, q, hA0, hV, rfl, hfz, hnd⟩ := hW
 have hA : DataW.TrodAll enc Try.prog W 0 (fun _ => true) true Try.f7.params.toList args.toList ds p := hA0
 rw [Try.params7] at hA hval hsz
 obtain ⟨v0, vs0, d0, ds0, p0, q0, hargs, rfl, rfl, h0, r0⟩ := trodAll_cons hA
 obtain ⟨v1, vs1, d1, ds1, p1, q1, rfl, rfl, rfl, h1, r1⟩ := trodAll_cons r0
 obtain ⟨rfl, rfl, rfl⟩ := trodAll_nil r1
 obtain rfl : args = #[v0, v1] := by cases args; simp_all
 obtain ⟨rfl, rfl⟩ := trodVars_none hV
 have k0 := h0
 have lt0 : ∀ x ∈ p0, x.block < W.heap.size := by obtain ⟨m, hm⟩ := k0; exact DataW.trod_lt m _ _ _ hm
 have ww0 : ∀ n ∈ d0.weights Try.prog 59, n ≤ reachBytes := fun n hn => by simpa using List.all_eq_true.1 hsz n (DataW.weights_mem_each (j := 0) rfl rfl n hn)
 obtain ⟨cs0, rfl, _⟩ := okWide_struct Try.underlying59 (hval 0 59 v0 rfl rfl)
 obtain ⟨fu0, hf0⟩ := h0
 obtain ⟨x0, kx0, w0⟩ := o59.down hf0 ww0
 obtain ⟨A0_3, c0_3, e0, hc0_3, hr0_3⟩ := k59_open kx0
 obtain rfl : cs0 = #[.int .i64 x0.f0, .bool x0.f1, .string x0.f2, .slice A0_3 x0.f3.length c0_3, .int .i64 x0.f4, .bool x0.f5] := Array.toList_inj.1 (show cs0.toList = (#[.int .i64 x0.f0, .bool x0.f1, .string x0.f2, .slice A0_3 x0.f3.length c0_3, .int .i64 x0.f4, .bool x0.f5] : Array Value).toList from e0)
 have k1 := h1
 have lt1 : ∀ x ∈ p1, x.block < W.heap.size := by obtain ⟨m, hm⟩ := k1; exact DataW.trod_lt m _ _ _ hm
 have ww1 : ∀ n ∈ d1.weights Try.prog 59, n ≤ reachBytes := fun n hn => by simpa using List.all_eq_true.1 hsz n (DataW.weights_mem_each (j := 1) rfl rfl n hn)
 obtain ⟨cs1, rfl, _⟩ := okWide_struct Try.underlying59 (hval 1 59 v1 rfl rfl)
 obtain ⟨fu1, hf1⟩ := h1
 obtain ⟨x1, kx1, w1⟩ := o59.down hf1 ww1
 obtain ⟨A1_3, c1_3, e1, hc1_3, hr1_3⟩ := k59_open kx1
 obtain rfl : cs1 = #[.int .i64 x1.f0, .bool x1.f1, .string x1.f2, .slice A1_3 x1.f3.length c1_3, .int .i64 x1.f4, .bool x1.f5] := Array.toList_inj.1 (show cs1.toList = (#[.int .i64 x1.f0, .bool x1.f1, .string x1.f2, .slice A1_3 x1.f3.length c1_3, .int .i64 x1.f4, .bool x1.f5] : Array Value).toList from e1)
 clear hA0 hval0 hsz0 hsz
 obtain ⟨k_, hp⟩ := Pure.ModelSame x0 x1 w0 w1
 refine (catchmentlaw28_ModelSame.calls (k := k_) (r := true) (w := W) (hr0_3 := hr0_3) (hc0_3 := hc0_3) (hr1_3 := hr1_3) (hc1_3 := hc1_3) (h := hp)).mono fun e W' ⟨he, bel0⟩ => ?_
 have bel : Below W.heap.size W W' := bel0
 subst he
 exact ⟨_, rfl, _, _, _, [], _, [], hW', trodAll_mk1 (shut_bool Try.underlying4 _), (trodAll_cons_mk (Below.trod laidOut (by kernel_rfl) (of_decide_eq_true (by kernel_rfl)) k0 bel lt0) (trodAll_cons_mk (Below.trod laidOut (by kernel_rfl) (of_decide_eq_true (by kernel_rfl)) k1 bel lt1) trodAll_mk0)), rfl, bel.frame _, fun h => by cases h⟩
theorem over : Rows.modelSameRow.holds Try.pinned (OpenSpec.ofChange Rows.modelSameSpec) :=
 OpenClaim.holds_of_wide 7 Try.f7 rfl rfl rfl rfl rfl rfl rfl ⟨rfl, rfl, rfl, rfl, rfl⟩ rfl rfl rfl rfl rfl (by kernel_rfl) Try.func7 (by kernel_rfl)
  (of_decide_eq_true (by kernel_rfl)) (by unfold Func.isWrapper; first | (rw [if_pos (by decide +kernel)]; kernel_rfl) | (rw [if_neg (by decide +kernel)]; exact ⟨rfl, rfl⟩))
  (fun os started H enc _ => lifted os started H enc)
end Go.Proofs.Ytljnlnbopohghaa.modelSame
namespace Go.Proofs.Ytljnlnbopohghaa
theorem modelSame_holds : Rows.ModelSameSaid := modelSame.over
#print axioms modelSame_holds
end Go.Proofs.Ytljnlnbopohghaa
end
