/- THE ROW of DeltaSwaps: for every input the call returns true, and each argument reads afterwards as it read before: no condition beyond the row's own. Out of the walk (its contract over the Lean function of the same text) and the plain law (module YtebejadiaooooaaPureDeltaSwaps). (Laid by rowgen.py.) -/
/- Texts of one claim (laid by shake.py). -/
import Derived.Test.YtebejadiaooooaaZs0
import Derived.Deep.Slices
import Derived.ChangeArms
import Derived.SizedLaws
import Derived.OpenShut
import Derived.Test.YtebejadiaooooaaZs4
import Derived.Test.YtebejadiaooooaaZs16
import Derived.Test.YtebejadiaooooaaZs25
import Derived.Test.YtebejadiaooooaaZs30
import Derived.Test.YtebejadiaooooaaZs22
import Derived.Test.YtebejadiaooooaaZs10
import Derived.Test.YtebejadiaooooaaZs11
import Derived.Test.YtebejadiaooooaaZs33
import Derived.Test.YtebejadiaooooaaZs14
import Derived.Test.YtebejadiaooooaaZs8
import Derived.Test.YtebejadiaooooaaZs12
import Derived.Test.YtebejadiaooooaaZs32
import Derived.Test.YtebejadiaooooaaZs34
import Derived.Test.YtebejadiaooooaaRows
import Derived.WalkKit
import Derived.ProofKit
import Derived.ShutString
import Derived.ChangeOld
import Derived.Below
set_option linter.unusedVariables false
set_option linter.unusedSimpArgs false
section
namespace Go.Proofs.Ytebejadiaooooaa.Rd
open Go.RowKit Go.ChangeShapes Go.WideShapes Go.Deep Go.Proofs.YtebejadiaooooaaW.PrintWords
structure Opens {α : Type} (P : Program) (t : TypeId) (d : Kd α) (wf : α → Prop) : Prop where
 cells : P.cellsOf t = d.sz
 down : ∀ {H : Type} {enc : TypeId × Value → H} {w : World} {base : Nat} {spare : Nat → Bool} {held : Bool} {fuel : Nat} {cs : List Value} {x : DataW H × List MemPlace},
  DataW.trod enc P w base spare held fuel t cs = some x → (∀ n ∈ x.1.weights P t, n ≤ reachBytes) → ∃ a, d.K w a cs ∧ wf a
theorem mem_weightsAll {H : Type} {P : Program} {e : TypeId} {d : DataW H} : ∀ {l : List (DataW H)}, d ∈ l → ∀ n ∈ d.weights P e, n ∈ DataW.weightsAll P e l
 | x :: l, hd, n, hn => by
  simp only [DataW.weightsAll, List.mem_append]
  rcases List.mem_cons.1 hd with rfl | hd
  ·exact .inl hn
  ·exact .inr (mem_weightsAll hd n hn)
theorem Opens.int {P : Program} {t : TypeId} {k : IntKind} (ht : P.underlying t = some (.int k)) (hc : P.cellsOf t = 1) : Opens P t (Kd.int k) (fun n => (Lit.int k n).wf = true) where
 cells := hc
 down := by
  intro H enc w base spare held fuel cs x h _
  obtain ⟨n, rfl, _, hw⟩ := DataW.trod_int ht h
  exact ⟨n, rfl, hw⟩
theorem Opens.bool {P : Program} {t : TypeId} (ht : P.underlying t = some .bool) (hc : P.cellsOf t = 1) : Opens P t Kd.bool (fun _ => True) where
 cells := hc
 down := by
  intro H enc w base spare held fuel cs x h _
  obtain ⟨b, rfl, _⟩ := DataW.trod_bool ht h
  exact ⟨b, rfl, trivial⟩
theorem Opens.string {P : Program} {t : TypeId} (ht : P.underlying t = some .string) (hc : P.cellsOf t = 1) : Opens P t Kd.string (fun s => s.size ≤ 140737488351232) where
 cells := hc
 down := by
  intro H enc w base spare held fuel cs x h hw
  obtain ⟨s, rfl, rfl, _⟩ := DataW.trod_string ht h
  refine ⟨s, rfl, ?_⟩
  have := hw s.data.toList.length (by simp [DataW.weights])
  have e : s.data.toList.length = s.size := by simp
  rw [e] at this
  exact this
theorem Opens.slice {α : Type} {P : Program} {t e : TypeId} {d : Kd α} {wf : α → Prop} (ht : P.underlying t = some (.slice e)) (hc : P.cellsOf t = 1) {B : Nat} (hB : P.bytesOf e = B) (he : Opens P e d wf) :
  Opens P t (Kd.slice e d) (fun l => l.length * B ≤ 140737488351232 ∧ ∀ a ∈ l, wf a) where
 cells := hc
 down := by
  intro H enc w base spare held fuel cs x h hw
  rcases open_slice ht h with ⟨rfl, _⟩ | ⟨a, len, cap, m, n, D, Pl, rfl, hb, hl, hm, hmm, rfl, hx⟩
  ·exact ⟨[], ⟨none, 0, rfl, Nat.le_refl _, rfl, by simp, fun h0 => absurd h0 (by simp)⟩, by simp, fun a ha => by simp at ha⟩
  ·have hlm : len ≤ m := by rw [hmm]; split <;> omega
   have hel : ∀ i : Fin len, ∃ y : α, ∃ c : List Value, w.cells? base (a.add (i.1 * P.cellsOf e)) (P.cellsOf e) = some c ∧ d.K w y c ∧ wf y := by
    intro i
    obtain ⟨c, h1, h2⟩ := hx i.1 (by omega)
    obtain ⟨y, hy, hwf⟩ := he.down h2 (fun n hn => hw n (by
     simp only [DataW.weights, ht, List.mem_cons, List.mem_append]
     exact .inr (.inl (mem_weightsAll (List.mem_map.2 ⟨i.1, List.mem_range.2 i.2, rfl⟩) n hn))))
    exact ⟨y, c, h1, hy, hwf⟩
   obtain ⟨f, hf⟩ := Classical.axiomOfChoice hel
   have hlen : (List.ofFn f).length = len := by simp
   have hmax : len ≤ 9223372036854775807 := by simp only [maxLen] at hm; omega
   refine ⟨List.ofFn f, ⟨some a, cap, ?_, ?_, ?_, ?_, ?_⟩, ?_, ?_⟩
   ·rw [hlen]
   ·rw [hlen]; exact hl
   ·rfl
   ·rw [hlen]; exact hmax
   ·intro _
    refine ⟨a, rfl, fun j p hj => ?_⟩
    obtain ⟨hjl, rfl⟩ := List.getElem?_eq_some_iff.1 hj
    rw [hlen] at hjl
    obtain ⟨c, h1, hy, _⟩ := hf ⟨j, hjl⟩
    obtain ⟨_, hcl, hcell⟩ := World.cells?_some h1
    refine ⟨c, by rw [hcl, he.cells], by simpa using hy, fun i u hu => ?_⟩
    have hi : i < P.cellsOf e := by
     have := (List.getElem?_eq_some_iff.1 hu).1
     omega
    have := hcell i hi
    rw [Go.Deep.add_add] at this
    rw [← he.cells, this, hu]
   ·rw [hlen]
    have hz := hw (((List.range len).map D).length + ((List.range (m - len)).map fun j => D (len + j)).length |>.mul (P.bytesOf e)) (by
     simp only [DataW.weights, ht, List.mem_cons]
     exact .inl rfl)
    rw [hB] at hz
    simp only [List.length_map, List.length_range] at hz
    have h2 : len * B ≤ (len + (m - len)) * B := Nat.mul_le_mul_right _ (by omega)
    exact Nat.le_trans h2 hz
   ·intro y hy
    obtain ⟨i, rfl⟩ := List.mem_ofFn.1 hy
    obtain ⟨_, _, _, hwf⟩ := hf i
    exact hwf
theorem Opens.iso {α β : Type} {P : Program} {t : TypeId} {d : Kd α} {wf : α → Prop} {f : β → α} (g : α → β) (hg : ∀ a, f (g a) = a) (h : Opens P t d wf) : Opens P t (Kd.iso d f) (fun b => wf (f b)) where
 cells := h.cells
 down := by
  intro H enc w base spare held fuel cs x hx hw
  obtain ⟨a, hk, hwf⟩ := h.down hx hw
  refine ⟨g a, ?_, ?_⟩
  ·show d.K w (f (g a)) cs
   rw [hg]; exact hk
  ·show wf (f (g a))
   rw [hg]; exact hwf
structure OpensFs {α : Type} (P : Program) (fs : List Field) (off : Nat) (d : Kd α) (wf : α → Prop) : Prop where
 down : ∀ {H : Type} {enc : TypeId × Value → H} {w : World} {base : Nat} {spare : Nat → Bool} {held : Bool} {fuel : Nat} {cs : List Value} {xs : List (DataW H × List MemPlace)},
  cs.length = d.sz → xs.length = fs.length → (∀ (i : Nat) (f : Field), fs[i]? = some f → DataW.trod enc P w base spare held fuel f.type ((cs.drop (f.offset - off)).take (P.cellsOf f.type)) = xs[i]?) →
  (∀ n ∈ DataW.weightsEach P (fs.map (·.type)) (xs.map (·.1)), n ≤ reachBytes) → ∃ a, d.K w a cs ∧ wf a
 offs : ∀ f ∈ fs, off ≤ f.offset
theorem OpensFs.one {α : Type} {P : Program} {f : Field} {off : Nat} {d : Kd α} {wf : α → Prop} (ho : f.offset = off) (h : Opens P f.type d wf) : OpensFs P [f] off d wf where
 offs := by simp [ho]
 down := by
  intro H enc w base spare held fuel cs xs hl hxs hx hw
  have h0 := hx 0 f rfl
  obtain ⟨x, rfl⟩ : ∃ x, xs = [x] := by
   match xs, hxs with
   | [x], _ => exact ⟨x, rfl⟩
  rw [ho, Nat.sub_self, List.drop_zero, h.cells, ← hl, List.take_length] at h0
  exact h.down h0 (fun n hn => hw n (by simp [DataW.weightsEach, hn]))
theorem OpensFs.cons {α β : Type} {P : Program} {f : Field} {fs : List Field} {off off2 : Nat} {d : Kd α} {d2 : Kd β} {wf : α → Prop} {wf2 : β → Prop} (ho : f.offset = off) (h : Opens P f.type d wf) (ho2 : off2 = off + d.sz)
  (h2 : OpensFs P fs off2 d2 wf2) : OpensFs P (f :: fs) off (Kd.pair d d2) (fun p => wf p.1 ∧ wf2 p.2) where
 offs := by
  intro g hg
  rcases List.mem_cons.1 hg with rfl | hg
  ·omega
  ·have := h2.offs g hg; omega
 down := by
  intro H enc w base spare held fuel cs xs hl hxs hx hw
  obtain ⟨x, ys, rfl⟩ : ∃ x ys, xs = x :: ys := by
   match xs, hxs with
   | x :: ys, _ => exact ⟨x, ys, rfl⟩
  have hl' : cs.length = d.sz + d2.sz := hl
  have h0 := hx 0 f rfl
  rw [ho, Nat.sub_self, List.drop_zero, h.cells] at h0
  obtain ⟨a, ha, hwa⟩ := h.down h0 (fun n hn => hw n (by simp [DataW.weightsEach, hn]))
  obtain ⟨b, hb, hwb⟩ := h2.down (cs := cs.drop d.sz) (xs := ys) (by rw [List.length_drop, hl']; omega) (by simpa using hxs) (fun i g hg => by
   have h1 := hx (i + 1) g (by simpa using hg)
   have hgo := h2.offs g (List.mem_of_getElem? hg)
   rw [List.drop_drop]
   have e : d.sz + (g.offset - off2) = g.offset - off := by omega
   rw [e]
   simpa using h1) (fun n hn => hw n (by simp [DataW.weightsEach, hn]))
  exact ⟨(a, b), ⟨cs.take d.sz, cs.drop d.sz, (List.take_append_drop _ _).symm, ha, hb⟩, hwa, hwb⟩
theorem Opens.struct {α : Type} {P : Program} {t : TypeId} {fs : Array Field} {d : Kd α} {wf : α → Prop} (ht : P.underlying t = some (.struct fs)) (hc : P.cellsOf t = d.sz) (h : OpensFs P fs.toList 0 d wf) : Opens P t d wf where
 cells := hc
 down := by
  intro H enc w base spare held fuel cs x hx hw
  obtain ⟨xs, n, rfl, rfl, hl, hxs, hf⟩ := DataW.trod_struct ht hx
  refine h.down (enc := enc) (w := w) (base := base) (spare := spare) (held := held) (fuel := n) (cs := cs) (xs := xs) (by rw [hl, hc]) (by simpa using hxs) (fun i f hi => ?_) (fun n hn => hw n (by simpa [DataW.weights, ht] using hn))
  rw [Nat.sub_zero]
  exact hf i f (by simpa using hi)
end Go.Proofs.Ytebejadiaooooaa.Rd
end
section
namespace Go.Proofs.Ytebejadiaooooaa.P
open Go.RowKit Go.Proofs.Ytebejadiaooooaa.Rd Go.Proofs.YtebejadiaooooaaW.PrintWords
theorem o29 : Opens Try.prog 29 (Kd.int .u8) (fun n => (Lit.int .u8 n).wf = true) := Opens.int Try.underlying29 (by kernel_rfl)
theorem o3 : Opens Try.prog 3 (Kd.int .i64) (fun n => (Lit.int .i64 n).wf = true) := Opens.int Try.underlying3 (by kernel_rfl)
theorem o9 : Opens Try.prog 9 Kd.string (fun x_ => x_.size ≤ 140737488351232) := Opens.string Try.underlying9 (by kernel_rfl)
theorem o30 : Opens Try.prog 30 (Kd.int .u64) (fun n => (Lit.int .u64 n).wf = true) := Opens.int Try.underlying30 (by kernel_rfl)
def wf32 (x : S32) : Prop := ((Lit.int .u8 x.f0).wf = true) ∧ ((Lit.int .i64 x.f1).wf = true) ∧ (x.f2.size ≤ 140737488351232) ∧ (x.f3.size ≤ 140737488351232) ∧ (x.f4.size ≤ 140737488351232) ∧ ((Lit.int .u64 x.f5).wf = true)
theorem o32 : Opens Try.prog 32 k32 wf32 := Opens.iso (g := fun p_ => (⟨p_.1, p_.2.1, p_.2.2.1, p_.2.2.2.1, p_.2.2.2.2.1, p_.2.2.2.2.2⟩ : S32)) (fun _ => rfl) (Opens.struct Try.underlying32 (by kernel_rfl) (OpensFs.cons rfl o29 rfl (OpensFs.cons rfl o3 rfl (OpensFs.cons rfl o9 rfl (OpensFs.cons rfl o9 rfl (OpensFs.cons rfl o9 rfl (OpensFs.one rfl o30)))))))
theorem o22 : Opens Try.prog 22 (Kd.slice 32 k32) (fun x_ => x_.length * 72 ≤ 140737488351232 ∧ ∀ a_ ∈ x_, wf32 a_) := Opens.slice Try.underlying22 (by kernel_rfl) (by kernel_rfl) o32
end Go.Proofs.Ytebejadiaooooaa.P
end
section
namespace Go.Proofs.Ytebejadiaooooaa.P
open Go.RowKit Go.Proofs.YtebejadiaooooaaW.PrintWords Go.Proofs.YtebejadiaooooaaW.PrintLast Go.Proofs.YtebejadiaooooaaW.PrintMore Go.Proofs.Ytebejadiaooooaa.Own Go.Proofs.Ytebejadiaooooaa
def tidy (p : ByteArray × Bool) : Prop := p.2 = false → p.1 = e0
theorem tidy_apply (k : Int) (vv : ByteArray) (d : Int) (v : ByteArray) (is : Bool) : tidy (applyV k vv d v is) := by
 unfold applyV tidy
 (repeat' split) <;> simp
theorem tidy_on (m : Ms) (s : ByteArray) (p : ByteArray × Bool) : tidy (onM m s p) := by
 unfold onM onV
 split
 ·exact tidy_apply _ _ _ _ _
 ·unfold tidy
  split <;> simp
theorem tidy_doAll (s : ByteArray) : ∀ (l : List Ms) (p : ByteArray × Bool), tidy p → tidy (doAll s l p)
 | [], p, h => h
 | m :: l, p, h => tidy_doAll s l _ (tidy_on m s p)
theorem doAll_append (s : ByteArray) : ∀ (a b : List Ms) (p : ByteArray × Bool), doAll s (a ++ b) p = doAll s b (doAll s a p)
 | [], _, _ => rfl
 | m :: a, b, p => doAll_append s a b (onM m s p)
theorem lt_e0 (s : ByteArray) : lt s e0 = false := by
 cases q : lt s e0 with
 | false => rfl
 | true => have := lt_emp q; rw [emp_e0] at this; cases this
def sameO (a b : ByteArray × Bool) : Bool := same a.1 b.1 && (a.2 == b.2)
theorem sameO_iff {a b : ByteArray × Bool} : sameO a b = true ↔ a = b := by
 obtain ⟨a, x⟩ := a; obtain ⟨b, y⟩ := b
 simp only [sameO, Bool.and_eq_true, same_iff, beq_iff_eq, Prod.mk.injEq]
end Go.Proofs.Ytebejadiaooooaa.P
end
section
namespace Go.Proofs.Ytebejadiaooooaa.P
open Go.RowKit Go.Proofs.YtebejadiaooooaaW.PrintWords Go.Proofs.YtebejadiaooooaaW.PrintLast Go.Proofs.YtebejadiaooooaaW.PrintMore Go.Proofs.Ytebejadiaooooaa.Own Go.Proofs.Ytebejadiaooooaa
theorem eight_size (n : Int) : (strOfNums (eight n)).size = 8 := by rw [strOfNums_size]; rfl
theorem wrap_wrap (a b : Int) : IntKind.u64.wrap (IntKind.u64.wrap a + b) = IntKind.u64.wrap (a + b) := by
 simp only [IntKind.wrap, IntKind.signed, IntKind.bits]
 simp
theorem wrap_wrap' (a b : Int) : IntKind.u64.wrap (a + IntKind.u64.wrap b) = IntKind.u64.wrap (a + b) := by
 rw [Int.add_comm, wrap_wrap, Int.add_comm]
theorem valN_eight (n : Int) (h0 : 0 ≤ n) (h1 : n < 18446744073709551616) : valN (strOfNums (eight n)) 8 = n := by
 have hb : ∀ (l : List Int) (i : Nat) (a : Int), l[i]? = some a → 0 ≤ a → a < 256 → bt (strOfNums l) i = a := by
  intro l i a h ha ha2
  have hi := (List.getElem?_eq_some_iff.1 h).1
  unfold bt
  rw [dif_pos (by rw [strOfNums_size]; simpa using hi)]
  have e : (strOfNums l)[((i : Int)).toNat]'(by rw [strOfNums_size]; simpa using hi) = UInt8.ofNat a.toNat := by
   show (strOfNums l).data[((i : Int)).toNat]'_ = _
   simp only [strOfNums, Int.toNat_natCast, List.getElem_toArray, List.getElem_map]
   rw [(List.getElem?_eq_some_iff.1 h).2]
  rw [e]
  simp
  omega
 have h0' := hb (eight n) 0 _ rfl (by omega) (by omega)
 have h1' := hb (eight n) 1 _ rfl (by omega) (by omega)
 have h2' := hb (eight n) 2 _ rfl (by omega) (by omega)
 have h3' := hb (eight n) 3 _ rfl (by omega) (by omega)
 have h4' := hb (eight n) 4 _ rfl (by omega) (by omega)
 have h5' := hb (eight n) 5 _ rfl (by omega) (by omega)
 have h6' := hb (eight n) 6 _ rfl (by omega) (by omega)
 have h7' := hb (eight n) 7 _ rfl (by omega) (by omega)
 simp only [valN]
 rw [h0', h1', h2', h3', h4', h5', h6', h7']
 omega
theorem addV_some (v : ByteArray) (a b : Int) (ha : 0 ≤ a) (ha2 : a < 18446744073709551616) : addV (addV v true a) true b = addV v true (IntKind.u64.wrap (b + a)) := by
 unfold addV
 simp only [if_true]
 by_cases h : v.size = 8
 ·simp only [h, if_true, eight_size]
  have := u64_wrap_range (valN v 8 + a)
  rw [valN_eight _ this.1 this.2, wrap_wrap, wrap_wrap']
  congr 3
  omega
 ·simp only [h, if_false]
theorem addV_none (v : ByteArray) (a b : Int) (ha : 0 ≤ a) (ha2 : a < 18446744073709551616) : addV (addV v false a) true b = addV v false (IntKind.u64.wrap (b + a)) := by
 unfold addV
 simp only [if_true, Bool.false_eq_true, if_false, eight_size]
 rw [valN_eight _ ha ha2, Int.add_comm]
theorem onM_touch {m : Ms} {s : ByteArray} (h : touchesM m s = true) (p : ByteArray × Bool) : onM m s p = applyV m.f0 m.f4 m.f5 p.1 p.2 := by
 unfold onM onV
 rw [if_pos (show touches m.f0 m.f2 m.f3 s = true from h)]
theorem onM_far {m : Ms} {s : ByteArray} (h : touchesM m s = false) {p : ByteArray × Bool} (hp : tidy p) : onM m s p = p := by
 unfold onM onV
 have h2 : ¬ (touches m.f0 m.f2 m.f3 s = true) := by unfold touchesM at h; rw [h]; simp
 rw [if_neg h2]
 obtain ⟨v, b⟩ := p
 cases b
 ·have := hp rfl; simp at this; subst this; rfl
 ·rfl
theorem doAll_far {s : ByteArray} : ∀ {l : List Ms} {p : ByteArray × Bool}, tidy p → (∀ m ∈ l, touchesM m s = false) → doAll s l p = p
 | [], p, _, _ => rfl
 | m :: l, p, hp, h => by
  show doAll s l (onM m s p) = p
  rw [onM_far (h m (by simp)) hp]
  exact doAll_far hp (fun x hx => h x (List.mem_cons_of_mem _ hx))
end Go.Proofs.Ytebejadiaooooaa.P
end
section
namespace Go.Proofs.Ytebejadiaooooaa.P
open Go.RowKit Go.Proofs.YtebejadiaooooaaW.PrintWords Go.Proofs.YtebejadiaooooaaW.PrintLast Go.Proofs.YtebejadiaooooaaW.PrintMore Go.Proofs.Ytebejadiaooooaa.Own Go.Proofs.Ytebejadiaooooaa
abbrev VB := ByteArray × Bool
inductive Shape (f : VB → VB) : Prop where
 | const (o : VB) (ho : tidy o) (h : ∀ p, tidy p → f p = o)
 | keep (h : ∀ p, tidy p → f p = p)
 | add (d : Int) (h0 : 0 ≤ d) (h1 : d < 18446744073709551616) (h : ∀ p, tidy p → f p = (addV p.1 p.2 d, true))
theorem on_shape (m : Ms) (s : ByteArray) (hm : okD m) : Shape (onM m s) := by
 cases ht : touchesM m s with
 | false => exact .keep (fun p hp => onM_far ht hp)
 | true =>
  by_cases h1 : m.f0 = 1
  ·exact .const (m.f4, true) (by simp [tidy]) (fun p _ => by rw [onM_touch ht]; simp [applyV, h1])
  ·by_cases h3 : m.f0 = 3
   ·exact .add m.f5 hm.1 hm.2 (fun p _ => by rw [onM_touch ht]; simp [applyV, h3])
   ·have h24 : m.f0 = 2 ∨ m.f0 = 4 := by
     simp only [touchesM, touches, isPt, Bool.or_eq_true, Bool.and_eq_true, decide_eq_true_eq] at ht
     omega
    exact .const (e0, false) (by simp [tidy]) (fun p _ => by rw [onM_touch ht]; simp [applyV, h1, h3, h24])
theorem add_add (v : ByteArray) (is : Bool) (a b : Int) (ha : 0 ≤ a) (ha2 : a < 18446744073709551616) : addV (addV v is a) true b = addV v is (IntKind.u64.wrap (b + a)) := by
 cases is
 ·exact addV_none v a b ha ha2
 ·exact addV_some v a b ha ha2
theorem do_shape (s : ByteArray) : ∀ (l : List Ms), (∀ m ∈ l, okD m) → Shape (doAll s l)
 | [], _ => .keep (fun p _ => rfl)
 | m :: l, h => by
  have hm := on_shape m s (h m (by simp))
  have hl := do_shape s l (fun x hx => h x (List.mem_cons_of_mem _ hx))
  have tm := fun p => tidy_on m s p
  cases hl with
  | const o ho hc => exact .const o ho (fun p _ => hc _ (tm p))
  | keep hk =>
   cases hm with
   | const o ho hc => exact .const o ho (fun p hp => (hk _ (tm p)).trans (hc p hp))
   | keep hc => exact .keep (fun p hp => (hk _ (tm p)).trans (hc p hp))
   | add d h0 h1 hc => exact .add d h0 h1 (fun p hp => (hk _ (tm p)).trans (hc p hp))
  | add d h0 h1 hk =>
   cases hm with
   | const o ho hc => exact .const (addV o.1 o.2 d, true) (by simp [tidy]) (fun p hp => (hk _ (tm p)).trans (by rw [hc p hp]))
   | keep hc => exact .add d h0 h1 (fun p hp => (hk _ (tm p)).trans (by rw [hc p hp]))
   | add c g0 g1 hc =>
    refine .add (IntKind.u64.wrap (d + c)) (u64_wrap_range _).1 (u64_wrap_range _).2 (fun p hp => (hk _ (tm p)).trans ?_)
    rw [hc p hp]
    simp only
    rw [add_add _ _ _ _ g0 g1]
theorem add_e0 (d : Int) : addV e0 true d = e0 := by
 have : ¬ e0.size = 8 := by decide
 unfold addV
 simp only [if_true, this, if_false]
theorem add_no (d : Int) (h0 : 0 ≤ d) (h1 : d < 18446744073709551616) : (addV e0 false d).size = 8 ∧ valN (addV e0 false d) 8 = d := by
 have e : addV e0 false d = strOfNums (eight d) := by
  unfold addV
  simp
 rw [e]
 exact ⟨eight_size d, valN_eight d h0 h1⟩
theorem shape_same {f g : VB → VB} (hf : Shape f) (hg : Shape g) (h0 : f (e0, false) = g (e0, false)) (h1 : f (e0, true) = g (e0, true)) (p : VB) (hp : tidy p) : f p = g p := by
 have t0 : tidy (e0, false) := by simp [tidy]
 have t1 : tidy (e0, true) := by simp [tidy]
 have z8 : ¬ e0.size = 8 := by decide
 cases hf with
 | const o ho hc =>
  rw [hc _ t0] at h0
  rw [hc _ t1] at h1
  cases hg with
  | const o' ho' hc' => rw [hc p hp, hc' p hp, h0, hc' _ t0]
  | keep hk => rw [hk _ t0] at h0; rw [hk _ t1, h0] at h1; cases h1
  | add d g0 g1 hk =>
   rw [hk _ t0] at h0
   rw [hk _ t1, h0] at h1
   simp only [Prod.mk.injEq, and_true] at h1
   have := (add_no d g0 g1).1
   rw [h1, add_e0] at this
   exact absurd this z8
 | keep hk =>
  rw [hk _ t0] at h0
  rw [hk _ t1] at h1
  cases hg with
  | const o ho hc => rw [hc _ t0] at h0; rw [hc _ t1, ← h0] at h1; cases h1
  | keep hk' => rw [hk p hp, hk' p hp]
  | add d g0 g1 hk' => rw [hk' _ t0] at h0; cases h0
 | add d g0 g1 hk =>
  rw [hk _ t0] at h0
  rw [hk _ t1] at h1
  cases hg with
  | const o ho hc =>
   rw [hc _ t0] at h0
   rw [hc _ t1, ← h0] at h1
   simp only [Prod.mk.injEq, and_true] at h1
   have := (add_no d g0 g1).1
   rw [← h1, add_e0] at this
   exact absurd this z8
  | keep hk' => rw [hk' _ t0] at h0; cases h0
  | add c i0 i1 hk' =>
   rw [hk' _ t0] at h0
   simp only [Prod.mk.injEq, and_true] at h0
   have e1 := (add_no d g0 g1).2
   have e2 := (add_no c i0 i1).2
   rw [h0, e2] at e1
   subst e1
   rw [hk p hp, hk' p hp]
theorem greatest (s : ByteArray) : ∀ L : List ByteArray, (∀ x ∈ L, lt s x = true) ∨ ∃ k ∈ L, lt s k = false ∧ ∀ x ∈ L, lt s x = false → lt k x = false
 | [] => .inl (fun x hx => by simp at hx)
 | y :: L => by
  cases hy : lt s y with
  | true =>
   rcases greatest s L with h | ⟨k, hk, h1, h2⟩
   ·left
    intro x hx
    rcases List.mem_cons.1 hx with rfl | hx
    ·exact hy
    ·exact h x hx
   ·right
    refine ⟨k, List.mem_cons_of_mem _ hk, h1, fun x hx hs => ?_⟩
    rcases List.mem_cons.1 hx with rfl | hx
    ·rw [hy] at hs; cases hs
    ·exact h2 x hx hs
  | false =>
   right
   rcases greatest s L with h | ⟨k, hk, h1, h2⟩
   ·refine ⟨y, List.mem_cons_self, hy, fun x hx hs => ?_⟩
    rcases List.mem_cons.1 hx with rfl | hx
    ·exact lt_irrefl _
    ·rw [h x hx] at hs; cases hs
   ·cases hky : lt k y with
    | true =>
     refine ⟨y, List.mem_cons_self, hy, fun x hx hs => ?_⟩
     rcases List.mem_cons.1 hx with rfl | hx
     ·exact lt_irrefl _
     ·cases hyx : lt y x with
      | false => rfl
      | true =>
       have := h2 x hx hs
       rw [lt_trans hky hyx] at this
       cases this
    | false =>
     refine ⟨k, List.mem_cons_of_mem _ hk, h1, fun x hx hs => ?_⟩
     rcases List.mem_cons.1 hx with rfl | hx
     ·exact hky
     ·exact h2 x hx hs
open Go.Proofs.Ytebejadiaooooaa.Cp (marksK marksV keysM valM keys0 vals0)
theorem keysM_mem {l : List Ms} {m : Ms} (h : m ∈ l) {s : ByteArray} (hs : s ∈ keysM m) : s ∈ marksK l := List.mem_append.2 (.inr (List.mem_flatMap.2 ⟨m, h, hs⟩))
theorem eq_of_le {s k : ByteArray} (h1 : lt s k = false) (h2 : lt k s = false) : s = k := by
 rcases lt_tri s k with h | h | h
 ·rw [h] at h1; cases h1
 ·exact h
 ·rw [h] at h2; cases h2
theorem mark_for (l : List Ms) (s : ByteArray) : ∃ k ∈ marksK l, ∀ m ∈ l, touchesM m s = touchesM m k := by
 have he : e0 ∈ marksK l := List.mem_append.2 (.inl (by simp [keys0]))
 rcases greatest s (marksK l) with h | ⟨k, hk, h1, h2⟩
 ·have := h e0 he
  rw [lt_e0] at this
  cases this
 ·have le : ∀ x ∈ marksK l, lt s x = lt k x := fun x hx => by
   cases hs : lt s x with
   | false => exact (h2 x hx hs).symm
   | true => exact (lt_of_le_lt h1 hs).symm
  refine ⟨k, hk, fun m hm => ?_⟩
  have m2 : m.f2 ∈ marksK l := keysM_mem hm (by simp [keysM])
  have m3 : m.f3 ∈ marksK l := keysM_mem hm (by simp [keysM])
  have ms : succB m.f2 ∈ marksK l := keysM_mem hm (by simp [keysM])
  have hh : holds m.f2 m.f3 s = holds m.f2 m.f3 k := by unfold holds; rw [le _ m2, le _ m3]
  have hp : same m.f2 s = same m.f2 k := by
   rw [Bool.eq_iff_iff, same_iff, same_iff]
   constructor
   ·intro e
    have := h2 _ m2 (by rw [e]; exact lt_irrefl _)
    rw [e] at this ⊢
    exact eq_of_le h1 this
   ·intro e
    have h3 := le _ ms
    rw [e, lt_succB_self k] at h3
    have h4 := (lt_succB s k).1 h3
    rw [e]
    exact (eq_of_le h1 h4).symm
  unfold touchesM touches
  rw [hh, hp]
theorem do_touch {s k : ByteArray} : ∀ {l : List Ms}, (∀ m ∈ l, touchesM m s = touchesM m k) → ∀ p, doAll s l p = doAll k l p
 | [], _, _ => rfl
 | m :: l, h, p => by
  have e : onM m s p = onM m k p := by
   have := h m (by simp)
   unfold touchesM at this
   unfold onM onV
   rw [this]
  show doAll s l (onM m s p) = doAll k l (onM m k p)
  rw [e]
  exact do_touch (fun x hx => h x (List.mem_cons_of_mem _ hx)) _
def atV (a b : List Ms) (s v : ByteArray) : Bool := sameO (valueV a s v true) (valueV b s v true) && sameO (valueV a s e0 false) (valueV b s e0 false)
def alikeV (a b : List Ms) : Bool := (marksK (a ++ b)).all (fun s => sameO (valueV a s e0 false) (valueV b s e0 false) && (marksV (a ++ b)).all (fun x => sameO (valueV a s x true) (valueV b s x true)))
theorem e0_val (l : List Ms) : e0 ∈ marksV l := List.mem_append.2 (.inl (by simp [vals0]))
theorem norm_tidy2 (v : ByteArray) (is : Bool) : tidy (norm v is, is) := by unfold tidy norm; cases is <;> simp
theorem alike_do {a b : List Ms} (ha : ∀ m ∈ a, okD m) (hb : ∀ m ∈ b, okD m) (h : alikeV a b = true) (s : ByteArray) (p : VB) (hp : tidy p) : doAll s a p = doAll s b p := by
 obtain ⟨k, hk, ht⟩ := mark_for (a ++ b) s
 have h' := List.all_eq_true.1 h k hk
 rw [Bool.and_eq_true] at h'
 have h0 := sameO_iff.1 h'.1
 have h1 := sameO_iff.1 (List.all_eq_true.1 h'.2 e0 (e0_val _))
 rw [do_touch (fun m hm => ht m (List.mem_append.2 (.inl hm))), do_touch (l := b) (fun m hm => ht m (List.mem_append.2 (.inr hm)))]
 exact shape_same (do_shape k a ha) (do_shape k b hb) h0 h1 p hp
theorem alike_at {a b : List Ms} (ha : ∀ m ∈ a, okD m) (hb : ∀ m ∈ b, okD m) (h : alikeV a b = true) (s v : ByteArray) : atV a b s v = true := by
 unfold atV valueV
 rw [alike_do ha hb h s _ (norm_tidy2 v true), alike_do ha hb h s _ (norm_tidy2 e0 false), sameO_iff.2 rfl, sameO_iff.2 rfl]
 rfl
theorem alike_of {a b : List Ms} (h : ∀ s p, tidy p → doAll s a p = doAll s b p) : alikeV a b = true := by
 refine List.all_eq_true.2 (fun s _ => ?_)
 rw [Bool.and_eq_true]
 refine ⟨sameO_iff.2 (h s _ (norm_tidy2 e0 false)), List.all_eq_true.2 (fun x _ => sameO_iff.2 (h s _ (norm_tidy2 x true)))⟩
end Go.Proofs.Ytebejadiaooooaa.P
end
section
namespace Go.Proofs.Ytebejadiaooooaa.P
open Go.RowKit Go.Proofs.YtebejadiaooooaaW.PrintWords Go.Proofs.YtebejadiaooooaaW.PrintLast Go.Proofs.YtebejadiaooooaaW.PrintMore Go.Proofs.Ytebejadiaooooaa.Own Go.Proofs.Ytebejadiaooooaa
theorem fValue_loop (L : List Ms) (s : ByteArray) (hL : L.length ≤ 1000000) (hD : ∀ m ∈ L, m.f2.size ≤ 140737488351232) : ∀ (l : List Ms) (k i : Nat) (v : ByteArray) (is : Bool), L.drop i = l → i ≤ L.length → l.length + 11 < k → fold_Value.l0 k s v is L L.length i = some (doAll s l (v, is)) := by
 intro l
 induction l with
 | nil =>
  intro k i v is hd hi hk
  obtain ⟨k, rfl⟩ : ∃ m, k = m + 1 := ⟨k - 1, by omega⟩
  obtain rfl := drop_none hd hi
  rw [fold_Value.l0, if_neg (by omega)]
  rfl
 | cons x l ih =>
  intro k i v is hd hi hk
  simp only [List.length_cons] at hk
  obtain ⟨k, rfl⟩ : ∃ m, k = m + 10 := ⟨k - 10, by omega⟩
  obtain ⟨hlt, hx, hd2, _, hm⟩ := drop_any hd
  rw [fold_Value.l0, if_pos (by omega), if_pos (by omega), if_pos (by omega), rdM_at hx, wrap1 (by omega), On_eq k _ _ _ _ _ _ _ _ _ (hD x hm)]
  simp only [Option.bind_some]
  exact ih (k + 9) (i + 1) _ _ hd2 (by omega) (by omega)
theorem fValue_eq (k : Nat) (l : List Ms) (s v : ByteArray) (is : Bool) (hl : l.length ≤ 1000000) (hD : ∀ m ∈ l, m.f2.size ≤ 140737488351232) (hk : l.length + 12 < k) : fold_Value.f k l s v is = some (valueV l s v is) := by
 obtain ⟨k, rfl⟩ : ∃ m, k = m + 9 := ⟨k - 9, by omega⟩
 unfold fold_Value.f
 rw [Apply_eq k]
 simp only [Option.bind_some]
 have h := fValue_loop l s hl hD l (k + 9) 0
 refine (show fold_Value.l0 (k + 9) _ _ _ l l.length 0 = _ from h _ _ rfl (by omega) (by omega)).trans ?_
 congr 1
 unfold valueV norm applyV
 cases is <;> simp
end Go.Proofs.Ytebejadiaooooaa.P
end
section
namespace Go.Proofs.Ytebejadiaooooaa.P
open Go.RowKit Go.Proofs.YtebejadiaooooaaW.PrintWords Go.Proofs.YtebejadiaooooaaW.PrintLast Go.Proofs.YtebejadiaooooaaW.PrintMore Go.Proofs.Ytebejadiaooooaa.Own Go.Proofs.Ytebejadiaooooaa
open Go.Proofs.Ytebejadiaooooaa.Cp (marksK marksV keysM valM keys0 vals0 okS2)
structure Ok7 (n : Nat) (l : List Ms) : Prop where
 ll : l.length ≤ n
 od : ∀ m ∈ l, okD m
 o2 : ∀ m ∈ l, okS2 m
theorem sameO_toList {α : Type} (a b : ByteArray × Bool) (x y : α) : (if a.1.toList = b.1.toList then (if (a.2 != b.2) = true then x else y) else x) = if sameO a b = true then y else x := by
 by_cases h : a.1.toList = b.1.toList
 ·rw [if_pos h]
  have hs : same a.1 b.1 = true := by simpa [same] using h
  cases h2 : (a.2 == b.2) <;> simp [sameO, hs, h2, bne]
 ·have hs : same a.1 b.1 = false := by simpa [same] using h
  rw [if_neg h]
  simp [sameO, hs]
theorem alike_in (a b : List Ms) (n0 : Nat) (ha : a.length ≤ n0) (hb : b.length ≤ n0) (hn0 : n0 ≤ 1000) (hsa : ∀ m ∈ a, okS2 m) (hsb : ∀ m ∈ b, okS2 m) (s : ByteArray) (K V x6 : List ByteArray) (hV : V.length ≤ 100000) (i : Int) (n : Nat) (r0 : Bool) (hi : 0 ≤ i ∧ i < 1000000) (hn : n0 + 12 ≤ n) (h0 : compact_Alike.l0 n a b x6 K (K.length : Int) (i + 1) = some r0) :
  ∀ (l : List ByteArray) (j d : Nat), V.drop j = l → j ≤ V.length → l.length = d → compact_Alike.l1 (n + 1 + d) a b x6 s K (K.length : Int) i V (V.length : Int) (j : Int) = some (l.all (fun x => sameO (valueV a s x true) (valueV b s x true)) && r0) := by
 intro l
 induction l with
 | nil =>
  intro j d hd hj hl
  subst hl
  have := drop_none hd hj
  rw [List.length_nil, Nat.add_zero, compact_Alike.l1, if_neg (by omega), IntWalk.wrap64_in _ (by omega), h0]
  rfl
 | cons x l ih =>
  intro j d hd hj hl
  subst hl
  obtain ⟨hlt, hx, hd2, _, _⟩ := drop_any hd
  rw [List.length_cons, show n + 1 + (l.length + 1) = (n + 1 + l.length) + 1 by omega, compact_Alike.l1, if_pos (by omega), if_pos (by omega), if_pos (by omega), rdS_at hx, fValue_eq _ _ _ _ _ (by omega) (fun m hm => (hsa m hm).1) (by omega), Option.bind_some, fValue_eq _ _ _ _ _ (by omega) (fun m hm => (hsb m hm).1) (by omega), Option.bind_some, wrap1 (by omega), ih (j + 1) l.length hd2 (by omega) rfl, sameO_toList, List.all_cons]
  split
  ·rename_i h; rw [h, Bool.true_and]
  ·rename_i h
   have h : sameO (valueV a s x true) (valueV b s x true) = false := by simpa using h
   rw [h]; rfl
theorem alike_out (a b : List Ms) (n0 : Nat) (ha : a.length ≤ n0) (hb : b.length ≤ n0) (hn0 : n0 ≤ 1000) (hsa : ∀ m ∈ a, okS2 m) (hsb : ∀ m ∈ b, okS2 m) (K V : List ByteArray) (hK : K.length ≤ 100000) (hV : V.length ≤ 100000) (m : Nat) (hm : n0 + 13 ≤ m) :
  ∀ (l : List ByteArray) (i : Nat), K.drop i = l → i ≤ K.length → compact_Alike.l0 (m + l.length * (V.length + 3) + 1) a b V K (K.length : Int) (i : Int) = some (l.all (fun s => sameO (valueV a s e0 false) (valueV b s e0 false) && V.all (fun x => sameO (valueV a s x true) (valueV b s x true)))) := by
 intro l
 induction l with
 | nil =>
  intro i hd hi
  have := drop_none hd hi
  rw [compact_Alike.l0, if_neg (by omega)]
  rfl
 | cons s l ih =>
  intro i hd hi
  obtain ⟨hlt, hx, hd2, _, _⟩ := drop_any hd
  have h0 := ih (i + 1) hd2 (by omega)
  have hge : n0 + 12 ≤ m + l.length * (V.length + 3) + 1 := by have := Nat.zero_le (l.length * (V.length + 3)); omega
  have hl1 := alike_in a b n0 ha hb hn0 hsa hsb s K V V hV (i : Int) (m + l.length * (V.length + 3) + 1) _ ⟨by omega, by omega⟩ hge (by rw [show (i : Int) + 1 = ((i + 1 : Nat) : Int) by omega]; exact h0) V 0 V.length rfl (by omega) rfl
  have hm2 : (l.length + 1) * (V.length + 3) = l.length * (V.length + 3) + (V.length + 3) := by rw [Nat.add_mul, Nat.one_mul]
  rw [List.length_cons, hm2, show m + (l.length * (V.length + 3) + (V.length + 3)) + 1 = ((m + l.length * (V.length + 3) + 1 + 1 + V.length) + 1) + 1 by omega]
  generalize m + l.length * (V.length + 3) + 1 = q at h0 hge hl1 ⊢
  have hj : ∀ t : Bool, compact_Alike.j1 (q + 1 + V.length + 1) a b V s K (K.length : Int) (i : Int) t = if t = true then some false else some (V.all (fun x => sameO (valueV a s x true) (valueV b s x true)) && l.all (fun s => sameO (valueV a s e0 false) (valueV b s e0 false) && V.all (fun x => sameO (valueV a s x true) (valueV b s x true)))) := fun t => by
   rw [compact_Alike.j1]
   split
   ·rfl
   ·exact hl1
  rw [compact_Alike.l0, if_pos (by omega), if_pos (by omega), if_pos (by omega), rdS_at hx, fValue_eq _ _ _ _ _ (by omega) (fun m hm => (hsa m hm).1) (by omega), Option.bind_some, fValue_eq _ _ _ _ _ (by omega) (fun m hm => (hsb m hm).1) (by omega), Option.bind_some, hj, hj, if_pos rfl]
  have := sameO_toList (valueV a s e0 false) (valueV b s e0 false) (some false) (some (V.all (fun x => sameO (valueV a s x true) (valueV b s x true)) && l.all (fun s => sameO (valueV a s e0 false) (valueV b s e0 false) && V.all (fun x => sameO (valueV a s x true) (valueV b s x true)))))
  rw [this, List.all_cons]
  split
  ·rename_i h; rw [h, Bool.true_and]
  ·rename_i h
   have h : sameO (valueV a s e0 false) (valueV b s e0 false) = false := by simpa using h
   rw [h]; rfl
theorem ok7_marks {n : Nat} {l : List Ms} (h : Ok7 n l) (hn : n ≤ 1000) : Am.okMk l = true := Am.okMk_iff.2 ⟨by have := h.ll; omega, h.o2⟩
theorem Alike_eq {a b : List Ms} {n0 : Nat} (hn0 : n0 ≤ 60) (ha : Ok7 n0 a) (hb : Ok7 n0 b) (k : Nat) (hk : 70000 ≤ k) : compact_Alike.f k a b = some (alikeV a b) := by
 unfold compact_Alike.f compact_marks.f Am.marksF
 rw [ok7_marks ha (by omega), ok7_marks hb (by omega), if_pos (show (true && true) = true from rfl), Option.bind_some]
 have hK := Cp.marksK_length (a ++ b)
 have hV := Cp.marksV_length (a ++ b)
 have hla := ha.ll
 have hlb := hb.ll
 rw [List.length_append] at hK hV
 have hp : (marksK (a ++ b)).length * ((marksV (a ++ b)).length + 3) ≤ 482 * 126 := Nat.mul_le_mul (by omega) (by omega)
 obtain ⟨m, hm⟩ : ∃ m, k = m + (marksK (a ++ b)).length * ((marksV (a ++ b)).length + 3) + 1 := ⟨k - (marksK (a ++ b)).length * ((marksV (a ++ b)).length + 3) - 1, by omega⟩
 subst hm
 exact alike_out a b n0 hla hlb (by omega) ha.o2 hb.o2 (marksK (a ++ b)) (marksV (a ++ b)) (by omega) (by omega) m (by omega) (marksK (a ++ b)) 0 rfl (by omega)
theorem AlikeAt_eq {a b : List Ms} {n0 : Nat} (hn0 : n0 ≤ 1000) (ha : Ok7 n0 a) (hb : Ok7 n0 b) (k : Nat) (hk : n0 + 13 ≤ k) (s v : ByteArray) : catchmentref06_AlikeAt.f k a b s v = some (atV a b s v) := by
 have hla := ha.ll
 have hlb := hb.ll
 unfold catchmentref06_AlikeAt.f
 rw [Value_eq _ _ _ _ _ (by omega) ha.od (by omega), Option.bind_some, Value_eq _ _ _ _ _ (by omega) hb.od (by omega), Option.bind_some, Value_eq _ _ _ _ _ (by omega) ha.od (by omega), Option.bind_some, Value_eq _ _ _ _ _ (by omega) hb.od (by omega), Option.bind_some]
 unfold atV sameO
 show (if (valueV a s v true).1.toList = (valueV b s v true).1.toList then _ else _) = _
 generalize valueV a s v true = p
 generalize valueV b s v true = q
 generalize valueV a s e0 false = p2
 generalize valueV b s e0 false = q2
 unfold same
 by_cases h1 : p.1.toList = q.1.toList
 ·cases h2 : (p.2 == q.2)
  ·simp [h1, h2]
  ·by_cases h3 : p2.1.toList = q2.1.toList
   ·simp [h1, h2, h3]
   ·simp [h1, h2, h3]
 ·simp [h1]
def keysR (m : Ms) : List ByteArray := [m.f2, m.f3, succB m.f2, succB m.f3]
def keysL (l : List Ms) : List ByteArray := keys0 ++ l.flatMap keysR
theorem keysR_loop (L : List Ms) (hL : L.length ≤ 100000) (hs : ∀ m ∈ L, okS2 m) : ∀ (l : List Ms) (k i : Nat) (o : List ByteArray), L.drop i = l → i ≤ L.length → o.length + 4 * l.length ≤ 1000000 → l.length < k → catchmentref06_keys.l0 k L o (i : Int) = some (o ++ l.flatMap keysR) := by
 intro l
 induction l with
 | nil =>
  intro k i o hd hi _ hk
  obtain ⟨k, rfl⟩ : ∃ m, k = m + 1 := ⟨k - 1, by omega⟩
  have := drop_none hd hi
  rw [catchmentref06_keys.l0, if_neg (by omega)]
  simp
 | cons x l ih =>
  intro k i o hd hi ho hk
  simp only [List.length_cons] at ho hk
  obtain ⟨k, rfl⟩ : ∃ m, k = m + 1 := ⟨k - 1, by omega⟩
  obtain ⟨hlt, hx, hd2, _, hmem⟩ := drop_any hd
  have h2 := hs x hmem
  unfold okS2 at h2
  rw [catchmentref06_keys.l0, if_pos (by omega), if_pos (by omega), rdM_at hx, if_pos (by omega), if_pos (by omega), Option.bind_some, if_pos (by show o.length + 4 < _; omega), wrap1 (by omega)]
  rw [ih k (i + 1) _ hd2 (by omega) (by rw [List.length_append]; show o.length + 4 + _ ≤ _; omega) (by omega)]
  rw [List.flatMap_cons, List.append_assoc]
  rfl
theorem succ_e0 : succB e0 = ⟨#[0]⟩ := by decide
theorem keysR_eq (k : Nat) (L : List Ms) (hL : L.length ≤ 100000) (hs : ∀ m ∈ L, okS2 m) (hk : L.length < k) : catchmentref06_keys.f k L = some (keysL L) := by
 unfold catchmentref06_keys.f keysL keys0
 rw [succ_e0]
 exact keysR_loop L hL hs L k 0 _ rfl (by omega) (by simp; omega) hk
theorem valuesR_loop (L : List Ms) (hL : L.length ≤ 100000) : ∀ (l : List Ms) (k i : Nat) (o : List ByteArray), L.drop i = l → i ≤ L.length → o.length + l.length ≤ 1000000 → l.length < k → catchmentref06_values.l0 k L o (i : Int) = some (o ++ l.flatMap valM) := by
 intro l
 induction l with
 | nil =>
  intro k i o hd hi _ hk
  obtain ⟨k, rfl⟩ : ∃ m, k = m + 1 := ⟨k - 1, by omega⟩
  have := drop_none hd hi
  rw [catchmentref06_values.l0, if_neg (by omega)]
  simp
 | cons x l ih =>
  intro k i o hd hi ho hk
  simp only [List.length_cons] at ho hk
  obtain ⟨k, rfl⟩ : ∃ m, k = m + 1 := ⟨k - 1, by omega⟩
  obtain ⟨hlt, hx, hd2, _, hmem⟩ := drop_any hd
  rw [catchmentref06_values.l0, if_pos (by omega), if_pos (by omega), rdM_at hx, wrap1 (by omega), List.flatMap_cons]
  by_cases h1 : x.f0 = 1
  ·rw [if_pos h1, if_pos (by omega), ih k (i + 1) _ hd2 (by omega) (by simp; omega) (by omega)]
   simp [valM, h1]
  ·rw [if_neg h1, ih k (i + 1) _ hd2 (by omega) (by omega) (by omega)]
   simp [valM, h1]
theorem valuesR_eq (k : Nat) (L : List Ms) (hL : L.length ≤ 100000) (hk : L.length + 9 < k) : catchmentref06_values.f k L = some (marksV L) := by
 unfold catchmentref06_values.f marksV
 obtain ⟨k, rfl⟩ : ∃ m, k = m + 9 := ⟨k - 9, by omega⟩
 rw [ref03_Put_eq _ _ (by decide) (by decide), Option.bind_some, ref03_Put_eq _ _ (by decide) (by decide), Option.bind_some]
 exact valuesR_loop L hL L (k + 9) 0 _ rfl (by omega) (by simp; omega) (by omega)
theorem ralike_in (a b : List Ms) (n0 : Nat) (hn0 : n0 ≤ 1000) (ha : Ok7 n0 a) (hb : Ok7 n0 b) (s : ByteArray) (K V : List ByteArray) (hV : V.length ≤ 100000) (i n : Nat) (r0 : Bool) (hi : K[i]? = some s) (hi2 : i < 1000000) (hn : n0 + 13 ≤ n) (h0 : catchmentref06_Alike.l0 n a b K V ((i + 1 : Nat) : Int) = some r0) :
  ∀ (l : List ByteArray) (j d : Nat), V.drop j = l → j ≤ V.length → l.length = d → catchmentref06_Alike.l1 (n + 1 + d) a b K V (i : Int) (j : Int) = some (l.all (fun x => atV a b s x) && r0) := by
 intro l
 have hlt := (List.getElem?_eq_some_iff.1 hi).1
 induction l with
 | nil =>
  intro j d hd hj hl
  subst hl
  have := drop_none hd hj
  rw [List.length_nil, Nat.add_zero, catchmentref06_Alike.l1, if_neg (by omega), wrap1 (by omega), h0]
  rfl
 | cons x l ih =>
  intro j d hd hj hl
  subst hl
  obtain ⟨hltj, hx, hd2, _, _⟩ := drop_any hd
  rw [List.length_cons, show n + 1 + (l.length + 1) = (n + 1 + l.length) + 1 by omega, catchmentref06_Alike.l1, if_pos (by omega), if_pos (by omega), if_pos (by omega), if_pos (by omega), rdS_at hi, rdS_at hx, AlikeAt_eq hn0 ha hb _ (by omega), Option.bind_some, wrap1 (by omega), ih (j + 1) l.length hd2 (by omega) rfl, List.all_cons]
  split
  ·rename_i h; rw [h, Bool.true_and]
  ·rename_i h
   have h : atV a b s x = false := by simpa using h
   rw [h]; rfl
theorem ralike_out (a b : List Ms) (n0 : Nat) (hn0 : n0 ≤ 1000) (ha : Ok7 n0 a) (hb : Ok7 n0 b) (K V : List ByteArray) (hK : K.length ≤ 100000) (hV : V.length ≤ 100000) (m : Nat) (hm : n0 + 13 ≤ m) :
  ∀ (l : List ByteArray) (i : Nat), K.drop i = l → i ≤ K.length → catchmentref06_Alike.l0 (m + l.length * (V.length + 2) + 1) a b K V (i : Int) = some (l.all (fun s => V.all (fun x => atV a b s x))) := by
 intro l
 induction l with
 | nil =>
  intro i hd hi
  have := drop_none hd hi
  rw [catchmentref06_Alike.l0, if_neg (by omega)]
  rfl
 | cons s l ih =>
  intro i hd hi
  obtain ⟨hlt, hx, hd2, _, _⟩ := drop_any hd
  have h0 := ih (i + 1) hd2 (by omega)
  have hge : n0 + 13 ≤ m + l.length * (V.length + 2) + 1 := by have := Nat.zero_le (l.length * (V.length + 2)); omega
  have hl1 := ralike_in a b n0 hn0 ha hb s K V hV i _ _ hx (by omega) hge h0 V 0 V.length rfl (by omega) rfl
  have hm2 : (l.length + 1) * (V.length + 2) = l.length * (V.length + 2) + (V.length + 2) := by rw [Nat.add_mul, Nat.one_mul]
  rw [List.length_cons, hm2, show m + (l.length * (V.length + 2) + (V.length + 2)) + 1 = (m + l.length * (V.length + 2) + 1 + 1 + V.length) + 1 by omega, catchmentref06_Alike.l0, if_pos (by omega), List.all_cons]
  exact hl1
def ralikeV (a b : List Ms) : Bool := (keysL (a ++ b)).all (fun s => (marksV (a ++ b)).all (fun x => atV a b s x))
theorem ref06_Alike_eq {a b : List Ms} {n0 : Nat} (hn0 : n0 ≤ 60) (ha : Ok7 n0 a) (hb : Ok7 n0 b) (k : Nat) (hk : 70000 ≤ k) : catchmentref06_Alike.f k a b = some (ralikeV a b) := by
 have hla := ha.ll
 have hlb := hb.ll
 have hs : ∀ m ∈ a ++ b, okS2 m := fun m hm => (List.mem_append.1 hm).elim (ha.o2 m) (hb.o2 m)
 have hll : (a ++ b).length ≤ 120 := by rw [List.length_append]; omega
 unfold catchmentref06_Alike.f
 rw [Option.bind_some, if_pos (by simp; omega), Option.bind_some, List.nil_append, if_pos (by omega), Option.bind_some, keysR_eq _ _ (by omega) hs (by omega), Option.bind_some, valuesR_eq _ _ (by omega) (by omega), Option.bind_some]
 have hK : (keysL (a ++ b)).length ≤ 482 := by
  have e : ∀ l : List Ms, (l.flatMap keysR).length = 4 * l.length := fun l => by
   induction l with
   | nil => rfl
   | cons m l ih => rw [List.flatMap_cons, List.length_append, ih, List.length_cons]; simp [keysR]; omega
  unfold keysL
  rw [List.length_append, e]
  show 2 + _ ≤ _
  omega
 have hV := Cp.marksV_length (a ++ b)
 have hp : (keysL (a ++ b)).length * ((marksV (a ++ b)).length + 2) ≤ 482 * 125 := Nat.mul_le_mul (by omega) (by omega)
 obtain ⟨m, hm⟩ : ∃ m, k = m + (keysL (a ++ b)).length * ((marksV (a ++ b)).length + 2) + 1 := ⟨k - (keysL (a ++ b)).length * ((marksV (a ++ b)).length + 2) - 1, by omega⟩
 subst hm
 exact ralike_out a b n0 (by omega) ha hb (keysL (a ++ b)) (marksV (a ++ b)) (by omega) (by omega) m (by omega) (keysL (a ++ b)) 0 rfl (by omega)
theorem keys_same (l : List Ms) (s : ByteArray) : s ∈ keysL l ↔ s ∈ marksK l := by
 unfold keysL marksK
 rw [List.mem_append, List.mem_append, List.mem_flatMap, List.mem_flatMap]
 refine or_congr Iff.rfl (exists_congr (fun m => and_congr Iff.rfl ?_))
 simp only [keysR, keysM, List.mem_cons, List.not_mem_nil, or_false]
 constructor
 ·rintro (h | h | h | h) <;> simp [h]
 ·rintro (h | h | h | h) <;> simp [h]
theorem alike_same (a b : List Ms) : alikeV a b = ralikeV a b := by
 unfold alikeV ralikeV atV
 rw [Bool.eq_iff_iff, List.all_eq_true, List.all_eq_true]
 constructor
 ·intro h s hs
  have := h s ((keys_same _ s).1 hs)
  rw [Bool.and_eq_true, List.all_eq_true] at this
  rw [List.all_eq_true]
  intro x hx
  rw [this.1, this.2 x hx]; rfl
 ·intro h s hs
  have := List.all_eq_true.1 (h s ((keys_same _ s).2 hs))
  rw [Bool.and_eq_true, List.all_eq_true]
  have h1 := this e0 (e0_val _)
  rw [Bool.and_eq_true] at h1
  refine ⟨h1.2, fun x hx => ?_⟩
  have h2 := this x hx
  rw [Bool.and_eq_true] at h2
  exact h2.1
end Go.Proofs.Ytebejadiaooooaa.P
end
section
namespace Go.Proofs.Ytebejadiaooooaa.Pure
open Go.RowKit Go.Proofs.Ytebejadiaooooaa.P Go.Proofs.YtebejadiaooooaaW.PrintWords Go.Proofs.YtebejadiaooooaaW.PrintLast Go.Proofs.YtebejadiaooooaaW.PrintMore Go.Proofs.Ytebejadiaooooaa.Own Go.Proofs.Ytebejadiaooooaa
open Go.Proofs.Ytebejadiaooooaa.Cp (okS2)
theorem live37_s : catchmentlaw37_live.f 75000 = some true := by kernel_rfl
theorem Point4_s (k q : Int) (y t v : ByteArray) (d : Int) : catchmentref04_Point.f k q y t v d = some (isPt k) := by
 unfold catchmentref04_Point.f isPt
 by_cases h : k ≥ 1
 ·rw [if_pos h]
  congr 1
  rw [Bool.eq_iff_iff]
  simp only [decide_eq_true_eq]
  omega
 ·rw [if_neg h]
  congr 1
  symm
  rw [decide_eq_false_iff_not]
  omega
theorem Span4_s (k q : Int) (y t v : ByteArray) (d : Int) (h : y.size ≤ 140737488351232) : catchmentref04_Span.f k q y t v d = some (span k y t) := by
 unfold catchmentref04_Span.f span
 rw [Point4_s]
 simp only [Option.bind_some]
 cases isPt k
 ·by_cases h4 : k = 4 <;> simp [h4]
 ·simp only [if_true]
  rw [if_pos (by omega)]
  rfl
theorem rgt_s (f t : ByteArray) : Wm.rgt f t = rr f t := by
 unfold Wm.rgt rr emp lt
 by_cases h : t.toList = [] <;> simp [h]
theorem bfr_s (a b : ByteArray) : Wm.bfr a b = before a b := by
 unfold Wm.bfr before emp lt
 by_cases h1 : a.toList = []
 ·simp [h1]
 ·by_cases h2 : b.toList = [] <;> simp [h1, h2]
theorem meet_s (f t g u : ByteArray) : Wm.meet f t g u = meet f t g u := by
 have e1 : Wm.gtr f g = mxs f g := rfl
 have e2 : Wm.lst t u = first t u := by unfold Wm.lst first; rw [bfr_s]
 unfold Wm.meet meet
 rw [rgt_s, rgt_s, rgt_s, e1, e2]
 cases rr f t <;> cases rr g u <;> cases rr (mxs f g) (first t u) <;> rfl
def spanM (m : Ms) : ByteArray × ByteArray := span m.f0 m.f2 m.f3
def bothM (x y : Ms) : Bool := (meet (spanM x).1 (spanM x).2 (spanM y).1 (spanM y).2).2.2
theorem touch_span {m : Ms} {s : ByteArray} (h : touchesM m s = true) : holds (spanM m).1 (spanM m).2 s = true := by
 unfold touchesM touches at h
 unfold spanM span
 by_cases hp : isPt m.f0 = true
 ·rw [if_pos hp]
  have h4 : ¬ m.f0 = 4 := isPt_ne4 hp
  simp only [hp, Bool.true_and, decide_eq_false h4, Bool.false_and, Bool.or_false] at h
  obtain rfl := same_iff.1 h
  unfold holds
  rw [lt_irrefl, lt_succB_self]
  simp
 ·rw [if_neg hp]
  have hp' : isPt m.f0 = false := by simpa using hp
  simp only [hp', Bool.false_and, Bool.false_or, Bool.and_eq_true, decide_eq_true_eq] at h
  rw [if_pos h.1]
  exact h.2
theorem both_touch {x y : Ms} {s : ByteArray} (hx : touchesM x s = true) (hy : touchesM y s = true) : bothM x y = true := by
 have a := touch_span hx
 have b := touch_span hy
 have c := holds_meet (spanM x).1 (spanM x).2 (spanM y).1 (spanM y).2 s
 rw [a, b] at c
 have d := holds_rr (c.trans rfl)
 unfold bothM meet
 rw [holds_rr a, holds_rr b, d]
 rfl
def apartV (l m : List Ms) : Bool := l.all fun x => m.all fun y => !bothM x y
theorem swap_apart {l m : List Ms} (h : apartV l m = true) : alikeV (l ++ m) (m ++ l) = true := by
 refine alike_of (fun s p hp => ?_)
 rw [doAll_append, doAll_append]
 by_cases hl : ∀ x ∈ l, touchesM x s = false
 ·rw [doAll_far hp hl, doAll_far (tidy_doAll s m p hp) hl]
 ·have hm : ∀ y ∈ m, touchesM y s = false := fun y hy => by
   cases hy2 : touchesM y s with
   | false => rfl
   | true =>
    refine absurd (fun x hx => ?_) hl
    cases hx2 : touchesM x s with
    | false => rfl
    | true =>
     have h1 := List.all_eq_true.1 (List.all_eq_true.1 h x hx) y hy
     rw [both_touch hx2 hy2] at h1
     exact absurd h1 (by decide)
  rw [doAll_far hp hm, doAll_far (tidy_doAll s l p hp) hm]
theorem swaps_in (l m : List Ms) (hl : l.length ≤ 20) (hm : m.length ≤ 20) (ol : ∀ x ∈ l, x.f2.size ≤ 140737488351232) (om : ∀ x ∈ m, x.f2.size ≤ 140737488351232) (s v : ByteArray) (sw : Bool) (i : Nat) (x : Ms) (hi : l[i]? = some x) (n : Nat) :
  ∀ (q : List Ms) (k j : Nat) (b : Bool), m.drop j = q → j ≤ m.length → k = n + q.length + 1 → catchmentlaw37_DeltaSwaps.l1 k l m s v sw b (i : Int) (j : Int) = catchmentlaw37_DeltaSwaps.l0 n l m s v sw (b && q.all fun y => !bothM x y) ((i + 1 : Nat) : Int) := by
 have hil : i < l.length := (List.getElem?_eq_some_iff.1 hi).1
 have hxm : x ∈ l := List.mem_of_getElem? hi
 intro q
 induction q with
 | nil =>
  intro k j b hd hj hk
  subst hk
  have := drop_none hd hj
  rw [List.length_nil, Nat.add_zero, catchmentlaw37_DeltaSwaps.l1, if_neg (by omega), wrap1 (by omega)]
  simp
 | cons y q ih =>
  intro k j b hd hj hk
  simp only [List.length_cons] at hk
  subst hk
  obtain ⟨hlt, hy, hd2, _, hmem⟩ := drop_any hd
  rw [catchmentlaw37_DeltaSwaps.l1, if_pos (by omega), if_pos (by omega), if_pos (by omega), rdM_at hi, rdM_at hy, Span4_s _ _ _ _ _ _ (ol x hxm), Option.bind_some, if_pos (by omega), Span4_s _ _ _ _ _ _ (om y hmem), Option.bind_some]
  unfold catchmentref02_Meet.f
  rw [Option.bind_some, meet_s, wrap1 (by omega)]
  have e : (meet (span x.f0 x.f2 x.f3).1 (span x.f0 x.f2 x.f3).2 (span y.f0 y.f2 y.f3).1 (span y.f0 y.f2 y.f3).2).2.2 = bothM x y := rfl
  rw [e, ih (n + (q.length + 1)) (j + 1) _ hd2 (by omega) (by omega), ih (n + (q.length + 1)) (j + 1) _ hd2 (by omega) (by omega), List.all_cons]
  cases b <;> simp
theorem swaps_out (l m : List Ms) (hl : l.length ≤ 20) (hm : m.length ≤ 20) (ol : ∀ x ∈ l, x.f2.size ≤ 140737488351232) (om : ∀ x ∈ m, x.f2.size ≤ 140737488351232) (s v : ByteArray) (sw : Bool) (n : Nat) :
  ∀ (q : List Ms) (k i : Nat) (b : Bool), l.drop i = q → i ≤ l.length → k = n + q.length * (m.length + 2) + 1 → catchmentlaw37_DeltaSwaps.l0 k l m s v sw b (i : Int) = catchmentlaw37_DeltaSwaps.j2 n l m s v sw ((b && apartV q m) && !sw) := by
 intro q
 induction q with
 | nil =>
  intro k i b hd hi hk
  subst hk
  have := drop_none hd hi
  rw [List.length_nil, Nat.zero_mul, Nat.add_zero, catchmentlaw37_DeltaSwaps.l0, if_neg (by omega)]
  cases b <;> simp [apartV]
 | cons x q ih =>
  intro k i b hd hi hk
  obtain ⟨hlt, hx, hd2, _, hmem⟩ := drop_any hd
  have e : k = ((n + q.length * (m.length + 2) + 1) + m.length + 1) + 1 := by
   rw [hk, List.length_cons, Nat.add_mul, Nat.one_mul]; omega
  rw [e, catchmentlaw37_DeltaSwaps.l0, if_pos (by omega)]
  have h := swaps_in l m hl hm ol om s v sw i x hx (n + q.length * (m.length + 2) + 1) m ((n + q.length * (m.length + 2) + 1) + m.length + 1) 0 b rfl (Nat.zero_le _) rfl
  rw [show ((0 : Nat) : Int) = 0 from rfl] at h
  rw [h, ih _ (i + 1) _ hd2 (by omega) rfl]
  unfold apartV
  rw [List.all_cons, Bool.and_assoc b]
theorem Swap_s {a b : List Ms} (hA : Ok7 40 (a ++ b)) (hB : Ok7 40 (b ++ a)) (k : Nat) (hk : 70000 ≤ k) : delta_Swap.f k a b = some (alikeV (a ++ b) (b ++ a)) := by
 unfold delta_Swap.f
 have e : ∀ x y : List Ms, (x ++ y).length ≤ 40 → api_Msg_84.f [x, y] = some (x ++ y) := fun x y h => by
  unfold api_Msg_84.f Sw.concatF
  have e2 : ([x, y] : List (List Ms)).flatten = x ++ y := by simp
  rw [e2, if_pos ⟨by simp, by omega⟩]
 rw [e a b hA.ll, Option.bind_some, e b a hB.ll, Option.bind_some, Alike_eq (by decide) hA hB k hk, Option.bind_some]
theorem rSwap_s {a b : List Ms} (ha : a.length ≤ 20) (hb : b.length ≤ 20) (hA : Ok7 40 (a ++ b)) (hB : Ok7 40 (b ++ a)) (k : Nat) (hk : 70000 ≤ k) : catchmentref37_Swap.f k a b = some (alikeV (a ++ b) (b ++ a)) := by
 unfold catchmentref37_Swap.f
 simp only [Option.bind_some, List.nil_append, List.length_nil, Nat.zero_add]
 rw [if_pos (by omega), if_pos (by omega), if_pos (by omega), if_pos (by omega), ref06_Alike_eq (by decide) hA hB k hk, Option.bind_some, alike_same]
theorem DeltaSwaps : ∀ (x0 : (List S32)) (x1 : (List S32)) (x2 : ByteArray) (x3 : ByteArray), (x0.length * 72 ≤ 140737488351232 ∧ ∀ a_ ∈ x0, wf32 a_) → (x1.length * 72 ≤ 140737488351232 ∧ ∀ a_ ∈ x1, wf32 a_) → (x2.size ≤ 140737488351232) → (x3.size ≤ 140737488351232) → ∃ k, catchmentlaw37_DeltaSwaps.f k x0 x1 x2 x3 = some true := by
 intro x0 x1 x2 x3 w0 w1 w2 w3
 have cut : ∀ l : List Ms, (0 ≤ mn (l.length : Int) 20 ∧ mn (l.length : Int) 20 ≤ (l.length : Int)) ∧ l.take (mn (l.length : Int) 20).toNat = l.take 20 := fun l => by
  refine ⟨by unfold mn; split <;> omega, ?_⟩
  unfold mn
  split
  ·rfl
  ·rw [Int.toNat_natCast, List.take_length, List.take_of_length_le (by omega)]
 have od : ∀ l : List Ms, (∀ a_ ∈ l, wf32 a_) → ∀ m ∈ l.take 20, okD m := fun l h m hm => by
  have h1 := (h m (List.mem_of_mem_take hm)).2.2.2.2.2
  simp [Lit.wf, IntKind.min, IntKind.max, IntKind.signed, IntKind.bits] at h1
  unfold okD
  omega
 have o2 : ∀ l : List Ms, (∀ a_ ∈ l, wf32 a_) → ∀ m ∈ l.take 20, okS2 m := fun l h m hm => have h := h m (List.mem_of_mem_take hm); ⟨h.2.2.1, h.2.2.2.1⟩
 have oda := od x0 w0.2
 have odb := od x1 w1.2
 have o2a := o2 x0 w0.2
 have o2b := o2 x1 w1.2
 have la : (x0.take 20).length ≤ 20 := by simp; omega
 have lb : (x1.take 20).length ≤ 20 := by simp; omega
 refine ⟨(75001 + (x0.take 20).length * ((x1.take 20).length + 2)) + 1, ?_⟩
 unfold catchmentlaw37_DeltaSwaps.f
 rw [if_pos (cut x0).1.1, if_pos (cut x0).1.2, Option.bind_some, if_pos (cut x1).1.1, if_pos (cut x1).1.2, Option.bind_some, (cut x0).2, (cut x1).2]
 clear od o2 cut w0 w1
 generalize x0.take 20 = a at *
 generalize x1.take 20 = b at *
 have app : ∀ (p : Ms → Prop) (l m : List Ms), (∀ x ∈ l, p x) → (∀ x ∈ m, p x) → ∀ x ∈ l ++ m, p x := fun p l m hl hm x hx => (List.mem_append.1 hx).elim (hl x) (hm x)
 have hA : Ok7 40 (a ++ b) := ⟨by rw [List.length_append]; omega, app _ _ _ oda odb, app _ _ _ o2a o2b⟩
 have hB : Ok7 40 (b ++ a) := ⟨by rw [List.length_append]; omega, app _ _ _ odb oda, app _ _ _ o2b o2a⟩
 have live : catchmentlaw37_live.f 75000 = some true := live37_s
 rw [Swap_s hA hB _ (by omega), Option.bind_some, rSwap_s la lb hA hB _ (by omega), Option.bind_some, if_neg (by simp)]
 have h := swaps_out a b la lb (fun x hx => (o2a x hx).1) (fun x hx => (o2b x hx).1) x2 x3 (alikeV (a ++ b) (b ++ a)) 75001 a _ 0 true rfl (Nat.zero_le _) rfl
 rw [show ((0 : Nat) : Int) = 0 from rfl] at h
 rw [h, Bool.true_and]
 have no : (apartV a b && !alikeV (a ++ b) (b ++ a)) = false := by
  cases hp : apartV a b with
  | false => rfl
  | true => rw [swap_apart hp]; rfl
 rw [no]
 show catchmentlaw37_DeltaSwaps.j2 (75000 + 1) a b x2 x3 _ false = _
 rw [catchmentlaw37_DeltaSwaps.j2, if_neg (by simp)]
 simp only [Option.bind_some, List.nil_append, List.length_nil, Nat.zero_add]
 rw [if_pos (by omega), if_pos (by omega), if_pos (by omega), if_pos (by omega), live, Option.bind_some, if_pos rfl]
 cases hs : alikeV (a ++ b) (b ++ a) with
 | false => rw [if_neg (by simp)]
 | true => rw [if_pos rfl, AlikeAt_eq (by decide) hA hB _ (by decide), Option.bind_some, alike_at hA.od hB.od hs]
end Go.Proofs.Ytebejadiaooooaa.Pure
end
section
namespace Go.Proofs.Ytebejadiaooooaa.deltaSwaps
open Go.ChangeShapes Go.WideShapes Go.ChangeAt Go.RowKit Go.Proofs.Ytebejadiaooooaa.P Go.Proofs.Ytebejadiaooooaa.Rd Go.Proofs.YtebejadiaooooaaW.PrintWords
open Go.ChangeMaps (open_string shut_string)
theorem own : ownKnob Try.prog.godebug = none := by kernel_rfl
theorem laidOut : laidOutB Try.prog = true := by kernel_rfl
set_option maxHeartbeats 2000000 in
set_option maxRecDepth 100000 in
theorem lifted (os : Os) (started : os.Started) (H : Type) (enc : TypeId × Value → H) :
  ReturnsInHanded {} Try.checked os 12 .any (Rows.deltaSwapsSpec.pre6 enc Try.prog Try.f12 Rows.deltaSwapsRow.domain false) (Rows.deltaSwapsSpec.post enc Try.prog Try.f12 false true false false) := by
 refine returnsInHanded_of_change_sized (C := Try.checked) own started (by kernel_rfl) Try.func12
  (ChangeSpec.witness6 (enc := enc) (C := Try.checked) false ⟨#[], #[.slice none 0 0, .slice none 0 0, .string ByteArray.empty, .string ByteArray.empty], []⟩ 8 (by kernel_rfl) (by kernel_rfl) (by kernel_rfl) (by kernel_rfl)) ?_
 intro W base args ds gs before hval0 hW hcnd hsz0 _
 have hsz : (DataW.weightsEach Try.prog (Try.f12.params.toList ++ Rows.deltaSwapsSpec.plain.varTypes Try.prog) (ds ++ gs)).all (· ≤ reachBytes) = true := hsz0
 have hval : ∀ (j : Nat) t v, Try.f12.params[j]? = some t → args[j]? = some v → Value.okWide Try.prog W .any base t v := hval0
 have hW' := hW
 obtain ⟨p, q, hA0, hV, rfl, hfz, hnd⟩ := hW
 have hA : DataW.TrodAll enc Try.prog W 0 (fun _ => true) true Try.f12.params.toList args.toList ds p := hA0
 rw [Try.params12] at hA hval hsz
 obtain ⟨v0, vs0, d0, ds0, p0, q0, hargs, rfl, rfl, h0, r0⟩ := trodAll_cons hA
 obtain ⟨v1, vs1, d1, ds1, p1, q1, rfl, rfl, rfl, h1, r1⟩ := trodAll_cons r0
 obtain ⟨v2, vs2, d2, ds2, p2, q2, rfl, rfl, rfl, h2, r2⟩ := trodAll_cons r1
 obtain ⟨v3, vs3, d3, ds3, p3, q3, rfl, rfl, rfl, h3, r3⟩ := trodAll_cons r2
 obtain ⟨rfl, rfl, rfl⟩ := trodAll_nil r3
 obtain rfl : args = #[v0, v1, v2, v3] := by cases args; simp_all
 obtain ⟨rfl, rfl⟩ := trodVars_none hV
 have k0 := h0
 have lt0 : ∀ x ∈ p0, x.block < W.heap.size := by obtain ⟨m, hm⟩ := k0; exact DataW.trod_lt m _ _ _ hm
 have ww0 : ∀ n ∈ d0.weights Try.prog 22, n ≤ reachBytes := fun n hn => by simpa using List.all_eq_true.1 hsz n (DataW.weights_mem_each (j := 0) rfl rfl n hn)
 obtain ⟨ad0, len0, cap0, rfl⟩ := okWide_slice Try.underlying22 (hval 0 22 v0 rfl rfl)
 obtain ⟨fu0, hf0⟩ := h0
 obtain ⟨x0, kx0, w0⟩ := o22.down hf0 ww0
 obtain ⟨A0, c0, e0, hc0, hr0⟩ := kx0
 obtain ⟨rfl, rfl, rfl⟩ : ad0 = A0 ∧ len0 = x0.length ∧ cap0 = c0 := by simpa [Value.cells] using e0
 have k1 := h1
 have lt1 : ∀ x ∈ p1, x.block < W.heap.size := by obtain ⟨m, hm⟩ := k1; exact DataW.trod_lt m _ _ _ hm
 have ww1 : ∀ n ∈ d1.weights Try.prog 22, n ≤ reachBytes := fun n hn => by simpa using List.all_eq_true.1 hsz n (DataW.weights_mem_each (j := 1) rfl rfl n hn)
 obtain ⟨ad1, len1, cap1, rfl⟩ := okWide_slice Try.underlying22 (hval 1 22 v1 rfl rfl)
 obtain ⟨fu1, hf1⟩ := h1
 obtain ⟨x1, kx1, w1⟩ := o22.down hf1 ww1
 obtain ⟨A1, c1, e1, hc1, hr1⟩ := kx1
 obtain ⟨rfl, rfl, rfl⟩ : ad1 = A1 ∧ len1 = x1.length ∧ cap1 = c1 := by simpa [Value.cells] using e1
 have k2 := h2
 have lt2 : ∀ x ∈ p2, x.block < W.heap.size := by obtain ⟨m, hm⟩ := k2; exact DataW.trod_lt m _ _ _ hm
 have ww2 : ∀ n ∈ d2.weights Try.prog 9, n ≤ reachBytes := fun n hn => by simpa using List.all_eq_true.1 hsz n (DataW.weights_mem_each (j := 2) rfl rfl n hn)
 obtain ⟨y2, rfl⟩ := okWide_string Try.underlying9 (hval 2 9 v2 rfl rfl)
 obtain ⟨fu2, hf2⟩ := h2
 obtain ⟨x2, kx2, w2⟩ := o9.down hf2 ww2
 obtain rfl : x2 = y2 := Eq.symm (by simpa [Value.cells, Kd.string, Kd.scalar] using kx2)
 have k3 := h3
 have lt3 : ∀ x ∈ p3, x.block < W.heap.size := by obtain ⟨m, hm⟩ := k3; exact DataW.trod_lt m _ _ _ hm
 have ww3 : ∀ n ∈ d3.weights Try.prog 9, n ≤ reachBytes := fun n hn => by simpa using List.all_eq_true.1 hsz n (DataW.weights_mem_each (j := 3) rfl rfl n hn)
 obtain ⟨y3, rfl⟩ := okWide_string Try.underlying9 (hval 3 9 v3 rfl rfl)
 obtain ⟨fu3, hf3⟩ := h3
 obtain ⟨x3, kx3, w3⟩ := o9.down hf3 ww3
 obtain rfl : x3 = y3 := Eq.symm (by simpa [Value.cells, Kd.string, Kd.scalar] using kx3)
 clear hA0 hval0 hsz0 hsz
 obtain ⟨k_, hp⟩ := Pure.DeltaSwaps x0 x1 x2 x3 w0 w1 w2 w3
 refine (catchmentlaw37_DeltaSwaps.calls (k := k_) (r := true) (w := W) (hr0 := hr0) (hc0 := hc0) (hr1 := hr1) (hc1 := hc1) (h := hp)).mono fun e W' ⟨he, bel0⟩ => ?_
 have bel : Below W.heap.size W W' := bel0
 subst he
 exact ⟨_, rfl, _, _, _, [], _, [], hW', trodAll_mk1 (shut_bool Try.underlying4 _), (trodAll_cons_mk (Below.trod laidOut (by kernel_rfl) (of_decide_eq_true (by kernel_rfl)) k0 bel lt0) (trodAll_cons_mk (Below.trod laidOut (by kernel_rfl) (of_decide_eq_true (by kernel_rfl)) k1 bel lt1) (trodAll_cons_mk (Below.trod laidOut (by kernel_rfl) (of_decide_eq_true (by kernel_rfl)) k2 bel lt2) (trodAll_cons_mk (Below.trod laidOut (by kernel_rfl) (of_decide_eq_true (by kernel_rfl)) k3 bel lt3) trodAll_mk0)))), rfl, bel.frame _, fun h => by cases h⟩
theorem over : Rows.deltaSwapsRow.holds Try.pinned (OpenSpec.ofChange Rows.deltaSwapsSpec) :=
 OpenClaim.holds_of_wide 12 Try.f12 rfl rfl rfl rfl rfl rfl rfl ⟨rfl, rfl, rfl, rfl, rfl⟩ rfl rfl rfl rfl rfl (by kernel_rfl) Try.func12 (by kernel_rfl)
  (of_decide_eq_true (by kernel_rfl)) (by unfold Func.isWrapper; first | (rw [if_pos (by decide +kernel)]; kernel_rfl) | (rw [if_neg (by decide +kernel)]; exact ⟨rfl, rfl⟩))
  (fun os started H enc _ => lifted os started H enc)
end Go.Proofs.Ytebejadiaooooaa.deltaSwaps
namespace Go.Proofs.Ytebejadiaooooaa
theorem deltaSwaps_holds : Rows.DeltaSwapsSaid := deltaSwaps.over
#print axioms deltaSwaps_holds
end Go.Proofs.Ytebejadiaooooaa
end
