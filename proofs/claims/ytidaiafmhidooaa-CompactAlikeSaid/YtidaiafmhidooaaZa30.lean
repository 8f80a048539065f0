/- Texts of one claim (laid by shake.py). -/
import Derived.Test.YtidaiafmhidooaaZa0
import Derived.Deep.Slices
import Derived.ChangeArms
import Derived.SizedLaws
import Derived.OpenShut
import Derived.Test.YtidaiafmhidooaaZa3
import Derived.Test.YtidaiafmhidooaaZa18
import Derived.Test.YtidaiafmhidooaaZa20
import Derived.Test.YtidaiafmhidooaaZa21
import Derived.Test.YtidaiafmhidooaaZa4
import Derived.Test.YtidaiafmhidooaaZa28
import Derived.Test.YtidaiafmhidooaaZa11
import Derived.Test.YtidaiafmhidooaaZa10
import Derived.Test.YtidaiafmhidooaaZa12
import Derived.Test.YtidaiafmhidooaaZa9
import Derived.Test.YtidaiafmhidooaaZa29
set_option linter.unusedVariables false
set_option linter.unusedSimpArgs false
section
namespace Go.Proofs.Ytidaiafmhidooaa.Rd
open Go.RowKit Go.ChangeShapes Go.WideShapes Go.Deep Go.Proofs.YtidaiafmhidooaaW.PrintWords
structure Opens {α : Type} (P : Program) (t : TypeId) (d : Kd α) (wf : α → Prop) : Prop where
 cells : P.cellsOf t = d.sz
 down : ∀ {H : Type} {enc : TypeId × Value → H} {w : World} {base : Nat} {spare : Nat → Bool} {held : Bool} {fuel : Nat} {cs : List Value} {x : DataW H × List MemPlace},
  DataW.trod enc P w base spare held fuel t cs = some x → (∀ n ∈ x.1.weights P t, n ≤ reachBytes) → ∃ a, d.K w a cs ∧ wf a
theorem mem_weightsAll {H : Type} {P : Program} {e : TypeId} {d : DataW H} : ∀ {l : List (DataW H)}, d ∈ l → ∀ n ∈ d.weights P e, n ∈ DataW.weightsAll P e l
 | x :: l, hd, n, hn => by
  simp only [DataW.weightsAll, List.mem_append]
  rcases List.mem_cons.1 hd with rfl | hd
  ·exact .inl hn
  ·exact .inr (mem_weightsAll hd n hn)
theorem Opens.int {P : Program} {t : TypeId} {k : IntKind} (ht : P.underlying t = some (.int k)) (hc : P.cellsOf t = 1) : Opens P t (Kd.int k) (fun n => (Lit.int k n).wf = true) where
 cells := hc
 down := by
  intro H enc w base spare held fuel cs x h _
  obtain ⟨n, rfl, _, hw⟩ := DataW.trod_int ht h
  exact ⟨n, rfl, hw⟩
theorem Opens.bool {P : Program} {t : TypeId} (ht : P.underlying t = some .bool) (hc : P.cellsOf t = 1) : Opens P t Kd.bool (fun _ => True) where
 cells := hc
 down := by
  intro H enc w base spare held fuel cs x h _
  obtain ⟨b, rfl, _⟩ := DataW.trod_bool ht h
  exact ⟨b, rfl, trivial⟩
theorem Opens.string {P : Program} {t : TypeId} (ht : P.underlying t = some .string) (hc : P.cellsOf t = 1) : Opens P t Kd.string (fun s => s.size ≤ 140737488351232) where
 cells := hc
 down := by
  intro H enc w base spare held fuel cs x h hw
  obtain ⟨s, rfl, rfl, _⟩ := DataW.trod_string ht h
  refine ⟨s, rfl, ?_⟩
  have := hw s.data.toList.length (by simp [DataW.weights])
  have e : s.data.toList.length = s.size := by simp
  rw [e] at this
  exact this
theorem Opens.slice {α : Type} {P : Program} {t e : TypeId} {d : Kd α} {wf : α → Prop} (ht : P.underlying t = some (.slice e)) (hc : P.cellsOf t = 1) {B : Nat} (hB : P.bytesOf e = B) (he : Opens P e d wf) :
  Opens P t (Kd.slice e d) (fun l => l.length * B ≤ 140737488351232 ∧ ∀ a ∈ l, wf a) where
 cells := hc
 down := by
  intro H enc w base spare held fuel cs x h hw
  rcases open_slice ht h with ⟨rfl, _⟩ | ⟨a, len, cap, m, n, D, Pl, rfl, hb, hl, hm, hmm, rfl, hx⟩
  ·exact ⟨[], ⟨none, 0, rfl, Nat.le_refl _, rfl, by simp, fun h0 => absurd h0 (by simp)⟩, by simp, fun a ha => by simp at ha⟩
  ·have hlm : len ≤ m := by rw [hmm]; split <;> omega
   have hel : ∀ i : Fin len, ∃ y : α, ∃ c : List Value, w.cells? base (a.add (i.1 * P.cellsOf e)) (P.cellsOf e) = some c ∧ d.K w y c ∧ wf y := by
    intro i
    obtain ⟨c, h1, h2⟩ := hx i.1 (by omega)
    obtain ⟨y, hy, hwf⟩ := he.down h2 (fun n hn => hw n (by
     simp only [DataW.weights, ht, List.mem_cons, List.mem_append]
     exact .inr (.inl (mem_weightsAll (List.mem_map.2 ⟨i.1, List.mem_range.2 i.2, rfl⟩) n hn))))
    exact ⟨y, c, h1, hy, hwf⟩
   obtain ⟨f, hf⟩ := Classical.axiomOfChoice hel
   have hlen : (List.ofFn f).length = len := by simp
   have hmax : len ≤ 9223372036854775807 := by simp only [maxLen] at hm; omega
   refine ⟨List.ofFn f, ⟨some a, cap, ?_, ?_, ?_, ?_, ?_⟩, ?_, ?_⟩
   ·rw [hlen]
   ·rw [hlen]; exact hl
   ·rfl
   ·rw [hlen]; exact hmax
   ·intro _
    refine ⟨a, rfl, fun j p hj => ?_⟩
    obtain ⟨hjl, rfl⟩ := List.getElem?_eq_some_iff.1 hj
    rw [hlen] at hjl
    obtain ⟨c, h1, hy, _⟩ := hf ⟨j, hjl⟩
    obtain ⟨_, hcl, hcell⟩ := World.cells?_some h1
    refine ⟨c, by rw [hcl, he.cells], by simpa using hy, fun i u hu => ?_⟩
    have hi : i < P.cellsOf e := by
     have := (List.getElem?_eq_some_iff.1 hu).1
     omega
    have := hcell i hi
    rw [Go.Deep.add_add] at this
    rw [← he.cells, this, hu]
   ·rw [hlen]
    have hz := hw (((List.range len).map D).length + ((List.range (m - len)).map fun j => D (len + j)).length |>.mul (P.bytesOf e)) (by
     simp only [DataW.weights, ht, List.mem_cons]
     exact .inl rfl)
    rw [hB] at hz
    simp only [List.length_map, List.length_range] at hz
    have h2 : len * B ≤ (len + (m - len)) * B := Nat.mul_le_mul_right _ (by omega)
    exact Nat.le_trans h2 hz
   ·intro y hy
    obtain ⟨i, rfl⟩ := List.mem_ofFn.1 hy
    obtain ⟨_, _, _, hwf⟩ := hf i
    exact hwf
theorem Opens.iso {α β : Type} {P : Program} {t : TypeId} {d : Kd α} {wf : α → Prop} {f : β → α} (g : α → β) (hg : ∀ a, f (g a) = a) (h : Opens P t d wf) : Opens P t (Kd.iso d f) (fun b => wf (f b)) where
 cells := h.cells
 down := by
  intro H enc w base spare held fuel cs x hx hw
  obtain ⟨a, hk, hwf⟩ := h.down hx hw
  refine ⟨g a, ?_, ?_⟩
  ·show d.K w (f (g a)) cs
   rw [hg]; exact hk
  ·show wf (f (g a))
   rw [hg]; exact hwf
structure OpensFs {α : Type} (P : Program) (fs : List Field) (off : Nat) (d : Kd α) (wf : α → Prop) : Prop where
 down : ∀ {H : Type} {enc : TypeId × Value → H} {w : World} {base : Nat} {spare : Nat → Bool} {held : Bool} {fuel : Nat} {cs : List Value} {xs : List (DataW H × List MemPlace)},
  cs.length = d.sz → xs.length = fs.length → (∀ (i : Nat) (f : Field), fs[i]? = some f → DataW.trod enc P w base spare held fuel f.type ((cs.drop (f.offset - off)).take (P.cellsOf f.type)) = xs[i]?) →
  (∀ n ∈ DataW.weightsEach P (fs.map (·.type)) (xs.map (·.1)), n ≤ reachBytes) → ∃ a, d.K w a cs ∧ wf a
 offs : ∀ f ∈ fs, off ≤ f.offset
theorem OpensFs.one {α : Type} {P : Program} {f : Field} {off : Nat} {d : Kd α} {wf : α → Prop} (ho : f.offset = off) (h : Opens P f.type d wf) : OpensFs P [f] off d wf where
 offs := by simp [ho]
 down := by
  intro H enc w base spare held fuel cs xs hl hxs hx hw
  have h0 := hx 0 f rfl
  obtain ⟨x, rfl⟩ : ∃ x, xs = [x] := by
   match xs, hxs with
   | [x], _ => exact ⟨x, rfl⟩
  rw [ho, Nat.sub_self, List.drop_zero, h.cells, ← hl, List.take_length] at h0
  exact h.down h0 (fun n hn => hw n (by simp [DataW.weightsEach, hn]))
theorem OpensFs.cons {α β : Type} {P : Program} {f : Field} {fs : List Field} {off off2 : Nat} {d : Kd α} {d2 : Kd β} {wf : α → Prop} {wf2 : β → Prop} (ho : f.offset = off) (h : Opens P f.type d wf) (ho2 : off2 = off + d.sz)
  (h2 : OpensFs P fs off2 d2 wf2) : OpensFs P (f :: fs) off (Kd.pair d d2) (fun p => wf p.1 ∧ wf2 p.2) where
 offs := by
  intro g hg
  rcases List.mem_cons.1 hg with rfl | hg
  ·omega
  ·have := h2.offs g hg; omega
 down := by
  intro H enc w base spare held fuel cs xs hl hxs hx hw
  obtain ⟨x, ys, rfl⟩ : ∃ x ys, xs = x :: ys := by
   match xs, hxs with
   | x :: ys, _ => exact ⟨x, ys, rfl⟩
  have hl' : cs.length = d.sz + d2.sz := hl
  have h0 := hx 0 f rfl
  rw [ho, Nat.sub_self, List.drop_zero, h.cells] at h0
  obtain ⟨a, ha, hwa⟩ := h.down h0 (fun n hn => hw n (by simp [DataW.weightsEach, hn]))
  obtain ⟨b, hb, hwb⟩ := h2.down (cs := cs.drop d.sz) (xs := ys) (by rw [List.length_drop, hl']; omega) (by simpa using hxs) (fun i g hg => by
   have h1 := hx (i + 1) g (by simpa using hg)
   have hgo := h2.offs g (List.mem_of_getElem? hg)
   rw [List.drop_drop]
   have e : d.sz + (g.offset - off2) = g.offset - off := by omega
   rw [e]
   simpa using h1) (fun n hn => hw n (by simp [DataW.weightsEach, hn]))
  exact ⟨(a, b), ⟨cs.take d.sz, cs.drop d.sz, (List.take_append_drop _ _).symm, ha, hb⟩, hwa, hwb⟩
theorem Opens.struct {α : Type} {P : Program} {t : TypeId} {fs : Array Field} {d : Kd α} {wf : α → Prop} (ht : P.underlying t = some (.struct fs)) (hc : P.cellsOf t = d.sz) (h : OpensFs P fs.toList 0 d wf) : Opens P t d wf where
 cells := hc
 down := by
  intro H enc w base spare held fuel cs x hx hw
  obtain ⟨xs, n, rfl, rfl, hl, hxs, hf⟩ := DataW.trod_struct ht hx
  refine h.down (enc := enc) (w := w) (base := base) (spare := spare) (held := held) (fuel := n) (cs := cs) (xs := xs) (by rw [hl, hc]) (by simpa using hxs) (fun i f hi => ?_) (fun n hn => hw n (by simpa [DataW.weights, ht] using hn))
  rw [Nat.sub_zero]
  exact hf i f (by simpa using hi)
end Go.Proofs.Ytidaiafmhidooaa.Rd
end
section
namespace Go.Proofs.Ytidaiafmhidooaa.P
open Go.RowKit Go.Proofs.Ytidaiafmhidooaa.Rd Go.Proofs.YtidaiafmhidooaaW.PrintWords
theorem o30 : Opens Try.prog 30 (Kd.int .u8) (fun n => (Lit.int .u8 n).wf = true) := Opens.int Try.underlying30 (by kernel_rfl)
theorem o3 : Opens Try.prog 3 (Kd.int .i64) (fun n => (Lit.int .i64 n).wf = true) := Opens.int Try.underlying3 (by kernel_rfl)
theorem o9 : Opens Try.prog 9 Kd.string (fun x_ => x_.size ≤ 140737488351232) := Opens.string Try.underlying9 (by kernel_rfl)
theorem o31 : Opens Try.prog 31 (Kd.int .u64) (fun n => (Lit.int .u64 n).wf = true) := Opens.int Try.underlying31 (by kernel_rfl)
def wf33 (x : S33) : Prop := ((Lit.int .u8 x.f0).wf = true) ∧ ((Lit.int .i64 x.f1).wf = true) ∧ (x.f2.size ≤ 140737488351232) ∧ (x.f3.size ≤ 140737488351232) ∧ (x.f4.size ≤ 140737488351232) ∧ ((Lit.int .u64 x.f5).wf = true)
theorem o33 : Opens Try.prog 33 k33 wf33 := Opens.iso (g := fun p_ => (⟨p_.1, p_.2.1, p_.2.2.1, p_.2.2.2.1, p_.2.2.2.2.1, p_.2.2.2.2.2⟩ : S33)) (fun _ => rfl) (Opens.struct Try.underlying33 (by kernel_rfl) (OpensFs.cons rfl o30 rfl (OpensFs.cons rfl o3 rfl (OpensFs.cons rfl o9 rfl (OpensFs.cons rfl o9 rfl (OpensFs.cons rfl o9 rfl (OpensFs.one rfl o31)))))))
theorem o22 : Opens Try.prog 22 (Kd.slice 33 k33) (fun x_ => x_.length * 72 ≤ 140737488351232 ∧ ∀ a_ ∈ x_, wf33 a_) := Opens.slice Try.underlying22 (by kernel_rfl) (by kernel_rfl) o33
end Go.Proofs.Ytidaiafmhidooaa.P
end
section
namespace Go.Proofs.Ytidaiafmhidooaa.P
open Go.RowKit Go.Proofs.YtidaiafmhidooaaW.PrintWords Go.Proofs.YtidaiafmhidooaaW.PrintLast Go.Proofs.YtidaiafmhidooaaW.PrintMore Go.Proofs.Ytidaiafmhidooaa.Own Go.Proofs.Ytidaiafmhidooaa
def tidy (p : ByteArray × Bool) : Prop := p.2 = false → p.1 = e0
theorem tidy_apply (k : Int) (vv : ByteArray) (d : Int) (v : ByteArray) (is : Bool) : tidy (applyV k vv d v is) := by
 unfold applyV tidy
 (repeat' split) <;> simp
theorem tidy_on (m : Ms) (s : ByteArray) (p : ByteArray × Bool) : tidy (onM m s p) := by
 unfold onM onV
 split
 ·exact tidy_apply _ _ _ _ _
 ·unfold tidy
  split <;> simp
theorem tidy_doAll (s : ByteArray) : ∀ (l : List Ms) (p : ByteArray × Bool), tidy p → tidy (doAll s l p)
 | [], p, h => h
 | m :: l, p, h => tidy_doAll s l _ (tidy_on m s p)
theorem doAll_append (s : ByteArray) : ∀ (a b : List Ms) (p : ByteArray × Bool), doAll s (a ++ b) p = doAll s b (doAll s a p)
 | [], _, _ => rfl
 | m :: a, b, p => doAll_append s a b (onM m s p)
theorem lt_e0 (s : ByteArray) : lt s e0 = false := by
 cases q : lt s e0 with
 | false => rfl
 | true => have := lt_emp q; rw [emp_e0] at this; cases this
def sameO (a b : ByteArray × Bool) : Bool := same a.1 b.1 && (a.2 == b.2)
theorem sameO_iff {a b : ByteArray × Bool} : sameO a b = true ↔ a = b := by
 obtain ⟨a, x⟩ := a; obtain ⟨b, y⟩ := b
 simp only [sameO, Bool.and_eq_true, same_iff, beq_iff_eq, Prod.mk.injEq]
end Go.Proofs.Ytidaiafmhidooaa.P
end
section
namespace Go.Proofs.Ytidaiafmhidooaa.P
open Go.RowKit Go.Proofs.YtidaiafmhidooaaW.PrintWords Go.Proofs.YtidaiafmhidooaaW.PrintLast Go.Proofs.YtidaiafmhidooaaW.PrintMore Go.Proofs.Ytidaiafmhidooaa.Own Go.Proofs.Ytidaiafmhidooaa
theorem eight_size (n : Int) : (strOfNums (eight n)).size = 8 := by rw [strOfNums_size]; rfl
theorem wrap_wrap (a b : Int) : IntKind.u64.wrap (IntKind.u64.wrap a + b) = IntKind.u64.wrap (a + b) := by
 simp only [IntKind.wrap, IntKind.signed, IntKind.bits]
 simp
theorem wrap_wrap' (a b : Int) : IntKind.u64.wrap (a + IntKind.u64.wrap b) = IntKind.u64.wrap (a + b) := by
 rw [Int.add_comm, wrap_wrap, Int.add_comm]
theorem valN_eight (n : Int) (h0 : 0 ≤ n) (h1 : n < 18446744073709551616) : valN (strOfNums (eight n)) 8 = n := by
 have hb : ∀ (l : List Int) (i : Nat) (a : Int), l[i]? = some a → 0 ≤ a → a < 256 → bt (strOfNums l) i = a := by
  intro l i a h ha ha2
  have hi := (List.getElem?_eq_some_iff.1 h).1
  unfold bt
  rw [dif_pos (by rw [strOfNums_size]; simpa using hi)]
  have e : (strOfNums l)[((i : Int)).toNat]'(by rw [strOfNums_size]; simpa using hi) = UInt8.ofNat a.toNat := by
   show (strOfNums l).data[((i : Int)).toNat]'_ = _
   simp only [strOfNums, Int.toNat_natCast, List.getElem_toArray, List.getElem_map]
   rw [(List.getElem?_eq_some_iff.1 h).2]
  rw [e]
  simp
  omega
 have h0' := hb (eight n) 0 _ rfl (by omega) (by omega)
 have h1' := hb (eight n) 1 _ rfl (by omega) (by omega)
 have h2' := hb (eight n) 2 _ rfl (by omega) (by omega)
 have h3' := hb (eight n) 3 _ rfl (by omega) (by omega)
 have h4' := hb (eight n) 4 _ rfl (by omega) (by omega)
 have h5' := hb (eight n) 5 _ rfl (by omega) (by omega)
 have h6' := hb (eight n) 6 _ rfl (by omega) (by omega)
 have h7' := hb (eight n) 7 _ rfl (by omega) (by omega)
 simp only [valN]
 rw [h0', h1', h2', h3', h4', h5', h6', h7']
 omega
theorem addV_some (v : ByteArray) (a b : Int) (ha : 0 ≤ a) (ha2 : a < 18446744073709551616) : addV (addV v true a) true b = addV v true (IntKind.u64.wrap (b + a)) := by
 unfold addV
 simp only [if_true]
 by_cases h : v.size = 8
 ·simp only [h, if_true, eight_size]
  have := u64_wrap_range (valN v 8 + a)
  rw [valN_eight _ this.1 this.2, wrap_wrap, wrap_wrap']
  congr 3
  omega
 ·simp only [h, if_false]
theorem addV_none (v : ByteArray) (a b : Int) (ha : 0 ≤ a) (ha2 : a < 18446744073709551616) : addV (addV v false a) true b = addV v false (IntKind.u64.wrap (b + a)) := by
 unfold addV
 simp only [if_true, Bool.false_eq_true, if_false, eight_size]
 rw [valN_eight _ ha ha2, Int.add_comm]
theorem onM_touch {m : Ms} {s : ByteArray} (h : touchesM m s = true) (p : ByteArray × Bool) : onM m s p = applyV m.f0 m.f4 m.f5 p.1 p.2 := by
 unfold onM onV
 rw [if_pos (show touches m.f0 m.f2 m.f3 s = true from h)]
theorem onM_far {m : Ms} {s : ByteArray} (h : touchesM m s = false) {p : ByteArray × Bool} (hp : tidy p) : onM m s p = p := by
 unfold onM onV
 have h2 : ¬ (touches m.f0 m.f2 m.f3 s = true) := by unfold touchesM at h; rw [h]; simp
 rw [if_neg h2]
 obtain ⟨v, b⟩ := p
 cases b
 ·have := hp rfl; simp at this; subst this; rfl
 ·rfl
theorem doAll_far {s : ByteArray} : ∀ {l : List Ms} {p : ByteArray × Bool}, tidy p → (∀ m ∈ l, touchesM m s = false) → doAll s l p = p
 | [], p, _, _ => rfl
 | m :: l, p, hp, h => by
  show doAll s l (onM m s p) = p
  rw [onM_far (h m (by simp)) hp]
  exact doAll_far hp (fun x hx => h x (List.mem_cons_of_mem _ hx))
theorem doAll_snoc (s : ByteArray) (l : List Ms) (m : Ms) (p : ByteArray × Bool) : doAll s (l ++ [m]) p = onM m s (doAll s l p) := by rw [doAll_append]; rfl
theorem doAll_filter {s : ByteArray} (g : Ms → Bool) : ∀ {l : List Ms} {p : ByteArray × Bool}, tidy p → (∀ m ∈ l, g m = false → touchesM m s = false) → doAll s (l.filter g) p = doAll s l p
 | [], p, _, _ => rfl
 | m :: l, p, hp, h => by
  rw [List.filter_cons]
  have ih := fun {q : ByteArray × Bool} (hq : tidy q) => doAll_filter (s := s) g (l := l) hq (fun x hx => h x (List.mem_cons_of_mem _ hx))
  cases hg : g m with
  | true =>
   simp only [if_true]
   exact ih (tidy_on m s p)
  | false =>
   simp only [Bool.false_eq_true, if_false]
   rw [ih hp]
   show _ = doAll s l (onM m s p)
   rw [onM_far (h m (by simp) hg) hp]
theorem okD_join {a b : Ms} (hb : okD b) : okD (joinM a b) := by
 unfold joinM
 split
 ·split
  ·exact u64_wrap_range _
  ·exact ⟨Int.le_refl _, by show (0 : Int) < 18446744073709551616; decide⟩
 ·exact hb
theorem onM_join {x m : Ms} {s : ByteArray} (hx : isPt x.f0 = true) (hm : isPt m.f0 = true) (hk : x.f2 = m.f2) (hxd : okD x) (hmd : okD m) {p : ByteArray × Bool} (hp : tidy p) : onM (joinM x m) s p = onM m s (onM x s p) := by
 have tp : ∀ y : Ms, isPt y.f0 = true → touchesM y s = same y.f2 s := fun y hy => by
  have h4 := isPt_ne4 hy
  simp [touchesM, touches, hy, h4]
 have hj := joinM_pt (a := x) hm
 cases hs : same m.f2 s with
 | false =>
  rw [onM_far (by rw [tp _ hj, joinM_key]; exact hs) hp, onM_far (m := x) (by rw [tp _ hx, hk]; exact hs) hp, onM_far (by rw [tp _ hm]; exact hs) hp]
 | true =>
  rw [onM_touch (by rw [tp _ hj, joinM_key]; exact hs), onM_touch (m := x) (by rw [tp _ hx, hk]; exact hs), onM_touch (by rw [tp _ hm]; exact hs)]
  obtain ⟨v, is⟩ := p
  simp only [isPt, decide_eq_true_eq] at hx hm
  unfold joinM
  by_cases h3 : m.f0 = 3
  ·rw [if_pos h3]
   by_cases hx3 : x.f0 = 3
   ·rw [if_pos hx3]
    simp only [applyV, h3, hx3]
    cases is
    ·simp [addV_none _ _ _ hxd.1 hxd.2]
    ·simp [addV_some _ _ _ hxd.1 hxd.2]
   ·rw [if_neg hx3]
    have hx12 : x.f0 = 1 ∨ x.f0 = 2 := by omega
    rcases hx12 with h | h
    ·simp [applyV, h3, h]
    ·simp [applyV, h3, h]
  ·rw [if_neg h3]
   have hm12 : m.f0 = 1 ∨ m.f0 = 2 := by omega
   rcases hm12 with h | h
   ·simp [applyV, h]
   ·simp [applyV, h]
theorem pointF_val (s : ByteArray) : ∀ (n : Nat) (l : List Ms) (m : Ms) (p : ByteArray × Bool), tidy p → isPt m.f0 = true → (∀ x ∈ l, okD x) → okD m → l.length < n → doAll s (pointF n l m) p = onM m s (doAll s l p)
 | 0, l, m, p, _, _, _, _, h => by omega
 | n + 1, l, m, p, hp, hm, hl, hmd, hn => by
  have tpm : touchesM m s = same m.f2 s := by
   have h4 := isPt_ne4 hm
   simp [touchesM, touches, hm, h4]
  unfold pointF
  rcases lastI_spec l m.f2 with ⟨h1, _⟩ | ⟨i, x, hi, h2, hx, ht, hlast⟩
  ·rw [if_pos (by omega), doAll_snoc]
  ·rw [if_neg (by omega)]
   have e : (lastI l m.f2).toNat = i := by omega
   rw [e, hx]
   simp only
   have hsplit : l = l.take i ++ (x :: l.drop (i + 1)) := by
    have h := List.drop_eq_getElem?_toList_append (l := l) (i := i)
    rw [hx] at h
    simp only [Option.toList_some, List.cons_append, List.nil_append] at h
    rw [← h, List.take_append_drop]
   have hfar : ∀ y ∈ l.drop (i + 1), touchesM y m.f2 = false := fun y hy => by
    obtain ⟨j, hj⟩ := List.getElem?_of_mem hy
    rw [List.getElem?_drop] at hj
    exact hlast (i + 1 + j) y (by omega) hj
   have hxl := List.mem_of_getElem? hx
   have hq : tidy (doAll s (l.take i) p) := tidy_doAll s _ _ hp
   have hD : doAll s l p = doAll s (l.drop (i + 1)) (onM x s (doAll s (l.take i) p)) := by
    conv => lhs; rw [hsplit]
    rw [doAll_append]
    rfl
   cases hpx : isPt x.f0 with
   | true =>
    rw [if_pos rfl]
    have hkey : x.f2 = m.f2 := by
     have h4 := isPt_ne4 hpx
     have : same x.f2 m.f2 = true := by simpa [touchesM, touches, hpx, h4] using ht
     exact same_iff.1 this
    rw [pointF_val s n (l.eraseIdx i) (joinM x m) p hp (joinM_pt hm) (fun y hy => hl y (List.mem_of_mem_eraseIdx hy)) (okD_join hmd) (by have := List.length_eraseIdx_of_lt hi; omega)]
    rw [hD, List.eraseIdx_eq_take_drop_succ, doAll_append]
    cases hs : same m.f2 s with
    | true =>
     have hsm := same_iff.1 hs
     subst hsm
     rw [doAll_far hq hfar, doAll_far (tidy_on x _ _) hfar]
     exact onM_join hpx hm hkey (hl x hxl) hmd hq
    | false =>
     have hxf : touchesM x s = false := by
      have h4 := isPt_ne4 hpx
      simpa [touchesM, touches, hpx, h4, hkey] using hs
     rw [onM_far hxf hq]
     have hjf : touchesM (joinM x m) s = false := by
      have hj := joinM_pt (a := x) hm
      have h4 := isPt_ne4 hj
      simpa [touchesM, touches, hj, h4, joinM_key] using hs
     rw [onM_far hjf (tidy_doAll s _ _ hq), onM_far (by rw [tpm]; exact hs) (tidy_doAll s _ _ hq)]
   | false =>
    rw [if_neg (by simp)]
    have hx4 : x.f0 = 4 := by
     have : decide (x.f0 = 4) = true := by
      cases h : decide (x.f0 = 4) with
      | true => rfl
      | false => simp [touchesM, touches, hpx, h] at ht
     simpa using this
    have hcl : same m.f2 s = true → doAll s l p = (e0, false) := fun hs => by
     have hsm := same_iff.1 hs
     subst hsm
     rw [hD, onM_touch ht]
     have : applyV x.f0 x.f4 x.f5 (doAll m.f2 (l.take i) p).1 (doAll m.f2 (l.take i) p).2 = (e0, false) := by simp [applyV, hx4]
     rw [this]
     exact doAll_far (by simp [tidy]) hfar
    have hlq : tidy (doAll s l p) := tidy_doAll s _ _ hp
    by_cases h2' : m.f0 = 2
    ·rw [if_pos h2']
     cases hs : same m.f2 s with
     | true =>
      rw [hcl hs, onM_touch (by rw [tpm]; exact hs)]
      simp [applyV, h2']
     | false => rw [onM_far (by rw [tpm]; exact hs) hlq]
    ·rw [if_neg h2']
     by_cases h3 : m.f0 = 3
     ·rw [if_pos h3, doAll_snoc]
      have tpy : touchesM ⟨1, m.f1, m.f2, e0, strOfNums (Wp.eight m.f5), 0⟩ s = same m.f2 s := by simp [touchesM, touches, isPt]
      cases hs : same m.f2 s with
      | true =>
       rw [hcl hs, onM_touch (by rw [tpy]; exact hs), onM_touch (by rw [tpm]; exact hs)]
       simp [applyV, h3, addV]
       rfl
      | false => rw [onM_far (by rw [tpy]; exact hs) hlq, onM_far (by rw [tpm]; exact hs) hlq]
     ·rw [if_neg h3, doAll_snoc]
theorem gone_far {f t : ByteArray} {x : Ms} {s : ByteArray} (hg : gone f t x = true) (hs : holds f t s = false) : touchesM x s = false := by
 cases ht : touchesM x s with
 | false => rfl
 | true =>
  exfalso
  simp only [gone, Bool.or_eq_true, Bool.and_eq_true, decide_eq_true_eq] at hg
  simp only [touchesM, touches, Bool.or_eq_true, Bool.and_eq_true, decide_eq_true_eq] at ht
  rcases hg with ⟨hp, hh⟩ | ⟨h4, hw⟩
  ·rcases ht with ⟨_, h⟩ | ⟨h, _⟩
   ·rw [same_iff.1 h] at hh; rw [hh] at hs; cases hs
   ·exact isPt_ne4 hp h
  ·rcases ht with ⟨h, _⟩ | ⟨_, h⟩
   ·exact isPt_ne4 h h4
   ·simp only [within, Bool.and_eq_true] at hw
    obtain ⟨hm, h1, h2⟩ := hw
    unfold meet at hm h1 h2
    split at hm
    ·rename_i hc
     rw [if_pos hc] at h1 h2
     have e1 : mxs x.f2 f = x.f2 := same_iff.1 h1
     have e2 : first x.f3 t = x.f3 := same_iff.1 h2
     have := holds_meet x.f2 x.f3 f t s
     rw [e1, e2, h, hs] at this
     cases this
    ·cases hm
theorem stepV_val (s : ByteArray) (o : List Ms) (m : Ms) (p : ByteArray × Bool) (hp : tidy p) (ho : ∀ x ∈ o, okD x) (hm : okD m) : doAll s (stepV o m) p = onM m s (doAll s o p) := by
 have hq := tidy_doAll s o p hp
 unfold stepV
 split
 ·rename_i h
  exact pointF_val s _ o m p hp h ho hm (Nat.lt_succ_self _)
 ·rename_i h
  have hpf : isPt m.f0 = false := by simpa using h
  split
  ·rename_i h4
   simp only [Bool.and_eq_true, decide_eq_true_eq] at h4
   rw [doAll_snoc]
   cases ht : touchesM m s with
   | true =>
    rw [onM_touch ht, onM_touch ht]
    simp [applyV, h4.1]
   | false =>
    rw [onM_far ht (tidy_doAll s _ _ hp), onM_far ht hq]
    refine doAll_filter _ hp (fun x _ hx => gone_far (f := m.f2) (t := m.f3) (by simpa using hx) ?_)
    have e : touchesM m s = holds m.f2 m.f3 s := by
     unfold touchesM touches
     rw [hpf, decide_eq_true h4.1]
     rfl
    rw [← e]; exact ht
  ·rename_i h4
   refine (onM_far ?_ hq).symm
   cases ht : touchesM m s with
   | false => rfl
   | true =>
    exfalso
    simp only [touchesM, touches, hpf, Bool.false_and, Bool.false_or, Bool.and_eq_true, decide_eq_true_eq] at ht
    exact h4 (by rw [holds_rr ht.2, decide_eq_true ht.1]; rfl)
theorem pointF_okD : ∀ (n : Nat) (l : List Ms) (m : Ms), (∀ x ∈ l, okD x) → okD m → ∀ x ∈ pointF n l m, okD x
 | 0, l, m, hl, hm, x, hx => by
  simp only [pointF, List.mem_append, List.mem_singleton] at hx
  rcases hx with hx | rfl
  ·exact hl x hx
  ·exact hm
 | n + 1, l, m, hl, hm, x, hx => by
  have app : ∀ y : Ms, okD y → x ∈ l ++ [y] → okD x := fun y hy h => by
   simp only [List.mem_append, List.mem_singleton] at h
   rcases h with h | rfl
   ·exact hl x h
   ·exact hy
  unfold pointF at hx
  split at hx
  ·exact app m hm hx
  ·split at hx
   ·exact app m hm hx
   ·split at hx
    ·exact pointF_okD n _ _ (fun y hy => hl y (List.mem_of_mem_eraseIdx hy)) (okD_join hm) x hx
    ·split at hx
     ·exact hl x hx
     ·split at hx
      ·exact app ⟨1, m.f1, m.f2, e0, strOfNums (Wp.eight m.f5), 0⟩ ⟨Int.le_refl _, by show (0 : Int) < 18446744073709551616; decide⟩ hx
      ·exact app m hm hx
theorem stepV_okD (out : List Ms) (m : Ms) (hl : ∀ x ∈ out, okD x) (hm : okD m) : ∀ x ∈ stepV out m, okD x := by
 intro x hx
 unfold stepV at hx
 split at hx
 ·exact pointF_okD _ _ _ hl hm x hx
 ·split at hx
  ·simp only [List.mem_append, List.mem_singleton] at hx
   rcases hx with hx | rfl
   ·exact hl x (List.mem_filter.1 hx).1
   ·exact hm
  ·exact hl x hx
theorem foldl_val (s : ByteArray) : ∀ (l o : List Ms) (p : ByteArray × Bool), tidy p → (∀ x ∈ o, okD x) → (∀ x ∈ l, okD x) → doAll s (l.foldl stepV o) p = doAll s l (doAll s o p) ∧ ∀ x ∈ l.foldl stepV o, okD x
 | [], o, p, _, ho, _ => ⟨rfl, ho⟩
 | m :: l, o, p, hp, ho, hl => by
  have h := foldl_val s l (stepV o m) p hp (stepV_okD o m ho (hl m (by simp))) (fun x hx => hl x (List.mem_cons_of_mem _ hx))
  refine ⟨h.1.trans ?_, h.2⟩
  rw [stepV_val s o m p hp ho (hl m (by simp))]
  rfl
theorem list_val (s : ByteArray) (l : List Ms) (p : ByteArray × Bool) (hp : tidy p) (hl : ∀ x ∈ l, okD x) : doAll s (listV l) p = doAll s l p := (foldl_val s l [] p hp (fun x hx => by simp at hx) hl).1
theorem list_okD (l : List Ms) (hl : ∀ x ∈ l, okD x) : ∀ x ∈ listV l, okD x := (foldl_val e0 l [] (e0, false) (by simp [tidy]) (fun x hx => by simp at hx) hl).2
end Go.Proofs.Ytidaiafmhidooaa.P
end
section
namespace Go.Proofs.Ytidaiafmhidooaa.P
open Go.RowKit Go.Proofs.YtidaiafmhidooaaW.PrintWords Go.Proofs.YtidaiafmhidooaaW.PrintLast Go.Proofs.YtidaiafmhidooaaW.PrintMore Go.Proofs.Ytidaiafmhidooaa.Own Go.Proofs.Ytidaiafmhidooaa
theorem few6_eq (l : List Ms) : catchmentlaw06_few.f l = some (l.take 30) := by
 have h : 0 ≤ mn (l.length : Int) 30 ∧ mn (l.length : Int) 30 ≤ l.length := by unfold mn; split <;> omega
 unfold catchmentlaw06_few.f
 rw [if_pos h.1, if_pos h.2]
 congr 1
 unfold mn
 split
 ·rfl
 ·rw [List.take_of_length_le (by omega), List.take_of_length_le (by omega)]
structure Ok6 (l : List Ms) : Prop where
 ll : l.length ≤ 30
 od : ∀ m ∈ l, okD m
 os : ∀ m ∈ l, okS m
theorem ok6_take {l : List Ms} (h : ∀ a ∈ l, wf33 a) : Ok6 (l.take 30) := by
 refine ⟨by simp; omega, fun m hm => ?_, fun m hm => (h m (List.mem_of_mem_take hm)).2.2.1⟩
 have h1 := (h m (List.mem_of_mem_take hm)).2.2.2.2.2
 simp [Lit.wf, IntKind.min, IntKind.max, IntKind.signed, IntKind.bits] at h1
 unfold okD
 omega
theorem list_length (l : List Ms) : (listV l).length ≤ l.length := by have := Cp.listV_bound l []; simpa [listV] using this
theorem List_eq {l : List Ms} (h : Ok6 l) : compact_List.f l = some (listV l) := by
 unfold compact_List.f Cp.listF
 rw [if_pos (Cp.okL_iff.2 ⟨by have := h.ll; omega, h.os⟩)]
end Go.Proofs.Ytidaiafmhidooaa.P
end
section
namespace Go.Proofs.Ytidaiafmhidooaa.P
open Go.RowKit Go.Proofs.YtidaiafmhidooaaW.PrintWords Go.Proofs.YtidaiafmhidooaaW.PrintLast Go.Proofs.YtidaiafmhidooaaW.PrintMore Go.Proofs.Ytidaiafmhidooaa.Own Go.Proofs.Ytidaiafmhidooaa
abbrev VB := ByteArray × Bool
inductive Shape (f : VB → VB) : Prop where
 | const (o : VB) (ho : tidy o) (h : ∀ p, tidy p → f p = o)
 | keep (h : ∀ p, tidy p → f p = p)
 | add (d : Int) (h0 : 0 ≤ d) (h1 : d < 18446744073709551616) (h : ∀ p, tidy p → f p = (addV p.1 p.2 d, true))
theorem on_shape (m : Ms) (s : ByteArray) (hm : okD m) : Shape (onM m s) := by
 cases ht : touchesM m s with
 | false => exact .keep (fun p hp => onM_far ht hp)
 | true =>
  by_cases h1 : m.f0 = 1
  ·exact .const (m.f4, true) (by simp [tidy]) (fun p _ => by rw [onM_touch ht]; simp [applyV, h1])
  ·by_cases h3 : m.f0 = 3
   ·exact .add m.f5 hm.1 hm.2 (fun p _ => by rw [onM_touch ht]; simp [applyV, h3])
   ·have h24 : m.f0 = 2 ∨ m.f0 = 4 := by
     simp only [touchesM, touches, isPt, Bool.or_eq_true, Bool.and_eq_true, decide_eq_true_eq] at ht
     omega
    exact .const (e0, false) (by simp [tidy]) (fun p _ => by rw [onM_touch ht]; simp [applyV, h1, h3, h24])
theorem add_add (v : ByteArray) (is : Bool) (a b : Int) (ha : 0 ≤ a) (ha2 : a < 18446744073709551616) : addV (addV v is a) true b = addV v is (IntKind.u64.wrap (b + a)) := by
 cases is
 ·exact addV_none v a b ha ha2
 ·exact addV_some v a b ha ha2
theorem do_shape (s : ByteArray) : ∀ (l : List Ms), (∀ m ∈ l, okD m) → Shape (doAll s l)
 | [], _ => .keep (fun p _ => rfl)
 | m :: l, h => by
  have hm := on_shape m s (h m (by simp))
  have hl := do_shape s l (fun x hx => h x (List.mem_cons_of_mem _ hx))
  have tm := fun p => tidy_on m s p
  cases hl with
  | const o ho hc => exact .const o ho (fun p _ => hc _ (tm p))
  | keep hk =>
   cases hm with
   | const o ho hc => exact .const o ho (fun p hp => (hk _ (tm p)).trans (hc p hp))
   | keep hc => exact .keep (fun p hp => (hk _ (tm p)).trans (hc p hp))
   | add d h0 h1 hc => exact .add d h0 h1 (fun p hp => (hk _ (tm p)).trans (hc p hp))
  | add d h0 h1 hk =>
   cases hm with
   | const o ho hc => exact .const (addV o.1 o.2 d, true) (by simp [tidy]) (fun p hp => (hk _ (tm p)).trans (by rw [hc p hp]))
   | keep hc => exact .add d h0 h1 (fun p hp => (hk _ (tm p)).trans (by rw [hc p hp]))
   | add c g0 g1 hc =>
    refine .add (IntKind.u64.wrap (d + c)) (u64_wrap_range _).1 (u64_wrap_range _).2 (fun p hp => (hk _ (tm p)).trans ?_)
    rw [hc p hp]
    simp only
    rw [add_add _ _ _ _ g0 g1]
theorem add_e0 (d : Int) : addV e0 true d = e0 := by
 have : ¬ e0.size = 8 := by decide
 unfold addV
 simp only [if_true, this, if_false]
theorem add_no (d : Int) (h0 : 0 ≤ d) (h1 : d < 18446744073709551616) : (addV e0 false d).size = 8 ∧ valN (addV e0 false d) 8 = d := by
 have e : addV e0 false d = strOfNums (eight d) := by
  unfold addV
  simp
 rw [e]
 exact ⟨eight_size d, valN_eight d h0 h1⟩
theorem shape_same {f g : VB → VB} (hf : Shape f) (hg : Shape g) (h0 : f (e0, false) = g (e0, false)) (h1 : f (e0, true) = g (e0, true)) (p : VB) (hp : tidy p) : f p = g p := by
 have t0 : tidy (e0, false) := by simp [tidy]
 have t1 : tidy (e0, true) := by simp [tidy]
 have z8 : ¬ e0.size = 8 := by decide
 cases hf with
 | const o ho hc =>
  rw [hc _ t0] at h0
  rw [hc _ t1] at h1
  cases hg with
  | const o' ho' hc' => rw [hc p hp, hc' p hp, h0, hc' _ t0]
  | keep hk => rw [hk _ t0] at h0; rw [hk _ t1, h0] at h1; cases h1
  | add d g0 g1 hk =>
   rw [hk _ t0] at h0
   rw [hk _ t1, h0] at h1
   simp only [Prod.mk.injEq, and_true] at h1
   have := (add_no d g0 g1).1
   rw [h1, add_e0] at this
   exact absurd this z8
 | keep hk =>
  rw [hk _ t0] at h0
  rw [hk _ t1] at h1
  cases hg with
  | const o ho hc => rw [hc _ t0] at h0; rw [hc _ t1, ← h0] at h1; cases h1
  | keep hk' => rw [hk p hp, hk' p hp]
  | add d g0 g1 hk' => rw [hk' _ t0] at h0; cases h0
 | add d g0 g1 hk =>
  rw [hk _ t0] at h0
  rw [hk _ t1] at h1
  cases hg with
  | const o ho hc =>
   rw [hc _ t0] at h0
   rw [hc _ t1, ← h0] at h1
   simp only [Prod.mk.injEq, and_true] at h1
   have := (add_no d g0 g1).1
   rw [← h1, add_e0] at this
   exact absurd this z8
  | keep hk' => rw [hk' _ t0] at h0; cases h0
  | add c i0 i1 hk' =>
   rw [hk' _ t0] at h0
   simp only [Prod.mk.injEq, and_true] at h0
   have e1 := (add_no d g0 g1).2
   have e2 := (add_no c i0 i1).2
   rw [h0, e2] at e1
   subst e1
   rw [hk p hp, hk' p hp]
theorem greatest (s : ByteArray) : ∀ L : List ByteArray, (∀ x ∈ L, lt s x = true) ∨ ∃ k ∈ L, lt s k = false ∧ ∀ x ∈ L, lt s x = false → lt k x = false
 | [] => .inl (fun x hx => by simp at hx)
 | y :: L => by
  cases hy : lt s y with
  | true =>
   rcases greatest s L with h | ⟨k, hk, h1, h2⟩
   ·left
    intro x hx
    rcases List.mem_cons.1 hx with rfl | hx
    ·exact hy
    ·exact h x hx
   ·right
    refine ⟨k, List.mem_cons_of_mem _ hk, h1, fun x hx hs => ?_⟩
    rcases List.mem_cons.1 hx with rfl | hx
    ·rw [hy] at hs; cases hs
    ·exact h2 x hx hs
  | false =>
   right
   rcases greatest s L with h | ⟨k, hk, h1, h2⟩
   ·refine ⟨y, List.mem_cons_self, hy, fun x hx hs => ?_⟩
    rcases List.mem_cons.1 hx with rfl | hx
    ·exact lt_irrefl _
    ·rw [h x hx] at hs; cases hs
   ·cases hky : lt k y with
    | true =>
     refine ⟨y, List.mem_cons_self, hy, fun x hx hs => ?_⟩
     rcases List.mem_cons.1 hx with rfl | hx
     ·exact lt_irrefl _
     ·cases hyx : lt y x with
      | false => rfl
      | true =>
       have := h2 x hx hs
       rw [lt_trans hky hyx] at this
       cases this
    | false =>
     refine ⟨k, List.mem_cons_of_mem _ hk, h1, fun x hx hs => ?_⟩
     rcases List.mem_cons.1 hx with rfl | hx
     ·exact hky
     ·exact h2 x hx hs
open Go.Proofs.Ytidaiafmhidooaa.Cp (marksK marksV keysM valM keys0 vals0)
theorem keysM_mem {l : List Ms} {m : Ms} (h : m ∈ l) {s : ByteArray} (hs : s ∈ keysM m) : s ∈ marksK l := List.mem_append.2 (.inr (List.mem_flatMap.2 ⟨m, h, hs⟩))
theorem eq_of_le {s k : ByteArray} (h1 : lt s k = false) (h2 : lt k s = false) : s = k := by
 rcases lt_tri s k with h | h | h
 ·rw [h] at h1; cases h1
 ·exact h
 ·rw [h] at h2; cases h2
theorem mark_for (l : List Ms) (s : ByteArray) : ∃ k ∈ marksK l, ∀ m ∈ l, touchesM m s = touchesM m k := by
 have he : e0 ∈ marksK l := List.mem_append.2 (.inl (by simp [keys0]))
 rcases greatest s (marksK l) with h | ⟨k, hk, h1, h2⟩
 ·have := h e0 he
  rw [lt_e0] at this
  cases this
 ·have le : ∀ x ∈ marksK l, lt s x = lt k x := fun x hx => by
   cases hs : lt s x with
   | false => exact (h2 x hx hs).symm
   | true => exact (lt_of_le_lt h1 hs).symm
  refine ⟨k, hk, fun m hm => ?_⟩
  have m2 : m.f2 ∈ marksK l := keysM_mem hm (by simp [keysM])
  have m3 : m.f3 ∈ marksK l := keysM_mem hm (by simp [keysM])
  have ms : succB m.f2 ∈ marksK l := keysM_mem hm (by simp [keysM])
  have hh : holds m.f2 m.f3 s = holds m.f2 m.f3 k := by unfold holds; rw [le _ m2, le _ m3]
  have hp : same m.f2 s = same m.f2 k := by
   rw [Bool.eq_iff_iff, same_iff, same_iff]
   constructor
   ·intro e
    have := h2 _ m2 (by rw [e]; exact lt_irrefl _)
    rw [e] at this ⊢
    exact eq_of_le h1 this
   ·intro e
    have h3 := le _ ms
    rw [e, lt_succB_self k] at h3
    have h4 := (lt_succB s k).1 h3
    rw [e]
    exact (eq_of_le h1 h4).symm
  unfold touchesM touches
  rw [hh, hp]
theorem do_touch {s k : ByteArray} : ∀ {l : List Ms}, (∀ m ∈ l, touchesM m s = touchesM m k) → ∀ p, doAll s l p = doAll k l p
 | [], _, _ => rfl
 | m :: l, h, p => by
  have e : onM m s p = onM m k p := by
   have := h m (by simp)
   unfold touchesM at this
   unfold onM onV
   rw [this]
  show doAll s l (onM m s p) = doAll k l (onM m k p)
  rw [e]
  exact do_touch (fun x hx => h x (List.mem_cons_of_mem _ hx)) _
def atV (a b : List Ms) (s v : ByteArray) : Bool := sameO (valueV a s v true) (valueV b s v true) && sameO (valueV a s e0 false) (valueV b s e0 false)
def alikeV (a b : List Ms) : Bool := (marksK (a ++ b)).all (fun s => sameO (valueV a s e0 false) (valueV b s e0 false) && (marksV (a ++ b)).all (fun x => sameO (valueV a s x true) (valueV b s x true)))
theorem e0_val (l : List Ms) : e0 ∈ marksV l := List.mem_append.2 (.inl (by simp [vals0]))
theorem norm_tidy2 (v : ByteArray) (is : Bool) : tidy (norm v is, is) := by unfold tidy norm; cases is <;> simp
theorem alike_do {a b : List Ms} (ha : ∀ m ∈ a, okD m) (hb : ∀ m ∈ b, okD m) (h : alikeV a b = true) (s : ByteArray) (p : VB) (hp : tidy p) : doAll s a p = doAll s b p := by
 obtain ⟨k, hk, ht⟩ := mark_for (a ++ b) s
 have h' := List.all_eq_true.1 h k hk
 rw [Bool.and_eq_true] at h'
 have h0 := sameO_iff.1 h'.1
 have h1 := sameO_iff.1 (List.all_eq_true.1 h'.2 e0 (e0_val _))
 rw [do_touch (fun m hm => ht m (List.mem_append.2 (.inl hm))), do_touch (l := b) (fun m hm => ht m (List.mem_append.2 (.inr hm)))]
 exact shape_same (do_shape k a ha) (do_shape k b hb) h0 h1 p hp
theorem alike_at {a b : List Ms} (ha : ∀ m ∈ a, okD m) (hb : ∀ m ∈ b, okD m) (h : alikeV a b = true) (s v : ByteArray) : atV a b s v = true := by
 unfold atV valueV
 rw [alike_do ha hb h s _ (norm_tidy2 v true), alike_do ha hb h s _ (norm_tidy2 e0 false), sameO_iff.2 rfl, sameO_iff.2 rfl]
 rfl
theorem alike_of {a b : List Ms} (h : ∀ s p, tidy p → doAll s a p = doAll s b p) : alikeV a b = true := by
 refine List.all_eq_true.2 (fun s _ => ?_)
 rw [Bool.and_eq_true]
 refine ⟨sameO_iff.2 (h s _ (norm_tidy2 e0 false)), List.all_eq_true.2 (fun x _ => sameO_iff.2 (h s _ (norm_tidy2 x true)))⟩
end Go.Proofs.Ytidaiafmhidooaa.P
end
section
namespace Go.Proofs.Ytidaiafmhidooaa.P
open Go.RowKit Go.Proofs.YtidaiafmhidooaaW.PrintWords Go.Proofs.YtidaiafmhidooaaW.PrintLast Go.Proofs.YtidaiafmhidooaaW.PrintMore Go.Proofs.Ytidaiafmhidooaa.Own Go.Proofs.Ytidaiafmhidooaa
theorem fValue_loop (L : List Ms) (s : ByteArray) (hL : L.length ≤ 1000000) (hD : ∀ m ∈ L, m.f2.size ≤ 140737488351232) : ∀ (l : List Ms) (k i : Nat) (v : ByteArray) (is : Bool), L.drop i = l → i ≤ L.length → l.length + 11 < k → fold_Value.l0 k s v is L L.length i = some (doAll s l (v, is)) := by
 intro l
 induction l with
 | nil =>
  intro k i v is hd hi hk
  obtain ⟨k, rfl⟩ : ∃ m, k = m + 1 := ⟨k - 1, by omega⟩
  obtain rfl := drop_none hd hi
  rw [fold_Value.l0, if_neg (by omega)]
  rfl
 | cons x l ih =>
  intro k i v is hd hi hk
  simp only [List.length_cons] at hk
  obtain ⟨k, rfl⟩ : ∃ m, k = m + 10 := ⟨k - 10, by omega⟩
  obtain ⟨hlt, hx, hd2, _, hm⟩ := drop_any hd
  rw [fold_Value.l0, if_pos (by omega), if_pos (by omega), if_pos (by omega), rdM_at hx, wrap1 (by omega), On_eq k _ _ _ _ _ _ _ _ _ (hD x hm)]
  simp only [Option.bind_some]
  exact ih (k + 9) (i + 1) _ _ hd2 (by omega) (by omega)
theorem fValue_eq (k : Nat) (l : List Ms) (s v : ByteArray) (is : Bool) (hl : l.length ≤ 1000000) (hD : ∀ m ∈ l, m.f2.size ≤ 140737488351232) (hk : l.length + 12 < k) : fold_Value.f k l s v is = some (valueV l s v is) := by
 obtain ⟨k, rfl⟩ : ∃ m, k = m + 9 := ⟨k - 9, by omega⟩
 unfold fold_Value.f
 rw [Apply_eq k]
 simp only [Option.bind_some]
 have h := fValue_loop l s hl hD l (k + 9) 0
 refine (show fold_Value.l0 (k + 9) _ _ _ l l.length 0 = _ from h _ _ rfl (by omega) (by omega)).trans ?_
 congr 1
 unfold valueV norm applyV
 cases is <;> simp
end Go.Proofs.Ytidaiafmhidooaa.P
end
section
namespace Go.Proofs.Ytidaiafmhidooaa.P
open Go.RowKit Go.Proofs.YtidaiafmhidooaaW.PrintWords Go.Proofs.YtidaiafmhidooaaW.PrintLast Go.Proofs.YtidaiafmhidooaaW.PrintMore Go.Proofs.Ytidaiafmhidooaa.Own Go.Proofs.Ytidaiafmhidooaa
open Go.Proofs.Ytidaiafmhidooaa.Cp (marksK marksV keysM valM keys0 vals0 okS2)
structure Ok7 (n : Nat) (l : List Ms) : Prop where
 ll : l.length ≤ n
 od : ∀ m ∈ l, okD m
 o2 : ∀ m ∈ l, okS2 m
theorem sameO_toList {α : Type} (a b : ByteArray × Bool) (x y : α) : (if a.1.toList = b.1.toList then (if (a.2 != b.2) = true then x else y) else x) = if sameO a b = true then y else x := by
 by_cases h : a.1.toList = b.1.toList
 ·rw [if_pos h]
  have hs : same a.1 b.1 = true := by simpa [same] using h
  cases h2 : (a.2 == b.2) <;> simp [sameO, hs, h2, bne]
 ·have hs : same a.1 b.1 = false := by simpa [same] using h
  rw [if_neg h]
  simp [sameO, hs]
theorem alike_in (a b : List Ms) (n0 : Nat) (ha : a.length ≤ n0) (hb : b.length ≤ n0) (hn0 : n0 ≤ 1000) (hsa : ∀ m ∈ a, okS2 m) (hsb : ∀ m ∈ b, okS2 m) (s : ByteArray) (K V x6 : List ByteArray) (hV : V.length ≤ 100000) (i : Int) (n : Nat) (r0 : Bool) (hi : 0 ≤ i ∧ i < 1000000) (hn : n0 + 12 ≤ n) (h0 : compact_Alike.l0 n a b x6 K (K.length : Int) (i + 1) = some r0) :
  ∀ (l : List ByteArray) (j d : Nat), V.drop j = l → j ≤ V.length → l.length = d → compact_Alike.l1 (n + 1 + d) a b x6 s K (K.length : Int) i V (V.length : Int) (j : Int) = some (l.all (fun x => sameO (valueV a s x true) (valueV b s x true)) && r0) := by
 intro l
 induction l with
 | nil =>
  intro j d hd hj hl
  subst hl
  have := drop_none hd hj
  rw [List.length_nil, Nat.add_zero, compact_Alike.l1, if_neg (by omega), IntWalk.wrap64_in _ (by omega), h0]
  rfl
 | cons x l ih =>
  intro j d hd hj hl
  subst hl
  obtain ⟨hlt, hx, hd2, _, _⟩ := drop_any hd
  rw [List.length_cons, show n + 1 + (l.length + 1) = (n + 1 + l.length) + 1 by omega, compact_Alike.l1, if_pos (by omega), if_pos (by omega), if_pos (by omega), rdS_at hx, fValue_eq _ _ _ _ _ (by omega) (fun m hm => (hsa m hm).1) (by omega), Option.bind_some, fValue_eq _ _ _ _ _ (by omega) (fun m hm => (hsb m hm).1) (by omega), Option.bind_some, wrap1 (by omega), ih (j + 1) l.length hd2 (by omega) rfl, sameO_toList, List.all_cons]
  split
  ·rename_i h; rw [h, Bool.true_and]
  ·rename_i h
   have h : sameO (valueV a s x true) (valueV b s x true) = false := by simpa using h
   rw [h]; rfl
theorem alike_out (a b : List Ms) (n0 : Nat) (ha : a.length ≤ n0) (hb : b.length ≤ n0) (hn0 : n0 ≤ 1000) (hsa : ∀ m ∈ a, okS2 m) (hsb : ∀ m ∈ b, okS2 m) (K V : List ByteArray) (hK : K.length ≤ 100000) (hV : V.length ≤ 100000) (m : Nat) (hm : n0 + 13 ≤ m) :
  ∀ (l : List ByteArray) (i : Nat), K.drop i = l → i ≤ K.length → compact_Alike.l0 (m + l.length * (V.length + 3) + 1) a b V K (K.length : Int) (i : Int) = some (l.all (fun s => sameO (valueV a s e0 false) (valueV b s e0 false) && V.all (fun x => sameO (valueV a s x true) (valueV b s x true)))) := by
 intro l
 induction l with
 | nil =>
  intro i hd hi
  have := drop_none hd hi
  rw [compact_Alike.l0, if_neg (by omega)]
  rfl
 | cons s l ih =>
  intro i hd hi
  obtain ⟨hlt, hx, hd2, _, _⟩ := drop_any hd
  have h0 := ih (i + 1) hd2 (by omega)
  have hge : n0 + 12 ≤ m + l.length * (V.length + 3) + 1 := by have := Nat.zero_le (l.length * (V.length + 3)); omega
  have hl1 := alike_in a b n0 ha hb hn0 hsa hsb s K V V hV (i : Int) (m + l.length * (V.length + 3) + 1) _ ⟨by omega, by omega⟩ hge (by rw [show (i : Int) + 1 = ((i + 1 : Nat) : Int) by omega]; exact h0) V 0 V.length rfl (by omega) rfl
  have hm2 : (l.length + 1) * (V.length + 3) = l.length * (V.length + 3) + (V.length + 3) := by rw [Nat.add_mul, Nat.one_mul]
  rw [List.length_cons, hm2, show m + (l.length * (V.length + 3) + (V.length + 3)) + 1 = ((m + l.length * (V.length + 3) + 1 + 1 + V.length) + 1) + 1 by omega]
  generalize m + l.length * (V.length + 3) + 1 = q at h0 hge hl1 ⊢
  have hj : ∀ t : Bool, compact_Alike.j1 (q + 1 + V.length + 1) a b V s K (K.length : Int) (i : Int) t = if t = true then some false else some (V.all (fun x => sameO (valueV a s x true) (valueV b s x true)) && l.all (fun s => sameO (valueV a s e0 false) (valueV b s e0 false) && V.all (fun x => sameO (valueV a s x true) (valueV b s x true)))) := fun t => by
   rw [compact_Alike.j1]
   split
   ·rfl
   ·exact hl1
  rw [compact_Alike.l0, if_pos (by omega), if_pos (by omega), if_pos (by omega), rdS_at hx, fValue_eq _ _ _ _ _ (by omega) (fun m hm => (hsa m hm).1) (by omega), Option.bind_some, fValue_eq _ _ _ _ _ (by omega) (fun m hm => (hsb m hm).1) (by omega), Option.bind_some, hj, hj, if_pos rfl]
  have := sameO_toList (valueV a s e0 false) (valueV b s e0 false) (some false) (some (V.all (fun x => sameO (valueV a s x true) (valueV b s x true)) && l.all (fun s => sameO (valueV a s e0 false) (valueV b s e0 false) && V.all (fun x => sameO (valueV a s x true) (valueV b s x true)))))
  rw [this, List.all_cons]
  split
  ·rename_i h; rw [h, Bool.true_and]
  ·rename_i h
   have h : sameO (valueV a s e0 false) (valueV b s e0 false) = false := by simpa using h
   rw [h]; rfl
theorem ok7_marks {n : Nat} {l : List Ms} (h : Ok7 n l) (hn : n ≤ 1000) : Am.okMk l = true := Am.okMk_iff.2 ⟨by have := h.ll; omega, h.o2⟩
theorem Alike_eq {a b : List Ms} {n0 : Nat} (hn0 : n0 ≤ 60) (ha : Ok7 n0 a) (hb : Ok7 n0 b) (k : Nat) (hk : 70000 ≤ k) : compact_Alike.f k a b = some (alikeV a b) := by
 unfold compact_Alike.f compact_marks.f Am.marksF
 rw [ok7_marks ha (by omega), ok7_marks hb (by omega), if_pos (show (true && true) = true from rfl), Option.bind_some]
 have hK := Cp.marksK_length (a ++ b)
 have hV := Cp.marksV_length (a ++ b)
 have hla := ha.ll
 have hlb := hb.ll
 rw [List.length_append] at hK hV
 have hp : (marksK (a ++ b)).length * ((marksV (a ++ b)).length + 3) ≤ 482 * 126 := Nat.mul_le_mul (by omega) (by omega)
 obtain ⟨m, hm⟩ : ∃ m, k = m + (marksK (a ++ b)).length * ((marksV (a ++ b)).length + 3) + 1 := ⟨k - (marksK (a ++ b)).length * ((marksV (a ++ b)).length + 3) - 1, by omega⟩
 subst hm
 exact alike_out a b n0 hla hlb (by omega) ha.o2 hb.o2 (marksK (a ++ b)) (marksV (a ++ b)) (by omega) (by omega) m (by omega) (marksK (a ++ b)) 0 rfl (by omega)
theorem AlikeAt_eq {a b : List Ms} {n0 : Nat} (hn0 : n0 ≤ 1000) (ha : Ok7 n0 a) (hb : Ok7 n0 b) (k : Nat) (hk : n0 + 13 ≤ k) (s v : ByteArray) : catchmentref06_AlikeAt.f k a b s v = some (atV a b s v) := by
 have hla := ha.ll
 have hlb := hb.ll
 unfold catchmentref06_AlikeAt.f
 rw [Value_eq _ _ _ _ _ (by omega) ha.od (by omega), Option.bind_some, Value_eq _ _ _ _ _ (by omega) hb.od (by omega), Option.bind_some, Value_eq _ _ _ _ _ (by omega) ha.od (by omega), Option.bind_some, Value_eq _ _ _ _ _ (by omega) hb.od (by omega), Option.bind_some]
 unfold atV sameO
 show (if (valueV a s v true).1.toList = (valueV b s v true).1.toList then _ else _) = _
 generalize valueV a s v true = p
 generalize valueV b s v true = q
 generalize valueV a s e0 false = p2
 generalize valueV b s e0 false = q2
 unfold same
 by_cases h1 : p.1.toList = q.1.toList
 ·cases h2 : (p.2 == q.2)
  ·simp [h1, h2]
  ·by_cases h3 : p2.1.toList = q2.1.toList
   ·simp [h1, h2, h3]
   ·simp [h1, h2, h3]
 ·simp [h1]
def keysR (m : Ms) : List ByteArray := [m.f2, m.f3, succB m.f2, succB m.f3]
def keysL (l : List Ms) : List ByteArray := keys0 ++ l.flatMap keysR
theorem keysR_loop (L : List Ms) (hL : L.length ≤ 100000) (hs : ∀ m ∈ L, okS2 m) : ∀ (l : List Ms) (k i : Nat) (o : List ByteArray), L.drop i = l → i ≤ L.length → o.length + 4 * l.length ≤ 1000000 → l.length < k → catchmentref06_keys.l0 k L o (i : Int) = some (o ++ l.flatMap keysR) := by
 intro l
 induction l with
 | nil =>
  intro k i o hd hi _ hk
  obtain ⟨k, rfl⟩ : ∃ m, k = m + 1 := ⟨k - 1, by omega⟩
  have := drop_none hd hi
  rw [catchmentref06_keys.l0, if_neg (by omega)]
  simp
 | cons x l ih =>
  intro k i o hd hi ho hk
  simp only [List.length_cons] at ho hk
  obtain ⟨k, rfl⟩ : ∃ m, k = m + 1 := ⟨k - 1, by omega⟩
  obtain ⟨hlt, hx, hd2, _, hmem⟩ := drop_any hd
  have h2 := hs x hmem
  unfold okS2 at h2
  rw [catchmentref06_keys.l0, if_pos (by omega), if_pos (by omega), rdM_at hx, if_pos (by omega), if_pos (by omega), Option.bind_some, if_pos (by show o.length + 4 < _; omega), wrap1 (by omega)]
  rw [ih k (i + 1) _ hd2 (by omega) (by rw [List.length_append]; show o.length + 4 + _ ≤ _; omega) (by omega)]
  rw [List.flatMap_cons, List.append_assoc]
  rfl
theorem succ_e0 : succB e0 = ⟨#[0]⟩ := by decide
theorem keysR_eq (k : Nat) (L : List Ms) (hL : L.length ≤ 100000) (hs : ∀ m ∈ L, okS2 m) (hk : L.length < k) : catchmentref06_keys.f k L = some (keysL L) := by
 unfold catchmentref06_keys.f keysL keys0
 rw [succ_e0]
 exact keysR_loop L hL hs L k 0 _ rfl (by omega) (by simp; omega) hk
theorem valuesR_loop (L : List Ms) (hL : L.length ≤ 100000) : ∀ (l : List Ms) (k i : Nat) (o : List ByteArray), L.drop i = l → i ≤ L.length → o.length + l.length ≤ 1000000 → l.length < k → catchmentref06_values.l0 k L o (i : Int) = some (o ++ l.flatMap valM) := by
 intro l
 induction l with
 | nil =>
  intro k i o hd hi _ hk
  obtain ⟨k, rfl⟩ : ∃ m, k = m + 1 := ⟨k - 1, by omega⟩
  have := drop_none hd hi
  rw [catchmentref06_values.l0, if_neg (by omega)]
  simp
 | cons x l ih =>
  intro k i o hd hi ho hk
  simp only [List.length_cons] at ho hk
  obtain ⟨k, rfl⟩ : ∃ m, k = m + 1 := ⟨k - 1, by omega⟩
  obtain ⟨hlt, hx, hd2, _, hmem⟩ := drop_any hd
  rw [catchmentref06_values.l0, if_pos (by omega), if_pos (by omega), rdM_at hx, wrap1 (by omega), List.flatMap_cons]
  by_cases h1 : x.f0 = 1
  ·rw [if_pos h1, if_pos (by omega), ih k (i + 1) _ hd2 (by omega) (by simp; omega) (by omega)]
   simp [valM, h1]
  ·rw [if_neg h1, ih k (i + 1) _ hd2 (by omega) (by omega) (by omega)]
   simp [valM, h1]
theorem valuesR_eq (k : Nat) (L : List Ms) (hL : L.length ≤ 100000) (hk : L.length + 9 < k) : catchmentref06_values.f k L = some (marksV L) := by
 unfold catchmentref06_values.f marksV
 obtain ⟨k, rfl⟩ : ∃ m, k = m + 9 := ⟨k - 9, by omega⟩
 rw [ref03_Put_eq _ _ (by decide) (by decide), Option.bind_some, ref03_Put_eq _ _ (by decide) (by decide), Option.bind_some]
 exact valuesR_loop L hL L (k + 9) 0 _ rfl (by omega) (by simp; omega) (by omega)
theorem ralike_in (a b : List Ms) (n0 : Nat) (hn0 : n0 ≤ 1000) (ha : Ok7 n0 a) (hb : Ok7 n0 b) (s : ByteArray) (K V : List ByteArray) (hV : V.length ≤ 100000) (i n : Nat) (r0 : Bool) (hi : K[i]? = some s) (hi2 : i < 1000000) (hn : n0 + 13 ≤ n) (h0 : catchmentref06_Alike.l0 n a b K V ((i + 1 : Nat) : Int) = some r0) :
  ∀ (l : List ByteArray) (j d : Nat), V.drop j = l → j ≤ V.length → l.length = d → catchmentref06_Alike.l1 (n + 1 + d) a b K V (i : Int) (j : Int) = some (l.all (fun x => atV a b s x) && r0) := by
 intro l
 have hlt := (List.getElem?_eq_some_iff.1 hi).1
 induction l with
 | nil =>
  intro j d hd hj hl
  subst hl
  have := drop_none hd hj
  rw [List.length_nil, Nat.add_zero, catchmentref06_Alike.l1, if_neg (by omega), wrap1 (by omega), h0]
  rfl
 | cons x l ih =>
  intro j d hd hj hl
  subst hl
  obtain ⟨hltj, hx, hd2, _, _⟩ := drop_any hd
  rw [List.length_cons, show n + 1 + (l.length + 1) = (n + 1 + l.length) + 1 by omega, catchmentref06_Alike.l1, if_pos (by omega), if_pos (by omega), if_pos (by omega), if_pos (by omega), rdS_at hi, rdS_at hx, AlikeAt_eq hn0 ha hb _ (by omega), Option.bind_some, wrap1 (by omega), ih (j + 1) l.length hd2 (by omega) rfl, List.all_cons]
  split
  ·rename_i h; rw [h, Bool.true_and]
  ·rename_i h
   have h : atV a b s x = false := by simpa using h
   rw [h]; rfl
theorem ralike_out (a b : List Ms) (n0 : Nat) (hn0 : n0 ≤ 1000) (ha : Ok7 n0 a) (hb : Ok7 n0 b) (K V : List ByteArray) (hK : K.length ≤ 100000) (hV : V.length ≤ 100000) (m : Nat) (hm : n0 + 13 ≤ m) :
  ∀ (l : List ByteArray) (i : Nat), K.drop i = l → i ≤ K.length → catchmentref06_Alike.l0 (m + l.length * (V.length + 2) + 1) a b K V (i : Int) = some (l.all (fun s => V.all (fun x => atV a b s x))) := by
 intro l
 induction l with
 | nil =>
  intro i hd hi
  have := drop_none hd hi
  rw [catchmentref06_Alike.l0, if_neg (by omega)]
  rfl
 | cons s l ih =>
  intro i hd hi
  obtain ⟨hlt, hx, hd2, _, _⟩ := drop_any hd
  have h0 := ih (i + 1) hd2 (by omega)
  have hge : n0 + 13 ≤ m + l.length * (V.length + 2) + 1 := by have := Nat.zero_le (l.length * (V.length + 2)); omega
  have hl1 := ralike_in a b n0 hn0 ha hb s K V hV i _ _ hx (by omega) hge h0 V 0 V.length rfl (by omega) rfl
  have hm2 : (l.length + 1) * (V.length + 2) = l.length * (V.length + 2) + (V.length + 2) := by rw [Nat.add_mul, Nat.one_mul]
  rw [List.length_cons, hm2, show m + (l.length * (V.length + 2) + (V.length + 2)) + 1 = (m + l.length * (V.length + 2) + 1 + 1 + V.length) + 1 by omega, catchmentref06_Alike.l0, if_pos (by omega), List.all_cons]
  exact hl1
def ralikeV (a b : List Ms) : Bool := (keysL (a ++ b)).all (fun s => (marksV (a ++ b)).all (fun x => atV a b s x))
theorem ref06_Alike_eq {a b : List Ms} {n0 : Nat} (hn0 : n0 ≤ 60) (ha : Ok7 n0 a) (hb : Ok7 n0 b) (k : Nat) (hk : 70000 ≤ k) : catchmentref06_Alike.f k a b = some (ralikeV a b) := by
 have hla := ha.ll
 have hlb := hb.ll
 have hs : ∀ m ∈ a ++ b, okS2 m := fun m hm => (List.mem_append.1 hm).elim (ha.o2 m) (hb.o2 m)
 have hll : (a ++ b).length ≤ 120 := by rw [List.length_append]; omega
 unfold catchmentref06_Alike.f
 rw [Option.bind_some, if_pos (by simp; omega), Option.bind_some, List.nil_append, if_pos (by omega), Option.bind_some, keysR_eq _ _ (by omega) hs (by omega), Option.bind_some, valuesR_eq _ _ (by omega) (by omega), Option.bind_some]
 have hK : (keysL (a ++ b)).length ≤ 482 := by
  have e : ∀ l : List Ms, (l.flatMap keysR).length = 4 * l.length := fun l => by
   induction l with
   | nil => rfl
   | cons m l ih => rw [List.flatMap_cons, List.length_append, ih, List.length_cons]; simp [keysR]; omega
  unfold keysL
  rw [List.length_append, e]
  show 2 + _ ≤ _
  omega
 have hV := Cp.marksV_length (a ++ b)
 have hp : (keysL (a ++ b)).length * ((marksV (a ++ b)).length + 2) ≤ 482 * 125 := Nat.mul_le_mul (by omega) (by omega)
 obtain ⟨m, hm⟩ : ∃ m, k = m + (keysL (a ++ b)).length * ((marksV (a ++ b)).length + 2) + 1 := ⟨k - (keysL (a ++ b)).length * ((marksV (a ++ b)).length + 2) - 1, by omega⟩
 subst hm
 exact ralike_out a b n0 (by omega) ha hb (keysL (a ++ b)) (marksV (a ++ b)) (by omega) (by omega) m (by omega) (keysL (a ++ b)) 0 rfl (by omega)
theorem keys_same (l : List Ms) (s : ByteArray) : s ∈ keysL l ↔ s ∈ marksK l := by
 unfold keysL marksK
 rw [List.mem_append, List.mem_append, List.mem_flatMap, List.mem_flatMap]
 refine or_congr Iff.rfl (exists_congr (fun m => and_congr Iff.rfl ?_))
 simp only [keysR, keysM, List.mem_cons, List.not_mem_nil, or_false]
 constructor
 ·rintro (h | h | h | h) <;> simp [h]
 ·rintro (h | h | h | h) <;> simp [h]
theorem alike_same (a b : List Ms) : alikeV a b = ralikeV a b := by
 unfold alikeV ralikeV atV
 rw [Bool.eq_iff_iff, List.all_eq_true, List.all_eq_true]
 constructor
 ·intro h s hs
  have := h s ((keys_same _ s).1 hs)
  rw [Bool.and_eq_true, List.all_eq_true] at this
  rw [List.all_eq_true]
  intro x hx
  rw [this.1, this.2 x hx]; rfl
 ·intro h s hs
  have := List.all_eq_true.1 (h s ((keys_same _ s).2 hs))
  rw [Bool.and_eq_true, List.all_eq_true]
  have h1 := this e0 (e0_val _)
  rw [Bool.and_eq_true] at h1
  refine ⟨h1.2, fun x hx => ?_⟩
  have h2 := this x hx
  rw [Bool.and_eq_true] at h2
  exact h2.1
end Go.Proofs.Ytidaiafmhidooaa.P
end
section
namespace Go.Proofs.Ytidaiafmhidooaa.Pure
open Go.RowKit Go.Proofs.Ytidaiafmhidooaa.P Go.Proofs.YtidaiafmhidooaaW.PrintWords Go.Proofs.YtidaiafmhidooaaW.PrintLast Go.Proofs.YtidaiafmhidooaaW.PrintMore Go.Proofs.Ytidaiafmhidooaa.Own Go.Proofs.Ytidaiafmhidooaa
open Go.Proofs.Ytidaiafmhidooaa.Cp (okS2)
theorem live6_far : catchmentlaw06_live.f 70000 = some true := by kernel_rfl
theorem pointF_o2 : ∀ (n : Nat) (l : List Ms) (m : Ms), (∀ x ∈ l, okS2 x) → okS2 m → ∀ x ∈ pointF n l m, okS2 x
 | 0, l, m, hl, hm, x, hx => by
  simp only [pointF, List.mem_append, List.mem_singleton] at hx
  rcases hx with hx | rfl
  ·exact hl x hx
  ·exact hm
 | n + 1, l, m, hl, hm, x, hx => by
  have z0 : e0.size ≤ 140737488351232 := by decide
  have app : ∀ y : Ms, okS2 y → x ∈ l ++ [y] → okS2 x := fun y hy h => by
   simp only [List.mem_append, List.mem_singleton] at h
   rcases h with h | rfl
   ·exact hl x h
   ·exact hy
  have hj : ∀ y, okS2 (joinM y m) := fun y => by
   unfold joinM okS2
   (repeat' split) <;> first | exact hm | exact ⟨hm.1, z0⟩
  unfold pointF at hx
  split at hx
  ·exact app m hm hx
  ·split at hx
   ·exact app m hm hx
   ·split at hx
    ·exact pointF_o2 n _ _ (fun y hy => hl y (List.mem_of_mem_eraseIdx hy)) (hj _) x hx
    ·split at hx
     ·exact hl x hx
     ·split at hx
      ·exact app ⟨1, m.f1, m.f2, e0, strOfNums (Wp.eight m.f5), 0⟩ ⟨hm.1, z0⟩ hx
      ·exact app m hm hx
theorem foldl_o2 : ∀ (l o : List Ms), (∀ x ∈ l, okS2 x) → (∀ x ∈ o, okS2 x) → ∀ x ∈ l.foldl stepV o, okS2 x
 | [], _, _, h => h
 | m :: l, o, hl, ho => foldl_o2 l _ (fun x hx => hl x (List.mem_cons_of_mem _ hx)) (fun x hx => by
  have hm := hl m (by simp)
  unfold stepV at hx
  split at hx
  ·exact pointF_o2 _ _ _ ho hm x hx
  ·split at hx
   ·simp only [List.mem_append, List.mem_singleton] at hx
    rcases hx with hx | rfl
    ·exact ho x (List.mem_filter.1 hx).1
    ·exact hm
   ·exact ho x hx)
theorem CompactAlike : ∀ (x0 : (List S33)) (x1 : (List S33)) (x2 : ByteArray) (x3 : ByteArray), (x0.length * 72 ≤ 140737488351232 ∧ ∀ a_ ∈ x0, wf33 a_) → (x1.length * 72 ≤ 140737488351232 ∧ ∀ a_ ∈ x1, wf33 a_) → (x2.size ≤ 140737488351232) → (x3.size ≤ 140737488351232) → ∃ k, catchmentlaw06_CompactAlike.f k x0 x1 x2 x3 = some true := by
 intro x0 x1 x2 x3 w0 w1 w2 w3
 refine ⟨70001, ?_⟩
 have hOa : Ok6 (x0.take 30) := ok6_take w0.2
 have hOb : Ok6 (x1.take 30) := ok6_take w1.2
 have hA : Ok7 30 (x0.take 30) := ⟨hOa.ll, hOa.od, fun m hm => have h := w0.2 m (List.mem_of_mem_take hm); ⟨h.2.2.1, h.2.2.2.1⟩⟩
 have hB : Ok7 30 (x1.take 30) := ⟨hOb.ll, hOb.od, fun m hm => have h := w1.2 m (List.mem_of_mem_take hm); ⟨h.2.2.1, h.2.2.2.1⟩⟩
 unfold catchmentlaw06_CompactAlike.f
 rw [few6_eq, Option.bind_some, few6_eq, Option.bind_some]
 generalize x0.take 30 = a at hOa hA ⊢
 generalize x1.take 30 = b at hOb hB ⊢
 have hL : Ok7 30 (listV a) := ⟨Nat.le_trans (list_length a) hA.ll, list_okD a hA.od, foldl_o2 a [] hA.o2 (fun x hx => by simp at hx)⟩
 have haa : alikeV a a = true := alike_of (fun s p _ => rfl)
 have hal : alikeV a (listV a) = true := alike_of (fun s p hp => (list_val s a p hp hA.od).symm)
 rw [Alike_eq (by decide) hA hB _ (by decide), Option.bind_some, ref06_Alike_eq (by decide) hA hB _ (by decide), Option.bind_some, ← alike_same, if_neg (by simp), Alike_eq (by decide) hA hA _ (by decide), Option.bind_some, haa, if_pos rfl, List_eq hOa, Option.bind_some, Alike_eq (by decide) hA hL _ (by decide), Option.bind_some, hal]
 show catchmentlaw06_CompactAlike.j0 (70000 + 1) a b x2 x3 (alikeV a b) (!true) = _
 rw [catchmentlaw06_CompactAlike.j0, if_neg (by simp), live6_far, Option.bind_some, if_pos rfl]
 cases h : alikeV a b with
 | false => rw [if_neg (by simp)]
 | true => rw [if_pos rfl, AlikeAt_eq (by decide) hA hB _ (by decide), Option.bind_some, alike_at hA.od hB.od h]
end Go.Proofs.Ytidaiafmhidooaa.Pure
end
