/- THE ROW of CompactShort: for every input the call returns true, and each argument reads afterwards as it read before: no condition beyond the row's own. Out of the walk (its contract over the Lean function of the same text) and the plain law (module YtidaiafmhidooaaPureCompactShort). (Laid by rowgen.py.) -/
/- Texts of this seat's own and of the kit's print program, of one claim: only what the claim uses (laid by wip/tools/shake.py; Lean checks them). -/
import Derived.Test.YtidaiafmhidooaaZs0
import Derived.Deep.Slices
import Derived.ChangeArms
import Derived.SizedLaws
import Derived.OpenShut
import Derived.Test.YtidaiafmhidooaaZs3
import Derived.Test.YtidaiafmhidooaaZs18
import Derived.Test.YtidaiafmhidooaaZs20
import Derived.Test.YtidaiafmhidooaaZs21
import Derived.Test.YtidaiafmhidooaaZs4
import Derived.Test.YtidaiafmhidooaaZs22
import Derived.Test.YtidaiafmhidooaaRows
import Derived.WalkKit
import Derived.ProofKit
import Derived.ShutString
import Derived.ChangeOld
import Derived.Below
section
namespace Go.Proofs.Ytidaiafmhidooaa.Rd
open Go.RowKit Go.ChangeShapes Go.WideShapes Go.Deep Go.Proofs.YtidaiafmhidooaaW.PrintWords
structure Opens {α : Type} (P : Program) (t : TypeId) (d : Kd α) (wf : α → Prop) : Prop where
  cells : P.cellsOf t = d.sz
  down : ∀ {H : Type} {enc : TypeId × Value → H} {w : World} {base : Nat} {spare : Nat → Bool} {held : Bool} {fuel : Nat} {cs : List Value} {x : DataW H × List MemPlace},
    DataW.trod enc P w base spare held fuel t cs = some x → (∀ n ∈ x.1.weights P t, n ≤ reachBytes) → ∃ a, d.K w a cs ∧ wf a
theorem mem_weightsAll {H : Type} {P : Program} {e : TypeId} {d : DataW H} : ∀ {l : List (DataW H)}, d ∈ l → ∀ n ∈ d.weights P e, n ∈ DataW.weightsAll P e l
  | x :: l, hd, n, hn => by
    simp only [DataW.weightsAll, List.mem_append]
    rcases List.mem_cons.1 hd with rfl | hd
    · exact .inl hn
    · exact .inr (mem_weightsAll hd n hn)
theorem Opens.int {P : Program} {t : TypeId} {k : IntKind} (ht : P.underlying t = some (.int k)) (hc : P.cellsOf t = 1) : Opens P t (Kd.int k) (fun n => (Lit.int k n).wf = true) where
  cells := hc
  down := by
    intro H enc w base spare held fuel cs x h _
    obtain ⟨n, rfl, _, hw⟩ := DataW.trod_int ht h
    exact ⟨n, rfl, hw⟩
theorem Opens.bool {P : Program} {t : TypeId} (ht : P.underlying t = some .bool) (hc : P.cellsOf t = 1) : Opens P t Kd.bool (fun _ => True) where
  cells := hc
  down := by
    intro H enc w base spare held fuel cs x h _
    obtain ⟨b, rfl, _⟩ := DataW.trod_bool ht h
    exact ⟨b, rfl, trivial⟩
theorem Opens.string {P : Program} {t : TypeId} (ht : P.underlying t = some .string) (hc : P.cellsOf t = 1) : Opens P t Kd.string (fun s => s.size ≤ 140737488351232) where
  cells := hc
  down := by
    intro H enc w base spare held fuel cs x h hw
    obtain ⟨s, rfl, rfl, _⟩ := DataW.trod_string ht h
    refine ⟨s, rfl, ?_⟩
    have := hw s.data.toList.length (by simp [DataW.weights])
    have e : s.data.toList.length = s.size := by simp
    rw [e] at this
    exact this
theorem Opens.slice {α : Type} {P : Program} {t e : TypeId} {d : Kd α} {wf : α → Prop} (ht : P.underlying t = some (.slice e)) (hc : P.cellsOf t = 1) {B : Nat} (hB : P.bytesOf e = B) (he : Opens P e d wf) :
    Opens P t (Kd.slice e d) (fun l => l.length * B ≤ 140737488351232 ∧ ∀ a ∈ l, wf a) where
  cells := hc
  down := by
    intro H enc w base spare held fuel cs x h hw
    rcases open_slice ht h with ⟨rfl, _⟩ | ⟨a, len, cap, m, n, D, Pl, rfl, hb, hl, hm, hmm, rfl, hx⟩
    · exact ⟨[], ⟨none, 0, rfl, Nat.le_refl _, rfl, by simp, fun h0 => absurd h0 (by simp)⟩, by simp, fun a ha => by simp at ha⟩
    · have hlm : len ≤ m := by rw [hmm]; split <;> omega
      have hel : ∀ i : Fin len, ∃ y : α, ∃ c : List Value, w.cells? base (a.add (i.1 * P.cellsOf e)) (P.cellsOf e) = some c ∧ d.K w y c ∧ wf y := by
        intro i
        obtain ⟨c, h1, h2⟩ := hx i.1 (by omega)
        obtain ⟨y, hy, hwf⟩ := he.down h2 (fun n hn => hw n (by
          simp only [DataW.weights, ht, List.mem_cons, List.mem_append]
          exact .inr (.inl (mem_weightsAll (List.mem_map.2 ⟨i.1, List.mem_range.2 i.2, rfl⟩) n hn))))
        exact ⟨y, c, h1, hy, hwf⟩
      obtain ⟨f, hf⟩ := Classical.axiomOfChoice hel
      have hlen : (List.ofFn f).length = len := by simp
      have hmax : len ≤ 9223372036854775807 := by simp only [maxLen] at hm; omega
      refine ⟨List.ofFn f, ⟨some a, cap, ?_, ?_, ?_, ?_, ?_⟩, ?_, ?_⟩
      · rw [hlen]
      · rw [hlen]; exact hl
      · rfl
      · rw [hlen]; exact hmax
      · intro _
        refine ⟨a, rfl, fun j p hj => ?_⟩
        obtain ⟨hjl, rfl⟩ := List.getElem?_eq_some_iff.1 hj
        rw [hlen] at hjl
        obtain ⟨c, h1, hy, _⟩ := hf ⟨j, hjl⟩
        obtain ⟨_, hcl, hcell⟩ := World.cells?_some h1
        refine ⟨c, by rw [hcl, he.cells], by simpa using hy, fun i u hu => ?_⟩
        have hi : i < P.cellsOf e := by
          have := (List.getElem?_eq_some_iff.1 hu).1
          omega
        have := hcell i hi
        rw [Go.Deep.add_add] at this
        rw [← he.cells, this, hu]
      · rw [hlen]
        have hz := hw (((List.range len).map D).length + ((List.range (m - len)).map fun j => D (len + j)).length |>.mul (P.bytesOf e)) (by
          simp only [DataW.weights, ht, List.mem_cons]
          exact .inl rfl)
        rw [hB] at hz
        simp only [List.length_map, List.length_range] at hz
        have h2 : len * B ≤ (len + (m - len)) * B := Nat.mul_le_mul_right _ (by omega)
        exact Nat.le_trans h2 hz
      · intro y hy
        obtain ⟨i, rfl⟩ := List.mem_ofFn.1 hy
        obtain ⟨_, _, _, hwf⟩ := hf i
        exact hwf
theorem Opens.iso {α β : Type} {P : Program} {t : TypeId} {d : Kd α} {wf : α → Prop} {f : β → α} (g : α → β) (hg : ∀ a, f (g a) = a) (h : Opens P t d wf) : Opens P t (Kd.iso d f) (fun b => wf (f b)) where
  cells := h.cells
  down := by
    intro H enc w base spare held fuel cs x hx hw
    obtain ⟨a, hk, hwf⟩ := h.down hx hw
    refine ⟨g a, ?_, ?_⟩
    · show d.K w (f (g a)) cs
      rw [hg]; exact hk
    · show wf (f (g a))
      rw [hg]; exact hwf
structure OpensFs {α : Type} (P : Program) (fs : List Field) (off : Nat) (d : Kd α) (wf : α → Prop) : Prop where
  down : ∀ {H : Type} {enc : TypeId × Value → H} {w : World} {base : Nat} {spare : Nat → Bool} {held : Bool} {fuel : Nat} {cs : List Value} {xs : List (DataW H × List MemPlace)},
    cs.length = d.sz → xs.length = fs.length → (∀ (i : Nat) (f : Field), fs[i]? = some f → DataW.trod enc P w base spare held fuel f.type ((cs.drop (f.offset - off)).take (P.cellsOf f.type)) = xs[i]?) →
    (∀ n ∈ DataW.weightsEach P (fs.map (·.type)) (xs.map (·.1)), n ≤ reachBytes) → ∃ a, d.K w a cs ∧ wf a
  offs : ∀ f ∈ fs, off ≤ f.offset
theorem OpensFs.one {α : Type} {P : Program} {f : Field} {off : Nat} {d : Kd α} {wf : α → Prop} (ho : f.offset = off) (h : Opens P f.type d wf) : OpensFs P [f] off d wf where
  offs := by simp [ho]
  down := by
    intro H enc w base spare held fuel cs xs hl hxs hx hw
    have h0 := hx 0 f rfl
    obtain ⟨x, rfl⟩ : ∃ x, xs = [x] := by
      match xs, hxs with
      | [x], _ => exact ⟨x, rfl⟩
    rw [ho, Nat.sub_self, List.drop_zero, h.cells, ← hl, List.take_length] at h0
    exact h.down h0 (fun n hn => hw n (by simp [DataW.weightsEach, hn]))
theorem OpensFs.cons {α β : Type} {P : Program} {f : Field} {fs : List Field} {off off2 : Nat} {d : Kd α} {d2 : Kd β} {wf : α → Prop} {wf2 : β → Prop} (ho : f.offset = off) (h : Opens P f.type d wf) (ho2 : off2 = off + d.sz)
    (h2 : OpensFs P fs off2 d2 wf2) : OpensFs P (f :: fs) off (Kd.pair d d2) (fun p => wf p.1 ∧ wf2 p.2) where
  offs := by
    intro g hg
    rcases List.mem_cons.1 hg with rfl | hg
    · omega
    · have := h2.offs g hg; omega
  down := by
    intro H enc w base spare held fuel cs xs hl hxs hx hw
    obtain ⟨x, ys, rfl⟩ : ∃ x ys, xs = x :: ys := by
      match xs, hxs with
      | x :: ys, _ => exact ⟨x, ys, rfl⟩
    have hl' : cs.length = d.sz + d2.sz := hl
    have h0 := hx 0 f rfl
    rw [ho, Nat.sub_self, List.drop_zero, h.cells] at h0
    obtain ⟨a, ha, hwa⟩ := h.down h0 (fun n hn => hw n (by simp [DataW.weightsEach, hn]))
    obtain ⟨b, hb, hwb⟩ := h2.down (cs := cs.drop d.sz) (xs := ys) (by rw [List.length_drop, hl']; omega) (by simpa using hxs) (fun i g hg => by
      have h1 := hx (i + 1) g (by simpa using hg)
      have hgo := h2.offs g (List.mem_of_getElem? hg)
      rw [List.drop_drop]
      have e : d.sz + (g.offset - off2) = g.offset - off := by omega
      rw [e]
      simpa using h1) (fun n hn => hw n (by simp [DataW.weightsEach, hn]))
    exact ⟨(a, b), ⟨cs.take d.sz, cs.drop d.sz, (List.take_append_drop _ _).symm, ha, hb⟩, hwa, hwb⟩
theorem Opens.struct {α : Type} {P : Program} {t : TypeId} {fs : Array Field} {d : Kd α} {wf : α → Prop} (ht : P.underlying t = some (.struct fs)) (hc : P.cellsOf t = d.sz) (h : OpensFs P fs.toList 0 d wf) : Opens P t d wf where
  cells := hc
  down := by
    intro H enc w base spare held fuel cs x hx hw
    obtain ⟨xs, n, rfl, rfl, hl, hxs, hf⟩ := DataW.trod_struct ht hx
    refine h.down (enc := enc) (w := w) (base := base) (spare := spare) (held := held) (fuel := n) (cs := cs) (xs := xs) (by rw [hl, hc]) (by simpa using hxs) (fun i f hi => ?_) (fun n hn => hw n (by simpa [DataW.weights, ht] using hn))
    rw [Nat.sub_zero]
    exact hf i f (by simpa using hi)
end Go.Proofs.Ytidaiafmhidooaa.Rd
end
section
namespace Go.Proofs.Ytidaiafmhidooaa.P
open Go.RowKit Go.Proofs.Ytidaiafmhidooaa.Rd Go.Proofs.YtidaiafmhidooaaW.PrintWords
theorem o30 : Opens Try.prog 30 (Kd.int .u8) (fun n => (Lit.int .u8 n).wf = true) := Opens.int Try.underlying30 (by kernel_rfl)
theorem o3 : Opens Try.prog 3 (Kd.int .i64) (fun n => (Lit.int .i64 n).wf = true) := Opens.int Try.underlying3 (by kernel_rfl)
theorem o9 : Opens Try.prog 9 Kd.string (fun x_ => x_.size ≤ 140737488351232) := Opens.string Try.underlying9 (by kernel_rfl)
theorem o31 : Opens Try.prog 31 (Kd.int .u64) (fun n => (Lit.int .u64 n).wf = true) := Opens.int Try.underlying31 (by kernel_rfl)
def wf33 (x : S33) : Prop := ((Lit.int .u8 x.f0).wf = true) ∧ ((Lit.int .i64 x.f1).wf = true) ∧ (x.f2.size ≤ 140737488351232) ∧ (x.f3.size ≤ 140737488351232) ∧ (x.f4.size ≤ 140737488351232) ∧ ((Lit.int .u64 x.f5).wf = true)
theorem o33 : Opens Try.prog 33 k33 wf33 := Opens.iso (g := fun p_ => (⟨p_.1, p_.2.1, p_.2.2.1, p_.2.2.2.1, p_.2.2.2.2.1, p_.2.2.2.2.2⟩ : S33)) (fun _ => rfl) (Opens.struct Try.underlying33 (by kernel_rfl) (OpensFs.cons rfl o30 rfl (OpensFs.cons rfl o3 rfl (OpensFs.cons rfl o9 rfl (OpensFs.cons rfl o9 rfl (OpensFs.cons rfl o9 rfl (OpensFs.one rfl o31)))))))
theorem o22 : Opens Try.prog 22 (Kd.slice 33 k33) (fun x_ => x_.length * 72 ≤ 140737488351232 ∧ ∀ a_ ∈ x_, wf33 a_) := Opens.slice Try.underlying22 (by kernel_rfl) (by kernel_rfl) o33
end Go.Proofs.Ytidaiafmhidooaa.P
end
section
set_option linter.unusedVariables false
set_option linter.unusedSimpArgs false
namespace Go.Proofs.Ytidaiafmhidooaa.P
open Go.RowKit Go.Proofs.YtidaiafmhidooaaW.PrintWords Go.Proofs.YtidaiafmhidooaaW.PrintLast Go.Proofs.YtidaiafmhidooaaW.PrintMore Go.Proofs.Ytidaiafmhidooaa.Own Go.Proofs.Ytidaiafmhidooaa
def tidy (p : ByteArray × Bool) : Prop := p.2 = false → p.1 = e0
theorem tidy_apply (k : Int) (vv : ByteArray) (d : Int) (v : ByteArray) (is : Bool) : tidy (applyV k vv d v is) := by
  unfold applyV tidy
  (repeat' split) <;> simp
theorem tidy_on (m : Ms) (s : ByteArray) (p : ByteArray × Bool) : tidy (onM m s p) := by
  unfold onM onV
  split
  · exact tidy_apply _ _ _ _ _
  · unfold tidy
    split <;> simp
theorem tidy_doAll (s : ByteArray) : ∀ (l : List Ms) (p : ByteArray × Bool), tidy p → tidy (doAll s l p)
  | [], p, h => h
  | m :: l, p, h => tidy_doAll s l _ (tidy_on m s p)
theorem doAll_append (s : ByteArray) : ∀ (a b : List Ms) (p : ByteArray × Bool), doAll s (a ++ b) p = doAll s b (doAll s a p)
  | [], _, _ => rfl
  | m :: a, b, p => doAll_append s a b (onM m s p)
end Go.Proofs.Ytidaiafmhidooaa.P
end
section
set_option linter.unusedVariables false
set_option linter.unusedSimpArgs false
namespace Go.Proofs.Ytidaiafmhidooaa.P
open Go.RowKit Go.Proofs.YtidaiafmhidooaaW.PrintWords Go.Proofs.YtidaiafmhidooaaW.PrintLast Go.Proofs.YtidaiafmhidooaaW.PrintMore Go.Proofs.Ytidaiafmhidooaa.Own Go.Proofs.Ytidaiafmhidooaa
theorem eight_size (n : Int) : (strOfNums (eight n)).size = 8 := by rw [strOfNums_size]; rfl
theorem wrap_wrap (a b : Int) : IntKind.u64.wrap (IntKind.u64.wrap a + b) = IntKind.u64.wrap (a + b) := by
  simp only [IntKind.wrap, IntKind.signed, IntKind.bits]
  simp
theorem wrap_wrap' (a b : Int) : IntKind.u64.wrap (a + IntKind.u64.wrap b) = IntKind.u64.wrap (a + b) := by
  rw [Int.add_comm, wrap_wrap, Int.add_comm]
theorem valN_eight (n : Int) (h0 : 0 ≤ n) (h1 : n < 18446744073709551616) : valN (strOfNums (eight n)) 8 = n := by
  have hb : ∀ (l : List Int) (i : Nat) (a : Int), l[i]? = some a → 0 ≤ a → a < 256 → bt (strOfNums l) i = a := by
    intro l i a h ha ha2
    have hi := (List.getElem?_eq_some_iff.1 h).1
    unfold bt
    rw [dif_pos (by rw [strOfNums_size]; simpa using hi)]
    have e : (strOfNums l)[((i : Int)).toNat]'(by rw [strOfNums_size]; simpa using hi) = UInt8.ofNat a.toNat := by
      show (strOfNums l).data[((i : Int)).toNat]'_ = _
      simp only [strOfNums, Int.toNat_natCast, List.getElem_toArray, List.getElem_map]
      rw [(List.getElem?_eq_some_iff.1 h).2]
    rw [e]
    simp
    omega
  have h0' := hb (eight n) 0 _ rfl (by omega) (by omega)
  have h1' := hb (eight n) 1 _ rfl (by omega) (by omega)
  have h2' := hb (eight n) 2 _ rfl (by omega) (by omega)
  have h3' := hb (eight n) 3 _ rfl (by omega) (by omega)
  have h4' := hb (eight n) 4 _ rfl (by omega) (by omega)
  have h5' := hb (eight n) 5 _ rfl (by omega) (by omega)
  have h6' := hb (eight n) 6 _ rfl (by omega) (by omega)
  have h7' := hb (eight n) 7 _ rfl (by omega) (by omega)
  simp only [valN]
  rw [h0', h1', h2', h3', h4', h5', h6', h7']
  omega
theorem addV_some (v : ByteArray) (a b : Int) (ha : 0 ≤ a) (ha2 : a < 18446744073709551616) : addV (addV v true a) true b = addV v true (IntKind.u64.wrap (b + a)) := by
  unfold addV
  simp only [if_true]
  by_cases h : v.size = 8
  · simp only [h, if_true, eight_size]
    have := u64_wrap_range (valN v 8 + a)
    rw [valN_eight _ this.1 this.2, wrap_wrap, wrap_wrap']
    congr 3
    omega
  · simp only [h, if_false]
theorem addV_none (v : ByteArray) (a b : Int) (ha : 0 ≤ a) (ha2 : a < 18446744073709551616) : addV (addV v false a) true b = addV v false (IntKind.u64.wrap (b + a)) := by
  unfold addV
  simp only [if_true, Bool.false_eq_true, if_false, eight_size]
  rw [valN_eight _ ha ha2, Int.add_comm]
theorem onM_touch {m : Ms} {s : ByteArray} (h : touchesM m s = true) (p : ByteArray × Bool) : onM m s p = applyV m.f0 m.f4 m.f5 p.1 p.2 := by
  unfold onM onV
  rw [if_pos (show touches m.f0 m.f2 m.f3 s = true from h)]
theorem onM_far {m : Ms} {s : ByteArray} (h : touchesM m s = false) {p : ByteArray × Bool} (hp : tidy p) : onM m s p = p := by
  unfold onM onV
  have h2 : ¬ (touches m.f0 m.f2 m.f3 s = true) := by unfold touchesM at h; rw [h]; simp
  rw [if_neg h2]
  obtain ⟨v, b⟩ := p
  cases b
  · have := hp rfl; simp at this; subst this; rfl
  · rfl
theorem doAll_far {s : ByteArray} : ∀ {l : List Ms} {p : ByteArray × Bool}, tidy p → (∀ m ∈ l, touchesM m s = false) → doAll s l p = p
  | [], p, _, _ => rfl
  | m :: l, p, hp, h => by
    show doAll s l (onM m s p) = p
    rw [onM_far (h m (by simp)) hp]
    exact doAll_far hp (fun x hx => h x (List.mem_cons_of_mem _ hx))
theorem doAll_snoc (s : ByteArray) (l : List Ms) (m : Ms) (p : ByteArray × Bool) : doAll s (l ++ [m]) p = onM m s (doAll s l p) := by rw [doAll_append]; rfl
theorem doAll_filter {s : ByteArray} (g : Ms → Bool) : ∀ {l : List Ms} {p : ByteArray × Bool}, tidy p → (∀ m ∈ l, g m = false → touchesM m s = false) → doAll s (l.filter g) p = doAll s l p
  | [], p, _, _ => rfl
  | m :: l, p, hp, h => by
    rw [List.filter_cons]
    have ih := fun {q : ByteArray × Bool} (hq : tidy q) => doAll_filter (s := s) g (l := l) hq (fun x hx => h x (List.mem_cons_of_mem _ hx))
    cases hg : g m with
    | true =>
      simp only [if_true]
      exact ih (tidy_on m s p)
    | false =>
      simp only [Bool.false_eq_true, if_false]
      rw [ih hp]
      show _ = doAll s l (onM m s p)
      rw [onM_far (h m (by simp) hg) hp]
theorem okD_join {a b : Ms} (hb : okD b) : okD (joinM a b) := by
  unfold joinM
  split
  · split
    · exact u64_wrap_range _
    · exact ⟨Int.le_refl _, by show (0 : Int) < 18446744073709551616; decide⟩
  · exact hb
theorem onM_join {x m : Ms} {s : ByteArray} (hx : isPt x.f0 = true) (hm : isPt m.f0 = true) (hk : x.f2 = m.f2) (hxd : okD x) (hmd : okD m) {p : ByteArray × Bool} (hp : tidy p) : onM (joinM x m) s p = onM m s (onM x s p) := by
  have tp : ∀ y : Ms, isPt y.f0 = true → touchesM y s = same y.f2 s := fun y hy => by
    have h4 := isPt_ne4 hy
    simp [touchesM, touches, hy, h4]
  have hj := joinM_pt (a := x) hm
  cases hs : same m.f2 s with
  | false =>
    rw [onM_far (by rw [tp _ hj, joinM_key]; exact hs) hp, onM_far (m := x) (by rw [tp _ hx, hk]; exact hs) hp, onM_far (by rw [tp _ hm]; exact hs) hp]
  | true =>
    rw [onM_touch (by rw [tp _ hj, joinM_key]; exact hs), onM_touch (m := x) (by rw [tp _ hx, hk]; exact hs), onM_touch (by rw [tp _ hm]; exact hs)]
    obtain ⟨v, is⟩ := p
    simp only [isPt, decide_eq_true_eq] at hx hm
    unfold joinM
    by_cases h3 : m.f0 = 3
    · rw [if_pos h3]
      by_cases hx3 : x.f0 = 3
      · rw [if_pos hx3]
        simp only [applyV, h3, hx3]
        cases is
        · simp [addV_none _ _ _ hxd.1 hxd.2]
        · simp [addV_some _ _ _ hxd.1 hxd.2]
      · rw [if_neg hx3]
        have hx12 : x.f0 = 1 ∨ x.f0 = 2 := by omega
        rcases hx12 with h | h
        · simp [applyV, h3, h]
        · simp [applyV, h3, h]
    · rw [if_neg h3]
      have hm12 : m.f0 = 1 ∨ m.f0 = 2 := by omega
      rcases hm12 with h | h
      · simp [applyV, h]
      · simp [applyV, h]
theorem pointF_val (s : ByteArray) : ∀ (n : Nat) (l : List Ms) (m : Ms) (p : ByteArray × Bool), tidy p → isPt m.f0 = true → (∀ x ∈ l, okD x) → okD m → l.length < n → doAll s (pointF n l m) p = onM m s (doAll s l p)
  | 0, l, m, p, _, _, _, _, h => by omega
  | n + 1, l, m, p, hp, hm, hl, hmd, hn => by
    have tpm : touchesM m s = same m.f2 s := by
      have h4 := isPt_ne4 hm
      simp [touchesM, touches, hm, h4]
    unfold pointF
    rcases lastI_spec l m.f2 with ⟨h1, _⟩ | ⟨i, x, hi, h2, hx, ht, hlast⟩
    · rw [if_pos (by omega), doAll_snoc]
    · rw [if_neg (by omega)]
      have e : (lastI l m.f2).toNat = i := by omega
      rw [e, hx]
      simp only
      have hsplit : l = l.take i ++ (x :: l.drop (i + 1)) := by
        have h := List.drop_eq_getElem?_toList_append (l := l) (i := i)
        rw [hx] at h
        simp only [Option.toList_some, List.cons_append, List.nil_append] at h
        rw [← h, List.take_append_drop]
      have hfar : ∀ y ∈ l.drop (i + 1), touchesM y m.f2 = false := fun y hy => by
        obtain ⟨j, hj⟩ := List.getElem?_of_mem hy
        rw [List.getElem?_drop] at hj
        exact hlast (i + 1 + j) y (by omega) hj
      have hxl := List.mem_of_getElem? hx
      have hq : tidy (doAll s (l.take i) p) := tidy_doAll s _ _ hp
      have hD : doAll s l p = doAll s (l.drop (i + 1)) (onM x s (doAll s (l.take i) p)) := by
        conv => lhs; rw [hsplit]
        rw [doAll_append]
        rfl
      cases hpx : isPt x.f0 with
      | true =>
        rw [if_pos rfl]
        have hkey : x.f2 = m.f2 := by
          have h4 := isPt_ne4 hpx
          have : same x.f2 m.f2 = true := by simpa [touchesM, touches, hpx, h4] using ht
          exact same_iff.1 this
        rw [pointF_val s n (l.eraseIdx i) (joinM x m) p hp (joinM_pt hm) (fun y hy => hl y (List.mem_of_mem_eraseIdx hy)) (okD_join hmd) (by have := List.length_eraseIdx_of_lt hi; omega)]
        rw [hD, List.eraseIdx_eq_take_drop_succ, doAll_append]
        cases hs : same m.f2 s with
        | true =>
          have hsm := same_iff.1 hs
          subst hsm
          rw [doAll_far hq hfar, doAll_far (tidy_on x _ _) hfar]
          exact onM_join hpx hm hkey (hl x hxl) hmd hq
        | false =>
          have hxf : touchesM x s = false := by
            have h4 := isPt_ne4 hpx
            simpa [touchesM, touches, hpx, h4, hkey] using hs
          rw [onM_far hxf hq]
          have hjf : touchesM (joinM x m) s = false := by
            have hj := joinM_pt (a := x) hm
            have h4 := isPt_ne4 hj
            simpa [touchesM, touches, hj, h4, joinM_key] using hs
          rw [onM_far hjf (tidy_doAll s _ _ hq), onM_far (by rw [tpm]; exact hs) (tidy_doAll s _ _ hq)]
      | false =>
        rw [if_neg (by simp)]
        have hx4 : x.f0 = 4 := by
          have : decide (x.f0 = 4) = true := by
            cases h : decide (x.f0 = 4) with
            | true => rfl
            | false => simp [touchesM, touches, hpx, h] at ht
          simpa using this
        have hcl : same m.f2 s = true → doAll s l p = (e0, false) := fun hs => by
          have hsm := same_iff.1 hs
          subst hsm
          rw [hD, onM_touch ht]
          have : applyV x.f0 x.f4 x.f5 (doAll m.f2 (l.take i) p).1 (doAll m.f2 (l.take i) p).2 = (e0, false) := by simp [applyV, hx4]
          rw [this]
          exact doAll_far (by simp [tidy]) hfar
        have hlq : tidy (doAll s l p) := tidy_doAll s _ _ hp
        by_cases h2' : m.f0 = 2
        · rw [if_pos h2']
          cases hs : same m.f2 s with
          | true =>
            rw [hcl hs, onM_touch (by rw [tpm]; exact hs)]
            simp [applyV, h2']
          | false => rw [onM_far (by rw [tpm]; exact hs) hlq]
        · rw [if_neg h2']
          by_cases h3 : m.f0 = 3
          · rw [if_pos h3, doAll_snoc]
            have tpy : touchesM ⟨1, m.f1, m.f2, e0, strOfNums (Wp.eight m.f5), 0⟩ s = same m.f2 s := by simp [touchesM, touches, isPt]
            cases hs : same m.f2 s with
            | true =>
              rw [hcl hs, onM_touch (by rw [tpy]; exact hs), onM_touch (by rw [tpm]; exact hs)]
              simp [applyV, h3, addV]
              rfl
            | false => rw [onM_far (by rw [tpy]; exact hs) hlq, onM_far (by rw [tpm]; exact hs) hlq]
          · rw [if_neg h3, doAll_snoc]
theorem gone_far {f t : ByteArray} {x : Ms} {s : ByteArray} (hg : gone f t x = true) (hs : holds f t s = false) : touchesM x s = false := by
  cases ht : touchesM x s with
  | false => rfl
  | true =>
    exfalso
    simp only [gone, Bool.or_eq_true, Bool.and_eq_true, decide_eq_true_eq] at hg
    simp only [touchesM, touches, Bool.or_eq_true, Bool.and_eq_true, decide_eq_true_eq] at ht
    rcases hg with ⟨hp, hh⟩ | ⟨h4, hw⟩
    · rcases ht with ⟨_, h⟩ | ⟨h, _⟩
      · rw [same_iff.1 h] at hh; rw [hh] at hs; cases hs
      · exact isPt_ne4 hp h
    · rcases ht with ⟨h, _⟩ | ⟨_, h⟩
      · exact isPt_ne4 h h4
      · simp only [within, Bool.and_eq_true] at hw
        obtain ⟨hm, h1, h2⟩ := hw
        unfold meet at hm h1 h2
        split at hm
        · rename_i hc
          rw [if_pos hc] at h1 h2
          have e1 : mxs x.f2 f = x.f2 := same_iff.1 h1
          have e2 : first x.f3 t = x.f3 := same_iff.1 h2
          have := holds_meet x.f2 x.f3 f t s
          rw [e1, e2, h, hs] at this
          cases this
        · cases hm
theorem stepV_val (s : ByteArray) (o : List Ms) (m : Ms) (p : ByteArray × Bool) (hp : tidy p) (ho : ∀ x ∈ o, okD x) (hm : okD m) : doAll s (stepV o m) p = onM m s (doAll s o p) := by
  have hq := tidy_doAll s o p hp
  unfold stepV
  split
  · rename_i h
    exact pointF_val s _ o m p hp h ho hm (Nat.lt_succ_self _)
  · rename_i h
    have hpf : isPt m.f0 = false := by simpa using h
    split
    · rename_i h4
      simp only [Bool.and_eq_true, decide_eq_true_eq] at h4
      rw [doAll_snoc]
      cases ht : touchesM m s with
      | true =>
        rw [onM_touch ht, onM_touch ht]
        simp [applyV, h4.1]
      | false =>
        rw [onM_far ht (tidy_doAll s _ _ hp), onM_far ht hq]
        refine doAll_filter _ hp (fun x _ hx => gone_far (f := m.f2) (t := m.f3) (by simpa using hx) ?_)
        have e : touchesM m s = holds m.f2 m.f3 s := by
          unfold touchesM touches
          rw [hpf, decide_eq_true h4.1]
          rfl
        rw [← e]; exact ht
    · rename_i h4
      refine (onM_far ?_ hq).symm
      cases ht : touchesM m s with
      | false => rfl
      | true =>
        exfalso
        simp only [touchesM, touches, hpf, Bool.false_and, Bool.false_or, Bool.and_eq_true, decide_eq_true_eq] at ht
        exact h4 (by rw [holds_rr ht.2, decide_eq_true ht.1]; rfl)
theorem pointF_okD : ∀ (n : Nat) (l : List Ms) (m : Ms), (∀ x ∈ l, okD x) → okD m → ∀ x ∈ pointF n l m, okD x
  | 0, l, m, hl, hm, x, hx => by
    simp only [pointF, List.mem_append, List.mem_singleton] at hx
    rcases hx with hx | rfl
    · exact hl x hx
    · exact hm
  | n + 1, l, m, hl, hm, x, hx => by
    have app : ∀ y : Ms, okD y → x ∈ l ++ [y] → okD x := fun y hy h => by
      simp only [List.mem_append, List.mem_singleton] at h
      rcases h with h | rfl
      · exact hl x h
      · exact hy
    unfold pointF at hx
    split at hx
    · exact app m hm hx
    · split at hx
      · exact app m hm hx
      · split at hx
        · exact pointF_okD n _ _ (fun y hy => hl y (List.mem_of_mem_eraseIdx hy)) (okD_join hm) x hx
        · split at hx
          · exact hl x hx
          · split at hx
            · exact app ⟨1, m.f1, m.f2, e0, strOfNums (Wp.eight m.f5), 0⟩ ⟨Int.le_refl _, by show (0 : Int) < 18446744073709551616; decide⟩ hx
            · exact app m hm hx
theorem stepV_okD (out : List Ms) (m : Ms) (hl : ∀ x ∈ out, okD x) (hm : okD m) : ∀ x ∈ stepV out m, okD x := by
  intro x hx
  unfold stepV at hx
  split at hx
  · exact pointF_okD _ _ _ hl hm x hx
  · split at hx
    · simp only [List.mem_append, List.mem_singleton] at hx
      rcases hx with hx | rfl
      · exact hl x (List.mem_filter.1 hx).1
      · exact hm
    · exact hl x hx
theorem foldl_val (s : ByteArray) : ∀ (l o : List Ms) (p : ByteArray × Bool), tidy p → (∀ x ∈ o, okD x) → (∀ x ∈ l, okD x) → doAll s (l.foldl stepV o) p = doAll s l (doAll s o p) ∧ ∀ x ∈ l.foldl stepV o, okD x
  | [], o, p, _, ho, _ => ⟨rfl, ho⟩
  | m :: l, o, p, hp, ho, hl => by
    have h := foldl_val s l (stepV o m) p hp (stepV_okD o m ho (hl m (by simp))) (fun x hx => hl x (List.mem_cons_of_mem _ hx))
    refine ⟨h.1.trans ?_, h.2⟩
    rw [stepV_val s o m p hp ho (hl m (by simp))]
    rfl
theorem list_okD (l : List Ms) (hl : ∀ x ∈ l, okD x) : ∀ x ∈ listV l, okD x := (foldl_val e0 l [] (e0, false) (by simp [tidy]) (fun x hx => by simp at hx) hl).2
end Go.Proofs.Ytidaiafmhidooaa.P
end
section
set_option linter.unusedVariables false
set_option linter.unusedSimpArgs false
namespace Go.Proofs.Ytidaiafmhidooaa.P
open Go.RowKit Go.Proofs.YtidaiafmhidooaaW.PrintWords Go.Proofs.YtidaiafmhidooaaW.PrintLast Go.Proofs.YtidaiafmhidooaaW.PrintMore Go.Proofs.Ytidaiafmhidooaa.Own Go.Proofs.Ytidaiafmhidooaa
theorem few6_eq (l : List Ms) : catchmentlaw06_few.f l = some (l.take 30) := by
  have h : 0 ≤ mn (l.length : Int) 30 ∧ mn (l.length : Int) 30 ≤ l.length := by unfold mn; split <;> omega
  unfold catchmentlaw06_few.f
  rw [if_pos h.1, if_pos h.2]
  congr 1
  unfold mn
  split
  · rfl
  · rw [List.take_of_length_le (by omega), List.take_of_length_le (by omega)]
theorem live6_eq : catchmentlaw06_live.f 100 = some true := by kernel_rfl
structure Ok6 (l : List Ms) : Prop where
  ll : l.length ≤ 30
  od : ∀ m ∈ l, okD m
  os : ∀ m ∈ l, okS m
theorem ok6_take {l : List Ms} (h : ∀ a ∈ l, wf33 a) : Ok6 (l.take 30) := by
  refine ⟨by simp; omega, fun m hm => ?_, fun m hm => (h m (List.mem_of_mem_take hm)).2.2.1⟩
  have h1 := (h m (List.mem_of_mem_take hm)).2.2.2.2.2
  simp [Lit.wf, IntKind.min, IntKind.max, IntKind.signed, IntKind.bits] at h1
  unfold okD
  omega
theorem list_length (l : List Ms) : (listV l).length ≤ l.length := by have := Cp.listV_bound l []; simpa [listV] using this
theorem list_okS (l : List Ms) (h : ∀ m ∈ l, okS m) : ∀ m ∈ listV l, okS m := Cp.listV_okS l [] h (fun x hx => by simp at hx)
theorem ok6_list {l : List Ms} (h : Ok6 l) : Ok6 (listV l) := ⟨Nat.le_trans (list_length l) h.ll, list_okD l h.od, list_okS l h.os⟩
theorem List_eq {l : List Ms} (h : Ok6 l) : compact_List.f l = some (listV l) := by
  unfold compact_List.f Cp.listF
  rw [if_pos (Cp.okL_iff.2 ⟨by have := h.ll; omega, h.os⟩)]
end Go.Proofs.Ytidaiafmhidooaa.P
end
section
set_option linter.unusedVariables false
set_option linter.unusedSimpArgs false
namespace Go.Proofs.Ytidaiafmhidooaa.P
open Go.RowKit Go.Proofs.YtidaiafmhidooaaW.PrintWords Go.Proofs.YtidaiafmhidooaaW.PrintLast Go.Proofs.YtidaiafmhidooaaW.PrintMore Go.Proofs.Ytidaiafmhidooaa.Own Go.Proofs.Ytidaiafmhidooaa
def ton (a : List Ms) (s : ByteArray) : List Ms := a.filter (fun x => touchesM x s)
theorem lastI_ton (a : List Ms) (s : ByteArray) : (lastI a s = -1 ∧ ton a s = []) ∨ ∃ (i : Nat) (x : Ms) (b : List Ms), lastI a s = (i : Int) ∧ i < a.length ∧ a[i]? = some x ∧ ton a s = b ++ [x] := by
  rcases lastI_spec a s with ⟨h1, h2⟩ | ⟨i, x, hi, h2, hx, ht, hlast⟩
  · refine .inl ⟨h1, ?_⟩
    unfold ton
    rw [List.filter_eq_nil_iff]
    intro y hy
    obtain ⟨j, hj⟩ := List.getElem?_of_mem hy
    rw [h2 j y hj]; simp
  · refine .inr ⟨i, x, ton (a.take i) s, h2, hi, hx, ?_⟩
    have hsplit : a = a.take i ++ (x :: a.drop (i + 1)) := by
      have h := List.drop_eq_getElem?_toList_append (l := a) (i := i)
      rw [hx] at h
      simp only [Option.toList_some, List.cons_append, List.nil_append] at h
      rw [← h, List.take_append_drop]
    have hfar : (a.drop (i + 1)).filter (fun x => touchesM x s) = [] := by
      rw [List.filter_eq_nil_iff]
      intro y hy
      obtain ⟨j, hj⟩ := List.getElem?_of_mem hy
      rw [List.getElem?_drop] at hj
      rw [hlast (i + 1 + j) y (by omega) hj]; simp
    unfold ton
    conv => lhs; rw [hsplit]
    rw [List.filter_append, List.filter_cons, ht, hfar]
    simp
def okA (a : List Ms) (m : Ms) : Prop :=
  (isPt m.f0 = true ∧ (ton a m.f2 = [] ∨ ∃ b x, ton a m.f2 = b ++ [x] ∧ isPt x.f0 = false ∧ m.f0 = 1)) ∨
  (m.f0 = 4 ∧ rr m.f2 m.f3 = true ∧ ∀ x ∈ a, gone m.f2 m.f3 x = false)
def Nf (o : List Ms) : Prop := ∀ (a b : List Ms) (m : Ms), o = a ++ m :: b → okA a m
theorem Nf.nil : Nf [] := fun a b m h => by cases a <;> cases h
theorem Nf.snoc {o : List Ms} {m : Ms} (h : Nf o) (hm : okA o m) : Nf (o ++ [m]) := by
  intro a b x he
  rcases List.eq_nil_or_concat b with rfl | ⟨b', y, rfl⟩
  · have := List.append_inj' (show o ++ [m] = a ++ [x] from he) rfl
    obtain ⟨h1, h2⟩ := this
    injection h2 with h2
    subst h1; subst h2
    exact hm
  · rw [List.concat_eq_append, ← List.cons_append, ← List.append_assoc] at he
    have := List.append_inj' he rfl
    exact h a b' x this.1
theorem Nf.at {a b : List Ms} {m : Ms} (h : Nf (a ++ m :: b)) : okA a m := h a b m rfl
theorem step_ok {a : List Ms} {m : Ms} (h : okA a m) : stepV a m = a ++ [m] := by
  unfold stepV
  rcases h with ⟨hp, ht⟩ | ⟨h4, hr, hg⟩
  · rw [if_pos hp]
    unfold pointV pointF
    rcases lastI_ton a m.f2 with ⟨h1, _⟩ | ⟨i, x, b, h2, hi, hx, hb⟩
    · rw [if_pos (by omega)]
    · rw [if_neg (by omega)]
      have e : (lastI a m.f2).toNat = i := by omega
      rw [e, hx]
      simp only
      rcases ht with ht | ⟨b', x', hb', hx', h1⟩
      · rw [ht] at hb; simp at hb
      · rw [hb'] at hb
        have := List.append_inj' hb rfl
        obtain ⟨_, h3⟩ := this
        injection h3 with h3
        subst h3
        rw [if_neg (by rw [hx']; simp), if_neg (by omega), if_neg (by omega)]
  · have hp : isPt m.f0 = false := by simp [isPt, h4]
    rw [if_neg (by rw [hp]; simp), if_pos (by rw [decide_eq_true h4, hr]; rfl)]
    congr 1
    rw [List.filter_eq_self]
    intro x hx
    rw [hg x hx]; rfl
theorem foldl_nf : ∀ (b a : List Ms), Nf (a ++ b) → b.foldl stepV a = a ++ b
  | [], a, _ => by simp
  | m :: b, a, h => by
    rw [List.foldl_cons, step_ok h.at, foldl_nf b (a ++ [m]) (by simpa using h)]
    simp
theorem list_nf {o : List Ms} (h : Nf o) : listV o = o := foldl_nf o [] h
theorem ton_append (a b : List Ms) (s : ByteArray) : ton (a ++ b) s = ton a s ++ ton b s := by unfold ton; rw [List.filter_append]
theorem okA_less {a b : List Ms} {x m : Ms} (hx : isPt x.f0 = true) (h : okA (a ++ x :: b) m) : okA (a ++ b) m := by
  rcases h with ⟨hp, ht⟩ | ⟨h4, hr, hg⟩
  · refine .inl ⟨hp, ?_⟩
    have e : ton (a ++ x :: b) m.f2 = ton a m.f2 ++ ((if touchesM x m.f2 = true then [x] else []) ++ ton b m.f2) := by
      unfold ton
      rw [List.filter_append, List.filter_cons]
      split <;> simp
    rw [ton_append]
    rcases ht with ht | ⟨c, y, hc, hy, h1⟩
    · rw [e] at ht
      simp only [List.append_eq_nil_iff] at ht
      exact .inl (by rw [ht.1, ht.2.2]; rfl)
    · right
      rw [e] at hc
      rcases List.eq_nil_or_concat (ton b m.f2) with hb | ⟨b', z, hb⟩
      · rw [hb, List.append_nil] at hc
        by_cases htx : touchesM x m.f2 = true
        · rw [if_pos htx] at hc
          have := (List.append_inj' hc rfl).2
          injection this with this
          subst this
          rw [hx] at hy; cases hy
        · rw [if_neg htx, List.append_nil] at hc
          exact ⟨c, y, by rw [hb, List.append_nil]; exact hc, hy, h1⟩
      · rw [hb, List.concat_eq_append, ← List.append_assoc, ← List.append_assoc] at hc
        have := (List.append_inj' hc rfl).2
        injection this with this
        subst this
        exact ⟨ton a m.f2 ++ b', z, by rw [hb, List.concat_eq_append, List.append_assoc], hy, h1⟩
  · refine .inr ⟨h4, hr, fun y hy => hg y ?_⟩
    simp only [List.mem_append, List.mem_cons] at hy ⊢
    rcases hy with hy | hy
    · exact .inl hy
    · exact .inr (.inr hy)
theorem Nf.less {a b : List Ms} {x : Ms} (hx : isPt x.f0 = true) (h : Nf (a ++ x :: b)) : Nf (a ++ b) := by
  intro c d m he
  rcases List.append_eq_append_iff.1 he with ⟨e, h1, h2⟩ | ⟨e, h1, h2⟩
  · -- m lies in b
    subst h1
    have := h (a ++ x :: e) d m (by rw [h2]; simp)
    exact okA_less hx this
  · cases e with
    | nil =>
      simp only [List.append_nil, List.nil_append] at h1 h2
      subst h1
      have := h (a ++ [x]) d m (by rw [← h2]; simp)
      have := okA_less (a := a) (b := []) hx this
      simpa using this
    | cons y e =>
      injection h2 with h2 h3
      subst h2
      exact h c (e ++ x :: b) m (by rw [h1]; simp)
end Go.Proofs.Ytidaiafmhidooaa.P
end
section
set_option linter.unusedVariables false
set_option linter.unusedSimpArgs false
namespace Go.Proofs.Ytidaiafmhidooaa.P
open Go.RowKit Go.Proofs.YtidaiafmhidooaaW.PrintWords Go.Proofs.YtidaiafmhidooaaW.PrintLast Go.Proofs.YtidaiafmhidooaaW.PrintMore Go.Proofs.Ytidaiafmhidooaa.Own Go.Proofs.Ytidaiafmhidooaa
theorem pt_touch {m : Ms} (h : isPt m.f0 = true) (s : ByteArray) : touchesM m s = same m.f2 s := by
  have h4 := isPt_ne4 h
  simp [touchesM, touches, h, h4]
theorem pt_self {m : Ms} (h : isPt m.f0 = true) : touchesM m m.f2 = true := by rw [pt_touch h]; exact same_iff.2 rfl
theorem pt_kind {m : Ms} (h : isPt m.f0 = true) : m.f0 = 1 ∨ m.f0 = 2 ∨ m.f0 = 3 := by
  simp only [isPt, decide_eq_true_eq] at h
  omega
theorem ton_filter {a : List Ms} {s : ByteArray} (g : Ms → Bool) (h : ∀ x ∈ a, g x = false → touchesM x s = false) : ton (a.filter g) s = ton a s := by
  unfold ton
  rw [List.filter_filter]
  refine List.filter_congr (fun x hx => ?_)
  cases hg : g x with
  | true => simp
  | false => rw [h x hx hg]; rfl
theorem okA_filter {a : List Ms} {m : Ms} {f t : ByteArray} (h : okA a m) (hm : gone f t m = false) : okA (a.filter (fun x => !gone f t x)) m := by
  rcases h with ⟨hp, ht⟩ | ⟨h4, hr, hg⟩
  · refine .inl ⟨hp, ?_⟩
    have hh : holds f t m.f2 = false := by
      simp only [gone, hp, Bool.true_and, Bool.or_eq_false_iff] at hm
      exact hm.1
    rw [ton_filter _ (fun x _ hx => gone_far (by simpa using hx) hh)]
    exact ht
  · exact .inr ⟨h4, hr, fun x hx => hg x (List.mem_filter.1 hx).1⟩
theorem Nf.filter {o : List Ms} (h : Nf o) (f t : ByteArray) : Nf (o.filter (fun x => !gone f t x)) := by
  intro c d m he
  obtain ⟨A, B, hAB, hA, hB⟩ := List.filter_eq_append_iff.1 he
  obtain ⟨l1, l2, hl, hl1, hm, hl2⟩ := List.filter_eq_cons_iff.1 hB
  have hk : okA (A ++ l1) m := h (A ++ l1) l2 m (by rw [hAB, hl]; simp)
  have := okA_filter hk (f := f) (t := t) (by simpa using hm)
  rw [List.filter_append, hA, List.filter_eq_nil_iff.2 hl1, List.append_nil] at this
  exact this
theorem Nf.point : ∀ (n : Nat) (o : List Ms) (m : Ms), Nf o → isPt m.f0 = true → o.length < n → Nf (pointF n o m)
  | 0, o, m, _, _, h => by omega
  | n + 1, o, m, ho, hm, hn => by
    unfold pointF
    rcases lastI_ton o m.f2 with ⟨h1, ht⟩ | ⟨i, x, b, h2, hi, hx, hb⟩
    · rw [if_pos (by omega)]
      exact ho.snoc (.inl ⟨hm, .inl ht⟩)
    · rw [if_neg (by omega)]
      have e : (lastI o m.f2).toNat = i := by omega
      rw [e, hx]
      simp only
      have hsplit : o = o.take i ++ (x :: o.drop (i + 1)) := by
        have h := List.drop_eq_getElem?_toList_append (l := o) (i := i)
        rw [hx] at h
        simp only [Option.toList_some, List.cons_append, List.nil_append] at h
        rw [← h, List.take_append_drop]
      cases hpx : isPt x.f0 with
      | true =>
        rw [if_pos rfl]
        refine Nf.point n _ _ ?_ (joinM_pt hm) (by have := List.length_eraseIdx_of_lt hi; omega)
        rw [List.eraseIdx_eq_take_drop_succ]
        rw [hsplit] at ho
        exact ho.less hpx
      | false =>
        rw [if_neg (by simp)]
        have hk := pt_kind hm
        by_cases h2' : m.f0 = 2
        · rw [if_pos h2']; exact ho
        · rw [if_neg h2']
          by_cases h3 : m.f0 = 3
          · rw [if_pos h3]
            exact ho.snoc (.inl ⟨rfl, .inr ⟨b, x, hb, hpx, rfl⟩⟩)
          · rw [if_neg h3]
            exact ho.snoc (.inl ⟨hm, .inr ⟨b, x, hb, hpx, by omega⟩⟩)
theorem Nf.step {o : List Ms} (h : Nf o) (m : Ms) : Nf (stepV o m) := by
  unfold stepV
  split
  · rename_i hp
    exact Nf.point _ _ _ h hp (Nat.lt_succ_self _)
  · split
    · rename_i h4
      simp only [Bool.and_eq_true, decide_eq_true_eq] at h4
      refine (h.filter _ _).snoc (.inr ⟨h4.1, h4.2, fun x hx => ?_⟩)
      have := (List.mem_filter.1 hx).2
      simpa using this
    · exact h
theorem Nf.foldl : ∀ (l o : List Ms), Nf o → Nf (l.foldl stepV o)
  | [], _, h => h
  | m :: l, o, h => Nf.foldl l _ (h.step m)
theorem Nf.list (l : List Ms) : Nf (listV l) := Nf.foldl l [] Nf.nil
theorem list_list (l : List Ms) : listV (listV l) = listV l := list_nf (Nf.list l)
theorem Nf.one {a b c : List Ms} {x y : Ms} (h : Nf (a ++ x :: b ++ y :: c)) (hx : isPt x.f0 = true) (hy : isPt y.f0 = true) : x.f2 ≠ y.f2 := by
  intro hk
  have hx2 : touchesM x y.f2 = true := by rw [← hk]; exact pt_self hx
  have et : ton (a ++ x :: b) y.f2 = ton a y.f2 ++ x :: ton b y.f2 := by
    unfold ton
    rw [List.filter_append, List.filter_cons, hx2, if_pos rfl]
  rcases h (a ++ x :: b) c y rfl with ⟨_, ht⟩ | ⟨h4, _⟩
  · rw [et] at ht
    rcases ht with ht | ⟨b', z, hb, hz, _⟩
    · simp at ht
    · have hzb : z ∈ ton b y.f2 := by
        rcases List.eq_nil_or_concat (ton b y.f2) with h0 | ⟨q, w, hq⟩
        · rw [h0] at hb
          have := (List.append_inj' hb rfl).2
          injection this with this
          subst this
          rw [hx] at hz; cases hz
        · rw [hq, List.concat_eq_append, ← List.cons_append, ← List.append_assoc] at hb
          have := (List.append_inj' hb rfl).2
          injection this with this
          subst this
          rw [hq]; simp
      obtain ⟨hzb, hzt⟩ := List.mem_filter.1 hzb
      obtain ⟨b1, b2, rfl⟩ := List.append_of_mem hzb
      have hz4 : z.f0 = 4 ∧ holds z.f2 z.f3 y.f2 = true := by
        have h' : touches z.f0 z.f2 z.f3 y.f2 = true := hzt
        simpa [touches, hz] using h'
      rcases h (a ++ x :: b1) (b2 ++ y :: c) z (by simp) with ⟨hp, _⟩ | ⟨_, _, hg⟩
      · rw [hp] at hz; cases hz
      · have := hg x (by simp)
        simp [gone, hx, hk, hz4.2] at this
  · exact isPt_ne4 hy h4
theorem Nf.keys {o : List Ms} (h : Nf o) {i j : Nat} {x y : Ms} (hij : i < j) (hi : o[i]? = some x) (hj : o[j]? = some y) (hx : isPt x.f0 = true) (hy : isPt y.f0 = true) : x.f2 ≠ y.f2 := by
  have hsplit : ∀ (l : List Ms) (n : Nat) (z : Ms), l[n]? = some z → l = l.take n ++ (z :: l.drop (n + 1)) := fun l n z hz => by
    have h := List.drop_eq_getElem?_toList_append (l := l) (i := n)
    rw [hz] at h
    simp only [Option.toList_some, List.cons_append, List.nil_append] at h
    rw [← h, List.take_append_drop]
  have e1 := hsplit o i x hi
  have hj2 : (o.drop (i + 1))[j - (i + 1)]? = some y := by rw [List.getElem?_drop, show i + 1 + (j - (i + 1)) = j by omega]; exact hj
  have e2 := hsplit _ _ _ hj2
  rw [e2] at e1
  rw [e1] at h
  exact Nf.one (a := o.take i) (b := (o.drop (i + 1)).take (j - (i + 1))) (c := (o.drop (i + 1)).drop (j - (i + 1) + 1)) (by simpa using h) hx hy
end Go.Proofs.Ytidaiafmhidooaa.P
end
section
set_option linter.unusedVariables false
set_option linter.unusedSimpArgs false
namespace Go.Proofs.Ytidaiafmhidooaa.Pure
open Go.RowKit Go.Proofs.Ytidaiafmhidooaa.P Go.Proofs.YtidaiafmhidooaaW.PrintWords Go.Proofs.YtidaiafmhidooaaW.PrintLast Go.Proofs.YtidaiafmhidooaaW.PrintMore Go.Proofs.Ytidaiafmhidooaa.Own Go.Proofs.Ytidaiafmhidooaa
theorem eq_loop (l : List Ms) (hl : l.length ≤ 30) : ∀ (d i n : Nat), i + d = l.length → d < n → api_Msg_55.l0 n l l (l.length : Int) (i : Int) = some true := by
  intro d
  induction d with
  | zero =>
    intro i n h hn
    obtain ⟨n, rfl⟩ : ∃ m, n = m + 1 := ⟨n - 1, by omega⟩
    rw [api_Msg_55.l0, if_neg (by omega)]
  | succ d ih =>
    intro i n h hn
    obtain ⟨n, rfl⟩ : ∃ m, n = m + 1 := ⟨n - 1, by omega⟩
    rw [api_Msg_55.l0, if_pos (by omega), if_pos (by omega), if_pos (by omega), if_pos (by omega), if_neg (by simp), IntWalk.wrap64_in _ (by omega)]
    exact ih (i + 1) n (by omega) (by omega)
theorem Whole_eq {l : List Ms} (h : Ok6 l) (hw : listV l = l) (n : Nat) (hn : 30 < n) : compact_Whole.f n l = some true := by
  unfold compact_Whole.f
  rw [List_eq h, Option.bind_some, hw]
  have := h.ll
  unfold api_Msg_55.f
  rw [if_pos rfl]
  have e := eq_loop l this l.length 0 n (by omega) (by omega)
  rw [show ((0 : Nat) : Int) = 0 from rfl] at e
  rw [e, Option.bind_some]
theorem short_in (l : List Ms) (hl : l.length ≤ 30) (hn : Nf l) (n i : Nat) (hi : i < l.length) (h0 : catchmentlaw06_CompactShort.l0 n l ((i : Int) + 1) = some true) :
    ∀ (d k : Nat), k + d = i → catchmentlaw06_CompactShort.l1 (n + 1 + d) l (i : Int) (k : Int) = some true := by
  intro d
  induction d with
  | zero =>
    intro k h
    rw [Nat.add_zero, catchmentlaw06_CompactShort.l1, if_neg (by omega), IntWalk.wrap64_in _ (by omega)]
    exact h0
  | succ d ih =>
    intro k h
    have hx : l[k]? = some l[k] := List.getElem?_eq_getElem (by omega)
    have hy : l[i]? = some l[i] := List.getElem?_eq_getElem hi
    have hk := ih (k + 1) (by omega)
    rw [show n + 1 + (d + 1) = (n + 1 + d) + 1 by omega, catchmentlaw06_CompactShort.l1, if_pos (by omega), if_pos (by omega), if_pos (by omega), rdM_at hx, rdM_at hy, Point_eq, Option.bind_some, IntWalk.wrap64_in _ (by omega), show (k : Int) + 1 = ((k + 1 : Nat) : Int) by omega, hk]
    cases hpy : isPt l[i].f0 with
    | false => rw [if_neg (by simp)]
    | true =>
      rw [if_pos rfl, if_pos (by omega), if_pos (by omega), Point_eq, Option.bind_some]
      cases hpx : isPt l[k].f0 with
      | false => rw [if_neg (by simp)]
      | true =>
        rw [if_pos rfl, if_neg]
        intro he
        exact hn.keys (by omega) hx hy hpx hpy (ba_eq.1 he).symm
theorem short_out (l : List Ms) (hl : l.length ≤ 30) (hn : Nf l) : ∀ (d i : Nat), i + d = l.length → ∃ n, 100 ≤ n ∧ catchmentlaw06_CompactShort.l0 n l (i : Int) = some true := by
  intro d
  induction d with
  | zero =>
    intro i h
    refine ⟨101, by omega, ?_⟩
    rw [catchmentlaw06_CompactShort.l0, if_neg (by omega), live6_eq, Option.bind_some]
  | succ d ih =>
    intro i h
    obtain ⟨n, hn2, h0⟩ := ih (i + 1) (by omega)
    refine ⟨n + 1 + i + 1, by omega, ?_⟩
    rw [catchmentlaw06_CompactShort.l0, if_pos (by omega)]
    have := short_in l hl hn n i (by omega) (by rw [show (i : Int) + 1 = ((i + 1 : Nat) : Int) by omega]; exact h0) i 0 (by omega)
    exact this
theorem CompactShort : ∀ (x0 : (List S33)), (x0.length * 72 ≤ 140737488351232 ∧ ∀ a_ ∈ x0, wf33 a_) → ∃ k, catchmentlaw06_CompactShort.f k x0 = some true := by
  intro x0 w0
  have hO : Ok6 (x0.take 30) := ok6_take w0.2
  have hL := ok6_list hO
  have hlen := list_length (x0.take 30)
  obtain ⟨n, hn, h0⟩ := short_out (listV (x0.take 30)) hL.ll (Nf.list (x0.take 30)) (listV (x0.take 30)).length 0 (by omega)
  refine ⟨n + 1, ?_⟩
  unfold catchmentlaw06_CompactShort.f
  rw [few6_eq, Option.bind_some]
  generalize x0.take 30 = l at hO hL hlen h0 ⊢
  rw [List_eq hO, Option.bind_some, if_neg (by omega), Whole_eq hL (list_list l) (n + 1) (by omega), Option.bind_some, catchmentlaw06_CompactShort.j0, if_neg (by simp)]
  exact h0
end Go.Proofs.Ytidaiafmhidooaa.Pure
end
section
namespace Go.Proofs.Ytidaiafmhidooaa.compactShort
open Go.ChangeShapes Go.WideShapes Go.ChangeAt Go.RowKit Go.Proofs.Ytidaiafmhidooaa.P Go.Proofs.Ytidaiafmhidooaa.Rd Go.Proofs.YtidaiafmhidooaaW.PrintWords
open Go.ChangeMaps (open_string shut_string)
set_option linter.unusedVariables false
theorem own : ownKnob Try.prog.godebug = none := by kernel_rfl
theorem laidOut : laidOutB Try.prog = true := by kernel_rfl
set_option maxHeartbeats 2000000 in
set_option maxRecDepth 100000 in
theorem lifted (os : Os) (started : os.Started) (H : Type) (enc : TypeId × Value → H) :
    ReturnsInHanded {} Try.checked os 4 .any (Rows.compactShortSpec.pre6 enc Try.prog Try.f4 Rows.compactShortRow.domain false) (Rows.compactShortSpec.post enc Try.prog Try.f4 false true false false) := by
  refine returnsInHanded_of_change_sized (C := Try.checked) own started (by kernel_rfl) Try.func4
    (ChangeSpec.witness6 (enc := enc) (C := Try.checked) false ⟨#[], #[.slice none 0 0], []⟩ 8 (by kernel_rfl) (by kernel_rfl) (by kernel_rfl) (by kernel_rfl)) ?_
  intro W base args ds gs before hval0 hW hcnd hsz0 _
  have hsz : (DataW.weightsEach Try.prog (Try.f4.params.toList ++ Rows.compactShortSpec.plain.varTypes Try.prog) (ds ++ gs)).all (· ≤ reachBytes) = true := hsz0
  have hval : ∀ (j : Nat) t v, Try.f4.params[j]? = some t → args[j]? = some v → Value.okWide Try.prog W .any base t v := hval0
  have hW' := hW
  obtain ⟨p, q, hA0, hV, rfl, hfz, hnd⟩ := hW
  have hA : DataW.TrodAll enc Try.prog W 0 (fun _ => true) true Try.f4.params.toList args.toList ds p := hA0
  rw [Try.params4] at hA hval hsz
  obtain ⟨v0, vs0, d0, ds0, p0, q0, hargs, rfl, rfl, h0, r0⟩ := trodAll_cons hA
  obtain ⟨rfl, rfl, rfl⟩ := trodAll_nil r0
  obtain rfl : args = #[v0] := by cases args; simp_all
  obtain ⟨rfl, rfl⟩ := trodVars_none hV
  have k0 := h0
  have lt0 : ∀ x ∈ p0, x.block < W.heap.size := by obtain ⟨m, hm⟩ := k0; exact DataW.trod_lt m _ _ _ hm
  have ww0 : ∀ n ∈ d0.weights Try.prog 22, n ≤ reachBytes := fun n hn => by simpa using List.all_eq_true.1 hsz n (DataW.weights_mem_each (j := 0) rfl rfl n hn)
  obtain ⟨ad0, len0, cap0, rfl⟩ := okWide_slice Try.underlying22 (hval 0 22 v0 rfl rfl)
  obtain ⟨fu0, hf0⟩ := h0
  obtain ⟨x0, kx0, w0⟩ := o22.down hf0 ww0
  obtain ⟨A0, c0, e0, hc0, hr0⟩ := kx0
  obtain ⟨rfl, rfl, rfl⟩ : ad0 = A0 ∧ len0 = x0.length ∧ cap0 = c0 := by simpa [Value.cells] using e0
  clear hA0 hval0 hsz0 hsz
  obtain ⟨k_, hp⟩ := Pure.CompactShort x0 w0
  refine (catchmentlaw06_CompactShort.calls (k := k_) (r := true) (w := W) (hr0 := hr0) (hc0 := hc0) (h := hp)).mono fun e W' ⟨he, bel0⟩ => ?_
  have bel : Below W.heap.size W W' := bel0
  subst he
  exact ⟨_, rfl, _, _, _, [], _, [], hW', trodAll_mk1 (shut_bool Try.underlying4 _), (trodAll_cons_mk (Below.trod laidOut (by kernel_rfl) (of_decide_eq_true (by kernel_rfl)) k0 bel lt0) trodAll_mk0), rfl, bel.frame _, fun h => by cases h⟩
theorem over : Rows.compactShortRow.holds Try.pinned (OpenSpec.ofChange Rows.compactShortSpec) :=
  OpenClaim.holds_of_wide 4 Try.f4 rfl rfl rfl rfl rfl rfl rfl ⟨rfl, rfl, rfl, rfl, rfl⟩ rfl rfl rfl rfl rfl (by kernel_rfl) Try.func4 (by kernel_rfl)
    (of_decide_eq_true (by kernel_rfl)) (by unfold Func.isWrapper; first | (rw [if_pos (by decide +kernel)]; kernel_rfl) | (rw [if_neg (by decide +kernel)]; exact ⟨rfl, rfl⟩))
    (fun os started H enc _ => lifted os started H enc)
end Go.Proofs.Ytidaiafmhidooaa.compactShort
namespace Go.Proofs.Ytidaiafmhidooaa
theorem compactShort_holds : Rows.CompactShortSaid := compactShort.over
#print axioms compactShort_holds
end Go.Proofs.Ytidaiafmhidooaa
end
