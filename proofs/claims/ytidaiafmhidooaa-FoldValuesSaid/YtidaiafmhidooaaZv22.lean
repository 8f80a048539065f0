/- THE ROW of FoldValues: for every input the call returns true, and each argument reads afterwards as it read before: no condition beyond the row's own. Out of the walk (its contract over the Lean function of the same text) and the plain law (module YtidaiafmhidooaaPureFoldValues). (Laid by rowgen.py.) -/
/- Texts of this seat's own and of the kit's print program, of one claim: only what the claim uses (laid by wip/tools/shake.py; Lean checks them). -/
import Derived.Test.YtidaiafmhidooaaZv0
import Derived.Deep.Slices
import Derived.ChangeArms
import Derived.SizedLaws
import Derived.OpenShut
import Derived.Test.YtidaiafmhidooaaZv2
import Derived.Test.YtidaiafmhidooaaZv10
import Derived.Test.YtidaiafmhidooaaZv18
import Derived.Test.YtidaiafmhidooaaZv7
import Derived.Test.YtidaiafmhidooaaZv20
import Derived.Test.YtidaiafmhidooaaZv8
import Derived.Test.YtidaiafmhidooaaZv21
import Derived.Test.YtidaiafmhidooaaRows
import Derived.WalkKit
import Derived.ProofKit
import Derived.ShutString
import Derived.ChangeOld
import Derived.Below
section
namespace Go.Proofs.Ytidaiafmhidooaa.Rd
open Go.RowKit Go.ChangeShapes Go.WideShapes Go.Deep Go.Proofs.YtidaiafmhidooaaW.PrintWords
structure Opens {α : Type} (P : Program) (t : TypeId) (d : Kd α) (wf : α → Prop) : Prop where
  cells : P.cellsOf t = d.sz
  down : ∀ {H : Type} {enc : TypeId × Value → H} {w : World} {base : Nat} {spare : Nat → Bool} {held : Bool} {fuel : Nat} {cs : List Value} {x : DataW H × List MemPlace},
    DataW.trod enc P w base spare held fuel t cs = some x → (∀ n ∈ x.1.weights P t, n ≤ reachBytes) → ∃ a, d.K w a cs ∧ wf a
theorem mem_weightsAll {H : Type} {P : Program} {e : TypeId} {d : DataW H} : ∀ {l : List (DataW H)}, d ∈ l → ∀ n ∈ d.weights P e, n ∈ DataW.weightsAll P e l
  | x :: l, hd, n, hn => by
    simp only [DataW.weightsAll, List.mem_append]
    rcases List.mem_cons.1 hd with rfl | hd
    · exact .inl hn
    · exact .inr (mem_weightsAll hd n hn)
theorem Opens.int {P : Program} {t : TypeId} {k : IntKind} (ht : P.underlying t = some (.int k)) (hc : P.cellsOf t = 1) : Opens P t (Kd.int k) (fun n => (Lit.int k n).wf = true) where
  cells := hc
  down := by
    intro H enc w base spare held fuel cs x h _
    obtain ⟨n, rfl, _, hw⟩ := DataW.trod_int ht h
    exact ⟨n, rfl, hw⟩
theorem Opens.bool {P : Program} {t : TypeId} (ht : P.underlying t = some .bool) (hc : P.cellsOf t = 1) : Opens P t Kd.bool (fun _ => True) where
  cells := hc
  down := by
    intro H enc w base spare held fuel cs x h _
    obtain ⟨b, rfl, _⟩ := DataW.trod_bool ht h
    exact ⟨b, rfl, trivial⟩
theorem Opens.string {P : Program} {t : TypeId} (ht : P.underlying t = some .string) (hc : P.cellsOf t = 1) : Opens P t Kd.string (fun s => s.size ≤ 140737488351232) where
  cells := hc
  down := by
    intro H enc w base spare held fuel cs x h hw
    obtain ⟨s, rfl, rfl, _⟩ := DataW.trod_string ht h
    refine ⟨s, rfl, ?_⟩
    have := hw s.data.toList.length (by simp [DataW.weights])
    have e : s.data.toList.length = s.size := by simp
    rw [e] at this
    exact this
theorem Opens.slice {α : Type} {P : Program} {t e : TypeId} {d : Kd α} {wf : α → Prop} (ht : P.underlying t = some (.slice e)) (hc : P.cellsOf t = 1) {B : Nat} (hB : P.bytesOf e = B) (he : Opens P e d wf) :
    Opens P t (Kd.slice e d) (fun l => l.length * B ≤ 140737488351232 ∧ ∀ a ∈ l, wf a) where
  cells := hc
  down := by
    intro H enc w base spare held fuel cs x h hw
    rcases open_slice ht h with ⟨rfl, _⟩ | ⟨a, len, cap, m, n, D, Pl, rfl, hb, hl, hm, hmm, rfl, hx⟩
    · exact ⟨[], ⟨none, 0, rfl, Nat.le_refl _, rfl, by simp, fun h0 => absurd h0 (by simp)⟩, by simp, fun a ha => by simp at ha⟩
    · have hlm : len ≤ m := by rw [hmm]; split <;> omega
      have hel : ∀ i : Fin len, ∃ y : α, ∃ c : List Value, w.cells? base (a.add (i.1 * P.cellsOf e)) (P.cellsOf e) = some c ∧ d.K w y c ∧ wf y := by
        intro i
        obtain ⟨c, h1, h2⟩ := hx i.1 (by omega)
        obtain ⟨y, hy, hwf⟩ := he.down h2 (fun n hn => hw n (by
          simp only [DataW.weights, ht, List.mem_cons, List.mem_append]
          exact .inr (.inl (mem_weightsAll (List.mem_map.2 ⟨i.1, List.mem_range.2 i.2, rfl⟩) n hn))))
        exact ⟨y, c, h1, hy, hwf⟩
      obtain ⟨f, hf⟩ := Classical.axiomOfChoice hel
      have hlen : (List.ofFn f).length = len := by simp
      have hmax : len ≤ 9223372036854775807 := by simp only [maxLen] at hm; omega
      refine ⟨List.ofFn f, ⟨some a, cap, ?_, ?_, ?_, ?_, ?_⟩, ?_, ?_⟩
      · rw [hlen]
      · rw [hlen]; exact hl
      · rfl
      · rw [hlen]; exact hmax
      · intro _
        refine ⟨a, rfl, fun j p hj => ?_⟩
        obtain ⟨hjl, rfl⟩ := List.getElem?_eq_some_iff.1 hj
        rw [hlen] at hjl
        obtain ⟨c, h1, hy, _⟩ := hf ⟨j, hjl⟩
        obtain ⟨_, hcl, hcell⟩ := World.cells?_some h1
        refine ⟨c, by rw [hcl, he.cells], by simpa using hy, fun i u hu => ?_⟩
        have hi : i < P.cellsOf e := by
          have := (List.getElem?_eq_some_iff.1 hu).1
          omega
        have := hcell i hi
        rw [Go.Deep.add_add] at this
        rw [← he.cells, this, hu]
      · rw [hlen]
        have hz := hw (((List.range len).map D).length + ((List.range (m - len)).map fun j => D (len + j)).length |>.mul (P.bytesOf e)) (by
          simp only [DataW.weights, ht, List.mem_cons]
          exact .inl rfl)
        rw [hB] at hz
        simp only [List.length_map, List.length_range] at hz
        have h2 : len * B ≤ (len + (m - len)) * B := Nat.mul_le_mul_right _ (by omega)
        exact Nat.le_trans h2 hz
      · intro y hy
        obtain ⟨i, rfl⟩ := List.mem_ofFn.1 hy
        obtain ⟨_, _, _, hwf⟩ := hf i
        exact hwf
theorem Opens.iso {α β : Type} {P : Program} {t : TypeId} {d : Kd α} {wf : α → Prop} {f : β → α} (g : α → β) (hg : ∀ a, f (g a) = a) (h : Opens P t d wf) : Opens P t (Kd.iso d f) (fun b => wf (f b)) where
  cells := h.cells
  down := by
    intro H enc w base spare held fuel cs x hx hw
    obtain ⟨a, hk, hwf⟩ := h.down hx hw
    refine ⟨g a, ?_, ?_⟩
    · show d.K w (f (g a)) cs
      rw [hg]; exact hk
    · show wf (f (g a))
      rw [hg]; exact hwf
structure OpensFs {α : Type} (P : Program) (fs : List Field) (off : Nat) (d : Kd α) (wf : α → Prop) : Prop where
  down : ∀ {H : Type} {enc : TypeId × Value → H} {w : World} {base : Nat} {spare : Nat → Bool} {held : Bool} {fuel : Nat} {cs : List Value} {xs : List (DataW H × List MemPlace)},
    cs.length = d.sz → xs.length = fs.length → (∀ (i : Nat) (f : Field), fs[i]? = some f → DataW.trod enc P w base spare held fuel f.type ((cs.drop (f.offset - off)).take (P.cellsOf f.type)) = xs[i]?) →
    (∀ n ∈ DataW.weightsEach P (fs.map (·.type)) (xs.map (·.1)), n ≤ reachBytes) → ∃ a, d.K w a cs ∧ wf a
  offs : ∀ f ∈ fs, off ≤ f.offset
theorem OpensFs.one {α : Type} {P : Program} {f : Field} {off : Nat} {d : Kd α} {wf : α → Prop} (ho : f.offset = off) (h : Opens P f.type d wf) : OpensFs P [f] off d wf where
  offs := by simp [ho]
  down := by
    intro H enc w base spare held fuel cs xs hl hxs hx hw
    have h0 := hx 0 f rfl
    obtain ⟨x, rfl⟩ : ∃ x, xs = [x] := by
      match xs, hxs with
      | [x], _ => exact ⟨x, rfl⟩
    rw [ho, Nat.sub_self, List.drop_zero, h.cells, ← hl, List.take_length] at h0
    exact h.down h0 (fun n hn => hw n (by simp [DataW.weightsEach, hn]))
theorem OpensFs.cons {α β : Type} {P : Program} {f : Field} {fs : List Field} {off off2 : Nat} {d : Kd α} {d2 : Kd β} {wf : α → Prop} {wf2 : β → Prop} (ho : f.offset = off) (h : Opens P f.type d wf) (ho2 : off2 = off + d.sz)
    (h2 : OpensFs P fs off2 d2 wf2) : OpensFs P (f :: fs) off (Kd.pair d d2) (fun p => wf p.1 ∧ wf2 p.2) where
  offs := by
    intro g hg
    rcases List.mem_cons.1 hg with rfl | hg
    · omega
    · have := h2.offs g hg; omega
  down := by
    intro H enc w base spare held fuel cs xs hl hxs hx hw
    obtain ⟨x, ys, rfl⟩ : ∃ x ys, xs = x :: ys := by
      match xs, hxs with
      | x :: ys, _ => exact ⟨x, ys, rfl⟩
    have hl' : cs.length = d.sz + d2.sz := hl
    have h0 := hx 0 f rfl
    rw [ho, Nat.sub_self, List.drop_zero, h.cells] at h0
    obtain ⟨a, ha, hwa⟩ := h.down h0 (fun n hn => hw n (by simp [DataW.weightsEach, hn]))
    obtain ⟨b, hb, hwb⟩ := h2.down (cs := cs.drop d.sz) (xs := ys) (by rw [List.length_drop, hl']; omega) (by simpa using hxs) (fun i g hg => by
      have h1 := hx (i + 1) g (by simpa using hg)
      have hgo := h2.offs g (List.mem_of_getElem? hg)
      rw [List.drop_drop]
      have e : d.sz + (g.offset - off2) = g.offset - off := by omega
      rw [e]
      simpa using h1) (fun n hn => hw n (by simp [DataW.weightsEach, hn]))
    exact ⟨(a, b), ⟨cs.take d.sz, cs.drop d.sz, (List.take_append_drop _ _).symm, ha, hb⟩, hwa, hwb⟩
theorem Opens.struct {α : Type} {P : Program} {t : TypeId} {fs : Array Field} {d : Kd α} {wf : α → Prop} (ht : P.underlying t = some (.struct fs)) (hc : P.cellsOf t = d.sz) (h : OpensFs P fs.toList 0 d wf) : Opens P t d wf where
  cells := hc
  down := by
    intro H enc w base spare held fuel cs x hx hw
    obtain ⟨xs, n, rfl, rfl, hl, hxs, hf⟩ := DataW.trod_struct ht hx
    refine h.down (enc := enc) (w := w) (base := base) (spare := spare) (held := held) (fuel := n) (cs := cs) (xs := xs) (by rw [hl, hc]) (by simpa using hxs) (fun i f hi => ?_) (fun n hn => hw n (by simpa [DataW.weights, ht] using hn))
    rw [Nat.sub_zero]
    exact hf i f (by simpa using hi)
end Go.Proofs.Ytidaiafmhidooaa.Rd
end
section
namespace Go.Proofs.Ytidaiafmhidooaa.P
open Go.RowKit Go.Proofs.Ytidaiafmhidooaa.Rd Go.Proofs.YtidaiafmhidooaaW.PrintWords
theorem o30 : Opens Try.prog 30 (Kd.int .u8) (fun n => (Lit.int .u8 n).wf = true) := Opens.int Try.underlying30 (by kernel_rfl)
theorem o3 : Opens Try.prog 3 (Kd.int .i64) (fun n => (Lit.int .i64 n).wf = true) := Opens.int Try.underlying3 (by kernel_rfl)
theorem o9 : Opens Try.prog 9 Kd.string (fun x_ => x_.size ≤ 140737488351232) := Opens.string Try.underlying9 (by kernel_rfl)
theorem o31 : Opens Try.prog 31 (Kd.int .u64) (fun n => (Lit.int .u64 n).wf = true) := Opens.int Try.underlying31 (by kernel_rfl)
def wf33 (x : S33) : Prop := ((Lit.int .u8 x.f0).wf = true) ∧ ((Lit.int .i64 x.f1).wf = true) ∧ (x.f2.size ≤ 140737488351232) ∧ (x.f3.size ≤ 140737488351232) ∧ (x.f4.size ≤ 140737488351232) ∧ ((Lit.int .u64 x.f5).wf = true)
theorem o33 : Opens Try.prog 33 k33 wf33 := Opens.iso (g := fun p_ => (⟨p_.1, p_.2.1, p_.2.2.1, p_.2.2.2.1, p_.2.2.2.2.1, p_.2.2.2.2.2⟩ : S33)) (fun _ => rfl) (Opens.struct Try.underlying33 (by kernel_rfl) (OpensFs.cons rfl o30 rfl (OpensFs.cons rfl o3 rfl (OpensFs.cons rfl o9 rfl (OpensFs.cons rfl o9 rfl (OpensFs.cons rfl o9 rfl (OpensFs.one rfl o31)))))))
theorem o22 : Opens Try.prog 22 (Kd.slice 33 k33) (fun x_ => x_.length * 72 ≤ 140737488351232 ∧ ∀ a_ ∈ x_, wf33 a_) := Opens.slice Try.underlying22 (by kernel_rfl) (by kernel_rfl) o33
def wf55 (x : S55) : Prop := (x.f0.size ≤ 140737488351232) ∧ (x.f1.size ≤ 140737488351232)
theorem o55 : Opens Try.prog 55 k55 wf55 := Opens.iso (g := fun p_ => (⟨p_.1, p_.2⟩ : S55)) (fun _ => rfl) (Opens.struct Try.underlying55 (by kernel_rfl) (OpensFs.cons rfl o9 rfl (OpensFs.one rfl o9)))
theorem o36 : Opens Try.prog 36 (Kd.slice 55 k55) (fun x_ => x_.length * 32 ≤ 140737488351232 ∧ ∀ a_ ∈ x_, wf55 a_) := Opens.slice Try.underlying36 (by kernel_rfl) (by kernel_rfl) o55
theorem o4 : Opens Try.prog 4 Kd.bool (fun _ => True) := Opens.bool Try.underlying4 (by kernel_rfl)
end Go.Proofs.Ytidaiafmhidooaa.P
end
section
set_option linter.unusedVariables false
set_option linter.unusedSimpArgs false
namespace Go.Proofs.Ytidaiafmhidooaa.P
open Go.RowKit Go.Proofs.YtidaiafmhidooaaW.PrintWords Go.Proofs.YtidaiafmhidooaaW.PrintLast Go.Proofs.YtidaiafmhidooaaW.PrintMore Go.Proofs.Ytidaiafmhidooaa.Own Go.Proofs.Ytidaiafmhidooaa
abbrev RiseK (l : List ByteArray) : Prop := l.Pairwise (fun a b => lt a b = true)
theorem mem_intoV (s x : ByteArray) : ∀ L : List ByteArray, x ∈ intoV L s ↔ x ∈ L ∨ x = s
  | [] => by simp [intoV]
  | y :: L => by
    unfold intoV
    split
    · rw [List.mem_cons, mem_intoV s x L, List.mem_cons, or_assoc]
    · split
      · rename_i h
        have := same_iff.1 h
        subst this
        simp only [List.mem_cons]
        constructor
        · exact .inl
        · rintro (h | h)
          · exact h
          · exact .inl h
      · simp only [List.mem_cons]
        constructor
        · rintro (h | h | h)
          · exact .inr h
          · exact .inl (.inl h)
          · exact .inl (.inr h)
        · rintro ((h | h) | h)
          · exact .inr (.inl h)
          · exact .inr (.inr h)
          · exact .inl h
theorem rise_intoV (s : ByteArray) : ∀ L : List ByteArray, RiseK L → RiseK (intoV L s)
  | [], _ => by simp [intoV]
  | y :: L, h => by
    obtain ⟨h1, h2⟩ := List.pairwise_cons.1 h
    unfold intoV
    split
    · rename_i hy
      refine List.pairwise_cons.2 ⟨fun x hx => ?_, rise_intoV s L h2⟩
      rcases (mem_intoV s x L).1 hx with hx | rfl
      · exact h1 x hx
      · exact hy
    · rename_i hy
      split
      · exact h
      · rename_i hs
        have hsy : lt s y = true := by
          rcases lt_tri s y with q | q | q
          · exact q
          · exact absurd (same_iff.2 q.symm) hs
          · exact absurd q hy
        refine List.pairwise_cons.2 ⟨fun x hx => ?_, h⟩
        rcases List.mem_cons.1 hx with rfl | hx
        · exact hsy
        · exact lt_trans hsy (h1 x hx)
theorem rise_ext {α : Type} (R : α → α → Prop) (irr : ∀ a, ¬ R a a) (tr : ∀ {a b c}, R a b → R b c → R a c) : ∀ {a b : List α}, a.Pairwise R → b.Pairwise R → (∀ x, x ∈ a ↔ x ∈ b) → a = b
  | [], [], _, _, _ => rfl
  | [], y :: b, _, _, h => absurd ((h y).2 (by simp)) (by simp)
  | x :: a, [], _, _, h => absurd ((h x).1 (by simp)) (by simp)
  | x :: a, y :: b, ha, hb, h => by
    obtain ⟨ha1, ha2⟩ := List.pairwise_cons.1 ha
    obtain ⟨hb1, hb2⟩ := List.pairwise_cons.1 hb
    have hxy : x = y := by
      rcases List.mem_cons.1 ((h x).1 (by simp)) with q | q
      · exact q
      · rcases List.mem_cons.1 ((h y).2 (by simp)) with r | r
        · exact r.symm
        · exact absurd (tr (ha1 y r) (hb1 x q)) (irr x)
    subst hxy
    have : a = b := rise_ext R irr tr ha2 hb2 (fun z => by
      have hz := h z
      constructor
      · intro q
        rcases List.mem_cons.1 (hz.1 (List.mem_cons_of_mem _ q)) with r | r
        · subst r; exact absurd (ha1 z q) (irr z)
        · exact r
      · intro q
        rcases List.mem_cons.1 (hz.2 (List.mem_cons_of_mem _ q)) with r | r
        · subst r; exact absurd (hb1 z q) (irr z)
        · exact r)
    rw [this]
theorem riseK_ext {a b : List ByteArray} (ha : RiseK a) (hb : RiseK b) (h : ∀ x, x ∈ a ↔ x ∈ b) : a = b :=
  rise_ext (fun a b => lt a b = true) (fun a h => by rw [lt_irrefl] at h; cases h) (fun h k => lt_trans h k) ha hb h
end Go.Proofs.Ytidaiafmhidooaa.P
end
section
set_option linter.unusedVariables false
set_option linter.unusedSimpArgs false
namespace Go.Proofs.Ytidaiafmhidooaa.P
open Go.RowKit Go.Proofs.YtidaiafmhidooaaW.PrintWords Go.Proofs.YtidaiafmhidooaaW.PrintLast Go.Proofs.YtidaiafmhidooaaW.PrintMore Go.Proofs.Ytidaiafmhidooaa.Own Go.Proofs.Ytidaiafmhidooaa
theorem Same3_loop (L : List ByteArray) (hL : L.length ≤ 1000000) : ∀ (l : List ByteArray) (k i : Nat), L.drop i = l → i ≤ L.length → l.length < k → catchmentref03_Same.l0 k L L i = some true := by
  intro l
  induction l with
  | nil =>
    intro k i hd hi hk
    obtain ⟨k, rfl⟩ : ∃ m, k = m + 1 := ⟨k - 1, by omega⟩
    obtain rfl := drop_none hd hi
    rw [catchmentref03_Same.l0, if_neg (by omega)]
  | cons x l ih =>
    intro k i hd hi hk
    simp only [List.length_cons] at hk
    obtain ⟨k, rfl⟩ : ∃ m, k = m + 1 := ⟨k - 1, by omega⟩
    obtain ⟨hlt, hx, hd2, _, _⟩ := drop_any hd
    rw [catchmentref03_Same.l0, if_pos (by omega), if_pos (by omega), if_pos (by omega), if_pos rfl, wrap1 (by omega)]
    exact ih k (i + 1) hd2 (by omega) (by omega)
theorem Same3_refl (k : Nat) (L : List ByteArray) (hL : L.length ≤ 1000000) (hk : L.length < k) : catchmentref03_Same.f k L L = some true := by
  unfold catchmentref03_Same.f
  rw [if_pos rfl]
  exact Same3_loop L hL L k 0 rfl (by omega) hk
theorem fFind_loop (L : List En) (s : ByteArray) (hL : L.length ≤ 1000000) : ∀ (l : List En) (k i : Nat), L.drop i = l → i ≤ L.length → l.length < k → fold_Find.l0 k s L L.length i = some (findV l s) := by
  intro l
  induction l with
  | nil =>
    intro k i hd hi hk
    obtain ⟨k, rfl⟩ : ∃ m, k = m + 1 := ⟨k - 1, by omega⟩
    obtain rfl := drop_none hd hi
    rw [fold_Find.l0, if_neg (by omega)]
    rfl
  | cons x l ih =>
    intro k i hd hi hk
    simp only [List.length_cons] at hk
    obtain ⟨k, rfl⟩ : ∃ m, k = m + 1 := ⟨k - 1, by omega⟩
    obtain ⟨hlt, hx, hd2, _, _⟩ := drop_any hd
    rw [fold_Find.l0, if_pos (by omega), if_pos (by omega), if_pos (by omega), rdE_at hx, wrap1 (by omega), ih k (i + 1) hd2 (by omega) (by omega)]
    have hs : same x.f0 s = decide (x.f0.toList = s.toList) := rfl
    simp only [findV]
    by_cases h : x.f0.toList = s.toList
    · rw [if_pos h, if_pos (by simpa [hs] using h)]
    · rw [if_neg h, if_neg (by simpa [hs] using h)]
theorem fFind_eq (k : Nat) (e : List En) (s : ByteArray) (he : e.length ≤ 1000000) (hk : e.length < k) : fold_Find.f k e s = some (findV e s) :=
  fFind_loop e s he e k 0 rfl (by omega) hk
theorem fRises_loop (L : List En) (hL : L.length ≤ 1000000) : ∀ (l : List En) (i k : Nat) (x : En), L.drop (i + 1) = l → L[i]? = some x → l.length < k → fold_Rises.l0 k L L.length ((i : Int) + 1) = some (risesV (x :: l)) := by
  intro l
  induction l with
  | nil =>
    intro i k x hd hx hk
    obtain ⟨k, rfl⟩ : ∃ m, k = m + 1 := ⟨k - 1, by omega⟩
    have hlen : L.length ≤ i + 1 := by have := congrArg List.length hd; simp at this; omega
    rw [fold_Rises.l0, if_neg (by omega)]
    rfl
  | cons y l ih =>
    intro i k x hd hx hk
    simp only [List.length_cons] at hk
    obtain ⟨k, rfl⟩ : ∃ m, k = m + 1 := ⟨k - 1, by omega⟩
    obtain ⟨hlt, hy, hd2, _, _⟩ := drop_any hd
    rw [fold_Rises.l0]
    rw [if_pos (by omega), if_pos (by omega), IntWalk.wrap64_in ((i : Int) + 1 - 1) (by omega), if_pos (by omega), if_pos (by omega), if_pos (by omega), if_pos (by omega)]
    rw [show (i : Int) + 1 - 1 = (i : Int) by omega, rdE_at hx, show (i : Int) + 1 = ((i + 1 : Nat) : Int) by omega, rdE_at hy, IntWalk.wrap64_in _ (by omega)]
    rw [ih (i + 1) k y hd2 hy (by omega)]
    show (if lt x.f0 y.f0 = true then _ else _) = some (lt x.f0 y.f0 && risesV (y :: l))
    cases lt x.f0 y.f0 <;> rfl
theorem fRises_eq (k : Nat) (L : List En) (hL : L.length ≤ 1000000) (hk : L.length + 1 < k) : fold_Rises.f k L = some (risesV L) := by
  unfold fold_Rises.f
  obtain ⟨k, rfl⟩ : ∃ m, k = m + 1 := ⟨k - 1, by omega⟩
  cases L with
  | nil =>
    rw [fold_Rises.l0, if_neg (by simp)]
    rfl
  | cons x l =>
    rw [fold_Rises.l0, if_pos (by simp), if_neg (by omega), IntWalk.wrap64_in _ (by omega)]
    exact fRises_loop (x :: l) hL l 0 k x rfl rfl (by simp at hk; omega)
theorem fValue_loop (L : List Ms) (s : ByteArray) (hL : L.length ≤ 1000000) (hD : ∀ m ∈ L, m.f2.size ≤ 140737488351232) : ∀ (l : List Ms) (k i : Nat) (v : ByteArray) (is : Bool), L.drop i = l → i ≤ L.length → l.length + 11 < k → fold_Value.l0 k s v is L L.length i = some (doAll s l (v, is)) := by
  intro l
  induction l with
  | nil =>
    intro k i v is hd hi hk
    obtain ⟨k, rfl⟩ : ∃ m, k = m + 1 := ⟨k - 1, by omega⟩
    obtain rfl := drop_none hd hi
    rw [fold_Value.l0, if_neg (by omega)]
    rfl
  | cons x l ih =>
    intro k i v is hd hi hk
    simp only [List.length_cons] at hk
    obtain ⟨k, rfl⟩ : ∃ m, k = m + 10 := ⟨k - 10, by omega⟩
    obtain ⟨hlt, hx, hd2, _, hm⟩ := drop_any hd
    rw [fold_Value.l0, if_pos (by omega), if_pos (by omega), if_pos (by omega), rdM_at hx, wrap1 (by omega), On_eq k _ _ _ _ _ _ _ _ _ (hD x hm)]
    simp only [Option.bind_some]
    exact ih (k + 9) (i + 1) _ _ hd2 (by omega) (by omega)
theorem fValue_eq (k : Nat) (l : List Ms) (s v : ByteArray) (is : Bool) (hl : l.length ≤ 1000000) (hD : ∀ m ∈ l, m.f2.size ≤ 140737488351232) (hk : l.length + 12 < k) : fold_Value.f k l s v is = some (valueV l s v is) := by
  obtain ⟨k, rfl⟩ : ∃ m, k = m + 9 := ⟨k - 9, by omega⟩
  unfold fold_Value.f
  rw [Apply_eq k]
  simp only [Option.bind_some]
  have h := fValue_loop l s hl hD l (k + 9) 0
  refine (show fold_Value.l0 (k + 9) _ _ _ l l.length 0 = _ from h _ _ rfl (by omega) (by omega)).trans ?_
  congr 1
  unfold valueV norm applyV
  cases is <;> simp
end Go.Proofs.Ytidaiafmhidooaa.P
end
section
set_option linter.unusedVariables false
set_option linter.unusedSimpArgs false
namespace Go.Proofs.Ytidaiafmhidooaa.Fo
open Go.RowKit Go.Proofs.YtidaiafmhidooaaW.PrintWords Go.Proofs.YtidaiafmhidooaaW.PrintLast Go.Proofs.YtidaiafmhidooaaW.PrintMore Go.Proofs.Ytidaiafmhidooaa.Own Go.Proofs.Ytidaiafmhidooaa.Ord Go.Proofs.Ytidaiafmhidooaa Go.Proofs.Ytidaiafmhidooaa.P
section
variable {V : Type}
theorem mem_ins (k : ByteArray) (v : V) (L : List (ByteArray × V)) (a : ByteArray) (b : V) : (a, b) ∈ ins OrdSs.lt k v L ↔ (a = k ∧ b = v) ∨ (a ≠ k ∧ (a, b) ∈ L) := by
  unfold ins
  rw [List.mem_append, List.mem_cons, List.mem_filter, List.mem_filter]
  simp only [Prod.mk.injEq]
  have tri : a ≠ k ↔ OrdSs.lt a k = true ∨ OrdSs.lt k a = true := by
    constructor
    · intro h
      cases q : OrdSs.lt a k with
      | true => exact .inl rfl
      | false =>
        cases r : OrdSs.lt k a with
        | true => exact .inr rfl
        | false => exact absurd (OrdSs.lin.tri q r) h
    · rintro (h | h) rfl
      · rw [OrdSs.lin.irr] at h; cases h
      · rw [OrdSs.lin.irr] at h; cases h
  rw [tri]
  constructor
  · rintro (⟨h1, h2⟩ | h | ⟨h1, h2⟩)
    · exact .inr ⟨.inl h2, h1⟩
    · exact .inl h
    · exact .inr ⟨.inr h2, h1⟩
  · rintro (h | ⟨h1 | h1, h2⟩)
    · exact .inr (.inl h)
    · exact .inl ⟨h2, h1⟩
    · exact .inr (.inr ⟨h2, h1⟩)
end
theorem insB_keys (k : ByteArray) (v : Bool) : ∀ (L : RowB), Rise OrdSb.lt L → (ins OrdSb.lt k v L).map (·.1) = intoV (L.map (·.1)) k := fun L h => by
  refine riseK_ext ?_ (rise_intoV k _ (List.pairwise_map.2 h)) (fun x => ?_)
  · exact List.pairwise_map.2 (ins_rise OrdSb.lin k v h)
  · rw [mem_intoV, List.mem_map, List.mem_map]
    have hm := fun a b => mem_ins k v L a b
    constructor
    · rintro ⟨⟨a, b⟩, hy, rfl⟩
      rcases (hm a b).1 hy with q | q
      · exact .inr q.1
      · exact .inl ⟨_, q.2, rfl⟩
    · rintro (⟨⟨a, b⟩, hy, rfl⟩ | rfl)
      · by_cases ha : a = k
        · exact ⟨(k, v), (hm k v).2 (.inl ⟨rfl, rfl⟩), ha.symm⟩
        · exact ⟨(a, b), (hm a b).2 (.inr ⟨ha, hy⟩), rfl⟩
      · exact ⟨(x, v), (hm x v).2 (.inl ⟨rfl, rfl⟩), rfl⟩
theorem keysFrom_eq : ∀ (l : List Ms) (L : RowB), Rise OrdSb.lt L → (keysFromB L l).map (·.1) = keysFrom (L.map (·.1)) l
  | [], _, _ => rfl
  | m :: l, L, h => by
    rw [keysFromB, keysFrom_eq l _ (keyMsg_rise h m).1, keysFrom]
    congr 1
    unfold keyMsg
    split
    · exact insB_keys _ _ _ h
    · rfl
theorem keys_eq (l : List Ms) : (keysB l).map (·.1) = keysV l := keysFrom_eq l [] List.Pairwise.nil
end Go.Proofs.Ytidaiafmhidooaa.Fo
end
section
set_option linter.unusedVariables false
set_option linter.unusedSimpArgs false
namespace Go.Proofs.Ytidaiafmhidooaa.P
open Go.RowKit Go.Proofs.YtidaiafmhidooaaW.PrintWords Go.Proofs.YtidaiafmhidooaaW.PrintLast Go.Proofs.YtidaiafmhidooaaW.PrintMore Go.Proofs.Ytidaiafmhidooaa.Own Go.Proofs.Ytidaiafmhidooaa
theorem take_mn {α : Type} (l : List α) : l.take (mn (l.length : Int) 40).toNat = l.take 40 := by
  unfold mn
  split
  · rfl
  · rename_i h
    rw [List.take_of_length_le (by omega), List.take_of_length_le (by omega)]
theorem mn_le (n : Nat) : 0 ≤ mn (n : Int) 40 ∧ mn (n : Int) 40 ≤ n := by
  unfold mn
  split <;> omega
theorem few_eq (l : List Ms) : catchmentlaw05_few.f l = some (l.take 40) := by
  have := mn_le l.length
  unfold catchmentlaw05_few.f
  rw [if_pos this.1, if_pos this.2, take_mn]
theorem some_eq (l : List En) : catchmentlaw05_some.f l = some (l.take 40) := by
  have := mn_le l.length
  unfold catchmentlaw05_some.f
  rw [if_pos this.1, if_pos this.2, take_mn]
structure Okd (n : Nat) (l : List Ms) (e : List En) : Prop where
  ll : l.length ≤ n
  el : e.length ≤ n
  od : ∀ m ∈ l, okD m
  os : ∀ m ∈ l, m.f2.size ≤ 140737488351232
theorem wfM {l : List Ms} (h : ∀ a ∈ l, wf33 a) : (∀ m ∈ l, okD m) ∧ (∀ m ∈ l, m.f2.size ≤ 140737488351232) := by
  refine ⟨fun m hm => ?_, fun m hm => (h m hm).2.2.1⟩
  have h1 := (h m hm).2.2.2.2.2
  simp [Lit.wf, IntKind.min, IntKind.max, IntKind.signed, IntKind.bits] at h1
  unfold okD
  omega
theorem okd_take {l : List Ms} {e : List En} (h : ∀ a ∈ l, wf33 a) : Okd 40 (l.take 40) (e.take 40) := by
  have := wfM h
  exact ⟨by simp; omega, by simp; omega, fun m hm => this.1 m (List.mem_of_mem_take hm), fun m hm => this.2 m (List.mem_of_mem_take hm)⟩
theorem Okd.mono {n m : Nat} {l : List Ms} {e : List En} (h : Okd n l e) (k : n ≤ m) : Okd m l e := ⟨Nat.le_trans h.ll k, Nat.le_trans h.el k, h.od, h.os⟩
theorem keysF_eq {l : List Ms} {e : List En} (h : Okd 100000 l e) : Fo.keysF l = some (keysV l) := by
  unfold Fo.keysF
  rw [if_pos (Fo.okF_iff.2 ⟨h.ll, by simp, h.os⟩)]
  exact congrArg some (Fo.keys_eq l)
theorem live_eq : catchmentlaw05_live.f = some true := by kernel_rfl
end Go.Proofs.Ytidaiafmhidooaa.P
end
section
set_option linter.unusedVariables false
set_option linter.unusedSimpArgs false
namespace Go.Proofs.Ytidaiafmhidooaa.Pure
open Go.RowKit Go.Proofs.Ytidaiafmhidooaa.P Go.Proofs.YtidaiafmhidooaaW.PrintWords Go.Proofs.YtidaiafmhidooaaW.PrintLast Go.Proofs.YtidaiafmhidooaaW.PrintMore Go.Proofs.Ytidaiafmhidooaa.Own Go.Proofs.Ytidaiafmhidooaa
theorem FoldValues : ∀ (x0 : (List S33)) (x1 : ByteArray) (x2 : ByteArray) (x3 : Bool) (x4 : (List S55)), (x0.length * 72 ≤ 140737488351232 ∧ ∀ a_ ∈ x0, wf33 a_) → (x1.size ≤ 140737488351232) → (x2.size ≤ 140737488351232) → (x4.length * 32 ≤ 140737488351232 ∧ ∀ a_ ∈ x4, wf55 a_) → ∃ k, catchmentlaw05_FoldValues.f k x0 x1 x2 x3 x4 = some true := by
  intro x0 x1 x2 x3 x4 w0 w1 w2 w3
  refine ⟨1000, ?_⟩
  have hO : Okd 40 (x0.take 40) (x4.take 40) := okd_take w0.2
  unfold catchmentlaw05_FoldValues.f
  rw [few_eq, some_eq]
  simp only [Option.bind_some]
  generalize x0.take 40 = l at hO ⊢
  generalize x4.take 40 = e at hO ⊢
  have hl := hO.ll
  have he := hO.el
  have hB : Okd 100000 l e := hO.mono (by omega)
  have h1 : (keysV l).length ≤ l.length := by have := keysFrom_length l []; simpa [keysV] using this
  rw [fValue_eq _ _ _ _ _ (by omega) hO.os (by omega), Value_eq _ _ _ _ _ (by omega) hO.od (by omega), fFind_eq _ _ _ (by omega) (by omega), Find_eq _ _ _ (by omega) (by omega), live_eq]
  simp only [Option.bind_some, if_true, beq_self_eq_true]
  unfold fold_Keys.f
  rw [keysF_eq hB, Keys_eq _ _ hB.ll (by omega)]
  simp only [Option.bind_some]
  rw [Same3_refl _ _ (by omega) (by omega), fRises_eq _ _ (by omega) (by omega), Rises_eq _ _ (by omega) (by omega)]
  simp
end Go.Proofs.Ytidaiafmhidooaa.Pure
end
section
namespace Go.Proofs.Ytidaiafmhidooaa.foldValues
open Go.ChangeShapes Go.WideShapes Go.ChangeAt Go.RowKit Go.Proofs.Ytidaiafmhidooaa.P Go.Proofs.Ytidaiafmhidooaa.Rd Go.Proofs.YtidaiafmhidooaaW.PrintWords
open Go.ChangeMaps (open_string shut_string)
set_option linter.unusedVariables false
theorem own : ownKnob Try.prog.godebug = none := by kernel_rfl
theorem laidOut : laidOutB Try.prog = true := by kernel_rfl
set_option maxHeartbeats 2000000 in
set_option maxRecDepth 100000 in
theorem lifted (os : Os) (started : os.Started) (H : Type) (enc : TypeId × Value → H) :
    ReturnsInHanded {} Try.checked os 10 .any (Rows.foldValuesSpec.pre6 enc Try.prog Try.f10 Rows.foldValuesRow.domain false) (Rows.foldValuesSpec.post enc Try.prog Try.f10 false true false false) := by
  refine returnsInHanded_of_change_sized (C := Try.checked) own started (by kernel_rfl) Try.func10
    (ChangeSpec.witness6 (enc := enc) (C := Try.checked) false ⟨#[], #[.slice none 0 0, .string ByteArray.empty, .string ByteArray.empty, .bool false, .slice none 0 0], []⟩ 8 (by kernel_rfl) (by kernel_rfl) (by kernel_rfl) (by kernel_rfl)) ?_
  intro W base args ds gs before hval0 hW hcnd hsz0 _
  have hsz : (DataW.weightsEach Try.prog (Try.f10.params.toList ++ Rows.foldValuesSpec.plain.varTypes Try.prog) (ds ++ gs)).all (· ≤ reachBytes) = true := hsz0
  have hval : ∀ (j : Nat) t v, Try.f10.params[j]? = some t → args[j]? = some v → Value.okWide Try.prog W .any base t v := hval0
  have hW' := hW
  obtain ⟨p, q, hA0, hV, rfl, hfz, hnd⟩ := hW
  have hA : DataW.TrodAll enc Try.prog W 0 (fun _ => true) true Try.f10.params.toList args.toList ds p := hA0
  rw [Try.params10] at hA hval hsz
  obtain ⟨v0, vs0, d0, ds0, p0, q0, hargs, rfl, rfl, h0, r0⟩ := trodAll_cons hA
  obtain ⟨v1, vs1, d1, ds1, p1, q1, rfl, rfl, rfl, h1, r1⟩ := trodAll_cons r0
  obtain ⟨v2, vs2, d2, ds2, p2, q2, rfl, rfl, rfl, h2, r2⟩ := trodAll_cons r1
  obtain ⟨v3, vs3, d3, ds3, p3, q3, rfl, rfl, rfl, h3, r3⟩ := trodAll_cons r2
  obtain ⟨v4, vs4, d4, ds4, p4, q4, rfl, rfl, rfl, h4, r4⟩ := trodAll_cons r3
  obtain ⟨rfl, rfl, rfl⟩ := trodAll_nil r4
  obtain rfl : args = #[v0, v1, v2, v3, v4] := by cases args; simp_all
  obtain ⟨rfl, rfl⟩ := trodVars_none hV
  have k0 := h0
  have lt0 : ∀ x ∈ p0, x.block < W.heap.size := by obtain ⟨m, hm⟩ := k0; exact DataW.trod_lt m _ _ _ hm
  have ww0 : ∀ n ∈ d0.weights Try.prog 22, n ≤ reachBytes := fun n hn => by simpa using List.all_eq_true.1 hsz n (DataW.weights_mem_each (j := 0) rfl rfl n hn)
  obtain ⟨ad0, len0, cap0, rfl⟩ := okWide_slice Try.underlying22 (hval 0 22 v0 rfl rfl)
  obtain ⟨fu0, hf0⟩ := h0
  obtain ⟨x0, kx0, w0⟩ := o22.down hf0 ww0
  obtain ⟨A0, c0, e0, hc0, hr0⟩ := kx0
  obtain ⟨rfl, rfl, rfl⟩ : ad0 = A0 ∧ len0 = x0.length ∧ cap0 = c0 := by simpa [Value.cells] using e0
  have k1 := h1
  have lt1 : ∀ x ∈ p1, x.block < W.heap.size := by obtain ⟨m, hm⟩ := k1; exact DataW.trod_lt m _ _ _ hm
  have ww1 : ∀ n ∈ d1.weights Try.prog 9, n ≤ reachBytes := fun n hn => by simpa using List.all_eq_true.1 hsz n (DataW.weights_mem_each (j := 1) rfl rfl n hn)
  obtain ⟨y1, rfl⟩ := okWide_string Try.underlying9 (hval 1 9 v1 rfl rfl)
  obtain ⟨fu1, hf1⟩ := h1
  obtain ⟨x1, kx1, w1⟩ := o9.down hf1 ww1
  obtain rfl : x1 = y1 := Eq.symm (by simpa [Value.cells, Kd.string, Kd.scalar] using kx1)
  have k2 := h2
  have lt2 : ∀ x ∈ p2, x.block < W.heap.size := by obtain ⟨m, hm⟩ := k2; exact DataW.trod_lt m _ _ _ hm
  have ww2 : ∀ n ∈ d2.weights Try.prog 9, n ≤ reachBytes := fun n hn => by simpa using List.all_eq_true.1 hsz n (DataW.weights_mem_each (j := 2) rfl rfl n hn)
  obtain ⟨y2, rfl⟩ := okWide_string Try.underlying9 (hval 2 9 v2 rfl rfl)
  obtain ⟨fu2, hf2⟩ := h2
  obtain ⟨x2, kx2, w2⟩ := o9.down hf2 ww2
  obtain rfl : x2 = y2 := Eq.symm (by simpa [Value.cells, Kd.string, Kd.scalar] using kx2)
  have k3 := h3
  have lt3 : ∀ x ∈ p3, x.block < W.heap.size := by obtain ⟨m, hm⟩ := k3; exact DataW.trod_lt m _ _ _ hm
  have ww3 : ∀ n ∈ d3.weights Try.prog 4, n ≤ reachBytes := fun n hn => by simpa using List.all_eq_true.1 hsz n (DataW.weights_mem_each (j := 3) rfl rfl n hn)
  obtain ⟨y3, rfl⟩ := okWide_bool Try.underlying4 (hval 3 4 v3 rfl rfl)
  obtain ⟨fu3, hf3⟩ := h3
  obtain ⟨x3, kx3, w3⟩ := o4.down hf3 ww3
  obtain rfl : x3 = y3 := Eq.symm (by simpa [Value.cells, Kd.bool, Kd.scalar] using kx3)
  have k4 := h4
  have lt4 : ∀ x ∈ p4, x.block < W.heap.size := by obtain ⟨m, hm⟩ := k4; exact DataW.trod_lt m _ _ _ hm
  have ww4 : ∀ n ∈ d4.weights Try.prog 36, n ≤ reachBytes := fun n hn => by simpa using List.all_eq_true.1 hsz n (DataW.weights_mem_each (j := 4) rfl rfl n hn)
  obtain ⟨ad4, len4, cap4, rfl⟩ := okWide_slice Try.underlying36 (hval 4 36 v4 rfl rfl)
  obtain ⟨fu4, hf4⟩ := h4
  obtain ⟨x4, kx4, w4⟩ := o36.down hf4 ww4
  obtain ⟨A4, c4, e4, hc4, hr4⟩ := kx4
  obtain ⟨rfl, rfl, rfl⟩ : ad4 = A4 ∧ len4 = x4.length ∧ cap4 = c4 := by simpa [Value.cells] using e4
  clear hA0 hval0 hsz0 hsz
  obtain ⟨k_, hp⟩ := Pure.FoldValues x0 x1 x2 x3 x4 w0 w1 w2 w4
  refine (catchmentlaw05_FoldValues.calls (k := k_) (r := true) (w := W) (hr0 := hr0) (hc0 := hc0) (hr4 := hr4) (hc4 := hc4) (h := hp)).mono fun e W' ⟨he, bel0⟩ => ?_
  have bel : Below W.heap.size W W' := bel0
  subst he
  exact ⟨_, rfl, _, _, _, [], _, [], hW', trodAll_mk1 (shut_bool Try.underlying4 _), (trodAll_cons_mk (Below.trod laidOut (by kernel_rfl) (of_decide_eq_true (by kernel_rfl)) k0 bel lt0) (trodAll_cons_mk (Below.trod laidOut (by kernel_rfl) (of_decide_eq_true (by kernel_rfl)) k1 bel lt1) (trodAll_cons_mk (Below.trod laidOut (by kernel_rfl) (of_decide_eq_true (by kernel_rfl)) k2 bel lt2) (trodAll_cons_mk (Below.trod laidOut (by kernel_rfl) (of_decide_eq_true (by kernel_rfl)) k3 bel lt3) (trodAll_cons_mk (Below.trod laidOut (by kernel_rfl) (of_decide_eq_true (by kernel_rfl)) k4 bel lt4) trodAll_mk0))))), rfl, bel.frame _, fun h => by cases h⟩
theorem over : Rows.foldValuesRow.holds Try.pinned (OpenSpec.ofChange Rows.foldValuesSpec) :=
  OpenClaim.holds_of_wide 10 Try.f10 rfl rfl rfl rfl rfl rfl rfl ⟨rfl, rfl, rfl, rfl, rfl⟩ rfl rfl rfl rfl rfl (by kernel_rfl) Try.func10 (by kernel_rfl)
    (of_decide_eq_true (by kernel_rfl)) (by unfold Func.isWrapper; first | (rw [if_pos (by decide +kernel)]; kernel_rfl) | (rw [if_neg (by decide +kernel)]; exact ⟨rfl, rfl⟩))
    (fun os started H enc _ => lifted os started H enc)
end Go.Proofs.Ytidaiafmhidooaa.foldValues
namespace Go.Proofs.Ytidaiafmhidooaa
theorem foldValues_holds : Rows.FoldValuesSaid := foldValues.over
#print axioms foldValues_holds
end Go.Proofs.Ytidaiafmhidooaa
end
