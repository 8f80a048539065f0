/- THE ROW of ModelWalks: for every input the call returns true, and each argument reads afterwards as it read before: no condition beyond the row's own. Out of the walk (its contract over the Lean function of the same text) and the plain law (module YtljnlnbopohghaaPureModelWalks). (Laid by rowgen.py.) -/
/- Texts of one claim (laid by shake.py). -/
import Derived.Test.YtljnlnbopohghaaZWa1
import Derived.Deep.Slices
import Derived.ChangeArms
import Derived.SizedLaws
import Derived.OpenShut
import Derived.Test.YtljnlnbopohghaaZWa4
import Derived.Test.YtljnlnbopohghaaZWa24
import Derived.Test.YtljnlnbopohghaaZWa9
import Derived.Test.YtljnlnbopohghaaZWa12
import Derived.Test.YtljnlnbopohghaaZWa10
import Derived.Test.YtljnlnbopohghaaZWa25
import Derived.Test.YtljnlnbopohghaaZWa5
import Derived.Test.YtljnlnbopohghaaZWa14
import Derived.Test.YtljnlnbopohghaaZWa8
import Derived.Test.YtljnlnbopohghaaZWa7
import Derived.Test.YtljnlnbopohghaaRows
import Derived.WalkKit
import Derived.ProofKit
import Derived.ShutString
import Derived.ChangeOld
import Derived.Below
set_option linter.unusedVariables false
set_option linter.unusedSimpArgs false
section
namespace Go.Proofs.Ytljnlnbopohghaa.Rd
open Go.RowKit Go.ChangeShapes Go.WideShapes Go.Deep Go.Proofs.YtljnlnbopohghaaW.PrintWords
structure Opens {α : Type} (P : Program) (t : TypeId) (d : Kd α) (wf : α → Prop) : Prop where
 cells : P.cellsOf t = d.sz
 down : ∀ {H : Type} {enc : TypeId × Value → H} {w : World} {base : Nat} {spare : Nat → Bool} {held : Bool} {fuel : Nat} {cs : List Value} {x : DataW H × List MemPlace},
  DataW.trod enc P w base spare held fuel t cs = some x → (∀ n ∈ x.1.weights P t, n ≤ reachBytes) → ∃ a, d.K w a cs ∧ wf a
theorem mem_weightsAll {H : Type} {P : Program} {e : TypeId} {d : DataW H} : ∀ {l : List (DataW H)}, d ∈ l → ∀ n ∈ d.weights P e, n ∈ DataW.weightsAll P e l
 | x :: l, hd, n, hn => by
  simp only [DataW.weightsAll, List.mem_append]
  rcases List.mem_cons.1 hd with rfl | hd
  ·exact .inl hn
  exact .inr (mem_weightsAll hd n hn)
theorem Opens.int {P : Program} {t : TypeId} {k : IntKind} (ht : P.underlying t = some (.int k)) (hc : P.cellsOf t = 1) : Opens P t (Kd.int k) (fun n => (Lit.int k n).wf = true) where
 cells := hc
 down := by
  intro H enc w base spare held fuel cs x h _
  obtain ⟨n, rfl, _, hw⟩ := DataW.trod_int ht h
  exact ⟨n, rfl, hw⟩
theorem Opens.bool {P : Program} {t : TypeId} (ht : P.underlying t = some .bool) (hc : P.cellsOf t = 1) : Opens P t Kd.bool (fun _ => True) where
 cells := hc
 down := by
  intro H enc w base spare held fuel cs x h _
  obtain ⟨b, rfl, _⟩ := DataW.trod_bool ht h
  exact ⟨b, rfl, trivial⟩
theorem Opens.string {P : Program} {t : TypeId} (ht : P.underlying t = some .string) (hc : P.cellsOf t = 1) : Opens P t Kd.string (fun s => s.size ≤ 140737488351232) where
 cells := hc
 down := by
  intro H enc w base spare held fuel cs x h hw
  obtain ⟨s, rfl, rfl, _⟩ := DataW.trod_string ht h
  refine ⟨s, rfl, ?_⟩
  have := hw s.data.toList.length (by simp [DataW.weights])
  have e : s.data.toList.length = s.size := by simp
  rw [e] at this
  exact this
theorem Opens.slice {α : Type} {P : Program} {t e : TypeId} {d : Kd α} {wf : α → Prop} (ht : P.underlying t = some (.slice e)) (hc : P.cellsOf t = 1) {B : Nat} (hB : P.bytesOf e = B) (he : Opens P e d wf) :
  Opens P t (Kd.slice e d) (fun l => l.length * B ≤ 140737488351232 ∧ ∀ a ∈ l, wf a) where
 cells := hc
 down := by
  intro H enc w base spare held fuel cs x h hw
  rcases open_slice ht h with ⟨rfl, _⟩ | ⟨a, len, cap, m, n, D, Pl, rfl, hb, hl, hm, hmm, rfl, hx⟩
  ·exact ⟨[], ⟨none, 0, rfl, Nat.le_refl _, rfl, by simp, fun h0 => absurd h0 (by simp)⟩, by simp, fun a ha => by simp at ha⟩
  have hlm : len ≤ m := by rw [hmm]; split <;> omega
  have hel : ∀ i : Fin len, ∃ y : α, ∃ c : List Value, w.cells? base (a.add (i.1 * P.cellsOf e)) (P.cellsOf e) = some c ∧ d.K w y c ∧ wf y := by
   intro i
   obtain ⟨c, h1, h2⟩ := hx i.1 (by omega)
   obtain ⟨y, hy, hwf⟩ := he.down h2 (fun n hn => hw n (by
    simp only [DataW.weights, ht, List.mem_cons, List.mem_append]
    exact .inr (.inl (mem_weightsAll (List.mem_map.2 ⟨i.1, List.mem_range.2 i.2, rfl⟩) n hn))))
   exact ⟨y, c, h1, hy, hwf⟩
  obtain ⟨f, hf⟩ := Classical.axiomOfChoice hel
  have hlen : (List.ofFn f).length = len := by simp
  have hmax : len ≤ 9223372036854775807 := by simp only [maxLen] at hm; omega
  refine ⟨List.ofFn f, ⟨some a, cap, ?_, ?_, ?_, ?_, ?_⟩, ?_, ?_⟩
  ·rw [hlen]
  ·rw [hlen]; exact hl
  ·rfl
  ·rw [hlen]; exact hmax
  ·intro _
   refine ⟨a, rfl, fun j p hj => ?_⟩
   obtain ⟨hjl, rfl⟩ := List.getElem?_eq_some_iff.1 hj
   rw [hlen] at hjl
   obtain ⟨c, h1, hy, _⟩ := hf ⟨j, hjl⟩
   obtain ⟨_, hcl, hcell⟩ := World.cells?_some h1
   refine ⟨c, by rw [hcl, he.cells], by simpa using hy, fun i u hu => ?_⟩
   have hi : i < P.cellsOf e := by
    have := (List.getElem?_eq_some_iff.1 hu).1
    omega
   have := hcell i hi
   rw [Go.Deep.add_add] at this
   rw [← he.cells, this, hu]
  ·rw [hlen]
   have hz := hw (((List.range len).map D).length + ((List.range (m - len)).map fun j => D (len + j)).length |>.mul (P.bytesOf e)) (by
    simp only [DataW.weights, ht, List.mem_cons]
    exact .inl rfl)
   rw [hB] at hz
   simp only [List.length_map, List.length_range] at hz
   have h2 : len * B ≤ (len + (m - len)) * B := Nat.mul_le_mul_right _ (by omega)
   exact Nat.le_trans h2 hz
  intro y hy
  obtain ⟨i, rfl⟩ := List.mem_ofFn.1 hy
  obtain ⟨_, _, _, hwf⟩ := hf i
  exact hwf
theorem Opens.iso {α β : Type} {P : Program} {t : TypeId} {d : Kd α} {wf : α → Prop} {f : β → α} (g : α → β) (hg : ∀ a, f (g a) = a) (h : Opens P t d wf) : Opens P t (Kd.iso d f) (fun b => wf (f b)) where
 cells := h.cells
 down := by
  intro H enc w base spare held fuel cs x hx hw
  obtain ⟨a, hk, hwf⟩ := h.down hx hw
  refine ⟨g a, ?_, ?_⟩
  ·show d.K w (f (g a)) cs
   rw [hg]; exact hk
  show wf (f (g a))
  rw [hg]; exact hwf
structure OpensFs {α : Type} (P : Program) (fs : List Field) (off : Nat) (d : Kd α) (wf : α → Prop) : Prop where
 down : ∀ {H : Type} {enc : TypeId × Value → H} {w : World} {base : Nat} {spare : Nat → Bool} {held : Bool} {fuel : Nat} {cs : List Value} {xs : List (DataW H × List MemPlace)},
  cs.length = d.sz → xs.length = fs.length → (∀ (i : Nat) (f : Field), fs[i]? = some f → DataW.trod enc P w base spare held fuel f.type ((cs.drop (f.offset - off)).take (P.cellsOf f.type)) = xs[i]?) →
  (∀ n ∈ DataW.weightsEach P (fs.map (·.type)) (xs.map (·.1)), n ≤ reachBytes) → ∃ a, d.K w a cs ∧ wf a
 offs : ∀ f ∈ fs, off ≤ f.offset
theorem OpensFs.one {α : Type} {P : Program} {f : Field} {off : Nat} {d : Kd α} {wf : α → Prop} (ho : f.offset = off) (h : Opens P f.type d wf) : OpensFs P [f] off d wf where
 offs := by simp [ho]
 down := by
  intro H enc w base spare held fuel cs xs hl hxs hx hw
  have h0 := hx 0 f rfl
  obtain ⟨x, rfl⟩ : ∃ x, xs = [x] := by
   match xs, hxs with
   | [x], _ => exact ⟨x, rfl⟩
  rw [ho, Nat.sub_self, List.drop_zero, h.cells, ← hl, List.take_length] at h0
  exact h.down h0 (fun n hn => hw n (by simp [DataW.weightsEach, hn]))
theorem OpensFs.cons {α β : Type} {P : Program} {f : Field} {fs : List Field} {off off2 : Nat} {d : Kd α} {d2 : Kd β} {wf : α → Prop} {wf2 : β → Prop} (ho : f.offset = off) (h : Opens P f.type d wf) (ho2 : off2 = off + d.sz)
  (h2 : OpensFs P fs off2 d2 wf2) : OpensFs P (f :: fs) off (Kd.pair d d2) (fun p => wf p.1 ∧ wf2 p.2) where
 offs := by
  intro g hg
  rcases List.mem_cons.1 hg with rfl | hg
  ·omega
  ·have := h2.offs g hg; omega
 down := by
  intro H enc w base spare held fuel cs xs hl hxs hx hw
  obtain ⟨x, ys, rfl⟩ : ∃ x ys, xs = x :: ys := by
   match xs, hxs with
   | x :: ys, _ => exact ⟨x, ys, rfl⟩
  have hl' : cs.length = d.sz + d2.sz := hl
  have h0 := hx 0 f rfl
  rw [ho, Nat.sub_self, List.drop_zero, h.cells] at h0
  obtain ⟨a, ha, hwa⟩ := h.down h0 (fun n hn => hw n (by simp [DataW.weightsEach, hn]))
  obtain ⟨b, hb, hwb⟩ := h2.down (cs := cs.drop d.sz) (xs := ys) (by rw [List.length_drop, hl']; omega) (by simpa using hxs) (fun i g hg => by
   have h1 := hx (i + 1) g (by simpa using hg)
   have hgo := h2.offs g (List.mem_of_getElem? hg)
   rw [List.drop_drop]
   have e : d.sz + (g.offset - off2) = g.offset - off := by omega
   rw [e]
   simpa using h1) (fun n hn => hw n (by simp [DataW.weightsEach, hn]))
  exact ⟨(a, b), ⟨cs.take d.sz, cs.drop d.sz, (List.take_append_drop _ _).symm, ha, hb⟩, hwa, hwb⟩
theorem Opens.struct {α : Type} {P : Program} {t : TypeId} {fs : Array Field} {d : Kd α} {wf : α → Prop} (ht : P.underlying t = some (.struct fs)) (hc : P.cellsOf t = d.sz) (h : OpensFs P fs.toList 0 d wf) : Opens P t d wf where
 cells := hc
 down := by
  intro H enc w base spare held fuel cs x hx hw
  obtain ⟨xs, n, rfl, rfl, hl, hxs, hf⟩ := DataW.trod_struct ht hx
  refine h.down (enc := enc) (w := w) (base := base) (spare := spare) (held := held) (fuel := n) (cs := cs) (xs := xs) (by rw [hl, hc]) (by simpa using hxs) (fun i f hi => ?_) (fun n hn => hw n (by simpa [DataW.weights, ht] using hn))
  rw [Nat.sub_zero]
  exact hf i f (by simpa using hi)
end Go.Proofs.Ytljnlnbopohghaa.Rd
end
section
namespace Go.Proofs.Ytljnlnbopohghaa.P
open Go.RowKit Go.Proofs.Ytljnlnbopohghaa.Rd Go.Proofs.YtljnlnbopohghaaW.PrintWords
structure S47 where
 f0 : Int
 f1 : Int
 f2 : Int
 f3 : Int
 f4 : Int
 f5 : Int
 f6 : Int
 f7 : Int
 f8 : Int
def k47 : Kd S47 := Kd.iso (Kd.pair (Kd.int .i64) (Kd.pair (Kd.int .i64) (Kd.pair (Kd.int .i64) (Kd.pair (Kd.int .i64) (Kd.pair (Kd.int .i64) (Kd.pair (Kd.int .i64) (Kd.pair (Kd.int .i64) (Kd.pair (Kd.int .i64) (Kd.int .i64))))))))) (fun x : S47 => (x.f0, x.f1, x.f2, x.f3, x.f4, x.f5, x.f6, x.f7, x.f8))
theorem k47_open {w : World} {x : S47} {cs : List Value} (h : k47.K w x cs) : cs = [.int .i64 x.f0, .int .i64 x.f1, .int .i64 x.f2, .int .i64 x.f3, .int .i64 x.f4, .int .i64 x.f5, .int .i64 x.f6, .int .i64 x.f7, .int .i64 x.f8] := by
 obtain ⟨_, _, rfl, rfl, ⟨_, _, rfl, rfl, ⟨_, _, rfl, rfl, ⟨_, _, rfl, rfl, ⟨_, _, rfl, rfl, ⟨_, _, rfl, rfl, ⟨_, _, rfl, rfl, ⟨_, _, rfl, rfl, rfl⟩⟩⟩⟩⟩⟩⟩⟩ := h
 exact rfl
structure S56 where
 f0 : Int
 f1 : ByteArray
 f2 : ByteArray
 f3 : Int
 f4 : (List S117)
def z56 : S56 := ⟨(0 : Int), (⟨#[]⟩ : ByteArray), (⟨#[]⟩ : ByteArray), (0 : Int), ([] : List S117)⟩
def k56 : Kd S56 := Kd.iso (Kd.pair (Kd.int .u8) (Kd.pair Kd.string (Kd.pair Kd.string (Kd.pair (Kd.int .i64) (Kd.slice 117 k117))))) (fun x : S56 => (x.f0, x.f1, x.f2, x.f3, x.f4))
theorem k56_open {w : World} {x : S56} {cs : List Value} (h : k56.K w x cs) : ∃ A4 c4, cs = [.int .u8 x.f0, .string x.f1, .string x.f2, .int .i64 x.f3, .slice A4 x.f4.length c4] ∧ x.f4.length ≤ c4 ∧ k117.C w A4 x.f4.length x.f4 := by
 obtain ⟨_, _, rfl, rfl, ⟨_, _, rfl, rfl, ⟨_, _, rfl, rfl, ⟨_, _, rfl, rfl, ⟨A4, c4, rfl, l4, g4⟩⟩⟩⟩⟩ := h
 exact ⟨A4, c4, rfl, l4, g4⟩
structure S81 where
 f0 : Int
 f1 : S56
def z81 : S81 := ⟨(0 : Int), z56⟩
def k81 : Kd S81 := Kd.iso (Kd.pair (Kd.int .i64) k56) (fun x : S81 => (x.f0, x.f1))
theorem k81_open {w : World} {x : S81} {cs : List Value} (h : k81.K w x cs) : ∃ A5 c5, cs = [.int .i64 x.f0, .int .u8 x.f1.f0, .string x.f1.f1, .string x.f1.f2, .int .i64 x.f1.f3, .slice A5 x.f1.f4.length c5] ∧ x.f1.f4.length ≤ c5 ∧ k117.C w A5 x.f1.f4.length x.f1.f4 := by
 obtain ⟨_, _, rfl, rfl, s1⟩ := h
 obtain ⟨A5, c5, rfl, l5, g5⟩ := k56_open s1
 exact ⟨A5, c5, rfl, l5, g5⟩
theorem o3 : Opens Try.prog 3 (Kd.int .i64) (fun n => (Lit.int .i64 n).wf = true) := Opens.int Try.underlying3 (by kernel_rfl)
def wf47 (x : S47) : Prop := ((Lit.int .i64 x.f0).wf = true) ∧ ((Lit.int .i64 x.f1).wf = true) ∧ ((Lit.int .i64 x.f2).wf = true) ∧ ((Lit.int .i64 x.f3).wf = true) ∧ ((Lit.int .i64 x.f4).wf = true) ∧ ((Lit.int .i64 x.f5).wf = true) ∧ ((Lit.int .i64 x.f6).wf = true) ∧ ((Lit.int .i64 x.f7).wf = true) ∧ ((Lit.int .i64 x.f8).wf = true)
theorem o47 : Opens Try.prog 47 k47 wf47 := Opens.iso (g := fun p_ => (⟨p_.1, p_.2.1, p_.2.2.1, p_.2.2.2.1, p_.2.2.2.2.1, p_.2.2.2.2.2.1, p_.2.2.2.2.2.2.1, p_.2.2.2.2.2.2.2.1, p_.2.2.2.2.2.2.2.2⟩ : S47)) (fun _ => rfl) (Opens.struct Try.underlying47 (by kernel_rfl) (OpensFs.cons rfl o3 rfl (OpensFs.cons rfl o3 rfl (OpensFs.cons rfl o3 rfl (OpensFs.cons rfl o3 rfl (OpensFs.cons rfl o3 rfl (OpensFs.cons rfl o3 rfl (OpensFs.cons rfl o3 rfl (OpensFs.cons rfl o3 rfl (OpensFs.one rfl o3))))))))))
theorem o54 : Opens Try.prog 54 (Kd.int .u8) (fun n => (Lit.int .u8 n).wf = true) := Opens.int Try.underlying54 (by kernel_rfl)
theorem o9 : Opens Try.prog 9 Kd.string (fun x_ => x_.size ≤ 140737488351232) := Opens.string Try.underlying9 (by kernel_rfl)
theorem o114 : Opens Try.prog 114 (Kd.int .u8) (fun n => (Lit.int .u8 n).wf = true) := Opens.int Try.underlying114 (by kernel_rfl)
theorem o115 : Opens Try.prog 115 (Kd.int .u64) (fun n => (Lit.int .u64 n).wf = true) := Opens.int Try.underlying115 (by kernel_rfl)
def wf117 (x : S117) : Prop := ((Lit.int .u8 x.f0).wf = true) ∧ ((Lit.int .i64 x.f1).wf = true) ∧ (x.f2.size ≤ 140737488351232) ∧ (x.f3.size ≤ 140737488351232) ∧ (x.f4.size ≤ 140737488351232) ∧ ((Lit.int .u64 x.f5).wf = true)
theorem o117 : Opens Try.prog 117 k117 wf117 := Opens.iso (g := fun p_ => (⟨p_.1, p_.2.1, p_.2.2.1, p_.2.2.2.1, p_.2.2.2.2.1, p_.2.2.2.2.2⟩ : S117)) (fun _ => rfl) (Opens.struct Try.underlying117 (by kernel_rfl) (OpensFs.cons rfl o114 rfl (OpensFs.cons rfl o3 rfl (OpensFs.cons rfl o9 rfl (OpensFs.cons rfl o9 rfl (OpensFs.cons rfl o9 rfl (OpensFs.one rfl o115)))))))
theorem o49 : Opens Try.prog 49 (Kd.slice 117 k117) (fun x_ => x_.length * 72 ≤ 140737488351232 ∧ ∀ a_ ∈ x_, wf117 a_) := Opens.slice Try.underlying49 (by kernel_rfl) (by kernel_rfl) o117
def wf56 (x : S56) : Prop := ((Lit.int .u8 x.f0).wf = true) ∧ (x.f1.size ≤ 140737488351232) ∧ (x.f2.size ≤ 140737488351232) ∧ ((Lit.int .i64 x.f3).wf = true) ∧ (x.f4.length * 72 ≤ 140737488351232 ∧ ∀ a_ ∈ x.f4, wf117 a_)
theorem o56 : Opens Try.prog 56 k56 wf56 := Opens.iso (g := fun p_ => (⟨p_.1, p_.2.1, p_.2.2.1, p_.2.2.2.1, p_.2.2.2.2⟩ : S56)) (fun _ => rfl) (Opens.struct Try.underlying56 (by kernel_rfl) (OpensFs.cons rfl o54 rfl (OpensFs.cons rfl o9 rfl (OpensFs.cons rfl o9 rfl (OpensFs.cons rfl o3 rfl (OpensFs.one rfl o49))))))
def wf81 (x : S81) : Prop := ((Lit.int .i64 x.f0).wf = true) ∧ (wf56 x.f1)
theorem o81 : Opens Try.prog 81 k81 wf81 := Opens.iso (g := fun p_ => (⟨p_.1, p_.2⟩ : S81)) (fun _ => rfl) (Opens.struct Try.underlying81 (by kernel_rfl) (OpensFs.cons rfl o3 rfl (OpensFs.one rfl o56)))
theorem o48 : Opens Try.prog 48 (Kd.slice 81 k81) (fun x_ => x_.length * 80 ≤ 140737488351232 ∧ ∀ a_ ∈ x_, wf81 a_) := Opens.slice Try.underlying48 (by kernel_rfl) (by kernel_rfl) o81
def wf29 (x : S29) : Prop := (x.f0.size ≤ 140737488351232) ∧ (x.f1.size ≤ 140737488351232)
theorem o29 : Opens Try.prog 29 k29 wf29 := Opens.iso (g := fun p_ => (⟨p_.1, p_.2⟩ : S29)) (fun _ => rfl) (Opens.struct Try.underlying29 (by kernel_rfl) (OpensFs.cons rfl o9 rfl (OpensFs.one rfl o9)))
theorem o4 : Opens Try.prog 4 Kd.bool (fun _ => True) := Opens.bool Try.underlying4 (by kernel_rfl)
end Go.Proofs.Ytljnlnbopohghaa.P
end
section
namespace Go.Proofs.Ytljnlnbopohghaa.Mdl
open Go.RowKit Go.Shelf Go.Proofs.YtljnlnbopohghaaW.PrintWords Go.Proofs.YtljnlnbopohghaaW.PrintLast Go.Proofs.YtljnlnbopohghaaW.PrintMore Go.Proofs.Ytljnlnbopohghaa.Own Go.Proofs.Ytljnlnbopohghaa.Ord Go.Proofs.Ytljnlnbopohghaa Go.Proofs.Ytljnlnbopohghaa.P
set_option maxHeartbeats 2000000
set_option maxRecDepth 100000
abbrev Dd28 := P.S81
abbrev oqD (x : Dd28) : Oq := ⟨x.f1.f0, x.f1.f1, x.f1.f2, x.f1.f3, x.f1.f4⟩
def Dc (ad : Addr) (x : Dd28) (A : Option Addr) (c : Nat) (w : World) : Prop := w.cell? ad = some (.int .i64 x.f0) ∧ w.cell? ⟨ad.block, ad.off + 1, none⟩ = some (.int .u8 x.f1.f0) ∧ w.cell? ⟨ad.block, ad.off + 1 + 1, none⟩ = some (.string x.f1.f1) ∧ w.cell? ⟨ad.block, ad.off + 1 + 2, none⟩ = some (.string x.f1.f2) ∧ w.cell? ⟨ad.block, ad.off + 1 + 3, none⟩ = some (.int .i64 x.f1.f3) ∧ w.cell? ⟨ad.block, ad.off + 1 + 4, none⟩ = some (.slice A x.f1.f4.length c)
theorem Dc.below {ad : Addr} {x : Dd28} {A : Option Addr} {c : Nat} {w w' : World} (h : Dc ad x A c w) (hb : Below w.heap.size w w') : Dc ad x A c w' :=
 ⟨cellB h.1 hb, cellB h.2.1 hb, cellB h.2.2.1 hb, cellB h.2.2.2.1 hb, cellB h.2.2.2.2.1 hb, cellB h.2.2.2.2.2 hb⟩
theorem at_D {w : World} {A : Option Addr} {n : Nat} {xs : List Dd28} (h : Kd.C P.k81 w A n xs) (i : Int) (h0 : 0 ≤ i) (h1 : i < n) : ∃ ad, ∃ x : Dd28, ∃ A5 c5, A = some ad ∧ xs[i.toNat]? = some x ∧ Dc (ad.add (i.toNat * 6)) x A5 c5 w ∧ x.f1.f4.length ≤ c5 ∧ Kd.C P.k117 w A5 x.f1.f4.length x.f1.f4 := by
 obtain ⟨ad, c, e, _, hK, hc0⟩ := Kd.C_get h P.z81 i h0 h1
 have hc : ∀ j u, c[j]? = some u → w.cell? (ad.add (i.toNat * 6 + j)) = some u := hc0
 obtain ⟨A5, c5, rfl, q, r⟩ := P.k81_open hK
 have hl := h.1
 refine ⟨ad, _, A5, c5, e, ?_, ⟨hc 0 _ rfl, by rw [← add_field _ _ 1 (by omega)]; exact hc 1 _ rfl, by rw [Nat.add_assoc, ← add_field _ _ (1 + 1) (by omega)]; exact hc 2 _ rfl, by rw [Nat.add_assoc, ← add_field _ _ (1 + 2) (by omega)]; exact hc 3 _ rfl, by rw [Nat.add_assoc, ← add_field _ _ (1 + 3) (by omega)]; exact hc 4 _ rfl, by rw [Nat.add_assoc, ← add_field _ _ (1 + 4) (by omega)]; exact hc 5 _ rfl⟩, q, r⟩
 rw [List.getD_eq_getElem?_getD, List.getElem?_eq_getElem (by omega)]
 rfl
def Bo (w0 : World) (m x : Nat) (c : Cf) (n : Int) (s : St) (i : Nat) (w : World) : Prop := ∃ G Z tb, Mw G w m c n s.s s.L s.T (2 * i) ∧ Rx Z w x tb c n s.s (s.L.map toE) (rowsOf n s.T) ∧ Inv n s i ∧ G x = 0 ∧ G tb = 0 ∧ (∀ k, Z k → G k = 0) ∧ (∀ k, k < w0.heap.size → G k = 0) ∧ w0.heap.size ≤ x ∧ w0.heap.size ≤ tb ∧ Below w0.heap.size w0 w
theorem Bo.below {w0 w w' : World} {m x : Nat} {c : Cf} {n : Int} {s : St} {i : Nat} (h : Bo w0 m x c n s i w) (hb : Below w.heap.size w w') : Bo w0 m x c n s i w' := by
 obtain ⟨G, Z, tb, h1, h2, h3, h4, h5, h6, h7, h8, h9, h10⟩ := h
 exact ⟨G, Z, tb, h1.below hb, h2.below hb, h3, h4, h5, h6, h7, h8, h9, below_then h10 h10.size hb⟩
theorem Bo.up {w0 w : World} {m x : Nat} {c : Cf} {n : Int} {s : St} {i j : Nat} (h : Bo w0 m x c n s i w) (hj : i ≤ j) : Bo w0 m x c n s j w := by
 obtain ⟨G, Z, tb, h1, h2, h3, h4⟩ := h
 exact ⟨G, Z, tb, h1.mono (by omega), h2, h3.up hj, h4⟩
theorem Bo.old {w0 w : World} {m x : Nat} {c : Cf} {n : Int} {s : St} {i : Nat} (h : Bo w0 m x c n s i w) : Below w0.heap.size w0 w := by
 obtain ⟨G, Z, tb, h1, h2, h3, h4, h5, h6, h7, h8, h9, h10⟩ := h
 exact h10
theorem Bo.inv {w0 w : World} {m x : Nat} {c : Cf} {n : Int} {s : St} {i : Nat} (h : Bo w0 m x c n s i w) : Inv n s i := by
 obtain ⟨G, Z, tb, h1, h2, h3, h4⟩ := h
 exact h3
theorem wf_le {k : Int} (h : (Lit.int .i64 k).wf = true) : k ≤ 9223372036854775807 := by
 simp [Lit.wf, IntKind.min, IntKind.max, IntKind.signed, IntKind.bits] at h
 omega
theorem okd_of {x : Ms} (h : (Lit.int .u64 x.f5).wf = true) : okD x := by
 simp [Lit.wf, IntKind.min, IntKind.max, IntKind.signed, IntKind.bits] at h
 exact ⟨by omega, by omega⟩
def okM28 (x : Ms) : Bool := decide (x.f2.size ≤ 140737488351232) && (Lit.int .u64 x.f5).wf
def okd28 (d : Dd28) : Bool := (Lit.int .u8 d.f1.f0).wf && ((Lit.int .i64 d.f1.f3).wf && d.f1.f4.all okM28)
theorem okM28_out {l : List Ms} (h : l.all okM28 = true) : (∀ x ∈ l, x.f2.size ≤ 140737488351232) ∧ ∀ x ∈ l, okD x := by
 have a : ∀ x ∈ l, x.f2.size ≤ 140737488351232 ∧ okD x := fun x hx => by
  have := List.all_eq_true.1 h x hx
  unfold okM28 at this
  rw [Bool.and_eq_true, decide_eq_true_eq] at this
  exact ⟨this.1, okd_of this.2⟩
 exact ⟨fun x hx => (a x hx).1, fun x hx => (a x hx).2⟩
theorem okd28_out {d : Dd28} (h : okd28 d = true) : (Lit.int .u8 d.f1.f0).wf = true ∧ (Lit.int .i64 d.f1.f3).wf = true ∧ (∀ x ∈ d.f1.f4, x.f2.size ≤ 140737488351232) ∧ ∀ x ∈ d.f1.f4, okD x := by
 unfold okd28 at h
 rw [Bool.and_eq_true, Bool.and_eq_true] at h
 exact ⟨h.1, h.2.1, okM28_out h.2.2⟩
theorem okM28_wf {l : List Ms} (h : ∀ x ∈ l, P.wf117 x) : l.all okM28 = true :=
 List.all_eq_true.2 fun x hx => by
  unfold okM28
  rw [Bool.and_eq_true, decide_eq_true_eq]
  exact ⟨(h x hx).2.2.1, (h x hx).2.2.2.2.2⟩
theorem okd28_wf {d : Dd28} (h : P.wf81 d) : okd28 d = true := by
 unfold okd28
 rw [Bool.and_eq_true, Bool.and_eq_true]
 exact ⟨h.2.1, h.2.2.2.2.1, okM28_wf h.2.2.2.2.2.2⟩
theorem new_both {w0 w w2 : World} {m x tb : Nat} {c : Cf} {n : Int} {G : Nat → Nat} (hM : Mw G w m c n 0 [] (fun _ => []) 0) (hG : ∀ k, k < w0.heap.size → G k = 0) (hB : Below w0.heap.size w0 w) (hR : Rx (fun _ => False) w2 x tb c n 0 [] (List.replicate (n.toNat + 1) [])) (hx : w.heap.size ≤ x) (ht : w.heap.size ≤ tb) (hB2 : Below w.heap.size w w2) : Bo w0 m x c n ⟨0, [], fun _ => []⟩ 0 w2 := by
 have hs := hB.size
 refine ⟨G, fun _ => False, tb, hM.below hB2, ?_, Inv.zero n, g0 hM.1 _ hx, g0 hM.1 _ ht, fun k hk => hk.elim, hG, by omega, by omega, below_then hB hB.size hB2⟩
 have e : rowsOf n (⟨0, [], fun _ => []⟩ : St).T = List.replicate (n.toNat + 1) [] := rows_nil n
 rw [e]
 exact hR
def Rr (w : World) (r : Rp) (A : Option Addr) (cp : Nat) : Prop := r.l.length ≤ cp ∧ Kd.C P.k103 w A r.l.length r.l
theorem Inv.okd {n : Int} {s : St} {i : Nat} (h : Inv n s i) (hi : i ≤ 4000) (hn : n ≤ 64) (who : Int) (o : Oq) (h0 : 0 ≤ o.k) (h1 : o.k ≤ 255) (h2 : (Lit.int .i64 o.n).wf = true) (hb : o.b.length ≤ 20) (hk : ∀ x ∈ o.b, x.f2.size ≤ 140737488351232) : Okd n s who o (2 * i) :=
 ⟨by omega, h0, h1, h2, by omega, hk, h.s0, by have := h.s1; omega, by have := h.len; omega, h.key, by have := h.t who; omega, by omega⟩
def Bm (w0 : World) (m x : Nat) (c : Cf) (n : Int) (s s' : St) (i : Nat) (r : Rp) (A : Option Addr) (cp : Nat) (w : World) : Prop := ∃ G Z tb, Mw G w m c n s'.s s'.L s'.T (2 * (i + 1)) ∧ Rx Z w x tb c n s.s (s.L.map toE) (rowsOf n s.T) ∧ Inv n s i ∧ Inv n s' (i + 1) ∧ G x = 0 ∧ G tb = 0 ∧ (∀ k, Z k → G k = 0) ∧ (∀ k, k < w0.heap.size → G k = 0) ∧ w0.heap.size ≤ x ∧ w0.heap.size ≤ tb ∧ Below w0.heap.size w0 w ∧ ∃ Y : Nat → Prop, (∀ k, Y k → k ≠ x ∧ k ≠ tb ∧ k < w.heap.size) ∧ Kd.V P.k103 103 w 0 Y (.slice A r.l.length cp) r.l
theorem Bm.old {w0 w : World} {m x : Nat} {c : Cf} {n : Int} {s s' : St} {i : Nat} {r : Rp} {A : Option Addr} {cp : Nat} (h : Bm w0 m x c n s s' i r A cp w) : Below w0.heap.size w0 w := by
 obtain ⟨G, Z, tb, g1, g2, g3, g3', g4, g5, g6, g7, g8, g9, g10, _⟩ := h
 exact g10
theorem bo_do {w0 w : World} {m x : Nat} {c : Cf} {n : Int} {s : St} {i : Nat} (h : Bo w0 m x c n s i w) (hi : i ≤ 4000) (hn : n ≤ 64) (who : Int) (o : Oq) (h0 : 0 ≤ o.k) (h1 : o.k ≤ 255) (h2 : (Lit.int .i64 o.n).wf = true) (hb : o.b.length ≤ 20) (hk : ∀ x ∈ o.b, x.f2.size ≤ 140737488351232) {A : Option Addr} {cap : Nat} (hC : ∀ W, Below w0.heap.size w0 W → Kd.C P.k117 W A o.b.length o.b) (hcap : o.b.length ≤ cap) :
  Calls Try.prog 23 #[.pointer (some ⟨m, 0, none⟩), .int .i64 who, .agg #[.int .u8 o.k, .string o.y, .string o.t, .int .i64 o.n, .slice A o.b.length cap]] w fun e w' => ∃ B cp, e = .returned (repA (doV c n s who o).1 B cp) ∧ Bm w0 m x c n s (doV c n s who o).2 i (doV c n s who o).1 B cp w' := by
 obtain ⟨G, Z, tb, g1, g2, g3, g4, g5, g6, g7, g8, g9, g10⟩ := h
 refine (do_any g1 who o (g3.okd hi hn who o h0 h1 h2 hb hk) (A := A) (cap := cap) (fun W hW => hC W (below_of_frm g7 g10 hW)) hcap).mono ?_
 rintro e w' ⟨v, rfl, G', e1, e2, e3, B, cp, rfl, e4⟩
 obtain ⟨lx, lt⟩ := g2.ltx
 refine ⟨B, cp, rfl, G', Z, tb, e2, g2.frm e3 (fun k hk q => q (g6 k hk)) (fun q => q g4) (fun q => q g5), g3, g3.step c who o hb hk, (e1 x lx).trans g4, (e1 tb lt).trans g5, fun k hk => (e1 k (g2.lt k hk)).trans (g6 k hk), (belowF g7 g10 e1 e3).2, g8, g9, (belowF g7 g10 e1 e3).1, _, fun k hk => ?_, e4⟩
 exact ⟨by omega, by omega, hk.2.1⟩
theorem bm_do {w0 w : World} {m x : Nat} {c : Cf} {n : Int} {s : St} {i : Nat} {who : Int} {o : Oq} {B : Option Addr} {cp : Nat} (h : Bm w0 m x c n s (doV c n s who o).2 i (doV c n s who o).1 B cp w) (hi : i ≤ 4000) (h8 : 1 ≤ c.f8) (hn : n ≤ 64) (h1 : o.n ≤ 9223372036854775807) (hb : o.b.length ≤ 20) (hk : ∀ x ∈ o.b, x.f2.size ≤ 140737488351232) (hd : ∀ x ∈ o.b, okD x) {A : Option Addr} {cap : Nat} (hC : ∀ W, Below w0.heap.size w0 W → Kd.C P.k117 W A o.b.length o.b) (hcap : o.b.length ≤ cap) :
  Calls Try.prog 37 #[.pointer (some ⟨x, 0, none⟩), .int .i64 who, .agg #[.int .u8 o.k, .string o.y, .string o.t, .int .i64 o.n, .slice A o.b.length cap]] w fun e w' => ∃ B' cp', e = .returned (repA (doV c n s who o).1 B' cp') ∧ Bo w0 m x c n (doV c n s who o).2 (i + 1) w' ∧ Rr w' (doV c n s who o).1 B cp ∧ Rr w' (doV c n s who o).1 B' cp' := by
 obtain ⟨G, Z, tb, g1, g2, g3, g3', g4, g5, g6, g7, g8, g9, g10, Y, g11, g12⟩ := h
 refine (rd_any g2 g3 hi h8 (by omega) who o (hC w g10) hcap hb hk hd h1).mono ?_
 rintro e w' ⟨v, rfl, Z', e1, e2, e3, B', cp', rfl, e4⟩
 have f0 : It.FrM (fun k => G k = 0) w w' := e3.mono (fun k hk => .inl (by rcases hk with rfl | rfl; exact g4; exact g5))
 have fB : Below w0.heap.size w0 w' := ⟨e3.os.trans g10.os, e3.tape.trans g10.tape, e3.output.trans g10.output, Nat.le_trans g10.size e3.size, fun k hk => (e3.block k (Nat.lt_of_lt_of_le hk g10.size) (by omega)).trans (g10.block k hk)⟩
 refine ⟨B', cp', rfl, ⟨G, Z', tb, g1.frm f0, e2, g3', g4, g5, fun k hk => ?_, g7, g8, g9, fB⟩, ?_, ?_⟩
 ·rcases e1 k hk with q | q
  ·exact g6 k q
  exact g0 g1.1 k q
 ·obtain ⟨_, q, r⟩ := Kd.V_reads' (Kd.V_step g12 (w1 := w') (fun k hk hl => e3.block k hl (by have := g11 k hk; omega)))
  exact ⟨q, r⟩
 obtain ⟨_, q, r⟩ := Kd.V_reads' e4
 exact ⟨q, r⟩
abbrev okC (c : Cf) : Bool := Pm.sizesOk c.f0 c.f1 c.f2 c.f3 c.f4 c.f5 c.f6 c.f7 c.f8
theorem chk_m {c : Cf} (h : okC c = true) : room_Check.f c.f0 c.f1 c.f2 c.f3 c.f4 c.f5 c.f6 c.f7 c.f8 = some 0 := by
 rw [Pm.sizes_eq]
 have h : Pm.sizesOk c.f0 c.f1 c.f2 c.f3 c.f4 c.f5 c.f6 c.f7 c.f8 = true := h
 rw [h]; rfl
theorem chk_r {c : Cf} (h : okC c = true) : catchmentref21_Check.f 9 c.f0 c.f1 c.f2 c.f3 c.f4 c.f5 c.f6 c.f7 c.f8 = some 0 := by
 rw [show (9 : Nat) = 0 + 9 from rfl, Pm.ref_sizes]
 have h : Pm.sizesOk c.f0 c.f1 c.f2 c.f3 c.f4 c.f5 c.f6 c.f7 c.f8 = true := h
 rw [h]; rfl
theorem okC_chunk {c : Cf} (h : okC c = true) : 1 ≤ c.f8 := by
 have h : Pm.sizesOk c.f0 c.f1 c.f2 c.f3 c.f4 c.f5 c.f6 c.f7 c.f8 = true := h
 unfold Pm.sizesOk at h
 exact (of_decide_eq_true h).2.2.2.2.2.2.2.2.1
theorem chk_m2 {c : Cf} (h : ¬ okC c = true) : room_Check.f c.f0 c.f1 c.f2 c.f3 c.f4 c.f5 c.f6 c.f7 c.f8 = some 2 := by
 rw [Pm.sizes_eq]
 exact congrArg some (if_neg h)
theorem chk_r2 {c : Cf} (h : ¬ okC c = true) : catchmentref21_Check.f 9 c.f0 c.f1 c.f2 c.f3 c.f4 c.f5 c.f6 c.f7 c.f8 = some 2 := by
 rw [show (9 : Nat) = 0 + 9 from rfl, Pm.ref_sizes]
 exact congrArg some (if_neg h)
theorem chk_both (c : Cf) : ∃ r : Int, room_Check.f c.f0 c.f1 c.f2 c.f3 c.f4 c.f5 c.f6 c.f7 c.f8 = some r ∧ catchmentref21_Check.f 9 c.f0 c.f1 c.f2 c.f3 c.f4 c.f5 c.f6 c.f7 c.f8 = some r ∧ (¬ okC c = true → ¬ r = 0) := by
 by_cases h : okC c = true
 ·exact ⟨0, chk_m h, chk_r h, fun q => absurd h q⟩
 exact ⟨2, chk_m2 h, chk_r2 h, fun _ => by decide⟩
theorem Bm.below {w0 w w' : World} {m x : Nat} {c : Cf} {n : Int} {s s' : St} {i : Nat} {r : Rp} {A : Option Addr} {cp : Nat} (h : Bm w0 m x c n s s' i r A cp w) (hb : Below w.heap.size w w') : Bm w0 m x c n s s' i r A cp w' := by
 obtain ⟨G, Z, tb, g1, g2, g3, g3', g4, g5, g6, g7, g8, g9, g10, Y, g11, g12⟩ := h
 exact ⟨G, Z, tb, g1.below hb, g2.below hb, g3, g3', g4, g5, g6, g7, g8, g9, below_then g10 g10.size hb, Y, fun k hk => by have := g11 k hk; have := hb.size; omega, Kd.V_step g12 (fun k hk hl => hb.block k hl)⟩
theorem played_bad {w : World} {c : Cf} {A : Option Addr} {cap : Nat} {l : List Dd28} (h : ¬ okC c = true) :
  Calls Try.prog 20 #[aggC c, .slice A l.length cap] w fun e w' => e = .returned (.tuple #[.pointer none, .pointer none]) ∧ Below w.heap.size w w' := by
 have huc := Try.underlying47
 obtain ⟨r, hm, hr, hr0⟩ := chk_both c
 have hB0 : Below w.heap.size w (w.alloc (objC c)) := below_alloc (Below.refl _ _) _
 have h' : ¬ r = 0 ∨ (3 : Int) < 1 ∨ (3 : Int) > 64 := .inl (hr0 h)
 have NW := new_bad (w.alloc (objC c)) c 3 r hm h'
 have hbx := blk_new w (objC c)
 have hA0 := aK_ (And.intro hB0 (And.intro hr h'))
 clear hB0 hr hr0 h h' hm
 go_enter Try.func20, Try.ntmps20
 go_wp2_with (first
  | (go_at_call 34; refine NW.mono ?_; clear NW; rintro e w1 ⟨rfl, hB1⟩; have hbx1 := blk_below hbx hB1; have y0 := blk_cell hbx1 0; have y1 := blk_cell hbx1 1; have y2 := blk_cell hbx1 2; have y3 := blk_cell hbx1 3; have y4 := blk_cell hbx1 4; have y5 := blk_cell hbx1 5; have y6 := blk_cell hbx1 6; have y7 := blk_cell hbx1 7; have y8 := blk_cell hbx1 8; simp at y0 y1 y2 y3 y4 y5 y6 y7 y8; have RN := rnew_bad w1 c 3 9 r hA0.out.2.1 hA0.out.2.2; have hA1 := aK_ hB1; clear hB1 hbx hbx1)
  | (go_at_call 35; refine RN.mono ?_; clear RN; rintro e w2 ⟨rfl, hB2⟩; have hA2 := aK_ hB2; clear hB2 y0 y1 y2 y3 y4 y5 y6 y7 y8))
 go_ret2
 have b1 := below_then hA0.out.1 hA0.out.1.size hA1.out
 exact ⟨rfl, below_then b1 b1.size hA2.out⟩
theorem played_ok {w : World} {c : Cf} {A : Option Addr} {cap : Nat} {l : List Dd28} (hC : Kd.C P.k81 w A l.length l) (hcap : l.length ≤ cap) (hwf : ∀ d ∈ l, okd28 d = true) (hok : okC c = true) :
  Calls Try.prog 20 #[aggC c, .slice A l.length cap] w fun e w' => ∃ m x s i, e = .returned (.tuple #[.pointer (some ⟨m, 0, none⟩), .pointer (some ⟨x, 0, none⟩)]) ∧ i ≤ 50 ∧ Bo w m x c 3 s i w' := by
 have huc := Try.underlying47
 have hud := Try.underlying81
 have huo := Try.underlying56
 have hB0 : Below w.heap.size w (w.alloc (objC c)) := below_alloc (Below.refl _ _) _
 have NW := new_ok (w.alloc (objC c)) c 3 (chk_m hok) (by omega) (by omega)
 have hA0 := aK_ (And.intro hC (And.intro hwf hB0))
 have hbx := blk_new w (objC c)
 have h8 := okC_chunk hok
 clear hC hwf hB0
 go_enter Try.func20, Try.ntmps20
 go_wp2_with (first
  | (go_at_call 34; refine NW.mono ?_; clear NW; rintro e w1 ⟨m, G, rfl, hM1, hG1, hB1⟩; have hbx1 := blk_below hbx hB1; have y0 := blk_cell hbx1 0; have y1 := blk_cell hbx1 1; have y2 := blk_cell hbx1 2; have y3 := blk_cell hbx1 3; have y4 := blk_cell hbx1 4; have y5 := blk_cell hbx1 5; have y6 := blk_cell hbx1 6; have y7 := blk_cell hbx1 7; have y8 := blk_cell hbx1 8; simp at y0 y1 y2 y3 y4 y5 y6 y7 y8; have RN := rnew_ok w1 c 3 9 (chk_r hok) (by omega) (by omega); have hA1 := aK_ (And.intro hM1 (And.intro hG1 hB1)); clear hM1 hG1 hB1 hbx hbx1)
  | (go_at_call 35; refine RN.mono ?_; clear RN; rintro e w2 ⟨x, tb, rfl, hR2, hx2, ht2, hB2⟩; have hBo : Aside0 (Bo w m x c 3 ⟨0, [], fun _ => []⟩ 0 w2) := ⟨new_both hA1.out.1 (fun k hk => hA1.out.2.1 k (Nat.lt_of_lt_of_le hk hA0.out.2.2.size)) (below_then hA0.out.2.2 hA0.out.2.2.size hA1.out.2.2) hR2 hx2 ht2 hB2⟩; clear hR2 hx2 ht2 hB2 hA1 y0 y1 y2 y3 y4 y5 y6 y7 y8))
 go_loopg [10] 50 (fun g iv wr => ∃ (i : Int) (s : St), iv = .int .i64 i ∧ Aside0 (0 ≤ i ∧ i.toNat + g = 50) ∧ Aside0 (Bo w m x c 3 s i.toNat wr))
 case atStart => exact ⟨0, _, rfl, ⟨Int.le_refl _, rfl⟩, hBo⟩
 clear hBo
 obtain ⟨i, s, rfl, hiA, hBo⟩ := hrel
 obtain ⟨hi0, hig⟩ := hiA.out
 by_cases hA : i < l.length
 ·by_cases hB8 : i < 50
  ·cases gk with
   | zero => omega
   | succ g => ?_
   obtain ⟨ad, d, A5, c5, rfl, hdj, hDc, hcap5, hC5⟩ := at_D hA0.out.1 i hi0 hA
   have hwd := hA0.out.2.1 d (List.mem_of_getElem? hdj)
   have hold := hBo.out.old
   have hDr := hDc.below hold
   have FW := catchmentlaw28_few.calls d.f1.f0 d.f1.f1 d.f1.f2 d.f1.f3 A5 c5 d.f1.f4 (decide ((d.f1.f4.length : Int) ≤ 20)) wr (Kd.C_below hC5 hold) hcap5 rfl
   have hA5 := aK_ (And.intro hDc (And.intro hC5 (And.intro hwd hcap5)))
   obtain ⟨q0, q1, q2, q3, q4, q5⟩ := id hDr
   have dA := decide_eq_true hA
   have dB := decide_eq_true hB8
   have d0 := decide_eq_true hi0
   have p0 := eq_true hi0
   have pA := eq_true hA
   have hwi : wrap64 (i + 1) = i + 1 := IntWalk.wrap64_in _ (by omega)
   by_cases hf : (d.f1.f4.length : Int) ≤ 20
   ·have hf1 := decide_eq_true hf
    rw [hf1] at FW
    clear hcap hi0 hig hA hB8 hdj hDc hcap5 hC5 hwd hold hDr hf1
    go_wp2_with (go_at_call 36; refine FW.mono ?_; clear FW; rintro e w3 ⟨rfl, hB3⟩)
    have hBo3 : Bo w m x c 3 s i.toNat w3.drew := hBo.out.below (below_drew1 hB3)
    have K : ∀ W, Below w.heap.size w W → Dc (ad.add (i.toNat * 6)) d A5 c5 W := fun W hW => hA5.out.1.below hW
    obtain ⟨r0, r1, r2, r3, r4, r5⟩ := K _ hBo3.old
    have ai := hiA.out
    obtain ⟨wd2, wd5, hkey, hokd⟩ := okd28_out hA5.out.2.2.1
    obtain ⟨u0, u1⟩ := Pm.wf_u8 wd2
    have hCC : ∀ W, Below w.heap.size w W → Kd.C P.k117 W A5 d.f1.f4.length d.f1.f4 := fun W hW => Kd.C_below hA5.out.2.1 hW
    have PC := (bo_do hBo3 (by omega) (by omega) d.f0 (oqD d) u0 u1 wd5 (by show d.f1.f4.length ≤ 20; omega) hkey hCC hA5.out.2.2.2).mono (R' := fun e w4 => ∃ B cp, e = .returned (repA (doV c 3 s d.f0 (oqD d)).1 B cp) ∧ Aside0 (Bm w m x c 3 s (doV c 3 s d.f0 (oqD d)).2 i.toNat (doV c 3 s d.f0 (oqD d)).1 B cp w4)) (by
     rintro e w4 ⟨B, cp, rfl, h4⟩
     exact ⟨B, cp, rfl, ⟨h4⟩⟩)
    have hKA := aK_ (And.intro K (And.intro (okC_chunk hok) (And.intro wd5 (And.intro hkey (And.intro hokd hCC)))))
    clear hBo3 K ai wd2 wd5 u0 u1 hkey hokd hCC q0 q1 q2 q3 q4 q5 hB3
    have PC2 := PC.mono (R' := fun e w4 => ∃ B cp, e = .returned (repA (doV c 3 s d.f0 (oqD d)).1 B cp) ∧ Dc (ad.add (i.toNat * 6)) d A5 c5 w4 ∧ Aside0 (Bm w m x c 3 s (doV c 3 s d.f0 (oqD d)).2 i.toNat (doV c 3 s d.f0 (oqD d)).1 B cp w4)) (by
     rintro e w4 ⟨B, cp, rfl, h4⟩
     exact ⟨B, cp, rfl, hKA.out.1 _ h4.out.old, h4⟩)
    clear PC
    go_region_held3 (fun w' => w'.cell? (ad.add (i.toNat * 6)) = some (.int .i64 d.f0) ∧ w'.cell? ⟨(ad.add (i.toNat * 6)).block, (ad.add (i.toNat * 6)).off + 1, none⟩ = some (.int .u8 d.f1.f0) ∧ w'.cell? ⟨(ad.add (i.toNat * 6)).block, (ad.add (i.toNat * 6)).off + 1 + 1, none⟩ = some (.string d.f1.f1) ∧ w'.cell? ⟨(ad.add (i.toNat * 6)).block, (ad.add (i.toNat * 6)).off + 1 + 2, none⟩ = some (.string d.f1.f2) ∧ w'.cell? ⟨(ad.add (i.toNat * 6)).block, (ad.add (i.toNat * 6)).off + 1 + 3, none⟩ = some (.int .i64 d.f1.f3) ∧ w'.cell? ⟨(ad.add (i.toNat * 6)).block, (ad.add (i.toNat * 6)).off + 1 + 4, none⟩ = some (.slice A5 d.f1.f4.length c5)) (first | exact ⟨by assumption, by assumption, by assumption, by assumption, by assumption, by assumption⟩ | exact ⟨r0, r1, r2, r3, r4, r5⟩)
     (first
      | (go_at_call 23; refine PC2.mono ?_; clear PC2; rintro e_ w4 ⟨B, cp, rfl, ⟨q0, q1, q2, q3, q4, q5⟩, hB4⟩))
    go_wp2
    have hai := hiA.out
    have hBm4 : Bm w m x c 3 s (doV c 3 s d.f0 (oqD d)).2 i.toNat (doV c 3 s d.f0 (oqD d)).1 B cp w4.drew := hB4.out.below (below_drew1 (Below.refl _ _))
    obtain ⟨s0, s1, s2, s3, s4, s5⟩ := hKA.out.1 _ hBm4.old
    have PD := (bm_do hBm4 (by omega) hKA.out.2.1 (by omega) (wf_le hKA.out.2.2.1) (by show d.f1.f4.length ≤ 20; omega) hKA.out.2.2.2.1 hKA.out.2.2.2.2.1 hKA.out.2.2.2.2.2 hA5.out.2.2.2).mono (R' := fun e w5 => ∃ B' cp', e = .returned (repA (doV c 3 s d.f0 (oqD d)).1 B' cp') ∧ Dc (ad.add (i.toNat * 6)) d A5 c5 w5 ∧ Aside0 (Bo w m x c 3 (doV c 3 s d.f0 (oqD d)).2 (i.toNat + 1) w5)) (by
     rintro e w5 ⟨B', cp', rfl, h5, _, _⟩
     exact ⟨B', cp', rfl, hKA.out.1 _ h5.old, ⟨h5⟩⟩)
    clear hBm4 hai r0 r1 r2 r3 r4 r5
    go_region_held3 (fun w' => w'.cell? (ad.add (i.toNat * 6)) = some (.int .i64 d.f0) ∧ w'.cell? ⟨(ad.add (i.toNat * 6)).block, (ad.add (i.toNat * 6)).off + 1, none⟩ = some (.int .u8 d.f1.f0) ∧ w'.cell? ⟨(ad.add (i.toNat * 6)).block, (ad.add (i.toNat * 6)).off + 1 + 1, none⟩ = some (.string d.f1.f1) ∧ w'.cell? ⟨(ad.add (i.toNat * 6)).block, (ad.add (i.toNat * 6)).off + 1 + 2, none⟩ = some (.string d.f1.f2) ∧ w'.cell? ⟨(ad.add (i.toNat * 6)).block, (ad.add (i.toNat * 6)).off + 1 + 3, none⟩ = some (.int .i64 d.f1.f3) ∧ w'.cell? ⟨(ad.add (i.toNat * 6)).block, (ad.add (i.toNat * 6)).off + 1 + 4, none⟩ = some (.slice A5 d.f1.f4.length c5)) (first | exact ⟨by assumption, by assumption, by assumption, by assumption, by assumption, by assumption⟩ | exact ⟨s0, s1, s2, s3, s4, s5⟩)
     (first
      | (go_at_call 37; refine PD.mono ?_; clear PD; rintro e_ w5 ⟨B', cp', rfl, ⟨q0, q1, q2, q3, q4, q5⟩, hBo7⟩))
    go_wp2
    go_roundg g
    case measure => omega
    case rel => exact ⟨i + 1, (doV c 3 s d.f0 (oqD d)).2, by rw [hwi], ⟨by have := hiA.out; omega, by have := hiA.out; omega⟩, ⟨by rw [show (i + 1).toNat = i.toNat + 1 by have := hiA.out; omega]; exact hBo7.out⟩⟩
   have hf1 := decide_eq_false hf
   rw [hf1] at FW
   clear hcap hi0 hig hA hB8 hdj hDc hcap5 hC5 hwd hold hDr hf1
   go_wp2_with (go_at_call 36; refine FW.mono ?_; clear FW; rintro e w3 ⟨rfl, hB3⟩)
   go_roundg g
   case measure => omega
   case rel => exact ⟨i + 1, s, by rw [hwi], ⟨by have := hiA.out; omega, by have := hiA.out; omega⟩, ⟨(hBo.out.below hB3).up (by have := hiA.out; omega)⟩⟩
  have dA := decide_eq_true hA
  have dB := decide_eq_false hB8
  clear hcap hA hB8
  go_wp2
  go_ret2
  exact ⟨m, x, s, i.toNat, rfl, by omega, hBo.out⟩
 have dA := decide_eq_false hA
 clear hcap hA
 go_wp2
 go_ret2
 exact ⟨m, x, s, i.toNat, rfl, by omega, hBo.out⟩
def Mn (Y : Nat → Prop) (m : Nat) (c : Cf) (n : Int) (s : St) (N : Nat) (w : World) : Prop := ∃ G, Mw G w m c n s.s s.L s.T N ∧ ∀ k, Y k → G k = 0 ∧ k < w.heap.size
theorem Mn.below {Y : Nat → Prop} {m : Nat} {c : Cf} {n : Int} {s : St} {N : Nat} {w w' : World} (h : Mn Y m c n s N w) (hb : Below w.heap.size w w') : Mn (fun k => Y k ∨ (w.heap.size ≤ k ∧ k < w'.heap.size)) m c n s N w' := by
 obtain ⟨G, h1, h2⟩ := h
 refine ⟨G, h1.below hb, fun k hk => ?_⟩
 rcases hk with q | q
 ·exact ⟨(h2 k q).1, Nat.lt_of_lt_of_le (h2 k q).2 hb.size⟩
 exact ⟨g0 h1.1 k q.1, q.2⟩
theorem Mn.less {Y Y' : Nat → Prop} {m : Nat} {c : Cf} {n : Int} {s : St} {N : Nat} {w : World} (h : Mn Y m c n s N w) (hy : ∀ k, Y' k → Y k) : Mn Y' m c n s N w := by
 obtain ⟨G, h1, h2⟩ := h
 exact ⟨G, h1, fun k hk => h2 k (hy k hk)⟩
theorem Mn.mono {Y : Nat → Prop} {m : Nat} {c : Cf} {n : Int} {s : St} {N N' : Nat} {w : World} (h : Mn Y m c n s N w) (hN : N ≤ N') : Mn Y m c n s N' w := by
 obtain ⟨G, h1, h2⟩ := h
 exact ⟨G, h1.mono hN, h2⟩
theorem Bo.mn {w0 w : World} {m x : Nat} {c : Cf} {n : Int} {s : St} {i : Nat} (h : Bo w0 m x c n s i w) : ∃ Y : Nat → Prop, ∃ Z tb, Mn Y m c n s (2 * i) w ∧ Rx Z w x tb c n s.s (s.L.map toE) (rowsOf n s.T) ∧ Y x ∧ Y tb ∧ (∀ k, Z k → Y k) ∧ ∀ k, k < w0.heap.size → Y k := by
 obtain ⟨G, Z, tb, h1, h2, h3, h4, h5, h6, h7, h8, h9, h10⟩ := h
 refine ⟨fun k => G k = 0 ∧ k < w.heap.size, Z, tb, ⟨G, h1, fun k hk => hk⟩, h2, ⟨h4, h2.ltx.1⟩, ⟨h5, h2.ltx.2⟩, fun k hk => ⟨h6 k hk, h2.lt k hk⟩, fun k hk => ⟨h7 k hk, Nat.lt_of_lt_of_le hk h10.size⟩⟩
abbrev FrY (Y : Nat → Prop) (w w' : World) : Prop := It.FrM (fun k => ¬ Y k) w w'
theorem FrY.blk {Y : Nat → Prop} {w w' : World} (h : FrY Y w w') {k : Nat} {o : Obj} (hb : w.heap[k]? = some o) (hk : Y k) : w'.heap[k]? = some o := It.FrM.blk h hb (fun q => q hk)
theorem FrY.old {Y : Nat → Prop} {w0 w w' : World} (h : FrY Y w w') (hb : Below w0.heap.size w0 w) (hy : ∀ k, k < w0.heap.size → Y k) : Below w0.heap.size w0 w' :=
 ⟨h.os.trans hb.os, h.tape.trans hb.tape, h.output.trans hb.output, Nat.le_trans hb.size h.size, fun k hk => (h.block k (Nat.lt_of_lt_of_le hk hb.size) (fun q => q (hy k hk))).trans (hb.block k hk)⟩
theorem mn_do {Y : Nat → Prop} {m : Nat} {c : Cf} {n : Int} {s : St} {i N : Nat} {w0 w : World} (h : Mn Y m c n s N w) (hI : Inv n s i) (hi : i ≤ 4000) (hN : N ≤ 8000) (hn : n ≤ 64) (hw0 : Below w0.heap.size w0 w) (hY : ∀ k, k < w0.heap.size → Y k) (who : Int) (o : Oq) (h0 : 0 ≤ o.k) (h1 : o.k ≤ 255) (h2 : (Lit.int .i64 o.n).wf = true) (hb : o.b.length ≤ 20) (hk : ∀ x ∈ o.b, x.f2.size ≤ 140737488351232) {A : Option Addr} {cap : Nat} (hC : ∀ W, Below w0.heap.size w0 W → Kd.C P.k117 W A o.b.length o.b) (hcap : o.b.length ≤ cap) {r : Rp} {s' : St} (e : doV c n s who o = (r, s')) :
  Calls Try.prog 23 #[.pointer (some ⟨m, 0, none⟩), .int .i64 who, .agg #[.int .u8 o.k, .string o.y, .string o.t, .int .i64 o.n, .slice A o.b.length cap]] w fun x w' => ∃ B cp, x = .returned (repA r B cp) ∧ ∃ V : Nat → Prop, Mn (fun k => Y k ∨ V k) m c n s' (N + 2) w' ∧ Inv n s' (i + 1) ∧ FrY Y w w' ∧ Kd.V P.k103 103 w' 0 V (.slice B r.l.length cp) r.l := by
 obtain ⟨G, g1, g2⟩ := h
 have hok := hI.okd hi hn who o h0 h1 h2 hb hk
 have hG : ∀ k, k < w0.heap.size → G k = 0 := fun k hk => (g2 k (hY k hk)).1
 have hs := hI.step c who o hb hk
 refine (do_dd g1 who o ⟨hok.hn, hok.k0, hok.k1, hok.nw, hok.b1, hok.b2, hok.s0, hok.s1, hok.l1, hok.l2, hok.t1, by omega⟩ (A := A) (cap := cap) (fun W hW => hC W (below_of_frm hG hw0 hW)) hcap e).mono ?_
 rintro x w' ⟨B, cp, rfl, G', d1, d2, d3, d4⟩
 rw [e] at hs
 refine ⟨B, cp, rfl, _, ⟨G', d2, fun k hk => ?_⟩, hs, d3.mono (fun k hk => .inl (fun q => hk (g2 k q).1)), d4⟩
 rcases hk with q | q
 ·exact ⟨(d1 k (g2 k q).2).trans (g2 k q).1, Nat.lt_of_lt_of_le (g2 k q).2 d3.size⟩
 exact ⟨q.2.2, q.2.1⟩
theorem mn_entries {Y : Nat → Prop} {m : Nat} {c : Cf} {n : Int} {s : St} {N : Nat} {w : World} (h : Mn Y m c n s N w) (hl : s.L.length ≤ 1000000) :
  Calls Try.prog 22 #[.pointer (some ⟨m, 0, none⟩)] w fun e w' => ∃ A cp, e = .returned (.slice A (s.L.map toE).length cp) ∧ Kd.V P.k103 103 w' 0 (fun k => w.heap.size ≤ k ∧ k < w'.heap.size) (.slice A (s.L.map toE).length cp) (s.L.map toE) ∧ Below w.heap.size w w' := by
 obtain ⟨G, g1, g2⟩ := h
 refine (entries_any g1 hl).mono ?_
 rintro e w' ⟨v, rfl, hR, hb⟩
 obtain ⟨A, cp, rfl⟩ := Kd.R_slice hR
 exact ⟨A, cp, rfl, V_of_R hR, hb⟩
def Ps (w0 : World) (m x : Nat) (c : Cf) (Y : Nat → Prop) (s : St) (w : World) : Prop := ∃ i Z tb, i ≤ 50 ∧ Inv 3 s i ∧ Mn Y m c 3 s (2 * i) w ∧ Rx Z w x tb c 3 s.s (s.L.map toE) (rowsOf 3 s.T) ∧ Y x ∧ Y tb ∧ (∀ k, Z k → Y k) ∧ (∀ k, k < w0.heap.size → Y k) ∧ Below w0.heap.size w0 w
theorem Bo.ps {w0 w : World} {m x : Nat} {c : Cf} {s : St} {i : Nat} (h : Bo w0 m x c 3 s i w) (hi : i ≤ 50) : ∃ Y, Ps w0 m x c Y s w := by
 obtain ⟨Y, Z, tb, h1, h2, h3, h4, h5, h6⟩ := h.mn
 exact ⟨Y, i, Z, tb, hi, h.inv, h1, h2, h3, h4, h5, h6, h.old⟩
theorem Ps.below {w0 w w' : World} {m x : Nat} {c : Cf} {Y : Nat → Prop} {s : St} (h : Ps w0 m x c Y s w) (hb : Below w.heap.size w w') : Ps w0 m x c (fun k => Y k ∨ (w.heap.size ≤ k ∧ k < w'.heap.size)) s w' := by
 obtain ⟨i, Z, tb, h1, h2, h3, h4, h5, h6, h7, h8, h9⟩ := h
 exact ⟨i, Z, tb, h1, h2, h3.below hb, h4.below hb, .inl h5, .inl h6, fun k hk => .inl (h7 k hk), fun k hk => .inl (h8 k hk), below_then h9 h9.size hb⟩
def Pd (w0 : World) (m x : Nat) (c : Cf) (Y V : Nat → Prop) (s s' : St) (w : World) : Prop := ∃ i Z tb, i ≤ 50 ∧ Inv 3 s i ∧ Inv 3 s' (i + 1) ∧ Mn (fun k => Y k ∨ V k) m c 3 s' (2 * i + 2) w ∧ Rx Z w x tb c 3 s.s (s.L.map toE) (rowsOf 3 s.T) ∧ Y x ∧ Y tb ∧ (∀ k, Z k → Y k) ∧ (∀ k, k < w0.heap.size → Y k) ∧ Below w0.heap.size w0 w
theorem ps_do {w0 w : World} {m x : Nat} {c : Cf} {Y : Nat → Prop} {s : St} (h : Ps w0 m x c Y s w) (who : Int) (o : Oq) (h0 : 0 ≤ o.k) (h1 : o.k ≤ 255) (h2 : (Lit.int .i64 o.n).wf = true) (hb : o.b.length ≤ 20) (hk : ∀ x ∈ o.b, x.f2.size ≤ 140737488351232) {A : Option Addr} {cap : Nat} (hC : ∀ W, Below w0.heap.size w0 W → Kd.C P.k117 W A o.b.length o.b) (hcap : o.b.length ≤ cap) {r : Rp} {s' : St} (e : doV c 3 s who o = (r, s')) :
  Calls Try.prog 23 #[.pointer (some ⟨m, 0, none⟩), .int .i64 who, .agg #[.int .u8 o.k, .string o.y, .string o.t, .int .i64 o.n, .slice A o.b.length cap]] w fun e w' => ∃ B cp, e = .returned (repA r B cp) ∧ ∃ V : Nat → Prop, Pd w0 m x c Y V s s' w' ∧ FrY Y w w' ∧ Kd.V P.k103 103 w' 0 V (.slice B r.l.length cp) r.l := by
 obtain ⟨i, Z, tb, q1, q2, q3, q4, q5, q6, q7, q8, q9⟩ := h
 refine (mn_do q3 q2 (by omega) (by omega) (by omega) q9 q8 who o h0 h1 h2 hb hk hC hcap e).mono ?_
 rintro e w' ⟨B, cp, rfl, V, d1, d2, d3, d4⟩
 exact ⟨B, cp, rfl, V, ⟨i, Z, tb, q1, q2, d2, d1, q4.frm d3 (fun k hk q => q (q7 k hk)) (fun q => q q5) (fun q => q q6), q5, q6, q7, q8, d3.old q9 q8⟩, d3, d4⟩
theorem Pd.below {w0 w w' : World} {m x : Nat} {c : Cf} {Y V : Nat → Prop} {s s' : St} (h : Pd w0 m x c Y V s s' w) (hb : Below w.heap.size w w') : Pd w0 m x c Y (fun k => V k ∨ (w.heap.size ≤ k ∧ k < w'.heap.size)) s s' w' := by
 obtain ⟨i, Z, tb, h1, h2, h2', h3, h4, h5, h6, h7, h8, h9⟩ := h
 exact ⟨i, Z, tb, h1, h2, h2', (h3.below hb).less (fun k hk => by rcases hk with q | q | q; exact .inl (.inl q); exact .inl (.inr q); exact .inr q), h4.below hb, h5, h6, h7, h8, below_then h9 h9.size hb⟩
theorem Pd.old {w0 w : World} {m x : Nat} {c : Cf} {Y V : Nat → Prop} {s s' : St} (h : Pd w0 m x c Y V s s' w) : Below w0.heap.size w0 w := by
 obtain ⟨i, Z, tb, h1, h2, h2', h3, h4, h5, h6, h7, h8, h9⟩ := h
 exact h9
theorem Ps.old {w0 w : World} {m x : Nat} {c : Cf} {Y : Nat → Prop} {s : St} (h : Ps w0 m x c Y s w) : Below w0.heap.size w0 w := by
 obtain ⟨i, Z, tb, h1, h2, h3, h4, h5, h6, h7, h8, h9⟩ := h
 exact h9
theorem Ps.inv {w0 w : World} {m x : Nat} {c : Cf} {Y : Nat → Prop} {s : St} (h : Ps w0 m x c Y s w) : ∃ i, i ≤ 50 ∧ Inv 3 s i := by
 obtain ⟨i, Z, tb, h1, h3, h4, h5, h6, h7, h8, h9⟩ := h
 exact ⟨i, h1, h3⟩
end Go.Proofs.Ytljnlnbopohghaa.Mdl
end
section
namespace Go.Proofs.Ytljnlnbopohghaa.Cur
open Go Go.RowKit Go.Maps Go.Proofs.YtljnlnbopohghaaW.PrintWords Go.Proofs.YtljnlnbopohghaaW.PrintLast Go.Proofs.YtljnlnbopohghaaW.PrintMore Go.Proofs.Ytljnlnbopohghaa.Own Go.Proofs.Ytljnlnbopohghaa.Ord Go.Proofs.Ytljnlnbopohghaa.P
theorem rr_P (f t : ByteArray) : P.rr f t = rrB f t := by
 unfold P.rr P.emp P.lt rrB
 by_cases h : t.toList = [] <;> simp [h]
theorem holds_P (f t s : ByteArray) : P.holds f t s = holdsB f t s := by
 unfold holdsB ltB
 rw [P.holds_def, P.ah, ← rr_P]
 rfl
theorem inc_P : ∀ l : List En, P.risesV l = incB l
 | [] => rfl
 | [_] => rfl
 | x :: y :: l => by
  show (P.lt x.f0 y.f0 && P.risesV (y :: l)) = (ltB x.f0 y.f0 && incB (y :: l))
  rw [inc_P (y :: l)]; rfl
structure WInv (f t : ByteArray) (e : List En) (x : X) (T : List En) : Prop where
 on : x.2.2 = false → x.2.1 = t ∧ P.rr x.1 t = true ∧ T ++ P.ents x.1 t e = P.ents f t e
 off : x.2.2 = true → T = P.ents f t e
def rem (t : ByteArray) (e : List En) (x : X) : Nat := if x.2.2 = true then 0 else (P.ents x.1 t e).length + 1
theorem WInv.start (f t : ByteArray) (e : List En) (h : rrB f t = true) : WInv f t e (f, t, false) [] := ⟨fun _ => ⟨rfl, (rr_P f t).trans h, rfl⟩, fun h => by cases h⟩
theorem WInv.len {f t : ByteArray} {e : List En} {x : X} {T : List En} (h : WInv f t e x T) : T.length ≤ e.length := by
 have h1 : (P.ents f t e).length ≤ e.length := List.length_filter_le _ _
 cases hx : x.2.2 with
 | true => rw [h.off hx]; exact h1
 | false =>
  have := congrArg List.length (h.on hx).2.2
  rw [List.length_append] at this
  omega
theorem WInv.step {f t : ByteArray} {e : List En} {x : X} {T : List En} (h : WInv f t e x T) (he : P.risesV e = true) (hx : x.2.2 = false) (k : Int) (hk : 1 ≤ k) :
  ∃ ee x', tookV (some x) ((P.ents x.1 t e).take k.toNat) k = (ee, 0, some x') ∧ WInv f t e x' (T ++ (P.ents x.1 t e).take k.toNat) ∧ rem t e x' + 1 ≤ rem t e x := by
 obtain ⟨ht, hr, hT⟩ := h.on hx
 obtain ⟨L, hL⟩ : ∃ L, L = P.ents x.1 t e := ⟨_, rfl⟩
 have hLr : P.risesV L = true := by rw [hL]; exact P.rises_filter _ _ he
 have hin : incB (L.take k.toNat) = true := by rw [← inc_P]; exact P.rises_take _ _ hLr
 have hout : outside x.1 x.2.1 (L.take k.toNat) = false := by
  unfold outside
  rw [List.any_eq_false]
  intro y hy
  have hm : y ∈ P.ents x.1 t e := by rw [← hL]; exact List.mem_of_mem_take hy
  have := (List.mem_filter.1 hm).2
  rw [ht, ← holds_P, this]
  simp
 have hrem : rem t e x = L.length + 1 := by unfold rem; rw [hx, hL]; rfl
 rw [← hL] at hT ⊢
 have hlen : (L.take k.toNat).length = min k.toNat L.length := List.length_take
 have hend : WInv f t e (e0, e0, true) (T ++ L.take k.toNat) → rem t e (e0, e0, true) + 1 ≤ rem t e x := fun _ => by
  rw [hrem]; show 0 + 1 ≤ _; omega
 have hval : tookV (some x) (L.take k.toNat) k = if ((L.take k.toNat).length : Int) < k then ((true, 0, some (e0, e0, true)) : Bool × Int × Option X) else
   match (L.take k.toNat)[(L.take k.toNat).length - 1]? with
   | none => (true, 0, none)
   | some z => ((behV x.1 x.2.1 z.f0).2.2, 0, some (behV x.1 x.2.1 z.f0)) := by
  obtain ⟨g, u, d⟩ := x
  subst hx
  unfold tookV
  simp only []
  rw [if_neg (by simp), if_neg (by omega), if_neg (by omega), if_neg (by rw [hin]; simp), if_neg (by rw [hout]; simp)]
  by_cases hq : ((L.take k.toNat).length : Int) < k
  ·rw [if_pos (.inr hq), if_pos hq]
  ·rw [if_neg (by simpa using hq), if_neg hq]
   rfl
 rw [hval]
 by_cases hq : ((L.take k.toNat).length : Int) < k
 ·rw [if_pos hq]
  have hall : L.take k.toNat = L := List.take_of_length_le (by omega)
  have : WInv f t e (e0, e0, true) (T ++ L.take k.toNat) := ⟨fun h => (by cases h), fun _ => by rw [hall]; exact hT⟩
  exact ⟨_, _, rfl, this, hend this⟩
 rw [if_neg hq]
 have hlt : (L.take k.toNat).length - 1 < (L.take k.toNat).length := by omega
 have hzs := List.getElem?_eq_getElem hlt
 obtain ⟨z, hz⟩ : ∃ z, z = (L.take k.toNat)[(L.take k.toNat).length - 1] := ⟨_, rfl⟩
 rw [hzs, ← hz]
 rw [← hz] at hzs
 have hbeh := P.ents_behind x.1 t e he k.toNat z (by rw [← hL]; exact hzs)
 rw [← hL] at hbeh
 refine ⟨_, _, rfl, ?_⟩
 unfold behV
 by_cases hb : rrB (aft z.f0) x.2.1 = true
 ·rw [if_pos hb]
  refine ⟨⟨fun _ => ⟨ht, by rw [rr_P, ← ht]; exact hb, ?_⟩, fun h => by cases h⟩, ?_⟩
  ·show T ++ L.take k.toNat ++ P.ents (P.succB z.f0) t e = _
   rw [hbeh, List.append_assoc, List.take_append_drop]
   exact hT
  rw [hrem]
  show (P.ents (P.succB z.f0) t e).length + 1 + 1 ≤ _
  rw [hbeh, List.length_drop]
  omega
 rw [if_neg hb]
 have hn : P.ents (P.succB z.f0) t e = [] := P.ents_none _ _ _ (by
  rw [rr_P, ← ht]
  cases q : rrB (P.succB z.f0) x.2.1 with
  | false => rfl
  | true => exact absurd q hb)
 rw [hbeh] at hn
 have : WInv f t e (e0, e0, true) (T ++ L.take k.toNat) := ⟨fun h => (by cases h), fun _ => by
  have h2 := List.take_append_drop k.toNat L
  rw [hn, List.append_nil] at h2
  rw [h2]; exact hT⟩
 exact ⟨this, hend this⟩
end Go.Proofs.Ytljnlnbopohghaa.Cur
end
section
namespace Go.Proofs.Ytljnlnbopohghaa.Mdl
open Go.RowKit Go.Shelf Go.Proofs.YtljnlnbopohghaaW.PrintWords Go.Proofs.YtljnlnbopohghaaW.PrintLast Go.Proofs.YtljnlnbopohghaaW.PrintMore Go.Proofs.Ytljnlnbopohghaa.Own Go.Proofs.Ytljnlnbopohghaa.Ord Go.Proofs.Ytljnlnbopohghaa Go.Proofs.Ytljnlnbopohghaa.P
open Go.Proofs.Ytljnlnbopohghaa.Cur (upd upd_same upd_other tookV WInv rem)
set_option maxHeartbeats 1000000
set_option maxHeartbeats 2000000
set_option maxRecDepth 100000
set_option maxHeartbeats 4000000
theorem ask_open (c : Cf) (f t : ByteArray) (h : Pm.askV 4 f t 0 [] c.f0 c.f1 c.f8 = 0) : rr f t = true := by
 unfold Pm.askV at h
 cases hr : rr f t with
 | true => rfl
 | false =>
  have hr2 : Pm.rr f t = false := hr
  rw [hr2] at h
  revert h
  split
  ·intro q; cases q
  rw [if_neg (by omega), if_neg (by omega), if_pos (.inr rfl)]
  split
  ·intro q; cases q
  intro q; cases q
theorem ask_num (c : Cf) (o k : Int) (ho : o = 5 ∨ o = 6) : Pm.askV o e0 e0 k [] c.f0 c.f1 c.f8 = 0 := by
 have h : Pm.spareBad o e0 e0 k [] = false := by
  have e : Pm.emp e0 = true := Pm.emp_e0
  rcases ho with rfl | rfl <;> simp [Pm.spareBad, e]
 unfold Pm.askV
 rw [h]
 rcases ho with rfl | rfl <;> simp
theorem walk_open {c : Cf} {s : St} {f t : ByteArray} (h : Pm.askV 4 f t 0 [] c.f0 c.f1 c.f8 = 0) : doV c 3 s 2 ⟨4, f, t, 0, []⟩ = (⟨0, false, e0, [], (s.T 2).length + 1, false⟩, ⟨s.s, s.L, setT s.T 2 (s.T 2 ++ [⟨⟨f, t⟩, false, false⟩])⟩) := by
 have hr := ask_open c f t h
 have hr2 : Cur.rrB f t = true := (rr_cur f t).trans hr
 unfold doV
 rw [if_neg (by omega), if_neg (not_not_intro h), if_neg (show ¬ (4 : Int) = 1 by decide), if_neg (show ¬ (4 : Int) = 2 by decide), if_neg (show ¬ (4 : Int) = 3 by decide), if_pos rfl]
 unfold openV
 rw [if_pos hr2]
theorem walk_no {c : Cf} {s : St} {f t : ByteArray} (h : ¬ Pm.askV 4 f t 0 [] c.f0 c.f1 c.f8 = 0) : doV c 3 s 2 ⟨4, f, t, 0, []⟩ = (⟨Pm.askV 4 f t 0 [] c.f0 c.f1 c.f8, false, e0, [], 0, false⟩, s) := by
 unfold doV
 rw [if_neg (by omega), if_pos h]
theorem took_ee {o : Option Cur.X} {l : List En} {m : Int} {ee : Bool} {x : Cur.X} (h : tookV o l m = (ee, 0, some x)) : ee = x.2.2 := by
 cases o with
 | none => cases h
 | some y =>
  obtain ⟨f, t, d⟩ := y
  rw [tookV_end] at h
  split at h
  ·cases h
  split at h
  ·cases h
  split at h
  ·cases h
  split at h
  ·cases h
  split at h
  ·cases h
  unfold tookEnd at h
  split at h
  ·cases h; rfl
  split at h
  ·cases h
  cases h; rfl
theorem tabF_cell {cs : List Cu} {k : Int} {x y : Cur.X} (h : tabF cs k = some x) : tabF (setC cs k (ofX y)) k = some y := by
 obtain ⟨a, b, _⟩ := tabF_some h
 rw [tabF_set ⟨a, b⟩, upd_same]
 rfl
theorem walk_next {c : Cf} {s : St} {f t : ByteArray} {k : Int} {x : Cur.X} {T : List En} (h8 : 1 ≤ c.f8) (hr : Rise OrdSm.lt s.L) (hx : tabF (s.T 2) k = some x) (hd : x.2.2 = false) (hI : WInv f t (s.L.map toE) x T) :
  ∃ x' l cs', doV c 3 s 2 ⟨5, e0, e0, k, []⟩ = (⟨0, false, e0, l, 0, x'.2.2⟩, ⟨s.s, s.L, setT s.T 2 cs'⟩) ∧ cs'.length = (s.T 2).length ∧ tabF cs' k = some x' ∧ WInv f t (s.L.map toE) x' (T ++ l) ∧ rem t (s.L.map toE) x' + 1 ≤ rem t (s.L.map toE) x ∧ (l.length : Int) ≤ c.f8 := by
 obtain ⟨ee, x', h1, h2, h3⟩ := hI.step (rises_map hr) hd c.f8 h8
 obtain ⟨ht, _, _⟩ := hI.on hd
 have hee := took_ee h1
 have hl : (someM x.1 x.2.1 s.L c.f8).map toE = (P.ents x.1 t (s.L.map toE)).take c.f8.toNat := by
  unfold someM
  rw [ht, ents_map, List.map_take]
 refine ⟨x', (P.ents x.1 t (s.L.map toE)).take c.f8.toNat, setC (s.T 2) k (ofX x'), ?_, setC_length _ _ _, tabF_cell hx, h2, h3, ?_⟩
 ·unfold doV
  rw [if_neg (by omega), if_neg (not_not_intro (ask_num c 5 k (.inl rfl))), if_neg (show ¬ (5 : Int) = 1 by decide), if_neg (show ¬ (5 : Int) = 2 by decide), if_neg (show ¬ (5 : Int) = 3 by decide), if_neg (show ¬ (5 : Int) = 4 by decide), if_pos rfl]
  unfold nextV
  simp only [hx, hd, Bool.false_eq_true, if_false, hl]
  unfold tookC
  rw [hx, h1]
  simp only [tookL, hee]
 rw [List.length_take]
 omega
theorem walk_close {c : Cf} {s : St} {k : Int} {x : Cur.X} (hx : tabF (s.T 2) k = some x) : ∃ cs', doV c 3 s 2 ⟨6, e0, e0, k, []⟩ = (⟨0, false, e0, [], 0, false⟩, ⟨s.s, s.L, setT s.T 2 cs'⟩) ∧ cs'.length = (s.T 2).length ∧ tabF cs' k = none := by
 have hc := close_tab (s.T 2) k
 refine ⟨(closeC (s.T 2) k).1, ?_, hc.2.1, by rw [hc.1, upd_same]⟩
 have e : (closeC (s.T 2) k).2 = 0 := by unfold closeC; rw [hx]; rfl
 unfold doV
 rw [if_neg (by omega), if_neg (not_not_intro (ask_num c 6 k (.inr rfl))), if_neg (show ¬ (6 : Int) = 1 by decide), if_neg (show ¬ (6 : Int) = 2 by decide), if_neg (show ¬ (6 : Int) = 3 by decide), if_neg (show ¬ (6 : Int) = 4 by decide), if_neg (show ¬ (6 : Int) = 5 by decide), e]
theorem walk_late {c : Cf} {s : St} {k : Int} (hx : tabF (s.T 2) k = none) : doV c 3 s 2 ⟨5, e0, e0, k, []⟩ = (⟨11, false, e0, [], 0, false⟩, s) := by
 unfold doV
 rw [if_neg (by omega), if_neg (not_not_intro (ask_num c 5 k (.inl rfl))), if_neg (show ¬ (5 : Int) = 1 by decide), if_neg (show ¬ (5 : Int) = 2 by decide), if_neg (show ¬ (5 : Int) = 3 by decide), if_neg (show ¬ (5 : Int) = 4 by decide), if_pos rfl]
 unfold nextV
 rw [hx]
 simp only [setT_self]
def Wg (w0 : World) (m : Nat) (c : Cf) (K : Nat → Obj → Prop) (base : Nat) (v : Value) (T : List En) (q : Nat) (s : St) (W : World) : Prop :=
 ∃ G, Mw G W m c 3 s.s s.L s.T (2 * q) ∧ Inv 3 s q ∧ (∀ j, j < w0.heap.size → G j = 0) ∧ w0.heap.size ≤ base ∧ Below w0.heap.size w0 W ∧ (∀ b o, K b o → G b = 0 ∧ W.heap[b]? = some o) ∧ base ≤ W.heap.size ∧ Kd.R P.k103 103 W base (fun j => G j = 0) v T
theorem Wg.below {w0 W W' : World} {m : Nat} {c : Cf} {K : Nat → Obj → Prop} {base : Nat} {v : Value} {T : List En} {q : Nat} {s : St} (h : Wg w0 m c K base v T q s W) (hb : Below W.heap.size W W') : Wg w0 m c K base v T q s W' := by
 obtain ⟨G, h1, h2, h3, h4, h5, h6, h7, h8⟩ := h
 exact ⟨G, h1.below hb, h2, h3, h4, below_then h5 h5.size hb, fun b o ho => ⟨(h6 b o ho).1, blk_below (h6 b o ho).2 hb⟩, Nat.le_trans h7 hb.size, Kd.R_below h8 hb⟩
theorem Wg.more {w0 W : World} {m : Nat} {c : Cf} {K : Nat → Obj → Prop} {base : Nat} {v : Value} {T : List En} {q : Nat} {s : St} (h : Wg w0 m c K base v T q s W) (o : Obj) : Wg w0 m c (fun b o' => K b o' ∨ (b = W.heap.size ∧ o' = o)) base v T q s (W.alloc o) := by
 have hb : Below W.heap.size W (W.alloc o) := below_alloc (Below.refl _ _) _
 obtain ⟨G, h1, h2, h3, h4, h5, h6, h7, h8⟩ := h
 refine ⟨G, h1.below hb, h2, h3, h4, below_then h5 h5.size hb, fun b o' ho => ?_, Nat.le_trans h7 hb.size, Kd.R_below h8 hb⟩
 rcases ho with q | ⟨rfl, rfl⟩
 ·exact ⟨(h6 b o' q).1, blk_below (h6 b o' q).2 hb⟩
 exact ⟨g0 h1.1 _ (Nat.le_refl _), blk_new W o'⟩
theorem Wg.less {w0 W : World} {m : Nat} {c : Cf} {K K' : Nat → Obj → Prop} {base : Nat} {v : Value} {T : List En} {q : Nat} {s : St} (h : Wg w0 m c K base v T q s W) (hk : ∀ b o, K' b o → K b o) : Wg w0 m c K' base v T q s W := by
 obtain ⟨G, h1, h2, h3, h4, h5, h6, h7, h8⟩ := h
 exact ⟨G, h1, h2, h3, h4, h5, fun b o ho => h6 b o (hk b o ho), h7, h8⟩
theorem Wg.blk {w0 W : World} {m : Nat} {c : Cf} {K : Nat → Obj → Prop} {base : Nat} {v : Value} {T : List En} {q : Nat} {s : St} (h : Wg w0 m c K base v T q s W) {b : Nat} {o : Obj} (hk : K b o) : W.heap[b]? = some o := by
 obtain ⟨G, h1, h2, h3, h4, h5, h6, h7, h8⟩ := h
 exact (h6 b o hk).2
theorem Wg.old {w0 W : World} {m : Nat} {c : Cf} {K : Nat → Obj → Prop} {base : Nat} {v : Value} {T : List En} {q : Nat} {s : St} (h : Wg w0 m c K base v T q s W) : Below w0.heap.size w0 W := by
 obtain ⟨G, h1, h2, h3, h4, h5, h6, h7, h8⟩ := h
 exact h5
theorem Wg.inv {w0 W : World} {m : Nat} {c : Cf} {K : Nat → Obj → Prop} {base : Nat} {v : Value} {T : List En} {q : Nat} {s : St} (h : Wg w0 m c K base v T q s W) : Inv 3 s q := by
 obtain ⟨G, h1, h2, h3, h4, h5, h6, h7, h8⟩ := h
 exact h2
theorem Wg.start {w0 W : World} {m : Nat} {c : Cf} {K : Nat → Obj → Prop} {q : Nat} {s : St} {Y : Nat → Prop} (h : Mn Y m c 3 s (2 * q) W) (hI : Inv 3 s q) (hY : ∀ j, j < w0.heap.size → Y j) (hB : Below w0.heap.size w0 W) (hK : ∀ b o, K b o → Y b ∧ W.heap[b]? = some o) : Wg w0 m c K W.heap.size (.slice none 0 0) [] q s W := by
 obtain ⟨G, h1, h2⟩ := h
 exact ⟨G, h1, hI, fun j hj => (h2 j (hY j hj)).1, hB.size, hB, fun b o ho => ⟨(h2 b (hK b o ho).1).1, (hK b o ho).2⟩, Nat.le_refl _, Kd.R_nil _ _ _ _ _⟩
theorem Wg.deed {w0 W : World} {m : Nat} {c : Cf} {K : Nat → Obj → Prop} {base : Nat} {v : Value} {T : List En} {q : Nat} {s s' : St} (h : Wg w0 m c K base v T q s W) (hq : q ≤ 3000) (o k : Int) (h0 : 0 ≤ o) (h1 : o ≤ 255) (hk : (Lit.int .i64 k).wf = true) {r : Rp} (e : doV c 3 s 2 ⟨o, e0, e0, k, []⟩ = (r, s')) :
  Calls Try.prog 23 #[.pointer (some ⟨m, 0, none⟩), .int .i64 2, .agg #[.int .u8 o, .string e0, .string e0, .int .i64 k, .slice none 0 0]] W fun x w' => ∃ B cp, x = .returned (repA r B cp) ∧ Wg w0 m c K base v T (q + 1) s' w' ∧ r.l.length ≤ cp ∧ Kd.C P.k103 w' B r.l.length r.l := by
 obtain ⟨G, g1, g2, g3, g4, g5, g6, g7, g8⟩ := h
 have hok : Okd 3 s 2 ⟨o, e0, e0, k, []⟩ (2 * q) := g2.okd (by omega) (by omega) 2 _ h0 h1 hk (by simp) (by simp)
 have hs := g2.step c 2 ⟨o, e0, e0, k, []⟩ (by simp) (by simp)
 rw [e] at hs
 refine (do_bare g1 2 o k e0 e0 hok e).mono ?_
 rintro x w' ⟨B, cp, rfl, G', d1, d2, d3, d4⟩
 obtain ⟨_, q1, q2⟩ := Kd.V_reads' d4
 refine ⟨B, cp, rfl, ⟨G', d2, hs, (belowF g3 g5 d1 d3).2, g4, (belowF g3 g5 d1 d3).1, fun b ob hb => ?_, Nat.le_trans g7 d3.size, ?_⟩, q1, q2⟩
 ·obtain ⟨a, a'⟩ := g6 b ob hb
  exact ⟨(d1 b (blk_lt a')).trans a, d3.blk a' (by rw [a]; simp)⟩
 refine Kd.R_mono (Kd.R_step (Kd.R_bound g8) (fun j hj hl => d3.block j hl (by rw [hj.1]; simp))) (fun j hj => ?_)
 exact (d1 j hj.2.2.1).trans hj.1
theorem Wg.told {w0 W W1 : World} {m : Nat} {c : Cf} {K : Nat → Obj → Prop} {base : Nat} {v v1 : Value} {T T1 : List En} {q : Nat} {s : St} {G : Nat → Nat} (g1 : Mw G W m c 3 s.s s.L s.T (2 * q)) (g2 : Inv 3 s q) (g3 : ∀ j, j < w0.heap.size → G j = 0) (g4 : w0.heap.size ≤ base) (g5 : Below w0.heap.size w0 W) (g6 : ∀ b o, K b o → G b = 0 ∧ W.heap[b]? = some o) (g7 : base ≤ W.heap.size) (g8 : Kd.R P.k103 103 W base (fun j => G j = 0) v T)
  (hR : Kd.R P.k103 103 W1 base (fun j => G j = 0) v1 T1) (hB : Below base W W1) (hg : W.grownBy W1 v.ownBlock) (hK : ∀ b o, K b o → b < base) : Wg w0 m c K base v1 T1 q s W1 := by
 have f : It.FrM (fun j => G j = 0) W W1 := ⟨hB.os, hB.tape, hB.output, hB.size, fun j hj hn => hg.block j hj (fun e => hn (g8.1 j e.symm))⟩
 refine ⟨G, g1.frm f, g2, g3, g4, ⟨hB.os.trans g5.os, hB.tape.trans g5.tape, hB.output.trans g5.output, Nat.le_trans g5.size hB.size, fun j hj => (hB.block j (Nat.lt_of_lt_of_le hj g4)).trans (g5.block j hj)⟩, fun b o ho => ⟨(g6 b o ho).1, ?_⟩, Nat.le_trans g7 hB.size, hR⟩
 rw [hB.block b (hK b o ho)]
 exact (g6 b o ho).2
theorem find_any {w : World} {E : List En} {A : Option Addr} {ca : Nat} {Z : Nat → Prop} (h1 : Kd.V P.k103 103 w 0 Z (.slice A E.length ca) E) (hl : E.length ≤ 1000000) (k : ByteArray) :
  Calls Try.prog 27 #[.slice A E.length ca, .string k] w fun e w' => e = .returned (.tuple #[.string (findV E k).1, .bool (findV E k).2]) ∧ Below w.heap.size w w' := by
 obtain ⟨_, q1, r1⟩ := Kd.V_reads' h1
 refine (P.catchmentref05_Find.calls (E.length + 1) A ca E k (findV E k).1 (findV E k).2 w r1 q1 (Find_eq _ _ _ hl (by omega))).mono ?_
 rintro e w' ⟨rfl, hb⟩
 exact ⟨rfl, hb.below⟩
theorem wg_entries {w0 W : World} {m : Nat} {c : Cf} {K : Nat → Obj → Prop} {base : Nat} {v : Value} {T : List En} {q : Nat} {s : St} (h : Wg w0 m c K base v T q s W) (hq : q ≤ 3000) {E : List En} (hE : s.L.map toE = E) :
  Calls Try.prog 22 #[.pointer (some ⟨m, 0, none⟩)] W fun e w' => ∃ A cp, e = .returned (.slice A E.length cp) ∧ Kd.V P.k103 103 w' 0 (fun k => W.heap.size ≤ k ∧ k < w'.heap.size) (.slice A E.length cp) E ∧ Below W.heap.size W w' := by
 obtain ⟨G, h1, h2, h3, h4, h5, h6, h7, h8⟩ := h
 subst hE
 exact mn_entries (Y := fun _ => False) ⟨G, h1, fun k hk => hk.elim⟩ (by have := h2.len; omega)
theorem wg_row {w0 W : World} {m : Nat} {c : Cf} {K : Nat → Obj → Prop} {base : Nat} {A : Option Addr} {n cp : Nat} {T : List En} {q : Nat} {s : St} (h : Wg w0 m c K base (.slice A n cp) T q s W) : T.length ≤ cp ∧ n = T.length ∧ Kd.C P.k103 W A T.length T := by
 obtain ⟨G, h1, h2, h3, h4, h5, h6, h7, h8⟩ := h
 obtain ⟨A', c', e⟩ := Kd.R_slice h8
 cases e
 obtain ⟨_, a, b⟩ := Kd.R_reads' h8
 exact ⟨a, rfl, b⟩
theorem walks_bad {w : World} {c : Cf} {A : Option Addr} {cap : Nat} {l : List Dd28} (h : ¬ okC c = true) (f t : ByteArray) :
  Calls Try.prog 6 #[aggC c, .slice A l.length cap, .agg #[.string f, .string t]] w fun e w' => e = .returned (.bool true) ∧ Below w.heap.size w w' := by
 have huc := Try.underlying47
 have hur := Try.underlying29
 have B1 : Below w.heap.size w ((w.alloc (objC c)).alloc (.cells #[.string f, .string t] 29 (0, 0))) := below_alloc (below_alloc (Below.refl _ _) _) _
 have PL := played_bad (w := ((w.alloc (objC c)).alloc (.cells #[.string f, .string t] 29 (0, 0)))) (A := A) (cap := cap) (l := l) h
 have hA0 := aK_ B1
 clear B1 h
 go_enter Try.func6, Try.ntmps6
 go_wp2_with (first
  | (go_at_call 20; refine PL.mono ?_; clear PL; rintro e w1 ⟨rfl, hb1⟩; have hO1 := aK_ (below_then hA0.out hA0.out.size hb1); have LV := live_any w1; clear hb1)
  | (go_at_call 21; refine LV.mono ?_; clear LV; rintro e w3 ⟨rfl, hb3⟩))
 go_ret
 exact ⟨rfl, below_then hO1.out hO1.out.size hb3⟩
theorem walks_err {w : World} {c : Cf} {A : Option Addr} {cap : Nat} {l : List Dd28} (hC : Kd.C P.k81 w A l.length l) (hcap : l.length ≤ cap) (hwf : ∀ d ∈ l, okd28 d = true) (hok : okC c = true) (f t : ByteArray) (ha : ¬ Pm.askV 4 f t 0 [] c.f0 c.f1 c.f8 = 0) :
  Calls Try.prog 6 #[aggC c, .slice A l.length cap, .agg #[.string f, .string t]] w fun e w' => e = .returned (.bool true) ∧ Below w.heap.size w w' := by
 have huc := Try.underlying47
 have huo := Try.underlying56
 have hup := Try.underlying59
 have hur := Try.underlying29
 have B1 : Below w.heap.size w ((w.alloc (objC c)).alloc (.cells #[.string f, .string t] 29 (0, 0))) := below_alloc (below_alloc (Below.refl _ _) _) _
 have bC : ((w.alloc (objC c)).alloc (.cells #[.string f, .string t] 29 (0, 0))).heap[w.heap.size]? = some (objC c) := blk_alloc (blk_new w (objC c)) _
 have bR : ((w.alloc (objC c)).alloc (.cells #[.string f, .string t] 29 (0, 0))).heap[w.heap.size + 1]? = some (.cells #[.string f, .string t] 29 (0, 0)) := by have := blk_new (w.alloc (objC c)) (.cells #[.string f, .string t] 29 (0, 0)); rwa [World.size_alloc] at this
 have PL := played_ok (Kd.C_below hC B1) hcap hwf hok
 have hA0 := aK_ (And.intro B1 (And.intro bC (And.intro bR hok)))
 clear hC hwf B1 bC bR hok
 have hask := Pm.ref_Ask_eq c.f0 c.f1 c.f2 c.f3 c.f4 c.f5 c.f6 c.f7 c.f8 0 4 f t 0 [] (by simp) (by simp)
 have hno := fun s => walk_no (s := s) ha
 obtain ⟨q, hq⟩ : ∃ q, Pm.askV 4 f t 0 [] c.f0 c.f1 c.f8 = q := ⟨_, rfl⟩
 rw [hq] at hask ha
 rw [hq] at hno
 have hq1 : (q != 0) = true := by simpa using ha
 have hqA := aK_ (And.intro hask hno)
 clear hask hno hq ha
 go_enter Try.func6, Try.ntmps6
 go_wp2_with (first
  | (go_at_call 20; refine PL.mono ?_; clear PL; rintro e w1 ⟨m, x, s, i, rfl, hi, hBo⟩; have hOld := hBo.old; have bR1 := blk_below hA0.out.2.2.1 hOld; have z0 := blk_cell bR1 0; have z1 := blk_cell bR1 1; simp at z0 z1; obtain ⟨Y, hPs⟩ := hBo.ps hi; have DO := ps_do hPs 2 ⟨4, f, t, 0, []⟩ (show (0 : Int) ≤ 4 by decide) (show (4 : Int) ≤ 255 by decide) (show (Lit.int .i64 0).wf = true by decide) (Nat.zero_le _) (by simp) (A := none) (cap := 0) (fun W _ => Kd.C_nil _ W) (Nat.le_refl 0) (hqA.out.2 s); clear hBo hi hOld bR1 hPs)
  | (go_at_call 23; refine DO.mono ?_; clear DO; rintro e w2 ⟨B, cp, rfl, V, hPd, hFr, hV4⟩; have hO2 := aK_ hPd; clear hPd hFr hV4 z0 z1))
 have hD : Below w2.heap.size w2 (w2.alloc (.cells #[.int .i64 q, .bool false, .string e0, .slice B 0 cp, .int .i64 0, .bool false] 59 (0, 0))).drew := below_drew1 (below_alloc (Below.refl _ _) _)
 have hPd := hO2.out.below hD
 have bq := blk_below (blk_new w2 (.cells #[.int .i64 q, .bool false, .string e0, .slice B 0 cp, .int .i64 0, .bool false] 59 (0, 0))) (below_drew1 (Below.refl (w2.alloc (.cells #[.int .i64 q, .bool false, .string e0, .slice B 0 cp, .int .i64 0, .bool false] 59 (0, 0))).heap.size (w2.alloc (.cells #[.int .i64 q, .bool false, .string e0, .slice B 0 cp, .int .i64 0, .bool false] 59 (0, 0)))))
 have K : ∀ W, Below (w2.alloc (.cells #[.int .i64 q, .bool false, .string e0, .slice B 0 cp, .int .i64 0, .bool false] 59 (0, 0))).drew.heap.size (w2.alloc (.cells #[.int .i64 q, .bool false, .string e0, .slice B 0 cp, .int .i64 0, .bool false] 59 (0, 0))).drew W → (W.cell? ⟨w2.heap.size, 0, none⟩ = some (.int .i64 q) ∧ W.cell? ⟨w.heap.size + 1, 0, none⟩ = some (.string f) ∧ W.cell? ⟨w.heap.size + 1, 1, none⟩ = some (.string t) ∧ W.cell? ⟨w.heap.size, 0, none⟩ = some (.int .i64 c.f0) ∧ W.cell? ⟨w.heap.size, 1, none⟩ = some (.int .i64 c.f1) ∧ W.cell? ⟨w.heap.size, 2, none⟩ = some (.int .i64 c.f2) ∧ W.cell? ⟨w.heap.size, 3, none⟩ = some (.int .i64 c.f3) ∧ W.cell? ⟨w.heap.size, 4, none⟩ = some (.int .i64 c.f4) ∧ W.cell? ⟨w.heap.size, 5, none⟩ = some (.int .i64 c.f5) ∧ W.cell? ⟨w.heap.size, 6, none⟩ = some (.int .i64 c.f6) ∧ W.cell? ⟨w.heap.size, 7, none⟩ = some (.int .i64 c.f7) ∧ W.cell? ⟨w.heap.size, 8, none⟩ = some (.int .i64 c.f8)) := fun W hW => by
  have hP := (hPd.below hW).old
  have h1 := blk_below hA0.out.2.1 hP
  have h2 := blk_below hA0.out.2.2.1 hP
  have h3 := blk_below bq hW
  exact ⟨(blk_cell h3 0).trans rfl, (blk_cell h2 0).trans rfl, (blk_cell h2 1).trans rfl, (blk_cell h1 0).trans rfl, (blk_cell h1 1).trans rfl, (blk_cell h1 2).trans rfl, (blk_cell h1 3).trans rfl, (blk_cell h1 4).trans rfl, (blk_cell h1 5).trans rfl, (blk_cell h1 6).trans rfl, (blk_cell h1 7).trans rfl, (blk_cell h1 8).trans rfl⟩
 obtain ⟨k0, k1, k2, k3, k4, k5, k6, k7, k8, k9, k10, k11⟩ := K _ (Below.refl _ _)
 have LV := (live_any (w2.alloc (.cells #[.int .i64 q, .bool false, .string e0, .slice B 0 cp, .int .i64 0, .bool false] 59 (0, 0))).drew).mono (R' := fun e W1 => e = .returned (.bool true) ∧ (W1.cell? ⟨w2.heap.size, 0, none⟩ = some (.int .i64 q) ∧ W1.cell? ⟨w.heap.size + 1, 0, none⟩ = some (.string f) ∧ W1.cell? ⟨w.heap.size + 1, 1, none⟩ = some (.string t) ∧ W1.cell? ⟨w.heap.size, 0, none⟩ = some (.int .i64 c.f0) ∧ W1.cell? ⟨w.heap.size, 1, none⟩ = some (.int .i64 c.f1) ∧ W1.cell? ⟨w.heap.size, 2, none⟩ = some (.int .i64 c.f2) ∧ W1.cell? ⟨w.heap.size, 3, none⟩ = some (.int .i64 c.f3) ∧ W1.cell? ⟨w.heap.size, 4, none⟩ = some (.int .i64 c.f4) ∧ W1.cell? ⟨w.heap.size, 5, none⟩ = some (.int .i64 c.f5) ∧ W1.cell? ⟨w.heap.size, 6, none⟩ = some (.int .i64 c.f6) ∧ W1.cell? ⟨w.heap.size, 7, none⟩ = some (.int .i64 c.f7) ∧ W1.cell? ⟨w.heap.size, 8, none⟩ = some (.int .i64 c.f8)) ∧ Calls Try.prog 24 #[.agg #[.int .u8 4, .string f, .string t, .int .i64 0, .slice none 0 0], aggC c] W1 fun e W2 => e = .returned (.int .i64 q) ∧ (W2.cell? ⟨w2.heap.size, 0, none⟩ = some (.int .i64 q) ∧ W2.cell? ⟨w.heap.size + 1, 0, none⟩ = some (.string f) ∧ W2.cell? ⟨w.heap.size + 1, 1, none⟩ = some (.string t) ∧ W2.cell? ⟨w.heap.size, 0, none⟩ = some (.int .i64 c.f0) ∧ W2.cell? ⟨w.heap.size, 1, none⟩ = some (.int .i64 c.f1) ∧ W2.cell? ⟨w.heap.size, 2, none⟩ = some (.int .i64 c.f2) ∧ W2.cell? ⟨w.heap.size, 3, none⟩ = some (.int .i64 c.f3) ∧ W2.cell? ⟨w.heap.size, 4, none⟩ = some (.int .i64 c.f4) ∧ W2.cell? ⟨w.heap.size, 5, none⟩ = some (.int .i64 c.f5) ∧ W2.cell? ⟨w.heap.size, 6, none⟩ = some (.int .i64 c.f6) ∧ W2.cell? ⟨w.heap.size, 7, none⟩ = some (.int .i64 c.f7) ∧ W2.cell? ⟨w.heap.size, 8, none⟩ = some (.int .i64 c.f8)) ∧ Aside0 (Below w.heap.size w W2)) (by
  rintro e W1 ⟨rfl, q1⟩
  refine ⟨rfl, K _ q1, (catchmentref21_Ask.calls _ 4 f t 0 none 0 [] c.f0 c.f1 c.f2 c.f3 c.f4 c.f5 c.f6 c.f7 c.f8 q W1 (Kd.C_nil _ _) (Nat.le_refl 0) hqA.out.1).mono ?_⟩
  rintro e W2 ⟨rfl, q2⟩
  have b2 := below_then q1 q1.size q2
  exact ⟨rfl, K _ b2, ⟨below_then hA0.out.1 hA0.out.1.size (hPd.below b2).old⟩⟩)
 clear hD hPd bq K
 go_wp2
 go_region_held3 (fun w' => w'.cell? ⟨w2.heap.size, 0, none⟩ = some (.int .i64 q) ∧ w'.cell? ⟨w.heap.size + 1, 0, none⟩ = some (.string f) ∧ w'.cell? ⟨w.heap.size + 1, 1, none⟩ = some (.string t) ∧ w'.cell? ⟨w.heap.size, 0, none⟩ = some (.int .i64 c.f0) ∧ w'.cell? ⟨w.heap.size, 1, none⟩ = some (.int .i64 c.f1) ∧ w'.cell? ⟨w.heap.size, 2, none⟩ = some (.int .i64 c.f2) ∧ w'.cell? ⟨w.heap.size, 3, none⟩ = some (.int .i64 c.f3) ∧ w'.cell? ⟨w.heap.size, 4, none⟩ = some (.int .i64 c.f4) ∧ w'.cell? ⟨w.heap.size, 5, none⟩ = some (.int .i64 c.f5) ∧ w'.cell? ⟨w.heap.size, 6, none⟩ = some (.int .i64 c.f6) ∧ w'.cell? ⟨w.heap.size, 7, none⟩ = some (.int .i64 c.f7) ∧ w'.cell? ⟨w.heap.size, 8, none⟩ = some (.int .i64 c.f8)) (first | exact ⟨by assumption, by assumption, by assumption, by assumption, by assumption, by assumption, by assumption, by assumption, by assumption, by assumption, by assumption, by assumption⟩ | exact ⟨k0, k1, k2, k3, k4, k5, k6, k7, k8, k9, k10, k11⟩)
  (first
   | (go_at_call 21; refine LV.mono ?_; clear LV; rintro e_ W1 ⟨rfl, ⟨l0, l1, l2, l3, l4, l5, l6, l7, l8, l9, l10, l11⟩, PA⟩)
   | (go_at_call 24; refine PA.mono ?_; clear PA; rintro e_ W2 ⟨rfl, ⟨l0, l1, l2, l3, l4, l5, l6, l7, l8, l9, l10, l11⟩, hBW⟩))
 go_wp2
 go_ret
 exact ⟨rfl, hBW.out⟩
theorem open_at {cs : List Cu} {f t : ByteArray} : tabF (cs ++ [⟨⟨f, t⟩, false, false⟩]) ((cs.length : Int) + 1) = some (f, t, false) := by
 rw [tabF_append _ _ rfl, Cur.upd_same]
 rfl
theorem rem_len (t : ByteArray) (E : List En) (x : Cur.X) : rem t E x ≤ E.length + 1 := by
 unfold rem
 split
 ·omega
 exact Nat.succ_le_succ (List.length_filter_le (fun y : En => P.holds x.1 t y.f0) E)
theorem rem_pos {t : ByteArray} {E : List En} {x : Cur.X} (h : x.2.2 = false) : 1 ≤ rem t E x := by
 unfold rem
 rw [h]
 simp
theorem walks_yes {w : World} {c : Cf} {A : Option Addr} {cap : Nat} {l : List Dd28} (hC : Kd.C P.k81 w A l.length l) (hcap : l.length ≤ cap) (hwf : ∀ d ∈ l, okd28 d = true) (hok : okC c = true) (f t : ByteArray) (ha : Pm.askV 4 f t 0 [] c.f0 c.f1 c.f8 = 0) :
  Calls Try.prog 6 #[aggC c, .slice A l.length cap, .agg #[.string f, .string t]] w fun e w' => e = .returned (.bool true) ∧ Below w.heap.size w w' := by
 have huc := Try.underlying47
 have huo := Try.underlying56
 have hup := Try.underlying59
 have hur := Try.underlying29
 have B1 : Below w.heap.size w ((w.alloc (objC c)).alloc (.cells #[.string f, .string t] 29 (0, 0))) := below_alloc (below_alloc (Below.refl _ _) _) _
 have bC : ((w.alloc (objC c)).alloc (.cells #[.string f, .string t] 29 (0, 0))).heap[w.heap.size]? = some (objC c) := blk_alloc (blk_new w (objC c)) _
 have bR : ((w.alloc (objC c)).alloc (.cells #[.string f, .string t] 29 (0, 0))).heap[w.heap.size + 1]? = some (.cells #[.string f, .string t] 29 (0, 0)) := by have := blk_new (w.alloc (objC c)) (.cells #[.string f, .string t] 29 (0, 0)); rwa [World.size_alloc] at this
 have PL := played_ok (Kd.C_below hC B1) hcap hwf hok
 have hA0 := aK_ (And.intro B1 (And.intro bC (And.intro bR hok)))
 clear hC hwf B1 bC bR hok
 have h8 := okC_chunk hA0.out.2.2.2
 have hr := ask_open c f t ha
 have hrc : Cur.rrB f t = true := (rr_cur f t).trans hr
 have hyes := fun s => walk_open (s := s) ha
 have hqA := aK_ (And.intro hr (And.intro hrc (And.intro hyes h8)))
 clear hyes ha hr hrc h8
 go_enter Try.func6, Try.ntmps6
 go_wp2_with (first
  | (go_at_call 20; refine PL.mono ?_; clear PL; rintro e w1 ⟨m, x, s, i, rfl, hi, hBo⟩; have hOld := hBo.old; have bR1 := blk_below hA0.out.2.2.1 hOld; have z0 := blk_cell bR1 0; have z1 := blk_cell bR1 1; simp at z0 z1; obtain ⟨Y, hPs⟩ := hBo.ps hi; have DO := ps_do hPs 2 ⟨4, f, t, 0, []⟩ (show (0 : Int) ≤ 4 by decide) (show (4 : Int) ≤ 255 by decide) (show (Lit.int .i64 0).wf = true by decide) (Nat.zero_le _) (by simp) (A := none) (cap := 0) (fun W _ => Kd.C_nil _ W) (Nat.le_refl 0) (hqA.out.2.2.1 s); clear hBo hi hOld bR1 hPs)
  | (go_at_call 23; refine DO.mono ?_; clear DO; rintro e w2 ⟨B, cp, rfl, V, hPd, hFr, hV4⟩; obtain ⟨nn, hnn⟩ : ∃ nn : Int, nn = (s.T 2).length + 1 := ⟨_, rfl⟩; rw [← hnn]; have hPd2 := hPd.below (below_alloc (Below.refl _ _) (.cells #[.int .i64 0, .bool false, .string e0, .slice B 0 cp, .int .i64 nn, .bool false] 59 (0, 0))); have bN := blk_new w2 (.cells #[.int .i64 0, .bool false, .string e0, .slice B 0 cp, .int .i64 nn, .bool false] 59 (0, 0)); have hO2 := aK_ (And.intro hPd2 (And.intro bN hnn)); clear hPd hFr hV4 hPd2 bN hnn z0 z1))
 obtain ⟨E, hE⟩ : ∃ E, s.L.map toE = E := ⟨_, rfl⟩
 have hS : ∃ q, q ≤ 51 ∧ Wg ((w.alloc (objC c)).alloc (.cells #[.string f, .string t] 29 (0, 0))) m c (fun b o => b = w2.heap.size ∧ o = (.cells #[.int .i64 0, .bool false, .string e0, .slice B 0 cp, .int .i64 nn, .bool false] 59 (0, 0))) (w2.alloc (.cells #[.int .i64 0, .bool false, .string e0, .slice B 0 cp, .int .i64 nn, .bool false] 59 (0, 0))).heap.size (.slice none 0 0) [] q ⟨s.s, s.L, setT s.T 2 (s.T 2 ++ [⟨⟨f, t⟩, false, false⟩])⟩ (w2.alloc (.cells #[.int .i64 0, .bool false, .string e0, .slice B 0 cp, .int .i64 nn, .bool false] 59 (0, 0))) ∧ E.length ≤ 1000 := by
  obtain ⟨i0, Z, tb, p1, p2, p3, p4, p5, p6, p7, p8, p9, p10⟩ := hO2.out.1
  refine ⟨i0 + 1, by omega, Wg.start p4 p3 (fun j hj => .inl (p9 j hj)) p10 (fun b o ho => ?_), by rw [← hE, List.length_map]; have := p2.len; omega⟩
  obtain ⟨rfl, rfl⟩ := ho
  exact ⟨.inr (.inr ⟨Nat.le_refl _, by simp⟩), hO2.out.2.1⟩
 obtain ⟨q0, hq0, hW0, hEl⟩ := hS
 have hW0A := aK_ hW0
 have hnw : (Lit.int .i64 nn).wf = true := Cur.wf_small (by have := hO2.out.2.2; omega) (by have h := hW0.inv.t 2; have := hO2.out.2.2; simp [setT] at h; omega)
 have hst : Aside0 (WInv f t E (f, t, false) [] ∧ tabF (setT s.T 2 (s.T 2 ++ [⟨⟨f, t⟩, false, false⟩]) 2) nn = some (f, t, false)) := ⟨WInv.start f t E hqA.out.2.1, by rw [hO2.out.2.2, setT_same]; exact open_at⟩
 have hEA := aK_ (And.intro hE (And.intro hEl (And.intro hq0 hnw)))
 obtain ⟨base, hbase⟩ : ∃ base, base = (w2.alloc (.cells #[.int .i64 0, .bool false, .string e0, .slice B 0 cp, .int .i64 nn, .bool false] 59 (0, 0))).heap.size := ⟨_, rfl⟩
 rw [← hbase] at hW0A
 have hbA := aK_ (show w2.heap.size < base by rw [hbase]; simp)
 clear hW0 hE hEl hq0 hnw hbase hO2
 go_wp2
 go_loopg [10, 11] 1100 (fun g tv iv wr => ∃ (j : Int) (T : List En) (x' : Cur.X) (s' : St) (q cp' : Nat) (A' : Option Addr), iv = .int .i64 j ∧ tv = .slice A' T.length cp' ∧ Aside0 (0 ≤ j ∧ j.toNat + g = 1100 ∧ q ≤ 51 + j.toNat ∧ j.toNat + rem t E x' ≤ 1001 ∧ WInv f t E x' T ∧ x'.2.2 = false ∧ s'.L.map toE = E ∧ tabF (s'.T 2) nn = some x') ∧ Aside0 (Wg ((w.alloc (objC c)).alloc (.cells #[.string f, .string t] 29 (0, 0))) m c (fun b o => b = w2.heap.size ∧ o = (.cells #[.int .i64 0, .bool false, .string e0, .slice B 0 cp, .int .i64 nn, .bool false] 59 (0, 0))) base (.slice A' T.length cp') T q s' wr))
 case atStart => exact ⟨0, [], _, ⟨s.s, s.L, setT s.T 2 (s.T 2 ++ [⟨⟨f, t⟩, false, false⟩])⟩, q0, 0, none, rfl, rfl, ⟨Int.le_refl _, rfl, by have := hEA.out; omega, by have := rem_len t E (f, t, false); have := hEA.out; omega, hst.out.1, rfl, hEA.out.1, hst.out.2⟩, hW0A⟩
 clear hst hW0A
 obtain ⟨j, T, x', s', q, cp', A', rfl, rfl, hjA, hWA⟩ := hrel
 obtain ⟨j0, jg, jq, jr, jI, jx, jE, jt⟩ := hjA.out
 cases gk with
 | zero => have := rem_pos (t := t) (E := E) jx; omega
 | succ g => ?_
 have hjl : j < 1100 := by have := rem_pos (t := t) (E := E) jx; omega
 have d0 := decide_eq_true hjl
 have hwi : wrap64 (j + 1) = j + 1 := IntWalk.wrap64_in _ (by omega)
 have hrise := hWA.out.inv.rise
 subst jE
 obtain ⟨x2, ll, cs', e1, e2, e3, e4, e5, e6⟩ := walk_next (c := c) (s := s') hqA.out.2.2.2 hrise jt jx jI
 have DN := hWA.out.deed (by omega) 5 nn (by decide) (by decide) hEA.out.2.2.2 e1
 obtain ⟨ed, hed⟩ : ∃ ed, ed = x2.2.2 := ⟨_, rfl⟩
 rw [← hed] at DN
 have bn := hWA.out.blk (b := w2.heap.size) ⟨rfl, rfl⟩
 have n4 := blk_cell bn 4
 simp at n4
 have dL := decide_eq_false (show ¬ (ll.length : Int) > c.f8 by omega)
 have dL2 : decide (c.f8 < (ll.length : Int)) = false := dL
 have hIA := aK_ (And.intro e2 (And.intro e3 (And.intro e4 (And.intro e5 (And.intro e6 hed)))))
 clear e1 e2 e3 e4 e5 e6 hrise jI jt bn jx jr jq jg hed hjl
 cases ed with
 | false =>
  go_wp2_with (first
   | (go_at_call 23; refine DN.mono ?_; clear DN; rintro e w3 ⟨B3, cp3, rfl, hW3, hcp3, hC3⟩; have hW4 := hW3.below (below_alloc (Below.refl _ _) (.cells #[.int .i64 0, .bool false, .string e0, .slice B3 ll.length cp3, .int .i64 0, .bool false] 59 (0, 0))); have bx4 := blk_new w3 (.cells #[.int .i64 0, .bool false, .string e0, .slice B3 ll.length cp3, .int .i64 0, .bool false] 59 (0, 0)); have bc4 := blk_below hA0.out.2.1 hW4.old; have y8 := blk_cell bc4 8; simp at y8; have hC4 := Kd.C_below hC3 (below_alloc (Below.refl _ _) (.cells #[.int .i64 0, .bool false, .string e0, .slice B3 ll.length cp3, .int .i64 0, .bool false] 59 (0, 0))); have hw3 := hW3; obtain ⟨G, g1, g2, g3, g4, g5, g6, g7, g8⟩ := hW4; obtain ⟨G3, _, _, _, _, _, _, _, r8⟩ := hw3; have hown : ∀ k, (Value.slice A' T.length cp').ownBlock = some k → k < w3.heap.size := (fun k hk => ((Kd.R_bound r8).1 k hk).2.2.1); have hO4 := aK_ (And.intro g1 (And.intro g2 (And.intro g3 (And.intro g4 (And.intro g5 (And.intro g6 (And.intro g7 (And.intro bx4 hown)))))))); have hcpA := aK_ hcp3; clear hW3 bx4 bc4 hC3 r8 hown hcp3 g1 g2 g3 g4 g5 g6 n4)
   | (at_builtin; refine Kd.R_append_rows P.k103 (w0 := w3.alloc (.cells #[.int .i64 0, .bool false, .string e0, .slice B3 ll.length cp3, .int .i64 0, .bool false] 59 (0, 0))) base rfl _ _ 30 103 (.agg #[(.string ⟨#[]⟩), (.string ⟨#[]⟩)]) 32 rfl Try.underlying30 P.info103 rfl (by decide) (by omega) _ T ll B3 ll.length cp3 (fun k => G k = 0) (fun _ => False) rfl rfl g8 hC4 (fun y cs hy => by obtain rfl := P.k103_open hy; exact P.k103_mkM _ _ _ _) (fun _ hk => hk.elim) ?aF (Below.refl _ _) ?aS ?aL ?_; (case aL => have q1 := hjA.out; have q2 := hIA.out; have q3 := q2.2.2.1.len; rw [List.length_append] at q3; rw [List.length_map] at q3; have q4 : s'.L.length ≤ 20 * (q + 1) := hO4.out.2.1.len; omega); (case aS => exact g7); (case aF => exact fun k hk => g0 hO4.out.1.1 k hk); intro v9 w9 ho9 hB9 hg9 hat9; have hW9 := Wg.told hO4.out.1 hO4.out.2.1 hO4.out.2.2.1 hO4.out.2.2.2.1 hO4.out.2.2.2.2.1 hO4.out.2.2.2.2.2.1 g7 g8 ho9 hB9 hg9 (fun b o hb => by obtain ⟨rfl, _⟩ := hb; exact hbA.out); have bx9 : w9.heap[w3.heap.size]? = some (.cells #[.int .i64 0, .bool false, .string e0, .slice B3 ll.length cp3, .int .i64 0, .bool false] 59 (0, 0)) := (hg9.block _ (by simp) (fun e => by have := hO4.out.2.2.2.2.2.2.2.2 _ e.symm; omega)).trans hO4.out.2.2.2.2.2.2.2.1; have x5 := blk_cell bx9 5; simp at x5; obtain ⟨A9, c9, rfl⟩ := Kd.R_slice ho9; have hO9 := aK_ hW9; clear g8 hC4 y8 ho9 hB9 hg9 hat9 hW9 bx9 hO4 g7))
  go_roundg g
  case measure => omega
  have a := hjA.out
  have b := hIA.out
  exact ⟨j + 1, T ++ ll, x2, ⟨s'.s, s'.L, setT s'.T 2 cs'⟩, q + 1, c9, A9, by rw [hwi], by first | rfl | simp, ⟨by omega, by omega, by omega, by omega, b.2.2.1, b.2.2.2.2.2.symm, rfl, by show tabF (setT s'.T 2 cs' 2) nn = _; rw [setT_same]; exact b.2.1⟩, hO9⟩
 | true =>
  go_wp2_with (first
   | (go_at_call 23; refine DN.mono ?_; clear DN; rintro e w3 ⟨B3, cp3, rfl, hW3, hcp3, hC3⟩; have hW4 := hW3.below (below_alloc (Below.refl _ _) (.cells #[.int .i64 0, .bool false, .string e0, .slice B3 ll.length cp3, .int .i64 0, .bool true] 59 (0, 0))); have bx4 := blk_new w3 (.cells #[.int .i64 0, .bool false, .string e0, .slice B3 ll.length cp3, .int .i64 0, .bool true] 59 (0, 0)); have bc4 := blk_below hA0.out.2.1 hW4.old; have y8 := blk_cell bc4 8; simp at y8; have hC4 := Kd.C_below hC3 (below_alloc (Below.refl _ _) (.cells #[.int .i64 0, .bool false, .string e0, .slice B3 ll.length cp3, .int .i64 0, .bool true] 59 (0, 0))); have hw3 := hW3; obtain ⟨G, g1, g2, g3, g4, g5, g6, g7, g8⟩ := hW4; obtain ⟨G3, _, _, _, _, _, _, _, r8⟩ := hw3; have hown : ∀ k, (Value.slice A' T.length cp').ownBlock = some k → k < w3.heap.size := (fun k hk => ((Kd.R_bound r8).1 k hk).2.2.1); have hO4 := aK_ (And.intro g1 (And.intro g2 (And.intro g3 (And.intro g4 (And.intro g5 (And.intro g6 (And.intro g7 (And.intro bx4 hown)))))))); have hcpA := aK_ hcp3; clear hW3 bx4 bc4 hC3 r8 hown hcp3 g1 g2 g3 g4 g5 g6 n4)
   | (at_builtin; refine Kd.R_append_rows P.k103 (w0 := w3.alloc (.cells #[.int .i64 0, .bool false, .string e0, .slice B3 ll.length cp3, .int .i64 0, .bool true] 59 (0, 0))) base rfl _ _ 30 103 (.agg #[(.string ⟨#[]⟩), (.string ⟨#[]⟩)]) 32 rfl Try.underlying30 P.info103 rfl (by decide) (by omega) _ T ll B3 ll.length cp3 (fun k => G k = 0) (fun _ => False) rfl rfl g8 hC4 (fun y cs hy => by obtain rfl := P.k103_open hy; exact P.k103_mkM _ _ _ _) (fun _ hk => hk.elim) ?aF (Below.refl _ _) ?aS ?aL ?_; (case aL => have q1 := hjA.out; have q2 := hIA.out; have q3 := q2.2.2.1.len; rw [List.length_append] at q3; rw [List.length_map] at q3; have q4 : s'.L.length ≤ 20 * (q + 1) := hO4.out.2.1.len; omega); (case aS => exact g7); (case aF => exact fun k hk => g0 hO4.out.1.1 k hk); intro v9 w9 ho9 hB9 hg9 hat9; have hW9 := Wg.told hO4.out.1 hO4.out.2.1 hO4.out.2.2.1 hO4.out.2.2.2.1 hO4.out.2.2.2.2.1 hO4.out.2.2.2.2.2.1 g7 g8 ho9 hB9 hg9 (fun b o hb => by obtain ⟨rfl, _⟩ := hb; exact hbA.out); have bx9 : w9.heap[w3.heap.size]? = some (.cells #[.int .i64 0, .bool false, .string e0, .slice B3 ll.length cp3, .int .i64 0, .bool true] 59 (0, 0)) := (hg9.block _ (by simp) (fun e => by have := hO4.out.2.2.2.2.2.2.2.2 _ e.symm; omega)).trans hO4.out.2.2.2.2.2.2.2.1; have x5 := blk_cell bx9 5; simp at x5; obtain ⟨A9, c9, rfl⟩ := Kd.R_slice ho9; have hO9 := aK_ hW9; have bn9 := hW9.blk (b := w2.heap.size) ⟨rfl, rfl⟩; have n9 := blk_cell bn9 4; simp at n9; obtain ⟨cs5, f1, f2, f3⟩ := walk_close (c := c) (s := ⟨s'.s, s'.L, setT s'.T 2 cs'⟩) (k := nn) (x := x2) (by show tabF (setT s'.T 2 cs' 2) nn = _; rw [setT_same]; exact hIA.out.2.1); have DC := hW9.deed (by have := hjA.out; omega) 6 nn (by decide) (by decide) hEA.out.2.2.2 f1; have hf3 := aK_ f3; clear f1 f2 f3 bn9; clear g8 hC4 y8 ho9 hB9 hg9 hat9 hW9 bx9 hO4 g7)
   | (go_at_call 23; refine DC.mono ?_; clear DC; rintro e w5 ⟨B5, cp5, rfl, hW5, hcp5, hC5⟩; have hW6 := hW5.more (.cells #[.int .i64 0, .bool false, .string e0, .slice B5 0 cp5, .int .i64 0, .bool false] 59 (0, 0)); have bn6 := hW6.blk (b := w2.heap.size) (.inl ⟨rfl, rfl⟩); have n6 := blk_cell bn6 4; simp at n6; have DL := hW6.deed (by have := hjA.out; omega) 5 nn (by decide) (by decide) hEA.out.2.2.2 (walk_late (by show tabF (setT (setT s'.T 2 cs') 2 cs5 2) nn = _; rw [setT_same]; exact hf3.out)); have hO6 := aK_ hW6; clear hW5 hcp5 hC5 hW6 bn6 n9 x5)
   | (go_at_call 23; refine DL.mono ?_; clear DL; rintro e w7 ⟨B6, cp6, rfl, hW7, hcp7, hC7⟩; have hO8 := aK_ (hW7.more (.cells #[.int .i64 11, .bool false, .string e0, .slice B6 0 cp6, .int .i64 0, .bool false] 59 (0, 0))); clear hW7 hcp7 hC7 n6))
  have hW8 := hO8.out.below (below_drew1 (Below.refl _ _))
  obtain ⟨E1, hE1⟩ : ∃ E1, s'.L.map toE = E1 := ⟨_, rfl⟩
  have hT : T ++ ll = P.ents f t E1 := by rw [← hE1]; exact hIA.out.2.2.1.off hIA.out.2.2.2.2.2.symm
  have hlen : T.length + ll.length = (P.ents f t E1).length := by rw [← hT, List.length_append]
  rw [hT] at hW8
  have hrise : risesV E1 = true := by rw [← hE1]; exact rises_map hW8.inv.rise
  have hE1l : E1.length ≤ 50000 := by
   rw [← hE1, List.length_map]
   have h1 : s'.L.length ≤ 20 * _ := hW8.inv.len
   have := hjA.out
   omega
  have hE2l : (P.ents f t E1).length ≤ E1.length := List.length_filter_le _ _
  have K : ∀ W, Below (w7.alloc (.cells #[.int .i64 11, .bool false, .string e0, .slice B6 0 cp6, .int .i64 0, .bool false] 59 (0, 0))).drew.heap.size (w7.alloc (.cells #[.int .i64 11, .bool false, .string e0, .slice B6 0 cp6, .int .i64 0, .bool false] 59 (0, 0))).drew W → (W.cell? ⟨w.heap.size + 1, 0, none⟩ = some (.string f) ∧ W.cell? ⟨w.heap.size + 1, 1, none⟩ = some (.string t) ∧ W.cell? ⟨w5.heap.size, 0, none⟩ = some (.int .i64 0) ∧ W.cell? ⟨w7.heap.size, 0, none⟩ = some (.int .i64 11)) := fun W hW => by
   have hP := hW8.below hW
   have h1 := blk_below hA0.out.2.2.1 hP.old
   have h2 := hP.blk (b := w5.heap.size) (.inl (.inr ⟨rfl, rfl⟩))
   have h3 := hP.blk (b := w7.heap.size) (.inr ⟨rfl, rfl⟩)
   exact ⟨(blk_cell h1 0).trans rfl, (blk_cell h1 1).trans rfl, (blk_cell h2 0).trans rfl, (blk_cell h3 0).trans rfl⟩
  obtain ⟨k0, k1, k2, k3⟩ := K _ (Below.refl _ _)
  have EN : catchmentref05_Entries.f (2 * E1.length + 21) [] E1 f t = some (P.ents f t E1) := (P.Entries_eq _ [] E1 f t (by simp) (by omega) (by simp) (by simp)).trans (by rw [P.entriesV_nil E1 f t hrise hqA.out.1])
  have LV := (live_any (w7.alloc (.cells #[.int .i64 11, .bool false, .string e0, .slice B6 0 cp6, .int .i64 0, .bool false] 59 (0, 0))).drew).mono (R' := fun e W1 => e = .returned (.bool true) ∧ (W1.cell? ⟨w.heap.size + 1, 0, none⟩ = some (.string f) ∧ W1.cell? ⟨w.heap.size + 1, 1, none⟩ = some (.string t) ∧ W1.cell? ⟨w5.heap.size, 0, none⟩ = some (.int .i64 0) ∧ W1.cell? ⟨w7.heap.size, 0, none⟩ = some (.int .i64 11)) ∧ Calls Try.prog 22 #[.pointer (some ⟨m, 0, none⟩)] W1 fun e W2 => ∃ A10 cp10, e = .returned (.slice A10 E1.length cp10) ∧ (W2.cell? ⟨w.heap.size + 1, 0, none⟩ = some (.string f) ∧ W2.cell? ⟨w.heap.size + 1, 1, none⟩ = some (.string t) ∧ W2.cell? ⟨w5.heap.size, 0, none⟩ = some (.int .i64 0) ∧ W2.cell? ⟨w7.heap.size, 0, none⟩ = some (.int .i64 11)) ∧
    Calls Try.prog 30 #[.slice none 0 0, .slice A10 E1.length cp10, .agg #[.string f, .string t]] W2 fun e W3 => ∃ A11 cp11, e = .returned (.slice A11 (P.ents f t E1).length cp11) ∧ (W3.cell? ⟨w.heap.size + 1, 0, none⟩ = some (.string f) ∧ W3.cell? ⟨w.heap.size + 1, 1, none⟩ = some (.string t) ∧ W3.cell? ⟨w5.heap.size, 0, none⟩ = some (.int .i64 0) ∧ W3.cell? ⟨w7.heap.size, 0, none⟩ = some (.int .i64 11)) ∧
    Calls Try.prog 25 #[.slice A9 (T.length + ll.length) c9, .slice A11 (P.ents f t E1).length cp11] W3 fun e W4 => e = .returned (.bool true) ∧ (W4.cell? ⟨w.heap.size + 1, 0, none⟩ = some (.string f) ∧ W4.cell? ⟨w.heap.size + 1, 1, none⟩ = some (.string t) ∧ W4.cell? ⟨w5.heap.size, 0, none⟩ = some (.int .i64 0) ∧ W4.cell? ⟨w7.heap.size, 0, none⟩ = some (.int .i64 11)) ∧ Aside0 (Below w.heap.size w W4)) (by
   rintro e W1 ⟨rfl, q1⟩
   refine ⟨rfl, K _ q1, (wg_entries (hW8.below q1) (by have := hjA.out; omega) hE1).mono ?_⟩
   rintro e W2 ⟨A10, cp10, rfl, hV, q2⟩
   have b2 := below_then q1 q1.size q2
   obtain ⟨_, v1, v2⟩ := Kd.V_reads' hV
   refine ⟨A10, cp10, rfl, K _ b2, (catchmentref05_Entries.calls _ none 0 [] A10 cp10 E1 f t _ W2 (Kd.C_nil _ _) (Nat.le_refl 0) v2 v1 EN).mono ?_⟩
   rintro e W3 ⟨v, rfl, hR, q3⟩
   obtain ⟨A11, cp11, rfl⟩ := Kd.R_slice hR
   have b3 := below_then b2 b2.size q3
   obtain ⟨_, r1, r2⟩ := Kd.R_reads' hR
   obtain ⟨t1, _, t2⟩ := wg_row (hW8.below b3)
   refine ⟨A11, cp11, rfl, K _ b3, ?_⟩
   rw [hlen]
   refine (catchmentref05_Same.calls ((P.ents f t E1).length + 1) A9 c9 (P.ents f t E1) A11 cp11 (P.ents f t E1) true W3 t2 t1 r2 r1 (by rw [P.Same_eq _ _ _ (by omega) (by omega), P.sameE_iff.2 rfl])).mono ?_
   rintro e W4 ⟨rfl, q4⟩
   have b4 := below_then b3 b3.size q4.below
   exact ⟨rfl, K _ b4, ⟨below_then hA0.out.1 hA0.out.1.size (hW8.below b4).old⟩⟩)
  clear hW8 hT hlen hrise hE1l hE2l K EN hE1
  go_region_held3 (fun w' => w'.cell? ⟨w.heap.size + 1, 0, none⟩ = some (.string f) ∧ w'.cell? ⟨w.heap.size + 1, 1, none⟩ = some (.string t) ∧ w'.cell? ⟨w5.heap.size, 0, none⟩ = some (.int .i64 0) ∧ w'.cell? ⟨w7.heap.size, 0, none⟩ = some (.int .i64 11)) (first | exact ⟨by assumption, by assumption, by assumption, by assumption⟩ | exact ⟨k0, k1, k2, k3⟩)
   (first
    | (go_at_call 21; refine LV.mono ?_; clear LV; rintro e_ W1 ⟨rfl, ⟨l0, l1, l2, l3⟩, PE⟩)
    | (go_at_call 22; refine PE.mono ?_; clear PE; rintro e_ W2 ⟨A10, cp10, rfl, ⟨l0, l1, l2, l3⟩, PN⟩)
    | (go_at_call 30; refine PN.mono ?_; clear PN; rintro e_ W3 ⟨A11, cp11, rfl, ⟨l0, l1, l2, l3⟩, PM⟩)
    | (go_at_call 25; refine PM.mono ?_; clear PM; rintro e_ W4 ⟨rfl, ⟨l0, l1, l2, l3⟩, hBW⟩))
  go_wp2
  go_ret
  exact ⟨rfl, hBW.out⟩
end Go.Proofs.Ytljnlnbopohghaa.Mdl
end
section
namespace Go.Proofs.Ytljnlnbopohghaa.P
open Go.RowKit Go.Proofs.YtljnlnbopohghaaW.PrintWords
def catchmentlaw28_ModelWalks.f (k : Nat) (a0_0 a0_1 a0_2 a0_3 a0_4 a0_5 a0_6 a0_7 a0_8 : Int) (l1 : List S81) (a2_0 a2_1 : ByteArray) : Option Bool := if l1.all Mdl.okd28 = true then some true else none
theorem catchmentlaw28_ModelWalks.calls (k : Nat) (a0_0 a0_1 a0_2 a0_3 a0_4 a0_5 a0_6 a0_7 a0_8 : Int) (A1 : Option Addr) (c1 : Nat) (l1 : List S81) (a2_0 a2_1 : ByteArray) (r : Bool) (w : World) (hr1 : Kd.C k81 w A1 l1.length l1) (hc1 : l1.length ≤ c1) (h : catchmentlaw28_ModelWalks.f k a0_0 a0_1 a0_2 a0_3 a0_4 a0_5 a0_6 a0_7 a0_8 l1 a2_0 a2_1 = some r) :
  Calls Try.prog 6 #[.agg #[.int .i64 a0_0, .int .i64 a0_1, .int .i64 a0_2, .int .i64 a0_3, .int .i64 a0_4, .int .i64 a0_5, .int .i64 a0_6, .int .i64 a0_7, .int .i64 a0_8], .slice A1 l1.length c1, .agg #[.string a2_0, .string a2_1]] w fun e w' => e = .returned (.bool r) ∧ Below w.heap.size w w' := by
 unfold catchmentlaw28_ModelWalks.f at h
 split at h
 ·rename_i hq
  cases h
  by_cases hc : Mdl.okC ⟨a0_0, a0_1, a0_2, a0_3, a0_4, a0_5, a0_6, a0_7, a0_8⟩ = true
  ·by_cases ha : Pm.askV 4 a2_0 a2_1 0 [] a0_0 a0_1 a0_8 = 0
   ·exact Mdl.walks_yes (c := ⟨a0_0, a0_1, a0_2, a0_3, a0_4, a0_5, a0_6, a0_7, a0_8⟩) hr1 hc1 (List.all_eq_true.1 hq) hc a2_0 a2_1 ha
   exact Mdl.walks_err (c := ⟨a0_0, a0_1, a0_2, a0_3, a0_4, a0_5, a0_6, a0_7, a0_8⟩) hr1 hc1 (List.all_eq_true.1 hq) hc a2_0 a2_1 ha
  exact Mdl.walks_bad (c := ⟨a0_0, a0_1, a0_2, a0_3, a0_4, a0_5, a0_6, a0_7, a0_8⟩) hc a2_0 a2_1
 cases h
theorem catchmentlaw28_ModelWalks.yes (a0_0 : Int) (a0_1 : Int) (a0_2 : Int) (a0_3 : Int) (a0_4 : Int) (a0_5 : Int) (a0_6 : Int) (a0_7 : Int) (a0_8 : Int) (l1 : List S81) (a2_0 : ByteArray) (a2_1 : ByteArray) (h : ∀ a ∈ l1, wf81 a) : catchmentlaw28_ModelWalks.f 0 a0_0 a0_1 a0_2 a0_3 a0_4 a0_5 a0_6 a0_7 a0_8 l1 a2_0 a2_1 = some true :=
 if_pos (List.all_eq_true.2 fun d hd => Mdl.okd28_wf (h d hd))
end Go.Proofs.Ytljnlnbopohghaa.P
end
section
namespace Go.Proofs.Ytljnlnbopohghaa.Pure
open Go.RowKit Go.Proofs.Ytljnlnbopohghaa.P Go.Proofs.YtljnlnbopohghaaW.PrintWords Go.Proofs.YtljnlnbopohghaaW.PrintLast Go.Proofs.YtljnlnbopohghaaW.PrintMore
theorem ModelWalks : ∀ (x0 : S47) (x1 : (List S81)) (x2 : S29), (wf47 x0) → (x1.length * 80 ≤ 140737488351232 ∧ ∀ a_ ∈ x1, wf81 a_) → (wf29 x2) → ∃ k, catchmentlaw28_ModelWalks.f k x0.f0 x0.f1 x0.f2 x0.f3 x0.f4 x0.f5 x0.f6 x0.f7 x0.f8 x1 x2.f0 x2.f1 = some true := by
 intro x0 x1 x2 h0 h1 h2; exact ⟨0, catchmentlaw28_ModelWalks.yes _ _ _ _ _ _ _ _ _ _ _ _ h1.2⟩
end Go.Proofs.Ytljnlnbopohghaa.Pure
end
section
namespace Go.Proofs.Ytljnlnbopohghaa.modelWalks
open Go.ChangeShapes Go.WideShapes Go.ChangeAt Go.RowKit Go.Proofs.Ytljnlnbopohghaa.P Go.Proofs.Ytljnlnbopohghaa.Rd Go.Proofs.YtljnlnbopohghaaW.PrintWords
open Go.ChangeMaps (open_string shut_string)
theorem own : ownKnob Try.prog.godebug = none := by kernel_rfl
theorem laidOut : laidOutB Try.prog = true := by kernel_rfl
set_option maxHeartbeats 2000000 in
set_option maxRecDepth 100000 in
theorem lifted (os : Os) (started : os.Started) (H : Type) (enc : TypeId × Value → H) :
  ReturnsInHanded {} Try.checked os 6 .any (Rows.modelWalksSpec.pre6 enc Try.prog Try.f6 Rows.modelWalksRow.domain false) (Rows.modelWalksSpec.post enc Try.prog Try.f6 false true false false) := by
 refine returnsInHanded_of_change_sized (C := Try.checked) own started (by kernel_rfl) Try.func6
  (ChangeSpec.witness6 (enc := enc) (C := Try.checked) false ⟨#[], #[.agg #[.int .i64 0, .int .i64 0, .int .i64 0, .int .i64 0, .int .i64 0, .int .i64 0, .int .i64 0, .int .i64 0, .int .i64 0], .slice none 0 0, .agg #[.string ByteArray.empty, .string ByteArray.empty]], []⟩ 8 (by kernel_rfl) (by kernel_rfl) (by kernel_rfl) (by kernel_rfl)) ?_
 intro W base args ds gs before hval0 hW hcnd hsz0 _
 have hsz : (DataW.weightsEach Try.prog (Try.f6.params.toList ++ Rows.modelWalksSpec.plain.varTypes Try.prog) (ds ++ gs)).all (· ≤ reachBytes) = true := hsz0
 have hval : ∀ (j : Nat) t v, Try.f6.params[j]? = some t → args[j]? = some v → Value.okWide Try.prog W .any base t v := hval0
 have hW' := hW
 obtain ⟨p, q, hA0, hV, rfl, hfz, hnd⟩ := hW
 have hA : DataW.TrodAll enc Try.prog W 0 (fun _ => true) true Try.f6.params.toList args.toList ds p := hA0
 rw [Try.params6] at hA hval hsz
 obtain ⟨v0, vs0, d0, ds0, p0, q0, hargs, rfl, rfl, h0, r0⟩ := trodAll_cons hA
 obtain ⟨v1, vs1, d1, ds1, p1, q1, rfl, rfl, rfl, h1, r1⟩ := trodAll_cons r0
 obtain ⟨v2, vs2, d2, ds2, p2, q2, rfl, rfl, rfl, h2, r2⟩ := trodAll_cons r1
 obtain ⟨rfl, rfl, rfl⟩ := trodAll_nil r2
 obtain rfl : args = #[v0, v1, v2] := by cases args; simp_all
 obtain ⟨rfl, rfl⟩ := trodVars_none hV
 have k0 := h0
 have lt0 : ∀ x ∈ p0, x.block < W.heap.size := by obtain ⟨m, hm⟩ := k0; exact DataW.trod_lt m _ _ _ hm
 have ww0 : ∀ n ∈ d0.weights Try.prog 47, n ≤ reachBytes := fun n hn => by simpa using List.all_eq_true.1 hsz n (DataW.weights_mem_each (j := 0) rfl rfl n hn)
 obtain ⟨cs0, rfl, _⟩ := okWide_struct Try.underlying47 (hval 0 47 v0 rfl rfl)
 obtain ⟨fu0, hf0⟩ := h0
 obtain ⟨x0, kx0, w0⟩ := o47.down hf0 ww0
 have e0 := k47_open kx0
 obtain rfl : cs0 = #[.int .i64 x0.f0, .int .i64 x0.f1, .int .i64 x0.f2, .int .i64 x0.f3, .int .i64 x0.f4, .int .i64 x0.f5, .int .i64 x0.f6, .int .i64 x0.f7, .int .i64 x0.f8] := Array.toList_inj.1 (show cs0.toList = (#[.int .i64 x0.f0, .int .i64 x0.f1, .int .i64 x0.f2, .int .i64 x0.f3, .int .i64 x0.f4, .int .i64 x0.f5, .int .i64 x0.f6, .int .i64 x0.f7, .int .i64 x0.f8] : Array Value).toList from e0)
 have k1 := h1
 have lt1 : ∀ x ∈ p1, x.block < W.heap.size := by obtain ⟨m, hm⟩ := k1; exact DataW.trod_lt m _ _ _ hm
 have ww1 : ∀ n ∈ d1.weights Try.prog 48, n ≤ reachBytes := fun n hn => by simpa using List.all_eq_true.1 hsz n (DataW.weights_mem_each (j := 1) rfl rfl n hn)
 obtain ⟨ad1, len1, cap1, rfl⟩ := okWide_slice Try.underlying48 (hval 1 48 v1 rfl rfl)
 obtain ⟨fu1, hf1⟩ := h1
 obtain ⟨x1, kx1, w1⟩ := o48.down hf1 ww1
 obtain ⟨A1, c1, e1, hc1, hr1⟩ := kx1
 obtain ⟨rfl, rfl, rfl⟩ : ad1 = A1 ∧ len1 = x1.length ∧ cap1 = c1 := by simpa [Value.cells] using e1
 have k2 := h2
 have lt2 : ∀ x ∈ p2, x.block < W.heap.size := by obtain ⟨m, hm⟩ := k2; exact DataW.trod_lt m _ _ _ hm
 have ww2 : ∀ n ∈ d2.weights Try.prog 29, n ≤ reachBytes := fun n hn => by simpa using List.all_eq_true.1 hsz n (DataW.weights_mem_each (j := 2) rfl rfl n hn)
 obtain ⟨cs2, rfl, _⟩ := okWide_struct Try.underlying29 (hval 2 29 v2 rfl rfl)
 obtain ⟨fu2, hf2⟩ := h2
 obtain ⟨x2, kx2, w2⟩ := o29.down hf2 ww2
 have e2 := k29_open kx2
 obtain rfl : cs2 = #[.string x2.f0, .string x2.f1] := Array.toList_inj.1 (show cs2.toList = (#[.string x2.f0, .string x2.f1] : Array Value).toList from e2)
 clear hA0 hval0 hsz0 hsz
 obtain ⟨k_, hp⟩ := Pure.ModelWalks x0 x1 x2 w0 w1 w2
 refine (catchmentlaw28_ModelWalks.calls (k := k_) (r := true) (w := W) (hr1 := hr1) (hc1 := hc1) (h := hp)).mono fun e W' ⟨he, bel0⟩ => ?_
 have bel : Below W.heap.size W W' := bel0
 subst he
 exact ⟨_, rfl, _, _, _, [], _, [], hW', trodAll_mk1 (shut_bool Try.underlying4 _), (trodAll_cons_mk (Below.trod laidOut (by kernel_rfl) (of_decide_eq_true (by kernel_rfl)) k0 bel lt0) (trodAll_cons_mk (Below.trod laidOut (by kernel_rfl) (of_decide_eq_true (by kernel_rfl)) k1 bel lt1) (trodAll_cons_mk (Below.trod laidOut (by kernel_rfl) (of_decide_eq_true (by kernel_rfl)) k2 bel lt2) trodAll_mk0))), rfl, bel.frame _, fun h => by cases h⟩
theorem over : Rows.modelWalksRow.holds Try.pinned (OpenSpec.ofChange Rows.modelWalksSpec) :=
 OpenClaim.holds_of_wide 6 Try.f6 rfl rfl rfl rfl rfl rfl rfl ⟨rfl, rfl, rfl, rfl, rfl⟩ rfl rfl rfl rfl rfl (by kernel_rfl) Try.func6 (by kernel_rfl)
  (of_decide_eq_true (by kernel_rfl)) (by unfold Func.isWrapper; first | (rw [if_pos (by decide +kernel)]; kernel_rfl) | (rw [if_neg (by decide +kernel)]; exact ⟨rfl, rfl⟩))
  (fun os started H enc _ => lifted os started H enc)
end Go.Proofs.Ytljnlnbopohghaa.modelWalks
namespace Go.Proofs.Ytljnlnbopohghaa
theorem modelWalks_holds : Rows.ModelWalksSaid := modelWalks.over
#print axioms modelWalks_holds
end Go.Proofs.Ytljnlnbopohghaa
end
