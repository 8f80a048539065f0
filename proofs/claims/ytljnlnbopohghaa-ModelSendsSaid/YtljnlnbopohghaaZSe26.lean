/- THE ROW of ModelSends: for every input the call returns true, and each argument reads afterwards as it read before: no condition beyond the row's own. Out of the walk (its contract over the Lean function of the same text) and the plain law (module YtljnlnbopohghaaPureModelSends). (Laid by rowgen.py.) -/
/- Texts of one claim (laid by shake.py). -/
import Derived.Test.YtljnlnbopohghaaZSe1
import Derived.Deep.Slices
import Derived.ChangeArms
import Derived.SizedLaws
import Derived.OpenShut
import Derived.Test.YtljnlnbopohghaaZSe4
import Derived.Test.YtljnlnbopohghaaZSe24
import Derived.Test.YtljnlnbopohghaaZSe9
import Derived.Test.YtljnlnbopohghaaZSe12
import Derived.Test.YtljnlnbopohghaaZSe10
import Derived.Test.YtljnlnbopohghaaZSe25
import Derived.Test.YtljnlnbopohghaaZSe5
import Derived.Test.YtljnlnbopohghaaZSe7
import Derived.Test.YtljnlnbopohghaaRows
import Derived.WalkKit
import Derived.ProofKit
import Derived.ShutString
import Derived.ChangeOld
import Derived.Below
set_option linter.unusedVariables false
set_option linter.unusedSimpArgs false
section
namespace Go.Proofs.Ytljnlnbopohghaa.Rd
open Go.RowKit Go.ChangeShapes Go.WideShapes Go.Deep Go.Proofs.YtljnlnbopohghaaW.PrintWords
structure Opens {α : Type} (P : Program) (t : TypeId) (d : Kd α) (wf : α → Prop) : Prop where
 cells : P.cellsOf t = d.sz
 down : ∀ {H : Type} {enc : TypeId × Value → H} {w : World} {base : Nat} {spare : Nat → Bool} {held : Bool} {fuel : Nat} {cs : List Value} {x : DataW H × List MemPlace},
  DataW.trod enc P w base spare held fuel t cs = some x → (∀ n ∈ x.1.weights P t, n ≤ reachBytes) → ∃ a, d.K w a cs ∧ wf a
theorem mem_weightsAll {H : Type} {P : Program} {e : TypeId} {d : DataW H} : ∀ {l : List (DataW H)}, d ∈ l → ∀ n ∈ d.weights P e, n ∈ DataW.weightsAll P e l
 | x :: l, hd, n, hn => by
  simp only [DataW.weightsAll, List.mem_append]
  rcases List.mem_cons.1 hd with rfl | hd
  ·exact .inl hn
  exact .inr (mem_weightsAll hd n hn)
theorem Opens.int {P : Program} {t : TypeId} {k : IntKind} (ht : P.underlying t = some (.int k)) (hc : P.cellsOf t = 1) : Opens P t (Kd.int k) (fun n => (Lit.int k n).wf = true) where
 cells := hc
 down := by
  intro H enc w base spare held fuel cs x h _
  obtain ⟨n, rfl, _, hw⟩ := DataW.trod_int ht h
  exact ⟨n, rfl, hw⟩
theorem Opens.bool {P : Program} {t : TypeId} (ht : P.underlying t = some .bool) (hc : P.cellsOf t = 1) : Opens P t Kd.bool (fun _ => True) where
 cells := hc
 down := by
  intro H enc w base spare held fuel cs x h _
  obtain ⟨b, rfl, _⟩ := DataW.trod_bool ht h
  exact ⟨b, rfl, trivial⟩
theorem Opens.string {P : Program} {t : TypeId} (ht : P.underlying t = some .string) (hc : P.cellsOf t = 1) : Opens P t Kd.string (fun s => s.size ≤ 140737488351232) where
 cells := hc
 down := by
  intro H enc w base spare held fuel cs x h hw
  obtain ⟨s, rfl, rfl, _⟩ := DataW.trod_string ht h
  refine ⟨s, rfl, ?_⟩
  have := hw s.data.toList.length (by simp [DataW.weights])
  have e : s.data.toList.length = s.size := by simp
  rw [e] at this
  exact this
theorem Opens.slice {α : Type} {P : Program} {t e : TypeId} {d : Kd α} {wf : α → Prop} (ht : P.underlying t = some (.slice e)) (hc : P.cellsOf t = 1) {B : Nat} (hB : P.bytesOf e = B) (he : Opens P e d wf) :
  Opens P t (Kd.slice e d) (fun l => l.length * B ≤ 140737488351232 ∧ ∀ a ∈ l, wf a) where
 cells := hc
 down := by
  intro H enc w base spare held fuel cs x h hw
  rcases open_slice ht h with ⟨rfl, _⟩ | ⟨a, len, cap, m, n, D, Pl, rfl, hb, hl, hm, hmm, rfl, hx⟩
  ·exact ⟨[], ⟨none, 0, rfl, Nat.le_refl _, rfl, by simp, fun h0 => absurd h0 (by simp)⟩, by simp, fun a ha => by simp at ha⟩
  have hlm : len ≤ m := by rw [hmm]; split <;> omega
  have hel : ∀ i : Fin len, ∃ y : α, ∃ c : List Value, w.cells? base (a.add (i.1 * P.cellsOf e)) (P.cellsOf e) = some c ∧ d.K w y c ∧ wf y := by
   intro i
   obtain ⟨c, h1, h2⟩ := hx i.1 (by omega)
   obtain ⟨y, hy, hwf⟩ := he.down h2 (fun n hn => hw n (by
    simp only [DataW.weights, ht, List.mem_cons, List.mem_append]
    exact .inr (.inl (mem_weightsAll (List.mem_map.2 ⟨i.1, List.mem_range.2 i.2, rfl⟩) n hn))))
   exact ⟨y, c, h1, hy, hwf⟩
  obtain ⟨f, hf⟩ := Classical.axiomOfChoice hel
  have hlen : (List.ofFn f).length = len := by simp
  have hmax : len ≤ 9223372036854775807 := by simp only [maxLen] at hm; omega
  refine ⟨List.ofFn f, ⟨some a, cap, ?_, ?_, ?_, ?_, ?_⟩, ?_, ?_⟩
  ·rw [hlen]
  ·rw [hlen]; exact hl
  ·rfl
  ·rw [hlen]; exact hmax
  ·intro _
   refine ⟨a, rfl, fun j p hj => ?_⟩
   obtain ⟨hjl, rfl⟩ := List.getElem?_eq_some_iff.1 hj
   rw [hlen] at hjl
   obtain ⟨c, h1, hy, _⟩ := hf ⟨j, hjl⟩
   obtain ⟨_, hcl, hcell⟩ := World.cells?_some h1
   refine ⟨c, by rw [hcl, he.cells], by simpa using hy, fun i u hu => ?_⟩
   have hi : i < P.cellsOf e := by
    have := (List.getElem?_eq_some_iff.1 hu).1
    omega
   have := hcell i hi
   rw [Go.Deep.add_add] at this
   rw [← he.cells, this, hu]
  ·rw [hlen]
   have hz := hw (((List.range len).map D).length + ((List.range (m - len)).map fun j => D (len + j)).length |>.mul (P.bytesOf e)) (by
    simp only [DataW.weights, ht, List.mem_cons]
    exact .inl rfl)
   rw [hB] at hz
   simp only [List.length_map, List.length_range] at hz
   have h2 : len * B ≤ (len + (m - len)) * B := Nat.mul_le_mul_right _ (by omega)
   exact Nat.le_trans h2 hz
  intro y hy
  obtain ⟨i, rfl⟩ := List.mem_ofFn.1 hy
  obtain ⟨_, _, _, hwf⟩ := hf i
  exact hwf
theorem Opens.iso {α β : Type} {P : Program} {t : TypeId} {d : Kd α} {wf : α → Prop} {f : β → α} (g : α → β) (hg : ∀ a, f (g a) = a) (h : Opens P t d wf) : Opens P t (Kd.iso d f) (fun b => wf (f b)) where
 cells := h.cells
 down := by
  intro H enc w base spare held fuel cs x hx hw
  obtain ⟨a, hk, hwf⟩ := h.down hx hw
  refine ⟨g a, ?_, ?_⟩
  ·show d.K w (f (g a)) cs
   rw [hg]; exact hk
  show wf (f (g a))
  rw [hg]; exact hwf
structure OpensFs {α : Type} (P : Program) (fs : List Field) (off : Nat) (d : Kd α) (wf : α → Prop) : Prop where
 down : ∀ {H : Type} {enc : TypeId × Value → H} {w : World} {base : Nat} {spare : Nat → Bool} {held : Bool} {fuel : Nat} {cs : List Value} {xs : List (DataW H × List MemPlace)},
  cs.length = d.sz → xs.length = fs.length → (∀ (i : Nat) (f : Field), fs[i]? = some f → DataW.trod enc P w base spare held fuel f.type ((cs.drop (f.offset - off)).take (P.cellsOf f.type)) = xs[i]?) →
  (∀ n ∈ DataW.weightsEach P (fs.map (·.type)) (xs.map (·.1)), n ≤ reachBytes) → ∃ a, d.K w a cs ∧ wf a
 offs : ∀ f ∈ fs, off ≤ f.offset
theorem OpensFs.one {α : Type} {P : Program} {f : Field} {off : Nat} {d : Kd α} {wf : α → Prop} (ho : f.offset = off) (h : Opens P f.type d wf) : OpensFs P [f] off d wf where
 offs := by simp [ho]
 down := by
  intro H enc w base spare held fuel cs xs hl hxs hx hw
  have h0 := hx 0 f rfl
  obtain ⟨x, rfl⟩ : ∃ x, xs = [x] := by
   match xs, hxs with
   | [x], _ => exact ⟨x, rfl⟩
  rw [ho, Nat.sub_self, List.drop_zero, h.cells, ← hl, List.take_length] at h0
  exact h.down h0 (fun n hn => hw n (by simp [DataW.weightsEach, hn]))
theorem OpensFs.cons {α β : Type} {P : Program} {f : Field} {fs : List Field} {off off2 : Nat} {d : Kd α} {d2 : Kd β} {wf : α → Prop} {wf2 : β → Prop} (ho : f.offset = off) (h : Opens P f.type d wf) (ho2 : off2 = off + d.sz)
  (h2 : OpensFs P fs off2 d2 wf2) : OpensFs P (f :: fs) off (Kd.pair d d2) (fun p => wf p.1 ∧ wf2 p.2) where
 offs := by
  intro g hg
  rcases List.mem_cons.1 hg with rfl | hg
  ·omega
  ·have := h2.offs g hg; omega
 down := by
  intro H enc w base spare held fuel cs xs hl hxs hx hw
  obtain ⟨x, ys, rfl⟩ : ∃ x ys, xs = x :: ys := by
   match xs, hxs with
   | x :: ys, _ => exact ⟨x, ys, rfl⟩
  have hl' : cs.length = d.sz + d2.sz := hl
  have h0 := hx 0 f rfl
  rw [ho, Nat.sub_self, List.drop_zero, h.cells] at h0
  obtain ⟨a, ha, hwa⟩ := h.down h0 (fun n hn => hw n (by simp [DataW.weightsEach, hn]))
  obtain ⟨b, hb, hwb⟩ := h2.down (cs := cs.drop d.sz) (xs := ys) (by rw [List.length_drop, hl']; omega) (by simpa using hxs) (fun i g hg => by
   have h1 := hx (i + 1) g (by simpa using hg)
   have hgo := h2.offs g (List.mem_of_getElem? hg)
   rw [List.drop_drop]
   have e : d.sz + (g.offset - off2) = g.offset - off := by omega
   rw [e]
   simpa using h1) (fun n hn => hw n (by simp [DataW.weightsEach, hn]))
  exact ⟨(a, b), ⟨cs.take d.sz, cs.drop d.sz, (List.take_append_drop _ _).symm, ha, hb⟩, hwa, hwb⟩
theorem Opens.struct {α : Type} {P : Program} {t : TypeId} {fs : Array Field} {d : Kd α} {wf : α → Prop} (ht : P.underlying t = some (.struct fs)) (hc : P.cellsOf t = d.sz) (h : OpensFs P fs.toList 0 d wf) : Opens P t d wf where
 cells := hc
 down := by
  intro H enc w base spare held fuel cs x hx hw
  obtain ⟨xs, n, rfl, rfl, hl, hxs, hf⟩ := DataW.trod_struct ht hx
  refine h.down (enc := enc) (w := w) (base := base) (spare := spare) (held := held) (fuel := n) (cs := cs) (xs := xs) (by rw [hl, hc]) (by simpa using hxs) (fun i f hi => ?_) (fun n hn => hw n (by simpa [DataW.weights, ht] using hn))
  rw [Nat.sub_zero]
  exact hf i f (by simpa using hi)
end Go.Proofs.Ytljnlnbopohghaa.Rd
end
section
namespace Go.Proofs.Ytljnlnbopohghaa.P
open Go.RowKit Go.Proofs.Ytljnlnbopohghaa.Rd Go.Proofs.YtljnlnbopohghaaW.PrintWords
structure S47 where
 f0 : Int
 f1 : Int
 f2 : Int
 f3 : Int
 f4 : Int
 f5 : Int
 f6 : Int
 f7 : Int
 f8 : Int
def k47 : Kd S47 := Kd.iso (Kd.pair (Kd.int .i64) (Kd.pair (Kd.int .i64) (Kd.pair (Kd.int .i64) (Kd.pair (Kd.int .i64) (Kd.pair (Kd.int .i64) (Kd.pair (Kd.int .i64) (Kd.pair (Kd.int .i64) (Kd.pair (Kd.int .i64) (Kd.int .i64))))))))) (fun x : S47 => (x.f0, x.f1, x.f2, x.f3, x.f4, x.f5, x.f6, x.f7, x.f8))
theorem k47_open {w : World} {x : S47} {cs : List Value} (h : k47.K w x cs) : cs = [.int .i64 x.f0, .int .i64 x.f1, .int .i64 x.f2, .int .i64 x.f3, .int .i64 x.f4, .int .i64 x.f5, .int .i64 x.f6, .int .i64 x.f7, .int .i64 x.f8] := by
 obtain ⟨_, _, rfl, rfl, ⟨_, _, rfl, rfl, ⟨_, _, rfl, rfl, ⟨_, _, rfl, rfl, ⟨_, _, rfl, rfl, ⟨_, _, rfl, rfl, ⟨_, _, rfl, rfl, ⟨_, _, rfl, rfl, rfl⟩⟩⟩⟩⟩⟩⟩⟩ := h
 exact rfl
structure S56 where
 f0 : Int
 f1 : ByteArray
 f2 : ByteArray
 f3 : Int
 f4 : (List S117)
def z56 : S56 := ⟨(0 : Int), (⟨#[]⟩ : ByteArray), (⟨#[]⟩ : ByteArray), (0 : Int), ([] : List S117)⟩
def k56 : Kd S56 := Kd.iso (Kd.pair (Kd.int .u8) (Kd.pair Kd.string (Kd.pair Kd.string (Kd.pair (Kd.int .i64) (Kd.slice 117 k117))))) (fun x : S56 => (x.f0, x.f1, x.f2, x.f3, x.f4))
theorem k56_open {w : World} {x : S56} {cs : List Value} (h : k56.K w x cs) : ∃ A4 c4, cs = [.int .u8 x.f0, .string x.f1, .string x.f2, .int .i64 x.f3, .slice A4 x.f4.length c4] ∧ x.f4.length ≤ c4 ∧ k117.C w A4 x.f4.length x.f4 := by
 obtain ⟨_, _, rfl, rfl, ⟨_, _, rfl, rfl, ⟨_, _, rfl, rfl, ⟨_, _, rfl, rfl, ⟨A4, c4, rfl, l4, g4⟩⟩⟩⟩⟩ := h
 exact ⟨A4, c4, rfl, l4, g4⟩
structure S81 where
 f0 : Int
 f1 : S56
def z81 : S81 := ⟨(0 : Int), z56⟩
def k81 : Kd S81 := Kd.iso (Kd.pair (Kd.int .i64) k56) (fun x : S81 => (x.f0, x.f1))
theorem k81_open {w : World} {x : S81} {cs : List Value} (h : k81.K w x cs) : ∃ A5 c5, cs = [.int .i64 x.f0, .int .u8 x.f1.f0, .string x.f1.f1, .string x.f1.f2, .int .i64 x.f1.f3, .slice A5 x.f1.f4.length c5] ∧ x.f1.f4.length ≤ c5 ∧ k117.C w A5 x.f1.f4.length x.f1.f4 := by
 obtain ⟨_, _, rfl, rfl, s1⟩ := h
 obtain ⟨A5, c5, rfl, l5, g5⟩ := k56_open s1
 exact ⟨A5, c5, rfl, l5, g5⟩
theorem o3 : Opens Try.prog 3 (Kd.int .i64) (fun n => (Lit.int .i64 n).wf = true) := Opens.int Try.underlying3 (by kernel_rfl)
def wf47 (x : S47) : Prop := ((Lit.int .i64 x.f0).wf = true) ∧ ((Lit.int .i64 x.f1).wf = true) ∧ ((Lit.int .i64 x.f2).wf = true) ∧ ((Lit.int .i64 x.f3).wf = true) ∧ ((Lit.int .i64 x.f4).wf = true) ∧ ((Lit.int .i64 x.f5).wf = true) ∧ ((Lit.int .i64 x.f6).wf = true) ∧ ((Lit.int .i64 x.f7).wf = true) ∧ ((Lit.int .i64 x.f8).wf = true)
theorem o47 : Opens Try.prog 47 k47 wf47 := Opens.iso (g := fun p_ => (⟨p_.1, p_.2.1, p_.2.2.1, p_.2.2.2.1, p_.2.2.2.2.1, p_.2.2.2.2.2.1, p_.2.2.2.2.2.2.1, p_.2.2.2.2.2.2.2.1, p_.2.2.2.2.2.2.2.2⟩ : S47)) (fun _ => rfl) (Opens.struct Try.underlying47 (by kernel_rfl) (OpensFs.cons rfl o3 rfl (OpensFs.cons rfl o3 rfl (OpensFs.cons rfl o3 rfl (OpensFs.cons rfl o3 rfl (OpensFs.cons rfl o3 rfl (OpensFs.cons rfl o3 rfl (OpensFs.cons rfl o3 rfl (OpensFs.cons rfl o3 rfl (OpensFs.one rfl o3))))))))))
theorem o54 : Opens Try.prog 54 (Kd.int .u8) (fun n => (Lit.int .u8 n).wf = true) := Opens.int Try.underlying54 (by kernel_rfl)
theorem o9 : Opens Try.prog 9 Kd.string (fun x_ => x_.size ≤ 140737488351232) := Opens.string Try.underlying9 (by kernel_rfl)
theorem o114 : Opens Try.prog 114 (Kd.int .u8) (fun n => (Lit.int .u8 n).wf = true) := Opens.int Try.underlying114 (by kernel_rfl)
theorem o115 : Opens Try.prog 115 (Kd.int .u64) (fun n => (Lit.int .u64 n).wf = true) := Opens.int Try.underlying115 (by kernel_rfl)
def wf117 (x : S117) : Prop := ((Lit.int .u8 x.f0).wf = true) ∧ ((Lit.int .i64 x.f1).wf = true) ∧ (x.f2.size ≤ 140737488351232) ∧ (x.f3.size ≤ 140737488351232) ∧ (x.f4.size ≤ 140737488351232) ∧ ((Lit.int .u64 x.f5).wf = true)
theorem o117 : Opens Try.prog 117 k117 wf117 := Opens.iso (g := fun p_ => (⟨p_.1, p_.2.1, p_.2.2.1, p_.2.2.2.1, p_.2.2.2.2.1, p_.2.2.2.2.2⟩ : S117)) (fun _ => rfl) (Opens.struct Try.underlying117 (by kernel_rfl) (OpensFs.cons rfl o114 rfl (OpensFs.cons rfl o3 rfl (OpensFs.cons rfl o9 rfl (OpensFs.cons rfl o9 rfl (OpensFs.cons rfl o9 rfl (OpensFs.one rfl o115)))))))
theorem o49 : Opens Try.prog 49 (Kd.slice 117 k117) (fun x_ => x_.length * 72 ≤ 140737488351232 ∧ ∀ a_ ∈ x_, wf117 a_) := Opens.slice Try.underlying49 (by kernel_rfl) (by kernel_rfl) o117
def wf56 (x : S56) : Prop := ((Lit.int .u8 x.f0).wf = true) ∧ (x.f1.size ≤ 140737488351232) ∧ (x.f2.size ≤ 140737488351232) ∧ ((Lit.int .i64 x.f3).wf = true) ∧ (x.f4.length * 72 ≤ 140737488351232 ∧ ∀ a_ ∈ x.f4, wf117 a_)
theorem o56 : Opens Try.prog 56 k56 wf56 := Opens.iso (g := fun p_ => (⟨p_.1, p_.2.1, p_.2.2.1, p_.2.2.2.1, p_.2.2.2.2⟩ : S56)) (fun _ => rfl) (Opens.struct Try.underlying56 (by kernel_rfl) (OpensFs.cons rfl o54 rfl (OpensFs.cons rfl o9 rfl (OpensFs.cons rfl o9 rfl (OpensFs.cons rfl o3 rfl (OpensFs.one rfl o49))))))
def wf81 (x : S81) : Prop := ((Lit.int .i64 x.f0).wf = true) ∧ (wf56 x.f1)
theorem o81 : Opens Try.prog 81 k81 wf81 := Opens.iso (g := fun p_ => (⟨p_.1, p_.2⟩ : S81)) (fun _ => rfl) (Opens.struct Try.underlying81 (by kernel_rfl) (OpensFs.cons rfl o3 rfl (OpensFs.one rfl o56)))
theorem o48 : Opens Try.prog 48 (Kd.slice 81 k81) (fun x_ => x_.length * 80 ≤ 140737488351232 ∧ ∀ a_ ∈ x_, wf81 a_) := Opens.slice Try.underlying48 (by kernel_rfl) (by kernel_rfl) o81
theorem o4 : Opens Try.prog 4 Kd.bool (fun _ => True) := Opens.bool Try.underlying4 (by kernel_rfl)
end Go.Proofs.Ytljnlnbopohghaa.P
end
section
namespace Go.Proofs.Ytljnlnbopohghaa.Mdl
open Go.RowKit Go.Shelf Go.Proofs.YtljnlnbopohghaaW.PrintWords Go.Proofs.YtljnlnbopohghaaW.PrintLast Go.Proofs.YtljnlnbopohghaaW.PrintMore Go.Proofs.Ytljnlnbopohghaa.Own Go.Proofs.Ytljnlnbopohghaa.Ord Go.Proofs.Ytljnlnbopohghaa Go.Proofs.Ytljnlnbopohghaa.P
set_option maxHeartbeats 2000000
set_option maxRecDepth 100000
abbrev Dd28 := P.S81
abbrev oqD (x : Dd28) : Oq := ⟨x.f1.f0, x.f1.f1, x.f1.f2, x.f1.f3, x.f1.f4⟩
def Dc (ad : Addr) (x : Dd28) (A : Option Addr) (c : Nat) (w : World) : Prop := w.cell? ad = some (.int .i64 x.f0) ∧ w.cell? ⟨ad.block, ad.off + 1, none⟩ = some (.int .u8 x.f1.f0) ∧ w.cell? ⟨ad.block, ad.off + 1 + 1, none⟩ = some (.string x.f1.f1) ∧ w.cell? ⟨ad.block, ad.off + 1 + 2, none⟩ = some (.string x.f1.f2) ∧ w.cell? ⟨ad.block, ad.off + 1 + 3, none⟩ = some (.int .i64 x.f1.f3) ∧ w.cell? ⟨ad.block, ad.off + 1 + 4, none⟩ = some (.slice A x.f1.f4.length c)
theorem Dc.below {ad : Addr} {x : Dd28} {A : Option Addr} {c : Nat} {w w' : World} (h : Dc ad x A c w) (hb : Below w.heap.size w w') : Dc ad x A c w' :=
 ⟨cellB h.1 hb, cellB h.2.1 hb, cellB h.2.2.1 hb, cellB h.2.2.2.1 hb, cellB h.2.2.2.2.1 hb, cellB h.2.2.2.2.2 hb⟩
theorem at_D {w : World} {A : Option Addr} {n : Nat} {xs : List Dd28} (h : Kd.C P.k81 w A n xs) (i : Int) (h0 : 0 ≤ i) (h1 : i < n) : ∃ ad, ∃ x : Dd28, ∃ A5 c5, A = some ad ∧ xs[i.toNat]? = some x ∧ Dc (ad.add (i.toNat * 6)) x A5 c5 w ∧ x.f1.f4.length ≤ c5 ∧ Kd.C P.k117 w A5 x.f1.f4.length x.f1.f4 := by
 obtain ⟨ad, c, e, _, hK, hc0⟩ := Kd.C_get h P.z81 i h0 h1
 have hc : ∀ j u, c[j]? = some u → w.cell? (ad.add (i.toNat * 6 + j)) = some u := hc0
 obtain ⟨A5, c5, rfl, q, r⟩ := P.k81_open hK
 have hl := h.1
 refine ⟨ad, _, A5, c5, e, ?_, ⟨hc 0 _ rfl, by rw [← add_field _ _ 1 (by omega)]; exact hc 1 _ rfl, by rw [Nat.add_assoc, ← add_field _ _ (1 + 1) (by omega)]; exact hc 2 _ rfl, by rw [Nat.add_assoc, ← add_field _ _ (1 + 2) (by omega)]; exact hc 3 _ rfl, by rw [Nat.add_assoc, ← add_field _ _ (1 + 3) (by omega)]; exact hc 4 _ rfl, by rw [Nat.add_assoc, ← add_field _ _ (1 + 4) (by omega)]; exact hc 5 _ rfl⟩, q, r⟩
 rw [List.getD_eq_getElem?_getD, List.getElem?_eq_getElem (by omega)]
 rfl
def Bo (w0 : World) (m x : Nat) (c : Cf) (n : Int) (s : St) (i : Nat) (w : World) : Prop := ∃ G Z tb, Mw G w m c n s.s s.L s.T (2 * i) ∧ Rx Z w x tb c n s.s (s.L.map toE) (rowsOf n s.T) ∧ Inv n s i ∧ G x = 0 ∧ G tb = 0 ∧ (∀ k, Z k → G k = 0) ∧ (∀ k, k < w0.heap.size → G k = 0) ∧ w0.heap.size ≤ x ∧ w0.heap.size ≤ tb ∧ Below w0.heap.size w0 w
theorem Bo.below {w0 w w' : World} {m x : Nat} {c : Cf} {n : Int} {s : St} {i : Nat} (h : Bo w0 m x c n s i w) (hb : Below w.heap.size w w') : Bo w0 m x c n s i w' := by
 obtain ⟨G, Z, tb, h1, h2, h3, h4, h5, h6, h7, h8, h9, h10⟩ := h
 exact ⟨G, Z, tb, h1.below hb, h2.below hb, h3, h4, h5, h6, h7, h8, h9, below_then h10 h10.size hb⟩
theorem Bo.up {w0 w : World} {m x : Nat} {c : Cf} {n : Int} {s : St} {i j : Nat} (h : Bo w0 m x c n s i w) (hj : i ≤ j) : Bo w0 m x c n s j w := by
 obtain ⟨G, Z, tb, h1, h2, h3, h4⟩ := h
 exact ⟨G, Z, tb, h1.mono (by omega), h2, h3.up hj, h4⟩
theorem Bo.old {w0 w : World} {m x : Nat} {c : Cf} {n : Int} {s : St} {i : Nat} (h : Bo w0 m x c n s i w) : Below w0.heap.size w0 w := by
 obtain ⟨G, Z, tb, h1, h2, h3, h4, h5, h6, h7, h8, h9, h10⟩ := h
 exact h10
theorem Bo.inv {w0 w : World} {m x : Nat} {c : Cf} {n : Int} {s : St} {i : Nat} (h : Bo w0 m x c n s i w) : Inv n s i := by
 obtain ⟨G, Z, tb, h1, h2, h3, h4⟩ := h
 exact h3
theorem wf_le {k : Int} (h : (Lit.int .i64 k).wf = true) : k ≤ 9223372036854775807 := by
 simp [Lit.wf, IntKind.min, IntKind.max, IntKind.signed, IntKind.bits] at h
 omega
theorem okd_of {x : Ms} (h : (Lit.int .u64 x.f5).wf = true) : okD x := by
 simp [Lit.wf, IntKind.min, IntKind.max, IntKind.signed, IntKind.bits] at h
 exact ⟨by omega, by omega⟩
def okM28 (x : Ms) : Bool := decide (x.f2.size ≤ 140737488351232) && (Lit.int .u64 x.f5).wf
def okd28 (d : Dd28) : Bool := (Lit.int .u8 d.f1.f0).wf && ((Lit.int .i64 d.f1.f3).wf && d.f1.f4.all okM28)
theorem okM28_out {l : List Ms} (h : l.all okM28 = true) : (∀ x ∈ l, x.f2.size ≤ 140737488351232) ∧ ∀ x ∈ l, okD x := by
 have a : ∀ x ∈ l, x.f2.size ≤ 140737488351232 ∧ okD x := fun x hx => by
  have := List.all_eq_true.1 h x hx
  unfold okM28 at this
  rw [Bool.and_eq_true, decide_eq_true_eq] at this
  exact ⟨this.1, okd_of this.2⟩
 exact ⟨fun x hx => (a x hx).1, fun x hx => (a x hx).2⟩
theorem okd28_out {d : Dd28} (h : okd28 d = true) : (Lit.int .u8 d.f1.f0).wf = true ∧ (Lit.int .i64 d.f1.f3).wf = true ∧ (∀ x ∈ d.f1.f4, x.f2.size ≤ 140737488351232) ∧ ∀ x ∈ d.f1.f4, okD x := by
 unfold okd28 at h
 rw [Bool.and_eq_true, Bool.and_eq_true] at h
 exact ⟨h.1, h.2.1, okM28_out h.2.2⟩
theorem okM28_wf {l : List Ms} (h : ∀ x ∈ l, P.wf117 x) : l.all okM28 = true :=
 List.all_eq_true.2 fun x hx => by
  unfold okM28
  rw [Bool.and_eq_true, decide_eq_true_eq]
  exact ⟨(h x hx).2.2.1, (h x hx).2.2.2.2.2⟩
theorem okd28_wf {d : Dd28} (h : P.wf81 d) : okd28 d = true := by
 unfold okd28
 rw [Bool.and_eq_true, Bool.and_eq_true]
 exact ⟨h.2.1, h.2.2.2.2.1, okM28_wf h.2.2.2.2.2.2⟩
theorem new_both {w0 w w2 : World} {m x tb : Nat} {c : Cf} {n : Int} {G : Nat → Nat} (hM : Mw G w m c n 0 [] (fun _ => []) 0) (hG : ∀ k, k < w0.heap.size → G k = 0) (hB : Below w0.heap.size w0 w) (hR : Rx (fun _ => False) w2 x tb c n 0 [] (List.replicate (n.toNat + 1) [])) (hx : w.heap.size ≤ x) (ht : w.heap.size ≤ tb) (hB2 : Below w.heap.size w w2) : Bo w0 m x c n ⟨0, [], fun _ => []⟩ 0 w2 := by
 have hs := hB.size
 refine ⟨G, fun _ => False, tb, hM.below hB2, ?_, Inv.zero n, g0 hM.1 _ hx, g0 hM.1 _ ht, fun k hk => hk.elim, hG, by omega, by omega, below_then hB hB.size hB2⟩
 have e : rowsOf n (⟨0, [], fun _ => []⟩ : St).T = List.replicate (n.toNat + 1) [] := rows_nil n
 rw [e]
 exact hR
def Rr (w : World) (r : Rp) (A : Option Addr) (cp : Nat) : Prop := r.l.length ≤ cp ∧ Kd.C P.k103 w A r.l.length r.l
theorem Inv.okd {n : Int} {s : St} {i : Nat} (h : Inv n s i) (hi : i ≤ 4000) (hn : n ≤ 64) (who : Int) (o : Oq) (h0 : 0 ≤ o.k) (h1 : o.k ≤ 255) (h2 : (Lit.int .i64 o.n).wf = true) (hb : o.b.length ≤ 20) (hk : ∀ x ∈ o.b, x.f2.size ≤ 140737488351232) : Okd n s who o (2 * i) :=
 ⟨by omega, h0, h1, h2, by omega, hk, h.s0, by have := h.s1; omega, by have := h.len; omega, h.key, by have := h.t who; omega, by omega⟩
def Bm (w0 : World) (m x : Nat) (c : Cf) (n : Int) (s s' : St) (i : Nat) (r : Rp) (A : Option Addr) (cp : Nat) (w : World) : Prop := ∃ G Z tb, Mw G w m c n s'.s s'.L s'.T (2 * (i + 1)) ∧ Rx Z w x tb c n s.s (s.L.map toE) (rowsOf n s.T) ∧ Inv n s i ∧ Inv n s' (i + 1) ∧ G x = 0 ∧ G tb = 0 ∧ (∀ k, Z k → G k = 0) ∧ (∀ k, k < w0.heap.size → G k = 0) ∧ w0.heap.size ≤ x ∧ w0.heap.size ≤ tb ∧ Below w0.heap.size w0 w ∧ ∃ Y : Nat → Prop, (∀ k, Y k → k ≠ x ∧ k ≠ tb ∧ k < w.heap.size) ∧ Kd.V P.k103 103 w 0 Y (.slice A r.l.length cp) r.l
theorem Bm.old {w0 w : World} {m x : Nat} {c : Cf} {n : Int} {s s' : St} {i : Nat} {r : Rp} {A : Option Addr} {cp : Nat} (h : Bm w0 m x c n s s' i r A cp w) : Below w0.heap.size w0 w := by
 obtain ⟨G, Z, tb, g1, g2, g3, g3', g4, g5, g6, g7, g8, g9, g10, _⟩ := h
 exact g10
theorem bo_do {w0 w : World} {m x : Nat} {c : Cf} {n : Int} {s : St} {i : Nat} (h : Bo w0 m x c n s i w) (hi : i ≤ 4000) (hn : n ≤ 64) (who : Int) (o : Oq) (h0 : 0 ≤ o.k) (h1 : o.k ≤ 255) (h2 : (Lit.int .i64 o.n).wf = true) (hb : o.b.length ≤ 20) (hk : ∀ x ∈ o.b, x.f2.size ≤ 140737488351232) {A : Option Addr} {cap : Nat} (hC : ∀ W, Below w0.heap.size w0 W → Kd.C P.k117 W A o.b.length o.b) (hcap : o.b.length ≤ cap) :
  Calls Try.prog 23 #[.pointer (some ⟨m, 0, none⟩), .int .i64 who, .agg #[.int .u8 o.k, .string o.y, .string o.t, .int .i64 o.n, .slice A o.b.length cap]] w fun e w' => ∃ B cp, e = .returned (repA (doV c n s who o).1 B cp) ∧ Bm w0 m x c n s (doV c n s who o).2 i (doV c n s who o).1 B cp w' := by
 obtain ⟨G, Z, tb, g1, g2, g3, g4, g5, g6, g7, g8, g9, g10⟩ := h
 refine (do_any g1 who o (g3.okd hi hn who o h0 h1 h2 hb hk) (A := A) (cap := cap) (fun W hW => hC W (below_of_frm g7 g10 hW)) hcap).mono ?_
 rintro e w' ⟨v, rfl, G', e1, e2, e3, B, cp, rfl, e4⟩
 obtain ⟨lx, lt⟩ := g2.ltx
 refine ⟨B, cp, rfl, G', Z, tb, e2, g2.frm e3 (fun k hk q => q (g6 k hk)) (fun q => q g4) (fun q => q g5), g3, g3.step c who o hb hk, (e1 x lx).trans g4, (e1 tb lt).trans g5, fun k hk => (e1 k (g2.lt k hk)).trans (g6 k hk), (belowF g7 g10 e1 e3).2, g8, g9, (belowF g7 g10 e1 e3).1, _, fun k hk => ?_, e4⟩
 exact ⟨by omega, by omega, hk.2.1⟩
theorem bm_do {w0 w : World} {m x : Nat} {c : Cf} {n : Int} {s : St} {i : Nat} {who : Int} {o : Oq} {B : Option Addr} {cp : Nat} (h : Bm w0 m x c n s (doV c n s who o).2 i (doV c n s who o).1 B cp w) (hi : i ≤ 4000) (h8 : 1 ≤ c.f8) (hn : n ≤ 64) (h1 : o.n ≤ 9223372036854775807) (hb : o.b.length ≤ 20) (hk : ∀ x ∈ o.b, x.f2.size ≤ 140737488351232) (hd : ∀ x ∈ o.b, okD x) {A : Option Addr} {cap : Nat} (hC : ∀ W, Below w0.heap.size w0 W → Kd.C P.k117 W A o.b.length o.b) (hcap : o.b.length ≤ cap) :
  Calls Try.prog 37 #[.pointer (some ⟨x, 0, none⟩), .int .i64 who, .agg #[.int .u8 o.k, .string o.y, .string o.t, .int .i64 o.n, .slice A o.b.length cap]] w fun e w' => ∃ B' cp', e = .returned (repA (doV c n s who o).1 B' cp') ∧ Bo w0 m x c n (doV c n s who o).2 (i + 1) w' ∧ Rr w' (doV c n s who o).1 B cp ∧ Rr w' (doV c n s who o).1 B' cp' := by
 obtain ⟨G, Z, tb, g1, g2, g3, g3', g4, g5, g6, g7, g8, g9, g10, Y, g11, g12⟩ := h
 refine (rd_any g2 g3 hi h8 (by omega) who o (hC w g10) hcap hb hk hd h1).mono ?_
 rintro e w' ⟨v, rfl, Z', e1, e2, e3, B', cp', rfl, e4⟩
 have f0 : It.FrM (fun k => G k = 0) w w' := e3.mono (fun k hk => .inl (by rcases hk with rfl | rfl; exact g4; exact g5))
 have fB : Below w0.heap.size w0 w' := ⟨e3.os.trans g10.os, e3.tape.trans g10.tape, e3.output.trans g10.output, Nat.le_trans g10.size e3.size, fun k hk => (e3.block k (Nat.lt_of_lt_of_le hk g10.size) (by omega)).trans (g10.block k hk)⟩
 refine ⟨B', cp', rfl, ⟨G, Z', tb, g1.frm f0, e2, g3', g4, g5, fun k hk => ?_, g7, g8, g9, fB⟩, ?_, ?_⟩
 ·rcases e1 k hk with q | q
  ·exact g6 k q
  exact g0 g1.1 k q
 ·obtain ⟨_, q, r⟩ := Kd.V_reads' (Kd.V_step g12 (w1 := w') (fun k hk hl => e3.block k hl (by have := g11 k hk; omega)))
  exact ⟨q, r⟩
 obtain ⟨_, q, r⟩ := Kd.V_reads' e4
 exact ⟨q, r⟩
abbrev okC (c : Cf) : Bool := Pm.sizesOk c.f0 c.f1 c.f2 c.f3 c.f4 c.f5 c.f6 c.f7 c.f8
theorem chk_m {c : Cf} (h : okC c = true) : room_Check.f c.f0 c.f1 c.f2 c.f3 c.f4 c.f5 c.f6 c.f7 c.f8 = some 0 := by
 rw [Pm.sizes_eq]
 have h : Pm.sizesOk c.f0 c.f1 c.f2 c.f3 c.f4 c.f5 c.f6 c.f7 c.f8 = true := h
 rw [h]; rfl
theorem chk_r {c : Cf} (h : okC c = true) : catchmentref21_Check.f 9 c.f0 c.f1 c.f2 c.f3 c.f4 c.f5 c.f6 c.f7 c.f8 = some 0 := by
 rw [show (9 : Nat) = 0 + 9 from rfl, Pm.ref_sizes]
 have h : Pm.sizesOk c.f0 c.f1 c.f2 c.f3 c.f4 c.f5 c.f6 c.f7 c.f8 = true := h
 rw [h]; rfl
theorem okC_chunk {c : Cf} (h : okC c = true) : 1 ≤ c.f8 := by
 have h : Pm.sizesOk c.f0 c.f1 c.f2 c.f3 c.f4 c.f5 c.f6 c.f7 c.f8 = true := h
 unfold Pm.sizesOk at h
 exact (of_decide_eq_true h).2.2.2.2.2.2.2.2.1
theorem chk_m2 {c : Cf} (h : ¬ okC c = true) : room_Check.f c.f0 c.f1 c.f2 c.f3 c.f4 c.f5 c.f6 c.f7 c.f8 = some 2 := by
 rw [Pm.sizes_eq]
 exact congrArg some (if_neg h)
theorem chk_r2 {c : Cf} (h : ¬ okC c = true) : catchmentref21_Check.f 9 c.f0 c.f1 c.f2 c.f3 c.f4 c.f5 c.f6 c.f7 c.f8 = some 2 := by
 rw [show (9 : Nat) = 0 + 9 from rfl, Pm.ref_sizes]
 exact congrArg some (if_neg h)
theorem chk_both (c : Cf) : ∃ r : Int, room_Check.f c.f0 c.f1 c.f2 c.f3 c.f4 c.f5 c.f6 c.f7 c.f8 = some r ∧ catchmentref21_Check.f 9 c.f0 c.f1 c.f2 c.f3 c.f4 c.f5 c.f6 c.f7 c.f8 = some r ∧ (¬ okC c = true → ¬ r = 0) := by
 by_cases h : okC c = true
 ·exact ⟨0, chk_m h, chk_r h, fun q => absurd h q⟩
 exact ⟨2, chk_m2 h, chk_r2 h, fun _ => by decide⟩
theorem Bm.below {w0 w w' : World} {m x : Nat} {c : Cf} {n : Int} {s s' : St} {i : Nat} {r : Rp} {A : Option Addr} {cp : Nat} (h : Bm w0 m x c n s s' i r A cp w) (hb : Below w.heap.size w w') : Bm w0 m x c n s s' i r A cp w' := by
 obtain ⟨G, Z, tb, g1, g2, g3, g3', g4, g5, g6, g7, g8, g9, g10, Y, g11, g12⟩ := h
 exact ⟨G, Z, tb, g1.below hb, g2.below hb, g3, g3', g4, g5, g6, g7, g8, g9, below_then g10 g10.size hb, Y, fun k hk => by have := g11 k hk; have := hb.size; omega, Kd.V_step g12 (fun k hk hl => hb.block k hl)⟩
theorem played_bad {w : World} {c : Cf} {A : Option Addr} {cap : Nat} {l : List Dd28} (h : ¬ okC c = true) :
  Calls Try.prog 20 #[aggC c, .slice A l.length cap] w fun e w' => e = .returned (.tuple #[.pointer none, .pointer none]) ∧ Below w.heap.size w w' := by
 have huc := Try.underlying47
 obtain ⟨r, hm, hr, hr0⟩ := chk_both c
 have hB0 : Below w.heap.size w (w.alloc (objC c)) := below_alloc (Below.refl _ _) _
 have h' : ¬ r = 0 ∨ (3 : Int) < 1 ∨ (3 : Int) > 64 := .inl (hr0 h)
 have NW := new_bad (w.alloc (objC c)) c 3 r hm h'
 have hbx := blk_new w (objC c)
 have hA0 := aK_ (And.intro hB0 (And.intro hr h'))
 clear hB0 hr hr0 h h' hm
 go_enter Try.func20, Try.ntmps20
 go_wp2_with (first
  | (go_at_call 34; refine NW.mono ?_; clear NW; rintro e w1 ⟨rfl, hB1⟩; have hbx1 := blk_below hbx hB1; have y0 := blk_cell hbx1 0; have y1 := blk_cell hbx1 1; have y2 := blk_cell hbx1 2; have y3 := blk_cell hbx1 3; have y4 := blk_cell hbx1 4; have y5 := blk_cell hbx1 5; have y6 := blk_cell hbx1 6; have y7 := blk_cell hbx1 7; have y8 := blk_cell hbx1 8; simp at y0 y1 y2 y3 y4 y5 y6 y7 y8; have RN := rnew_bad w1 c 3 9 r hA0.out.2.1 hA0.out.2.2; have hA1 := aK_ hB1; clear hB1 hbx hbx1)
  | (go_at_call 35; refine RN.mono ?_; clear RN; rintro e w2 ⟨rfl, hB2⟩; have hA2 := aK_ hB2; clear hB2 y0 y1 y2 y3 y4 y5 y6 y7 y8))
 go_ret2
 have b1 := below_then hA0.out.1 hA0.out.1.size hA1.out
 exact ⟨rfl, below_then b1 b1.size hA2.out⟩
theorem played_ok {w : World} {c : Cf} {A : Option Addr} {cap : Nat} {l : List Dd28} (hC : Kd.C P.k81 w A l.length l) (hcap : l.length ≤ cap) (hwf : ∀ d ∈ l, okd28 d = true) (hok : okC c = true) :
  Calls Try.prog 20 #[aggC c, .slice A l.length cap] w fun e w' => ∃ m x s i, e = .returned (.tuple #[.pointer (some ⟨m, 0, none⟩), .pointer (some ⟨x, 0, none⟩)]) ∧ i ≤ 50 ∧ Bo w m x c 3 s i w' := by
 have huc := Try.underlying47
 have hud := Try.underlying81
 have huo := Try.underlying56
 have hB0 : Below w.heap.size w (w.alloc (objC c)) := below_alloc (Below.refl _ _) _
 have NW := new_ok (w.alloc (objC c)) c 3 (chk_m hok) (by omega) (by omega)
 have hA0 := aK_ (And.intro hC (And.intro hwf hB0))
 have hbx := blk_new w (objC c)
 have h8 := okC_chunk hok
 clear hC hwf hB0
 go_enter Try.func20, Try.ntmps20
 go_wp2_with (first
  | (go_at_call 34; refine NW.mono ?_; clear NW; rintro e w1 ⟨m, G, rfl, hM1, hG1, hB1⟩; have hbx1 := blk_below hbx hB1; have y0 := blk_cell hbx1 0; have y1 := blk_cell hbx1 1; have y2 := blk_cell hbx1 2; have y3 := blk_cell hbx1 3; have y4 := blk_cell hbx1 4; have y5 := blk_cell hbx1 5; have y6 := blk_cell hbx1 6; have y7 := blk_cell hbx1 7; have y8 := blk_cell hbx1 8; simp at y0 y1 y2 y3 y4 y5 y6 y7 y8; have RN := rnew_ok w1 c 3 9 (chk_r hok) (by omega) (by omega); have hA1 := aK_ (And.intro hM1 (And.intro hG1 hB1)); clear hM1 hG1 hB1 hbx hbx1)
  | (go_at_call 35; refine RN.mono ?_; clear RN; rintro e w2 ⟨x, tb, rfl, hR2, hx2, ht2, hB2⟩; have hBo : Aside0 (Bo w m x c 3 ⟨0, [], fun _ => []⟩ 0 w2) := ⟨new_both hA1.out.1 (fun k hk => hA1.out.2.1 k (Nat.lt_of_lt_of_le hk hA0.out.2.2.size)) (below_then hA0.out.2.2 hA0.out.2.2.size hA1.out.2.2) hR2 hx2 ht2 hB2⟩; clear hR2 hx2 ht2 hB2 hA1 y0 y1 y2 y3 y4 y5 y6 y7 y8))
 go_loopg [10] 50 (fun g iv wr => ∃ (i : Int) (s : St), iv = .int .i64 i ∧ Aside0 (0 ≤ i ∧ i.toNat + g = 50) ∧ Aside0 (Bo w m x c 3 s i.toNat wr))
 case atStart => exact ⟨0, _, rfl, ⟨Int.le_refl _, rfl⟩, hBo⟩
 clear hBo
 obtain ⟨i, s, rfl, hiA, hBo⟩ := hrel
 obtain ⟨hi0, hig⟩ := hiA.out
 by_cases hA : i < l.length
 ·by_cases hB8 : i < 50
  ·cases gk with
   | zero => omega
   | succ g => ?_
   obtain ⟨ad, d, A5, c5, rfl, hdj, hDc, hcap5, hC5⟩ := at_D hA0.out.1 i hi0 hA
   have hwd := hA0.out.2.1 d (List.mem_of_getElem? hdj)
   have hold := hBo.out.old
   have hDr := hDc.below hold
   have FW := catchmentlaw28_few.calls d.f1.f0 d.f1.f1 d.f1.f2 d.f1.f3 A5 c5 d.f1.f4 (decide ((d.f1.f4.length : Int) ≤ 20)) wr (Kd.C_below hC5 hold) hcap5 rfl
   have hA5 := aK_ (And.intro hDc (And.intro hC5 (And.intro hwd hcap5)))
   obtain ⟨q0, q1, q2, q3, q4, q5⟩ := id hDr
   have dA := decide_eq_true hA
   have dB := decide_eq_true hB8
   have d0 := decide_eq_true hi0
   have p0 := eq_true hi0
   have pA := eq_true hA
   have hwi : wrap64 (i + 1) = i + 1 := IntWalk.wrap64_in _ (by omega)
   by_cases hf : (d.f1.f4.length : Int) ≤ 20
   ·have hf1 := decide_eq_true hf
    rw [hf1] at FW
    clear hcap hi0 hig hA hB8 hdj hDc hcap5 hC5 hwd hold hDr hf1
    go_wp2_with (go_at_call 36; refine FW.mono ?_; clear FW; rintro e w3 ⟨rfl, hB3⟩)
    have hBo3 : Bo w m x c 3 s i.toNat w3.drew := hBo.out.below (below_drew1 hB3)
    have K : ∀ W, Below w.heap.size w W → Dc (ad.add (i.toNat * 6)) d A5 c5 W := fun W hW => hA5.out.1.below hW
    obtain ⟨r0, r1, r2, r3, r4, r5⟩ := K _ hBo3.old
    have ai := hiA.out
    obtain ⟨wd2, wd5, hkey, hokd⟩ := okd28_out hA5.out.2.2.1
    obtain ⟨u0, u1⟩ := Pm.wf_u8 wd2
    have hCC : ∀ W, Below w.heap.size w W → Kd.C P.k117 W A5 d.f1.f4.length d.f1.f4 := fun W hW => Kd.C_below hA5.out.2.1 hW
    have PC := (bo_do hBo3 (by omega) (by omega) d.f0 (oqD d) u0 u1 wd5 (by show d.f1.f4.length ≤ 20; omega) hkey hCC hA5.out.2.2.2).mono (R' := fun e w4 => ∃ B cp, e = .returned (repA (doV c 3 s d.f0 (oqD d)).1 B cp) ∧ Aside0 (Bm w m x c 3 s (doV c 3 s d.f0 (oqD d)).2 i.toNat (doV c 3 s d.f0 (oqD d)).1 B cp w4)) (by
     rintro e w4 ⟨B, cp, rfl, h4⟩
     exact ⟨B, cp, rfl, ⟨h4⟩⟩)
    have hKA := aK_ (And.intro K (And.intro (okC_chunk hok) (And.intro wd5 (And.intro hkey (And.intro hokd hCC)))))
    clear hBo3 K ai wd2 wd5 u0 u1 hkey hokd hCC q0 q1 q2 q3 q4 q5 hB3
    have PC2 := PC.mono (R' := fun e w4 => ∃ B cp, e = .returned (repA (doV c 3 s d.f0 (oqD d)).1 B cp) ∧ Dc (ad.add (i.toNat * 6)) d A5 c5 w4 ∧ Aside0 (Bm w m x c 3 s (doV c 3 s d.f0 (oqD d)).2 i.toNat (doV c 3 s d.f0 (oqD d)).1 B cp w4)) (by
     rintro e w4 ⟨B, cp, rfl, h4⟩
     exact ⟨B, cp, rfl, hKA.out.1 _ h4.out.old, h4⟩)
    clear PC
    go_region_held3 (fun w' => w'.cell? (ad.add (i.toNat * 6)) = some (.int .i64 d.f0) ∧ w'.cell? ⟨(ad.add (i.toNat * 6)).block, (ad.add (i.toNat * 6)).off + 1, none⟩ = some (.int .u8 d.f1.f0) ∧ w'.cell? ⟨(ad.add (i.toNat * 6)).block, (ad.add (i.toNat * 6)).off + 1 + 1, none⟩ = some (.string d.f1.f1) ∧ w'.cell? ⟨(ad.add (i.toNat * 6)).block, (ad.add (i.toNat * 6)).off + 1 + 2, none⟩ = some (.string d.f1.f2) ∧ w'.cell? ⟨(ad.add (i.toNat * 6)).block, (ad.add (i.toNat * 6)).off + 1 + 3, none⟩ = some (.int .i64 d.f1.f3) ∧ w'.cell? ⟨(ad.add (i.toNat * 6)).block, (ad.add (i.toNat * 6)).off + 1 + 4, none⟩ = some (.slice A5 d.f1.f4.length c5)) (first | exact ⟨by assumption, by assumption, by assumption, by assumption, by assumption, by assumption⟩ | exact ⟨r0, r1, r2, r3, r4, r5⟩)
     (first
      | (go_at_call 23; refine PC2.mono ?_; clear PC2; rintro e_ w4 ⟨B, cp, rfl, ⟨q0, q1, q2, q3, q4, q5⟩, hB4⟩))
    go_wp2
    have hai := hiA.out
    have hBm4 : Bm w m x c 3 s (doV c 3 s d.f0 (oqD d)).2 i.toNat (doV c 3 s d.f0 (oqD d)).1 B cp w4.drew := hB4.out.below (below_drew1 (Below.refl _ _))
    obtain ⟨s0, s1, s2, s3, s4, s5⟩ := hKA.out.1 _ hBm4.old
    have PD := (bm_do hBm4 (by omega) hKA.out.2.1 (by omega) (wf_le hKA.out.2.2.1) (by show d.f1.f4.length ≤ 20; omega) hKA.out.2.2.2.1 hKA.out.2.2.2.2.1 hKA.out.2.2.2.2.2 hA5.out.2.2.2).mono (R' := fun e w5 => ∃ B' cp', e = .returned (repA (doV c 3 s d.f0 (oqD d)).1 B' cp') ∧ Dc (ad.add (i.toNat * 6)) d A5 c5 w5 ∧ Aside0 (Bo w m x c 3 (doV c 3 s d.f0 (oqD d)).2 (i.toNat + 1) w5)) (by
     rintro e w5 ⟨B', cp', rfl, h5, _, _⟩
     exact ⟨B', cp', rfl, hKA.out.1 _ h5.old, ⟨h5⟩⟩)
    clear hBm4 hai r0 r1 r2 r3 r4 r5
    go_region_held3 (fun w' => w'.cell? (ad.add (i.toNat * 6)) = some (.int .i64 d.f0) ∧ w'.cell? ⟨(ad.add (i.toNat * 6)).block, (ad.add (i.toNat * 6)).off + 1, none⟩ = some (.int .u8 d.f1.f0) ∧ w'.cell? ⟨(ad.add (i.toNat * 6)).block, (ad.add (i.toNat * 6)).off + 1 + 1, none⟩ = some (.string d.f1.f1) ∧ w'.cell? ⟨(ad.add (i.toNat * 6)).block, (ad.add (i.toNat * 6)).off + 1 + 2, none⟩ = some (.string d.f1.f2) ∧ w'.cell? ⟨(ad.add (i.toNat * 6)).block, (ad.add (i.toNat * 6)).off + 1 + 3, none⟩ = some (.int .i64 d.f1.f3) ∧ w'.cell? ⟨(ad.add (i.toNat * 6)).block, (ad.add (i.toNat * 6)).off + 1 + 4, none⟩ = some (.slice A5 d.f1.f4.length c5)) (first | exact ⟨by assumption, by assumption, by assumption, by assumption, by assumption, by assumption⟩ | exact ⟨s0, s1, s2, s3, s4, s5⟩)
     (first
      | (go_at_call 37; refine PD.mono ?_; clear PD; rintro e_ w5 ⟨B', cp', rfl, ⟨q0, q1, q2, q3, q4, q5⟩, hBo7⟩))
    go_wp2
    go_roundg g
    case measure => omega
    case rel => exact ⟨i + 1, (doV c 3 s d.f0 (oqD d)).2, by rw [hwi], ⟨by have := hiA.out; omega, by have := hiA.out; omega⟩, ⟨by rw [show (i + 1).toNat = i.toNat + 1 by have := hiA.out; omega]; exact hBo7.out⟩⟩
   have hf1 := decide_eq_false hf
   rw [hf1] at FW
   clear hcap hi0 hig hA hB8 hdj hDc hcap5 hC5 hwd hold hDr hf1
   go_wp2_with (go_at_call 36; refine FW.mono ?_; clear FW; rintro e w3 ⟨rfl, hB3⟩)
   go_roundg g
   case measure => omega
   case rel => exact ⟨i + 1, s, by rw [hwi], ⟨by have := hiA.out; omega, by have := hiA.out; omega⟩, ⟨(hBo.out.below hB3).up (by have := hiA.out; omega)⟩⟩
  have dA := decide_eq_true hA
  have dB := decide_eq_false hB8
  clear hcap hA hB8
  go_wp2
  go_ret2
  exact ⟨m, x, s, i.toNat, rfl, by omega, hBo.out⟩
 have dA := decide_eq_false hA
 clear hcap hA
 go_wp2
 go_ret2
 exact ⟨m, x, s, i.toNat, rfl, by omega, hBo.out⟩
def Mn (Y : Nat → Prop) (m : Nat) (c : Cf) (n : Int) (s : St) (N : Nat) (w : World) : Prop := ∃ G, Mw G w m c n s.s s.L s.T N ∧ ∀ k, Y k → G k = 0 ∧ k < w.heap.size
theorem Mn.below {Y : Nat → Prop} {m : Nat} {c : Cf} {n : Int} {s : St} {N : Nat} {w w' : World} (h : Mn Y m c n s N w) (hb : Below w.heap.size w w') : Mn (fun k => Y k ∨ (w.heap.size ≤ k ∧ k < w'.heap.size)) m c n s N w' := by
 obtain ⟨G, h1, h2⟩ := h
 refine ⟨G, h1.below hb, fun k hk => ?_⟩
 rcases hk with q | q
 ·exact ⟨(h2 k q).1, Nat.lt_of_lt_of_le (h2 k q).2 hb.size⟩
 exact ⟨g0 h1.1 k q.1, q.2⟩
theorem Mn.less {Y Y' : Nat → Prop} {m : Nat} {c : Cf} {n : Int} {s : St} {N : Nat} {w : World} (h : Mn Y m c n s N w) (hy : ∀ k, Y' k → Y k) : Mn Y' m c n s N w := by
 obtain ⟨G, h1, h2⟩ := h
 exact ⟨G, h1, fun k hk => h2 k (hy k hk)⟩
theorem Mn.mono {Y : Nat → Prop} {m : Nat} {c : Cf} {n : Int} {s : St} {N N' : Nat} {w : World} (h : Mn Y m c n s N w) (hN : N ≤ N') : Mn Y m c n s N' w := by
 obtain ⟨G, h1, h2⟩ := h
 exact ⟨G, h1.mono hN, h2⟩
theorem Bo.mn {w0 w : World} {m x : Nat} {c : Cf} {n : Int} {s : St} {i : Nat} (h : Bo w0 m x c n s i w) : ∃ Y : Nat → Prop, ∃ Z tb, Mn Y m c n s (2 * i) w ∧ Rx Z w x tb c n s.s (s.L.map toE) (rowsOf n s.T) ∧ Y x ∧ Y tb ∧ (∀ k, Z k → Y k) ∧ ∀ k, k < w0.heap.size → Y k := by
 obtain ⟨G, Z, tb, h1, h2, h3, h4, h5, h6, h7, h8, h9, h10⟩ := h
 refine ⟨fun k => G k = 0 ∧ k < w.heap.size, Z, tb, ⟨G, h1, fun k hk => hk⟩, h2, ⟨h4, h2.ltx.1⟩, ⟨h5, h2.ltx.2⟩, fun k hk => ⟨h6 k hk, h2.lt k hk⟩, fun k hk => ⟨h7 k hk, Nat.lt_of_lt_of_le hk h10.size⟩⟩
abbrev FrY (Y : Nat → Prop) (w w' : World) : Prop := It.FrM (fun k => ¬ Y k) w w'
theorem FrY.blk {Y : Nat → Prop} {w w' : World} (h : FrY Y w w') {k : Nat} {o : Obj} (hb : w.heap[k]? = some o) (hk : Y k) : w'.heap[k]? = some o := It.FrM.blk h hb (fun q => q hk)
theorem FrY.old {Y : Nat → Prop} {w0 w w' : World} (h : FrY Y w w') (hb : Below w0.heap.size w0 w) (hy : ∀ k, k < w0.heap.size → Y k) : Below w0.heap.size w0 w' :=
 ⟨h.os.trans hb.os, h.tape.trans hb.tape, h.output.trans hb.output, Nat.le_trans hb.size h.size, fun k hk => (h.block k (Nat.lt_of_lt_of_le hk hb.size) (fun q => q (hy k hk))).trans (hb.block k hk)⟩
theorem mn_do {Y : Nat → Prop} {m : Nat} {c : Cf} {n : Int} {s : St} {i N : Nat} {w0 w : World} (h : Mn Y m c n s N w) (hI : Inv n s i) (hi : i ≤ 4000) (hN : N ≤ 8000) (hn : n ≤ 64) (hw0 : Below w0.heap.size w0 w) (hY : ∀ k, k < w0.heap.size → Y k) (who : Int) (o : Oq) (h0 : 0 ≤ o.k) (h1 : o.k ≤ 255) (h2 : (Lit.int .i64 o.n).wf = true) (hb : o.b.length ≤ 20) (hk : ∀ x ∈ o.b, x.f2.size ≤ 140737488351232) {A : Option Addr} {cap : Nat} (hC : ∀ W, Below w0.heap.size w0 W → Kd.C P.k117 W A o.b.length o.b) (hcap : o.b.length ≤ cap) {r : Rp} {s' : St} (e : doV c n s who o = (r, s')) :
  Calls Try.prog 23 #[.pointer (some ⟨m, 0, none⟩), .int .i64 who, .agg #[.int .u8 o.k, .string o.y, .string o.t, .int .i64 o.n, .slice A o.b.length cap]] w fun x w' => ∃ B cp, x = .returned (repA r B cp) ∧ ∃ V : Nat → Prop, Mn (fun k => Y k ∨ V k) m c n s' (N + 2) w' ∧ Inv n s' (i + 1) ∧ FrY Y w w' ∧ Kd.V P.k103 103 w' 0 V (.slice B r.l.length cp) r.l := by
 obtain ⟨G, g1, g2⟩ := h
 have hok := hI.okd hi hn who o h0 h1 h2 hb hk
 have hG : ∀ k, k < w0.heap.size → G k = 0 := fun k hk => (g2 k (hY k hk)).1
 have hs := hI.step c who o hb hk
 refine (do_dd g1 who o ⟨hok.hn, hok.k0, hok.k1, hok.nw, hok.b1, hok.b2, hok.s0, hok.s1, hok.l1, hok.l2, hok.t1, by omega⟩ (A := A) (cap := cap) (fun W hW => hC W (below_of_frm hG hw0 hW)) hcap e).mono ?_
 rintro x w' ⟨B, cp, rfl, G', d1, d2, d3, d4⟩
 rw [e] at hs
 refine ⟨B, cp, rfl, _, ⟨G', d2, fun k hk => ?_⟩, hs, d3.mono (fun k hk => .inl (fun q => hk (g2 k q).1)), d4⟩
 rcases hk with q | q
 ·exact ⟨(d1 k (g2 k q).2).trans (g2 k q).1, Nat.lt_of_lt_of_le (g2 k q).2 d3.size⟩
 exact ⟨q.2.2, q.2.1⟩
theorem mn_entries {Y : Nat → Prop} {m : Nat} {c : Cf} {n : Int} {s : St} {N : Nat} {w : World} (h : Mn Y m c n s N w) (hl : s.L.length ≤ 1000000) :
  Calls Try.prog 22 #[.pointer (some ⟨m, 0, none⟩)] w fun e w' => ∃ A cp, e = .returned (.slice A (s.L.map toE).length cp) ∧ Kd.V P.k103 103 w' 0 (fun k => w.heap.size ≤ k ∧ k < w'.heap.size) (.slice A (s.L.map toE).length cp) (s.L.map toE) ∧ Below w.heap.size w w' := by
 obtain ⟨G, g1, g2⟩ := h
 refine (entries_any g1 hl).mono ?_
 rintro e w' ⟨v, rfl, hR, hb⟩
 obtain ⟨A, cp, rfl⟩ := Kd.R_slice hR
 exact ⟨A, cp, rfl, V_of_R hR, hb⟩
theorem mn_sends {Y : Nat → Prop} {m : Nat} {c : Cf} {n : Int} {s : St} {N : Nat} {w : World} (h : Mn Y m c n s N w) :
  Calls Try.prog 26 #[.pointer (some ⟨m, 0, none⟩)] w fun e w' => e = .returned (.int .i64 s.s) ∧ w' = w := by
 obtain ⟨G, g1, g2⟩ := h
 exact sends_any g1
theorem same_any {w : World} {E : List En} {A B : Option Addr} {ca cb : Nat} {Z Z' : Nat → Prop} (h1 : Kd.V P.k103 103 w 0 Z (.slice A E.length ca) E) (h2 : Kd.V P.k103 103 w 0 Z' (.slice B E.length cb) E) (hl : E.length ≤ 1000000) :
  Calls Try.prog 25 #[.slice A E.length ca, .slice B E.length cb] w fun e w' => e = .returned (.bool true) ∧ Below w.heap.size w w' := by
 obtain ⟨_, q1, r1⟩ := Kd.V_reads' h1
 obtain ⟨_, q2, r2⟩ := Kd.V_reads' h2
 refine (P.catchmentref05_Same.calls (E.length + 1) A ca E B cb E true w r1 q1 r2 q2 (by rw [Same_eq _ _ _ hl (by omega), sameE_iff.2 rfl])).mono ?_
 rintro e w' ⟨rfl, hb⟩
 exact ⟨rfl, hb.below⟩
def Ps (w0 : World) (m x : Nat) (c : Cf) (Y : Nat → Prop) (s : St) (w : World) : Prop := ∃ i Z tb, i ≤ 50 ∧ Inv 3 s i ∧ Mn Y m c 3 s (2 * i) w ∧ Rx Z w x tb c 3 s.s (s.L.map toE) (rowsOf 3 s.T) ∧ Y x ∧ Y tb ∧ (∀ k, Z k → Y k) ∧ (∀ k, k < w0.heap.size → Y k) ∧ Below w0.heap.size w0 w
theorem Bo.ps {w0 w : World} {m x : Nat} {c : Cf} {s : St} {i : Nat} (h : Bo w0 m x c 3 s i w) (hi : i ≤ 50) : ∃ Y, Ps w0 m x c Y s w := by
 obtain ⟨Y, Z, tb, h1, h2, h3, h4, h5, h6⟩ := h.mn
 exact ⟨Y, i, Z, tb, hi, h.inv, h1, h2, h3, h4, h5, h6, h.old⟩
theorem Ps.below {w0 w w' : World} {m x : Nat} {c : Cf} {Y : Nat → Prop} {s : St} (h : Ps w0 m x c Y s w) (hb : Below w.heap.size w w') : Ps w0 m x c (fun k => Y k ∨ (w.heap.size ≤ k ∧ k < w'.heap.size)) s w' := by
 obtain ⟨i, Z, tb, h1, h2, h3, h4, h5, h6, h7, h8, h9⟩ := h
 exact ⟨i, Z, tb, h1, h2, h3.below hb, h4.below hb, .inl h5, .inl h6, fun k hk => .inl (h7 k hk), fun k hk => .inl (h8 k hk), below_then h9 h9.size hb⟩
theorem ps_entries {w0 w : World} {m x : Nat} {c : Cf} {Y : Nat → Prop} {s : St} (h : Ps w0 m x c Y s w) {E : List En} (hE : s.L.map toE = E) :
  Calls Try.prog 22 #[.pointer (some ⟨m, 0, none⟩)] w fun e w' => ∃ A cp, e = .returned (.slice A E.length cp) ∧ Kd.V P.k103 103 w' 0 (fun k => w.heap.size ≤ k ∧ k < w'.heap.size) (.slice A E.length cp) E ∧ Below w.heap.size w w' := by
 subst hE
 obtain ⟨i, Z, tb, h1, h2, h3, h4, h5, h6, h7, h8, h9⟩ := h
 exact mn_entries h3 (by have := h2.len; omega)
def Pd (w0 : World) (m x : Nat) (c : Cf) (Y V : Nat → Prop) (s s' : St) (w : World) : Prop := ∃ i Z tb, i ≤ 50 ∧ Inv 3 s i ∧ Inv 3 s' (i + 1) ∧ Mn (fun k => Y k ∨ V k) m c 3 s' (2 * i + 2) w ∧ Rx Z w x tb c 3 s.s (s.L.map toE) (rowsOf 3 s.T) ∧ Y x ∧ Y tb ∧ (∀ k, Z k → Y k) ∧ (∀ k, k < w0.heap.size → Y k) ∧ Below w0.heap.size w0 w
theorem ps_do {w0 w : World} {m x : Nat} {c : Cf} {Y : Nat → Prop} {s : St} (h : Ps w0 m x c Y s w) (who : Int) (o : Oq) (h0 : 0 ≤ o.k) (h1 : o.k ≤ 255) (h2 : (Lit.int .i64 o.n).wf = true) (hb : o.b.length ≤ 20) (hk : ∀ x ∈ o.b, x.f2.size ≤ 140737488351232) {A : Option Addr} {cap : Nat} (hC : ∀ W, Below w0.heap.size w0 W → Kd.C P.k117 W A o.b.length o.b) (hcap : o.b.length ≤ cap) {r : Rp} {s' : St} (e : doV c 3 s who o = (r, s')) :
  Calls Try.prog 23 #[.pointer (some ⟨m, 0, none⟩), .int .i64 who, .agg #[.int .u8 o.k, .string o.y, .string o.t, .int .i64 o.n, .slice A o.b.length cap]] w fun e w' => ∃ B cp, e = .returned (repA r B cp) ∧ ∃ V : Nat → Prop, Pd w0 m x c Y V s s' w' ∧ FrY Y w w' ∧ Kd.V P.k103 103 w' 0 V (.slice B r.l.length cp) r.l := by
 obtain ⟨i, Z, tb, q1, q2, q3, q4, q5, q6, q7, q8, q9⟩ := h
 refine (mn_do q3 q2 (by omega) (by omega) (by omega) q9 q8 who o h0 h1 h2 hb hk hC hcap e).mono ?_
 rintro e w' ⟨B, cp, rfl, V, d1, d2, d3, d4⟩
 exact ⟨B, cp, rfl, V, ⟨i, Z, tb, q1, q2, d2, d1, q4.frm d3 (fun k hk q => q (q7 k hk)) (fun q => q q5) (fun q => q q6), q5, q6, q7, q8, d3.old q9 q8⟩, d3, d4⟩
theorem Pd.below {w0 w w' : World} {m x : Nat} {c : Cf} {Y V : Nat → Prop} {s s' : St} (h : Pd w0 m x c Y V s s' w) (hb : Below w.heap.size w w') : Pd w0 m x c Y (fun k => V k ∨ (w.heap.size ≤ k ∧ k < w'.heap.size)) s s' w' := by
 obtain ⟨i, Z, tb, h1, h2, h2', h3, h4, h5, h6, h7, h8, h9⟩ := h
 exact ⟨i, Z, tb, h1, h2, h2', (h3.below hb).less (fun k hk => by rcases hk with q | q | q; exact .inl (.inl q); exact .inl (.inr q); exact .inr q), h4.below hb, h5, h6, h7, h8, below_then h9 h9.size hb⟩
theorem Pd.old {w0 w : World} {m x : Nat} {c : Cf} {Y V : Nat → Prop} {s s' : St} (h : Pd w0 m x c Y V s s' w) : Below w0.heap.size w0 w := by
 obtain ⟨i, Z, tb, h1, h2, h2', h3, h4, h5, h6, h7, h8, h9⟩ := h
 exact h9
theorem Ps.old {w0 w : World} {m x : Nat} {c : Cf} {Y : Nat → Prop} {s : St} (h : Ps w0 m x c Y s w) : Below w0.heap.size w0 w := by
 obtain ⟨i, Z, tb, h1, h2, h3, h4, h5, h6, h7, h8, h9⟩ := h
 exact h9
theorem pd_entries {w0 w : World} {m x : Nat} {c : Cf} {Y V : Nat → Prop} {s s' : St} (h : Pd w0 m x c Y V s s' w) {E : List En} (hE : s'.L.map toE = E) :
  Calls Try.prog 22 #[.pointer (some ⟨m, 0, none⟩)] w fun e w' => ∃ A cp, e = .returned (.slice A E.length cp) ∧ Kd.V P.k103 103 w' 0 (fun k => w.heap.size ≤ k ∧ k < w'.heap.size) (.slice A E.length cp) E ∧ Below w.heap.size w w' := by
 subst hE
 obtain ⟨i, Z, tb, h1, h2, h2', h3, h4, h5, h6, h7, h8, h9⟩ := h
 exact mn_entries h3 (by have := h2'.len; omega)
theorem pd_sends {w0 w : World} {m x : Nat} {c : Cf} {Y V : Nat → Prop} {s s' : St} (h : Pd w0 m x c Y V s s' w) :
  Calls Try.prog 26 #[.pointer (some ⟨m, 0, none⟩)] w fun e w' => e = .returned (.int .i64 s'.s) ∧ w' = w := by
 obtain ⟨i, Z, tb, h1, h2, h2', h3, h4, h5, h6, h7, h8, h9⟩ := h
 exact mn_sends h3
theorem Ps.inv {w0 w : World} {m x : Nat} {c : Cf} {Y : Nat → Prop} {s : St} (h : Ps w0 m x c Y s w) : ∃ i, i ≤ 50 ∧ Inv 3 s i := by
 obtain ⟨i, Z, tb, h1, h3, h4, h5, h6, h7, h8, h9⟩ := h
 exact ⟨i, h1, h3⟩
theorem find_any {w : World} {E : List En} {A : Option Addr} {ca : Nat} {Z : Nat → Prop} (h1 : Kd.V P.k103 103 w 0 Z (.slice A E.length ca) E) (hl : E.length ≤ 1000000) (k : ByteArray) :
  Calls Try.prog 27 #[.slice A E.length ca, .string k] w fun e w' => e = .returned (.tuple #[.string (findV E k).1, .bool (findV E k).2]) ∧ Below w.heap.size w w' := by
 obtain ⟨_, q1, r1⟩ := Kd.V_reads' h1
 refine (P.catchmentref05_Find.calls (E.length + 1) A ca E k (findV E k).1 (findV E k).2 w r1 q1 (Find_eq _ _ _ hl (by omega))).mono ?_
 rintro e w' ⟨rfl, hb⟩
 exact ⟨rfl, hb.below⟩
theorem rises_any {w : World} {E : List En} {A : Option Addr} {ca : Nat} {Z : Nat → Prop} (h1 : Kd.V P.k103 103 w 0 Z (.slice A E.length ca) E) (hl : E.length ≤ 1000000) (hr : risesV E = true) :
  Calls Try.prog 29 #[.slice A E.length ca] w fun e w' => e = .returned (.bool true) ∧ Below w.heap.size w w' := by
 obtain ⟨_, q1, r1⟩ := Kd.V_reads' h1
 refine (P.catchmentref05_Rises.calls (E.length + 2) A ca E true w r1 q1 (by rw [Rises_eq _ _ hl (by omega), hr])).mono ?_
 rintro e w' ⟨rfl, hb⟩
 exact ⟨rfl, hb.below⟩
theorem pd_x {w0 w : World} {m x : Nat} {c : Cf} {Y V : Nat → Prop} {s s' : St} (h : Pd w0 m x c Y V s s' w) : w.cell? ⟨x, 12, none⟩ = some (.int .i64 s.s) := by
 obtain ⟨i, Z, tb, h1, h2, h2', h3, h4, h5, h6, h7, h8, h9⟩ := h
 obtain ⟨A, cp, hb, _⟩ := h4.blk
 exact (blk_cell hb 12).trans rfl
theorem send_no {c : Cf} {s : St} {b : List Ms} (h : ¬ Pm.askV 2 e0 e0 0 b c.f0 c.f1 c.f8 = 0) : doV c 3 s 1 ⟨2, e0, e0, 0, b⟩ = (⟨Pm.askV 2 e0 e0 0 b c.f0 c.f1 c.f8, false, e0, [], 0, false⟩, s) := by
 unfold doV
 rw [if_neg (by omega), if_pos h]
theorem send_yes {c : Cf} {s : St} {b : List Ms} (h : Pm.askV 2 e0 e0 0 b c.f0 c.f1 c.f8 = 0) : doV c 3 s 1 ⟨2, e0, e0, 0, b⟩ = (⟨0, false, e0, [], 0, false⟩, ⟨s.s + 1, b.foldl sendV s.L, s.T⟩) := by
 unfold doV
 rw [if_neg (by omega), if_neg (not_not_intro h), if_neg (show ¬ (2 : Int) = 1 by decide), if_pos rfl]
theorem sends_long {w : World} {c : Cf} {A : Option Addr} {cap : Nat} {l : List Dd28} (hC : Kd.C P.k81 w A l.length l) (hcap : l.length ≤ cap) (hwf : ∀ d ∈ l, okd28 d = true) (hok : okC c = true) {b : List Ms} {A5 : Option Addr} {c5 : Nat} (hC5 : Kd.C P.k117 w A5 b.length b) (hc5 : b.length ≤ c5) (hd : b.all okM28 = true) (k : ByteArray) (hf : (b.length : Int) > 20) :
  Calls Try.prog 5 #[aggC c, .slice A l.length cap, .slice A5 b.length c5, .string k] w fun e w' => e = .returned (.bool true) ∧ Below w.heap.size w w' := by
 have huc := Try.underlying47
 have huo := Try.underlying56
 have hup := Try.underlying59
 have hum := Try.underlying65
 have B1 : Below w.heap.size w (w.alloc (objC c)) := below_alloc (Below.refl _ _) _
 have bC := blk_new w (objC c)
 have PL := played_ok (Kd.C_below hC B1) hcap hwf hok
 have hA0 := aK_ (And.intro B1 (And.intro bC (And.intro (Kd.C_below hC5 B1) (And.intro hc5 (And.intro hd hok)))))
 clear hC hwf B1 bC hC5 hd hok
 have hf1 := decide_eq_true hf
 clear hf
 go_enter Try.func5, Try.ntmps5
 go_wp2_with (first
  | (go_at_call 20; refine PL.mono ?_; clear PL; rintro e w1 ⟨m, x, s, i, rfl, hi, hBo⟩; have hO1 := aK_ (below_then hA0.out.1 hA0.out.1.size hBo.old); have LV := live_any w1; clear hBo hi)
  | (go_at_call 21; refine LV.mono ?_; clear LV; rintro e w3 ⟨rfl, hb3⟩))
 go_ret
 exact ⟨rfl, below_then hO1.out hO1.out.size hb3⟩
theorem sends_short {w : World} {c : Cf} {A : Option Addr} {cap : Nat} {l : List Dd28} (hC : Kd.C P.k81 w A l.length l) (hcap : l.length ≤ cap) (hwf : ∀ d ∈ l, okd28 d = true) (hok : okC c = true) {b : List Ms} {A5 : Option Addr} {c5 : Nat} (hC5 : Kd.C P.k117 w A5 b.length b) (hc5 : b.length ≤ c5) (hd : b.all okM28 = true) (k : ByteArray) (hf : ¬ (b.length : Int) > 20) :
  Calls Try.prog 5 #[aggC c, .slice A l.length cap, .slice A5 b.length c5, .string k] w fun e w' => e = .returned (.bool true) ∧ Below w.heap.size w w' := by
 have huc := Try.underlying47
 have huo := Try.underlying56
 have hup := Try.underlying59
 have hum := Try.underlying65
 have B1 : Below w.heap.size w (w.alloc (objC c)) := below_alloc (Below.refl _ _) _
 have bC := blk_new w (objC c)
 have PL := played_ok (Kd.C_below hC B1) hcap hwf hok
 have hA0 := aK_ (And.intro B1 (And.intro bC (And.intro (Kd.C_below hC5 B1) (And.intro hc5 (And.intro hd hok)))))
 clear hC hwf B1 bC hC5 hd hok
 have hf1 := decide_eq_false hf
 have hfA := aK_ hf
 clear hf
 go_enter Try.func5, Try.ntmps5
 go_wp2_with (first
  | (go_at_call 20; refine PL.mono ?_; clear PL; rintro e w1 ⟨m, x, s, i, rfl, hi, hBo⟩; obtain ⟨Y, hPs⟩ := hBo.ps hi; obtain ⟨E, hE⟩ : ∃ E, s.L.map toE = E := ⟨_, rfl⟩; have hPs1 := hPs.below (below_alloc (Below.refl _ _) (objO ⟨2, e0, e0, 0, b⟩ A5 c5)); have bO := blk_new w1 (objO ⟨2, e0, e0, 0, b⟩ A5 c5); have EN := ps_entries hPs1 hE; have hO1 := aK_ (And.intro hPs1 (And.intro hE bO)); clear hi hBo hPs hPs1 hE bO)
  | (go_at_call 22; refine EN.mono ?_; clear EN; rintro e w3 ⟨A1, cp1, rfl, hV1, hb3⟩; have hPs3 := hO1.out.1.below hb3; have bO1 := blk_below hO1.out.2.2 hb3; have o0 := blk_cell bO1 0; have o1 := blk_cell bO1 1; have o2 := blk_cell bO1 2; have o3 := blk_cell bO1 3; have o4 := blk_cell bO1 4; simp at o0 o1 o2 o3 o4; have hO3 := aK_ (And.intro hPs3 (And.intro hV1 (And.intro hb3 bO1))); clear hPs3 hV1 hb3 bO1))
 obtain ⟨hkey, hokd⟩ := okM28_out hA0.out.2.2.2.2.1
 obtain ⟨i0, hi0, hI0⟩ := hO3.out.1.inv
 have hEl : E.length ≤ 1000000 := by
  rw [← hO1.out.2.1, List.length_map]
  have := hI0.len
  omega
 have hbl : b.length ≤ 20 := by have := hfA.out; omega
 have hKA := aK_ (And.intro hkey (And.intro hokd (And.intro hEl (And.intro hbl hI0))))
 have hask := Pm.ref_Ask_eq c.f0 c.f1 c.f2 c.f3 c.f4 c.f5 c.f6 c.f7 c.f8 0 2 e0 e0 0 b hkey (by omega)
 clear hI0
 by_cases ha : Pm.askV 2 e0 e0 0 b c.f0 c.f1 c.f8 = 0
 ·have hrs := send_yes (s := s) ha
  have DO := ps_do hO3.out.1 1 ⟨2, e0, e0, 0, b⟩ (show (0 : Int) ≤ 2 by decide) (show (2 : Int) ≤ 255 by decide) (show (Lit.int .i64 0).wf = true by decide) hbl hkey (fun W hW => Kd.C_below hA0.out.2.2.1 hW) hA0.out.2.2.2.1 hrs
  rw [ha] at hask
  have haA := aK_ hask
  clear hrs hkey hokd hi0 hEl hbl hask ha hf1
  obtain ⟨E', hE'⟩ : ∃ E', (b.foldl sendV s.L).map toE = E' := ⟨_, rfl⟩
  obtain ⟨g1, g2, hg⟩ : ∃ g1 g2, (g1, g2) = findV E k := ⟨_, _, rfl⟩
  obtain ⟨g3, g4, hg'⟩ : ∃ g3 g4, (g3, g4) = findV E' k := ⟨_, _, rfl⟩
  have hval : valueV b k g1 g2 = (g3, g4) := by
   have h := valueV_find b E k
   rw [← hg] at h
   rw [hg', ← hE', find_ref, got_sends b hKA.out.2.2.2.2.rise k, ← find_ref, hO1.out.2.1, ← hg]
   exact h
  have hE'l : E'.length ≤ 1000000 := by
   rw [← hE', List.length_map]
   have h1 := (sends_rise b hKA.out.2.2.2.2.rise).2
   have h2 := hKA.out.2.2.2.2.len
   have h3 := hKA.out.2.2.2.1
   obtain ⟨j, hj, hJ⟩ := hO3.out.1.inv
   have h4 := hJ.len
   omega
  have hE'r : risesV E' = true := by
   rw [← hE']
   exact rises_map (sends_rise b hKA.out.2.2.2.2.rise).1
  have hGA := aK_ (And.intro hE' (And.intro hg (And.intro hg' (And.intro hval (And.intro hE'l hE'r)))))
  clear hE' hg hg' hval hE'l hE'r
  go_wp2_with (first
   | (go_at_call 23; refine DO.mono ?_; clear DO; rintro e w4 ⟨B, cp, rfl, V, hPd, hFr, hV4⟩; have hPd2 := hPd.below (below_alloc (Below.refl _ _) (.cells #[.int .i64 0, .bool false, .string e0, .slice B 0 cp, .int .i64 0, .bool false] 59 (0, 0))); have bR := blk_new w4 (.cells #[.int .i64 0, .bool false, .string e0, .slice B 0 cp, .int .i64 0, .bool false] 59 (0, 0)); have bO1 := blk_alloc (FrY.blk hFr hO3.out.2.2.2 (.inl (.inr ⟨Nat.le_refl _, by rw [World.size_alloc]; omega⟩))) (.cells #[.int .i64 0, .bool false, .string e0, .slice B 0 cp, .int .i64 0, .bool false] 59 (0, 0)); have bC1 := blk_below hA0.out.2.1 hPd2.old; have y0 := blk_cell bC1 0; have y1 := blk_cell bC1 1; have y2 := blk_cell bC1 2; have y3 := blk_cell bC1 3; have y4 := blk_cell bC1 4; have y5 := blk_cell bC1 5; have y6 := blk_cell bC1 6; have y7 := blk_cell bC1 7; have y8 := blk_cell bC1 8; simp at y0 y1 y2 y3 y4 y5 y6 y7 y8; clear o0 o1 o2 o3 o4; have o0 := blk_cell bO1 0; have o1 := blk_cell bO1 1; have o2 := blk_cell bO1 2; have o3 := blk_cell bO1 3; have o4 := blk_cell bO1 4; simp at o0 o1 o2 o3 o4; have AK := catchmentref21_Ask.calls _ 2 e0 e0 0 A5 c5 b c.f0 c.f1 c.f2 c.f3 c.f4 c.f5 c.f6 c.f7 c.f8 0 _ (Kd.C_below hA0.out.2.2.1 hPd2.old) hA0.out.2.2.2.1 haA.out; have hO4 := aK_ (And.intro hPd2 (And.intro hFr bR)); clear hPd hFr hV4 hPd2 bR bO1 bC1)
   | (go_at_call 24; refine AK.mono ?_; clear AK; rintro e w5 ⟨rfl, hb5⟩; have hPd5 := hO4.out.1.below hb5; have V1 := Kd.V_step hO3.out.2.1 (w1 := w4) (fun k hk hl => hO4.out.2.1.block k hl (fun q => q (.inr hk))); have V2 := Kd.V_step (Kd.V_alloc V1 (.cells #[.int .i64 0, .bool false, .string e0, .slice B 0 cp, .int .i64 0, .bool false] 59 (0, 0))) (w1 := w5) (fun k hk hl => hb5.block k hl); have FN := find_any V2 hKA.out.2.2.1 k; rw [← hGA.out.2.1] at FN; have bR5 := blk_below hO4.out.2.2 hb5; have hO5 := aK_ (And.intro hPd5 bR5); clear hb5 hPd5 V1 V2 bR5 y0 y1 y2 y3 y4 y5 y6 y7 y8 o0 o1 o2 o3 o4)
   | (go_at_call 27; refine FN.mono ?_; clear FN; rintro e w6 ⟨rfl, hb6⟩; have hPd6 := hO5.out.1.below hb6; have VL := catchmentref05_Value.calls (b.length + 13) A5 c5 b k g1 g2 g3 g4 w6 (Kd.C_below hA0.out.2.2.1 hPd6.old) hA0.out.2.2.2.1 (by have h := hKA.out; rw [Value_eq _ b k g1 g2 (by omega) h.2.1 (by omega), hGA.out.2.2.2.1]); have bR6 := blk_below hO5.out.2 hb6; have hO6 := aK_ (And.intro hPd6 bR6); clear hb6 hPd6 bR6)
   | (go_at_call 28; refine VL.mono ?_; clear VL; rintro e w7 ⟨rfl, hb7⟩; have hPd7 := hO6.out.1.below hb7; have EN := pd_entries hPd7 hGA.out.1; have bR7 := blk_below hO6.out.2 hb7; have hO7 := aK_ (And.intro hPd7 bR7); clear hb7 hPd7 bR7)
   | (go_at_call 22; refine EN.mono ?_; clear EN; rintro e w8 ⟨A8, cp8, rfl, hV8, hb8⟩; have hPd8 := hO7.out.1.below hb8; have FM := find_any hV8 hGA.out.2.2.2.2.1 k; rw [← hGA.out.2.2.1] at FM; have bR8 := blk_below hO7.out.2 hb8; have hO8 := aK_ (And.intro hPd8 bR8); clear hb8 hPd8 hV8 bR8)
   | (go_at_call 27; refine FM.mono ?_; clear FM; rintro e w9 ⟨rfl, hb9⟩; have hPd9 := hO8.out.1.below hb9; have bR9 := blk_below hO8.out.2 hb9; have hO9 := aK_ (And.intro hPd9 bR9); clear hb9 hPd9 bR9))
  have hPd9 := (hO9.out.1.below (below_drew1 (Below.refl _ w9)))
  have bR9 : w9.drew.heap[w4.heap.size]? = some (.cells #[.int .i64 0, .bool false, .string e0, .slice B 0 cp, .int .i64 0, .bool false] 59 (0, 0)) := blk_below hO9.out.2 (below_drew1 (Below.refl _ w9))
  have K : ∀ W, Below w9.drew.heap.size w9.drew W → W.cell? ⟨w4.heap.size, 0, none⟩ = some (.int .i64 0) ∧ W.cell? ⟨x, 12, none⟩ = some (.int .i64 s.s) := fun W hW => ⟨(blk_cell (blk_below bR9 hW) 0).trans rfl, pd_x (hPd9.below hW)⟩
  obtain ⟨k0, k1⟩ := K _ (Below.refl _ _)
  have LV := (live_any w9.drew).mono (R' := fun e W1 => e = .returned (.bool true) ∧ (W1.cell? ⟨w4.heap.size, 0, none⟩ = some (.int .i64 0) ∧ W1.cell? ⟨x, 12, none⟩ = some (.int .i64 s.s)) ∧ Calls Try.prog 26 #[.pointer (some ⟨m, 0, none⟩)] W1 fun e W2 => e = .returned (.int .i64 (s.s + 1)) ∧ (W2.cell? ⟨w4.heap.size, 0, none⟩ = some (.int .i64 0) ∧ W2.cell? ⟨x, 12, none⟩ = some (.int .i64 s.s)) ∧ Calls Try.prog 22 #[.pointer (some ⟨m, 0, none⟩)] W2 fun e W3 => ∃ A10 cp10, e = .returned (.slice A10 E'.length cp10) ∧ (W3.cell? ⟨w4.heap.size, 0, none⟩ = some (.int .i64 0) ∧ W3.cell? ⟨x, 12, none⟩ = some (.int .i64 s.s)) ∧ Calls Try.prog 29 #[.slice A10 E'.length cp10] W3 fun e W4 => e = .returned (.bool true) ∧ (W4.cell? ⟨w4.heap.size, 0, none⟩ = some (.int .i64 0) ∧ W4.cell? ⟨x, 12, none⟩ = some (.int .i64 s.s)) ∧ Aside0 (Below w.heap.size w W4)) (by
   rintro e W1 ⟨rfl, q1⟩
   refine ⟨rfl, K _ q1, (pd_sends (hPd9.below q1)).mono ?_⟩
   rintro e W2 ⟨rfl, rfl⟩
   refine ⟨rfl, K _ q1, (pd_entries (hPd9.below q1) hGA.out.1).mono ?_⟩
   rintro e W3 ⟨A10, cp10, rfl, hV, q3⟩
   have b3 := below_then q1 q1.size q3
   refine ⟨A10, cp10, rfl, K _ b3, (rises_any hV hGA.out.2.2.2.2.1 hGA.out.2.2.2.2.2).mono ?_⟩
   rintro e W4 ⟨rfl, q4⟩
   have b4 := below_then b3 b3.size q4
   exact ⟨rfl, K _ b4, ⟨below_then hA0.out.1 hA0.out.1.size (hPd9.below b4).old⟩⟩)
  have hss : IntKind.i64.wrap (s.s + 1) = s.s + 1 := IntWalk.i64_in _ (by obtain ⟨j, hj, hJ⟩ := hO3.out.1.inv; have h1 := hJ.s0; have h2 := hJ.s1; omega)
  clear hPd9 bR9 K
  go_region_held3 (fun w' => w'.cell? ⟨w4.heap.size, 0, none⟩ = some (.int .i64 0) ∧ w'.cell? ⟨x, 12, none⟩ = some (.int .i64 s.s)) (first | exact ⟨by assumption, by assumption⟩ | exact ⟨k0, k1⟩)
   (first
    | (go_at_call 21; refine LV.mono ?_; clear LV; rintro e_ W1 ⟨rfl, ⟨l0, l1⟩, PS⟩)
    | (go_at_call 26; refine PS.mono ?_; clear PS; rintro e_ W2 ⟨rfl, ⟨l0, l1⟩, PE⟩)
    | (go_at_call 22; refine PE.mono ?_; clear PE; rintro e_ W3 ⟨A10, cp10, rfl, ⟨l0, l1⟩, PR⟩)
    | (go_at_call 29; refine PR.mono ?_; clear PR; rintro e_ W4 ⟨rfl, ⟨l0, l1⟩, hBW⟩))
  go_wp2
  go_ret
  exact ⟨rfl, hBW.out⟩
 have hrs := send_no (s := s) ha
 obtain ⟨q, hq⟩ : ∃ q, Pm.askV 2 e0 e0 0 b c.f0 c.f1 c.f8 = q := ⟨_, rfl⟩
 rw [hq] at hrs hask ha
 have DO := ps_do hO3.out.1 1 ⟨2, e0, e0, 0, b⟩ (show (0 : Int) ≤ 2 by decide) (show (2 : Int) ≤ 255 by decide) (show (Lit.int .i64 0).wf = true by decide) hbl hkey (fun W hW => Kd.C_below hA0.out.2.2.1 hW) hA0.out.2.2.2.1 hrs
 have haA := aK_ hask
 have hq1 : (q != 0) = true := by simpa using ha
 clear hrs hkey hokd hi0 hEl hbl hask ha hf1 hq
 go_wp2_with (first
  | (go_at_call 23; refine DO.mono ?_; clear DO; rintro e w4 ⟨B, cp, rfl, V, hPd, hFr, hV4⟩; have hPd2 := hPd.below (below_alloc (Below.refl _ _) (.cells #[.int .i64 q, .bool false, .string e0, .slice B 0 cp, .int .i64 0, .bool false] 59 (0, 0))); have bR := blk_new w4 (.cells #[.int .i64 q, .bool false, .string e0, .slice B 0 cp, .int .i64 0, .bool false] 59 (0, 0)); have bO1 := blk_alloc (FrY.blk hFr hO3.out.2.2.2 (.inl (.inr ⟨Nat.le_refl _, by rw [World.size_alloc]; omega⟩))) (.cells #[.int .i64 q, .bool false, .string e0, .slice B 0 cp, .int .i64 0, .bool false] 59 (0, 0)); have bC1 := blk_below hA0.out.2.1 hPd2.old; have y0 := blk_cell bC1 0; have y1 := blk_cell bC1 1; have y2 := blk_cell bC1 2; have y3 := blk_cell bC1 3; have y4 := blk_cell bC1 4; have y5 := blk_cell bC1 5; have y6 := blk_cell bC1 6; have y7 := blk_cell bC1 7; have y8 := blk_cell bC1 8; simp at y0 y1 y2 y3 y4 y5 y6 y7 y8; clear o0 o1 o2 o3 o4; have o0 := blk_cell bO1 0; have o1 := blk_cell bO1 1; have o2 := blk_cell bO1 2; have o3 := blk_cell bO1 3; have o4 := blk_cell bO1 4; simp at o0 o1 o2 o3 o4; have AK := catchmentref21_Ask.calls _ 2 e0 e0 0 A5 c5 b c.f0 c.f1 c.f2 c.f3 c.f4 c.f5 c.f6 c.f7 c.f8 q _ (Kd.C_below hA0.out.2.2.1 hPd2.old) hA0.out.2.2.2.1 haA.out; have hO4 := aK_ (And.intro hPd2 (And.intro hFr bR)); clear hPd hFr hV4 hPd2 bR bO1 bC1)
  | (go_at_call 24; refine AK.mono ?_; clear AK; rintro e w5 ⟨rfl, hb5⟩; have hPd5 := hO4.out.1.below hb5; have V1 := Kd.V_step hO3.out.2.1 (w1 := w4) (fun k hk hl => hO4.out.2.1.block k hl (fun q => q (.inr hk))); have V2 := Kd.V_step (Kd.V_alloc V1 (.cells #[.int .i64 q, .bool false, .string e0, .slice B 0 cp, .int .i64 0, .bool false] 59 (0, 0))) (w1 := w5) (fun k hk hl => hb5.block k hl); have bR5 := blk_below hO4.out.2.2 hb5; have hO5 := aK_ (And.intro hPd5 (And.intro bR5 V2)); clear hb5 hPd5 V1 V2 bR5 y0 y1 y2 y3 y4 y5 y6 y7 y8 o0 o1 o2 o3 o4))
 have hD : Below w5.heap.size w5 w5.drew := below_drew1 (Below.refl _ w5)
 have hPd9 := hO5.out.1.below hD
 have bR9 := blk_below hO5.out.2.1 hD
 have V9 := Kd.V_step hO5.out.2.2 (w1 := w5.drew) (fun k hk hl => hD.block k hl)
 have K : ∀ W, Below w5.drew.heap.size w5.drew W → (W.cell? ⟨w4.heap.size, 0, none⟩ = some (.int .i64 q) ∧ W.cell? ⟨x, 12, none⟩ = some (.int .i64 s.s)) := fun W hW => ⟨(blk_cell (blk_below bR9 hW) 0).trans rfl, pd_x (hPd9.below hW)⟩
 obtain ⟨k0, k1⟩ := K _ (Below.refl _ _)
 have LV := (live_any w5.drew).mono (R' := fun e W1 => e = .returned (.bool true) ∧ (W1.cell? ⟨w4.heap.size, 0, none⟩ = some (.int .i64 q) ∧ W1.cell? ⟨x, 12, none⟩ = some (.int .i64 s.s)) ∧ Calls Try.prog 22 #[.pointer (some ⟨m, 0, none⟩)] W1 fun e W2 => ∃ A10 cp10, e = .returned (.slice A10 E.length cp10) ∧ (W2.cell? ⟨w4.heap.size, 0, none⟩ = some (.int .i64 q) ∧ W2.cell? ⟨x, 12, none⟩ = some (.int .i64 s.s)) ∧ Calls Try.prog 25 #[.slice A10 E.length cp10, .slice A1 E.length cp1] W2 fun e W3 => e = .returned (.bool true) ∧ (W3.cell? ⟨w4.heap.size, 0, none⟩ = some (.int .i64 q) ∧ W3.cell? ⟨x, 12, none⟩ = some (.int .i64 s.s)) ∧ Calls Try.prog 26 #[.pointer (some ⟨m, 0, none⟩)] W3 fun e W4 => e = .returned (.int .i64 s.s) ∧ (W4.cell? ⟨w4.heap.size, 0, none⟩ = some (.int .i64 q) ∧ W4.cell? ⟨x, 12, none⟩ = some (.int .i64 s.s)) ∧ Aside0 (Below w.heap.size w W4)) (by
  rintro e W1 ⟨rfl, q1⟩
  refine ⟨rfl, K _ q1, (pd_entries (hPd9.below q1) hO1.out.2.1).mono ?_⟩
  rintro e W2 ⟨A10, cp10, rfl, hV, q2⟩
  have b2 := below_then q1 q1.size q2
  refine ⟨A10, cp10, rfl, K _ b2, (same_any hV (Kd.V_step V9 (fun k hk hl => b2.block k hl)) hKA.out.2.2.1).mono ?_⟩
  rintro e W3 ⟨rfl, q3⟩
  have b3 := below_then b2 b2.size q3
  refine ⟨rfl, K _ b3, (pd_sends (hPd9.below b3)).mono ?_⟩
  rintro e W4 ⟨rfl, rfl⟩
  exact ⟨rfl, K _ b3, ⟨below_then hA0.out.1 hA0.out.1.size (hPd9.below b3).old⟩⟩)
 clear hPd9 bR9 K V9 hD
 go_region_held3 (fun w' => w'.cell? ⟨w4.heap.size, 0, none⟩ = some (.int .i64 q) ∧ w'.cell? ⟨x, 12, none⟩ = some (.int .i64 s.s)) (first | exact ⟨by assumption, by assumption⟩ | exact ⟨k0, k1⟩)
  (first
   | (go_at_call 21; refine LV.mono ?_; clear LV; rintro e_ W1 ⟨rfl, ⟨l0, l1⟩, PE⟩)
   | (go_at_call 22; refine PE.mono ?_; clear PE; rintro e_ W2 ⟨A10, cp10, rfl, ⟨l0, l1⟩, PM⟩)
   | (go_at_call 25; refine PM.mono ?_; clear PM; rintro e_ W3 ⟨rfl, ⟨l0, l1⟩, PS⟩)
   | (go_at_call 26; refine PS.mono ?_; clear PS; rintro e_ W4 ⟨rfl, ⟨l0, l1⟩, hBW⟩))
 go_wp2
 go_ret
 exact ⟨rfl, hBW.out⟩
theorem sends_bad {w : World} {c : Cf} {A : Option Addr} {cap : Nat} {l : List Dd28} (h : ¬ okC c = true) {b : List Ms} {A5 : Option Addr} {c5 : Nat} (k : ByteArray) :
  Calls Try.prog 5 #[aggC c, .slice A l.length cap, .slice A5 b.length c5, .string k] w fun e w' => e = .returned (.bool true) ∧ Below w.heap.size w w' := by
 have huc := Try.underlying47
 have B1 : Below w.heap.size w (w.alloc (objC c)) := below_alloc (Below.refl _ _) _
 have PL := played_bad (w := w.alloc (objC c)) (A := A) (cap := cap) (l := l) h
 have hA0 := aK_ B1
 clear B1 h
 go_enter Try.func5, Try.ntmps5
 go_wp2_with (first
  | (go_at_call 20; refine PL.mono ?_; clear PL; rintro e w1 ⟨rfl, hb1⟩; have hO1 := aK_ (below_then hA0.out hA0.out.size hb1); have LV := live_any w1; clear hb1)
  | (go_at_call 21; refine LV.mono ?_; clear LV; rintro e w3 ⟨rfl, hb3⟩))
 go_ret
 exact ⟨rfl, below_then hO1.out hO1.out.size hb3⟩
end Go.Proofs.Ytljnlnbopohghaa.Mdl
end
section
namespace Go.Proofs.Ytljnlnbopohghaa.P
open Go.RowKit Go.Proofs.YtljnlnbopohghaaW.PrintWords
def catchmentlaw28_ModelSends.f (k : Nat) (a0_0 a0_1 a0_2 a0_3 a0_4 a0_5 a0_6 a0_7 a0_8 : Int) (l1 : List S81) (l2 : List S117) (a3 : ByteArray) : Option Bool := if (l1.all Mdl.okd28 && l2.all Mdl.okM28) = true then some true else none
theorem catchmentlaw28_ModelSends.calls (k : Nat) (a0_0 a0_1 a0_2 a0_3 a0_4 a0_5 a0_6 a0_7 a0_8 : Int) (A1 : Option Addr) (c1 : Nat) (l1 : List S81) (A2 : Option Addr) (c2 : Nat) (l2 : List S117) (a3 : ByteArray) (r : Bool) (w : World) (hr1 : Kd.C k81 w A1 l1.length l1) (hc1 : l1.length ≤ c1) (hr2 : Kd.C k117 w A2 l2.length l2) (hc2 : l2.length ≤ c2) (h : catchmentlaw28_ModelSends.f k a0_0 a0_1 a0_2 a0_3 a0_4 a0_5 a0_6 a0_7 a0_8 l1 l2 a3 = some r) :
  Calls Try.prog 5 #[.agg #[.int .i64 a0_0, .int .i64 a0_1, .int .i64 a0_2, .int .i64 a0_3, .int .i64 a0_4, .int .i64 a0_5, .int .i64 a0_6, .int .i64 a0_7, .int .i64 a0_8], .slice A1 l1.length c1, .slice A2 l2.length c2, .string a3] w fun e w' => e = .returned (.bool r) ∧ Below w.heap.size w w' := by
 unfold catchmentlaw28_ModelSends.f at h
 split at h
 ·rename_i hq
  cases h
  rw [Bool.and_eq_true] at hq
  by_cases hc : Mdl.okC ⟨a0_0, a0_1, a0_2, a0_3, a0_4, a0_5, a0_6, a0_7, a0_8⟩ = true
  ·by_cases hf : (l2.length : Int) > 20
   ·exact Mdl.sends_long (c := ⟨a0_0, a0_1, a0_2, a0_3, a0_4, a0_5, a0_6, a0_7, a0_8⟩) hr1 hc1 (List.all_eq_true.1 hq.1) hc hr2 hc2 hq.2 a3 hf
   exact Mdl.sends_short (c := ⟨a0_0, a0_1, a0_2, a0_3, a0_4, a0_5, a0_6, a0_7, a0_8⟩) hr1 hc1 (List.all_eq_true.1 hq.1) hc hr2 hc2 hq.2 a3 hf
  exact Mdl.sends_bad (c := ⟨a0_0, a0_1, a0_2, a0_3, a0_4, a0_5, a0_6, a0_7, a0_8⟩) hc a3
 cases h
theorem catchmentlaw28_ModelSends.yes (a0_0 : Int) (a0_1 : Int) (a0_2 : Int) (a0_3 : Int) (a0_4 : Int) (a0_5 : Int) (a0_6 : Int) (a0_7 : Int) (a0_8 : Int) (l1 : List S81) (l2 : List S117) (a3 : ByteArray) (h : ∀ a ∈ l1, wf81 a) (hd : ∀ a ∈ l2, wf117 a) : catchmentlaw28_ModelSends.f 0 a0_0 a0_1 a0_2 a0_3 a0_4 a0_5 a0_6 a0_7 a0_8 l1 l2 a3 = some true := by
 refine if_pos ?_
 rw [Bool.and_eq_true]
 exact ⟨List.all_eq_true.2 fun d hd => Mdl.okd28_wf (h d hd), Mdl.okM28_wf hd⟩
end Go.Proofs.Ytljnlnbopohghaa.P
end
section
namespace Go.Proofs.Ytljnlnbopohghaa.Pure
open Go.RowKit Go.Proofs.Ytljnlnbopohghaa.P Go.Proofs.YtljnlnbopohghaaW.PrintWords Go.Proofs.YtljnlnbopohghaaW.PrintLast Go.Proofs.YtljnlnbopohghaaW.PrintMore
theorem ModelSends : ∀ (x0 : S47) (x1 : (List S81)) (x2 : (List S117)) (x3 : ByteArray), (wf47 x0) → (x1.length * 80 ≤ 140737488351232 ∧ ∀ a_ ∈ x1, wf81 a_) → (x2.length * 72 ≤ 140737488351232 ∧ ∀ a_ ∈ x2, wf117 a_) → (x3.size ≤ 140737488351232) → ∃ k, catchmentlaw28_ModelSends.f k x0.f0 x0.f1 x0.f2 x0.f3 x0.f4 x0.f5 x0.f6 x0.f7 x0.f8 x1 x2 x3 = some true := by
 intro x0 x1 x2 x3 h0 h1 h2 h3; exact ⟨0, catchmentlaw28_ModelSends.yes _ _ _ _ _ _ _ _ _ _ _ _ h1.2 h2.2⟩
end Go.Proofs.Ytljnlnbopohghaa.Pure
end
section
namespace Go.Proofs.Ytljnlnbopohghaa.modelSends
open Go.ChangeShapes Go.WideShapes Go.ChangeAt Go.RowKit Go.Proofs.Ytljnlnbopohghaa.P Go.Proofs.Ytljnlnbopohghaa.Rd Go.Proofs.YtljnlnbopohghaaW.PrintWords
open Go.ChangeMaps (open_string shut_string)
theorem own : ownKnob Try.prog.godebug = none := by kernel_rfl
theorem laidOut : laidOutB Try.prog = true := by kernel_rfl
set_option maxHeartbeats 2000000 in
set_option maxRecDepth 100000 in
theorem lifted (os : Os) (started : os.Started) (H : Type) (enc : TypeId × Value → H) :
  ReturnsInHanded {} Try.checked os 5 .any (Rows.modelSendsSpec.pre6 enc Try.prog Try.f5 Rows.modelSendsRow.domain false) (Rows.modelSendsSpec.post enc Try.prog Try.f5 false true false false) := by
 refine returnsInHanded_of_change_sized (C := Try.checked) own started (by kernel_rfl) Try.func5
  (ChangeSpec.witness6 (enc := enc) (C := Try.checked) false ⟨#[], #[.agg #[.int .i64 0, .int .i64 0, .int .i64 0, .int .i64 0, .int .i64 0, .int .i64 0, .int .i64 0, .int .i64 0, .int .i64 0], .slice none 0 0, .slice none 0 0, .string ByteArray.empty], []⟩ 8 (by kernel_rfl) (by kernel_rfl) (by kernel_rfl) (by kernel_rfl)) ?_
 intro W base args ds gs before hval0 hW hcnd hsz0 _
 have hsz : (DataW.weightsEach Try.prog (Try.f5.params.toList ++ Rows.modelSendsSpec.plain.varTypes Try.prog) (ds ++ gs)).all (· ≤ reachBytes) = true := hsz0
 have hval : ∀ (j : Nat) t v, Try.f5.params[j]? = some t → args[j]? = some v → Value.okWide Try.prog W .any base t v := hval0
 have hW' := hW
 obtain ⟨p, q, hA0, hV, rfl, hfz, hnd⟩ := hW
 have hA : DataW.TrodAll enc Try.prog W 0 (fun _ => true) true Try.f5.params.toList args.toList ds p := hA0
 rw [Try.params5] at hA hval hsz
 obtain ⟨v0, vs0, d0, ds0, p0, q0, hargs, rfl, rfl, h0, r0⟩ := trodAll_cons hA
 obtain ⟨v1, vs1, d1, ds1, p1, q1, rfl, rfl, rfl, h1, r1⟩ := trodAll_cons r0
 obtain ⟨v2, vs2, d2, ds2, p2, q2, rfl, rfl, rfl, h2, r2⟩ := trodAll_cons r1
 obtain ⟨v3, vs3, d3, ds3, p3, q3, rfl, rfl, rfl, h3, r3⟩ := trodAll_cons r2
 obtain ⟨rfl, rfl, rfl⟩ := trodAll_nil r3
 obtain rfl : args = #[v0, v1, v2, v3] := by cases args; simp_all
 obtain ⟨rfl, rfl⟩ := trodVars_none hV
 have k0 := h0
 have lt0 : ∀ x ∈ p0, x.block < W.heap.size := by obtain ⟨m, hm⟩ := k0; exact DataW.trod_lt m _ _ _ hm
 have ww0 : ∀ n ∈ d0.weights Try.prog 47, n ≤ reachBytes := fun n hn => by simpa using List.all_eq_true.1 hsz n (DataW.weights_mem_each (j := 0) rfl rfl n hn)
 obtain ⟨cs0, rfl, _⟩ := okWide_struct Try.underlying47 (hval 0 47 v0 rfl rfl)
 obtain ⟨fu0, hf0⟩ := h0
 obtain ⟨x0, kx0, w0⟩ := o47.down hf0 ww0
 have e0 := k47_open kx0
 obtain rfl : cs0 = #[.int .i64 x0.f0, .int .i64 x0.f1, .int .i64 x0.f2, .int .i64 x0.f3, .int .i64 x0.f4, .int .i64 x0.f5, .int .i64 x0.f6, .int .i64 x0.f7, .int .i64 x0.f8] := Array.toList_inj.1 (show cs0.toList = (#[.int .i64 x0.f0, .int .i64 x0.f1, .int .i64 x0.f2, .int .i64 x0.f3, .int .i64 x0.f4, .int .i64 x0.f5, .int .i64 x0.f6, .int .i64 x0.f7, .int .i64 x0.f8] : Array Value).toList from e0)
 have k1 := h1
 have lt1 : ∀ x ∈ p1, x.block < W.heap.size := by obtain ⟨m, hm⟩ := k1; exact DataW.trod_lt m _ _ _ hm
 have ww1 : ∀ n ∈ d1.weights Try.prog 48, n ≤ reachBytes := fun n hn => by simpa using List.all_eq_true.1 hsz n (DataW.weights_mem_each (j := 1) rfl rfl n hn)
 obtain ⟨ad1, len1, cap1, rfl⟩ := okWide_slice Try.underlying48 (hval 1 48 v1 rfl rfl)
 obtain ⟨fu1, hf1⟩ := h1
 obtain ⟨x1, kx1, w1⟩ := o48.down hf1 ww1
 obtain ⟨A1, c1, e1, hc1, hr1⟩ := kx1
 obtain ⟨rfl, rfl, rfl⟩ : ad1 = A1 ∧ len1 = x1.length ∧ cap1 = c1 := by simpa [Value.cells] using e1
 have k2 := h2
 have lt2 : ∀ x ∈ p2, x.block < W.heap.size := by obtain ⟨m, hm⟩ := k2; exact DataW.trod_lt m _ _ _ hm
 have ww2 : ∀ n ∈ d2.weights Try.prog 49, n ≤ reachBytes := fun n hn => by simpa using List.all_eq_true.1 hsz n (DataW.weights_mem_each (j := 2) rfl rfl n hn)
 obtain ⟨ad2, len2, cap2, rfl⟩ := okWide_slice Try.underlying49 (hval 2 49 v2 rfl rfl)
 obtain ⟨fu2, hf2⟩ := h2
 obtain ⟨x2, kx2, w2⟩ := o49.down hf2 ww2
 obtain ⟨A2, c2, e2, hc2, hr2⟩ := kx2
 obtain ⟨rfl, rfl, rfl⟩ : ad2 = A2 ∧ len2 = x2.length ∧ cap2 = c2 := by simpa [Value.cells] using e2
 have k3 := h3
 have lt3 : ∀ x ∈ p3, x.block < W.heap.size := by obtain ⟨m, hm⟩ := k3; exact DataW.trod_lt m _ _ _ hm
 have ww3 : ∀ n ∈ d3.weights Try.prog 9, n ≤ reachBytes := fun n hn => by simpa using List.all_eq_true.1 hsz n (DataW.weights_mem_each (j := 3) rfl rfl n hn)
 obtain ⟨y3, rfl⟩ := okWide_string Try.underlying9 (hval 3 9 v3 rfl rfl)
 obtain ⟨fu3, hf3⟩ := h3
 obtain ⟨x3, kx3, w3⟩ := o9.down hf3 ww3
 obtain rfl : x3 = y3 := Eq.symm (by simpa [Value.cells, Kd.string, Kd.scalar] using kx3)
 clear hA0 hval0 hsz0 hsz
 obtain ⟨k_, hp⟩ := Pure.ModelSends x0 x1 x2 x3 w0 w1 w2 w3
 refine (catchmentlaw28_ModelSends.calls (k := k_) (r := true) (w := W) (hr1 := hr1) (hc1 := hc1) (hr2 := hr2) (hc2 := hc2) (h := hp)).mono fun e W' ⟨he, bel0⟩ => ?_
 have bel : Below W.heap.size W W' := bel0
 subst he
 exact ⟨_, rfl, _, _, _, [], _, [], hW', trodAll_mk1 (shut_bool Try.underlying4 _), (trodAll_cons_mk (Below.trod laidOut (by kernel_rfl) (of_decide_eq_true (by kernel_rfl)) k0 bel lt0) (trodAll_cons_mk (Below.trod laidOut (by kernel_rfl) (of_decide_eq_true (by kernel_rfl)) k1 bel lt1) (trodAll_cons_mk (Below.trod laidOut (by kernel_rfl) (of_decide_eq_true (by kernel_rfl)) k2 bel lt2) (trodAll_cons_mk (Below.trod laidOut (by kernel_rfl) (of_decide_eq_true (by kernel_rfl)) k3 bel lt3) trodAll_mk0)))), rfl, bel.frame _, fun h => by cases h⟩
theorem over : Rows.modelSendsRow.holds Try.pinned (OpenSpec.ofChange Rows.modelSendsSpec) :=
 OpenClaim.holds_of_wide 5 Try.f5 rfl rfl rfl rfl rfl rfl rfl ⟨rfl, rfl, rfl, rfl, rfl⟩ rfl rfl rfl rfl rfl (by kernel_rfl) Try.func5 (by kernel_rfl)
  (of_decide_eq_true (by kernel_rfl)) (by unfold Func.isWrapper; first | (rw [if_pos (by decide +kernel)]; kernel_rfl) | (rw [if_neg (by decide +kernel)]; exact ⟨rfl, rfl⟩))
  (fun os started H enc _ => lifted os started H enc)
end Go.Proofs.Ytljnlnbopohghaa.modelSends
namespace Go.Proofs.Ytljnlnbopohghaa
theorem modelSends_holds : Rows.ModelSendsSaid := modelSends.over
#print axioms modelSends_holds
end Go.Proofs.Ytljnlnbopohghaa
end
