/- What the laws' parameters say when they are read: each type's 'Opens', out of the fields' (laid by rowgen.py). -/
import Derived.Test.YtdbkjpnejihnhaaRd
import Derived.Test.YtdbkjpnejihnhaaP0
namespace Go.Proofs.Ytdbkjpnejihnhaa.P
open Go.RowKit Go.Proofs.Ytdbkjpnejihnhaa.Rd Go.Proofs.YtdbkjpnejihnhaaW.PrintWords
/-! #### struct type 49 -/
structure S49 where
  f0 : Int
  f1 : ByteArray
  f2 : ByteArray
  f3 : Int
def z49 : S49 := ⟨(0 : Int), (⟨#[]⟩ : ByteArray), (⟨#[]⟩ : ByteArray), (0 : Int)⟩
def k49 : Kd S49 := Kd.iso (Kd.pair (Kd.int .i64) (Kd.pair Kd.string (Kd.pair Kd.string (Kd.int .i64)))) (fun x : S49 => (x.f0, x.f1, x.f2, x.f3))
theorem k49_open {w : World} {x : S49} {cs : List Value} (h : k49.K w x cs) : cs = [.int .i64 x.f0, .string x.f1, .string x.f2, .int .i64 x.f3] := by
  obtain ⟨_, _, rfl, rfl, ⟨_, _, rfl, rfl, ⟨_, _, rfl, rfl, rfl⟩⟩⟩ := h
  exact rfl
theorem o3 : Opens Try.prog 3 (Kd.int .i64) (fun n => (Lit.int .i64 n).wf = true) := Opens.int Try.underlying3 (by kernel_rfl)
theorem o22 : Opens Try.prog 22 (Kd.slice 3 (Kd.int .i64)) (fun x_ => x_.length * 8 ≤ 140737488351232 ∧ ∀ a_ ∈ x_, (Lit.int .i64 a_).wf = true) := Opens.slice Try.underlying22 (by kernel_rfl) (by kernel_rfl) o3
theorem o9 : Opens Try.prog 9 Kd.string (fun x_ => x_.size ≤ 140737488351232) := Opens.string Try.underlying9 (by kernel_rfl)
def wf49 (x : S49) : Prop := ((Lit.int .i64 x.f0).wf = true) ∧ (x.f1.size ≤ 140737488351232) ∧ (x.f2.size ≤ 140737488351232) ∧ ((Lit.int .i64 x.f3).wf = true)
theorem o49 : Opens Try.prog 49 k49 wf49 := Opens.iso (g := fun p_ => (⟨p_.1, p_.2.1, p_.2.2.1, p_.2.2.2⟩ : S49)) (fun _ => rfl) (Opens.struct Try.underlying49 (by kernel_rfl) (OpensFs.cons rfl o3 rfl (OpensFs.cons rfl o9 rfl (OpensFs.cons rfl o9 rfl (OpensFs.one rfl o3)))))
theorem o34 : Opens Try.prog 34 (Kd.slice 49 k49) (fun x_ => x_.length * 48 ≤ 140737488351232 ∧ ∀ a_ ∈ x_, wf49 a_) := Opens.slice Try.underlying34 (by kernel_rfl) (by kernel_rfl) o49
theorem o5 : Opens Try.prog 5 (Kd.int .u8) (fun n => (Lit.int .u8 n).wf = true) := Opens.int Try.underlying5 (by kernel_rfl)
end Go.Proofs.Ytdbkjpnejihnhaa.P
