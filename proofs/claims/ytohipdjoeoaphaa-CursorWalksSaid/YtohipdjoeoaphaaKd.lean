/- What the laws' parameters say when they are read: each type's 'Opens', out of the fields' (laid by rowgen.py). -/
import Derived.Test.YtohipdjoeoaphaaRd
import Derived.Test.YtohipdjoeoaphaaP0
namespace Go.Proofs.Ytohipdjoeoaphaa.P
open Go.RowKit Go.Proofs.Ytohipdjoeoaphaa.Rd Go.Proofs.YtohipdjoeoaphaaW.PrintWords
/-! #### struct type 23 -/
structure S23 where
  f0 : ByteArray
  f1 : ByteArray
def z23 : S23 := ⟨(⟨#[]⟩ : ByteArray), (⟨#[]⟩ : ByteArray)⟩
def k23 : Kd S23 := Kd.iso (Kd.pair Kd.string Kd.string) (fun x : S23 => (x.f0, x.f1))
theorem k23_open {w : World} {x : S23} {cs : List Value} (h : k23.K w x cs) : cs = [.string x.f0, .string x.f1] := by
  obtain ⟨_, _, rfl, rfl, rfl⟩ := h
  exact rfl
/-! #### struct type 34 -/
structure S34 where
  f0 : Int
  f1 : Int
  f2 : Int
  f3 : S23
  f4 : (List S39)
def z34 : S34 := ⟨(0 : Int), (0 : Int), (0 : Int), z23, ([] : List S39)⟩
def k34 : Kd S34 := Kd.iso (Kd.pair (Kd.int .i64) (Kd.pair (Kd.int .i64) (Kd.pair (Kd.int .i64) (Kd.pair k23 (Kd.slice 39 k39))))) (fun x : S34 => (x.f0, x.f1, x.f2, x.f3, x.f4))
theorem k34_open {w : World} {x : S34} {cs : List Value} (h : k34.K w x cs) : ∃ A5 c5, cs = [.int .i64 x.f0, .int .i64 x.f1, .int .i64 x.f2, .string x.f3.f0, .string x.f3.f1, .slice A5 x.f4.length c5] ∧ x.f4.length ≤ c5 ∧ k39.C w A5 x.f4.length x.f4 := by
  obtain ⟨_, _, rfl, rfl, ⟨_, _, rfl, rfl, ⟨_, _, rfl, rfl, ⟨_, _, rfl, s3, ⟨A5, c5, rfl, l5, g5⟩⟩⟩⟩⟩ := h
  obtain rfl := k23_open s3
  exact ⟨A5, c5, rfl, l5, g5⟩
theorem o9 : Opens Try.prog 9 Kd.string (fun x_ => x_.size ≤ 140737488351232) := Opens.string Try.underlying9 (by kernel_rfl)
def wf23 (x : S23) : Prop := (x.f0.size ≤ 140737488351232) ∧ (x.f1.size ≤ 140737488351232)
theorem o23 : Opens Try.prog 23 k23 wf23 := Opens.iso (g := fun p_ => (⟨p_.1, p_.2⟩ : S23)) (fun _ => rfl) (Opens.struct Try.underlying23 (by kernel_rfl) (OpensFs.cons rfl o9 rfl (OpensFs.one rfl o9)))
theorem o3 : Opens Try.prog 3 (Kd.int .i64) (fun n => (Lit.int .i64 n).wf = true) := Opens.int Try.underlying3 (by kernel_rfl)
def wf39 (x : S39) : Prop := (x.f0.size ≤ 140737488351232) ∧ (x.f1.size ≤ 140737488351232)
theorem o39 : Opens Try.prog 39 k39 wf39 := Opens.iso (g := fun p_ => (⟨p_.1, p_.2⟩ : S39)) (fun _ => rfl) (Opens.struct Try.underlying39 (by kernel_rfl) (OpensFs.cons rfl o9 rfl (OpensFs.one rfl o9)))
theorem o32 : Opens Try.prog 32 (Kd.slice 39 k39) (fun x_ => x_.length * 32 ≤ 140737488351232 ∧ ∀ a_ ∈ x_, wf39 a_) := Opens.slice Try.underlying32 (by kernel_rfl) (by kernel_rfl) o39
def wf34 (x : S34) : Prop := ((Lit.int .i64 x.f0).wf = true) ∧ ((Lit.int .i64 x.f1).wf = true) ∧ ((Lit.int .i64 x.f2).wf = true) ∧ (wf23 x.f3) ∧ (x.f4.length * 32 ≤ 140737488351232 ∧ ∀ a_ ∈ x.f4, wf39 a_)
theorem o34 : Opens Try.prog 34 k34 wf34 := Opens.iso (g := fun p_ => (⟨p_.1, p_.2.1, p_.2.2.1, p_.2.2.2.1, p_.2.2.2.2⟩ : S34)) (fun _ => rfl) (Opens.struct Try.underlying34 (by kernel_rfl) (OpensFs.cons rfl o3 rfl (OpensFs.cons rfl o3 rfl (OpensFs.cons rfl o3 rfl (OpensFs.cons rfl o23 rfl (OpensFs.one rfl o32))))))
theorem o24 : Opens Try.prog 24 (Kd.slice 34 k34) (fun x_ => x_.length * 80 ≤ 140737488351232 ∧ ∀ a_ ∈ x_, wf34 a_) := Opens.slice Try.underlying24 (by kernel_rfl) (by kernel_rfl) o34
theorem o5 : Opens Try.prog 5 (Kd.int .u8) (fun n => (Lit.int .u8 n).wf = true) := Opens.int Try.underlying5 (by kernel_rfl)
end Go.Proofs.Ytohipdjoeoaphaa.P
