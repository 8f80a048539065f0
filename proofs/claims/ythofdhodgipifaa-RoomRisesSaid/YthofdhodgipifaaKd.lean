/- What the laws' parameters say when they are read: each type's 'Opens', out of the fields' (laid by rowgen.py). -/
import Derived.Test.YthofdhodgipifaaRd
import Derived.Test.YthofdhodgipifaaP0
namespace Go.Proofs.Ythofdhodgipifaa.P
open Go.RowKit Go.Proofs.Ythofdhodgipifaa.Rd Go.Proofs.YthofdhodgipifaaW.PrintWords
/-! #### struct type 23 -/
structure S23 where
  f0 : Int
  f1 : Int
  f2 : Int
  f3 : Int
  f4 : Int
  f5 : Int
  f6 : Int
  f7 : Int
  f8 : Int
def z23 : S23 := ⟨(0 : Int), (0 : Int), (0 : Int), (0 : Int), (0 : Int), (0 : Int), (0 : Int), (0 : Int), (0 : Int)⟩
def k23 : Kd S23 := Kd.iso (Kd.pair (Kd.int .i64) (Kd.pair (Kd.int .i64) (Kd.pair (Kd.int .i64) (Kd.pair (Kd.int .i64) (Kd.pair (Kd.int .i64) (Kd.pair (Kd.int .i64) (Kd.pair (Kd.int .i64) (Kd.pair (Kd.int .i64) (Kd.int .i64))))))))) (fun x : S23 => (x.f0, x.f1, x.f2, x.f3, x.f4, x.f5, x.f6, x.f7, x.f8))
theorem k23_open {w : World} {x : S23} {cs : List Value} (h : k23.K w x cs) : cs = [.int .i64 x.f0, .int .i64 x.f1, .int .i64 x.f2, .int .i64 x.f3, .int .i64 x.f4, .int .i64 x.f5, .int .i64 x.f6, .int .i64 x.f7, .int .i64 x.f8] := by
  obtain ⟨_, _, rfl, rfl, ⟨_, _, rfl, rfl, ⟨_, _, rfl, rfl, ⟨_, _, rfl, rfl, ⟨_, _, rfl, rfl, ⟨_, _, rfl, rfl, ⟨_, _, rfl, rfl, ⟨_, _, rfl, rfl, rfl⟩⟩⟩⟩⟩⟩⟩⟩ := h
  exact rfl
/-! #### struct type 27 -/
structure S27 where
  f0 : Int
  f1 : ByteArray
  f2 : ByteArray
  f3 : Int
  f4 : (List S47)
def z27 : S27 := ⟨(0 : Int), (⟨#[]⟩ : ByteArray), (⟨#[]⟩ : ByteArray), (0 : Int), ([] : List S47)⟩
def k27 : Kd S27 := Kd.iso (Kd.pair (Kd.int .u8) (Kd.pair Kd.string (Kd.pair Kd.string (Kd.pair (Kd.int .i64) (Kd.slice 47 k47))))) (fun x : S27 => (x.f0, x.f1, x.f2, x.f3, x.f4))
theorem k27_open {w : World} {x : S27} {cs : List Value} (h : k27.K w x cs) : ∃ A4 c4, cs = [.int .u8 x.f0, .string x.f1, .string x.f2, .int .i64 x.f3, .slice A4 x.f4.length c4] ∧ x.f4.length ≤ c4 ∧ k47.C w A4 x.f4.length x.f4 := by
  obtain ⟨_, _, rfl, rfl, ⟨_, _, rfl, rfl, ⟨_, _, rfl, rfl, ⟨_, _, rfl, rfl, ⟨A4, c4, rfl, l4, g4⟩⟩⟩⟩⟩ := h
  exact ⟨A4, c4, rfl, l4, g4⟩
theorem o3 : Opens Try.prog 3 (Kd.int .i64) (fun n => (Lit.int .i64 n).wf = true) := Opens.int Try.underlying3 (by kernel_rfl)
def wf23 (x : S23) : Prop := ((Lit.int .i64 x.f0).wf = true) ∧ ((Lit.int .i64 x.f1).wf = true) ∧ ((Lit.int .i64 x.f2).wf = true) ∧ ((Lit.int .i64 x.f3).wf = true) ∧ ((Lit.int .i64 x.f4).wf = true) ∧ ((Lit.int .i64 x.f5).wf = true) ∧ ((Lit.int .i64 x.f6).wf = true) ∧ ((Lit.int .i64 x.f7).wf = true) ∧ ((Lit.int .i64 x.f8).wf = true)
theorem o23 : Opens Try.prog 23 k23 wf23 := Opens.iso (g := fun p_ => (⟨p_.1, p_.2.1, p_.2.2.1, p_.2.2.2.1, p_.2.2.2.2.1, p_.2.2.2.2.2.1, p_.2.2.2.2.2.2.1, p_.2.2.2.2.2.2.2.1, p_.2.2.2.2.2.2.2.2⟩ : S23)) (fun _ => rfl) (Opens.struct Try.underlying23 (by kernel_rfl) (OpensFs.cons rfl o3 rfl (OpensFs.cons rfl o3 rfl (OpensFs.cons rfl o3 rfl (OpensFs.cons rfl o3 rfl (OpensFs.cons rfl o3 rfl (OpensFs.cons rfl o3 rfl (OpensFs.cons rfl o3 rfl (OpensFs.cons rfl o3 rfl (OpensFs.one rfl o3))))))))))
theorem o24 : Opens Try.prog 24 (Kd.int .u8) (fun n => (Lit.int .u8 n).wf = true) := Opens.int Try.underlying24 (by kernel_rfl)
theorem o9 : Opens Try.prog 9 Kd.string (fun x_ => x_.size ≤ 140737488351232) := Opens.string Try.underlying9 (by kernel_rfl)
theorem o44 : Opens Try.prog 44 (Kd.int .u8) (fun n => (Lit.int .u8 n).wf = true) := Opens.int Try.underlying44 (by kernel_rfl)
theorem o45 : Opens Try.prog 45 (Kd.int .u64) (fun n => (Lit.int .u64 n).wf = true) := Opens.int Try.underlying45 (by kernel_rfl)
def wf47 (x : S47) : Prop := ((Lit.int .u8 x.f0).wf = true) ∧ ((Lit.int .i64 x.f1).wf = true) ∧ (x.f2.size ≤ 140737488351232) ∧ (x.f3.size ≤ 140737488351232) ∧ (x.f4.size ≤ 140737488351232) ∧ ((Lit.int .u64 x.f5).wf = true)
theorem o47 : Opens Try.prog 47 k47 wf47 := Opens.iso (g := fun p_ => (⟨p_.1, p_.2.1, p_.2.2.1, p_.2.2.2.1, p_.2.2.2.2.1, p_.2.2.2.2.2⟩ : S47)) (fun _ => rfl) (Opens.struct Try.underlying47 (by kernel_rfl) (OpensFs.cons rfl o44 rfl (OpensFs.cons rfl o3 rfl (OpensFs.cons rfl o9 rfl (OpensFs.cons rfl o9 rfl (OpensFs.cons rfl o9 rfl (OpensFs.one rfl o45)))))))
theorem o25 : Opens Try.prog 25 (Kd.slice 47 k47) (fun x_ => x_.length * 72 ≤ 140737488351232 ∧ ∀ a_ ∈ x_, wf47 a_) := Opens.slice Try.underlying25 (by kernel_rfl) (by kernel_rfl) o47
def wf27 (x : S27) : Prop := ((Lit.int .u8 x.f0).wf = true) ∧ (x.f1.size ≤ 140737488351232) ∧ (x.f2.size ≤ 140737488351232) ∧ ((Lit.int .i64 x.f3).wf = true) ∧ (x.f4.length * 72 ≤ 140737488351232 ∧ ∀ a_ ∈ x.f4, wf47 a_)
theorem o27 : Opens Try.prog 27 k27 wf27 := Opens.iso (g := fun p_ => (⟨p_.1, p_.2.1, p_.2.2.1, p_.2.2.2.1, p_.2.2.2.2⟩ : S27)) (fun _ => rfl) (Opens.struct Try.underlying27 (by kernel_rfl) (OpensFs.cons rfl o24 rfl (OpensFs.cons rfl o9 rfl (OpensFs.cons rfl o9 rfl (OpensFs.cons rfl o3 rfl (OpensFs.one rfl o25))))))
theorem o5 : Opens Try.prog 5 (Kd.int .u8) (fun n => (Lit.int .u8 n).wf = true) := Opens.int Try.underlying5 (by kernel_rfl)
end Go.Proofs.Ythofdhodgipifaa.P
