/- Words on texts: equal where their bytes are, and what they are behind each other. -/
import Derived.Test.YtohipdjoeoaphaaBo
import Derived.Test.YtohipdjoeoaphaaOwn
import Derived.Lib.Strings
set_option linter.unusedVariables false
set_option linter.unusedSimpArgs false
namespace Go.Proofs.Ytohipdjoeoaphaa.P
open Go.RowKit Go.Proofs.YtohipdjoeoaphaaW.PrintWords Go.Proofs.YtohipdjoeoaphaaW.PrintLast Go.Proofs.YtohipdjoeoaphaaW.PrintMore Go.Proofs.Ytohipdjoeoaphaa.Own Go.Proofs.Ytohipdjoeoaphaa

theorem ba_ext {a b : ByteArray} (h : a.toList = b.toList) : a = b := by
  rw [Lib.toList_data, Lib.toList_data] at h
  cases a; cases b
  simp only [ByteArray.mk.injEq]
  exact Array.toList_inj.1 h
theorem ba_eq {a b : ByteArray} : a.toList = b.toList ↔ a = b := ⟨ba_ext, fun h => by rw [h]⟩
theorem ba_append (a b : ByteArray) : (a ++ b).toList = a.toList ++ b.toList := by
  rw [Lib.toList_data, Lib.toList_data, Lib.toList_data]
  simp
theorem ba_mk (l : Array UInt8) : (⟨l⟩ : ByteArray).toList = l.toList := by rw [Lib.toList_data]
theorem ba_size (a : ByteArray) : a.size = a.toList.length := by rw [Lib.toList_data]; simp

end Go.Proofs.Ytohipdjoeoaphaa.P
