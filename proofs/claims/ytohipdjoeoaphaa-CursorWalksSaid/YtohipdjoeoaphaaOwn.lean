/- Words of this seat's own beside the printed ones: the greater of two texts; '<=', '>', '>=' of texts, as the print spells them. -/
import Derived.Test.YtohipdjoeoaphaaWMore
import Derived.Test.YtohipdjoeoaphaaBo
import Derived.Laws.Strings
import Derived.Laws.Small
namespace Go.Proofs.Ytohipdjoeoaphaa.Own
open Go.RowKit
/-- The greater of two texts, as Go's max tells it. -/
def mxs (a b : ByteArray) : ByteArray := if Op.bytesLess a.toList b.toList = true then b else a
theorem max2_str (x y : ByteArray) : Builtin.max2 (.string x) (.string y) = pure (.string (mxs x y)) := by
  unfold mxs
  simp only [Builtin.max2, Op.stringOp, asBool]
  cases h : Op.bytesLess x.toList y.toList <;> simp
theorem leq_bool (a b : List UInt8) : (Op.bytesLess a b || a == b) = !(Op.bytesLess b a) := by
  rcases Bo.le_or a b with h | h | h
  · simp [h, Bo.asymm h]
  · subst h; simp [Bo.irrefl]
  · have h1 := Bo.asymm h
    have h2 : (a == b) = false := by
      cases e : a == b with
      | false => rfl
      | true => exact (Bo.irrefl' (by rw [beq_iff_eq] at e; rw [e] at h; exact h)).elim
    simp [h, h1, h2]
@[go_sem] theorem string_leq (t : TypeId) (a b : ByteArray) : binOp .leq t (.string a) (.string b) = pure (.bool !(Op.bytesLess b.toList a.toList)) := by
  rw [← leq_bool]; simp [binOp, Op.stringOp]
@[go_sem] theorem string_gtr (t : TypeId) (a b : ByteArray) : binOp .gtr t (.string a) (.string b) = pure (.bool (Op.bytesLess b.toList a.toList)) := by
  have := leq_bool a.toList b.toList
  simp [binOp, Op.stringOp, this]
@[go_sem] theorem string_geq (t : TypeId) (a b : ByteArray) : binOp .geq t (.string a) (.string b) = pure (.bool !(Op.bytesLess a.toList b.toList)) := by simp [binOp, Op.stringOp]
@[simp] theorem not_bne_nil (l : List UInt8) : (!(l != [])) = l.isEmpty := by cases l <;> rfl
/-- A short name, so that the laid texts stay below a claim's size. -/
abbrev BA := ByteArray
end Go.Proofs.Ytohipdjoeoaphaa.Own
