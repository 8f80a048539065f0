/- Texts of one claim (laid by shake.py). -/
import Derived.Test.YtljnlnbopohghaaZWa2
import Derived.Test.YtljnlnbopohghaaZWa0
import Derived.Laws.Strings
import Derived.Laws.Small
import Derived.Lib.Strings
set_option linter.unusedVariables false
set_option linter.unusedSimpArgs false
section
namespace Go.Proofs.Ytljnlnbopohghaa.Own
open Go.RowKit
def mxs (a b : ByteArray) : ByteArray := if Op.bytesLess a.toList b.toList = true then b else a
theorem max2_str (x y : ByteArray) : Builtin.max2 (.string x) (.string y) = pure (.string (mxs x y)) := by
 unfold mxs
 simp only [Builtin.max2, Op.stringOp, asBool]
 cases h : Op.bytesLess x.toList y.toList <;> simp
theorem leq_bool (a b : List UInt8) : (Op.bytesLess a b || a == b) = !(Op.bytesLess b a) := by
 rcases Bo.le_or a b with h | h | h
 ·simp [h, Bo.asymm h]
 ·subst h; simp [Bo.irrefl]
 have h1 := Bo.asymm h
 have h2 : (a == b) = false := by
  cases e : a == b with
  | false => rfl
  | true => exact (Bo.irrefl' (by rw [beq_iff_eq] at e; rw [e] at h; exact h)).elim
 simp [h, h1, h2]
@[go_sem] theorem string_leq (t : TypeId) (a b : ByteArray) : binOp .leq t (.string a) (.string b) = pure (.bool !(Op.bytesLess b.toList a.toList)) := by
 rw [← leq_bool]; simp [binOp, Op.stringOp]
@[go_sem] theorem string_gtr (t : TypeId) (a b : ByteArray) : binOp .gtr t (.string a) (.string b) = pure (.bool (Op.bytesLess b.toList a.toList)) := by
 have := leq_bool a.toList b.toList
 simp [binOp, Op.stringOp, this]
@[go_sem] theorem string_geq (t : TypeId) (a b : ByteArray) : binOp .geq t (.string a) (.string b) = pure (.bool !(Op.bytesLess a.toList b.toList)) := by simp [binOp, Op.stringOp]
@[simp] theorem not_bne_nil (l : List UInt8) : (!(l != [])) = l.isEmpty := by cases l <;> rfl
abbrev BA := ByteArray
end Go.Proofs.Ytljnlnbopohghaa.Own
end
section
namespace Go.Proofs.Ytljnlnbopohghaa.P
open Go.RowKit Go.Proofs.YtljnlnbopohghaaW.PrintWords Go.Proofs.YtljnlnbopohghaaW.PrintLast Go.Proofs.YtljnlnbopohghaaW.PrintMore Go.Proofs.Ytljnlnbopohghaa.Own Go.Proofs.Ytljnlnbopohghaa
theorem ba_ext {a b : ByteArray} (h : a.toList = b.toList) : a = b := by
 rw [Lib.toList_data, Lib.toList_data] at h
 cases a; cases b
 simp only [ByteArray.mk.injEq]
 exact Array.toList_inj.1 h
theorem ba_eq {a b : ByteArray} : a.toList = b.toList ↔ a = b := ⟨ba_ext, fun h => by rw [h]⟩
theorem ba_append (a b : ByteArray) : (a ++ b).toList = a.toList ++ b.toList := by
 rw [Lib.toList_data, Lib.toList_data, Lib.toList_data]
 simp
theorem ba_mk (l : Array UInt8) : (⟨l⟩ : ByteArray).toList = l.toList := by rw [Lib.toList_data]
theorem ba_size (a : ByteArray) : a.size = a.toList.length := by rw [Lib.toList_data]; simp
def lt (a b : ByteArray) : Bool := Op.bytesLess a.toList b.toList
def emp (a : ByteArray) : Bool := decide (a.toList = [])
def same (a b : ByteArray) : Bool := decide (a.toList = b.toList)
abbrev e0 : ByteArray := ⟨#[]⟩
theorem emp_e0 : emp e0 = true := by simp [emp, ba_mk]
theorem same_iff {a b : ByteArray} : same a b = true ↔ a = b := by simp [same, ba_eq]
theorem emp_iff {a : ByteArray} : emp a = true ↔ a = e0 := by
 have h : (e0 : ByteArray).toList = [] := by simp [ba_mk]
 simp only [emp, decide_eq_true_eq]
 exact ⟨fun h2 => ba_ext (h2.trans h.symm), fun h2 => by rw [h2]; exact h⟩
def isPt (k : Int) : Bool := decide (k = 1 ∨ k = 2 ∨ k = 3)
def rr (f t : ByteArray) : Bool := emp t || lt f t
def holds (f t s : ByteArray) : Bool := !lt s f && (emp t || lt s t)
def before (a b : ByteArray) : Bool := !emp a && (emp b || lt a b)
def succB (a : ByteArray) : ByteArray := a ++ ⟨#[0]⟩
def span (k : Int) (y t : ByteArray) : ByteArray × ByteArray := if isPt k = true then (y, succB y) else if k = 4 then (y, t) else (e0, e0)
theorem isPt_ne4 {k : Int} (h : isPt k = true) : ¬ k = 4 := by
 simp only [isPt, decide_eq_true_eq] at h
 omega
theorem lt_irrefl (a : ByteArray) : lt a a = false := Bo.irrefl _
theorem lt_trans {a b c : ByteArray} (h : lt a b = true) (k : lt b c = true) : lt a c = true := Bo.trans h k
theorem lt_asymm {a b : ByteArray} (h : lt a b = true) : lt b a = false := Bo.asymm h
theorem lt_tri (a b : ByteArray) : lt a b = true ∨ a = b ∨ lt b a = true := by
 rcases Bo.le_or a.toList b.toList with h | h | h
 ·exact .inl h
 ·exact .inr (.inl (ba_ext h))
 exact .inr (.inr h)
theorem le_trans {s b c : ByteArray} (h : lt s b = false) (k : lt b c = false) : lt s c = false := by
 cases q : lt s c with
 | false => rfl
 | true =>
  rcases lt_tri s b with h1 | h1 | h1
  ·rw [h] at h1; cases h1
  ·subst h1; rw [k] at q; cases q
  rw [lt_trans h1 q] at k; cases k
theorem lt_of_le_lt {s b c : ByteArray} (h : lt b s = false) (k : lt b c = true) : lt s c = true := by
 rcases lt_tri s c with h1 | h1 | h1
 ·exact h1
 ·subst h1; rw [h] at k; cases k
 rw [lt_trans k h1] at h; cases h
theorem lt_emp {a b : ByteArray} (h : lt a b = true) : emp b = false := by
 cases q : emp b with
 | false => rfl
 | true =>
  rw [emp_iff.1 q] at h
  unfold lt at h
  rw [show (e0 : ByteArray).toList = [] from by simp [ba_mk], Bo.nil_right] at h
  cases h
def ah (s t : ByteArray) : Bool := emp t || lt s t
theorem holds_def (y t s : ByteArray) : holds y t s = (!lt s y && ah s t) := rfl
theorem rr_def (y t : ByteArray) : rr y t = ah y t := rfl
theorem ah_lt {s t x : ByteArray} (h : lt s x = true) (k : ah x t = true) : ah s t = true := by
 unfold ah at *
 cases he : emp t
 ·rw [he] at k
  simp only [Bool.false_or] at k ⊢
  exact lt_trans h k
 rfl
theorem ah_le {s t x : ByteArray} (h : lt x s = false) (k : ah x t = true) : ah s t = true := by
 unfold ah at *
 cases he : emp t
 ·rw [he] at k
  simp only [Bool.false_or] at k ⊢
  exact lt_of_le_lt h k
 rfl
theorem lt_succB (a b : ByteArray) : lt a (succB b) = true ↔ lt b a = false := by
 unfold lt succB
 have e : (b ++ (⟨#[0]⟩ : ByteArray)).toList = b.toList ++ [0] := by rw [ba_append]; simp [ba_mk]
 rw [e]
 exact Bo.succ _ _
def norm (v : ByteArray) (is : Bool) : ByteArray := if is = true then v else e0
end Go.Proofs.Ytljnlnbopohghaa.P
end
