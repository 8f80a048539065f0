/- Messages: the words of keys and ranges, and the functions of key and msg that all laws over messages reach, in plain form. -/
import Derived.Test.YthofdhodgipifaaMz
import Derived.Test.YthofdhodgipifaaP2
import Derived.Test.YthofdhodgipifaaP8
set_option linter.unusedVariables false
set_option linter.unusedSimpArgs false
namespace Go.Proofs.Ythofdhodgipifaa.P
open Go.RowKit Go.Proofs.YthofdhodgipifaaW.PrintWords Go.Proofs.YthofdhodgipifaaW.PrintLast Go.Proofs.YthofdhodgipifaaW.PrintMore Go.Proofs.Ythofdhodgipifaa.Own Go.Proofs.Ythofdhodgipifaa

def lt (a b : ByteArray) : Bool := Op.bytesLess a.toList b.toList
def emp (a : ByteArray) : Bool := decide (a.toList = [])
def same (a b : ByteArray) : Bool := decide (a.toList = b.toList)
abbrev e0 : ByteArray := ⟨#[]⟩
theorem emp_e0 : emp e0 = true := by simp [emp, ba_mk]
theorem same_iff {a b : ByteArray} : same a b = true ↔ a = b := by simp [same, ba_eq]
theorem emp_iff {a : ByteArray} : emp a = true ↔ a = e0 := by
  have h : (e0 : ByteArray).toList = [] := by simp [ba_mk]
  simp only [emp, decide_eq_true_eq]
  exact ⟨fun h2 => ba_ext (h2.trans h.symm), fun h2 => by rw [h2]; exact h⟩
def isPt (k : Int) : Bool := decide (k = 1 ∨ k = 2 ∨ k = 3)
def rr (f t : ByteArray) : Bool := emp t || lt f t
def holds (f t s : ByteArray) : Bool := !lt s f && (emp t || lt s t)
def before (a b : ByteArray) : Bool := !emp a && (emp b || lt a b)
def succB (a : ByteArray) : ByteArray := a ++ ⟨#[0]⟩
def span (k : Int) (y t : ByteArray) : ByteArray × ByteArray := if isPt k = true then (y, succB y) else if k = 4 then (y, t) else (e0, e0)
theorem IsPoint_eq (k q : Int) (y t v : ByteArray) (d : Int) : msg_IsPoint.f k q y t v d = some (isPt k) := by
  unfold msg_IsPoint.f isPt
  by_cases h1 : k = 1
  · simp [h1]
  · by_cases h2 : k = 2
    · simp [h2]
    · by_cases h3 : k = 3 <;> simp [h1, h2, h3]
theorem Point_eq (k q : Int) (y t v : ByteArray) (d : Int) : catchmentref04_Point.f k q y t v d = some (isPt k) := by
  unfold catchmentref04_Point.f isPt
  by_cases h : k ≥ 1
  · rw [if_pos h]
    congr 1
    rw [decide_eq_decide]
    omega
  · rw [if_neg h]
    congr 1
    symm
    rw [decide_eq_false_iff_not]
    omega
theorem ahead_eq (s t : ByteArray) : key_ahead.f s t = some (emp t || lt s t) := by
  unfold key_ahead.f emp lt
  by_cases h : t.toList = [] <;> simp [h]
theorem RightRange_eq (f t : ByteArray) : key_RightRange.f f t = some (rr f t) := by
  unfold key_RightRange.f rr
  rw [ahead_eq]
  rfl
theorem After_eq (a : ByteArray) (h : a.size ≤ 140737488351232) : key_After.f a = some (succB a) := by
  unfold key_After.f succB
  rw [if_pos (by omega)]
theorem Point_range_eq (a : ByteArray) (h : a.size ≤ 140737488351232) : key_Point.f a = some (a, succB a) := by
  unfold key_Point.f
  rw [After_eq a h]
  rfl
theorem Span_eq (k q : Int) (y t v : ByteArray) (d : Int) (h : y.size ≤ 140737488351232) : msg_Span.f k q y t v d = some (span k y t) := by
  unfold msg_Span.f span
  rw [IsPoint_eq, Point_range_eq y h]
  simp only [Option.bind_some]
  cases isPt k
  · by_cases h4 : k = 4 <;> simp [h4]
  · simp
theorem isPt_ne4 {k : Int} (h : isPt k = true) : ¬ k = 4 := by
  simp only [isPt, decide_eq_true_eq] at h
  omega
end Go.Proofs.Ythofdhodgipifaa.P
