/- Messages: the printed functions of msg, key and their references, each in plain form (no rounds): what a range holds, what a message touches and does, its parts. -/
import Derived.Test.YtgbikacioojpjaaMw
import Derived.Test.YtgbikacioojpjaaP3
import Derived.Test.YtgbikacioojpjaaP4
set_option linter.unusedVariables false
set_option linter.unusedSimpArgs false
namespace Go.Proofs.Ytgbikacioojpjaa.P
open Go.RowKit Go.Proofs.YtgbikacioojpjaaW.PrintWords Go.Proofs.YtgbikacioojpjaaW.PrintLast Go.Proofs.YtgbikacioojpjaaW.PrintMore Go.Proofs.Ytgbikacioojpjaa.Own Go.Proofs.Ytgbikacioojpjaa

def lt (a b : ByteArray) : Bool := Op.bytesLess a.toList b.toList
def emp (a : ByteArray) : Bool := decide (a.toList = [])
def same (a b : ByteArray) : Bool := decide (a.toList = b.toList)
abbrev e0 : ByteArray := ⟨#[]⟩
theorem emp_e0 : emp e0 = true := by simp [emp, ba_mk]
theorem same_iff {a b : ByteArray} : same a b = true ↔ a = b := by simp [same, ba_eq]
theorem emp_iff {a : ByteArray} : emp a = true ↔ a = e0 := by
  have h : (e0 : ByteArray).toList = [] := by simp [ba_mk]
  simp only [emp, decide_eq_true_eq]
  exact ⟨fun h2 => ba_ext (h2.trans h.symm), fun h2 => by rw [h2]; exact h⟩
def isPt (k : Int) : Bool := decide (k = 1 ∨ k = 2 ∨ k = 3)
def rr (f t : ByteArray) : Bool := emp t || lt f t
def holds (f t s : ByteArray) : Bool := !lt s f && (emp t || lt s t)
def before (a b : ByteArray) : Bool := !emp a && (emp b || lt a b)
def succB (a : ByteArray) : ByteArray := a ++ ⟨#[0]⟩
/-- What a message of kind k, with key y and end t, touches. -/
def touches (k : Int) (y t s : ByteArray) : Bool := (isPt k && same y s) || (decide (k = 4) && holds y t s)
def span (k : Int) (y t : ByteArray) : ByteArray × ByteArray := if isPt k = true then (y, succB y) else if k = 4 then (y, t) else (e0, e0)
def applyV (k : Int) (vv : ByteArray) (d : Int) (v : ByteArray) (is : Bool) : ByteArray × Bool :=
  if k = 1 then (vv, true) else if k = 3 then (addV v is d, true) else if k = 2 ∨ k = 4 then (e0, false) else if is = true then (v, true) else (e0, false)
def onV (k : Int) (y t vv : ByteArray) (d : Int) (s v : ByteArray) (is : Bool) : ByteArray × Bool :=
  if touches k y t s = true then applyV k vv d v is else if is = true then (v, true) else (e0, false)

theorem IsPoint_eq (k q : Int) (y t v : ByteArray) (d : Int) : msg_IsPoint.f k q y t v d = some (isPt k) := by
  unfold msg_IsPoint.f isPt
  by_cases h1 : k = 1
  · simp [h1]
  · by_cases h2 : k = 2
    · simp [h2]
    · by_cases h3 : k = 3 <;> simp [h1, h2, h3]
theorem Point_eq (k q : Int) (y t v : ByteArray) (d : Int) : catchmentref04_Point.f k q y t v d = some (isPt k) := by
  unfold catchmentref04_Point.f isPt
  by_cases h : k ≥ 1
  · rw [if_pos h]
    congr 1
    rw [decide_eq_decide]
    omega
  · rw [if_neg h]
    congr 1
    symm
    rw [decide_eq_false_iff_not]
    omega
theorem ahead_eq (s t : ByteArray) : key_ahead.f s t = some (emp t || lt s t) := by
  unfold key_ahead.f emp lt
  by_cases h : t.toList = [] <;> simp [h]
theorem RightRange_eq (f t : ByteArray) : key_RightRange.f f t = some (rr f t) := by
  unfold key_RightRange.f rr
  rw [ahead_eq]
  rfl
theorem Holds_eq (f t s : ByteArray) : key_Holds.f f t s = some (holds f t s) := by
  unfold key_Holds.f holds
  rw [ahead_eq]
  by_cases h : Op.bytesLess s.toList f.toList = true
  · simp [h, lt]
  · simp [h, lt]
theorem After_eq (a : ByteArray) (h : a.size ≤ 140737488351232) : key_After.f a = some (succB a) := by
  unfold key_After.f succB
  rw [if_pos (by omega)]
theorem Point_range_eq (a : ByteArray) (h : a.size ≤ 140737488351232) : key_Point.f a = some (a, succB a) := by
  unfold key_Point.f
  rw [After_eq a h]
  rfl
theorem Span_eq (k q : Int) (y t v : ByteArray) (d : Int) (h : y.size ≤ 140737488351232) : msg_Span.f k q y t v d = some (span k y t) := by
  unfold msg_Span.f span
  rw [IsPoint_eq, Point_range_eq y h]
  simp only [Option.bind_some]
  cases isPt k
  · by_cases h4 : k = 4 <;> simp [h4]
  · simp
theorem ref04_Span_eq (k q : Int) (y t v : ByteArray) (d : Int) (h : y.size ≤ 140737488351232) : catchmentref04_Span.f k q y t v d = some (span k y t) := by
  unfold catchmentref04_Span.f span
  rw [Point_eq]
  simp only [Option.bind_some]
  cases isPt k
  · by_cases h4 : k = 4 <;> simp [h4]
  · simp only [if_true]
    rw [if_pos (by omega)]
    rfl
theorem isPt_ne4 {k : Int} (h : isPt k = true) : ¬ k = 4 := by
  simp only [isPt, decide_eq_true_eq] at h
  omega
theorem Touches_eq (k q : Int) (y t v : ByteArray) (d : Int) (s : ByteArray) (h : y.size ≤ 140737488351232) : msg_Touches.f k q y t v d s = some (touches k y t s) := by
  unfold msg_Touches.f touches
  rw [IsPoint_eq]
  simp only [Option.bind_some, Span_eq _ _ _ _ _ _ h]
  cases hp : isPt k with
  | false =>
    by_cases h4 : k = 4
    · simp [h4, Holds_eq, span, show isPt 4 = false from rfl]
    · simp [h4]
  | true =>
    have h4 := isPt_ne4 hp
    by_cases hs : y.toList = s.toList <;> simp [hs, h4, same]
theorem ref04_Touches_eq (k q : Int) (y t v : ByteArray) (d : Int) (s : ByteArray) : catchmentref04_Touches.f k q y t v d s = some (touches k y t s) := by
  unfold catchmentref04_Touches.f touches
  rw [Point_eq]
  simp only [Option.bind_some]
  cases hp : isPt k with
  | false =>
    by_cases h4 : k = 4
    · subst h4
      unfold holds lt emp
      by_cases h1 : Op.bytesLess s.toList y.toList = true
      · simp [h1]
      · by_cases h2 : t.toList = [] <;> simp [h1, h2]
    · simp [h4]
  | true =>
    simp only [if_true, Bool.true_and, Option.some.injEq]
    have h4 := isPt_ne4 hp
    simp only [h4, decide_false, Bool.false_and, Bool.or_false, same]
    rw [Bool.eq_iff_iff]
    simp
theorem Apply_eq (n : Nat) (k q : Int) (y t vv : ByteArray) (d : Int) (v : ByteArray) (is : Bool) : msg_Apply.f (n + 9) k q y t vv d v is = some (applyV k vv d v is) := by
  unfold msg_Apply.f applyV
  by_cases h1 : k = 1
  · simp [h1]
  · by_cases h3 : k = 3
    · simp [h3, word_Add_eq]
    · by_cases h2 : k = 2
      · simp [h2, msg_Apply.j0]
      · by_cases h4 : k = 4
        · simp [h4, msg_Apply.j0]
        · have b4 : (k == 4) = false := by simp [h4]
          cases is <;> simp [h1, h2, h3, h4, msg_Apply.j0, b4]
theorem On_eq (n : Nat) (k q : Int) (y t vv : ByteArray) (d : Int) (s v : ByteArray) (is : Bool) (h : y.size ≤ 140737488351232) : msg_On.f (n + 9) k q y t vv d s v is = some (onV k y t vv d s v is) := by
  unfold msg_On.f onV
  rw [Touches_eq _ _ _ _ _ _ _ h, Apply_eq, Apply_eq]
  simp only [Option.bind_some]
  cases touches k y t s
  · simp [applyV]
  · simp
theorem ref04_On_eq (n : Nat) (k q : Int) (y t vv : ByteArray) (d : Int) (s v : ByteArray) (is : Bool) (h0 : 0 ≤ d) (h1 : d < 18446744073709551616) : catchmentref04_On.f (n + 10) k q y t vv d s v is = some (onV k y t vv d s v is) := by
  have key : ∀ v', (is = true → v' = v) → (is = false → v' = e0) → catchmentref04_On.j0 (n + 10) s v' is k q y t vv d = some (onV k y t vv d s v is) := by
    intro v' hv1 hv2
    simp only [catchmentref04_On.j0]
    rw [ref04_Touches_eq]
    simp only [Option.bind_some]
    unfold onV applyV
    rw [ref03_Add_eq _ _ _ _ h0 h1]
    cases ht : touches k y t s with
    | false => cases is <;> simp_all
    | true =>
      by_cases k1 : k = 1
      · simp [k1]
      · by_cases k3 : k = 3
        · cases is <;> simp_all [addV]
        · have k24 : k = 2 ∨ k = 4 := by
            simp only [touches, isPt, Bool.or_eq_true, Bool.and_eq_true, decide_eq_true_eq] at ht
            omega
          simp [k1, k3, k24]
  unfold catchmentref04_On.f
  cases is
  · simp only [Bool.false_eq_true, if_false]
    exact key _ (by simp) (by simp)
  · simp only [if_true]
    exact key _ (by simp) (by simp)
theorem size_eq (k q : Int) (y t v : ByteArray) (d : Int) : msg_Size.f k q y t v d = catchmentref04_Size.f k q y t v d := rfl
theorem Before_eq (a b : ByteArray) : key_Before.f a b = some (before a b) := by
  unfold key_Before.f before emp lt
  by_cases h1 : a.toList = []
  · simp [h1]
  · by_cases h2 : b.toList = [] <;> simp [h1, h2]
theorem First_eq (a b : ByteArray) : key_First.f a b = some (if before b a = true then b else a) := by
  unfold key_First.f
  rw [Before_eq]
  cases before b a <;> simp
end Go.Proofs.Ytgbikacioojpjaa.P
