/- Messages: what two ranges have in common, the part of a message that a range has, the others: in plain form; and that the set's 'live' holds. -/
import Derived.Test.YtgbikacioojpjaaMp
import Derived.Test.YtgbikacioojpjaaP5
import Derived.Test.YtgbikacioojpjaaP6
import Derived.Test.YtgbikacioojpjaaP7
set_option linter.unusedVariables false
set_option linter.unusedSimpArgs false
namespace Go.Proofs.Ytgbikacioojpjaa.P
open Go.RowKit Go.Proofs.YtgbikacioojpjaaW.PrintWords Go.Proofs.YtgbikacioojpjaaW.PrintLast Go.Proofs.YtgbikacioojpjaaW.PrintMore Go.Proofs.Ytgbikacioojpjaa.Own Go.Proofs.Ytgbikacioojpjaa

def first (a b : ByteArray) : ByteArray := if before b a = true then b else a
def meet (f t g u : ByteArray) : ByteArray × ByteArray × Bool :=
  if (rr f t && rr g u && rr (mxs f g) (first t u)) = true then (mxs f g, first t u, true) else (e0, e0, false)
theorem Meet_eq (n : Nat) (f t g u : ByteArray) : key_Meet.f (n + 9) f t g u = some (meet f t g u) := by
  unfold key_Meet.f meet
  rw [RightRange_eq, RightRange_eq]
  simp only [Option.bind_some]
  cases h1 : rr f t
  · simp [key_Meet.j0]
  · cases h2 : rr g u
    · simp [key_Meet.j0]
    · simp only [if_true, key_Meet.j0, Bool.not_true, Bool.false_eq_true, if_false]
      rw [First_eq]
      simp only [Option.bind_some, RightRange_eq]
      show (if rr (mxs f g) (first t u) = true then _ else _) = _
      cases h3 : rr (mxs f g) (first t u) <;> simp [first]
/-- A message's parts, as one record. -/
abbrev M := S25
/-- What a range has of a message: the message, or none. -/
def clip (k q : Int) (y t v : ByteArray) (d : Int) (f u : ByteArray) : Int × Int × ByteArray × ByteArray × ByteArray × Int × Bool :=
  if (isPt k && rr f u && holds f u y) = true then (k, q, y, t, v, d, true)
  else if (decide (k = 4) && (meet y t f u).2.2) = true then (k, q, (meet y t f u).1, (meet y t f u).2.1, v, d, true)
  else (0, 0, e0, e0, e0, 0, false)
theorem Clip_eq (n : Nat) (k q : Int) (y t v : ByteArray) (d : Int) (f u : ByteArray) (h : y.size ≤ 140737488351232) : msg_Clip.f (n + 19) k q y t v d f u = some (clip k q y t v d f u) := by
  have tail : msg_Clip.j0 (n + 19) false k q y t v d f u = some (if (decide (k = 4) && (meet y t f u).2.2) = true then (k, q, (meet y t f u).1, (meet y t f u).2.1, v, d, true) else (0, 0, e0, e0, e0, 0, false)) := by
    simp only [msg_Clip.j0, Bool.false_eq_true, if_false]
    by_cases h4 : k = 4
    · rw [if_pos h4, Span_eq _ _ _ _ _ _ h]
      simp only [Option.bind_some]
      have e : span k y t = (y, t) := by
        unfold span
        rw [h4]
        rfl
      rw [e, Meet_eq (n + 9)]
      simp only [Option.bind_some, h4, decide_true, Bool.true_and]
      split <;> rfl
    · rw [if_neg h4]
      simp [h4]
  unfold msg_Clip.f clip
  rw [IsPoint_eq]
  simp only [Option.bind_some, RightRange_eq, Holds_eq]
  cases hp : isPt k
  · simp only [Bool.false_eq_true, if_false, Bool.false_and]
    exact tail
  · cases h1 : rr f u
    · simp only [if_true, Bool.false_eq_true, if_false, Bool.and_false, Bool.false_and]
      exact tail
    · cases h2 : holds f u y
      · simp only [if_true, Bool.and_false, Bool.false_eq_true, if_false]
        exact tail
      · simp only [if_true, Bool.and_self]
        simp only [msg_Clip.j0, if_true]
def clipM (m : M) (f u : ByteArray) : M × Bool := let c := clip m.f0 m.f1 m.f2 m.f3 m.f4 m.f5 f u; (⟨c.1, c.2.1, c.2.2.1, c.2.2.2.1, c.2.2.2.2.1, c.2.2.2.2.2.1⟩, c.2.2.2.2.2.2)
def rest (k q : Int) (y t v : ByteArray) (d : Int) (f u : ByteArray) : List M :=
  if k < 1 ∨ k > 4 then [] else
  if (clip k q y t v d f u).2.2.2.2.2.2 = true then
    (if k = 4 then
      (if lt y (clip k q y t v d f u).2.2.1 = true then [(⟨k, q, y, (clip k q y t v d f u).2.2.1, v, d⟩ : M)] else []) ++
      (if before (clip k q y t v d f u).2.2.2.1 t = true then [(⟨k, q, (clip k q y t v d f u).2.2.2.1, t, v, d⟩ : M)] else [])
    else [])
  else [⟨k, q, y, t, v, d⟩]
theorem Rest_eq (n : Nat) (k q : Int) (y t v : ByteArray) (d : Int) (f u : ByteArray) (h : y.size ≤ 140737488351232) : msg_Rest.f (n + 29) k q y t v d f u = some (rest k q y t v d f u) := by
  have tail : ∀ b, msg_Rest.j0 (n + 29) b k q y t v d f u = some (if b = true then [] else
      if (clip k q y t v d f u).2.2.2.2.2.2 = true then
        (if k = 4 then
          (if lt y (clip k q y t v d f u).2.2.1 = true then [(⟨k, q, y, (clip k q y t v d f u).2.2.1, v, d⟩ : M)] else []) ++
          (if before (clip k q y t v d f u).2.2.2.1 t = true then [(⟨k, q, (clip k q y t v d f u).2.2.2.1, t, v, d⟩ : M)] else [])
        else [])
      else [⟨k, q, y, t, v, d⟩]) := by
    intro b
    simp only [msg_Rest.j0]
    cases b
    · simp only [Bool.false_eq_true, if_false]
      rw [Clip_eq (n + 9) _ _ _ _ _ _ _ _ h]
      simp only [Option.bind_some, msg_Rest.j1, Before_eq]
      generalize clip k q y t v d f u = c
      cases hc : c.2.2.2.2.2.2
      · simp
      · by_cases h4 : k = 4
        · cases h5 : lt y c.2.2.1
          · have h5' : ¬ Op.bytesLess y.toList c.2.2.1.toList = true := by simpa [lt] using h5
            cases h6 : before c.2.2.2.1 t <;> simp [h4, h5']
          · have h5' : Op.bytesLess y.toList c.2.2.1.toList = true := h5
            cases h6 : before c.2.2.2.1 t <;> simp [h4, h5']
        · simp [h4]
    · simp
  unfold msg_Rest.f rest
  by_cases h1 : k < 1
  · rw [if_pos h1, tail, if_pos rfl]
    simp [h1]
  · rw [if_neg h1, tail]
    by_cases h2 : k > 4
    · simp [h2]
    · simp [h1, h2]
end Go.Proofs.Ytgbikacioojpjaa.P
