/- Texts of one claim (laid by shake.py). -/
import Derived.Test.YtidaiafmhidooaaZa11
import Derived.Test.YtidaiafmhidooaaZa13
set_option linter.unusedVariables false
set_option linter.unusedSimpArgs false
section
namespace Go.Proofs.Ytidaiafmhidooaa.P
open Go.RowKit Go.Proofs.YtidaiafmhidooaaW.PrintWords Go.Proofs.YtidaiafmhidooaaW.PrintLast Go.Proofs.YtidaiafmhidooaaW.PrintMore Go.Proofs.Ytidaiafmhidooaa.Own Go.Proofs.Ytidaiafmhidooaa
theorem same_beq (a b : ByteArray) : (a.toList == b.toList) = same a b := by rw [Bool.eq_iff_iff]; simp [same]
def first (a b : ByteArray) : ByteArray := if before b a = true then b else a
def meet (f t g u : ByteArray) : ByteArray × ByteArray × Bool :=
 if (rr f t && rr g u && rr (mxs f g) (first t u)) = true then (mxs f g, first t u, true) else (e0, e0, false)
theorem Before_eq (a b : ByteArray) : key_Before.f a b = some (before a b) := by
 unfold key_Before.f before emp lt
 by_cases h1 : a.toList = []
 ·simp [h1]
 ·by_cases h2 : b.toList = [] <;> simp [h1, h2]
theorem First_eq (a b : ByteArray) : key_First.f a b = some (first a b) := by
 unfold key_First.f first
 rw [Before_eq]
 cases before b a <;> simp
theorem Meet_eq (n : Nat) (f t g u : ByteArray) : key_Meet.f (n + 9) f t g u = some (meet f t g u) := by
 unfold key_Meet.f meet
 rw [RightRange_eq, RightRange_eq]
 simp only [Option.bind_some]
 cases h1 : rr f t
 ·simp [key_Meet.j0]
 ·cases h2 : rr g u
  ·simp [key_Meet.j0]
  ·simp only [if_true, key_Meet.j0, Bool.not_true, Bool.false_eq_true, if_false]
   rw [First_eq]
   simp only [Option.bind_some, RightRange_eq]
   show (if rr (mxs f g) (first t u) = true then _ else _) = _
   cases h3 : rr (mxs f g) (first t u) <;> simp
def within (f t g u : ByteArray) : Bool := (meet f t g u).2.2 && (same (meet f t g u).1 f && same (meet f t g u).2.1 t)
theorem Within_eq (n : Nat) (f t g u : ByteArray) : key_Within.f (n + 9) f t g u = some (within f t g u) := by
 unfold key_Within.f within
 rw [Meet_eq, Option.bind_some, same_beq, same_beq]
 cases (meet f t g u).2.2 <;> simp
theorem holds_rr {a b s : ByteArray} (h : holds a b s = true) : rr a b = true := by
 rw [holds_def] at h
 simp only [Bool.and_eq_true, Bool.not_eq_true'] at h
 rw [rr_def]
 exact ah_le h.1 h.2
theorem lt_mxs (y f s : ByteArray) : lt s (mxs y f) = (lt s y || lt s f) := by
 have e : mxs y f = if lt y f = true then f else y := rfl
 rw [e]
 split
 ·rename_i h
  cases q : lt s y
  ·rfl
  ·rw [lt_trans q h]; rfl
 ·rename_i h
  have h : lt y f = false := by simpa using h
  cases q : lt s f
  ·simp
  ·rw [lt_of_lt_le q h]; rfl
theorem ah_first (t u s : ByteArray) : ah s (first t u) = (ah s t && ah s u) := by
 unfold first
 split
 ·rename_i h
  rw [before_def] at h
  simp only [Bool.and_eq_true, Bool.not_eq_true'] at h
  cases q : ah s u
  ·simp
  ·have : ah s t = true := by
    unfold ah at q
    rw [h.1] at q
    simp only [Bool.false_or] at q
    exact ah_lt q h.2
   rw [this]; rfl
 ·rename_i h
  have h : before u t = false := by simpa using h
  rw [before_def] at h
  cases q : ah s t
  ·rfl
  ·have : ah s u = true := by
    cases hu : emp u
    ·rw [hu] at h
     simp only [Bool.not_false, Bool.true_and] at h
     unfold ah at h q ⊢
     rw [hu]
     simp only [Bool.or_eq_false_iff] at h
     rw [h.1] at q
     simp only [Bool.false_or] at q ⊢
     exact lt_of_lt_le q h.2
    ·unfold ah; rw [hu]; rfl
   rw [this]; rfl
theorem holds_meet (y t f u s : ByteArray) : holds (mxs y f) (first t u) s = (holds y t s && holds f u s) := by
 rw [holds_def, holds_def, holds_def, lt_mxs, ah_first]
 cases lt s y <;> cases lt s f <;> cases ah s t <;> cases ah s u <;> rfl
end Go.Proofs.Ytidaiafmhidooaa.P
end
