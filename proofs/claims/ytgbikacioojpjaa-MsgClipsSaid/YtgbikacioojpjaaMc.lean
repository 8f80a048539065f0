/- Messages: a Clear's part in a range and the parts beside it: what they touch, together and one by one. -/
import Derived.Test.YtgbikacioojpjaaMl
namespace Go.Proofs.Ytgbikacioojpjaa.P
open Go.RowKit Go.Proofs.YtgbikacioojpjaaW.PrintWords Go.Proofs.YtgbikacioojpjaaW.PrintLast Go.Proofs.YtgbikacioojpjaaW.PrintMore Go.Proofs.Ytgbikacioojpjaa.Own Go.Proofs.Ytgbikacioojpjaa
set_option linter.unusedVariables false
set_option linter.unusedSimpArgs false

theorem lt_irrefl (a : ByteArray) : lt a a = false := Bo.irrefl _
theorem lt_trans {a b c : ByteArray} (h : lt a b = true) (k : lt b c = true) : lt a c = true := Bo.trans h k
theorem lt_asymm {a b : ByteArray} (h : lt a b = true) : lt b a = false := Bo.asymm h
theorem lt_tri (a b : ByteArray) : lt a b = true ∨ a = b ∨ lt b a = true := by
  rcases Bo.le_or a.toList b.toList with h | h | h
  · exact .inl h
  · exact .inr (.inl (ba_ext h))
  · exact .inr (.inr h)
/-- Not below b, and b not below c: not below c. -/
theorem le_trans {s b c : ByteArray} (h : lt s b = false) (k : lt b c = false) : lt s c = false := by
  cases q : lt s c with
  | false => rfl
  | true =>
    rcases lt_tri s b with h1 | h1 | h1
    · rw [h] at h1; cases h1
    · subst h1; rw [k] at q; cases q
    · rw [lt_trans h1 q] at k; cases k
theorem lt_of_lt_le {s b c : ByteArray} (h : lt s b = true) (k : lt c b = false) : lt s c = true := by
  rcases lt_tri s c with h1 | h1 | h1
  · exact h1
  · subst h1; rw [h] at k; cases k
  · rw [lt_trans h1 h] at k; cases k
theorem lt_of_le_lt {s b c : ByteArray} (h : lt b s = false) (k : lt b c = true) : lt s c = true := by
  rcases lt_tri s c with h1 | h1 | h1
  · exact h1
  · subst h1; rw [h] at k; cases k
  · rw [lt_trans k h1] at h; cases h
theorem lt_emp {a b : ByteArray} (h : lt a b = true) : emp b = false := by
  cases q : emp b with
  | false => rfl
  | true =>
    rw [emp_iff.1 q] at h
    unfold lt at h
    rw [show (e0 : ByteArray).toList = [] from by simp [ba_mk], Bo.nil_right] at h
    cases h
theorem emp_lt {a b : ByteArray} (h : emp b = true) : lt a b = false := by
  cases q : lt a b with
  | false => rfl
  | true => rw [lt_emp q] at h; cases h

/-- s lies ahead of the end t. -/
def ah (s t : ByteArray) : Bool := emp t || lt s t
theorem holds_def (y t s : ByteArray) : holds y t s = (!lt s y && ah s t) := rfl
theorem before_def (a b : ByteArray) : before a b = (!emp a && ah a b) := rfl
theorem rr_def (y t : ByteArray) : rr y t = ah y t := rfl
theorem ah_lt {s t x : ByteArray} (h : lt s x = true) (k : ah x t = true) : ah s t = true := by
  unfold ah at *
  cases he : emp t
  · rw [he] at k
    simp only [Bool.false_or] at k ⊢
    exact lt_trans h k
  · rfl
theorem ah_le {s t x : ByteArray} (h : lt x s = false) (k : ah x t = true) : ah s t = true := by
  unfold ah at *
  cases he : emp t
  · rw [he] at k
    simp only [Bool.false_or] at k ⊢
    exact lt_of_le_lt h k
  · rfl

/-- The three parts of a range: which of them has s. -/
theorem parts {y t f u s : ByteArray} (hX : ah (mxs y f) (first t u) = true) :
    holds y t s = ((lt y (mxs y f) && holds y (mxs y f) s) || holds (mxs y f) (first t u) s || (before (first t u) t && holds (first t u) t s)) ∧
    ((lt y (mxs y f) && holds y (mxs y f) s) && holds (mxs y f) (first t u) s) = false ∧
    ((lt y (mxs y f) && holds y (mxs y f) s) && (before (first t u) t && holds (first t u) t s)) = false ∧
    (holds (mxs y f) (first t u) s && (before (first t u) t && holds (first t u) t s)) = false := by
  obtain ⟨X, hXe⟩ : ∃ X, X = mxs y f := ⟨_, rfl⟩
  obtain ⟨T, hTe⟩ : ∃ T, T = first t u := ⟨_, rfl⟩
  rw [← hXe, ← hTe] at hX ⊢
  have hyX : lt X y = false := by
    rw [hXe]
    show lt (if lt y f = true then f else y) y = false
    cases h : lt y f
    · simp [lt_irrefl]
    · simp [lt_asymm h]
  have hyX2 : lt y X = false → X = y := by
    rw [hXe]
    show lt y (if lt y f = true then f else y) = false → (if lt y f = true then f else y) = y
    cases h : lt y f <;> simp [h]
  have hT : before T t = false → T = t := by
    rw [hTe]
    unfold first
    cases h : before u t <;> simp [h]
  clear hXe hTe
  have hXne : ∀ z, ah z X = (emp X || lt z X) := fun _ => rfl
  rcases hb : before T t with _ | _
  · -- T is t
    obtain rfl := hT hb
    rcases hc : lt y X with _ | _
    · obtain rfl := hyX2 hc
      simp
    · have hXe := lt_emp hc
      simp only [Bool.true_and, Bool.false_and, Bool.or_false, Bool.and_false, and_true, holds_def, ah, hXe, Bool.false_or]
      cases h1 : lt s y
      · cases h2 : lt s X
        · simp
        · have h3 := ah_lt h2 hX
          unfold ah at h3
          simp [h3]
      · have h2 : lt s X = true := lt_trans h1 hc
        simp [h2]
  · -- T lies ahead of t
    rw [before_def] at hb
    have hTe : emp T = false := by cases q : emp T <;> simp [q] at hb ⊢
    have hTt : ah T t = true := by cases q : emp T <;> simp [q] at hb ⊢; exact hb
    have hXT : lt X T = true := by unfold ah at hX; rw [hTe] at hX; simpa using hX
    have hyT : lt y T = true := lt_of_le_lt hyX hXT
    simp only [Bool.true_and, holds_def]
    rcases hc : lt y X with _ | _
    · obtain rfl := hyX2 hc
      simp only [Bool.false_and, Bool.false_or, true_and]
      cases h1 : lt s X
      · cases h2 : lt s T
        · simp [ah, hTe, h2]
        · have h3 := ah_lt h2 hTt
          simp [ah, hTe, h2] at h3 ⊢
          simp [h3]
      · have h2 : lt s T = true := lt_trans h1 hXT
        simp [h2]
    · have hXe := lt_emp hc
      simp only [Bool.true_and]
      cases h1 : lt s y
      · cases h2 : lt s X
        · cases h3 : lt s T
          · simp [ah, hTe, hXe, h2, h3]
          · have h4 := ah_lt h3 hTt
            simp [ah, hTe, hXe, h2, h3] at h4 ⊢
            simp [h4]
        · have h3 : lt s T = true := lt_trans h2 hXT
          have h4 := ah_lt h3 hTt
          simp [ah, hTe, hXe, h2, h3] at h4 ⊢
          simp [h4]
      · have h2 : lt s X = true := lt_trans h1 hc
        have h3 : lt s T = true := lt_trans h2 hXT
        simp [h2, h3]
end Go.Proofs.Ytgbikacioojpjaa.P
