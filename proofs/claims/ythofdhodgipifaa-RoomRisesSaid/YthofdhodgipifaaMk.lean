/- Messages: whether one may be, or why not: the printed functions of msg and of its reference in one plain form. -/
import Derived.Test.YthofdhodgipifaaMa
import Derived.Test.YthofdhodgipifaaP3
import Derived.Test.YthofdhodgipifaaP9
set_option linter.unusedVariables false
set_option linter.unusedSimpArgs false
namespace Go.Proofs.Ythofdhodgipifaa.P
open Go.RowKit Go.Proofs.YthofdhodgipifaaW.PrintWords Go.Proofs.YthofdhodgipifaaW.PrintLast Go.Proofs.YthofdhodgipifaaW.PrintMore Go.Proofs.Ythofdhodgipifaa.Own Go.Proofs.Ythofdhodgipifaa

def bad (k : Int) (t v : ByteArray) (d : Int) : Bool := decide (k < 1) || decide (k > 4) || (decide (¬ k = 1) && !emp v) || (decide (¬ k = 3) && decide (¬ d = 0)) || (decide (¬ k = 4) && !emp t)
def chk (k : Int) (y t v : ByteArray) (d cK cV : Int) : Int :=
  if bad k t v d = true then 3
  else if k = 4 then (if (y.size : Int) > cK ∨ (t.size : Int) > cK then 6 else if rr y t = true then 0 else 7)
  else if k = 1 ∧ (v.size : Int) > cV then 6
  else if (y.size : Int) ≥ 1 ∧ (y.size : Int) ≤ cK then 0 else 6
theorem size_emp {y : ByteArray} : emp y = true ↔ y.size = 0 := by
  simp only [emp, decide_eq_true_eq, ba_size, List.length_eq_zero_iff]
theorem emp_toList {y : ByteArray} : y.toList = [] ↔ emp y = true := by simp [emp]
theorem empty_beq (y : ByteArray) : (y.toList == ([] : List UInt8)) = emp y := by
  rw [Bool.eq_iff_iff]; simp [emp]
theorem empty_bne (y : ByteArray) : (y.toList != ([] : List UInt8)) = !emp y := by
  rw [bne, empty_beq]
theorem e0_beq : ((⟨#[]⟩ : ByteArray).toList == ([] : List UInt8)) = true := by simp [ba_mk]
theorem Right_eq (y : ByteArray) (c : Int) : key_Right.f y c = some (decide ((y.size : Int) ≥ 1 ∧ (y.size : Int) ≤ c)) := by
  unfold key_Right.f
  by_cases h : (y.size : Int) ≥ 1 <;> simp [h]
theorem j0_true (n : Nat) (k q : Int) (y t v : ByteArray) (d c0 c1 c2 c3 c4 c5 c6 c7 c8 : Int) : msg_Check.j0 (n + 1) true k q y t v d c0 c1 c2 c3 c4 c5 c6 c7 c8 = some 3 := by
  simp [msg_Check.j0]
theorem j0_false (n : Nat) (k q : Int) (y t v : ByteArray) (d c0 c1 c2 c3 c4 c5 c6 c7 c8 : Int) (h : y.size ≤ 140737488351232) (hk : 1 ≤ k) (hk4 : k ≤ 4) (hb : bad k t v d = false) :
    msg_Check.j0 (n + 9) false k q y t v d c0 c1 c2 c3 c4 c5 c6 c7 c8 = some (chk k y t v d c0 c1) := by
  simp only [msg_Check.j0, Bool.false_eq_true, if_false]
  unfold chk
  rw [hb]
  simp only [Bool.false_eq_true, if_false]
  by_cases h4 : k = 4
  · subst h4
    simp only [if_true]
    have e : span 4 y t = (y, t) := rfl
    by_cases h1 : (y.size : Int) > c0
    · rw [if_pos h1, if_pos (.inl h1)]
      simp [msg_Check.j1]
    · rw [if_neg h1]
      by_cases h2 : (t.size : Int) > c0
      · rw [if_pos (.inr h2)]
        simp [msg_Check.j1, h2]
      · rw [if_neg (by omega)]
        simp only [msg_Check.j1, h2, decide_false, Bool.false_eq_true, if_false]
        rw [Span_eq _ _ _ _ _ _ h, e]
        simp only [Option.bind_some, RightRange_eq]
        cases rr y t <;> simp
  · rw [if_neg h4, if_neg h4]
    by_cases h1 : k = 1
    · rw [if_pos h1]
      by_cases h2 : (v.size : Int) > c1
      · rw [if_pos h2, if_pos ⟨h1, h2⟩]
      · rw [if_neg h2, if_neg (fun h => h2 h.2), Right_eq]
        by_cases h5 : (y.size : Int) ≥ 1 ∧ (y.size : Int) ≤ c0 <;> simp [h5]
    · rw [if_neg h1, if_neg (fun h => h1 h.1), Right_eq]
      by_cases h5 : (y.size : Int) ≥ 1 ∧ (y.size : Int) ≤ c0 <;> simp [h5]
theorem Check_eq (n : Nat) (k q : Int) (y t v : ByteArray) (d c0 c1 c2 c3 c4 c5 c6 c7 c8 : Int) (h : y.size ≤ 140737488351232) : msg_Check.f (n + 9) k q y t v d c0 c1 c2 c3 c4 c5 c6 c7 c8 = some (chk k y t v d c0 c1) := by
  unfold msg_Check.f
  by_cases h1 : k < 1
  · rw [if_pos h1, j0_true]
    simp [chk, bad, h1]
  · rw [if_neg h1]
    by_cases h2 : k > 4
    · rw [if_pos h2, j0_true]
      simp [chk, bad, h2]
    · rw [if_neg h2]
      have fin : ∀ b, b = bad k t v d → msg_Check.j0 (n + 9) b k q y t v d c0 c1 c2 c3 c4 c5 c6 c7 c8 = some (chk k y t v d c0 c1) := by
        intro b hb
        cases hbb : b with
        | true => rw [j0_true]; rw [hbb] at hb; simp [chk, ← hb]
        | false => exact j0_false n _ _ _ _ _ _ _ _ _ _ _ _ _ _ _ h (by omega) (by omega) (by rw [← hb, hbb])
      unfold msg_bare.f
      have hk1 : decide (k < 1) = false := by simpa using h1
      have hk4 : decide (k > 4) = false := by simpa using h2
      by_cases k1 : k = 1
      · rw [if_pos k1]
        simp only [Option.bind_some]
        refine fin _ ?_
        simp only [emp_e0, empty_beq, bad, hk1, hk4, k1]
        cases emp t <;> by_cases d0 : d = 0 <;> simp [d0]
      · rw [if_neg k1]
        by_cases k3 : k = 3
        · rw [if_pos k3]
          simp only [Option.bind_some]
          refine fin _ ?_
          simp only [emp_e0, empty_beq, bad, hk1, hk4, k3]
          cases emp t <;> cases emp v <;> simp
        · rw [if_neg k3]
          by_cases k4 : k = 4
          · rw [if_pos k4]
            simp only [Option.bind_some]
            refine fin _ ?_
            simp only [emp_e0, empty_beq, bad, hk1, hk4, k4]
            cases emp v <;> by_cases d0 : d = 0 <;> simp [d0]
          · rw [if_neg k4]
            simp only [Option.bind_some]
            refine fin _ ?_
            simp only [emp_e0, empty_beq, bad, hk1, hk4, k1, k3, k4]
            cases emp v <;> cases emp t <;> by_cases d0 : d = 0 <;> simp [d0]
theorem ref_j4 (n : Nat) (b : Bool) (k q : Int) (y t v : ByteArray) (d : Int) : catchmentref04_Check.j4 (n + 1) b k q y t v d = some (if b = true then 6 else if k = 4 then (if rr y t = true then 0 else 7) else 0) := by
  simp only [catchmentref04_Check.j4]
  cases b
  · simp only [Bool.false_eq_true, if_false, rr, emp, lt]
    by_cases k4 : k = 4
    · simp only [k4, if_true]
      by_cases h1 : t.toList = []
      · simp [h1]
      · by_cases h2 : Op.bytesLess y.toList t.toList = true <;> simp [h1, h2]
    · simp [k4]
  · simp
theorem ref_j3 (n : Nat) (b : Bool) (k q : Int) (y t v : ByteArray) (d c0 c1 c2 c3 c4 c5 c6 c7 c8 : Int) (hb : b = bad k t v d) :
    catchmentref04_Check.j3 (n + 9) b k q y t v d c0 c1 c2 c3 c4 c5 c6 c7 c8 = some (chk k y t v d c0 c1) := by
  simp only [catchmentref04_Check.j3, ref_j4, Point_eq]
  unfold chk
  rw [← hb]
  cases hbb : b with
  | true => simp
  | false =>
    rw [hbb] at hb
    have hb2 := hb.symm
    simp only [bad, Bool.or_eq_false_iff, Bool.and_eq_false_iff, decide_eq_false_iff_not, Bool.not_eq_false'] at hb2
    obtain ⟨⟨⟨⟨b1, b2⟩, b3⟩, b4⟩, b5⟩ := hb2
    simp only [Bool.false_eq_true, if_false, Option.bind_some]
    have hy := size_emp (y := y)
    simp only [emp_toList, size_emp]
    by_cases k4 : k = 4
    · subst k4
      have hp : isPt 4 = false := rfl
      simp only [hp, Bool.false_eq_true, if_false, if_true, show ¬ ((4 : Int) = 1) from by omega]
      by_cases h1 : (y.size : Int) > c0
      · simp [h1]
      · by_cases h2 : (t.size : Int) > c0
        · simp [h1, h2]
        · simp [h1, h2]
    · have hp : isPt k = true := by simp only [isPt, decide_eq_true_eq]; omega
      have ht : t.size = 0 := by
        rcases b5 with b5 | b5
        · exact absurd k4 b5
        · exact size_emp.1 b5
      simp only [hp, k4, if_true, if_false]
      by_cases h1 : (y.size : Int) > c0
      · rw [if_pos h1]
        by_cases k1 : k = 1 ∧ (v.size : Int) > c1
        · rw [if_pos k1]
        · rw [if_neg k1, if_neg (by omega)]
      · rw [if_neg h1]
        by_cases h2 : (t.size : Int) > c0
        · rw [if_pos h2]
          by_cases k1 : k = 1 ∧ (v.size : Int) > c1
          · rw [if_pos k1]
          · rw [if_neg k1, if_neg (by omega)]
        · rw [if_neg h2]
          by_cases h3 : y.size = 0
          · rw [if_pos h3]
            by_cases k1 : k = 1 ∧ (v.size : Int) > c1
            · rw [if_pos k1]
            · rw [if_neg k1, if_neg (by omega)]
          · rw [if_neg h3]
            by_cases k1 : k = 1
            · rw [if_pos k1]
              by_cases h5 : (v.size : Int) > c1
              · simp [h5, k1]
              · simp only [h5, decide_false, Bool.false_eq_true, if_false, and_false]
                rw [if_pos (by omega)]
            · simp only [k1, false_and, if_false, Bool.false_eq_true]
              rw [if_pos (by omega)]
theorem ref_Check_eq (n : Nat) (k q : Int) (y t v : ByteArray) (d c0 c1 c2 c3 c4 c5 c6 c7 c8 : Int) : catchmentref04_Check.f (n + 19) k q y t v d c0 c1 c2 c3 c4 c5 c6 c7 c8 = some (chk k y t v d c0 c1) := by
  have r2 : ∀ m b, (b || (decide (¬ k = 4) && !emp t)) = bad k t v d → catchmentref04_Check.j2 (m + 10) b k q y t v d c0 c1 c2 c3 c4 c5 c6 c7 c8 = some (chk k y t v d c0 c1) := by
    intro m b hb
    simp only [catchmentref04_Check.j2]
    cases b
    · by_cases k4 : k = 4
      · simp only [Bool.false_eq_true, if_false, k4, if_true]
        exact ref_j3 m _ _ _ _ _ _ _ _ _ _ _ _ _ _ _ _ (by rw [← k4, ← hb]; simp [k4])
      · simp only [Bool.false_eq_true, if_false, k4]
        exact ref_j3 m _ _ _ _ _ _ _ _ _ _ _ _ _ _ _ _ (by rw [← hb, empty_bne]; simp [k4])
    · simp only [if_true]
      exact ref_j3 m _ _ _ _ _ _ _ _ _ _ _ _ _ _ _ _ (by rw [← hb]; simp)
  have r1 : ∀ m b, ((b || (decide (¬ k = 3) && decide (¬ d = 0))) || (decide (¬ k = 4) && !emp t)) = bad k t v d → catchmentref04_Check.j1 (m + 11) b k q y t v d c0 c1 c2 c3 c4 c5 c6 c7 c8 = some (chk k y t v d c0 c1) := by
    intro m b hb
    simp only [catchmentref04_Check.j1]
    cases b
    · by_cases k3 : k = 3
      · simp only [Bool.false_eq_true, if_false, k3, if_true]
        have := r2 m false (by rw [← hb]; simp [k3])
        rw [k3] at this
        exact this
      · simp only [Bool.false_eq_true, if_false, k3]
        exact r2 m _ (by rw [← hb]; by_cases d0 : d = 0 <;> simp [k3, d0])
    · simp only [if_true]
      exact r2 m _ (by rw [← hb]; simp)
  have r0 : ∀ b, b = (decide (k < 1) || decide (k > 4)) → catchmentref04_Check.j0 (n + 19) b k q y t v d c0 c1 c2 c3 c4 c5 c6 c7 c8 = some (chk k y t v d c0 c1) := by
    intro b hb
    simp only [catchmentref04_Check.j0]
    cases b
    · by_cases k1 : k = 1
      · simp only [Bool.false_eq_true, if_false, k1, if_true]
        have := r1 (n + 7) false (by unfold bad; rw [← hb]; simp [k1])
        rw [k1] at this
        exact this
      · simp only [Bool.false_eq_true, if_false, k1]
        exact r1 (n + 7) _ (by unfold bad; rw [← hb, empty_bne]; simp [k1])
    · simp only [if_true]
      exact r1 (n + 7) _ (by unfold bad; rw [← hb]; simp)
  unfold catchmentref04_Check.f
  by_cases h1 : k < 1
  · rw [if_pos h1]
    exact r0 _ (by simp [h1])
  · rw [if_neg h1]
    exact r0 _ (by simp [h1])
end Go.Proofs.Ythofdhodgipifaa.P
