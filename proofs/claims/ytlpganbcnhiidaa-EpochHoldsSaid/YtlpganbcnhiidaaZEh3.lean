/- Texts of one claim (laid by shake.py). -/
import GoSem.Op.String
import Derived.Test.YtlpganbcnhiidaaZEh0
import Derived.Laws.Strings
import Derived.Laws.Small
section
namespace Go.Proofs.Ytlpganbcnhiidaa.Bo
open Go
theorem nil_right (a : List UInt8) : Op.bytesLess a [] = false := by cases a <;> rfl
theorem cons_cons (x y : UInt8) (a b : List UInt8) : Op.bytesLess (x :: a) (y :: b) = true ↔ x < y ∨ (x = y ∧ Op.bytesLess a b = true) := by
  simp [Op.bytesLess]
theorem irrefl (a : List UInt8) : Op.bytesLess a a = false := by
  induction a with
  | nil => rfl
  | cons x a ih => simp [Op.bytesLess, ih]
theorem irrefl' {a : List UInt8} (h : Op.bytesLess a a = true) : False := by rw [irrefl] at h; cases h
theorem trans : ∀ {a b c : List UInt8}, Op.bytesLess a b = true → Op.bytesLess b c = true → Op.bytesLess a c = true
  | [], [], _, h, _ => by simp [Op.bytesLess] at h
  | [], _ :: _, [], _, h => by simp [Op.bytesLess] at h
  | [], _ :: _, _ :: _, _, _ => rfl
  | _ :: _, [], _, h, _ => by simp [Op.bytesLess] at h
  | _ :: _, _ :: _, [], _, h => by simp [Op.bytesLess] at h
  | x :: a, y :: b, z :: c, h, k => by
    rw [cons_cons] at h k ⊢
    rcases h with h | ⟨rfl, h⟩
    · rcases k with k | ⟨rfl, k⟩
      · exact .inl (UInt8.lt_trans h k)
      · exact .inl h
    · rcases k with k | ⟨rfl, k⟩
      · exact .inl k
      · exact .inr ⟨rfl, trans h k⟩
theorem asymm {a b : List UInt8} (h : Op.bytesLess a b = true) : Op.bytesLess b a = false := by
  cases k : Op.bytesLess b a with
  | false => rfl
  | true => exact (irrefl' (trans h k)).elim
theorem tri : ∀ {a b : List UInt8}, Op.bytesLess a b = false → Op.bytesLess b a = false → a = b
  | [], [], _, _ => rfl
  | [], _ :: _, h, _ => by simp [Op.bytesLess] at h
  | _ :: _, [], _, h => by simp [Op.bytesLess] at h
  | x :: a, y :: b, h, k => by
    have h' : ¬ (x < y ∨ (x = y ∧ Op.bytesLess a b = true)) := by rw [← cons_cons]; simp [h]
    have k' : ¬ (y < x ∨ (y = x ∧ Op.bytesLess b a = true)) := by rw [← cons_cons]; simp [k]
    have e : x = y := by
      rw [UInt8.lt_iff_toNat_lt] at h' k'
      rw [← UInt8.toNat_inj]
      omega
    subst e
    rw [tri (a := a) (b := b) (by cases q : Op.bytesLess a b <;> simp_all) (by cases q : Op.bytesLess b a <;> simp_all)]
theorem le_or (a b : List UInt8) : Op.bytesLess a b = true ∨ a = b ∨ Op.bytesLess b a = true := by
  cases h : Op.bytesLess a b with
  | true => exact .inl rfl
  | false =>
    cases k : Op.bytesLess b a with
    | true => exact .inr (.inr rfl)
    | false => exact .inr (.inl (tri h k))
theorem not_lt {a b : List UInt8} (h : Op.bytesLess a b = false) : a = b ∨ Op.bytesLess b a = true := by
  rcases le_or a b with k | k | k
  · rw [h] at k; cases k
  · exact .inl k
  · exact .inr k
theorem succ : ∀ (a b : List UInt8), Op.bytesLess a (b ++ [0]) = true ↔ Op.bytesLess b a = false
  | [], [] => by simp [Op.bytesLess]
  | [], _ :: _ => by simp [Op.bytesLess]
  | x :: a, [] => by
    simp [Op.bytesLess, nil_right]
  | x :: a, y :: b => by
    rw [List.cons_append, cons_cons, succ a b]
    have e : Op.bytesLess (y :: b) (x :: a) = false ↔ ¬ (y < x ∨ (y = x ∧ Op.bytesLess b a = true)) := by rw [← cons_cons]; simp
    rw [e]
    constructor
    · rintro (h | ⟨rfl, h⟩) (k | ⟨k1, k2⟩)
      · exact absurd (UInt8.lt_trans h k) (UInt8.lt_irrefl _)
      · subst k1; exact absurd h (UInt8.lt_irrefl _)
      · exact absurd k (UInt8.lt_irrefl _)
      · rw [h] at k2; cases k2
    · intro h
      by_cases hx : x < y
      · exact .inl hx
      · have e2 : x = y := by
          have h1 : ¬ y < x := fun k => h (.inl k)
          rw [UInt8.lt_iff_toNat_lt] at h1 hx
          rw [← UInt8.toNat_inj]
          omega
        subst e2
        refine .inr ⟨rfl, ?_⟩
        cases q : Op.bytesLess b a with
        | false => rfl
        | true => exact absurd (.inr ⟨rfl, q⟩) h
end Go.Proofs.Ytlpganbcnhiidaa.Bo
end
section
namespace Go.Proofs.Ytlpganbcnhiidaa.Own
open Go.RowKit
def mxs (a b : ByteArray) : ByteArray := if Op.bytesLess a.toList b.toList = true then b else a
theorem max2_str (x y : ByteArray) : Builtin.max2 (.string x) (.string y) = pure (.string (mxs x y)) := by
  unfold mxs
  simp only [Builtin.max2, Op.stringOp, asBool]
  cases h : Op.bytesLess x.toList y.toList <;> simp
theorem leq_bool (a b : List UInt8) : (Op.bytesLess a b || a == b) = !(Op.bytesLess b a) := by
  rcases Bo.le_or a b with h | h | h
  · simp [h, Bo.asymm h]
  · subst h; simp [Bo.irrefl]
  · have h1 := Bo.asymm h
    have h2 : (a == b) = false := by
      cases e : a == b with
      | false => rfl
      | true => exact (Bo.irrefl' (by rw [beq_iff_eq] at e; rw [e] at h; exact h)).elim
    simp [h, h1, h2]
@[go_sem] theorem string_leq (t : TypeId) (a b : ByteArray) : binOp .leq t (.string a) (.string b) = pure (.bool !(Op.bytesLess b.toList a.toList)) := by
  rw [← leq_bool]; simp [binOp, Op.stringOp]
@[go_sem] theorem string_gtr (t : TypeId) (a b : ByteArray) : binOp .gtr t (.string a) (.string b) = pure (.bool (Op.bytesLess b.toList a.toList)) := by
  have := leq_bool a.toList b.toList
  simp [binOp, Op.stringOp, this]
@[go_sem] theorem string_geq (t : TypeId) (a b : ByteArray) : binOp .geq t (.string a) (.string b) = pure (.bool !(Op.bytesLess a.toList b.toList)) := by simp [binOp, Op.stringOp]
@[simp] theorem not_bne_nil (l : List UInt8) : (!(l != [])) = l.isEmpty := by cases l <;> rfl
end Go.Proofs.Ytlpganbcnhiidaa.Own
end
