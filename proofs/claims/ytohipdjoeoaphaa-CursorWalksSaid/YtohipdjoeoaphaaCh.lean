/- What a cursor was told rises and lies in its range: plainly. -/
import Derived.Test.YtohipdjoeoaphaaCg
import Derived.Test.YtohipdjoeoaphaaBo
set_option linter.unusedVariables false
set_option linter.unusedSimpArgs false
namespace Go.Proofs.Ytohipdjoeoaphaa.Cur
open Go Go.RowKit Go.Maps Go.Proofs.YtohipdjoeoaphaaW.PrintWords Go.Proofs.YtohipdjoeoaphaaW.PrintLast Go.Proofs.YtohipdjoeoaphaaW.PrintMore Go.Proofs.Ytohipdjoeoaphaa.Own Go.Proofs.Ytohipdjoeoaphaa.Ord Go.Proofs.Ytohipdjoeoaphaa.P
theorem lt_trans {a b c : ByteArray} (h : ltB a b = true) (k : ltB b c = true) : ltB a c = true := Bo.trans h k
theorem lt_irrefl (a : ByteArray) : ltB a a = false := Bo.irrefl _
theorem le_lt {a b c : ByteArray} (h : ltB b a = false) (k : ltB b c = true) : ltB a c = true := by
  rcases Bo.not_lt h with e | h1
  · unfold ltB at *; rw [← e]; exact k
  · exact Bo.trans h1 k
theorem lt_le {a b c : ByteArray} (h : ltB a b = true) (k : ltB c b = false) : ltB a c = true := by
  rcases Bo.not_lt k with e | h1
  · unfold ltB at *; rw [e]; exact h
  · exact Bo.trans h h1
theorem not_lt_of_lt {a b : ByteArray} (h : ltB a b = true) : ltB b a = false := Bo.asymm h
theorem aft_iff (a b : ByteArray) : ltB a (aft b) = true ↔ ltB b a = false := by
  unfold ltB aft
  have e : (b ++ (⟨#[0]⟩ : ByteArray)).toList = b.toList ++ [0] := by rw [ba_append]; simp [ba_mk]
  rw [e]
  exact Bo.succ _ _
theorem inc_lt : ∀ (x : En) (l : List En), incB (x :: l) = true → ∀ y ∈ l, ltB x.f0 y.f0 = true
  | _, [], _, _, hy => by cases hy
  | x, z :: l, h, y, hy => by
    simp only [incB, Bool.and_eq_true] at h
    rcases List.mem_cons.1 hy with rfl | hy
    · exact h.1
    · exact lt_trans h.1 (inc_lt z l h.2 y hy)
theorem inc_tail {x : En} {l : List En} (h : incB (x :: l) = true) : incB l = true := by
  cases l with
  | nil => rfl
  | cons y l => simp only [incB, Bool.and_eq_true] at h; exact h.2
theorem inc_append : ∀ (a b : List En), incB a = true → incB b = true → (∀ x ∈ a, ∀ y ∈ b, ltB x.f0 y.f0 = true) → incB (a ++ b) = true
  | [], b, _, hb, _ => hb
  | [x], [], _, _, _ => rfl
  | [x], y :: b, _, hb, h => by
    show (ltB x.f0 y.f0 && incB (y :: b)) = true
    rw [h x (by simp) y (by simp), hb]; rfl
  | x :: z :: a, b, ha, hb, h => by
    simp only [incB, Bool.and_eq_true] at ha
    show (ltB x.f0 z.f0 && incB (z :: a ++ b)) = true
    rw [ha.1, inc_append (z :: a) b ha.2 hb (fun q hq y hy => h q (List.mem_cons_of_mem _ hq) y hy)]
    rfl
theorem inc_last : ∀ (l : List En) (z : En), incB l = true → l[l.length - 1]? = some z → ∀ y ∈ l, ltB z.f0 y.f0 = false
  | [], _, _, _, _, hy => by cases hy
  | [x], z, _, hz, y, hy => by
    simp at hz hy
    subst hz; subst hy
    exact lt_irrefl _
  | x :: u :: l, z, h, hz, y, hy => by
    have h2 : (u :: l)[(u :: l).length - 1]? = some z := by simpa using hz
    have ht := inc_tail h
    rcases List.mem_cons.1 hy with rfl | hy
    · have hm : z ∈ u :: l := List.mem_of_getElem? h2
      exact not_lt_of_lt (inc_lt y _ h z hm)
    · exact inc_last (u :: l) z ht h2 y hy
structure Inv (f t : ByteArray) (x : X) (T : List En) : Prop where
  inc : incB T = true
  hold : ∀ y ∈ T, holdsB f t y.f0 = true
  on : x.2.2 = false → x.2.1 = t ∧ ltB x.1 f = false ∧ ∀ y ∈ T, ltB y.f0 x.1 = true
theorem Inv.start (f t : ByteArray) : Inv f t (f, t, false) [] := ⟨rfl, by simp, fun _ => ⟨rfl, lt_irrefl f, by simp⟩⟩
theorem holds_iff {f t s : ByteArray} : holdsB f t s = true ↔ ltB s f = false ∧ rrB s t = true := by
  unfold holdsB
  cases ltB s f <;> simp
/-- Took took, or not. -/
theorem took_cases (x : X) (l : List En) (most : Int) : (∃ q, tookV (some x) l most = (false, q, none) ∧ q ≠ 0) ∨
    (incB l = true ∧ outside x.1 x.2.1 l = false ∧ 1 ≤ most ∧ l.length ≤ most ∧ ((x.2.2 = true ∧ l = [] ∧ tookV (some x) l most = (true, 0, some (e0, e0, true))) ∨ (x.2.2 = false ∧ (l.length : Int) < most ∧ tookV (some x) l most = (true, 0, some (e0, e0, true))) ∨
      (x.2.2 = false ∧ l.length = most ∧ ∃ z, l[l.length - 1]? = some z ∧ tookV (some x) l most = ((behV x.1 x.2.1 z.f0).2.2, 0, some (behV x.1 x.2.1 z.f0))))) := by
  obtain ⟨g, u, d⟩ := x
  unfold tookV
  simp only []
  by_cases a1 : d = true ∧ 0 < l.length
  · exact .inl ⟨15, by rw [if_pos a1], by omega⟩
  · rw [if_neg a1]
    by_cases a2 : most < 1
    · exact .inl ⟨2, by rw [if_pos a2], by omega⟩
    · rw [if_neg a2]
      by_cases a3 : most < l.length
      · exact .inl ⟨4, by rw [if_pos a3], by omega⟩
      · rw [if_neg a3]
        by_cases a4 : incB l = false
        · exact .inl ⟨16, by rw [if_pos a4], by omega⟩
        · rw [if_neg a4]
          by_cases a5 : outside g u l = true
          · exact .inl ⟨16, by rw [if_pos a5], by omega⟩
          · rw [if_neg a5]
            refine .inr ⟨by simpa using a4, by simpa using a5, by omega, by omega, ?_⟩
            by_cases a6 : d = true ∨ (l.length : Int) < most
            · rw [if_pos a6]
              cases d with
              | true => exact .inl ⟨rfl, by cases l with | nil => rfl | cons y l => simp at a1, rfl⟩
              | false => exact .inr (.inl ⟨rfl, by simpa using a6, rfl⟩)
            · rw [if_neg a6]
              have hd : d = false := by cases d <;> simp_all
              subst hd
              have hl : l.length - 1 < l.length := by omega
              refine .inr (.inr ⟨rfl, by simp at a6; omega, l[l.length - 1], List.getElem?_eq_getElem hl, ?_⟩)
              rw [List.getElem?_eq_getElem hl]
theorem Inv.step {f t : ByteArray} {x : X} {T : List En} (h : Inv f t x T) {l : List En} (hi : incB l = true) (ho : outside x.1 x.2.1 l = false) (hx : x.2.2 = true → l = []) (x' : X)
    (hx' : x'.2.2 = true ∨ (x.2.2 = false ∧ ∃ z, l[l.length - 1]? = some z ∧ x' = behV x.1 x.2.1 z.f0)) : Inv f t x' (T ++ l) := by
  have hold : ∀ y ∈ l, x.2.2 = false ∧ ltB y.f0 x.1 = false ∧ rrB y.f0 x.2.1 = true := fun y hy => by
    have hd : x.2.2 = false := by
      cases hd : x.2.2 with
      | false => rfl
      | true => rw [hx hd] at hy; cases hy
    have h1 : holdsB x.1 x.2.1 y.f0 = true := by
      unfold outside at ho
      rw [List.any_eq_false] at ho
      have := ho y hy
      simpa using this
    exact ⟨hd, (holds_iff.1 h1).1, (holds_iff.1 h1).2⟩
  refine ⟨inc_append T l h.inc hi (fun a ha b hb => ?_), fun y hy => ?_, fun hd => ?_⟩
  · obtain ⟨hd, h1, _⟩ := hold b hb
    exact lt_le ((h.on hd).2.2 a ha) h1
  · rcases List.mem_append.1 hy with hy | hy
    · exact h.hold y hy
    · obtain ⟨hd, h1, h2⟩ := hold y hy
      obtain ⟨e1, e2, _⟩ := h.on hd
      refine holds_iff.2 ⟨?_, by rw [← e1]; exact h2⟩
      cases e : ltB y.f0 f with
      | false => rfl
      | true => rw [lt_le e e2] at h1; cases h1
  · rcases hx' with hx' | ⟨h0, z, hz, rfl⟩
    · rw [hx'] at hd; cases hd
    · obtain ⟨e1, e2, e3⟩ := h.on h0
      unfold behV at hd ⊢
      split at hd
      · rename_i hr
        rw [if_pos hr]
        have hzm := List.mem_of_getElem? hz
        obtain ⟨_, hz1, _⟩ := hold z hzm
        refine ⟨e1, ?_, fun y hy => ?_⟩
        · have h1 : ltB x.1 (aft z.f0) = true := (aft_iff _ _).2 hz1
          exact not_lt_of_lt (le_lt e2 h1)
        · rcases List.mem_append.1 hy with hy | hy
          · exact lt_trans (lt_le (e3 y hy) hz1) ((aft_iff _ _).2 (lt_irrefl _))
          · exact (aft_iff _ _).2 (inc_last l z hi hz y hy)
      · cases hd
theorem holds2_eq (f t s : ByteArray) : catchmentref02_Holds.f f t s = some (holdsB f t s) := by
  unfold catchmentref02_Holds.f holdsB rrB ltB
  cases Op.bytesLess s.toList f.toList
  · by_cases ht : t.toList = [] <;> simp [ht]
  · rfl
theorem right_eq (f t : ByteArray) : catchmentref02_Right.f f t = some (rrB f t) := by
  unfold catchmentref02_Right.f rrB
  split <;> rfl
end Go.Proofs.Ytohipdjoeoaphaa.Cur
