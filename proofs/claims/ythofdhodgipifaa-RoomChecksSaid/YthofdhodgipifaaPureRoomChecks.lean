/- The plain law of RoomChecks: which sizes a machine may have, and which operations may be asked, or why not: both answers are one, at every config and operation. -/
import Derived.Test.YthofdhodgipifaaRl
import Derived.Test.YthofdhodgipifaaP10
import Derived.Test.YthofdhodgipifaaP7
import Derived.Test.YthofdhodgipifaaP11
import Derived.Test.YthofdhodgipifaaKd
set_option linter.unusedVariables false
set_option linter.unusedSimpArgs false
namespace Go.Proofs.Ythofdhodgipifaa.Pure
open Go.RowKit Go.Proofs.Ythofdhodgipifaa.P Go.Proofs.Ythofdhodgipifaa.Own Go.Proofs.YthofdhodgipifaaW.PrintWords Go.Proofs.YthofdhodgipifaaW.PrintLast Go.Proofs.YthofdhodgipifaaW.PrintMore

theorem ref_sizes (k : Nat) (c0 c1 c2 c3 c4 c5 c6 c7 c8 : Int) : catchmentref21_Check.f (k + 9) c0 c1 c2 c3 c4 c5 c6 c7 c8 = some (if sizesOk c0 c1 c2 c3 c4 c5 c6 c7 c8 = true then 0 else 2) := by
  have j2 : ∀ (n : Nat) (b : Bool), catchmentref21_Check.j2 (n + 1) b c0 c1 c2 c3 c4 c5 c6 c7 c8 = some (if b = true ∨ c6 < 2 ∨ c6 > 4096 ∨ c7 < 0 ∨ c7 > 1000 ∨ c8 < 1 ∨ c8 > 1024 then 2 else 0) := by
    intro n b
    rw [catchmentref21_Check.j2]
    cases b
    · simp only [Bool.false_eq_true, if_false, false_or]
      by_cases h1 : c6 < 2
      · simp [h1]
      · by_cases h2 : c6 > 4096
        · simp [h1, h2]
        · by_cases h3 : c7 < 0
          · simp [h1, h2, h3]
          · by_cases h4 : c7 > 1000
            · simp [h1, h2, h3, h4]
            · by_cases h5 : c8 < 1
              · simp [h1, h2, h3, h4, h5]
              · by_cases h6 : c8 > 1024 <;> simp [h1, h2, h3, h4, h5, h6]
    · simp
  have j1 : ∀ (n : Nat) (b : Bool), catchmentref21_Check.j1 (n + 2) b c0 c1 c2 c3 c4 c5 c6 c7 c8 = some (if b = true ∨ c4 < 4 ∨ c4 > 256 ∨ c5 < 2 ∨ c5 > c4 ∨ c6 < 2 ∨ c6 > 4096 ∨ c7 < 0 ∨ c7 > 1000 ∨ c8 < 1 ∨ c8 > 1024 then 2 else 0) := by
    intro n b
    rw [catchmentref21_Check.j1]
    simp only [j2]
    cases b
    · simp only [Bool.false_eq_true, if_false, false_or]
      by_cases h1 : c4 < 4
      · simp [h1]
      · by_cases h2 : c4 > 256
        · simp [h1, h2]
        · by_cases h3 : c5 < 2
          · simp [h1, h2, h3]
          · simp [h1, h2, h3]
    · simp
  have j0 : ∀ (n : Nat) (b : Bool), catchmentref21_Check.j0 (n + 3) b c0 c1 c2 c3 c4 c5 c6 c7 c8 = some (if b = true ∨ c2 < 4 ∨ c2 > 64 ∨ c3 < 0 ∨ c3 > 1048576 ∨ c4 < 4 ∨ c4 > 256 ∨ c5 < 2 ∨ c5 > c4 ∨ c6 < 2 ∨ c6 > 4096 ∨ c7 < 0 ∨ c7 > 1000 ∨ c8 < 1 ∨ c8 > 1024 then 2 else 0) := by
    intro n b
    rw [catchmentref21_Check.j0]
    simp only [j1]
    cases b
    · simp only [Bool.false_eq_true, if_false, false_or]
      by_cases h1 : c2 < 4
      · simp [h1]
      · by_cases h2 : c2 > 64
        · simp [h1, h2]
        · by_cases h3 : c3 < 0
          · simp [h1, h2, h3]
          · simp [h1, h2, h3]
    · simp
  have e : catchmentref21_Check.f (k + 9) c0 c1 c2 c3 c4 c5 c6 c7 c8 = some (if c0 < 1 ∨ c0 > 256 ∨ c1 < 8 ∨ c1 > 4096 ∨ c2 < 4 ∨ c2 > 64 ∨ c3 < 0 ∨ c3 > 1048576 ∨ c4 < 4 ∨ c4 > 256 ∨ c5 < 2 ∨ c5 > c4 ∨ c6 < 2 ∨ c6 > 4096 ∨ c7 < 0 ∨ c7 > 1000 ∨ c8 < 1 ∨ c8 > 1024 then 2 else 0) := by
    unfold catchmentref21_Check.f
    rw [j0 (k + 6), j0 (k + 6)]
    by_cases h1 : c0 < 1
    · simp [h1]
    · by_cases h2 : c0 > 256
      · simp [h1, h2]
      · by_cases h3 : c1 < 8
        · simp [h1, h2, h3]
        · simp [h1, h2, h3]
  rw [e]
  congr 1
  unfold sizesOk
  by_cases h : (1 ≤ c0 ∧ c0 ≤ 256) ∧ (8 ≤ c1 ∧ c1 ≤ 4096) ∧ (4 ≤ c2 ∧ c2 ≤ 64) ∧ (0 ≤ c3 ∧ c3 ≤ 1048576) ∧ (4 ≤ c4 ∧ c4 ≤ 256) ∧ (2 ≤ c5 ∧ c5 ≤ c4) ∧ (2 ≤ c6 ∧ c6 ≤ 4096) ∧ (0 ≤ c7 ∧ c7 ≤ 1000) ∧ (1 ≤ c8 ∧ c8 ≤ 1024)
  · rw [if_neg (by omega), if_pos (by simpa using h)]
  · rw [if_pos (by omega), if_neg (by simpa using h)]

section
variable (c0 c1 c2 c3 c4 c5 c6 c7 c8 : Int)
/-- What the reference answers behind the messages. -/
def tailV (k : Int) (y t : ByteArray) (n : Int) : Int := if k = 3 ∨ k = 4 then (if (y.size : Int) > c0 ∨ (t.size : Int) > c0 then 6 else if rr y t = false then 7 else if k = 3 ∧ ¬ (1 ≤ n ∧ n ≤ c8) then 4 else 0) else 0
theorem ref_tail (m : Nat) (k : Int) (y t : ByteArray) (n : Int) (b : List M) (z : Bool) (hz : z = !decide (k = 3 ∨ k = 4)) :
    catchmentref21_Ask.j5 (m + 3) z k y t n b c0 c1 c2 c3 c4 c5 c6 c7 c8 = some (tailV c0 c8 k y t n) := by
  have j7 : ∀ q : Bool, q = !rr y t → catchmentref21_Ask.j7 (m + 1) q k y t n b c0 c1 c2 c3 c4 c5 c6 c7 c8 = some (if rr y t = false then 7 else if k = 3 ∧ ¬ (1 ≤ n ∧ n ≤ c8) then 4 else 0) := by
    intro q hq
    rw [catchmentref21_Ask.j7]
    cases hr : rr y t
    · rw [hr] at hq; subst hq; simp
    · rw [hr] at hq; subst hq
      simp only [Bool.not_true, Bool.false_eq_true, if_false, Bool.true_eq_false]
      by_cases k3 : k = 3
      · rw [if_pos k3]
        by_cases h1 : n < 1
        · rw [if_pos h1, if_pos ⟨k3, by omega⟩]
        · rw [if_neg h1]
          by_cases h2 : n > c8
          · rw [if_pos h2, if_pos ⟨k3, by omega⟩]
          · rw [if_neg h2, if_neg (by omega)]
      · rw [if_neg k3]; simp [k3]
  have j6 : ∀ q : Bool, catchmentref21_Ask.j6 (m + 2) q k y t n b c0 c1 c2 c3 c4 c5 c6 c7 c8 = some (if q = true then 6 else if rr y t = false then 7 else if k = 3 ∧ ¬ (1 ≤ n ∧ n ≤ c8) then 4 else 0) := by
    intro q
    rw [catchmentref21_Ask.j6]
    cases q
    · simp only [Bool.false_eq_true, if_false]
      by_cases h : t.toList = []
      · rw [if_pos h]; exact j7 _ (by simp [rr, emp, h])
      · rw [if_neg h]; exact j7 _ (by simp [rr, emp, lt, h])
    · simp
  rw [catchmentref21_Ask.j5]
  unfold tailV
  cases z
  · simp only [Bool.false_eq_true, if_false]
    rw [if_pos (show k = 3 ∨ k = 4 from Classical.or_iff_not_imp_left.2 (by simpa using hz.symm))]
    by_cases h1 : (y.size : Int) > c0
    · rw [if_pos h1, if_pos (.inl h1), j6]; simp
    · rw [if_neg h1, j6]
      by_cases h2 : (t.size : Int) > c0
      · simp [h2]
      · simp [h1, h2]
  · simp only [if_true]
    rw [if_neg (show ¬ (k = 3 ∨ k = 4) from by simpa using hz.symm)]
theorem ref_l1 (k : Int) (y t : ByteArray) (n : Int) (L : List M) (hL : ∀ x ∈ L, okM x) (hLn : L.length ≤ 140737488351232) : ∀ (l : List M) (i N : Nat), L.drop i = l → i ≤ L.length →
    catchmentref21_Ask.l1 (N + 30 + l.length) i k y t n L c0 c1 c2 c3 c4 c5 c6 c7 c8 = some (if firstErr c0 c1 l = 0 then tailV c0 c8 k y t n else firstErr c0 c1 l) := by
  intro l
  induction l with
  | nil =>
    intro i N hd hi
    have := drop_nil_le hd
    rw [List.length_nil, Nat.add_zero, show N + 30 = (N + 29) + 1 from rfl, catchmentref21_Ask.l1, if_neg (by omega)]
    simp only [firstErr, if_true]
    by_cases k3 : k = 3
    · rw [if_pos k3]
      exact ref_tail c0 c1 c2 c3 c4 c5 c6 c7 c8 (N + 26) k y t n L false (by simp [k3])
    · rw [if_neg k3]
      exact ref_tail c0 c1 c2 c3 c4 c5 c6 c7 c8 (N + 26) k y t n L _ (by rw [Bool.eq_iff_iff]; simp [k3])
  | cons x l ih =>
    intro i N hd hi
    obtain ⟨hlt, hrd, hd2, hx⟩ := at_drop hd
    rw [show N + 30 + (x :: l).length = (N + 30 + l.length) + 1 from by simp; omega, catchmentref21_Ask.l1]
    rw [if_pos (by omega), if_pos (by omega), hrd, IntWalk.wrap64_in _ (by omega)]
    have hc := ref_Check_eq (N + 11 + l.length) x.f0 x.f1 x.f2 x.f3 x.f4 x.f5 c0 c1 c2 c3 c4 c5 c6 c7 c8
    rw [show N + 11 + l.length + 19 = N + 30 + l.length from by omega] at hc
    rw [hc]
    simp only [Option.bind_some, firstErr]
    show (if chkM c0 c1 x = 0 then _ else some (chkM c0 c1 x)) = _
    by_cases h0 : chkM c0 c1 x = 0
    · rw [if_pos h0]
      simp only [if_pos h0]
      have := ih (i + 1) N hd2 (by omega)
      rw [show ((i + 1 : Nat) : Int) = (i : Int) + 1 from by omega] at this
      exact this
    · rw [if_neg h0]
      simp only [if_neg h0]
theorem ref_l0 (k : Int) (y t : ByteArray) (n : Int) (L : List M) (hL : ∀ x ∈ L, okM x) (hLn : L.length ≤ 140737488351232) : ∀ (l : List M) (i N : Nat), L.drop i = l → i ≤ L.length →
    catchmentref21_Ask.l0 (N + 31 + L.length + l.length) i k y t n L c0 c1 c2 c3 c4 c5 c6 c7 c8 = some (if seqOk l = true then (if firstErr c0 c1 L = 0 then tailV c0 c8 k y t n else firstErr c0 c1 L) else 3) := by
  intro l
  induction l with
  | nil =>
    intro i N hd hi
    have := drop_nil_le hd
    rw [List.length_nil, Nat.add_zero, show N + 31 + L.length = (N + 30 + L.length) + 1 from by omega, catchmentref21_Ask.l0, if_neg (by omega)]
    have h1 := ref_l1 c0 c1 c2 c3 c4 c5 c6 c7 c8 k y t n L hL hLn L 0 N rfl (by omega)
    exact h1
  | cons x l ih =>
    intro i N hd hi
    obtain ⟨hlt, hrd, hd2, hx⟩ := at_drop hd
    rw [show N + 31 + L.length + (x :: l).length = (N + 31 + L.length + l.length) + 1 from by simp; omega, catchmentref21_Ask.l0]
    rw [if_pos (by omega), if_pos (by omega), hrd, IntWalk.wrap64_in _ (by omega)]
    by_cases h0 : x.f1 = 0
    · rw [if_pos h0]
      have := ih (i + 1) N hd2 (by omega)
      rw [show ((i + 1 : Nat) : Int) = (i : Int) + 1 from by omega] at this
      rw [this]
      simp [seqOk, h0]
    · rw [if_neg h0]
      simp [seqOk, h0]
theorem ref_zero (k : Int) (y t : ByteArray) (n : Int) (b : List M) (hk : 1 ≤ k) (hk6 : k ≤ 6) : catchmentref21_zero.f k y t n b = some (!spareBad k y t n b) := by
  have h : k = 1 ∨ k = 2 ∨ k = 3 ∨ k = 4 ∨ k = 5 ∨ k = 6 := by omega
  unfold catchmentref21_zero.f
  have hb : ((b.length : Int) == 0) = decide (b = []) := by
    cases b with
    | nil => rfl
    | cons a ws => simp; omega
  simp only [hb, emp_toList]
  rcases h with rfl | rfl | rfl | rfl | rfl | rfl <;> cases hy : emp y <;> cases ht : emp t <;> by_cases hn : n = 0 <;> simp [spareBad, hy, ht, hn]
theorem ref_Ask_eq (N : Nat) (k : Int) (y t : ByteArray) (n : Int) (b : List M) (hL : ∀ x ∈ b, okM x) (hLn : b.length ≤ 140737488351232) :
    catchmentref21_Ask.f (N + 40 + b.length + b.length) k y t n b c0 c1 c2 c3 c4 c5 c6 c7 c8 = some (askV k y t n b c0 c1 c8) := by
  obtain ⟨m, hm⟩ : ∃ m, N + 40 + b.length + b.length = (m + 31 + b.length + b.length) + 3 := ⟨N + 6, by omega⟩
  rw [hm]
  have j2 : ∀ q : Bool, catchmentref21_Ask.j2 (m + 31 + b.length + b.length + 1) q k y t n b c0 c1 c2 c3 c4 c5 c6 c7 c8 = some (if q = true then 8 else if seqOk b = true then (if firstErr c0 c1 b = 0 then tailV c0 c8 k y t n else firstErr c0 c1 b) else 3) := by
    intro q
    rw [catchmentref21_Ask.j2]
    cases q
    · simp only [Bool.false_eq_true, if_false]
      exact ref_l0 c0 c1 c2 c3 c4 c5 c6 c7 c8 k y t n b hL hLn b 0 m rfl (by omega)
    · simp
  have j1 : ∀ q : Bool, catchmentref21_Ask.j1 (m + 31 + b.length + b.length + 2) q k y t n b c0 c1 c2 c3 c4 c5 c6 c7 c8 = some (if q = true then 6 else if k = 2 ∧ (b.length : Int) > 1024 then 8 else if seqOk b = true then (if firstErr c0 c1 b = 0 then tailV c0 c8 k y t n else firstErr c0 c1 b) else 3) := by
    intro q
    rw [catchmentref21_Ask.j1]
    simp only [j2]
    cases q
    · by_cases k2 : k = 2
      · by_cases h : (b.length : Int) > 1024 <;> simp [k2, h]
      · simp [k2]
    · simp
  have j0 : ∀ q : Bool, catchmentref21_Ask.j0 (m + 31 + b.length + b.length + 3) q k y t n b c0 c1 c2 c3 c4 c5 c6 c7 c8 = some (if q = true then 3 else if k = 1 ∧ (emp y = true ∨ (y.size : Int) > c0) then 6 else if k = 2 ∧ (b.length : Int) > 1024 then 8 else if seqOk b = true then (if firstErr c0 c1 b = 0 then tailV c0 c8 k y t n else firstErr c0 c1 b) else 3) := by
    intro q
    rw [catchmentref21_Ask.j0]
    simp only [j1, emp_toList]
    cases q
    · by_cases k1 : k = 1
      · by_cases h : emp y = true
        · simp [k1, h]
        · by_cases h2 : (y.size : Int) > c0 <;> simp [k1, h, h2]
      · simp [k1]
    · simp
  unfold catchmentref21_Ask.f askV
  by_cases h1 : k < 1
  · rw [if_pos h1, if_pos (.inl h1), j0]; simp
  · rw [if_neg h1]
    by_cases h2 : k > 6
    · rw [if_pos h2, if_pos (.inr (.inl h2)), j0]; simp
    · rw [if_neg h2, ref_zero k y t n b (by omega) (by omega)]
      simp only [Option.bind_some, j0]
      cases hs : spareBad k y t n b with
      | true => simp
      | false =>
        have hsz := size_emp (y := y)
        simp only [h1, h2, Bool.not_false, Bool.not_true, Bool.false_eq_true, if_false, or_self]
        by_cases k1 : k = 1
        · have hb : b = [] := by
            by_cases hb : b = []
            · exact hb
            · simp [spareBad, k1, hb] at hs
          subst hb
          simp only [k1, true_and, if_true, seqOk, List.all_nil, firstErr, tailV]
          by_cases h : 1 ≤ (y.size : Int) ∧ (y.size : Int) ≤ c0
          · rw [if_pos h, if_neg (by rw [hsz]; omega)]
            simp
          · rw [if_neg h, if_pos (by rw [hsz]; omega)]
        · by_cases k2 : k = 2
          · simp only [k1, k2, true_and, false_and, if_true, if_false, batchV]
            by_cases h3 : (b.length : Int) > 1024
            · simp [h3]
            · simp only [h3, if_false]
              by_cases h4 : seqOk b = true
              · simp only [h4, if_true]
                by_cases h5 : firstErr c0 c1 b = 0
                · simp [h5, tailV, k2]
                · simp [h5]
              · simp [h4]
          · have hb : b = [] := by
              by_cases hb : b = []
              · exact hb
              · simp [spareBad, k1, k2, hb] at hs
            subst hb
            simp [k1, k2, seqOk, firstErr, tailV]
end
theorem wf_u8 {x : Int} (h : (Lit.int .u8 x).wf = true) : 0 ≤ x ∧ x ≤ 255 := by
  simp [Lit.wf, IntKind.min, IntKind.max, IntKind.signed, IntKind.bits] at h
  omega

theorem RoomChecks : ∀ (x0 : S23) (x1 : S27), (wf23 x0) → (wf27 x1) → ∃ k, catchmentlaw21_RoomChecks.f k x0.f0 x0.f1 x0.f2 x0.f3 x0.f4 x0.f5 x0.f6 x0.f7 x0.f8 x1.f0 x1.f1 x1.f2 x1.f3 x1.f4 = some true := by
  intro c o hc ho
  obtain ⟨hk, _, _, _, hb⟩ := ho
  have hk := wf_u8 hk
  have hL : ∀ x ∈ o.f4, okM x := fun x hx => (hb.2 x hx).2.2.1
  have hLn : o.f4.length ≤ 140737488351232 := by have := hb.1; omega
  refine ⟨0 + 40 + o.f4.length + o.f4.length, ?_⟩
  unfold catchmentlaw21_RoomChecks.f
  have l := live_eq (o.f4.length + o.f4.length)
  rw [show o.f4.length + o.f4.length + 40 = 0 + 40 + o.f4.length + o.f4.length from by omega] at l
  have r := ref_sizes (31 + o.f4.length + o.f4.length) c.f0 c.f1 c.f2 c.f3 c.f4 c.f5 c.f6 c.f7 c.f8
  rw [show 31 + o.f4.length + o.f4.length + 9 = 0 + 40 + o.f4.length + o.f4.length from by omega] at r
  rw [l, sizes_eq, r, Ask_eq c.f0 c.f1 c.f2 c.f3 c.f4 c.f5 c.f6 c.f7 c.f8 0 o.f0 o.f1 o.f2 o.f3 o.f4 hL hLn hk.1 hk.2, ref_Ask_eq c.f0 c.f1 c.f2 c.f3 c.f4 c.f5 c.f6 c.f7 c.f8 0 o.f0 o.f1 o.f2 o.f3 o.f4 hL hLn]
  simp
end Go.Proofs.Ythofdhodgipifaa.Pure
