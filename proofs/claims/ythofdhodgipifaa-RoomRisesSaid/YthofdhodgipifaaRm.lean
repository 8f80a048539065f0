/- Room: which sizes a machine may have, and which operations may be asked, or why not: the printed functions of room and of its reference in one plain form. -/
import Derived.Test.YthofdhodgipifaaMk
import Derived.Test.YthofdhodgipifaaP5
import Derived.Test.YthofdhodgipifaaP2
import Derived.IntWalk
set_option linter.unusedVariables false
set_option linter.unusedSimpArgs false
namespace Go.Proofs.Ythofdhodgipifaa.P
open Go.RowKit Go.Proofs.YthofdhodgipifaaW.PrintWords Go.Proofs.YthofdhodgipifaaW.PrintLast Go.Proofs.YthofdhodgipifaaW.PrintMore Go.Proofs.Ythofdhodgipifaa.Own Go.Proofs.Ythofdhodgipifaa

abbrev M := S47
def okM (m : M) : Prop := m.f2.size ≤ 140737488351232
def seqOk (l : List M) : Bool := l.all fun m => decide (m.f1 = 0)
def chkM (c0 c1 : Int) (m : M) : Int := chk m.f0 m.f2 m.f3 m.f4 m.f5 c0 c1
def firstErr (c0 c1 : Int) : List M → Int
  | [] => 0
  | m :: l => if chkM c0 c1 m = 0 then firstErr c0 c1 l else chkM c0 c1 m
theorem in_eq (n a b : Int) : room_in.f n a b = some (decide (a ≤ n ∧ n ≤ b)) := by
  unfold room_in.f
  by_cases h : n ≥ a
  · rw [if_pos h]; simp [h]
  · rw [if_neg h]; simp; omega
theorem at_drop {L l : List M} {i : Nat} {x : M} (hd : L.drop i = x :: l) : i < L.length ∧ rd_T47 L (i : Int) = x ∧ L.drop (i + 1) = l ∧ x ∈ L := by
  have hlt : i < L.length := by
    rcases Nat.lt_or_ge i L.length with h | h
    · exact h
    · rw [List.drop_eq_nil_of_le h] at hd; cases hd
  have hx : L[i]? = some x := by
    have := congrArg (fun z => z[0]?) hd
    simpa using this
  refine ⟨hlt, ?_, ?_, List.mem_of_getElem? hx⟩
  · show L.getD ((i : Int).toNat) _ = x
    rw [Int.toNat_natCast, List.getD_eq_getElem?_getD, hx]
    rfl
  · have := congrArg (List.drop 1) hd
    simpa [List.drop_drop] using this
theorem drop_nil_le {L : List M} {i : Nat} (hd : L.drop i = []) : L.length ≤ i := by
  have := congrArg List.length hd
  simp at this
  omega

section
variable (c0 c1 c2 c3 c4 c5 c6 c7 c8 : Int)
theorem batch_l1 (L : List M) (hL : ∀ x ∈ L, okM x) (hLn : L.length ≤ 140737488351232) : ∀ (l : List M) (i k : Nat), L.drop i = l → i ≤ L.length →
    room_batch.l1 (k + 20 + l.length) L L.length i c0 c1 c2 c3 c4 c5 c6 c7 c8 = some (firstErr c0 c1 l) := by
  intro l
  induction l with
  | nil =>
    intro i k hd hi
    have := drop_nil_le hd
    rw [List.length_nil, Nat.add_zero, show k + 20 = (k + 19) + 1 from rfl, room_batch.l1, if_neg (by omega)]
    rfl
  | cons x l ih =>
    intro i k hd hi
    obtain ⟨hlt, hrd, hd2, hx⟩ := at_drop hd
    rw [show k + 20 + (x :: l).length = (k + 20 + l.length) + 1 from by simp; omega, room_batch.l1]
    rw [if_pos (by omega), if_pos (by omega), if_pos (by omega), hrd, IntWalk.wrap64_in _ (by omega)]
    have hc := Check_eq (k + 11 + l.length) x.f0 x.f1 x.f2 x.f3 x.f4 x.f5 c0 c1 c2 c3 c4 c5 c6 c7 c8 (hL x hx)
    rw [show k + 11 + l.length + 9 = k + 20 + l.length from by omega] at hc
    rw [hc]
    simp only [Option.bind_some, firstErr]
    show (if chkM c0 c1 x = 0 then _ else some (chkM c0 c1 x)) = _
    by_cases h0 : chkM c0 c1 x = 0
    · rw [if_pos h0, if_pos h0]
      have := ih (i + 1) k hd2 (by omega)
      rw [show ((i + 1 : Nat) : Int) = (i : Int) + 1 from by omega] at this
      exact this
    · rw [if_neg h0, if_neg h0]
theorem batch_l0 (L : List M) (hL : ∀ x ∈ L, okM x) (hLn : L.length ≤ 140737488351232) : ∀ (l : List M) (i k : Nat), L.drop i = l → i ≤ L.length →
    room_batch.l0 (k + 30 + L.length + l.length) L L L.length i c0 c1 c2 c3 c4 c5 c6 c7 c8 = some (if seqOk l = true then firstErr c0 c1 L else 3) := by
  intro l
  induction l with
  | nil =>
    intro i k hd hi
    have := drop_nil_le hd
    rw [List.length_nil, Nat.add_zero, show k + 30 + L.length = (k + 29 + L.length) + 1 from by omega, room_batch.l0, if_neg (by omega)]
    have h1 := batch_l1 c0 c1 c2 c3 c4 c5 c6 c7 c8 L hL hLn L 0 (k + 9) rfl (by omega)
    rw [show k + 9 + 20 + L.length = k + 29 + L.length from by omega] at h1
    exact h1
  | cons x l ih =>
    intro i k hd hi
    obtain ⟨hlt, hrd, hd2, hx⟩ := at_drop hd
    rw [show k + 30 + L.length + (x :: l).length = (k + 30 + L.length + l.length) + 1 from by simp; omega, room_batch.l0]
    rw [if_pos (by omega), if_pos (by omega), if_pos (by omega), hrd, IntWalk.wrap64_in _ (by omega)]
    by_cases h0 : x.f1 = 0
    · rw [if_pos h0]
      have := ih (i + 1) k hd2 (by omega)
      rw [show ((i + 1 : Nat) : Int) = (i : Int) + 1 from by omega] at this
      rw [this]
      simp [seqOk, h0]
    · rw [if_neg h0]
      simp [seqOk, h0]
end
def batchV (c0 c1 : Int) (b : List M) : Int := if (b.length : Int) > 1024 then 8 else if seqOk b = true then firstErr c0 c1 b else 3
theorem batch_eq (k : Nat) (b : List M) (hL : ∀ x ∈ b, okM x) (hLn : b.length ≤ 140737488351232) (c0 c1 c2 c3 c4 c5 c6 c7 c8 : Int) : room_batch.f (k + 30 + b.length + b.length) b c0 c1 c2 c3 c4 c5 c6 c7 c8 = some (batchV c0 c1 b) := by
  unfold room_batch.f batchV
  by_cases h : (b.length : Int) > 1024
  · rw [if_pos h, if_pos h]
  · rw [if_neg h, if_neg h]
    exact batch_l0 c0 c1 c2 c3 c4 c5 c6 c7 c8 b hL hLn b 0 k rfl (by omega)

/-- Is there what does not belong to an operation's kind? -/
def spareBad (k : Int) (y t : ByteArray) (n : Int) (b : List M) : Bool :=
  (!(decide (k = 1 ∨ k = 3 ∨ k = 4)) && !emp y) || (!(decide (k = 3 ∨ k = 4)) && !emp t) || (!(decide (k = 3 ∨ k = 5 ∨ k = 6)) && decide (¬ n = 0)) || (!(decide (k = 2)) && decide (¬ b = []))
def askV (k : Int) (y t : ByteArray) (n : Int) (b : List M) (c0 c1 c8 : Int) : Int :=
  if k < 1 ∨ k > 6 ∨ spareBad k y t n b = true then 3
  else if k = 1 then (if 1 ≤ (y.size : Int) ∧ (y.size : Int) ≤ c0 then 0 else 6)
  else if k = 2 then batchV c0 c1 b
  else if k = 3 ∨ k = 4 then (if (y.size : Int) > c0 ∨ (t.size : Int) > c0 then 6 else if rr y t = false then 7 else if k = 3 ∧ ¬ (1 ≤ n ∧ n ≤ c8) then 4 else 0)
  else 0
section
variable (c0 c1 c2 c3 c4 c5 c6 c7 c8 : Int)
theorem ask_j0 (N : Nat) (k : Int) (y t : ByteArray) (n : Int) (b : List M) (hL : ∀ x ∈ b, okM x) (hLn : b.length ≤ 140737488351232) (hk : 1 ≤ k) (hk6 : k ≤ 6) (x : Bool) (hx : x = spareBad k y t n b) :
    room_Ask.j0 (N + 40 + b.length + b.length) x k y t n b c0 c1 c2 c3 c4 c5 c6 c7 c8 = some (askV k y t n b c0 c1 c8) := by
  have hks : ¬ (k < 1 ∨ k > 6 ∨ spareBad k y t n b = true) ↔ x = false := by
    rw [← hx]; cases x <;> simp <;> omega
  rw [show N + 40 + b.length + b.length = (N + 39 + b.length + b.length) + 1 from by omega, room_Ask.j0]
  unfold askV
  cases x with
  | true => rw [if_pos rfl, if_pos (.inr (.inr hx.symm))]
  | false =>
    rw [if_neg (by simp), if_neg (hks.2 rfl)]
    by_cases k1 : k = 1
    · rw [if_pos k1, if_pos k1, in_eq]
      by_cases h : 1 ≤ (y.size : Int) ∧ (y.size : Int) ≤ c0 <;> simp [h]
    · rw [if_neg k1, if_neg k1]
      by_cases k2 : k = 2
      · rw [if_pos k2, if_pos k2]
        have := batch_eq (N + 9) b hL hLn c0 c1 c2 c3 c4 c5 c6 c7 c8
        rw [show N + 9 + 30 + b.length + b.length = N + 39 + b.length + b.length from by omega] at this
        rw [this]
        rfl
      · rw [if_neg k2, if_neg k2]
        have tail : ∀ z : Bool, z = decide (k = 3 ∨ k = 4) → room_Ask.j1 (N + 39 + b.length + b.length) z k y t n b c0 c1 c2 c3 c4 c5 c6 c7 c8 = some (if k = 3 ∨ k = 4 then (if (y.size : Int) > c0 ∨ (t.size : Int) > c0 then 6 else if rr y t = false then 7 else if k = 3 ∧ ¬ (1 ≤ n ∧ n ≤ c8) then 4 else 0) else 0) := by
          intro z hz
          obtain ⟨m, hm⟩ : ∃ m, N + 39 + b.length + b.length = m + 3 := ⟨N + 36 + b.length + b.length, by omega⟩
          rw [hm]
          have j3 : ∀ q : Bool, q = !rr y t → room_Ask.j3 (m + 1) q k y t n b c0 c1 c2 c3 c4 c5 c6 c7 c8 = some (if rr y t = false then 7 else if k = 3 ∧ ¬ (1 ≤ n ∧ n ≤ c8) then 4 else 0) := by
            intro q hq
            rw [room_Ask.j3]
            cases hr : rr y t
            · rw [hr] at hq; subst hq; simp
            · rw [hr] at hq; subst hq
              simp only [Bool.not_true, Bool.false_eq_true, if_false, Bool.true_eq_false]
              by_cases k3 : k = 3
              · rw [if_pos k3, in_eq]
                by_cases h : 1 ≤ n ∧ n ≤ c8 <;> simp [h, k3]
              · rw [if_neg k3]; simp [k3]
          have j2 : ∀ q : Bool, room_Ask.j2 (m + 2) q k y t n b c0 c1 c2 c3 c4 c5 c6 c7 c8 = some (if q = true then 6 else if rr y t = false then 7 else if k = 3 ∧ ¬ (1 ≤ n ∧ n ≤ c8) then 4 else 0) := by
            intro q
            rw [room_Ask.j2]
            cases q
            · simp only [Bool.false_eq_true, if_false]
              by_cases h : t.toList = []
              · rw [if_pos h]; exact j3 _ (by simp [rr, emp, h])
              · rw [if_neg h]; exact j3 _ (by simp [rr, emp, lt, h])
            · simp
          rw [room_Ask.j1]
          cases z
          · simp only [Bool.false_eq_true, if_false]
            rw [if_neg (show ¬ (k = 3 ∨ k = 4) from by simpa using hz.symm)]
          · simp only [if_true]
            rw [if_pos (show k = 3 ∨ k = 4 from by simpa using hz.symm)]
            by_cases h1 : (y.size : Int) > c0
            · rw [if_pos h1, if_pos (.inl h1), j2]; simp
            · rw [if_neg h1, j2]
              by_cases h2 : (t.size : Int) > c0
              · simp [h2]
              · simp [h1, h2]
        by_cases k3 : k = 3
        · rw [if_pos k3]
          exact tail _ (by simp [k3])
        · rw [if_neg k3]
          exact tail _ (by rw [Bool.eq_iff_iff]; simp [k3])
theorem ask_j0_true (m : Nat) (k : Int) (y t : ByteArray) (n : Int) (b : List M) : room_Ask.j0 (m + 1) true k y t n b c0 c1 c2 c3 c4 c5 c6 c7 c8 = some 3 := by
  rw [room_Ask.j0, if_pos rfl]
theorem spare_fields (k : Int) (y t : ByteArray) (n : Int) (b : List M) (hk : 1 ≤ k) (hk6 : k ≤ 6) : ∃ s : Int × ByteArray × ByteArray × Int × List M, room_spare.f k y t n b = some s ∧
    ((!emp s.2.1) || (!emp s.2.2.1) || decide (¬ s.2.2.2.1 = 0) || decide (¬ s.2.2.2.2 = [])) = spareBad k y t n b := by
  unfold room_spare.f
  have h : k = 1 ∨ k = 2 ∨ k = 3 ∨ k = 4 ∨ k = 5 ∨ k = 6 := by omega
  have e : emp (⟨#[]⟩ : ByteArray) = true := emp_e0
  rcases h with rfl | rfl | rfl | rfl | rfl | rfl <;> refine ⟨_, rfl, ?_⟩ <;> simp [spareBad, e]
theorem Ask_eq (N : Nat) (k : Int) (y t : ByteArray) (n : Int) (b : List M) (hL : ∀ x ∈ b, okM x) (hLn : b.length ≤ 140737488351232) (hk : 0 ≤ k) (hk2 : k ≤ 255) :
    room_Ask.f (N + 40 + b.length + b.length) k y t n b c0 c1 c2 c3 c4 c5 c6 c7 c8 = some (askV k y t n b c0 c1 c8) := by
  unfold room_Ask.f
  rw [IntWalk.wrap64_in k (by omega), in_eq]
  by_cases hr : 1 ≤ k ∧ k ≤ 6
  · obtain ⟨s, hs, hbad⟩ := spare_fields k y t n b hr.1 hr.2
    rw [hs]
    simp only [Option.bind_some, hr, and_self, decide_true, if_true]
    have jt := ask_j0 c0 c1 c2 c3 c4 c5 c6 c7 c8 N k y t n b hL hLn hr.1 hr.2
    by_cases h1 : s.2.1.toList = []
    · rw [if_pos h1]
      by_cases h2 : s.2.2.1.toList = []
      · rw [if_pos h2]
        by_cases h3 : s.2.2.2.1 = 0
        · rw [if_pos h3]
          refine jt _ ?_
          rw [← hbad]
          have e1 : emp s.2.1 = true := by simp [emp, h1]
          have e2 : emp s.2.2.1 = true := by simp [emp, h2]
          rw [e1, e2]
          cases hq : s.2.2.2.2 with
          | nil => simp [h3]
          | cons a ws =>
            simp
            try omega
        · rw [if_neg h3]
          refine jt _ ?_
          rw [← hbad]
          simp [h3]
      · rw [if_neg h2]
        refine jt _ ?_
        rw [← hbad]
        simp [emp, h2]
    · rw [if_neg h1]
      refine jt _ ?_
      rw [← hbad]
      simp [emp, h1]
  · have hk' : k < 1 ∨ k > 6 := by omega
    have e : askV k y t n b c0 c1 c8 = 3 := by
      unfold askV
      rw [if_pos (by rcases hk' with h | h; exact .inl h; exact .inr (.inl h))]
    obtain ⟨s, hs⟩ : ∃ s, room_spare.f k y t n b = some s := by
      unfold room_spare.f
      repeat (first | exact ⟨_, rfl⟩ | split)
    rw [hs, e]
    simp only [Option.bind_some, hr, decide_false, Bool.false_eq_true, if_false]
    rw [show N + 40 + b.length + b.length = (N + 39 + b.length + b.length) + 1 from by omega, ask_j0_true]
end
/-- A machine's sizes. -/
def sizesOk (c0 c1 c2 c3 c4 c5 c6 c7 c8 : Int) : Bool :=
  decide ((1 ≤ c0 ∧ c0 ≤ 256) ∧ (8 ≤ c1 ∧ c1 ≤ 4096) ∧ (4 ≤ c2 ∧ c2 ≤ 64) ∧ (0 ≤ c3 ∧ c3 ≤ 1048576) ∧ (4 ≤ c4 ∧ c4 ≤ 256) ∧ (2 ≤ c5 ∧ c5 ≤ c4) ∧ (2 ≤ c6 ∧ c6 ≤ 4096) ∧ (0 ≤ c7 ∧ c7 ≤ 1000) ∧ (1 ≤ c8 ∧ c8 ≤ 1024))
theorem sizes_eq (c0 c1 c2 c3 c4 c5 c6 c7 c8 : Int) : room_Check.f c0 c1 c2 c3 c4 c5 c6 c7 c8 = some (if sizesOk c0 c1 c2 c3 c4 c5 c6 c7 c8 = true then 0 else 2) := by
  unfold room_Check.f sizesOk
  simp only [in_eq, Option.bind_some, decide_eq_true_eq]
  by_cases h0 : 1 ≤ c0 ∧ c0 ≤ 256
  · by_cases h1 : 8 ≤ c1 ∧ c1 ≤ 4096
    · by_cases h2 : 4 ≤ c2 ∧ c2 ≤ 64
      · by_cases h3 : 0 ≤ c3 ∧ c3 ≤ 1048576
        · by_cases h4 : 4 ≤ c4 ∧ c4 ≤ 256
          · by_cases h5 : 2 ≤ c5 ∧ c5 ≤ c4
            · by_cases h6 : 2 ≤ c6 ∧ c6 ≤ 4096
              · by_cases h7 : 0 ≤ c7 ∧ c7 ≤ 1000
                · by_cases h8 : 1 ≤ c8 ∧ c8 ≤ 1024 <;> simp only [h0, h1, h2, h3, h4, h5, h6, h7, h8, and_self, if_true, if_false, and_false, false_and]
                · simp only [h0, h1, h2, h3, h4, h5, h6, h7, and_self, if_true, if_false, and_false, false_and]
              · simp only [h0, h1, h2, h3, h4, h5, h6, and_self, if_true, if_false, and_false, false_and]
            · simp only [h0, h1, h2, h3, h4, h5, and_self, if_true, if_false, and_false, false_and]
          · simp only [h0, h1, h2, h3, h4, and_self, if_true, if_false, and_false, false_and]
        · simp only [h0, h1, h2, h3, and_self, if_true, if_false, and_false, false_and]
      · simp only [h0, h1, h2, and_self, if_true, if_false, and_false, false_and]
    · simp only [h0, h1, and_self, if_true, if_false, and_false, false_and]
  · simp only [h0, and_self, if_true, if_false, and_false, false_and]
end Go.Proofs.Ythofdhodgipifaa.P
