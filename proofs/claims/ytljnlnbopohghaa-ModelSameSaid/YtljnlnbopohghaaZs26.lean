/- Texts of one claim (laid by shake.py). -/
import Derived.Test.YtljnlnbopohghaaZs10
import Derived.Test.YtljnlnbopohghaaZs13
import Derived.Test.YtljnlnbopohghaaZs11
import Derived.Test.YtljnlnbopohghaaZs7
import Derived.Test.YtljnlnbopohghaaZs22
import Derived.Test.YtljnlnbopohghaaZs24
import Derived.Test.YtljnlnbopohghaaZs14
import Derived.IntWalk
import Derived.Test.YtljnlnbopohghaaZs25
import Derived.Test.YtljnlnbopohghaaZs21
set_option linter.unusedVariables false
set_option linter.unusedSimpArgs false
section
namespace Go.Proofs.Ytljnlnbopohghaa.Pm
open Go.RowKit Go.Proofs.Ytljnlnbopohghaa.P Go.Proofs.YtljnlnbopohghaaW.PrintWords Go.Proofs.YtljnlnbopohghaaW.PrintLast Go.Proofs.YtljnlnbopohghaaW.PrintMore Go.Proofs.Ytljnlnbopohghaa.Own Go.Proofs.Ytljnlnbopohghaa
def lt (a b : ByteArray) : Bool := Op.bytesLess a.toList b.toList
def emp (a : ByteArray) : Bool := decide (a.toList = [])
def same (a b : ByteArray) : Bool := decide (a.toList = b.toList)
abbrev e0 : ByteArray := ⟨#[]⟩
theorem emp_e0 : emp e0 = true := by simp [emp, ba_mk]
theorem same_iff {a b : ByteArray} : same a b = true ↔ a = b := by simp [same, ba_eq]
def isPt (k : Int) : Bool := decide (k = 1 ∨ k = 2 ∨ k = 3)
def rr (f t : ByteArray) : Bool := emp t || lt f t
def holds (f t s : ByteArray) : Bool := !lt s f && (emp t || lt s t)
def before (a b : ByteArray) : Bool := !emp a && (emp b || lt a b)
def succB (a : ByteArray) : ByteArray := a ++ ⟨#[0]⟩
def span (k : Int) (y t : ByteArray) : ByteArray × ByteArray := if isPt k = true then (y, succB y) else if k = 4 then (y, t) else (e0, e0)
theorem IsPoint_eq (k q : Int) (y t v : ByteArray) (d : Int) : msg_IsPoint.f k q y t v d = some (isPt k) := by
 unfold msg_IsPoint.f isPt
 by_cases h1 : k = 1
 ·simp [h1]
 ·by_cases h2 : k = 2
  ·simp [h2]
  ·by_cases h3 : k = 3 <;> simp [h1, h2, h3]
theorem ahead_eq (s t : ByteArray) : key_ahead.f s t = some (emp t || lt s t) := by
 unfold key_ahead.f emp lt
 by_cases h : t.toList = [] <;> simp [h]
theorem RightRange_eq (f t : ByteArray) : key_RightRange.f f t = some (rr f t) := by
 unfold key_RightRange.f rr
 rw [ahead_eq]
 rfl
theorem After_eq (a : ByteArray) (h : a.size ≤ 140737488351232) : key_After.f a = some (succB a) := by
 unfold key_After.f succB
 rw [if_pos (by omega)]
theorem Point_range_eq (a : ByteArray) (h : a.size ≤ 140737488351232) : key_Point.f a = some (a, succB a) := by
 unfold key_Point.f
 rw [After_eq a h]
 rfl
theorem Span_eq (k q : Int) (y t v : ByteArray) (d : Int) (h : y.size ≤ 140737488351232) : msg_Span.f k q y t v d = some (span k y t) := by
 unfold msg_Span.f span
 rw [IsPoint_eq, Point_range_eq y h]
 simp only [Option.bind_some]
 cases isPt k
 ·by_cases h4 : k = 4 <;> simp [h4]
 ·simp
def bad (k : Int) (t v : ByteArray) (d : Int) : Bool := decide (k < 1) || decide (k > 4) || (decide (¬ k = 1) && !emp v) || (decide (¬ k = 3) && decide (¬ d = 0)) || (decide (¬ k = 4) && !emp t)
def chk (k : Int) (y t v : ByteArray) (d cK cV : Int) : Int :=
 if bad k t v d = true then 3
 else if k = 4 then (if (y.size : Int) > cK ∨ (t.size : Int) > cK then 6 else if rr y t = true then 0 else 7)
 else if k = 1 ∧ (v.size : Int) > cV then 6
 else if (y.size : Int) ≥ 1 ∧ (y.size : Int) ≤ cK then 0 else 6
theorem empty_beq (y : ByteArray) : (y.toList == ([] : List UInt8)) = emp y := by
 rw [Bool.eq_iff_iff]; simp [emp]
theorem Right_eq (y : ByteArray) (c : Int) : key_Right.f y c = some (decide ((y.size : Int) ≥ 1 ∧ (y.size : Int) ≤ c)) := by
 unfold key_Right.f
 by_cases h : (y.size : Int) ≥ 1 <;> simp [h]
theorem j0_true (n : Nat) (k q : Int) (y t v : ByteArray) (d c0 c1 c2 c3 c4 c5 c6 c7 c8 : Int) : msg_Check.j0 (n + 1) true k q y t v d c0 c1 c2 c3 c4 c5 c6 c7 c8 = some 3 := by
 simp [msg_Check.j0]
theorem j0_false (n : Nat) (k q : Int) (y t v : ByteArray) (d c0 c1 c2 c3 c4 c5 c6 c7 c8 : Int) (h : y.size ≤ 140737488351232) (hk : 1 ≤ k) (hk4 : k ≤ 4) (hb : bad k t v d = false) :
  msg_Check.j0 (n + 9) false k q y t v d c0 c1 c2 c3 c4 c5 c6 c7 c8 = some (chk k y t v d c0 c1) := by
 simp only [msg_Check.j0, Bool.false_eq_true, if_false]
 unfold chk
 rw [hb]
 simp only [Bool.false_eq_true, if_false]
 by_cases h4 : k = 4
 ·subst h4
  simp only [if_true]
  have e : span 4 y t = (y, t) := rfl
  by_cases h1 : (y.size : Int) > c0
  ·rw [if_pos h1, if_pos (.inl h1)]
   simp [msg_Check.j1]
  ·rw [if_neg h1]
   by_cases h2 : (t.size : Int) > c0
   ·rw [if_pos (.inr h2)]
    simp [msg_Check.j1, h2]
   ·rw [if_neg (by omega)]
    simp only [msg_Check.j1, h2, decide_false, Bool.false_eq_true, if_false]
    rw [Span_eq _ _ _ _ _ _ h, e]
    simp only [Option.bind_some, RightRange_eq]
    cases rr y t <;> simp
 ·rw [if_neg h4, if_neg h4]
  by_cases h1 : k = 1
  ·rw [if_pos h1]
   by_cases h2 : (v.size : Int) > c1
   ·rw [if_pos h2, if_pos ⟨h1, h2⟩]
   ·rw [if_neg h2, if_neg (fun h => h2 h.2), Right_eq]
    by_cases h5 : (y.size : Int) ≥ 1 ∧ (y.size : Int) ≤ c0 <;> simp [h5]
  ·rw [if_neg h1, if_neg (fun h => h1 h.1), Right_eq]
   by_cases h5 : (y.size : Int) ≥ 1 ∧ (y.size : Int) ≤ c0 <;> simp [h5]
theorem Check_eq (n : Nat) (k q : Int) (y t v : ByteArray) (d c0 c1 c2 c3 c4 c5 c6 c7 c8 : Int) (h : y.size ≤ 140737488351232) : msg_Check.f (n + 9) k q y t v d c0 c1 c2 c3 c4 c5 c6 c7 c8 = some (chk k y t v d c0 c1) := by
 unfold msg_Check.f
 by_cases h1 : k < 1
 ·rw [if_pos h1, j0_true]
  simp [chk, bad, h1]
 ·rw [if_neg h1]
  by_cases h2 : k > 4
  ·rw [if_pos h2, j0_true]
   simp [chk, bad, h2]
  ·rw [if_neg h2]
   have fin : ∀ b, b = bad k t v d → msg_Check.j0 (n + 9) b k q y t v d c0 c1 c2 c3 c4 c5 c6 c7 c8 = some (chk k y t v d c0 c1) := by
    intro b hb
    cases hbb : b with
    | true => rw [j0_true]; rw [hbb] at hb; simp [chk, ← hb]
    | false => exact j0_false n _ _ _ _ _ _ _ _ _ _ _ _ _ _ _ h (by omega) (by omega) (by rw [← hb, hbb])
   unfold msg_bare.f
   have hk1 : decide (k < 1) = false := by simpa using h1
   have hk4 : decide (k > 4) = false := by simpa using h2
   by_cases k1 : k = 1
   ·rw [if_pos k1]
    simp only [Option.bind_some]
    refine fin _ ?_
    simp only [emp_e0, empty_beq, bad, hk1, hk4, k1]
    cases emp t <;> by_cases d0 : d = 0 <;> simp [d0]
   ·rw [if_neg k1]
    by_cases k3 : k = 3
    ·rw [if_pos k3]
     simp only [Option.bind_some]
     refine fin _ ?_
     simp only [emp_e0, empty_beq, bad, hk1, hk4, k3]
     cases emp t <;> cases emp v <;> simp
    ·rw [if_neg k3]
     by_cases k4 : k = 4
     ·rw [if_pos k4]
      simp only [Option.bind_some]
      refine fin _ ?_
      simp only [emp_e0, empty_beq, bad, hk1, hk4, k4]
      cases emp v <;> by_cases d0 : d = 0 <;> simp [d0]
     ·rw [if_neg k4]
      simp only [Option.bind_some]
      refine fin _ ?_
      simp only [emp_e0, empty_beq, bad, hk1, hk4, k1, k3, k4]
      cases emp v <;> cases emp t <;> by_cases d0 : d = 0 <;> simp [d0]
abbrev M := S117
def okM (m : M) : Prop := m.f2.size ≤ 140737488351232
def seqOk (l : List M) : Bool := l.all fun m => decide (m.f1 = 0)
def chkM (c0 c1 : Int) (m : M) : Int := chk m.f0 m.f2 m.f3 m.f4 m.f5 c0 c1
def firstErr (c0 c1 : Int) : List M → Int
 | [] => 0
 | m :: l => if chkM c0 c1 m = 0 then firstErr c0 c1 l else chkM c0 c1 m
theorem in_eq (n a b : Int) : room_in.f n a b = some (decide (a ≤ n ∧ n ≤ b)) := by
 unfold room_in.f
 by_cases h : n ≥ a
 ·rw [if_pos h]; simp [h]
 ·rw [if_neg h]; simp; omega
theorem at_drop {L l : List M} {i : Nat} {x : M} (hd : L.drop i = x :: l) : i < L.length ∧ rd_T117 L (i : Int) = x ∧ L.drop (i + 1) = l ∧ x ∈ L := by
 have hlt : i < L.length := by
  rcases Nat.lt_or_ge i L.length with h | h
  ·exact h
  ·rw [List.drop_eq_nil_of_le h] at hd; cases hd
 have hx : L[i]? = some x := by
  have := congrArg (fun z => z[0]?) hd
  simpa using this
 refine ⟨hlt, ?_, ?_, List.mem_of_getElem? hx⟩
 ·show L.getD ((i : Int).toNat) _ = x
  rw [Int.toNat_natCast, List.getD_eq_getElem?_getD, hx]
  rfl
 ·have := congrArg (List.drop 1) hd
  simpa [List.drop_drop] using this
theorem drop_nil_le {L : List M} {i : Nat} (hd : L.drop i = []) : L.length ≤ i := by
 have := congrArg List.length hd
 simp at this
 omega
section
variable (c0 c1 c2 c3 c4 c5 c6 c7 c8 : Int)
theorem batch_l1 (L : List M) (hL : ∀ x ∈ L, okM x) (hLn : L.length ≤ 140737488351232) : ∀ (l : List M) (i k : Nat), L.drop i = l → i ≤ L.length →
  room_batch.l1 (k + 20 + l.length) L L.length i c0 c1 c2 c3 c4 c5 c6 c7 c8 = some (firstErr c0 c1 l) := by
 intro l
 induction l with
 | nil =>
  intro i k hd hi
  have := drop_nil_le hd
  rw [List.length_nil, Nat.add_zero, show k + 20 = (k + 19) + 1 from rfl, room_batch.l1, if_neg (by omega)]
  rfl
 | cons x l ih =>
  intro i k hd hi
  obtain ⟨hlt, hrd, hd2, hx⟩ := at_drop hd
  rw [show k + 20 + (x :: l).length = (k + 20 + l.length) + 1 from by simp; omega, room_batch.l1]
  rw [if_pos (by omega), if_pos (by omega), if_pos (by omega), hrd, IntWalk.wrap64_in _ (by omega)]
  have hc := Check_eq (k + 11 + l.length) x.f0 x.f1 x.f2 x.f3 x.f4 x.f5 c0 c1 c2 c3 c4 c5 c6 c7 c8 (hL x hx)
  rw [show k + 11 + l.length + 9 = k + 20 + l.length from by omega] at hc
  rw [hc]
  simp only [Option.bind_some, firstErr]
  show (if chkM c0 c1 x = 0 then _ else some (chkM c0 c1 x)) = _
  by_cases h0 : chkM c0 c1 x = 0
  ·rw [if_pos h0, if_pos h0]
   have := ih (i + 1) k hd2 (by omega)
   rw [show ((i + 1 : Nat) : Int) = (i : Int) + 1 from by omega] at this
   exact this
  ·rw [if_neg h0, if_neg h0]
theorem batch_l0 (L : List M) (hL : ∀ x ∈ L, okM x) (hLn : L.length ≤ 140737488351232) : ∀ (l : List M) (i k : Nat), L.drop i = l → i ≤ L.length →
  room_batch.l0 (k + 30 + L.length + l.length) L L L.length i c0 c1 c2 c3 c4 c5 c6 c7 c8 = some (if seqOk l = true then firstErr c0 c1 L else 3) := by
 intro l
 induction l with
 | nil =>
  intro i k hd hi
  have := drop_nil_le hd
  rw [List.length_nil, Nat.add_zero, show k + 30 + L.length = (k + 29 + L.length) + 1 from by omega, room_batch.l0, if_neg (by omega)]
  have h1 := batch_l1 c0 c1 c2 c3 c4 c5 c6 c7 c8 L hL hLn L 0 (k + 9) rfl (by omega)
  rw [show k + 9 + 20 + L.length = k + 29 + L.length from by omega] at h1
  exact h1
 | cons x l ih =>
  intro i k hd hi
  obtain ⟨hlt, hrd, hd2, hx⟩ := at_drop hd
  rw [show k + 30 + L.length + (x :: l).length = (k + 30 + L.length + l.length) + 1 from by simp; omega, room_batch.l0]
  rw [if_pos (by omega), if_pos (by omega), if_pos (by omega), hrd, IntWalk.wrap64_in _ (by omega)]
  by_cases h0 : x.f1 = 0
  ·rw [if_pos h0]
   have := ih (i + 1) k hd2 (by omega)
   rw [show ((i + 1 : Nat) : Int) = (i : Int) + 1 from by omega] at this
   rw [this]
   simp [seqOk, h0]
  ·rw [if_neg h0]
   simp [seqOk, h0]
end
def batchV (c0 c1 : Int) (b : List M) : Int := if (b.length : Int) > 1024 then 8 else if seqOk b = true then firstErr c0 c1 b else 3
theorem batch_eq (k : Nat) (b : List M) (hL : ∀ x ∈ b, okM x) (hLn : b.length ≤ 140737488351232) (c0 c1 c2 c3 c4 c5 c6 c7 c8 : Int) : room_batch.f (k + 30 + b.length + b.length) b c0 c1 c2 c3 c4 c5 c6 c7 c8 = some (batchV c0 c1 b) := by
 unfold room_batch.f batchV
 by_cases h : (b.length : Int) > 1024
 ·rw [if_pos h, if_pos h]
 ·rw [if_neg h, if_neg h]
  exact batch_l0 c0 c1 c2 c3 c4 c5 c6 c7 c8 b hL hLn b 0 k rfl (by omega)
def spareBad (k : Int) (y t : ByteArray) (n : Int) (b : List M) : Bool :=
 (!(decide (k = 1 ∨ k = 3 ∨ k = 4)) && !emp y) || (!(decide (k = 3 ∨ k = 4)) && !emp t) || (!(decide (k = 3 ∨ k = 5 ∨ k = 6)) && decide (¬ n = 0)) || (!(decide (k = 2)) && decide (¬ b = []))
def askV (k : Int) (y t : ByteArray) (n : Int) (b : List M) (c0 c1 c8 : Int) : Int :=
 if k < 1 ∨ k > 6 ∨ spareBad k y t n b = true then 3
 else if k = 1 then (if 1 ≤ (y.size : Int) ∧ (y.size : Int) ≤ c0 then 0 else 6)
 else if k = 2 then batchV c0 c1 b
 else if k = 3 ∨ k = 4 then (if (y.size : Int) > c0 ∨ (t.size : Int) > c0 then 6 else if rr y t = false then 7 else if k = 3 ∧ ¬ (1 ≤ n ∧ n ≤ c8) then 4 else 0)
 else 0
section
variable (c0 c1 c2 c3 c4 c5 c6 c7 c8 : Int)
theorem ask_j0 (N : Nat) (k : Int) (y t : ByteArray) (n : Int) (b : List M) (hL : ∀ x ∈ b, okM x) (hLn : b.length ≤ 140737488351232) (hk : 1 ≤ k) (hk6 : k ≤ 6) (x : Bool) (hx : x = spareBad k y t n b) :
  room_Ask.j0 (N + 40 + b.length + b.length) x k y t n b c0 c1 c2 c3 c4 c5 c6 c7 c8 = some (askV k y t n b c0 c1 c8) := by
 have hks : ¬ (k < 1 ∨ k > 6 ∨ spareBad k y t n b = true) ↔ x = false := by
  rw [← hx]; cases x <;> simp <;> omega
 rw [show N + 40 + b.length + b.length = (N + 39 + b.length + b.length) + 1 from by omega, room_Ask.j0]
 unfold askV
 cases x with
 | true => rw [if_pos rfl, if_pos (.inr (.inr hx.symm))]
 | false =>
  rw [if_neg (by simp), if_neg (hks.2 rfl)]
  by_cases k1 : k = 1
  ·rw [if_pos k1, if_pos k1, in_eq]
   by_cases h : 1 ≤ (y.size : Int) ∧ (y.size : Int) ≤ c0 <;> simp [h]
  ·rw [if_neg k1, if_neg k1]
   by_cases k2 : k = 2
   ·rw [if_pos k2, if_pos k2]
    have := batch_eq (N + 9) b hL hLn c0 c1 c2 c3 c4 c5 c6 c7 c8
    rw [show N + 9 + 30 + b.length + b.length = N + 39 + b.length + b.length from by omega] at this
    rw [this]
    rfl
   ·rw [if_neg k2, if_neg k2]
    have tail : ∀ z : Bool, z = decide (k = 3 ∨ k = 4) → room_Ask.j1 (N + 39 + b.length + b.length) z k y t n b c0 c1 c2 c3 c4 c5 c6 c7 c8 = some (if k = 3 ∨ k = 4 then (if (y.size : Int) > c0 ∨ (t.size : Int) > c0 then 6 else if rr y t = false then 7 else if k = 3 ∧ ¬ (1 ≤ n ∧ n ≤ c8) then 4 else 0) else 0) := by
     intro z hz
     obtain ⟨m, hm⟩ : ∃ m, N + 39 + b.length + b.length = m + 3 := ⟨N + 36 + b.length + b.length, by omega⟩
     rw [hm]
     have j3 : ∀ q : Bool, q = !rr y t → room_Ask.j3 (m + 1) q k y t n b c0 c1 c2 c3 c4 c5 c6 c7 c8 = some (if rr y t = false then 7 else if k = 3 ∧ ¬ (1 ≤ n ∧ n ≤ c8) then 4 else 0) := by
      intro q hq
      rw [room_Ask.j3]
      cases hr : rr y t
      ·rw [hr] at hq; subst hq; simp
      ·rw [hr] at hq; subst hq
       simp only [Bool.not_true, Bool.false_eq_true, if_false, Bool.true_eq_false]
       by_cases k3 : k = 3
       ·rw [if_pos k3, in_eq]
        by_cases h : 1 ≤ n ∧ n ≤ c8 <;> simp [h, k3]
       ·rw [if_neg k3]; simp [k3]
     have j2 : ∀ q : Bool, room_Ask.j2 (m + 2) q k y t n b c0 c1 c2 c3 c4 c5 c6 c7 c8 = some (if q = true then 6 else if rr y t = false then 7 else if k = 3 ∧ ¬ (1 ≤ n ∧ n ≤ c8) then 4 else 0) := by
      intro q
      rw [room_Ask.j2]
      cases q
      ·simp only [Bool.false_eq_true, if_false]
       by_cases h : t.toList = []
       ·rw [if_pos h]; exact j3 _ (by simp [rr, emp, h])
       ·rw [if_neg h]; exact j3 _ (by simp [rr, emp, lt, h])
      ·simp
     rw [room_Ask.j1]
     cases z
     ·simp only [Bool.false_eq_true, if_false]
      rw [if_neg (show ¬ (k = 3 ∨ k = 4) from by simpa using hz.symm)]
     ·simp only [if_true]
      rw [if_pos (show k = 3 ∨ k = 4 from by simpa using hz.symm)]
      by_cases h1 : (y.size : Int) > c0
      ·rw [if_pos h1, if_pos (.inl h1), j2]; simp
      ·rw [if_neg h1, j2]
       by_cases h2 : (t.size : Int) > c0
       ·simp [h2]
       ·simp [h1, h2]
    by_cases k3 : k = 3
    ·rw [if_pos k3]
     exact tail _ (by simp [k3])
    ·rw [if_neg k3]
     exact tail _ (by rw [Bool.eq_iff_iff]; simp [k3])
theorem ask_j0_true (m : Nat) (k : Int) (y t : ByteArray) (n : Int) (b : List M) : room_Ask.j0 (m + 1) true k y t n b c0 c1 c2 c3 c4 c5 c6 c7 c8 = some 3 := by
 rw [room_Ask.j0, if_pos rfl]
theorem spare_fields (k : Int) (y t : ByteArray) (n : Int) (b : List M) (hk : 1 ≤ k) (hk6 : k ≤ 6) : ∃ s : Int × ByteArray × ByteArray × Int × List M, room_spare.f k y t n b = some s ∧
  ((!emp s.2.1) || (!emp s.2.2.1) || decide (¬ s.2.2.2.1 = 0) || decide (¬ s.2.2.2.2 = [])) = spareBad k y t n b := by
 unfold room_spare.f
 have h : k = 1 ∨ k = 2 ∨ k = 3 ∨ k = 4 ∨ k = 5 ∨ k = 6 := by omega
 have e : emp (⟨#[]⟩ : ByteArray) = true := emp_e0
 rcases h with rfl | rfl | rfl | rfl | rfl | rfl <;> refine ⟨_, rfl, ?_⟩ <;> simp [spareBad, e]
theorem Ask_eq (N : Nat) (k : Int) (y t : ByteArray) (n : Int) (b : List M) (hL : ∀ x ∈ b, okM x) (hLn : b.length ≤ 140737488351232) (hk : 0 ≤ k) (hk2 : k ≤ 255) :
  room_Ask.f (N + 40 + b.length + b.length) k y t n b c0 c1 c2 c3 c4 c5 c6 c7 c8 = some (askV k y t n b c0 c1 c8) := by
 unfold room_Ask.f
 rw [IntWalk.wrap64_in k (by omega), in_eq]
 by_cases hr : 1 ≤ k ∧ k ≤ 6
 ·obtain ⟨s, hs, hbad⟩ := spare_fields k y t n b hr.1 hr.2
  rw [hs]
  simp only [Option.bind_some, hr, and_self, decide_true, if_true]
  have jt := ask_j0 c0 c1 c2 c3 c4 c5 c6 c7 c8 N k y t n b hL hLn hr.1 hr.2
  by_cases h1 : s.2.1.toList = []
  ·rw [if_pos h1]
   by_cases h2 : s.2.2.1.toList = []
   ·rw [if_pos h2]
    by_cases h3 : s.2.2.2.1 = 0
    ·rw [if_pos h3]
     refine jt _ ?_
     rw [← hbad]
     have e1 : emp s.2.1 = true := by simp [emp, h1]
     have e2 : emp s.2.2.1 = true := by simp [emp, h2]
     rw [e1, e2]
     cases hq : s.2.2.2.2 with
     | nil => simp [h3]
     | cons a ws =>
      simp
      try omega
    ·rw [if_neg h3]
     refine jt _ ?_
     rw [← hbad]
     simp [h3]
   ·rw [if_neg h2]
    refine jt _ ?_
    rw [← hbad]
    simp [emp, h2]
  ·rw [if_neg h1]
   refine jt _ ?_
   rw [← hbad]
   simp [emp, h1]
 ·have hk' : k < 1 ∨ k > 6 := by omega
  have e : askV k y t n b c0 c1 c8 = 3 := by
   unfold askV
   rw [if_pos (by rcases hk' with h | h; exact .inl h; exact .inr (.inl h))]
  obtain ⟨s, hs⟩ : ∃ s, room_spare.f k y t n b = some s := by
   unfold room_spare.f
   repeat (first | exact ⟨_, rfl⟩ | split)
  rw [hs, e]
  simp only [Option.bind_some, hr, decide_false, Bool.false_eq_true, if_false]
  rw [show N + 40 + b.length + b.length = (N + 39 + b.length + b.length) + 1 from by omega, ask_j0_true]
end
end Go.Proofs.Ytljnlnbopohghaa.Pm
end
section
namespace Go.Proofs.Ytljnlnbopohghaa.Mdl
open Go.RowKit Go.Shelf Go.Proofs.YtljnlnbopohghaaW.PrintWords Go.Proofs.YtljnlnbopohghaaW.PrintLast Go.Proofs.YtljnlnbopohghaaW.PrintMore Go.Proofs.Ytljnlnbopohghaa.Own Go.Proofs.Ytljnlnbopohghaa.Ord Go.Proofs.Ytljnlnbopohghaa Go.Proofs.Ytljnlnbopohghaa.P
open Go.Proofs.Ytljnlnbopohghaa.OrdSm (Hold hold_get)
set_option maxHeartbeats 2000000
set_option maxRecDepth 100000
structure St where (s : Int) (L : Row) (T : Int → List Cu)
structure Oq where (k : Int) (y t : ByteArray) (n : Int) (b : List Ms)
def doV (c : Cf) (n : Int) (s : St) (who : Int) (o : Oq) : Rp × St :=
 if who < 1 ∨ who > n then (⟨2, false, e0, [], 0, false⟩, s)
 else if ¬ Pm.askV o.k o.y o.t o.n o.b c.f0 c.f1 c.f8 = 0 then (⟨Pm.askV o.k o.y o.t o.n o.b c.f0 c.f1 c.f8, false, e0, [], 0, false⟩, s)
 else if o.k = 1 then (⟨0, (gotL s.L o.y).2, (gotL s.L o.y).1, [], 0, false⟩, s)
 else if o.k = 2 then (⟨0, false, e0, [], 0, false⟩, ⟨s.s + 1, o.b.foldl sendV s.L, s.T⟩)
 else if o.k = 3 then (⟨0, false, e0, (someM o.y o.t s.L o.n).map toE, 0, false⟩, s)
 else if o.k = 4 then (⟨(openV (s.T who) o.y o.t).2.2, false, e0, [], (openV (s.T who) o.y o.t).2.1, false⟩, ⟨s.s, s.L, setT s.T who (openV (s.T who) o.y o.t).1⟩)
 else if o.k = 5 then ((nextV c.f8 s.L (s.T who) o.n).1, ⟨s.s, s.L, setT s.T who (nextV c.f8 s.L (s.T who) o.n).2⟩)
 else (⟨(closeC (s.T who) o.n).2, false, e0, [], 0, false⟩, ⟨s.s, s.L, setT s.T who (closeC (s.T who) o.n).1⟩)
theorem next_any {G : Nat → Nat} {w : World} {m : Nat} {c : Cf} {n sends : Int} {L : Row} {T : Int → List Cu} {N : Nat} (h : Mw G w m c n sends L T N) (who : Int) (h1 : 1 ≤ who) (h2 : who ≤ 1000000) (hN : N + 1 < 1000000) (k : Int) (hk : (Lit.int .i64 k).wf = true) (hl : L.length ≤ 1000000) (hsz : ∀ x ∈ L, x.1.size ≤ 140737488351232) :
  Calls Try.prog 59 #[.pointer (some ⟨m, 0, none⟩), .int .i64 who, .int .i64 k] w (Md G w m c n (N + 2) (nextV c.f8 L (T who) k).1 sends L (setT T who (nextV c.f8 L (T who) k).2)) := by
 unfold nextV
 cases hF : tabF (T who) k with
 | none =>
  simp only
  rw [setT_self]
  refine (next_none h who h1 h2 (by omega) k hk hF).mono ?_
  rintro e w' ⟨v, rfl, G', e1, hw, f, hr⟩
  exact ⟨v, rfl, G', e1, hw.mono (by omega), f, hr⟩
 | some x =>
  obtain ⟨f, t, d⟩ := x
  exact next_some h who h1 h2 hN k hk hl hsz f t d hF _ rfl
abbrev objO (o : Oq) (A : Option Addr) (cap : Nat) : Obj := .cells #[.int .u8 o.k, .string o.y, .string o.t, .int .i64 o.n, .slice A o.b.length cap] 56 (0, 0)
abbrev repE (e : Int) : Obj := .cells #[.int .i64 e, .bool false, .string ⟨#[]⟩, .slice none 0 0, .int .i64 0, .bool false] 59 (0, 0)
theorem rep_fin {fn : Func} {R : Ending → World → Prop} {a : Act} {W : World} {D : Nat} {p : Tmp} {v0 v1 v2 v3 v4 v5 : Value} (hfn : fn.results = #[.cell p 59]) (hp : a.tmps.getD p undef = .pointer (some ⟨D, 0, none⟩)) (hd : a.defers = []) (hb : W.heap[D]? = some (.cells #[v0, v1, v2, v3, v4, v5] 59 (0, 0)))
  (h : R (.returned (.agg #[v0, v1, v2, v3, v4, v5])) W) : bodyPost Try.prog fn R .ret a W :=
 bodyPost_ret (results_c hfn a.tmps W D 59 _ (0, 0) _ hp hb Try.underlying59 rfl (by kernel_rfl)) hd h
theorem do_bad {G : Nat → Nat} {w : World} {m : Nat} {c : Cf} {n sends : Int} {L : Row} {T : Int → List Cu} {N : Nat} (h : Mw G w m c n sends L T N) (who : Int) (hw : who < 1 ∨ who > n) (o : Oq) {A : Option Addr} {cap : Nat} :
  Calls Try.prog 23 #[.pointer (some ⟨m, 0, none⟩), .int .i64 who, .agg #[.int .u8 o.k, .string o.y, .string o.t, .int .i64 o.n, .slice A o.b.length cap]] w (Md G w m c n N ⟨2, false, e0, [], 0, false⟩ sends L T) := by
 have hup := Try.underlying59
 have huo := Try.underlying56
 have hum := Try.underlying122
 obtain ⟨hlt, em, cb, nn, F, B, hx⟩ := h
 obtain ⟨ok, oy, ot, on, ob⟩ := o
 have hB0 : Below w.heap.size w ((w.alloc (objO ⟨ok, oy, ot, on, ob⟩ A cap)).alloc rep0) := below_alloc (below_alloc (Below.refl _ _) _) _
 have bD : ((w.alloc (objO ⟨ok, oy, ot, on, ob⟩ A cap)).alloc rep0).heap[w.heap.size + 1]? = some rep0 := by have := blk_new (w.alloc (objO ⟨ok, oy, ot, on, ob⟩ A cap)) rep0; rwa [World.size_alloc] at this
 have x9 := blk_cell (blk_below hx.hm hB0) 9
 simp at x9
 have y0 := blk_cell bD 0
 have y1 := blk_cell bD 1
 have y2 := blk_cell bD 2
 have y3 := blk_cell bD 3
 have y4 := blk_cell bD 4
 have y5 := blk_cell bD 5
 have z0 := blk_frozen bD 0
 have z1 := blk_frozen bD 1
 have z2 := blk_frozen bD 2
 have z3 := blk_frozen bD 3
 have z4 := blk_frozen bD 4
 have z5 := blk_frozen bD 5
 simp at y0 y1 y2 y3 y4 y5
 have hA := Aside0.mk (And.intro hx (And.intro hB0 bD))
 clear hx hB0 bD
 go_enter Try.func23, Try.ntmps23
 have hn0 : ∀ j, w.heap.size ≤ j → G j = 0 := fun j hj => by
  cases hg : G j with
  | zero => rfl
  | succ q => have := hlt j (by rw [hg]; omega); omega
 have fin : ∀ (a : Act) (w2 : World), Below w.heap.size w w2 → w2.heap[w.heap.size + 1]? = some (repE 2) → a.tmps.getD 6 undef = .pointer (some ⟨w.heap.size + 1, 0, none⟩) → a.defers = [] → bodyPost Try.prog Try.f23 (Md G w m c n N ⟨2, false, e0, [], 0, false⟩ sends L T) .ret a w2 := by
  intro a w2 hB0 bD ha hd
  obtain ⟨hx, _, _⟩ := hA.out
  refine rep_fin rfl ha hd bD ⟨_, rfl, G, fun j hj => rfl, ⟨fun j hj => ?_, em, cb, nn, F, B, hx.frm (.of_below hB0)⟩, .of_below hB0, RepV.bare _ _ _ _ _ _ _⟩
  have := hlt j hj
  have := hB0.size; omega
 have hE : Below w.heap.size w ((w.alloc (objO ⟨ok, oy, ot, on, ob⟩ A cap)).alloc (repE 2)) := below_alloc (below_alloc (Below.refl _ _) _) _
 have bE : ((w.alloc (objO ⟨ok, oy, ot, on, ob⟩ A cap)).alloc (repE 2)).heap[w.heap.size + 1]? = some (repE 2) := by have := blk_new (w.alloc (objO ⟨ok, oy, ot, on, ob⟩ A cap)) (repE 2); rwa [World.size_alloc] at this
 have hA2 := Aside0.mk (And.intro hE bE)
 clear hE bE
 by_cases hw1 : who < 1
 ·have d0 := decide_eq_true hw1
  go_wp2
  exact fin _ _ hA2.out.1 hA2.out.2 rfl rfl
 ·have hw2 : who > n := by omega
  have d0 := decide_eq_false (show ¬ who < 1 by omega)
  have d1 := decide_eq_true hw2
  go_wp2
  exact fin _ _ hA2.out.1 hA2.out.2 rfl rfl
theorem g0 {G : Nat → Nat} {w : World} (hlt : ∀ k, G k ≠ 0 → k < w.heap.size) (j : Nat) (hj : w.heap.size ≤ j) : G j = 0 := by
 cases hg : G j with
 | zero => rfl
 | succ q => have := hlt j (by rw [hg]; omega); omega
theorem md_end {G G' : Nat → Nat} {w W : World} {m : Nat} {c : Cf} {n sends : Int} {L : Row} {T : Int → List Cu} {N D : Nat} {fn : Func} {a : Act} {p : Tmp} {r : Rp} {a0 a1 a2 a3 a4 a5 v0 v1 v2 v3 v4 v5 : Value} (hG : ∀ k, k < w.heap.size → G' k = G k) (hM : Mw G' W m c n sends L T N) (f : It.FrM (fun k => G k ≠ 0) w W) (hD : w.heap.size ≤ D) (hD0 : G' D = 0)
  (hfn : fn.results = #[.cell p 59]) (hp : a.tmps.getD p undef = .pointer (some ⟨D, 0, none⟩)) (hd : a.defers = []) (hb : W.heap[D]? = some (.cells #[a0, a1, a2, a3, a4, a5] 59 (0, 0)))
  (hV : ∀ W', It.FrM (fun j => j = D) W W' → W'.heap.size = W.heap.size → RepV (fun k => w.heap.size ≤ k ∧ k < W'.heap.size ∧ G' k = 0) W' r (.agg #[v0, v1, v2, v3, v4, v5])) :
  bodyPost Try.prog fn (Md G w m c n N r sends L T) .ret a (setRep W D v0 v1 v2 v3 v4 v5) := by
 refine rep_end hfn hp hd hb (fun W' hWs hWf => ?_)
 exact ⟨_, rfl, G', hG, hM.frm (hWf _ _ (It.FrM.refl _ _) (.inl hD0)), hWf _ _ f (.inr hD), hV W' (hWf _ _ (It.FrM.refl _ _) (.inl rfl)) hWs⟩
theorem do_err {G : Nat → Nat} {w : World} {m : Nat} {c : Cf} {n sends : Int} {L : Row} {T : Int → List Cu} {N : Nat} (h : Mw G w m c n sends L T N) (who : Int) (hw : ¬ (who < 1 ∨ who > n)) (o : Oq) {A : Option Addr} {cap : Nat} (hC : Kd.C P.k117 w A o.b.length o.b) (hcap : o.b.length ≤ cap) (ka : Nat) (e : Int) (hask : room_Ask.f ka o.k o.y o.t o.n o.b c.f0 c.f1 c.f2 c.f3 c.f4 c.f5 c.f6 c.f7 c.f8 = some e) (he : ¬ e = 0) :
  Calls Try.prog 23 #[.pointer (some ⟨m, 0, none⟩), .int .i64 who, .agg #[.int .u8 o.k, .string o.y, .string o.t, .int .i64 o.n, .slice A o.b.length cap]] w (Md G w m c n N ⟨e, false, e0, [], 0, false⟩ sends L T) := by
 have hup := Try.underlying59
 have huo := Try.underlying56
 have hum := Try.underlying122
 have huc := Try.underlying47
 have hur := Try.underlying29
 obtain ⟨hlt, em, cb, nn, F, B, hx⟩ := h
 obtain ⟨ok, oy, ot, on, ob⟩ := o
 have hB0 : Below w.heap.size w ((w.alloc (objO ⟨ok, oy, ot, on, ob⟩ A cap)).alloc rep0) := below_alloc (below_alloc (Below.refl _ _) _) _
 have bO : ((w.alloc (objO ⟨ok, oy, ot, on, ob⟩ A cap)).alloc rep0).heap[w.heap.size]? = some (objO ⟨ok, oy, ot, on, ob⟩ A cap) := blk_alloc (blk_new w _) _
 have bD : ((w.alloc (objO ⟨ok, oy, ot, on, ob⟩ A cap)).alloc rep0).heap[w.heap.size + 1]? = some rep0 := by have := blk_new (w.alloc (objO ⟨ok, oy, ot, on, ob⟩ A cap)) rep0; rwa [World.size_alloc] at this
 have hsz2 : ((w.alloc (objO ⟨ok, oy, ot, on, ob⟩ A cap)).alloc rep0).heap.size = w.heap.size + 2 := by simp
 have x9 := blk_cell (blk_below hx.hm hB0) 9
 simp at x9
 have d0 := decide_eq_false (show ¬ who < 1 by omega)
 have d1 := decide_eq_false (show ¬ who > n by omega)
 have hA := Aside0.mk (And.intro hx (And.intro hB0 (And.intro bO (And.intro bD (And.intro hC (And.intro hcap (And.intro hsz2 hask)))))))
 clear hx hB0 bO bD hC hcap hsz2 hask
 go_enter Try.func23, Try.ntmps23
 go_wp2
 obtain ⟨hx, hB0, bO, bD, hC, hcap, hsz2, hask⟩ := hA.out
 generalize (w.alloc (objO ⟨ok, oy, ot, on, ob⟩ A cap)).alloc rep0 = w2 at hB0 bO bD hsz2 ⊢
 have hB0d := below_drew1 hB0
 have hm2 : w2.drew.heap[m]? = _ := blk_below hx.hm hB0d
 have bO2 : w2.drew.heap[w.heap.size]? = _ := bO
 have o0 := blk_cell bO2 0
 have o1 := blk_cell bO2 1
 have o2 := blk_cell bO2 2
 have o3 := blk_cell bO2 3
 have o4 := blk_cell bO2 4
 have c0 := blk_cell hm2 0
 have c1 := blk_cell hm2 1
 have c2 := blk_cell hm2 2
 have c3 := blk_cell hm2 3
 have c4 := blk_cell hm2 4
 have c5 := blk_cell hm2 5
 have c6 := blk_cell hm2 6
 have c7 := blk_cell hm2 7
 have c8 := blk_cell hm2 8
 simp at o0 o1 o2 o3 o4 c0 c1 c2 c3 c4 c5 c6 c7 c8
 have AK := room_Ask.calls ka ok oy ot on A cap ob c.f0 c.f1 c.f2 c.f3 c.f4 c.f5 c.f6 c.f7 c.f8 e w2.drew (Kd.C_below hC hB0d) hcap hask
 have AK2 := AK.mono (R' := fun x w' => x = .returned (.int .i64 e) ∧ (w'.cell? ⟨w.heap.size, 0, none⟩ = some (.int .u8 ok) ∧ w'.cell? ⟨w.heap.size, 1, none⟩ = some (.string oy) ∧ w'.cell? ⟨w.heap.size, 2, none⟩ = some (.string ot) ∧ w'.cell? ⟨w.heap.size, 3, none⟩ = some (.int .i64 on) ∧ w'.cell? ⟨w.heap.size, 4, none⟩ = some (.slice A ob.length cap) ∧ w'.cell? ⟨m, 0, none⟩ = some (.int .i64 c.f0) ∧ w'.cell? ⟨m, 1, none⟩ = some (.int .i64 c.f1) ∧ w'.cell? ⟨m, 2, none⟩ = some (.int .i64 c.f2) ∧ w'.cell? ⟨m, 3, none⟩ = some (.int .i64 c.f3) ∧ w'.cell? ⟨m, 4, none⟩ = some (.int .i64 c.f4) ∧ w'.cell? ⟨m, 5, none⟩ = some (.int .i64 c.f5) ∧ w'.cell? ⟨m, 6, none⟩ = some (.int .i64 c.f6) ∧ w'.cell? ⟨m, 7, none⟩ = some (.int .i64 c.f7) ∧ w'.cell? ⟨m, 8, none⟩ = some (.int .i64 c.f8)) ∧ Aside0 (Below w.heap.size w w' ∧ w2.heap.size ≤ w'.heap.size ∧ w'.heap[w.heap.size + 1]? = some rep0 ∧ w'.heap[w.heap.size]? = some (objO ⟨ok, oy, ot, on, ob⟩ A cap))) (by
  rintro x w' ⟨rfl, hb⟩
  have hm5 := blk_below hm2 hb
  have bO5 := blk_below bO2 hb
  have o0 := blk_cell bO5 0
  have o1 := blk_cell bO5 1
  have o2 := blk_cell bO5 2
  have o3 := blk_cell bO5 3
  have o4 := blk_cell bO5 4
  have c0 := blk_cell hm5 0
  have c1 := blk_cell hm5 1
  have c2 := blk_cell hm5 2
  have c3 := blk_cell hm5 3
  have c4 := blk_cell hm5 4
  have c5 := blk_cell hm5 5
  have c6 := blk_cell hm5 6
  have c7 := blk_cell hm5 7
  have c8 := blk_cell hm5 8
  simp at o0 o1 o2 o3 o4 c0 c1 c2 c3 c4 c5 c6 c7 c8
  have bD5 := blk_below (show w2.drew.heap[w.heap.size + 1]? = some rep0 from bD) hb
  exact ⟨rfl, ⟨o0, o1, o2, o3, o4, c0, c1, c2, c3, c4, c5, c6, c7, c8⟩, ⟨below_then hB0d hB0d.size hb, hb.size, bD5, bO5⟩⟩)
 have hA2 := Aside0.mk hsz2
 clear AK hB0d hm2 bO2 hx hB0 bO bD hC hcap hsz2 hask
 have q0 : (e == 0) = false := by simpa using he
 have q1 : decide (e = 0) = false := decide_eq_false he
 go_region_held3 (fun w' => w'.cell? ⟨w.heap.size, 0, none⟩ = some (.int .u8 ok) ∧ w'.cell? ⟨w.heap.size, 1, none⟩ = some (.string oy) ∧ w'.cell? ⟨w.heap.size, 2, none⟩ = some (.string ot) ∧ w'.cell? ⟨w.heap.size, 3, none⟩ = some (.int .i64 on) ∧ w'.cell? ⟨w.heap.size, 4, none⟩ = some (.slice A ob.length cap) ∧ w'.cell? ⟨m, 0, none⟩ = some (.int .i64 c.f0) ∧ w'.cell? ⟨m, 1, none⟩ = some (.int .i64 c.f1) ∧ w'.cell? ⟨m, 2, none⟩ = some (.int .i64 c.f2) ∧ w'.cell? ⟨m, 3, none⟩ = some (.int .i64 c.f3) ∧ w'.cell? ⟨m, 4, none⟩ = some (.int .i64 c.f4) ∧ w'.cell? ⟨m, 5, none⟩ = some (.int .i64 c.f5) ∧ w'.cell? ⟨m, 6, none⟩ = some (.int .i64 c.f6) ∧ w'.cell? ⟨m, 7, none⟩ = some (.int .i64 c.f7) ∧ w'.cell? ⟨m, 8, none⟩ = some (.int .i64 c.f8)) (first | exact ⟨by assumption, by assumption, by assumption, by assumption, by assumption, by assumption, by assumption, by assumption, by assumption, by assumption, by assumption, by assumption, by assumption, by assumption⟩ | exact ⟨o0, o1, o2, o3, o4, c0, c1, c2, c3, c4, c5, c6, c7, c8⟩)
   (first
    | (go_at_call 55; refine AK2.mono ?_; clear AK2; rintro x w5 ⟨rfl, ⟨y0, y1, y2, y3, y4, y5, y6, y7, y8, y9, y10, y11, y12, y13⟩, hA5⟩))
 clear o0 o1 o2 o3 o4 c0 c1 c2 c3 c4 c5 c6 c7 c8 y0 y1 y2 y3 y4 y5 y6 y7 y8 y9 y10 y11 y12 y13
 obtain ⟨hB5, hs5, bD5, bO5⟩ := hA5.out
 have y0 := blk_cell bD5 0
 have y1 := blk_cell bD5 1
 have y2 := blk_cell bD5 2
 have y3 := blk_cell bD5 3
 have y4 := blk_cell bD5 4
 have y5 := blk_cell bD5 5
 have q0 := blk_frozen bD5 0
 have q1 := blk_frozen bD5 1
 have q2 := blk_frozen bD5 2
 have q3 := blk_frozen bD5 3
 have q4 := blk_frozen bD5 4
 have q5 := blk_frozen bD5 5
 simp at y0 y1 y2 y3 y4 y5
 clear hB5 bO5 hs5 bD5
 go_wp2
 obtain ⟨hx, _, _, _, hC, hcap, _, _⟩ := hA.out
 obtain ⟨hB5, hs5, bD5, bO5⟩ := hA5.out
 exact md_end (fun _ _ => rfl) ⟨fun k hk => Nat.lt_of_lt_of_le (hlt k hk) hB5.size, em, cb, nn, F, B, hx.frm (.of_below hB5)⟩ (.of_below hB5) (by omega) (g0 hlt _ (by omega)) rfl rfl rfl bD5 (fun W' _ _ => RepV.bare _ _ _ _ _ _ _)
end Go.Proofs.Ytljnlnbopohghaa.Mdl
end
section
namespace Go.Proofs.Ytljnlnbopohghaa.Mdl
open Go.RowKit Go.Shelf Go.Proofs.YtljnlnbopohghaaW.PrintWords Go.Proofs.YtljnlnbopohghaaW.PrintLast Go.Proofs.YtljnlnbopohghaaW.PrintMore Go.Proofs.Ytljnlnbopohghaa.Own Go.Proofs.Ytljnlnbopohghaa.Ord Go.Proofs.Ytljnlnbopohghaa Go.Proofs.Ytljnlnbopohghaa.P
open Go.Proofs.Ytljnlnbopohghaa.OrdSm (Hold hold_get)
set_option maxHeartbeats 2000000
set_option maxRecDepth 100000
theorem do_get {G : Nat → Nat} {w : World} {m : Nat} {c : Cf} {n sends : Int} {L : Row} {T : Int → List Cu} {N : Nat} (h : Mw G w m c n sends L T N) (who : Int) (hw : ¬ (who < 1 ∨ who > n)) (o : Oq) {A : Option Addr} {cap : Nat} (hC : Kd.C P.k117 w A o.b.length o.b) (hcap : o.b.length ≤ cap) (ka : Nat) (e : Int) (hask : room_Ask.f ka o.k o.y o.t o.n o.b c.f0 c.f1 c.f2 c.f3 c.f4 c.f5 c.f6 c.f7 c.f8 = some e) (hk : o.k = 1) (he : e = 0) :
  Calls Try.prog 23 #[.pointer (some ⟨m, 0, none⟩), .int .i64 who, .agg #[.int .u8 o.k, .string o.y, .string o.t, .int .i64 o.n, .slice A o.b.length cap]] w (Md G w m c n N ⟨0, (gotL L o.y).2, (gotL L o.y).1, [], 0, false⟩ sends L T) := by
 have hup := Try.underlying59
 have huo := Try.underlying56
 have hum := Try.underlying122
 have huc := Try.underlying47
 have hur := Try.underlying29
 obtain ⟨hlt, em, cb, nn, F, B, hx⟩ := h
 obtain ⟨ok, oy, ot, on, ob⟩ := o
 have hk : ok = 1 := hk
 subst hk
 subst he
 have q0 : (((0 : Int)) == 0) = true := rfl
 have hB0 : Below w.heap.size w ((w.alloc (objO ⟨1, oy, ot, on, ob⟩ A cap)).alloc rep0) := below_alloc (below_alloc (Below.refl _ _) _) _
 have bO : ((w.alloc (objO ⟨1, oy, ot, on, ob⟩ A cap)).alloc rep0).heap[w.heap.size]? = some (objO ⟨1, oy, ot, on, ob⟩ A cap) := blk_alloc (blk_new w _) _
 have bD : ((w.alloc (objO ⟨1, oy, ot, on, ob⟩ A cap)).alloc rep0).heap[w.heap.size + 1]? = some rep0 := by have := blk_new (w.alloc (objO ⟨1, oy, ot, on, ob⟩ A cap)) rep0; rwa [World.size_alloc] at this
 have hsz2 : ((w.alloc (objO ⟨1, oy, ot, on, ob⟩ A cap)).alloc rep0).heap.size = w.heap.size + 2 := by simp
 have x9 := blk_cell (blk_below hx.hm hB0) 9
 simp at x9
 have d0 := decide_eq_false (show ¬ who < 1 by omega)
 have d1 := decide_eq_false (show ¬ who > n by omega)
 have hA := Aside0.mk (And.intro hx (And.intro hB0 (And.intro bO (And.intro bD (And.intro hC (And.intro hcap (And.intro hsz2 hask)))))))
 clear hx hB0 bO bD hC hcap hsz2 hask
 go_enter Try.func23, Try.ntmps23
 go_wp2
 obtain ⟨hx, hB0, bO, bD, hC, hcap, hsz2, hask⟩ := hA.out
 generalize (w.alloc (objO ⟨1, oy, ot, on, ob⟩ A cap)).alloc rep0 = w2 at hB0 bO bD hsz2 ⊢
 have hB0d := below_drew1 hB0
 have hm2 : w2.drew.heap[m]? = _ := blk_below hx.hm hB0d
 have bO2 : w2.drew.heap[w.heap.size]? = _ := bO
 have o0 := blk_cell bO2 0
 have o1 := blk_cell bO2 1
 have o2 := blk_cell bO2 2
 have o3 := blk_cell bO2 3
 have o4 := blk_cell bO2 4
 have c0 := blk_cell hm2 0
 have c1 := blk_cell hm2 1
 have c2 := blk_cell hm2 2
 have c3 := blk_cell hm2 3
 have c4 := blk_cell hm2 4
 have c5 := blk_cell hm2 5
 have c6 := blk_cell hm2 6
 have c7 := blk_cell hm2 7
 have c8 := blk_cell hm2 8
 simp at o0 o1 o2 o3 o4 c0 c1 c2 c3 c4 c5 c6 c7 c8
 have AK := room_Ask.calls ka 1 oy ot on A cap ob c.f0 c.f1 c.f2 c.f3 c.f4 c.f5 c.f6 c.f7 c.f8 0 w2.drew (Kd.C_below hC hB0d) hcap hask
 have AK2 := AK.mono (R' := fun x w' => x = .returned (.int .i64 0) ∧ (w'.cell? ⟨w.heap.size, 0, none⟩ = some (.int .u8 1) ∧ w'.cell? ⟨w.heap.size, 1, none⟩ = some (.string oy) ∧ w'.cell? ⟨w.heap.size, 2, none⟩ = some (.string ot) ∧ w'.cell? ⟨w.heap.size, 3, none⟩ = some (.int .i64 on) ∧ w'.cell? ⟨w.heap.size, 4, none⟩ = some (.slice A ob.length cap) ∧ w'.cell? ⟨m, 0, none⟩ = some (.int .i64 c.f0) ∧ w'.cell? ⟨m, 1, none⟩ = some (.int .i64 c.f1) ∧ w'.cell? ⟨m, 2, none⟩ = some (.int .i64 c.f2) ∧ w'.cell? ⟨m, 3, none⟩ = some (.int .i64 c.f3) ∧ w'.cell? ⟨m, 4, none⟩ = some (.int .i64 c.f4) ∧ w'.cell? ⟨m, 5, none⟩ = some (.int .i64 c.f5) ∧ w'.cell? ⟨m, 6, none⟩ = some (.int .i64 c.f6) ∧ w'.cell? ⟨m, 7, none⟩ = some (.int .i64 c.f7) ∧ w'.cell? ⟨m, 8, none⟩ = some (.int .i64 c.f8)) ∧ Aside0 (Below w.heap.size w w' ∧ w2.heap.size ≤ w'.heap.size ∧ w'.heap[w.heap.size + 1]? = some rep0 ∧ w'.heap[w.heap.size]? = some (objO ⟨1, oy, ot, on, ob⟩ A cap))) (by
  rintro x w' ⟨rfl, hb⟩
  have hm5 := blk_below hm2 hb
  have bO5 := blk_below bO2 hb
  have o0 := blk_cell bO5 0
  have o1 := blk_cell bO5 1
  have o2 := blk_cell bO5 2
  have o3 := blk_cell bO5 3
  have o4 := blk_cell bO5 4
  have c0 := blk_cell hm5 0
  have c1 := blk_cell hm5 1
  have c2 := blk_cell hm5 2
  have c3 := blk_cell hm5 3
  have c4 := blk_cell hm5 4
  have c5 := blk_cell hm5 5
  have c6 := blk_cell hm5 6
  have c7 := blk_cell hm5 7
  have c8 := blk_cell hm5 8
  simp at o0 o1 o2 o3 o4 c0 c1 c2 c3 c4 c5 c6 c7 c8
  have bD5 := blk_below (show w2.drew.heap[w.heap.size + 1]? = some rep0 from bD) hb
  exact ⟨rfl, ⟨o0, o1, o2, o3, o4, c0, c1, c2, c3, c4, c5, c6, c7, c8⟩, ⟨below_then hB0d hB0d.size hb, hb.size, bD5, bO5⟩⟩)
 have hA2 := Aside0.mk hsz2
 clear AK hB0d hm2 bO2 hx hB0 bO bD hC hcap hsz2 hask
 go_region_held3 (fun w' => w'.cell? ⟨w.heap.size, 0, none⟩ = some (.int .u8 1) ∧ w'.cell? ⟨w.heap.size, 1, none⟩ = some (.string oy) ∧ w'.cell? ⟨w.heap.size, 2, none⟩ = some (.string ot) ∧ w'.cell? ⟨w.heap.size, 3, none⟩ = some (.int .i64 on) ∧ w'.cell? ⟨w.heap.size, 4, none⟩ = some (.slice A ob.length cap) ∧ w'.cell? ⟨m, 0, none⟩ = some (.int .i64 c.f0) ∧ w'.cell? ⟨m, 1, none⟩ = some (.int .i64 c.f1) ∧ w'.cell? ⟨m, 2, none⟩ = some (.int .i64 c.f2) ∧ w'.cell? ⟨m, 3, none⟩ = some (.int .i64 c.f3) ∧ w'.cell? ⟨m, 4, none⟩ = some (.int .i64 c.f4) ∧ w'.cell? ⟨m, 5, none⟩ = some (.int .i64 c.f5) ∧ w'.cell? ⟨m, 6, none⟩ = some (.int .i64 c.f6) ∧ w'.cell? ⟨m, 7, none⟩ = some (.int .i64 c.f7) ∧ w'.cell? ⟨m, 8, none⟩ = some (.int .i64 c.f8)) (first | exact ⟨by assumption, by assumption, by assumption, by assumption, by assumption, by assumption, by assumption, by assumption, by assumption, by assumption, by assumption, by assumption, by assumption, by assumption⟩ | exact ⟨o0, o1, o2, o3, o4, c0, c1, c2, c3, c4, c5, c6, c7, c8⟩)
   (first
    | (go_at_call 55; refine AK2.mono ?_; clear AK2; rintro x w5 ⟨rfl, ⟨y0, y1, y2, y3, y4, y5, y6, y7, y8, y9, y10, y11, y12, y13⟩, hA5⟩))
 clear o0 o1 o2 o3 o4 c0 c1 c2 c3 c4 c5 c6 c7 c8 y0 y1 y2 y3 y4 y5 y6 y7 y8 y9 y10 y11 y12 y13
 obtain ⟨hx, _, _, _, hC, hcap, _, _⟩ := hA.out
 obtain ⟨hB5, hs5, bD5, bO5⟩ := hA5.out
 have hB6 : Below w.heap.size w (w5.alloc (.cells #[.string oy, .string ot] 29)) := below_alloc hB5 _
 have bD6 := blk_alloc bD5 (.cells #[.string oy, .string ot] 29)
 have bO6 := blk_alloc bO5 (.cells #[.string oy, .string ot] 29)
 have bR6 := blk_new w5 (.cells #[.string oy, .string ot] 29)
 have o0 := blk_cell bO6 0
 have o1 := blk_cell bO6 1
 have o2 := blk_cell bO6 2
 have o3 := blk_cell bO6 3
 have o4 := blk_cell bO6 4
 simp at o0 o1 o2 o3 o4
 clear hx hC hcap hB5 hs5 bD5 bO5 hB6 bD6 bO6 bR6
 go_wp2
 obtain ⟨hx, _, _, _, hC, hcap, _, _⟩ := hA.out
 obtain ⟨hB5, hs5, bD5, bO5⟩ := hA5.out
 have hB6 : Below w.heap.size w (w5.alloc (.cells #[.string oy, .string ot] 29)) := below_alloc hB5 _
 have bD6 := blk_alloc bD5 (.cells #[.string oy, .string ot] 29)
 have bO6 := blk_alloc bO5 (.cells #[.string oy, .string ot] 29)
 have bR6 := blk_new w5 (.cells #[.string oy, .string ot] 29)
 generalize w5.alloc (.cells #[.string oy, .string ot] 29) = w6 at hB6 bD6 bO6 bR6 ⊢
 clear o0 o1 o2 o3 o4
 have hx6 := hx.frm (w' := w6.drew) (.of_below (below_drew1 hB6))
 have hm6 : w6.drew.heap[m]? = _ := hx6.hm
 have bO7 : w6.drew.heap[w.heap.size]? = _ := bO6
 have u0 := blk_cell hm6 10
 have u1 := blk_cell bO7 1
 simp at u0 u1
 have GT := (hold_get hx6.hH oy).mono (R' := fun e w' => e = .returned (.tuple #[.string (gotL L oy).1, .bool (gotL L oy).2]) ∧ (w'.cell? ⟨m, 10, none⟩ = some (.pointer (some ⟨em, 0, none⟩)) ∧ w'.cell? ⟨w.heap.size, 1, none⟩ = some (.string oy)) ∧ Aside0 (Below w.heap.size w w' ∧ w'.heap[w.heap.size + 1]? = some rep0)) (by
  rintro e w' ⟨rfl, rfl⟩
  refine ⟨?_, ⟨u0, u1⟩, ⟨below_drew1 hB6, bD6⟩⟩
  unfold gotL
  cases lookK OrdSm.lt oy L with
  | none => rfl
  | some v => rfl)
 clear hx hC hcap hB5 hs5 bD5 bO5 hB6 bD6 bO6 bR6 hx6 hm6 bO7
 go_region_held3 (fun w' => w'.cell? ⟨m, 10, none⟩ = some (.pointer (some ⟨em, 0, none⟩)) ∧ w'.cell? ⟨w.heap.size, 1, none⟩ = some (.string oy)) (first | exact ⟨by assumption, by assumption⟩ | exact ⟨u0, u1⟩)
   (first
    | (go_at_call 56; refine GT.mono ?_; clear GT; rintro x w7 ⟨rfl, ⟨v0, v1⟩, hA7⟩))
 obtain ⟨hB7, bD7⟩ := hA7.out
 have y0 := blk_cell bD7 0
 have y1 := blk_cell bD7 1
 have y2 := blk_cell bD7 2
 have y3 := blk_cell bD7 3
 have y4 := blk_cell bD7 4
 have y5 := blk_cell bD7 5
 have q0 := blk_frozen bD7 0
 have q1 := blk_frozen bD7 1
 have q2 := blk_frozen bD7 2
 have q3 := blk_frozen bD7 3
 have q4 := blk_frozen bD7 4
 have q5 := blk_frozen bD7 5
 simp at y0 y1 y2 y3 y4 y5
 clear hB7 bD7 u0 u1 v0 v1
 go_wp2
 obtain ⟨hx, _, _, _, hC, hcap, _, _⟩ := hA.out
 obtain ⟨hB7, bD7⟩ := hA7.out
 exact md_end (fun _ _ => rfl) ⟨fun k hk => Nat.lt_of_lt_of_le (hlt k hk) hB7.size, em, cb, nn, F, B, hx.frm (.of_below hB7)⟩ (.of_below hB7) (by omega) (g0 hlt _ (by omega)) rfl rfl rfl bD7 (fun W' _ _ => RepV.bare _ _ _ _ _ _ _)
end Go.Proofs.Ytljnlnbopohghaa.Mdl
end
section
namespace Go.Proofs.Ytljnlnbopohghaa.Mdl
open Go.RowKit Go.Shelf Go.Proofs.YtljnlnbopohghaaW.PrintWords Go.Proofs.YtljnlnbopohghaaW.PrintLast Go.Proofs.YtljnlnbopohghaaW.PrintMore Go.Proofs.Ytljnlnbopohghaa.Own Go.Proofs.Ytljnlnbopohghaa.Ord Go.Proofs.Ytljnlnbopohghaa Go.Proofs.Ytljnlnbopohghaa.P
open Go.Proofs.Ytljnlnbopohghaa.OrdSm (Hold hold_get)
set_option maxHeartbeats 2000000
set_option maxRecDepth 100000
theorem do_next {G : Nat → Nat} {w : World} {m : Nat} {c : Cf} {n sends : Int} {L : Row} {T : Int → List Cu} {N : Nat} (h : Mw G w m c n sends L T N) (who : Int) (hw : ¬ (who < 1 ∨ who > n)) (o : Oq) {A : Option Addr} {cap : Nat} (hC : Kd.C P.k117 w A o.b.length o.b) (hcap : o.b.length ≤ cap) (ka : Nat) (e : Int) (hask : room_Ask.f ka o.k o.y o.t o.n o.b c.f0 c.f1 c.f2 c.f3 c.f4 c.f5 c.f6 c.f7 c.f8 = some e) (hk : o.k = 5) (he : e = 0) (h1 : 1 ≤ who) (h2 : who ≤ 1000000) (hN : N + 1 < 1000000) (hkw : (Lit.int .i64 o.n).wf = true) (hl : L.length ≤ 1000000) (hsz : ∀ x ∈ L, x.1.size ≤ 140737488351232) :
  Calls Try.prog 23 #[.pointer (some ⟨m, 0, none⟩), .int .i64 who, .agg #[.int .u8 o.k, .string o.y, .string o.t, .int .i64 o.n, .slice A o.b.length cap]] w (Md G w m c n (N + 2) (nextV c.f8 L (T who) o.n).1 sends L (setT T who (nextV c.f8 L (T who) o.n).2)) := by
 have hup := Try.underlying59
 have huo := Try.underlying56
 have hum := Try.underlying122
 have huc := Try.underlying47
 have hur := Try.underlying29
 obtain ⟨hlt, em, cb, nn, F, B, hx⟩ := h
 obtain ⟨ok, oy, ot, on, ob⟩ := o
 have hk : ok = 5 := hk
 subst hk
 subst he
 have q0 : (((0 : Int)) == 0) = true := rfl
 have hB0 : Below w.heap.size w ((w.alloc (objO ⟨5, oy, ot, on, ob⟩ A cap)).alloc rep0) := below_alloc (below_alloc (Below.refl _ _) _) _
 have bO : ((w.alloc (objO ⟨5, oy, ot, on, ob⟩ A cap)).alloc rep0).heap[w.heap.size]? = some (objO ⟨5, oy, ot, on, ob⟩ A cap) := blk_alloc (blk_new w _) _
 have bD : ((w.alloc (objO ⟨5, oy, ot, on, ob⟩ A cap)).alloc rep0).heap[w.heap.size + 1]? = some rep0 := by have := blk_new (w.alloc (objO ⟨5, oy, ot, on, ob⟩ A cap)) rep0; rwa [World.size_alloc] at this
 have hsz2 : ((w.alloc (objO ⟨5, oy, ot, on, ob⟩ A cap)).alloc rep0).heap.size = w.heap.size + 2 := by simp
 have x9 := blk_cell (blk_below hx.hm hB0) 9
 simp at x9
 have d0 := decide_eq_false (show ¬ who < 1 by omega)
 have d1 := decide_eq_false (show ¬ who > n by omega)
 have hA := Aside0.mk (And.intro hx (And.intro hB0 (And.intro bO (And.intro bD (And.intro hC (And.intro hcap (And.intro hsz2 hask)))))))
 clear hx hB0 bO bD hC hcap hsz2 hask
 go_enter Try.func23, Try.ntmps23
 go_wp2
 obtain ⟨hx, hB0, bO, bD, hC, hcap, hsz2, hask⟩ := hA.out
 generalize (w.alloc (objO ⟨5, oy, ot, on, ob⟩ A cap)).alloc rep0 = w2 at hB0 bO bD hsz2 ⊢
 have hB0d := below_drew1 hB0
 have hm2 : w2.drew.heap[m]? = _ := blk_below hx.hm hB0d
 have bO2 : w2.drew.heap[w.heap.size]? = _ := bO
 have o0 := blk_cell bO2 0
 have o1 := blk_cell bO2 1
 have o2 := blk_cell bO2 2
 have o3 := blk_cell bO2 3
 have o4 := blk_cell bO2 4
 have c0 := blk_cell hm2 0
 have c1 := blk_cell hm2 1
 have c2 := blk_cell hm2 2
 have c3 := blk_cell hm2 3
 have c4 := blk_cell hm2 4
 have c5 := blk_cell hm2 5
 have c6 := blk_cell hm2 6
 have c7 := blk_cell hm2 7
 have c8 := blk_cell hm2 8
 simp at o0 o1 o2 o3 o4 c0 c1 c2 c3 c4 c5 c6 c7 c8
 have AK := room_Ask.calls ka 5 oy ot on A cap ob c.f0 c.f1 c.f2 c.f3 c.f4 c.f5 c.f6 c.f7 c.f8 0 w2.drew (Kd.C_below hC hB0d) hcap hask
 have AK2 := AK.mono (R' := fun x w' => x = .returned (.int .i64 0) ∧ (w'.cell? ⟨w.heap.size, 0, none⟩ = some (.int .u8 5) ∧ w'.cell? ⟨w.heap.size, 1, none⟩ = some (.string oy) ∧ w'.cell? ⟨w.heap.size, 2, none⟩ = some (.string ot) ∧ w'.cell? ⟨w.heap.size, 3, none⟩ = some (.int .i64 on) ∧ w'.cell? ⟨w.heap.size, 4, none⟩ = some (.slice A ob.length cap) ∧ w'.cell? ⟨m, 0, none⟩ = some (.int .i64 c.f0) ∧ w'.cell? ⟨m, 1, none⟩ = some (.int .i64 c.f1) ∧ w'.cell? ⟨m, 2, none⟩ = some (.int .i64 c.f2) ∧ w'.cell? ⟨m, 3, none⟩ = some (.int .i64 c.f3) ∧ w'.cell? ⟨m, 4, none⟩ = some (.int .i64 c.f4) ∧ w'.cell? ⟨m, 5, none⟩ = some (.int .i64 c.f5) ∧ w'.cell? ⟨m, 6, none⟩ = some (.int .i64 c.f6) ∧ w'.cell? ⟨m, 7, none⟩ = some (.int .i64 c.f7) ∧ w'.cell? ⟨m, 8, none⟩ = some (.int .i64 c.f8)) ∧ Aside0 (Below w.heap.size w w' ∧ w2.heap.size ≤ w'.heap.size ∧ w'.heap[w.heap.size + 1]? = some rep0 ∧ w'.heap[w.heap.size]? = some (objO ⟨5, oy, ot, on, ob⟩ A cap))) (by
  rintro x w' ⟨rfl, hb⟩
  have hm5 := blk_below hm2 hb
  have bO5 := blk_below bO2 hb
  have o0 := blk_cell bO5 0
  have o1 := blk_cell bO5 1
  have o2 := blk_cell bO5 2
  have o3 := blk_cell bO5 3
  have o4 := blk_cell bO5 4
  have c0 := blk_cell hm5 0
  have c1 := blk_cell hm5 1
  have c2 := blk_cell hm5 2
  have c3 := blk_cell hm5 3
  have c4 := blk_cell hm5 4
  have c5 := blk_cell hm5 5
  have c6 := blk_cell hm5 6
  have c7 := blk_cell hm5 7
  have c8 := blk_cell hm5 8
  simp at o0 o1 o2 o3 o4 c0 c1 c2 c3 c4 c5 c6 c7 c8
  have bD5 := blk_below (show w2.drew.heap[w.heap.size + 1]? = some rep0 from bD) hb
  exact ⟨rfl, ⟨o0, o1, o2, o3, o4, c0, c1, c2, c3, c4, c5, c6, c7, c8⟩, ⟨below_then hB0d hB0d.size hb, hb.size, bD5, bO5⟩⟩)
 have hA2 := Aside0.mk hsz2
 clear AK hB0d hm2 bO2 hx hB0 bO bD hC hcap hsz2 hask
 go_region_held3 (fun w' => w'.cell? ⟨w.heap.size, 0, none⟩ = some (.int .u8 5) ∧ w'.cell? ⟨w.heap.size, 1, none⟩ = some (.string oy) ∧ w'.cell? ⟨w.heap.size, 2, none⟩ = some (.string ot) ∧ w'.cell? ⟨w.heap.size, 3, none⟩ = some (.int .i64 on) ∧ w'.cell? ⟨w.heap.size, 4, none⟩ = some (.slice A ob.length cap) ∧ w'.cell? ⟨m, 0, none⟩ = some (.int .i64 c.f0) ∧ w'.cell? ⟨m, 1, none⟩ = some (.int .i64 c.f1) ∧ w'.cell? ⟨m, 2, none⟩ = some (.int .i64 c.f2) ∧ w'.cell? ⟨m, 3, none⟩ = some (.int .i64 c.f3) ∧ w'.cell? ⟨m, 4, none⟩ = some (.int .i64 c.f4) ∧ w'.cell? ⟨m, 5, none⟩ = some (.int .i64 c.f5) ∧ w'.cell? ⟨m, 6, none⟩ = some (.int .i64 c.f6) ∧ w'.cell? ⟨m, 7, none⟩ = some (.int .i64 c.f7) ∧ w'.cell? ⟨m, 8, none⟩ = some (.int .i64 c.f8)) (first | exact ⟨by assumption, by assumption, by assumption, by assumption, by assumption, by assumption, by assumption, by assumption, by assumption, by assumption, by assumption, by assumption, by assumption, by assumption⟩ | exact ⟨o0, o1, o2, o3, o4, c0, c1, c2, c3, c4, c5, c6, c7, c8⟩)
   (first
    | (go_at_call 55; refine AK2.mono ?_; clear AK2; rintro x w5 ⟨rfl, ⟨y0, y1, y2, y3, y4, y5, y6, y7, y8, y9, y10, y11, y12, y13⟩, hA5⟩))
 clear o0 o1 o2 o3 o4 c0 c1 c2 c3 c4 c5 c6 c7 c8 y0 y1 y2 y3 y4 y5 y6 y7 y8 y9 y10 y11 y12 y13
 obtain ⟨hx, _, _, _, hC, hcap, _, _⟩ := hA.out
 obtain ⟨hB5, hs5, bD5, bO5⟩ := hA5.out
 have hB6 : Below w.heap.size w (w5.alloc (.cells #[.string oy, .string ot] 29)) := below_alloc hB5 _
 have bD6 := blk_alloc bD5 (.cells #[.string oy, .string ot] 29)
 have bO6 := blk_alloc bO5 (.cells #[.string oy, .string ot] 29)
 have bR6 := blk_new w5 (.cells #[.string oy, .string ot] 29)
 have o0 := blk_cell bO6 0
 have o1 := blk_cell bO6 1
 have o2 := blk_cell bO6 2
 have o3 := blk_cell bO6 3
 have o4 := blk_cell bO6 4
 simp at o0 o1 o2 o3 o4
 have NX := next_any (w := w5.alloc (.cells #[.string oy, .string ot] 29)) ⟨fun k hk => Nat.lt_of_lt_of_le (hlt k hk) hB6.size, em, cb, nn, F, B, hx.frm (.of_below hB6)⟩ who h1 h2 hN on hkw hl hsz
 obtain ⟨r, hr⟩ : ∃ r, r = nextV c.f8 L (T who) on := ⟨_, rfl⟩
 rw [← hr] at NX
 have hrA := Aside0.mk hr
 have hA6 := Aside0.mk (And.intro hB6 bD6)
 clear hx hC hcap hB5 hs5 bD5 bO5 hB6 bD6 bO6 bR6 hr
 go_wp2_with (first
  | (go_at_call 59; refine NX.mono ?_; clear NX; rintro x w7 ⟨v, rfl, G7, hG7, hM7, hf7, A7, p7, rfl, hV7⟩; have bD7 := hf7.blk hA6.out.2 (by rw [g0 hlt _ (by omega)]; simp); have y0 := blk_cell bD7 0; have y1 := blk_cell bD7 1; have y2 := blk_cell bD7 2; have y3 := blk_cell bD7 3; have y4 := blk_cell bD7 4; have y5 := blk_cell bD7 5; have q0 := blk_frozen bD7 0; have q1 := blk_frozen bD7 1; have q2 := blk_frozen bD7 2; have q3 := blk_frozen bD7 3; have q4 := blk_frozen bD7 4; have q5 := blk_frozen bD7 5; simp at y0 y1 y2 y3 y4 y5; have hA7 := Aside0.mk (And.intro hG7 (And.intro hM7 (And.intro hf7 (And.intro bD7 hV7)))); clear hG7 hM7 hf7 bD7 hV7))
 obtain ⟨hG7, hM7, hf7, bD7, hV7⟩ := hA7.out
 obtain hr := hrA.out
 clear hrA
 subst hr
 obtain ⟨hB6, bD6⟩ := hA6.out
 have hs6 := hB6.size
 have hs7 := hf7.size
 have lD := blk_lt bD6
 refine md_end (fun k hk => hG7 k (by omega)) hM7 ((It.FrM.of_below hB6).trans hf7 (fun i hi => .inl hi)) (by omega) ((hG7 _ lD).trans (g0 hlt _ (by omega))) rfl rfl rfl bD7 (fun W' f hs => ⟨_, _, rfl, ?_⟩)
 refine Kd.V_mono (Kd.V_step hV7 (fun j hj hjl => f.block j hjl (fun e => ?_))) (fun j hj => ⟨by omega, by omega, hj.2.2⟩)
 omega
end Go.Proofs.Ytljnlnbopohghaa.Mdl
end
section
namespace Go.Proofs.Ytljnlnbopohghaa.Mdl
open Go.RowKit Go.Shelf Go.Proofs.YtljnlnbopohghaaW.PrintWords Go.Proofs.YtljnlnbopohghaaW.PrintLast Go.Proofs.YtljnlnbopohghaaW.PrintMore Go.Proofs.Ytljnlnbopohghaa.Own Go.Proofs.Ytljnlnbopohghaa.Ord Go.Proofs.Ytljnlnbopohghaa Go.Proofs.Ytljnlnbopohghaa.P
open Go.Proofs.Ytljnlnbopohghaa.OrdSm (Hold hold_get)
set_option maxHeartbeats 2000000
set_option maxRecDepth 100000
theorem do_send {G : Nat → Nat} {w : World} {m : Nat} {c : Cf} {n sends : Int} {L : Row} {T : Int → List Cu} {N : Nat} (h : Mw G w m c n sends L T N) (who : Int) (hw : ¬ (who < 1 ∨ who > n)) (o : Oq) {A : Option Addr} {cap : Nat} (hC : Kd.C P.k117 w A o.b.length o.b) (hcap : o.b.length ≤ cap) (ka : Nat) (e : Int) (hask : room_Ask.f ka o.k o.y o.t o.n o.b c.f0 c.f1 c.f2 c.f3 c.f4 c.f5 c.f6 c.f7 c.f8 = some e) (hk : o.k = 2) (he : e = 0) (hC2 : ∀ W, It.FrM (fun k => G k ≠ 0) w W → Kd.C P.k117 W A o.b.length o.b) (hs0 : 0 ≤ sends) (hs1 : sends < 1000000) (hl : L.length ≤ 500000) (hlen : o.b.length ≤ 100000) (hsz : ∀ x ∈ o.b, x.f2.size ≤ 140737488351232) :
  Calls Try.prog 23 #[.pointer (some ⟨m, 0, none⟩), .int .i64 who, .agg #[.int .u8 o.k, .string o.y, .string o.t, .int .i64 o.n, .slice A o.b.length cap]] w (Md G w m c n N ⟨0, false, e0, [], 0, false⟩ (sends + 1) (o.b.foldl sendV L) T) := by
 have hup := Try.underlying59
 have huo := Try.underlying56
 have hum := Try.underlying122
 have huc := Try.underlying47
 have hur := Try.underlying29
 obtain ⟨hlt, em, cb, nn, F, B, hx⟩ := h
 obtain ⟨ok, oy, ot, on, ob⟩ := o
 have hk : ok = 2 := hk
 subst hk
 subst he
 have q0 : (((0 : Int)) == 0) = true := rfl
 have hB0 : Below w.heap.size w ((w.alloc (objO ⟨2, oy, ot, on, ob⟩ A cap)).alloc rep0) := below_alloc (below_alloc (Below.refl _ _) _) _
 have bO : ((w.alloc (objO ⟨2, oy, ot, on, ob⟩ A cap)).alloc rep0).heap[w.heap.size]? = some (objO ⟨2, oy, ot, on, ob⟩ A cap) := blk_alloc (blk_new w _) _
 have bD : ((w.alloc (objO ⟨2, oy, ot, on, ob⟩ A cap)).alloc rep0).heap[w.heap.size + 1]? = some rep0 := by have := blk_new (w.alloc (objO ⟨2, oy, ot, on, ob⟩ A cap)) rep0; rwa [World.size_alloc] at this
 have hsz2 : ((w.alloc (objO ⟨2, oy, ot, on, ob⟩ A cap)).alloc rep0).heap.size = w.heap.size + 2 := by simp
 have x9 := blk_cell (blk_below hx.hm hB0) 9
 simp at x9
 have d0 := decide_eq_false (show ¬ who < 1 by omega)
 have d1 := decide_eq_false (show ¬ who > n by omega)
 have hA := Aside0.mk (And.intro hx (And.intro hB0 (And.intro bO (And.intro bD (And.intro hC (And.intro hcap (And.intro hsz2 hask)))))))
 clear hx hB0 bO bD hC hcap hsz2 hask
 go_enter Try.func23, Try.ntmps23
 go_wp2
 obtain ⟨hx, hB0, bO, bD, hC, hcap, hsz2, hask⟩ := hA.out
 generalize (w.alloc (objO ⟨2, oy, ot, on, ob⟩ A cap)).alloc rep0 = w2 at hB0 bO bD hsz2 ⊢
 have hB0d := below_drew1 hB0
 have hm2 : w2.drew.heap[m]? = _ := blk_below hx.hm hB0d
 have bO2 : w2.drew.heap[w.heap.size]? = _ := bO
 have o0 := blk_cell bO2 0
 have o1 := blk_cell bO2 1
 have o2 := blk_cell bO2 2
 have o3 := blk_cell bO2 3
 have o4 := blk_cell bO2 4
 have c0 := blk_cell hm2 0
 have c1 := blk_cell hm2 1
 have c2 := blk_cell hm2 2
 have c3 := blk_cell hm2 3
 have c4 := blk_cell hm2 4
 have c5 := blk_cell hm2 5
 have c6 := blk_cell hm2 6
 have c7 := blk_cell hm2 7
 have c8 := blk_cell hm2 8
 simp at o0 o1 o2 o3 o4 c0 c1 c2 c3 c4 c5 c6 c7 c8
 have AK := room_Ask.calls ka 2 oy ot on A cap ob c.f0 c.f1 c.f2 c.f3 c.f4 c.f5 c.f6 c.f7 c.f8 0 w2.drew (Kd.C_below hC hB0d) hcap hask
 have AK2 := AK.mono (R' := fun x w' => x = .returned (.int .i64 0) ∧ (w'.cell? ⟨w.heap.size, 0, none⟩ = some (.int .u8 2) ∧ w'.cell? ⟨w.heap.size, 1, none⟩ = some (.string oy) ∧ w'.cell? ⟨w.heap.size, 2, none⟩ = some (.string ot) ∧ w'.cell? ⟨w.heap.size, 3, none⟩ = some (.int .i64 on) ∧ w'.cell? ⟨w.heap.size, 4, none⟩ = some (.slice A ob.length cap) ∧ w'.cell? ⟨m, 0, none⟩ = some (.int .i64 c.f0) ∧ w'.cell? ⟨m, 1, none⟩ = some (.int .i64 c.f1) ∧ w'.cell? ⟨m, 2, none⟩ = some (.int .i64 c.f2) ∧ w'.cell? ⟨m, 3, none⟩ = some (.int .i64 c.f3) ∧ w'.cell? ⟨m, 4, none⟩ = some (.int .i64 c.f4) ∧ w'.cell? ⟨m, 5, none⟩ = some (.int .i64 c.f5) ∧ w'.cell? ⟨m, 6, none⟩ = some (.int .i64 c.f6) ∧ w'.cell? ⟨m, 7, none⟩ = some (.int .i64 c.f7) ∧ w'.cell? ⟨m, 8, none⟩ = some (.int .i64 c.f8)) ∧ Aside0 (Below w.heap.size w w' ∧ w2.heap.size ≤ w'.heap.size ∧ w'.heap[w.heap.size + 1]? = some rep0 ∧ w'.heap[w.heap.size]? = some (objO ⟨2, oy, ot, on, ob⟩ A cap))) (by
  rintro x w' ⟨rfl, hb⟩
  have hm5 := blk_below hm2 hb
  have bO5 := blk_below bO2 hb
  have o0 := blk_cell bO5 0
  have o1 := blk_cell bO5 1
  have o2 := blk_cell bO5 2
  have o3 := blk_cell bO5 3
  have o4 := blk_cell bO5 4
  have c0 := blk_cell hm5 0
  have c1 := blk_cell hm5 1
  have c2 := blk_cell hm5 2
  have c3 := blk_cell hm5 3
  have c4 := blk_cell hm5 4
  have c5 := blk_cell hm5 5
  have c6 := blk_cell hm5 6
  have c7 := blk_cell hm5 7
  have c8 := blk_cell hm5 8
  simp at o0 o1 o2 o3 o4 c0 c1 c2 c3 c4 c5 c6 c7 c8
  have bD5 := blk_below (show w2.drew.heap[w.heap.size + 1]? = some rep0 from bD) hb
  exact ⟨rfl, ⟨o0, o1, o2, o3, o4, c0, c1, c2, c3, c4, c5, c6, c7, c8⟩, ⟨below_then hB0d hB0d.size hb, hb.size, bD5, bO5⟩⟩)
 have hA2 := Aside0.mk hsz2
 clear AK hB0d hm2 bO2 hx hB0 bO bD hC hcap hsz2 hask
 go_region_held3 (fun w' => w'.cell? ⟨w.heap.size, 0, none⟩ = some (.int .u8 2) ∧ w'.cell? ⟨w.heap.size, 1, none⟩ = some (.string oy) ∧ w'.cell? ⟨w.heap.size, 2, none⟩ = some (.string ot) ∧ w'.cell? ⟨w.heap.size, 3, none⟩ = some (.int .i64 on) ∧ w'.cell? ⟨w.heap.size, 4, none⟩ = some (.slice A ob.length cap) ∧ w'.cell? ⟨m, 0, none⟩ = some (.int .i64 c.f0) ∧ w'.cell? ⟨m, 1, none⟩ = some (.int .i64 c.f1) ∧ w'.cell? ⟨m, 2, none⟩ = some (.int .i64 c.f2) ∧ w'.cell? ⟨m, 3, none⟩ = some (.int .i64 c.f3) ∧ w'.cell? ⟨m, 4, none⟩ = some (.int .i64 c.f4) ∧ w'.cell? ⟨m, 5, none⟩ = some (.int .i64 c.f5) ∧ w'.cell? ⟨m, 6, none⟩ = some (.int .i64 c.f6) ∧ w'.cell? ⟨m, 7, none⟩ = some (.int .i64 c.f7) ∧ w'.cell? ⟨m, 8, none⟩ = some (.int .i64 c.f8)) (first | exact ⟨by assumption, by assumption, by assumption, by assumption, by assumption, by assumption, by assumption, by assumption, by assumption, by assumption, by assumption, by assumption, by assumption, by assumption⟩ | exact ⟨o0, o1, o2, o3, o4, c0, c1, c2, c3, c4, c5, c6, c7, c8⟩)
   (first
    | (go_at_call 55; refine AK2.mono ?_; clear AK2; rintro x w5 ⟨rfl, ⟨y0, y1, y2, y3, y4, y5, y6, y7, y8, y9, y10, y11, y12, y13⟩, hA5⟩))
 clear o0 o1 o2 o3 o4 c0 c1 c2 c3 c4 c5 c6 c7 c8 y0 y1 y2 y3 y4 y5 y6 y7 y8 y9 y10 y11 y12 y13
 obtain ⟨hx, _, _, _, hC, hcap, _, _⟩ := hA.out
 obtain ⟨hB5, hs5, bD5, bO5⟩ := hA5.out
 have hB6 : Below w.heap.size w (w5.alloc (.cells #[.string oy, .string ot] 29)) := below_alloc hB5 _
 have bD6 := blk_alloc bD5 (.cells #[.string oy, .string ot] 29)
 have bO6 := blk_alloc bO5 (.cells #[.string oy, .string ot] 29)
 have bR6 := blk_new w5 (.cells #[.string oy, .string ot] 29)
 have o0 := blk_cell bO6 0
 have o1 := blk_cell bO6 1
 have o2 := blk_cell bO6 2
 have o3 := blk_cell bO6 3
 have o4 := blk_cell bO6 4
 simp at o0 o1 o2 o3 o4
 have SD := send_any (w := w5.alloc (.cells #[.string oy, .string ot] 29)) (m := m) (c := c) (n := n) (sends := sends) (L := L) (T := T) (N := N) (G := G) ⟨fun k hk => Nat.lt_of_lt_of_le (hlt k hk) hB6.size, em, cb, nn, F, B, hx.frm (.of_below hB6)⟩ hs0 hs1 hl (fun W f => hC2 W ((It.FrM.of_below hB6).trans f (fun i hi => .inl hi))) hcap hlen hsz
 obtain ⟨L2, hr⟩ : ∃ L2, L2 = List.foldl sendV L ob := ⟨_, rfl⟩
 rw [← hr] at SD
 have hrA := Aside0.mk hr
 clear hr
 have hA6 := Aside0.mk (And.intro hB6 bD6)
 have hC3 := Aside0.mk hC2
 clear hx hC hcap hB5 hs5 bD5 bO5 hB6 bD6 bO6 bR6 hC2
 go_wp2_with (first
  | (go_at_call 57; refine SD.mono ?_; clear SD; rintro x w7 ⟨⟨v, rfl⟩, G7, hG7, hM7, hf7⟩; have bD7 := hf7.blk hA6.out.2 (by rw [g0 hlt _ (by omega)]; simp); have y0 := blk_cell bD7 0; have y1 := blk_cell bD7 1; have y2 := blk_cell bD7 2; have y3 := blk_cell bD7 3; have y4 := blk_cell bD7 4; have y5 := blk_cell bD7 5; have q0 := blk_frozen bD7 0; have q1 := blk_frozen bD7 1; have q2 := blk_frozen bD7 2; have q3 := blk_frozen bD7 3; have q4 := blk_frozen bD7 4; have q5 := blk_frozen bD7 5; simp at y0 y1 y2 y3 y4 y5; have hA7 := Aside0.mk (And.intro hG7 (And.intro hM7 (And.intro hf7 bD7))); clear hG7 hM7 hf7 bD7))
 obtain ⟨hG7, hM7, hf7, bD7⟩ := hA7.out
 obtain hr := hrA.out
 clear hrA
 subst hr
 obtain ⟨hB6, bD6⟩ := hA6.out
 have hs6 := hB6.size
 have lD := blk_lt bD6
 exact md_end (fun k hk => hG7 k (by omega)) hM7 ((It.FrM.of_below hB6).trans hf7 (fun i hi => .inl hi)) (by omega) ((hG7 _ lD).trans (g0 hlt _ (by omega))) rfl rfl rfl bD7 (fun W' f hs => RepV.bare _ _ _ _ _ _ _)
end Go.Proofs.Ytljnlnbopohghaa.Mdl
end
