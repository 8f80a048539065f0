/- Texts of one claim (laid by shake.py). -/
import Derived.Test.YtljnlnbopohghaaZWa3
import Derived.Test.YtljnlnbopohghaaZWa12
import Derived.Test.YtljnlnbopohghaaZWa5
import Derived.Test.YtljnlnbopohghaaZWa7
import Derived.Test.YtljnlnbopohghaaZWa17
import Derived.Test.YtljnlnbopohghaaZWa18
import Derived.Test.YtljnlnbopohghaaZWa19
import Derived.IntWalk
import Derived.Test.YtljnlnbopohghaaZWa20
import Derived.Test.YtljnlnbopohghaaZWa21
import Derived.Test.YtljnlnbopohghaaZWa16
set_option linter.unusedVariables false
set_option linter.unusedSimpArgs false
section
namespace Go.Proofs.Ytljnlnbopohghaa.Pm
open Go.RowKit Go.Proofs.Ytljnlnbopohghaa.P Go.Proofs.YtljnlnbopohghaaW.PrintWords Go.Proofs.YtljnlnbopohghaaW.PrintLast Go.Proofs.YtljnlnbopohghaaW.PrintMore Go.Proofs.Ytljnlnbopohghaa.Own Go.Proofs.Ytljnlnbopohghaa
def lt (a b : ByteArray) : Bool := Op.bytesLess a.toList b.toList
def emp (a : ByteArray) : Bool := decide (a.toList = [])
def same (a b : ByteArray) : Bool := decide (a.toList = b.toList)
abbrev e0 : ByteArray := ⟨#[]⟩
theorem emp_e0 : emp e0 = true := by simp [emp, ba_mk]
theorem same_iff {a b : ByteArray} : same a b = true ↔ a = b := by simp [same, ba_eq]
theorem emp_iff {a : ByteArray} : emp a = true ↔ a = e0 := by
 have h : (e0 : ByteArray).toList = [] := by simp [ba_mk]
 simp only [emp, decide_eq_true_eq]
 exact ⟨fun h2 => ba_ext (h2.trans h.symm), fun h2 => by rw [h2]; exact h⟩
def isPt (k : Int) : Bool := decide (k = 1 ∨ k = 2 ∨ k = 3)
def rr (f t : ByteArray) : Bool := emp t || lt f t
def holds (f t s : ByteArray) : Bool := !lt s f && (emp t || lt s t)
def before (a b : ByteArray) : Bool := !emp a && (emp b || lt a b)
def succB (a : ByteArray) : ByteArray := a ++ ⟨#[0]⟩
def span (k : Int) (y t : ByteArray) : ByteArray × ByteArray := if isPt k = true then (y, succB y) else if k = 4 then (y, t) else (e0, e0)
theorem IsPoint_eq (k q : Int) (y t v : ByteArray) (d : Int) : msg_IsPoint.f k q y t v d = some (isPt k) := by
 unfold msg_IsPoint.f isPt
 by_cases h1 : k = 1
 ·simp [h1]
 by_cases h2 : k = 2
 ·simp [h2]
 by_cases h3 : k = 3 <;> simp [h1, h2, h3]
theorem Point_eq (k q : Int) (y t v : ByteArray) (d : Int) : catchmentref04_Point.f k q y t v d = some (isPt k) := by
 unfold catchmentref04_Point.f isPt
 by_cases h : k ≥ 1
 ·rw [if_pos h]
  congr 1
  rw [decide_eq_decide]
  omega
 rw [if_neg h]
 congr 1
 symm
 rw [decide_eq_false_iff_not]
 omega
theorem ahead_eq (s t : ByteArray) : key_ahead.f s t = some (emp t || lt s t) := by
 unfold key_ahead.f emp lt
 by_cases h : t.toList = [] <;> simp [h]
theorem RightRange_eq (f t : ByteArray) : key_RightRange.f f t = some (rr f t) := by
 unfold key_RightRange.f rr
 rw [ahead_eq]
 rfl
theorem After_eq (a : ByteArray) (h : a.size ≤ 140737488351232) : key_After.f a = some (succB a) := by
 unfold key_After.f succB
 rw [if_pos (by omega)]
theorem Point_range_eq (a : ByteArray) (h : a.size ≤ 140737488351232) : key_Point.f a = some (a, succB a) := by
 unfold key_Point.f
 rw [After_eq a h]
 rfl
theorem Span_eq (k q : Int) (y t v : ByteArray) (d : Int) (h : y.size ≤ 140737488351232) : msg_Span.f k q y t v d = some (span k y t) := by
 unfold msg_Span.f span
 rw [IsPoint_eq, Point_range_eq y h]
 simp only [Option.bind_some]
 cases isPt k
 ·by_cases h4 : k = 4 <;> simp [h4]
 simp
theorem isPt_ne4 {k : Int} (h : isPt k = true) : ¬ k = 4 := by
 simp only [isPt, decide_eq_true_eq] at h
 omega
def bad (k : Int) (t v : ByteArray) (d : Int) : Bool := decide (k < 1) || decide (k > 4) || (decide (¬ k = 1) && !emp v) || (decide (¬ k = 3) && decide (¬ d = 0)) || (decide (¬ k = 4) && !emp t)
def chk (k : Int) (y t v : ByteArray) (d cK cV : Int) : Int :=
 if bad k t v d = true then 3
 else if k = 4 then (if (y.size : Int) > cK ∨ (t.size : Int) > cK then 6 else if rr y t = true then 0 else 7)
 else if k = 1 ∧ (v.size : Int) > cV then 6
 else if (y.size : Int) ≥ 1 ∧ (y.size : Int) ≤ cK then 0 else 6
theorem size_emp {y : ByteArray} : emp y = true ↔ y.size = 0 := by
 simp only [emp, decide_eq_true_eq, ba_size, List.length_eq_zero_iff]
theorem emp_toList {y : ByteArray} : y.toList = [] ↔ emp y = true := by simp [emp]
theorem empty_beq (y : ByteArray) : (y.toList == ([] : List UInt8)) = emp y := by
 rw [Bool.eq_iff_iff]; simp [emp]
theorem empty_bne (y : ByteArray) : (y.toList != ([] : List UInt8)) = !emp y := by
 rw [bne, empty_beq]
theorem Right_eq (y : ByteArray) (c : Int) : key_Right.f y c = some (decide ((y.size : Int) ≥ 1 ∧ (y.size : Int) ≤ c)) := by
 unfold key_Right.f
 by_cases h : (y.size : Int) ≥ 1 <;> simp [h]
theorem j0_true (n : Nat) (k q : Int) (y t v : ByteArray) (d c0 c1 c2 c3 c4 c5 c6 c7 c8 : Int) : msg_Check.j0 (n + 1) true k q y t v d c0 c1 c2 c3 c4 c5 c6 c7 c8 = some 3 := by
 simp [msg_Check.j0]
theorem j0_false (n : Nat) (k q : Int) (y t v : ByteArray) (d c0 c1 c2 c3 c4 c5 c6 c7 c8 : Int) (h : y.size ≤ 140737488351232) (hk : 1 ≤ k) (hk4 : k ≤ 4) (hb : bad k t v d = false) :
  msg_Check.j0 (n + 9) false k q y t v d c0 c1 c2 c3 c4 c5 c6 c7 c8 = some (chk k y t v d c0 c1) := by
 simp only [msg_Check.j0, Bool.false_eq_true, if_false]
 unfold chk
 rw [hb]
 simp only [Bool.false_eq_true, if_false]
 by_cases h4 : k = 4
 ·subst h4
  simp only [if_true]
  have e : span 4 y t = (y, t) := rfl
  by_cases h1 : (y.size : Int) > c0
  ·rw [if_pos h1, if_pos (.inl h1)]
   simp [msg_Check.j1]
  rw [if_neg h1]
  by_cases h2 : (t.size : Int) > c0
  ·rw [if_pos (.inr h2)]
   simp [msg_Check.j1, h2]
  rw [if_neg (by omega)]
  simp only [msg_Check.j1, h2, decide_false, Bool.false_eq_true, if_false]
  rw [Span_eq _ _ _ _ _ _ h, e]
  simp only [Option.bind_some, RightRange_eq]
  cases rr y t <;> simp
 rw [if_neg h4, if_neg h4]
 by_cases h1 : k = 1
 ·rw [if_pos h1]
  by_cases h2 : (v.size : Int) > c1
  ·rw [if_pos h2, if_pos ⟨h1, h2⟩]
  rw [if_neg h2, if_neg (fun h => h2 h.2), Right_eq]
  by_cases h5 : (y.size : Int) ≥ 1 ∧ (y.size : Int) ≤ c0 <;> simp [h5]
 rw [if_neg h1, if_neg (fun h => h1 h.1), Right_eq]
 by_cases h5 : (y.size : Int) ≥ 1 ∧ (y.size : Int) ≤ c0 <;> simp [h5]
theorem Check_eq (n : Nat) (k q : Int) (y t v : ByteArray) (d c0 c1 c2 c3 c4 c5 c6 c7 c8 : Int) (h : y.size ≤ 140737488351232) : msg_Check.f (n + 9) k q y t v d c0 c1 c2 c3 c4 c5 c6 c7 c8 = some (chk k y t v d c0 c1) := by
 unfold msg_Check.f
 by_cases h1 : k < 1
 ·rw [if_pos h1, j0_true]
  simp [chk, bad, h1]
 rw [if_neg h1]
 by_cases h2 : k > 4
 ·rw [if_pos h2, j0_true]
  simp [chk, bad, h2]
 rw [if_neg h2]
 have fin : ∀ b, b = bad k t v d → msg_Check.j0 (n + 9) b k q y t v d c0 c1 c2 c3 c4 c5 c6 c7 c8 = some (chk k y t v d c0 c1) := by
  intro b hb
  cases hbb : b with
  | true => rw [j0_true]; rw [hbb] at hb; simp [chk, ← hb]
  | false => exact j0_false n _ _ _ _ _ _ _ _ _ _ _ _ _ _ _ h (by omega) (by omega) (by rw [← hb, hbb])
 unfold msg_bare.f
 have hk1 : decide (k < 1) = false := by simpa using h1
 have hk4 : decide (k > 4) = false := by simpa using h2
 by_cases k1 : k = 1
 ·rw [if_pos k1]
  simp only [Option.bind_some]
  refine fin _ ?_
  simp only [emp_e0, empty_beq, bad, hk1, hk4, k1]
  cases emp t <;> by_cases d0 : d = 0 <;> simp [d0]
 rw [if_neg k1]
 by_cases k3 : k = 3
 ·rw [if_pos k3]
  simp only [Option.bind_some]
  refine fin _ ?_
  simp only [emp_e0, empty_beq, bad, hk1, hk4, k3]
  cases emp t <;> cases emp v <;> simp
 rw [if_neg k3]
 by_cases k4 : k = 4
 ·rw [if_pos k4]
  simp only [Option.bind_some]
  refine fin _ ?_
  simp only [emp_e0, empty_beq, bad, hk1, hk4, k4]
  cases emp v <;> by_cases d0 : d = 0 <;> simp [d0]
 rw [if_neg k4]
 simp only [Option.bind_some]
 refine fin _ ?_
 simp only [emp_e0, empty_beq, bad, hk1, hk4, k1, k3, k4]
 cases emp v <;> cases emp t <;> by_cases d0 : d = 0 <;> simp [d0]
theorem ref_j4 (n : Nat) (b : Bool) (k q : Int) (y t v : ByteArray) (d : Int) : catchmentref04_Check.j4 (n + 1) b k q y t v d = some (if b = true then 6 else if k = 4 then (if rr y t = true then 0 else 7) else 0) := by
 simp only [catchmentref04_Check.j4]
 cases b
 ·simp only [Bool.false_eq_true, if_false, rr, emp, lt]
  by_cases k4 : k = 4
  ·simp only [k4, if_true]
   by_cases h1 : t.toList = []
   ·simp [h1]
   by_cases h2 : Op.bytesLess y.toList t.toList = true <;> simp [h1, h2]
  simp [k4]
 simp
theorem ref_j3 (n : Nat) (b : Bool) (k q : Int) (y t v : ByteArray) (d c0 c1 c2 c3 c4 c5 c6 c7 c8 : Int) (hb : b = bad k t v d) :
  catchmentref04_Check.j3 (n + 9) b k q y t v d c0 c1 c2 c3 c4 c5 c6 c7 c8 = some (chk k y t v d c0 c1) := by
 simp only [catchmentref04_Check.j3, ref_j4, Point_eq]
 unfold chk
 rw [← hb]
 cases hbb : b with
 | true => simp
 | false =>
  rw [hbb] at hb
  have hb2 := hb.symm
  simp only [bad, Bool.or_eq_false_iff, Bool.and_eq_false_iff, decide_eq_false_iff_not, Bool.not_eq_false'] at hb2
  obtain ⟨⟨⟨⟨b1, b2⟩, b3⟩, b4⟩, b5⟩ := hb2
  simp only [Bool.false_eq_true, if_false, Option.bind_some]
  have hy := size_emp (y := y)
  simp only [emp_toList, size_emp]
  by_cases k4 : k = 4
  ·subst k4
   have hp : isPt 4 = false := rfl
   simp only [hp, Bool.false_eq_true, if_false, if_true, show ¬ ((4 : Int) = 1) from by omega]
   by_cases h1 : (y.size : Int) > c0
   ·simp [h1]
   by_cases h2 : (t.size : Int) > c0
   ·simp [h1, h2]
   simp [h1, h2]
  have hp : isPt k = true := by simp only [isPt, decide_eq_true_eq]; omega
  have ht : t.size = 0 := by
   rcases b5 with b5 | b5
   ·exact absurd k4 b5
   exact size_emp.1 b5
  simp only [hp, k4, if_true, if_false]
  by_cases h1 : (y.size : Int) > c0
  ·rw [if_pos h1]
   by_cases k1 : k = 1 ∧ (v.size : Int) > c1
   ·rw [if_pos k1]
   rw [if_neg k1, if_neg (by omega)]
  rw [if_neg h1]
  by_cases h2 : (t.size : Int) > c0
  ·rw [if_pos h2]
   by_cases k1 : k = 1 ∧ (v.size : Int) > c1
   ·rw [if_pos k1]
   rw [if_neg k1, if_neg (by omega)]
  rw [if_neg h2]
  by_cases h3 : y.size = 0
  ·rw [if_pos h3]
   by_cases k1 : k = 1 ∧ (v.size : Int) > c1
   ·rw [if_pos k1]
   rw [if_neg k1, if_neg (by omega)]
  rw [if_neg h3]
  by_cases k1 : k = 1
  ·rw [if_pos k1]
   by_cases h5 : (v.size : Int) > c1
   ·simp [h5, k1]
   simp only [h5, decide_false, Bool.false_eq_true, if_false, and_false]
   rw [if_pos (by omega)]
  simp only [k1, false_and, if_false, Bool.false_eq_true]
  rw [if_pos (by omega)]
theorem ref_Check_eq (n : Nat) (k q : Int) (y t v : ByteArray) (d c0 c1 c2 c3 c4 c5 c6 c7 c8 : Int) : catchmentref04_Check.f (n + 19) k q y t v d c0 c1 c2 c3 c4 c5 c6 c7 c8 = some (chk k y t v d c0 c1) := by
 have r2 : ∀ m b, (b || (decide (¬ k = 4) && !emp t)) = bad k t v d → catchmentref04_Check.j2 (m + 10) b k q y t v d c0 c1 c2 c3 c4 c5 c6 c7 c8 = some (chk k y t v d c0 c1) := by
  intro m b hb
  simp only [catchmentref04_Check.j2]
  cases b
  ·by_cases k4 : k = 4
   ·simp only [Bool.false_eq_true, if_false, k4, if_true]
    exact ref_j3 m _ _ _ _ _ _ _ _ _ _ _ _ _ _ _ _ (by rw [← k4, ← hb]; simp [k4])
   simp only [Bool.false_eq_true, if_false, k4]
   exact ref_j3 m _ _ _ _ _ _ _ _ _ _ _ _ _ _ _ _ (by rw [← hb, empty_bne]; simp [k4])
  simp only [if_true]
  exact ref_j3 m _ _ _ _ _ _ _ _ _ _ _ _ _ _ _ _ (by rw [← hb]; simp)
 have r1 : ∀ m b, ((b || (decide (¬ k = 3) && decide (¬ d = 0))) || (decide (¬ k = 4) && !emp t)) = bad k t v d → catchmentref04_Check.j1 (m + 11) b k q y t v d c0 c1 c2 c3 c4 c5 c6 c7 c8 = some (chk k y t v d c0 c1) := by
  intro m b hb
  simp only [catchmentref04_Check.j1]
  cases b
  ·by_cases k3 : k = 3
   ·simp only [Bool.false_eq_true, if_false, k3, if_true]
    have := r2 m false (by rw [← hb]; simp [k3])
    rw [k3] at this
    exact this
   simp only [Bool.false_eq_true, if_false, k3]
   exact r2 m _ (by rw [← hb]; by_cases d0 : d = 0 <;> simp [k3, d0])
  simp only [if_true]
  exact r2 m _ (by rw [← hb]; simp)
 have r0 : ∀ b, b = (decide (k < 1) || decide (k > 4)) → catchmentref04_Check.j0 (n + 19) b k q y t v d c0 c1 c2 c3 c4 c5 c6 c7 c8 = some (chk k y t v d c0 c1) := by
  intro b hb
  simp only [catchmentref04_Check.j0]
  cases b
  ·by_cases k1 : k = 1
   ·simp only [Bool.false_eq_true, if_false, k1, if_true]
    have := r1 (n + 7) false (by unfold bad; rw [← hb]; simp [k1])
    rw [k1] at this
    exact this
   simp only [Bool.false_eq_true, if_false, k1]
   exact r1 (n + 7) _ (by unfold bad; rw [← hb, empty_bne]; simp [k1])
  simp only [if_true]
  exact r1 (n + 7) _ (by unfold bad; rw [← hb]; simp)
 unfold catchmentref04_Check.f
 by_cases h1 : k < 1
 ·rw [if_pos h1]
  exact r0 _ (by simp [h1])
 rw [if_neg h1]
 exact r0 _ (by simp [h1])
abbrev M := S117
def okM (m : M) : Prop := m.f2.size ≤ 140737488351232
def seqOk (l : List M) : Bool := l.all fun m => decide (m.f1 = 0)
def chkM (c0 c1 : Int) (m : M) : Int := chk m.f0 m.f2 m.f3 m.f4 m.f5 c0 c1
def firstErr (c0 c1 : Int) : List M → Int
 | [] => 0
 | m :: l => if chkM c0 c1 m = 0 then firstErr c0 c1 l else chkM c0 c1 m
theorem in_eq (n a b : Int) : room_in.f n a b = some (decide (a ≤ n ∧ n ≤ b)) := by
 unfold room_in.f
 by_cases h : n ≥ a
 ·rw [if_pos h]; simp [h]
 rw [if_neg h]; simp; omega
theorem at_drop {L l : List M} {i : Nat} {x : M} (hd : L.drop i = x :: l) : i < L.length ∧ rd_T117 L (i : Int) = x ∧ L.drop (i + 1) = l ∧ x ∈ L := by
 have hlt : i < L.length := by
  rcases Nat.lt_or_ge i L.length with h | h
  ·exact h
  rw [List.drop_eq_nil_of_le h] at hd; cases hd
 have hx : L[i]? = some x := by
  have := congrArg (fun z => z[0]?) hd
  simpa using this
 refine ⟨hlt, ?_, ?_, List.mem_of_getElem? hx⟩
 ·show L.getD ((i : Int).toNat) _ = x
  rw [Int.toNat_natCast, List.getD_eq_getElem?_getD, hx]
  rfl
 have := congrArg (List.drop 1) hd
 simpa [List.drop_drop] using this
theorem drop_nil_le {L : List M} {i : Nat} (hd : L.drop i = []) : L.length ≤ i := by
 have := congrArg List.length hd
 simp at this
 omega
section
variable (c0 c1 c2 c3 c4 c5 c6 c7 c8 : Int)
theorem batch_l1 (L : List M) (hL : ∀ x ∈ L, okM x) (hLn : L.length ≤ 140737488351232) : ∀ (l : List M) (i k : Nat), L.drop i = l → i ≤ L.length →
  room_batch.l1 (k + 20 + l.length) L L.length i c0 c1 c2 c3 c4 c5 c6 c7 c8 = some (firstErr c0 c1 l) := by
 intro l
 induction l with
 | nil =>
  intro i k hd hi
  have := drop_nil_le hd
  rw [List.length_nil, Nat.add_zero, show k + 20 = (k + 19) + 1 from rfl, room_batch.l1, if_neg (by omega)]
  rfl
 | cons x l ih =>
  intro i k hd hi
  obtain ⟨hlt, hrd, hd2, hx⟩ := at_drop hd
  rw [show k + 20 + (x :: l).length = (k + 20 + l.length) + 1 from by simp; omega, room_batch.l1]
  rw [if_pos (by omega), if_pos (by omega), if_pos (by omega), hrd, IntWalk.wrap64_in _ (by omega)]
  have hc := Check_eq (k + 11 + l.length) x.f0 x.f1 x.f2 x.f3 x.f4 x.f5 c0 c1 c2 c3 c4 c5 c6 c7 c8 (hL x hx)
  rw [show k + 11 + l.length + 9 = k + 20 + l.length from by omega] at hc
  rw [hc]
  simp only [Option.bind_some, firstErr]
  show (if chkM c0 c1 x = 0 then _ else some (chkM c0 c1 x)) = _
  by_cases h0 : chkM c0 c1 x = 0
  ·rw [if_pos h0, if_pos h0]
   have := ih (i + 1) k hd2 (by omega)
   rw [show ((i + 1 : Nat) : Int) = (i : Int) + 1 from by omega] at this
   exact this
  rw [if_neg h0, if_neg h0]
theorem batch_l0 (L : List M) (hL : ∀ x ∈ L, okM x) (hLn : L.length ≤ 140737488351232) : ∀ (l : List M) (i k : Nat), L.drop i = l → i ≤ L.length →
  room_batch.l0 (k + 30 + L.length + l.length) L L L.length i c0 c1 c2 c3 c4 c5 c6 c7 c8 = some (if seqOk l = true then firstErr c0 c1 L else 3) := by
 intro l
 induction l with
 | nil =>
  intro i k hd hi
  have := drop_nil_le hd
  rw [List.length_nil, Nat.add_zero, show k + 30 + L.length = (k + 29 + L.length) + 1 from by omega, room_batch.l0, if_neg (by omega)]
  have h1 := batch_l1 c0 c1 c2 c3 c4 c5 c6 c7 c8 L hL hLn L 0 (k + 9) rfl (by omega)
  rw [show k + 9 + 20 + L.length = k + 29 + L.length from by omega] at h1
  exact h1
 | cons x l ih =>
  intro i k hd hi
  obtain ⟨hlt, hrd, hd2, hx⟩ := at_drop hd
  rw [show k + 30 + L.length + (x :: l).length = (k + 30 + L.length + l.length) + 1 from by simp; omega, room_batch.l0]
  rw [if_pos (by omega), if_pos (by omega), if_pos (by omega), hrd, IntWalk.wrap64_in _ (by omega)]
  by_cases h0 : x.f1 = 0
  ·rw [if_pos h0]
   have := ih (i + 1) k hd2 (by omega)
   rw [show ((i + 1 : Nat) : Int) = (i : Int) + 1 from by omega] at this
   rw [this]
   simp [seqOk, h0]
  rw [if_neg h0]
  simp [seqOk, h0]
end
def batchV (c0 c1 : Int) (b : List M) : Int := if (b.length : Int) > 1024 then 8 else if seqOk b = true then firstErr c0 c1 b else 3
theorem batch_eq (k : Nat) (b : List M) (hL : ∀ x ∈ b, okM x) (hLn : b.length ≤ 140737488351232) (c0 c1 c2 c3 c4 c5 c6 c7 c8 : Int) : room_batch.f (k + 30 + b.length + b.length) b c0 c1 c2 c3 c4 c5 c6 c7 c8 = some (batchV c0 c1 b) := by
 unfold room_batch.f batchV
 by_cases h : (b.length : Int) > 1024
 ·rw [if_pos h, if_pos h]
 rw [if_neg h, if_neg h]
 exact batch_l0 c0 c1 c2 c3 c4 c5 c6 c7 c8 b hL hLn b 0 k rfl (by omega)
def spareBad (k : Int) (y t : ByteArray) (n : Int) (b : List M) : Bool :=
 (!(decide (k = 1 ∨ k = 3 ∨ k = 4)) && !emp y) || (!(decide (k = 3 ∨ k = 4)) && !emp t) || (!(decide (k = 3 ∨ k = 5 ∨ k = 6)) && decide (¬ n = 0)) || (!(decide (k = 2)) && decide (¬ b = []))
def askV (k : Int) (y t : ByteArray) (n : Int) (b : List M) (c0 c1 c8 : Int) : Int :=
 if k < 1 ∨ k > 6 ∨ spareBad k y t n b = true then 3
 else if k = 1 then (if 1 ≤ (y.size : Int) ∧ (y.size : Int) ≤ c0 then 0 else 6)
 else if k = 2 then batchV c0 c1 b
 else if k = 3 ∨ k = 4 then (if (y.size : Int) > c0 ∨ (t.size : Int) > c0 then 6 else if rr y t = false then 7 else if k = 3 ∧ ¬ (1 ≤ n ∧ n ≤ c8) then 4 else 0)
 else 0
section
variable (c0 c1 c2 c3 c4 c5 c6 c7 c8 : Int)
theorem ask_j0 (N : Nat) (k : Int) (y t : ByteArray) (n : Int) (b : List M) (hL : ∀ x ∈ b, okM x) (hLn : b.length ≤ 140737488351232) (hk : 1 ≤ k) (hk6 : k ≤ 6) (x : Bool) (hx : x = spareBad k y t n b) :
  room_Ask.j0 (N + 40 + b.length + b.length) x k y t n b c0 c1 c2 c3 c4 c5 c6 c7 c8 = some (askV k y t n b c0 c1 c8) := by
 have hks : ¬ (k < 1 ∨ k > 6 ∨ spareBad k y t n b = true) ↔ x = false := by
  rw [← hx]; cases x <;> simp <;> omega
 rw [show N + 40 + b.length + b.length = (N + 39 + b.length + b.length) + 1 from by omega, room_Ask.j0]
 unfold askV
 cases x with
 | true => rw [if_pos rfl, if_pos (.inr (.inr hx.symm))]
 | false =>
  rw [if_neg (by simp), if_neg (hks.2 rfl)]
  by_cases k1 : k = 1
  ·rw [if_pos k1, if_pos k1, in_eq]
   by_cases h : 1 ≤ (y.size : Int) ∧ (y.size : Int) ≤ c0 <;> simp [h]
  rw [if_neg k1, if_neg k1]
  by_cases k2 : k = 2
  ·rw [if_pos k2, if_pos k2]
   have := batch_eq (N + 9) b hL hLn c0 c1 c2 c3 c4 c5 c6 c7 c8
   rw [show N + 9 + 30 + b.length + b.length = N + 39 + b.length + b.length from by omega] at this
   rw [this]
   rfl
  rw [if_neg k2, if_neg k2]
  have tail : ∀ z : Bool, z = decide (k = 3 ∨ k = 4) → room_Ask.j1 (N + 39 + b.length + b.length) z k y t n b c0 c1 c2 c3 c4 c5 c6 c7 c8 = some (if k = 3 ∨ k = 4 then (if (y.size : Int) > c0 ∨ (t.size : Int) > c0 then 6 else if rr y t = false then 7 else if k = 3 ∧ ¬ (1 ≤ n ∧ n ≤ c8) then 4 else 0) else 0) := by
   intro z hz
   obtain ⟨m, hm⟩ : ∃ m, N + 39 + b.length + b.length = m + 3 := ⟨N + 36 + b.length + b.length, by omega⟩
   rw [hm]
   have j3 : ∀ q : Bool, q = !rr y t → room_Ask.j3 (m + 1) q k y t n b c0 c1 c2 c3 c4 c5 c6 c7 c8 = some (if rr y t = false then 7 else if k = 3 ∧ ¬ (1 ≤ n ∧ n ≤ c8) then 4 else 0) := by
    intro q hq
    rw [room_Ask.j3]
    cases hr : rr y t
    ·rw [hr] at hq; subst hq; simp
    rw [hr] at hq; subst hq
    simp only [Bool.not_true, Bool.false_eq_true, if_false, Bool.true_eq_false]
    by_cases k3 : k = 3
    ·rw [if_pos k3, in_eq]
     by_cases h : 1 ≤ n ∧ n ≤ c8 <;> simp [h, k3]
    rw [if_neg k3]; simp [k3]
   have j2 : ∀ q : Bool, room_Ask.j2 (m + 2) q k y t n b c0 c1 c2 c3 c4 c5 c6 c7 c8 = some (if q = true then 6 else if rr y t = false then 7 else if k = 3 ∧ ¬ (1 ≤ n ∧ n ≤ c8) then 4 else 0) := by
    intro q
    rw [room_Ask.j2]
    cases q
    ·simp only [Bool.false_eq_true, if_false]
     by_cases h : t.toList = []
     ·rw [if_pos h]; exact j3 _ (by simp [rr, emp, h])
     rw [if_neg h]; exact j3 _ (by simp [rr, emp, lt, h])
    simp
   rw [room_Ask.j1]
   cases z
   ·simp only [Bool.false_eq_true, if_false]
    rw [if_neg (show ¬ (k = 3 ∨ k = 4) from by simpa using hz.symm)]
   simp only [if_true]
   rw [if_pos (show k = 3 ∨ k = 4 from by simpa using hz.symm)]
   by_cases h1 : (y.size : Int) > c0
   ·rw [if_pos h1, if_pos (.inl h1), j2]; simp
   rw [if_neg h1, j2]
   by_cases h2 : (t.size : Int) > c0
   ·simp [h2]
   simp [h1, h2]
  by_cases k3 : k = 3
  ·rw [if_pos k3]
   exact tail _ (by simp [k3])
  rw [if_neg k3]
  exact tail _ (by rw [Bool.eq_iff_iff]; simp [k3])
theorem ask_j0_true (m : Nat) (k : Int) (y t : ByteArray) (n : Int) (b : List M) : room_Ask.j0 (m + 1) true k y t n b c0 c1 c2 c3 c4 c5 c6 c7 c8 = some 3 := by
 rw [room_Ask.j0, if_pos rfl]
theorem spare_fields (k : Int) (y t : ByteArray) (n : Int) (b : List M) (hk : 1 ≤ k) (hk6 : k ≤ 6) : ∃ s : Int × ByteArray × ByteArray × Int × List M, room_spare.f k y t n b = some s ∧
  ((!emp s.2.1) || (!emp s.2.2.1) || decide (¬ s.2.2.2.1 = 0) || decide (¬ s.2.2.2.2 = [])) = spareBad k y t n b := by
 unfold room_spare.f
 have h : k = 1 ∨ k = 2 ∨ k = 3 ∨ k = 4 ∨ k = 5 ∨ k = 6 := by omega
 have e : emp (⟨#[]⟩ : ByteArray) = true := emp_e0
 rcases h with rfl | rfl | rfl | rfl | rfl | rfl <;> refine ⟨_, rfl, ?_⟩ <;> simp [spareBad, e]
theorem Ask_eq (N : Nat) (k : Int) (y t : ByteArray) (n : Int) (b : List M) (hL : ∀ x ∈ b, okM x) (hLn : b.length ≤ 140737488351232) (hk : 0 ≤ k) (hk2 : k ≤ 255) :
  room_Ask.f (N + 40 + b.length + b.length) k y t n b c0 c1 c2 c3 c4 c5 c6 c7 c8 = some (askV k y t n b c0 c1 c8) := by
 unfold room_Ask.f
 rw [IntWalk.wrap64_in k (by omega), in_eq]
 by_cases hr : 1 ≤ k ∧ k ≤ 6
 ·obtain ⟨s, hs, hbad⟩ := spare_fields k y t n b hr.1 hr.2
  rw [hs]
  simp only [Option.bind_some, hr, and_self, decide_true, if_true]
  have jt := ask_j0 c0 c1 c2 c3 c4 c5 c6 c7 c8 N k y t n b hL hLn hr.1 hr.2
  by_cases h1 : s.2.1.toList = []
  ·rw [if_pos h1]
   by_cases h2 : s.2.2.1.toList = []
   ·rw [if_pos h2]
    by_cases h3 : s.2.2.2.1 = 0
    ·rw [if_pos h3]
     refine jt _ ?_
     rw [← hbad]
     have e1 : emp s.2.1 = true := by simp [emp, h1]
     have e2 : emp s.2.2.1 = true := by simp [emp, h2]
     rw [e1, e2]
     cases hq : s.2.2.2.2 with
     | nil => simp [h3]
     | cons a ws =>
      simp
      try omega
    rw [if_neg h3]
    refine jt _ ?_
    rw [← hbad]
    simp [h3]
   rw [if_neg h2]
   refine jt _ ?_
   rw [← hbad]
   simp [emp, h2]
  rw [if_neg h1]
  refine jt _ ?_
  rw [← hbad]
  simp [emp, h1]
 have hk' : k < 1 ∨ k > 6 := by omega
 have e : askV k y t n b c0 c1 c8 = 3 := by
  unfold askV
  rw [if_pos (by rcases hk' with h | h; exact .inl h; exact .inr (.inl h))]
 obtain ⟨s, hs⟩ : ∃ s, room_spare.f k y t n b = some s := by
  unfold room_spare.f
  repeat (first | exact ⟨_, rfl⟩ | split)
 rw [hs, e]
 simp only [Option.bind_some, hr, decide_false, Bool.false_eq_true, if_false]
 rw [show N + 40 + b.length + b.length = (N + 39 + b.length + b.length) + 1 from by omega, ask_j0_true]
end
def sizesOk (c0 c1 c2 c3 c4 c5 c6 c7 c8 : Int) : Bool :=
 decide ((1 ≤ c0 ∧ c0 ≤ 256) ∧ (8 ≤ c1 ∧ c1 ≤ 4096) ∧ (4 ≤ c2 ∧ c2 ≤ 64) ∧ (0 ≤ c3 ∧ c3 ≤ 1048576) ∧ (4 ≤ c4 ∧ c4 ≤ 256) ∧ (2 ≤ c5 ∧ c5 ≤ c4) ∧ (2 ≤ c6 ∧ c6 ≤ 4096) ∧ (0 ≤ c7 ∧ c7 ≤ 1000) ∧ (1 ≤ c8 ∧ c8 ≤ 1024))
theorem sizes_eq (c0 c1 c2 c3 c4 c5 c6 c7 c8 : Int) : room_Check.f c0 c1 c2 c3 c4 c5 c6 c7 c8 = some (if sizesOk c0 c1 c2 c3 c4 c5 c6 c7 c8 = true then 0 else 2) := by
 unfold room_Check.f sizesOk
 simp only [in_eq, Option.bind_some, decide_eq_true_eq]
 by_cases h0 : 1 ≤ c0 ∧ c0 ≤ 256
 ·by_cases h1 : 8 ≤ c1 ∧ c1 ≤ 4096
  ·by_cases h2 : 4 ≤ c2 ∧ c2 ≤ 64
   ·by_cases h3 : 0 ≤ c3 ∧ c3 ≤ 1048576
    ·by_cases h4 : 4 ≤ c4 ∧ c4 ≤ 256
     ·by_cases h5 : 2 ≤ c5 ∧ c5 ≤ c4
      ·by_cases h6 : 2 ≤ c6 ∧ c6 ≤ 4096
       ·by_cases h7 : 0 ≤ c7 ∧ c7 ≤ 1000
        ·by_cases h8 : 1 ≤ c8 ∧ c8 ≤ 1024 <;> simp only [h0, h1, h2, h3, h4, h5, h6, h7, h8, and_self, if_true, if_false, and_false, false_and]
        simp only [h0, h1, h2, h3, h4, h5, h6, h7, and_self, if_true, if_false, and_false, false_and]
       simp only [h0, h1, h2, h3, h4, h5, h6, and_self, if_true, if_false, and_false, false_and]
      simp only [h0, h1, h2, h3, h4, h5, and_self, if_true, if_false, and_false, false_and]
     simp only [h0, h1, h2, h3, h4, and_self, if_true, if_false, and_false, false_and]
    simp only [h0, h1, h2, h3, and_self, if_true, if_false, and_false, false_and]
   simp only [h0, h1, h2, and_self, if_true, if_false, and_false, false_and]
  simp only [h0, h1, and_self, if_true, if_false, and_false, false_and]
 simp only [h0, and_self, if_true, if_false, and_false, false_and]
theorem ref_sizes (k : Nat) (c0 c1 c2 c3 c4 c5 c6 c7 c8 : Int) : catchmentref21_Check.f (k + 9) c0 c1 c2 c3 c4 c5 c6 c7 c8 = some (if sizesOk c0 c1 c2 c3 c4 c5 c6 c7 c8 = true then 0 else 2) := by
 have j2 : ∀ (n : Nat) (b : Bool), catchmentref21_Check.j2 (n + 1) b c0 c1 c2 c3 c4 c5 c6 c7 c8 = some (if b = true ∨ c6 < 2 ∨ c6 > 4096 ∨ c7 < 0 ∨ c7 > 1000 ∨ c8 < 1 ∨ c8 > 1024 then 2 else 0) := by
  intro n b
  rw [catchmentref21_Check.j2]
  cases b
  ·simp only [Bool.false_eq_true, if_false, false_or]
   by_cases h1 : c6 < 2
   ·simp [h1]
   by_cases h2 : c6 > 4096
   ·simp [h1, h2]
   by_cases h3 : c7 < 0
   ·simp [h1, h2, h3]
   by_cases h4 : c7 > 1000
   ·simp [h1, h2, h3, h4]
   by_cases h5 : c8 < 1
   ·simp [h1, h2, h3, h4, h5]
   by_cases h6 : c8 > 1024 <;> simp [h1, h2, h3, h4, h5, h6]
  simp
 have j1 : ∀ (n : Nat) (b : Bool), catchmentref21_Check.j1 (n + 2) b c0 c1 c2 c3 c4 c5 c6 c7 c8 = some (if b = true ∨ c4 < 4 ∨ c4 > 256 ∨ c5 < 2 ∨ c5 > c4 ∨ c6 < 2 ∨ c6 > 4096 ∨ c7 < 0 ∨ c7 > 1000 ∨ c8 < 1 ∨ c8 > 1024 then 2 else 0) := by
  intro n b
  rw [catchmentref21_Check.j1]
  simp only [j2]
  cases b
  ·simp only [Bool.false_eq_true, if_false, false_or]
   by_cases h1 : c4 < 4
   ·simp [h1]
   by_cases h2 : c4 > 256
   ·simp [h1, h2]
   by_cases h3 : c5 < 2
   ·simp [h1, h2, h3]
   simp [h1, h2, h3]
  simp
 have j0 : ∀ (n : Nat) (b : Bool), catchmentref21_Check.j0 (n + 3) b c0 c1 c2 c3 c4 c5 c6 c7 c8 = some (if b = true ∨ c2 < 4 ∨ c2 > 64 ∨ c3 < 0 ∨ c3 > 1048576 ∨ c4 < 4 ∨ c4 > 256 ∨ c5 < 2 ∨ c5 > c4 ∨ c6 < 2 ∨ c6 > 4096 ∨ c7 < 0 ∨ c7 > 1000 ∨ c8 < 1 ∨ c8 > 1024 then 2 else 0) := by
  intro n b
  rw [catchmentref21_Check.j0]
  simp only [j1]
  cases b
  ·simp only [Bool.false_eq_true, if_false, false_or]
   by_cases h1 : c2 < 4
   ·simp [h1]
   by_cases h2 : c2 > 64
   ·simp [h1, h2]
   by_cases h3 : c3 < 0
   ·simp [h1, h2, h3]
   simp [h1, h2, h3]
  simp
 have e : catchmentref21_Check.f (k + 9) c0 c1 c2 c3 c4 c5 c6 c7 c8 = some (if c0 < 1 ∨ c0 > 256 ∨ c1 < 8 ∨ c1 > 4096 ∨ c2 < 4 ∨ c2 > 64 ∨ c3 < 0 ∨ c3 > 1048576 ∨ c4 < 4 ∨ c4 > 256 ∨ c5 < 2 ∨ c5 > c4 ∨ c6 < 2 ∨ c6 > 4096 ∨ c7 < 0 ∨ c7 > 1000 ∨ c8 < 1 ∨ c8 > 1024 then 2 else 0) := by
  unfold catchmentref21_Check.f
  rw [j0 (k + 6), j0 (k + 6)]
  by_cases h1 : c0 < 1
  ·simp [h1]
  by_cases h2 : c0 > 256
  ·simp [h1, h2]
  by_cases h3 : c1 < 8
  ·simp [h1, h2, h3]
  simp [h1, h2, h3]
 rw [e]
 congr 1
 unfold sizesOk
 by_cases h : (1 ≤ c0 ∧ c0 ≤ 256) ∧ (8 ≤ c1 ∧ c1 ≤ 4096) ∧ (4 ≤ c2 ∧ c2 ≤ 64) ∧ (0 ≤ c3 ∧ c3 ≤ 1048576) ∧ (4 ≤ c4 ∧ c4 ≤ 256) ∧ (2 ≤ c5 ∧ c5 ≤ c4) ∧ (2 ≤ c6 ∧ c6 ≤ 4096) ∧ (0 ≤ c7 ∧ c7 ≤ 1000) ∧ (1 ≤ c8 ∧ c8 ≤ 1024)
 ·rw [if_neg (by omega), if_pos (by simpa using h)]
 rw [if_pos (by omega), if_neg (by simpa using h)]
section
variable (c0 c1 c2 c3 c4 c5 c6 c7 c8 : Int)
def tailV (k : Int) (y t : ByteArray) (n : Int) : Int := if k = 3 ∨ k = 4 then (if (y.size : Int) > c0 ∨ (t.size : Int) > c0 then 6 else if rr y t = false then 7 else if k = 3 ∧ ¬ (1 ≤ n ∧ n ≤ c8) then 4 else 0) else 0
theorem ref_tail (m : Nat) (k : Int) (y t : ByteArray) (n : Int) (b : List M) (z : Bool) (hz : z = !decide (k = 3 ∨ k = 4)) :
  catchmentref21_Ask.j5 (m + 3) z k y t n b c0 c1 c2 c3 c4 c5 c6 c7 c8 = some (tailV c0 c8 k y t n) := by
 have j7 : ∀ q : Bool, q = !rr y t → catchmentref21_Ask.j7 (m + 1) q k y t n b c0 c1 c2 c3 c4 c5 c6 c7 c8 = some (if rr y t = false then 7 else if k = 3 ∧ ¬ (1 ≤ n ∧ n ≤ c8) then 4 else 0) := by
  intro q hq
  rw [catchmentref21_Ask.j7]
  cases hr : rr y t
  ·rw [hr] at hq; subst hq; simp
  rw [hr] at hq; subst hq
  simp only [Bool.not_true, Bool.false_eq_true, if_false, Bool.true_eq_false]
  by_cases k3 : k = 3
  ·rw [if_pos k3]
   by_cases h1 : n < 1
   ·rw [if_pos h1, if_pos ⟨k3, by omega⟩]
   rw [if_neg h1]
   by_cases h2 : n > c8
   ·rw [if_pos h2, if_pos ⟨k3, by omega⟩]
   rw [if_neg h2, if_neg (by omega)]
  rw [if_neg k3]; simp [k3]
 have j6 : ∀ q : Bool, catchmentref21_Ask.j6 (m + 2) q k y t n b c0 c1 c2 c3 c4 c5 c6 c7 c8 = some (if q = true then 6 else if rr y t = false then 7 else if k = 3 ∧ ¬ (1 ≤ n ∧ n ≤ c8) then 4 else 0) := by
  intro q
  rw [catchmentref21_Ask.j6]
  cases q
  ·simp only [Bool.false_eq_true, if_false]
   by_cases h : t.toList = []
   ·rw [if_pos h]; exact j7 _ (by simp [rr, emp, h])
   rw [if_neg h]; exact j7 _ (by simp [rr, emp, lt, h])
  simp
 rw [catchmentref21_Ask.j5]
 unfold tailV
 cases z
 ·simp only [Bool.false_eq_true, if_false]
  rw [if_pos (show k = 3 ∨ k = 4 from Classical.or_iff_not_imp_left.2 (by simpa using hz.symm))]
  by_cases h1 : (y.size : Int) > c0
  ·rw [if_pos h1, if_pos (.inl h1), j6]; simp
  rw [if_neg h1, j6]
  by_cases h2 : (t.size : Int) > c0
  ·simp [h2]
  simp [h1, h2]
 simp only [if_true]
 rw [if_neg (show ¬ (k = 3 ∨ k = 4) from by simpa using hz.symm)]
theorem ref_l1 (k : Int) (y t : ByteArray) (n : Int) (L : List M) (hL : ∀ x ∈ L, okM x) (hLn : L.length ≤ 140737488351232) : ∀ (l : List M) (i N : Nat), L.drop i = l → i ≤ L.length →
  catchmentref21_Ask.l1 (N + 30 + l.length) i k y t n L c0 c1 c2 c3 c4 c5 c6 c7 c8 = some (if firstErr c0 c1 l = 0 then tailV c0 c8 k y t n else firstErr c0 c1 l) := by
 intro l
 induction l with
 | nil =>
  intro i N hd hi
  have := drop_nil_le hd
  rw [List.length_nil, Nat.add_zero, show N + 30 = (N + 29) + 1 from rfl, catchmentref21_Ask.l1, if_neg (by omega)]
  simp only [firstErr, if_true]
  by_cases k3 : k = 3
  ·rw [if_pos k3]
   exact ref_tail c0 c1 c2 c3 c4 c5 c6 c7 c8 (N + 26) k y t n L false (by simp [k3])
  rw [if_neg k3]
  exact ref_tail c0 c1 c2 c3 c4 c5 c6 c7 c8 (N + 26) k y t n L _ (by rw [Bool.eq_iff_iff]; simp [k3])
 | cons x l ih =>
  intro i N hd hi
  obtain ⟨hlt, hrd, hd2, hx⟩ := at_drop hd
  rw [show N + 30 + (x :: l).length = (N + 30 + l.length) + 1 from by simp; omega, catchmentref21_Ask.l1]
  rw [if_pos (by omega), if_pos (by omega), hrd, IntWalk.wrap64_in _ (by omega)]
  have hc := ref_Check_eq (N + 11 + l.length) x.f0 x.f1 x.f2 x.f3 x.f4 x.f5 c0 c1 c2 c3 c4 c5 c6 c7 c8
  rw [show N + 11 + l.length + 19 = N + 30 + l.length from by omega] at hc
  rw [hc]
  simp only [Option.bind_some, firstErr]
  show (if chkM c0 c1 x = 0 then _ else some (chkM c0 c1 x)) = _
  by_cases h0 : chkM c0 c1 x = 0
  ·rw [if_pos h0]
   simp only [if_pos h0]
   have := ih (i + 1) N hd2 (by omega)
   rw [show ((i + 1 : Nat) : Int) = (i : Int) + 1 from by omega] at this
   exact this
  rw [if_neg h0]
  simp only [if_neg h0]
theorem ref_l0 (k : Int) (y t : ByteArray) (n : Int) (L : List M) (hL : ∀ x ∈ L, okM x) (hLn : L.length ≤ 140737488351232) : ∀ (l : List M) (i N : Nat), L.drop i = l → i ≤ L.length →
  catchmentref21_Ask.l0 (N + 31 + L.length + l.length) i k y t n L c0 c1 c2 c3 c4 c5 c6 c7 c8 = some (if seqOk l = true then (if firstErr c0 c1 L = 0 then tailV c0 c8 k y t n else firstErr c0 c1 L) else 3) := by
 intro l
 induction l with
 | nil =>
  intro i N hd hi
  have := drop_nil_le hd
  rw [List.length_nil, Nat.add_zero, show N + 31 + L.length = (N + 30 + L.length) + 1 from by omega, catchmentref21_Ask.l0, if_neg (by omega)]
  have h1 := ref_l1 c0 c1 c2 c3 c4 c5 c6 c7 c8 k y t n L hL hLn L 0 N rfl (by omega)
  exact h1
 | cons x l ih =>
  intro i N hd hi
  obtain ⟨hlt, hrd, hd2, hx⟩ := at_drop hd
  rw [show N + 31 + L.length + (x :: l).length = (N + 31 + L.length + l.length) + 1 from by simp; omega, catchmentref21_Ask.l0]
  rw [if_pos (by omega), if_pos (by omega), hrd, IntWalk.wrap64_in _ (by omega)]
  by_cases h0 : x.f1 = 0
  ·rw [if_pos h0]
   have := ih (i + 1) N hd2 (by omega)
   rw [show ((i + 1 : Nat) : Int) = (i : Int) + 1 from by omega] at this
   rw [this]
   simp [seqOk, h0]
  rw [if_neg h0]
  simp [seqOk, h0]
theorem ref_zero (k : Int) (y t : ByteArray) (n : Int) (b : List M) (hk : 1 ≤ k) (hk6 : k ≤ 6) : catchmentref21_zero.f k y t n b = some (!spareBad k y t n b) := by
 have h : k = 1 ∨ k = 2 ∨ k = 3 ∨ k = 4 ∨ k = 5 ∨ k = 6 := by omega
 unfold catchmentref21_zero.f
 have hb : ((b.length : Int) == 0) = decide (b = []) := by
  cases b with
  | nil => rfl
  | cons a ws => simp; omega
 simp only [hb, emp_toList]
 rcases h with rfl | rfl | rfl | rfl | rfl | rfl <;> cases hy : emp y <;> cases ht : emp t <;> by_cases hn : n = 0 <;> simp [spareBad, hy, ht, hn]
theorem ref_Ask_eq (N : Nat) (k : Int) (y t : ByteArray) (n : Int) (b : List M) (hL : ∀ x ∈ b, okM x) (hLn : b.length ≤ 140737488351232) :
  catchmentref21_Ask.f (N + 40 + b.length + b.length) k y t n b c0 c1 c2 c3 c4 c5 c6 c7 c8 = some (askV k y t n b c0 c1 c8) := by
 obtain ⟨m, hm⟩ : ∃ m, N + 40 + b.length + b.length = (m + 31 + b.length + b.length) + 3 := ⟨N + 6, by omega⟩
 rw [hm]
 have j2 : ∀ q : Bool, catchmentref21_Ask.j2 (m + 31 + b.length + b.length + 1) q k y t n b c0 c1 c2 c3 c4 c5 c6 c7 c8 = some (if q = true then 8 else if seqOk b = true then (if firstErr c0 c1 b = 0 then tailV c0 c8 k y t n else firstErr c0 c1 b) else 3) := by
  intro q
  rw [catchmentref21_Ask.j2]
  cases q
  ·simp only [Bool.false_eq_true, if_false]
   exact ref_l0 c0 c1 c2 c3 c4 c5 c6 c7 c8 k y t n b hL hLn b 0 m rfl (by omega)
  simp
 have j1 : ∀ q : Bool, catchmentref21_Ask.j1 (m + 31 + b.length + b.length + 2) q k y t n b c0 c1 c2 c3 c4 c5 c6 c7 c8 = some (if q = true then 6 else if k = 2 ∧ (b.length : Int) > 1024 then 8 else if seqOk b = true then (if firstErr c0 c1 b = 0 then tailV c0 c8 k y t n else firstErr c0 c1 b) else 3) := by
  intro q
  rw [catchmentref21_Ask.j1]
  simp only [j2]
  cases q
  ·by_cases k2 : k = 2
   ·by_cases h : (b.length : Int) > 1024 <;> simp [k2, h]
   simp [k2]
  simp
 have j0 : ∀ q : Bool, catchmentref21_Ask.j0 (m + 31 + b.length + b.length + 3) q k y t n b c0 c1 c2 c3 c4 c5 c6 c7 c8 = some (if q = true then 3 else if k = 1 ∧ (emp y = true ∨ (y.size : Int) > c0) then 6 else if k = 2 ∧ (b.length : Int) > 1024 then 8 else if seqOk b = true then (if firstErr c0 c1 b = 0 then tailV c0 c8 k y t n else firstErr c0 c1 b) else 3) := by
  intro q
  rw [catchmentref21_Ask.j0]
  simp only [j1, emp_toList]
  cases q
  ·by_cases k1 : k = 1
   ·by_cases h : emp y = true
    ·simp [k1, h]
    by_cases h2 : (y.size : Int) > c0 <;> simp [k1, h, h2]
   simp [k1]
  simp
 unfold catchmentref21_Ask.f askV
 by_cases h1 : k < 1
 ·rw [if_pos h1, if_pos (.inl h1), j0]; simp
 rw [if_neg h1]
 by_cases h2 : k > 6
 ·rw [if_pos h2, if_pos (.inr (.inl h2)), j0]; simp
 rw [if_neg h2, ref_zero k y t n b (by omega) (by omega)]
 simp only [Option.bind_some, j0]
 cases hs : spareBad k y t n b with
 | true => simp
 | false =>
  have hsz := size_emp (y := y)
  simp only [h1, h2, Bool.not_false, Bool.not_true, Bool.false_eq_true, if_false, or_self]
  by_cases k1 : k = 1
  ·have hb : b = [] := by
    by_cases hb : b = []
    ·exact hb
    simp [spareBad, k1, hb] at hs
   subst hb
   simp only [k1, true_and, if_true, seqOk, List.all_nil, firstErr, tailV]
   by_cases h : 1 ≤ (y.size : Int) ∧ (y.size : Int) ≤ c0
   ·rw [if_pos h, if_neg (by rw [hsz]; omega)]
    simp
   rw [if_neg h, if_pos (by rw [hsz]; omega)]
  by_cases k2 : k = 2
  ·simp only [k1, k2, true_and, false_and, if_true, if_false, batchV]
   by_cases h3 : (b.length : Int) > 1024
   ·simp [h3]
   simp only [h3, if_false]
   by_cases h4 : seqOk b = true
   ·simp only [h4, if_true]
    by_cases h5 : firstErr c0 c1 b = 0
    ·simp [h5, tailV, k2]
    simp [h5]
   simp [h4]
  have hb : b = [] := by
   by_cases hb : b = []
   ·exact hb
   simp [spareBad, k1, k2, hb] at hs
  subst hb
  simp [k1, k2, seqOk, firstErr, tailV]
end
theorem wf_u8 {x : Int} (h : (Lit.int .u8 x).wf = true) : 0 ≤ x ∧ x ≤ 255 := by
 simp [Lit.wf, IntKind.min, IntKind.max, IntKind.signed, IntKind.bits] at h
 omega
end Go.Proofs.Ytljnlnbopohghaa.Pm
end
section
namespace Go.Proofs.Ytljnlnbopohghaa.Mdl
open Go.RowKit Go.Shelf Go.Proofs.YtljnlnbopohghaaW.PrintWords Go.Proofs.YtljnlnbopohghaaW.PrintLast Go.Proofs.YtljnlnbopohghaaW.PrintMore Go.Proofs.Ytljnlnbopohghaa.Own Go.Proofs.Ytljnlnbopohghaa.Ord Go.Proofs.Ytljnlnbopohghaa Go.Proofs.Ytljnlnbopohghaa.P
open Go.Proofs.Ytljnlnbopohghaa.OrdSm (Hold hold_get)
set_option maxHeartbeats 2000000
set_option maxRecDepth 100000
structure St where (s : Int) (L : Row) (T : Int → List Cu)
structure Oq where (k : Int) (y t : ByteArray) (n : Int) (b : List Ms)
def doV (c : Cf) (n : Int) (s : St) (who : Int) (o : Oq) : Rp × St :=
 if who < 1 ∨ who > n then (⟨2, false, e0, [], 0, false⟩, s)
 else if ¬ Pm.askV o.k o.y o.t o.n o.b c.f0 c.f1 c.f8 = 0 then (⟨Pm.askV o.k o.y o.t o.n o.b c.f0 c.f1 c.f8, false, e0, [], 0, false⟩, s)
 else if o.k = 1 then (⟨0, (gotL s.L o.y).2, (gotL s.L o.y).1, [], 0, false⟩, s)
 else if o.k = 2 then (⟨0, false, e0, [], 0, false⟩, ⟨s.s + 1, o.b.foldl sendV s.L, s.T⟩)
 else if o.k = 3 then (⟨0, false, e0, (someM o.y o.t s.L o.n).map toE, 0, false⟩, s)
 else if o.k = 4 then (⟨(openV (s.T who) o.y o.t).2.2, false, e0, [], (openV (s.T who) o.y o.t).2.1, false⟩, ⟨s.s, s.L, setT s.T who (openV (s.T who) o.y o.t).1⟩)
 else if o.k = 5 then ((nextV c.f8 s.L (s.T who) o.n).1, ⟨s.s, s.L, setT s.T who (nextV c.f8 s.L (s.T who) o.n).2⟩)
 else (⟨(closeC (s.T who) o.n).2, false, e0, [], 0, false⟩, ⟨s.s, s.L, setT s.T who (closeC (s.T who) o.n).1⟩)
theorem next_any {G : Nat → Nat} {w : World} {m : Nat} {c : Cf} {n sends : Int} {L : Row} {T : Int → List Cu} {N : Nat} (h : Mw G w m c n sends L T N) (who : Int) (h1 : 1 ≤ who) (h2 : who ≤ 1000000) (hN : N + 1 < 1000000) (k : Int) (hk : (Lit.int .i64 k).wf = true) (hl : L.length ≤ 1000000) (hsz : ∀ x ∈ L, x.1.size ≤ 140737488351232) :
  Calls Try.prog 59 #[.pointer (some ⟨m, 0, none⟩), .int .i64 who, .int .i64 k] w (Md G w m c n (N + 2) (nextV c.f8 L (T who) k).1 sends L (setT T who (nextV c.f8 L (T who) k).2)) := by
 unfold nextV
 cases hF : tabF (T who) k with
 | none =>
  simp only
  rw [setT_self]
  refine (next_none h who h1 h2 (by omega) k hk hF).mono ?_
  rintro e w' ⟨v, rfl, G', e1, hw, f, hr⟩
  exact ⟨v, rfl, G', e1, hw.mono (by omega), f, hr⟩
 | some x =>
  obtain ⟨f, t, d⟩ := x
  exact next_some h who h1 h2 hN k hk hl hsz f t d hF _ rfl
abbrev objO (o : Oq) (A : Option Addr) (cap : Nat) : Obj := .cells #[.int .u8 o.k, .string o.y, .string o.t, .int .i64 o.n, .slice A o.b.length cap] 56 (0, 0)
abbrev repE (e : Int) : Obj := .cells #[.int .i64 e, .bool false, .string ⟨#[]⟩, .slice none 0 0, .int .i64 0, .bool false] 59 (0, 0)
theorem rep_fin {fn : Func} {R : Ending → World → Prop} {a : Act} {W : World} {D : Nat} {p : Tmp} {v0 v1 v2 v3 v4 v5 : Value} (hfn : fn.results = #[.cell p 59]) (hp : a.tmps.getD p undef = .pointer (some ⟨D, 0, none⟩)) (hd : a.defers = []) (hb : W.heap[D]? = some (.cells #[v0, v1, v2, v3, v4, v5] 59 (0, 0)))
  (h : R (.returned (.agg #[v0, v1, v2, v3, v4, v5])) W) : bodyPost Try.prog fn R .ret a W :=
 bodyPost_ret (results_c hfn a.tmps W D 59 _ (0, 0) _ hp hb Try.underlying59 rfl (by kernel_rfl)) hd h
theorem do_bad {G : Nat → Nat} {w : World} {m : Nat} {c : Cf} {n sends : Int} {L : Row} {T : Int → List Cu} {N : Nat} (h : Mw G w m c n sends L T N) (who : Int) (hw : who < 1 ∨ who > n) (o : Oq) {A : Option Addr} {cap : Nat} :
  Calls Try.prog 23 #[.pointer (some ⟨m, 0, none⟩), .int .i64 who, .agg #[.int .u8 o.k, .string o.y, .string o.t, .int .i64 o.n, .slice A o.b.length cap]] w (Md G w m c n N ⟨2, false, e0, [], 0, false⟩ sends L T) := by
 have hup := Try.underlying59
 have huo := Try.underlying56
 have hum := Try.underlying122
 obtain ⟨hlt, em, cb, nn, F, B, hx⟩ := h
 obtain ⟨ok, oy, ot, on, ob⟩ := o
 have hB0 : Below w.heap.size w ((w.alloc (objO ⟨ok, oy, ot, on, ob⟩ A cap)).alloc rep0) := below_alloc (below_alloc (Below.refl _ _) _) _
 have bD : ((w.alloc (objO ⟨ok, oy, ot, on, ob⟩ A cap)).alloc rep0).heap[w.heap.size + 1]? = some rep0 := by have := blk_new (w.alloc (objO ⟨ok, oy, ot, on, ob⟩ A cap)) rep0; rwa [World.size_alloc] at this
 have x9 := blk_cell (blk_below hx.hm hB0) 9
 simp at x9
 have y0 := blk_cell bD 0
 have y1 := blk_cell bD 1
 have y2 := blk_cell bD 2
 have y3 := blk_cell bD 3
 have y4 := blk_cell bD 4
 have y5 := blk_cell bD 5
 have z0 := blk_frozen bD 0
 have z1 := blk_frozen bD 1
 have z2 := blk_frozen bD 2
 have z3 := blk_frozen bD 3
 have z4 := blk_frozen bD 4
 have z5 := blk_frozen bD 5
 simp at y0 y1 y2 y3 y4 y5
 have hA := aK_ (And.intro hx (And.intro hB0 bD))
 clear hx hB0 bD
 go_enter Try.func23, Try.ntmps23
 have hn0 : ∀ j, w.heap.size ≤ j → G j = 0 := fun j hj => by
  cases hg : G j with
  | zero => rfl
  | succ q => have := hlt j (by rw [hg]; omega); omega
 have fin : ∀ (a : Act) (w2 : World), Below w.heap.size w w2 → w2.heap[w.heap.size + 1]? = some (repE 2) → a.tmps.getD 6 undef = .pointer (some ⟨w.heap.size + 1, 0, none⟩) → a.defers = [] → bodyPost Try.prog Try.f23 (Md G w m c n N ⟨2, false, e0, [], 0, false⟩ sends L T) .ret a w2 := by
  intro a w2 hB0 bD ha hd
  obtain ⟨hx, _, _⟩ := hA.out
  refine rep_fin rfl ha hd bD ⟨_, rfl, G, fun j hj => rfl, ⟨fun j hj => ?_, em, cb, nn, F, B, hx.frm (.of_below hB0)⟩, .of_below hB0, RepV.bare _ _ _ _ _ _ _⟩
  have := hlt j hj
  have := hB0.size; omega
 have hE : Below w.heap.size w ((w.alloc (objO ⟨ok, oy, ot, on, ob⟩ A cap)).alloc (repE 2)) := below_alloc (below_alloc (Below.refl _ _) _) _
 have bE : ((w.alloc (objO ⟨ok, oy, ot, on, ob⟩ A cap)).alloc (repE 2)).heap[w.heap.size + 1]? = some (repE 2) := by have := blk_new (w.alloc (objO ⟨ok, oy, ot, on, ob⟩ A cap)) (repE 2); rwa [World.size_alloc] at this
 have hA2 := aK_ (And.intro hE bE)
 clear hE bE
 by_cases hw1 : who < 1
 ·have d0 := decide_eq_true hw1
  go_wp2
  exact fin _ _ hA2.out.1 hA2.out.2 rfl rfl
 have hw2 : who > n := by omega
 have d0 := decide_eq_false (show ¬ who < 1 by omega)
 have d1 := decide_eq_true hw2
 go_wp2
 exact fin _ _ hA2.out.1 hA2.out.2 rfl rfl
theorem g0 {G : Nat → Nat} {w : World} (hlt : ∀ k, G k ≠ 0 → k < w.heap.size) (j : Nat) (hj : w.heap.size ≤ j) : G j = 0 := by
 cases hg : G j with
 | zero => rfl
 | succ q => have := hlt j (by rw [hg]; omega); omega
theorem md_end {G G' : Nat → Nat} {w W : World} {m : Nat} {c : Cf} {n sends : Int} {L : Row} {T : Int → List Cu} {N D : Nat} {fn : Func} {a : Act} {p : Tmp} {r : Rp} {a0 a1 a2 a3 a4 a5 v0 v1 v2 v3 v4 v5 : Value} (hG : ∀ k, k < w.heap.size → G' k = G k) (hM : Mw G' W m c n sends L T N) (f : It.FrM (fun k => G k ≠ 0) w W) (hD : w.heap.size ≤ D) (hD0 : G' D = 0)
  (hfn : fn.results = #[.cell p 59]) (hp : a.tmps.getD p undef = .pointer (some ⟨D, 0, none⟩)) (hd : a.defers = []) (hb : W.heap[D]? = some (.cells #[a0, a1, a2, a3, a4, a5] 59 (0, 0)))
  (hV : ∀ W', It.FrM (fun j => j = D) W W' → W'.heap.size = W.heap.size → RepV (fun k => w.heap.size ≤ k ∧ k < W'.heap.size ∧ G' k = 0) W' r (.agg #[v0, v1, v2, v3, v4, v5])) :
  bodyPost Try.prog fn (Md G w m c n N r sends L T) .ret a (setRep W D v0 v1 v2 v3 v4 v5) := by
 refine rep_end hfn hp hd hb (fun W' hWs hWf => ?_)
 exact ⟨_, rfl, G', hG, hM.frm (hWf _ _ (It.FrM.refl _ _) (.inl hD0)), hWf _ _ f (.inr hD), hV W' (hWf _ _ (It.FrM.refl _ _) (.inl rfl)) hWs⟩
theorem do_err {G : Nat → Nat} {w : World} {m : Nat} {c : Cf} {n sends : Int} {L : Row} {T : Int → List Cu} {N : Nat} (h : Mw G w m c n sends L T N) (who : Int) (hw : ¬ (who < 1 ∨ who > n)) (o : Oq) {A : Option Addr} {cap : Nat} (hC : Kd.C P.k117 w A o.b.length o.b) (hcap : o.b.length ≤ cap) (ka : Nat) (e : Int) (hask : room_Ask.f ka o.k o.y o.t o.n o.b c.f0 c.f1 c.f2 c.f3 c.f4 c.f5 c.f6 c.f7 c.f8 = some e) (he : ¬ e = 0) :
  Calls Try.prog 23 #[.pointer (some ⟨m, 0, none⟩), .int .i64 who, .agg #[.int .u8 o.k, .string o.y, .string o.t, .int .i64 o.n, .slice A o.b.length cap]] w (Md G w m c n N ⟨e, false, e0, [], 0, false⟩ sends L T) := by
 have hup := Try.underlying59
 have huo := Try.underlying56
 have hum := Try.underlying122
 have huc := Try.underlying47
 have hur := Try.underlying29
 obtain ⟨hlt, em, cb, nn, F, B, hx⟩ := h
 obtain ⟨ok, oy, ot, on, ob⟩ := o
 have hB0 : Below w.heap.size w ((w.alloc (objO ⟨ok, oy, ot, on, ob⟩ A cap)).alloc rep0) := below_alloc (below_alloc (Below.refl _ _) _) _
 have bO : ((w.alloc (objO ⟨ok, oy, ot, on, ob⟩ A cap)).alloc rep0).heap[w.heap.size]? = some (objO ⟨ok, oy, ot, on, ob⟩ A cap) := blk_alloc (blk_new w _) _
 have bD : ((w.alloc (objO ⟨ok, oy, ot, on, ob⟩ A cap)).alloc rep0).heap[w.heap.size + 1]? = some rep0 := by have := blk_new (w.alloc (objO ⟨ok, oy, ot, on, ob⟩ A cap)) rep0; rwa [World.size_alloc] at this
 have hsz2 : ((w.alloc (objO ⟨ok, oy, ot, on, ob⟩ A cap)).alloc rep0).heap.size = w.heap.size + 2 := by simp
 have x9 := blk_cell (blk_below hx.hm hB0) 9
 simp at x9
 have d0 := decide_eq_false (show ¬ who < 1 by omega)
 have d1 := decide_eq_false (show ¬ who > n by omega)
 have hA := aK_ (And.intro hx (And.intro hB0 (And.intro bO (And.intro bD (And.intro hC (And.intro hcap (And.intro hsz2 hask)))))))
 clear hx hB0 bO bD hC hcap hsz2 hask
 go_enter Try.func23, Try.ntmps23
 go_wp2
 obtain ⟨hx, hB0, bO, bD, hC, hcap, hsz2, hask⟩ := hA.out
 generalize (w.alloc (objO ⟨ok, oy, ot, on, ob⟩ A cap)).alloc rep0 = w2 at hB0 bO bD hsz2 ⊢
 have hB0d := below_drew1 hB0
 have hm2 : w2.drew.heap[m]? = _ := blk_below hx.hm hB0d
 have bO2 : w2.drew.heap[w.heap.size]? = _ := bO
 have o0 := blk_cell bO2 0
 have o1 := blk_cell bO2 1
 have o2 := blk_cell bO2 2
 have o3 := blk_cell bO2 3
 have o4 := blk_cell bO2 4
 have c0 := blk_cell hm2 0
 have c1 := blk_cell hm2 1
 have c2 := blk_cell hm2 2
 have c3 := blk_cell hm2 3
 have c4 := blk_cell hm2 4
 have c5 := blk_cell hm2 5
 have c6 := blk_cell hm2 6
 have c7 := blk_cell hm2 7
 have c8 := blk_cell hm2 8
 simp at o0 o1 o2 o3 o4 c0 c1 c2 c3 c4 c5 c6 c7 c8
 have AK := room_Ask.calls ka ok oy ot on A cap ob c.f0 c.f1 c.f2 c.f3 c.f4 c.f5 c.f6 c.f7 c.f8 e w2.drew (Kd.C_below hC hB0d) hcap hask
 have AK2 := AK.mono (R' := fun x w' => x = .returned (.int .i64 e) ∧ (w'.cell? ⟨w.heap.size, 0, none⟩ = some (.int .u8 ok) ∧ w'.cell? ⟨w.heap.size, 1, none⟩ = some (.string oy) ∧ w'.cell? ⟨w.heap.size, 2, none⟩ = some (.string ot) ∧ w'.cell? ⟨w.heap.size, 3, none⟩ = some (.int .i64 on) ∧ w'.cell? ⟨w.heap.size, 4, none⟩ = some (.slice A ob.length cap) ∧ w'.cell? ⟨m, 0, none⟩ = some (.int .i64 c.f0) ∧ w'.cell? ⟨m, 1, none⟩ = some (.int .i64 c.f1) ∧ w'.cell? ⟨m, 2, none⟩ = some (.int .i64 c.f2) ∧ w'.cell? ⟨m, 3, none⟩ = some (.int .i64 c.f3) ∧ w'.cell? ⟨m, 4, none⟩ = some (.int .i64 c.f4) ∧ w'.cell? ⟨m, 5, none⟩ = some (.int .i64 c.f5) ∧ w'.cell? ⟨m, 6, none⟩ = some (.int .i64 c.f6) ∧ w'.cell? ⟨m, 7, none⟩ = some (.int .i64 c.f7) ∧ w'.cell? ⟨m, 8, none⟩ = some (.int .i64 c.f8)) ∧ Aside0 (Below w.heap.size w w' ∧ w2.heap.size ≤ w'.heap.size ∧ w'.heap[w.heap.size + 1]? = some rep0 ∧ w'.heap[w.heap.size]? = some (objO ⟨ok, oy, ot, on, ob⟩ A cap))) (by
  rintro x w' ⟨rfl, hb⟩
  have hm5 := blk_below hm2 hb
  have bO5 := blk_below bO2 hb
  have o0 := blk_cell bO5 0
  have o1 := blk_cell bO5 1
  have o2 := blk_cell bO5 2
  have o3 := blk_cell bO5 3
  have o4 := blk_cell bO5 4
  have c0 := blk_cell hm5 0
  have c1 := blk_cell hm5 1
  have c2 := blk_cell hm5 2
  have c3 := blk_cell hm5 3
  have c4 := blk_cell hm5 4
  have c5 := blk_cell hm5 5
  have c6 := blk_cell hm5 6
  have c7 := blk_cell hm5 7
  have c8 := blk_cell hm5 8
  simp at o0 o1 o2 o3 o4 c0 c1 c2 c3 c4 c5 c6 c7 c8
  have bD5 := blk_below (show w2.drew.heap[w.heap.size + 1]? = some rep0 from bD) hb
  exact ⟨rfl, ⟨o0, o1, o2, o3, o4, c0, c1, c2, c3, c4, c5, c6, c7, c8⟩, ⟨below_then hB0d hB0d.size hb, hb.size, bD5, bO5⟩⟩)
 have hA2 := aK_ hsz2
 clear AK hB0d hm2 bO2 hx hB0 bO bD hC hcap hsz2 hask
 have q0 : (e == 0) = false := by simpa using he
 have q1 : decide (e = 0) = false := decide_eq_false he
 go_region_held3 (fun w' => w'.cell? ⟨w.heap.size, 0, none⟩ = some (.int .u8 ok) ∧ w'.cell? ⟨w.heap.size, 1, none⟩ = some (.string oy) ∧ w'.cell? ⟨w.heap.size, 2, none⟩ = some (.string ot) ∧ w'.cell? ⟨w.heap.size, 3, none⟩ = some (.int .i64 on) ∧ w'.cell? ⟨w.heap.size, 4, none⟩ = some (.slice A ob.length cap) ∧ w'.cell? ⟨m, 0, none⟩ = some (.int .i64 c.f0) ∧ w'.cell? ⟨m, 1, none⟩ = some (.int .i64 c.f1) ∧ w'.cell? ⟨m, 2, none⟩ = some (.int .i64 c.f2) ∧ w'.cell? ⟨m, 3, none⟩ = some (.int .i64 c.f3) ∧ w'.cell? ⟨m, 4, none⟩ = some (.int .i64 c.f4) ∧ w'.cell? ⟨m, 5, none⟩ = some (.int .i64 c.f5) ∧ w'.cell? ⟨m, 6, none⟩ = some (.int .i64 c.f6) ∧ w'.cell? ⟨m, 7, none⟩ = some (.int .i64 c.f7) ∧ w'.cell? ⟨m, 8, none⟩ = some (.int .i64 c.f8)) (first | exact ⟨by assumption, by assumption, by assumption, by assumption, by assumption, by assumption, by assumption, by assumption, by assumption, by assumption, by assumption, by assumption, by assumption, by assumption⟩ | exact ⟨o0, o1, o2, o3, o4, c0, c1, c2, c3, c4, c5, c6, c7, c8⟩)
   (first
    | (go_at_call 55; refine AK2.mono ?_; clear AK2; rintro x w5 ⟨rfl, ⟨y0, y1, y2, y3, y4, y5, y6, y7, y8, y9, y10, y11, y12, y13⟩, hA5⟩))
 clear o0 o1 o2 o3 o4 c0 c1 c2 c3 c4 c5 c6 c7 c8 y0 y1 y2 y3 y4 y5 y6 y7 y8 y9 y10 y11 y12 y13
 obtain ⟨hB5, hs5, bD5, bO5⟩ := hA5.out
 have y0 := blk_cell bD5 0
 have y1 := blk_cell bD5 1
 have y2 := blk_cell bD5 2
 have y3 := blk_cell bD5 3
 have y4 := blk_cell bD5 4
 have y5 := blk_cell bD5 5
 have q0 := blk_frozen bD5 0
 have q1 := blk_frozen bD5 1
 have q2 := blk_frozen bD5 2
 have q3 := blk_frozen bD5 3
 have q4 := blk_frozen bD5 4
 have q5 := blk_frozen bD5 5
 simp at y0 y1 y2 y3 y4 y5
 clear hB5 bO5 hs5 bD5
 go_wp2
 obtain ⟨hx, _, _, _, hC, hcap, _, _⟩ := hA.out
 obtain ⟨hB5, hs5, bD5, bO5⟩ := hA5.out
 exact md_end (fun _ _ => rfl) ⟨fun k hk => Nat.lt_of_lt_of_le (hlt k hk) hB5.size, em, cb, nn, F, B, hx.frm (.of_below hB5)⟩ (.of_below hB5) (by omega) (g0 hlt _ (by omega)) rfl rfl rfl bD5 (fun W' _ _ => RepV.bare _ _ _ _ _ _ _)
theorem do_get {G : Nat → Nat} {w : World} {m : Nat} {c : Cf} {n sends : Int} {L : Row} {T : Int → List Cu} {N : Nat} (h : Mw G w m c n sends L T N) (who : Int) (hw : ¬ (who < 1 ∨ who > n)) (o : Oq) {A : Option Addr} {cap : Nat} (hC : Kd.C P.k117 w A o.b.length o.b) (hcap : o.b.length ≤ cap) (ka : Nat) (e : Int) (hask : room_Ask.f ka o.k o.y o.t o.n o.b c.f0 c.f1 c.f2 c.f3 c.f4 c.f5 c.f6 c.f7 c.f8 = some e) (hk : o.k = 1) (he : e = 0) :
  Calls Try.prog 23 #[.pointer (some ⟨m, 0, none⟩), .int .i64 who, .agg #[.int .u8 o.k, .string o.y, .string o.t, .int .i64 o.n, .slice A o.b.length cap]] w (Md G w m c n N ⟨0, (gotL L o.y).2, (gotL L o.y).1, [], 0, false⟩ sends L T) := by
 have hup := Try.underlying59
 have huo := Try.underlying56
 have hum := Try.underlying122
 have huc := Try.underlying47
 have hur := Try.underlying29
 obtain ⟨hlt, em, cb, nn, F, B, hx⟩ := h
 obtain ⟨ok, oy, ot, on, ob⟩ := o
 have hk : ok = 1 := hk
 subst hk
 subst he
 have q0 : (((0 : Int)) == 0) = true := rfl
 have hB0 : Below w.heap.size w ((w.alloc (objO ⟨1, oy, ot, on, ob⟩ A cap)).alloc rep0) := below_alloc (below_alloc (Below.refl _ _) _) _
 have bO : ((w.alloc (objO ⟨1, oy, ot, on, ob⟩ A cap)).alloc rep0).heap[w.heap.size]? = some (objO ⟨1, oy, ot, on, ob⟩ A cap) := blk_alloc (blk_new w _) _
 have bD : ((w.alloc (objO ⟨1, oy, ot, on, ob⟩ A cap)).alloc rep0).heap[w.heap.size + 1]? = some rep0 := by have := blk_new (w.alloc (objO ⟨1, oy, ot, on, ob⟩ A cap)) rep0; rwa [World.size_alloc] at this
 have hsz2 : ((w.alloc (objO ⟨1, oy, ot, on, ob⟩ A cap)).alloc rep0).heap.size = w.heap.size + 2 := by simp
 have x9 := blk_cell (blk_below hx.hm hB0) 9
 simp at x9
 have d0 := decide_eq_false (show ¬ who < 1 by omega)
 have d1 := decide_eq_false (show ¬ who > n by omega)
 have hA := aK_ (And.intro hx (And.intro hB0 (And.intro bO (And.intro bD (And.intro hC (And.intro hcap (And.intro hsz2 hask)))))))
 clear hx hB0 bO bD hC hcap hsz2 hask
 go_enter Try.func23, Try.ntmps23
 go_wp2
 obtain ⟨hx, hB0, bO, bD, hC, hcap, hsz2, hask⟩ := hA.out
 generalize (w.alloc (objO ⟨1, oy, ot, on, ob⟩ A cap)).alloc rep0 = w2 at hB0 bO bD hsz2 ⊢
 have hB0d := below_drew1 hB0
 have hm2 : w2.drew.heap[m]? = _ := blk_below hx.hm hB0d
 have bO2 : w2.drew.heap[w.heap.size]? = _ := bO
 have o0 := blk_cell bO2 0
 have o1 := blk_cell bO2 1
 have o2 := blk_cell bO2 2
 have o3 := blk_cell bO2 3
 have o4 := blk_cell bO2 4
 have c0 := blk_cell hm2 0
 have c1 := blk_cell hm2 1
 have c2 := blk_cell hm2 2
 have c3 := blk_cell hm2 3
 have c4 := blk_cell hm2 4
 have c5 := blk_cell hm2 5
 have c6 := blk_cell hm2 6
 have c7 := blk_cell hm2 7
 have c8 := blk_cell hm2 8
 simp at o0 o1 o2 o3 o4 c0 c1 c2 c3 c4 c5 c6 c7 c8
 have AK := room_Ask.calls ka 1 oy ot on A cap ob c.f0 c.f1 c.f2 c.f3 c.f4 c.f5 c.f6 c.f7 c.f8 0 w2.drew (Kd.C_below hC hB0d) hcap hask
 have AK2 := AK.mono (R' := fun x w' => x = .returned (.int .i64 0) ∧ (w'.cell? ⟨w.heap.size, 0, none⟩ = some (.int .u8 1) ∧ w'.cell? ⟨w.heap.size, 1, none⟩ = some (.string oy) ∧ w'.cell? ⟨w.heap.size, 2, none⟩ = some (.string ot) ∧ w'.cell? ⟨w.heap.size, 3, none⟩ = some (.int .i64 on) ∧ w'.cell? ⟨w.heap.size, 4, none⟩ = some (.slice A ob.length cap) ∧ w'.cell? ⟨m, 0, none⟩ = some (.int .i64 c.f0) ∧ w'.cell? ⟨m, 1, none⟩ = some (.int .i64 c.f1) ∧ w'.cell? ⟨m, 2, none⟩ = some (.int .i64 c.f2) ∧ w'.cell? ⟨m, 3, none⟩ = some (.int .i64 c.f3) ∧ w'.cell? ⟨m, 4, none⟩ = some (.int .i64 c.f4) ∧ w'.cell? ⟨m, 5, none⟩ = some (.int .i64 c.f5) ∧ w'.cell? ⟨m, 6, none⟩ = some (.int .i64 c.f6) ∧ w'.cell? ⟨m, 7, none⟩ = some (.int .i64 c.f7) ∧ w'.cell? ⟨m, 8, none⟩ = some (.int .i64 c.f8)) ∧ Aside0 (Below w.heap.size w w' ∧ w2.heap.size ≤ w'.heap.size ∧ w'.heap[w.heap.size + 1]? = some rep0 ∧ w'.heap[w.heap.size]? = some (objO ⟨1, oy, ot, on, ob⟩ A cap))) (by
  rintro x w' ⟨rfl, hb⟩
  have hm5 := blk_below hm2 hb
  have bO5 := blk_below bO2 hb
  have o0 := blk_cell bO5 0
  have o1 := blk_cell bO5 1
  have o2 := blk_cell bO5 2
  have o3 := blk_cell bO5 3
  have o4 := blk_cell bO5 4
  have c0 := blk_cell hm5 0
  have c1 := blk_cell hm5 1
  have c2 := blk_cell hm5 2
  have c3 := blk_cell hm5 3
  have c4 := blk_cell hm5 4
  have c5 := blk_cell hm5 5
  have c6 := blk_cell hm5 6
  have c7 := blk_cell hm5 7
  have c8 := blk_cell hm5 8
  simp at o0 o1 o2 o3 o4 c0 c1 c2 c3 c4 c5 c6 c7 c8
  have bD5 := blk_below (show w2.drew.heap[w.heap.size + 1]? = some rep0 from bD) hb
  exact ⟨rfl, ⟨o0, o1, o2, o3, o4, c0, c1, c2, c3, c4, c5, c6, c7, c8⟩, ⟨below_then hB0d hB0d.size hb, hb.size, bD5, bO5⟩⟩)
 have hA2 := aK_ hsz2
 clear AK hB0d hm2 bO2 hx hB0 bO bD hC hcap hsz2 hask
 go_region_held3 (fun w' => w'.cell? ⟨w.heap.size, 0, none⟩ = some (.int .u8 1) ∧ w'.cell? ⟨w.heap.size, 1, none⟩ = some (.string oy) ∧ w'.cell? ⟨w.heap.size, 2, none⟩ = some (.string ot) ∧ w'.cell? ⟨w.heap.size, 3, none⟩ = some (.int .i64 on) ∧ w'.cell? ⟨w.heap.size, 4, none⟩ = some (.slice A ob.length cap) ∧ w'.cell? ⟨m, 0, none⟩ = some (.int .i64 c.f0) ∧ w'.cell? ⟨m, 1, none⟩ = some (.int .i64 c.f1) ∧ w'.cell? ⟨m, 2, none⟩ = some (.int .i64 c.f2) ∧ w'.cell? ⟨m, 3, none⟩ = some (.int .i64 c.f3) ∧ w'.cell? ⟨m, 4, none⟩ = some (.int .i64 c.f4) ∧ w'.cell? ⟨m, 5, none⟩ = some (.int .i64 c.f5) ∧ w'.cell? ⟨m, 6, none⟩ = some (.int .i64 c.f6) ∧ w'.cell? ⟨m, 7, none⟩ = some (.int .i64 c.f7) ∧ w'.cell? ⟨m, 8, none⟩ = some (.int .i64 c.f8)) (first | exact ⟨by assumption, by assumption, by assumption, by assumption, by assumption, by assumption, by assumption, by assumption, by assumption, by assumption, by assumption, by assumption, by assumption, by assumption⟩ | exact ⟨o0, o1, o2, o3, o4, c0, c1, c2, c3, c4, c5, c6, c7, c8⟩)
   (first
    | (go_at_call 55; refine AK2.mono ?_; clear AK2; rintro x w5 ⟨rfl, ⟨y0, y1, y2, y3, y4, y5, y6, y7, y8, y9, y10, y11, y12, y13⟩, hA5⟩))
 clear o0 o1 o2 o3 o4 c0 c1 c2 c3 c4 c5 c6 c7 c8 y0 y1 y2 y3 y4 y5 y6 y7 y8 y9 y10 y11 y12 y13
 obtain ⟨hx, _, _, _, hC, hcap, _, _⟩ := hA.out
 obtain ⟨hB5, hs5, bD5, bO5⟩ := hA5.out
 have hB6 : Below w.heap.size w (w5.alloc (.cells #[.string oy, .string ot] 29)) := below_alloc hB5 _
 have bD6 := blk_alloc bD5 (.cells #[.string oy, .string ot] 29)
 have bO6 := blk_alloc bO5 (.cells #[.string oy, .string ot] 29)
 have bR6 := blk_new w5 (.cells #[.string oy, .string ot] 29)
 have o0 := blk_cell bO6 0
 have o1 := blk_cell bO6 1
 have o2 := blk_cell bO6 2
 have o3 := blk_cell bO6 3
 have o4 := blk_cell bO6 4
 simp at o0 o1 o2 o3 o4
 clear hx hC hcap hB5 hs5 bD5 bO5 hB6 bD6 bO6 bR6
 go_wp2
 obtain ⟨hx, _, _, _, hC, hcap, _, _⟩ := hA.out
 obtain ⟨hB5, hs5, bD5, bO5⟩ := hA5.out
 have hB6 : Below w.heap.size w (w5.alloc (.cells #[.string oy, .string ot] 29)) := below_alloc hB5 _
 have bD6 := blk_alloc bD5 (.cells #[.string oy, .string ot] 29)
 have bO6 := blk_alloc bO5 (.cells #[.string oy, .string ot] 29)
 have bR6 := blk_new w5 (.cells #[.string oy, .string ot] 29)
 generalize w5.alloc (.cells #[.string oy, .string ot] 29) = w6 at hB6 bD6 bO6 bR6 ⊢
 clear o0 o1 o2 o3 o4
 have hx6 := hx.frm (w' := w6.drew) (.of_below (below_drew1 hB6))
 have hm6 : w6.drew.heap[m]? = _ := hx6.hm
 have bO7 : w6.drew.heap[w.heap.size]? = _ := bO6
 have u0 := blk_cell hm6 10
 have u1 := blk_cell bO7 1
 simp at u0 u1
 have GT := (hold_get hx6.hH oy).mono (R' := fun e w' => e = .returned (.tuple #[.string (gotL L oy).1, .bool (gotL L oy).2]) ∧ (w'.cell? ⟨m, 10, none⟩ = some (.pointer (some ⟨em, 0, none⟩)) ∧ w'.cell? ⟨w.heap.size, 1, none⟩ = some (.string oy)) ∧ Aside0 (Below w.heap.size w w' ∧ w'.heap[w.heap.size + 1]? = some rep0)) (by
  rintro e w' ⟨rfl, rfl⟩
  refine ⟨?_, ⟨u0, u1⟩, ⟨below_drew1 hB6, bD6⟩⟩
  unfold gotL
  cases lookK OrdSm.lt oy L with
  | none => rfl
  | some v => rfl)
 clear hx hC hcap hB5 hs5 bD5 bO5 hB6 bD6 bO6 bR6 hx6 hm6 bO7
 go_region_held3 (fun w' => w'.cell? ⟨m, 10, none⟩ = some (.pointer (some ⟨em, 0, none⟩)) ∧ w'.cell? ⟨w.heap.size, 1, none⟩ = some (.string oy)) (first | exact ⟨by assumption, by assumption⟩ | exact ⟨u0, u1⟩)
   (first
    | (go_at_call 56; refine GT.mono ?_; clear GT; rintro x w7 ⟨rfl, ⟨v0, v1⟩, hA7⟩))
 obtain ⟨hB7, bD7⟩ := hA7.out
 have y0 := blk_cell bD7 0
 have y1 := blk_cell bD7 1
 have y2 := blk_cell bD7 2
 have y3 := blk_cell bD7 3
 have y4 := blk_cell bD7 4
 have y5 := blk_cell bD7 5
 have q0 := blk_frozen bD7 0
 have q1 := blk_frozen bD7 1
 have q2 := blk_frozen bD7 2
 have q3 := blk_frozen bD7 3
 have q4 := blk_frozen bD7 4
 have q5 := blk_frozen bD7 5
 simp at y0 y1 y2 y3 y4 y5
 clear hB7 bD7 u0 u1 v0 v1
 go_wp2
 obtain ⟨hx, _, _, _, hC, hcap, _, _⟩ := hA.out
 obtain ⟨hB7, bD7⟩ := hA7.out
 exact md_end (fun _ _ => rfl) ⟨fun k hk => Nat.lt_of_lt_of_le (hlt k hk) hB7.size, em, cb, nn, F, B, hx.frm (.of_below hB7)⟩ (.of_below hB7) (by omega) (g0 hlt _ (by omega)) rfl rfl rfl bD7 (fun W' _ _ => RepV.bare _ _ _ _ _ _ _)
theorem do_next {G : Nat → Nat} {w : World} {m : Nat} {c : Cf} {n sends : Int} {L : Row} {T : Int → List Cu} {N : Nat} (h : Mw G w m c n sends L T N) (who : Int) (hw : ¬ (who < 1 ∨ who > n)) (o : Oq) {A : Option Addr} {cap : Nat} (hC : Kd.C P.k117 w A o.b.length o.b) (hcap : o.b.length ≤ cap) (ka : Nat) (e : Int) (hask : room_Ask.f ka o.k o.y o.t o.n o.b c.f0 c.f1 c.f2 c.f3 c.f4 c.f5 c.f6 c.f7 c.f8 = some e) (hk : o.k = 5) (he : e = 0) (h1 : 1 ≤ who) (h2 : who ≤ 1000000) (hN : N + 1 < 1000000) (hkw : (Lit.int .i64 o.n).wf = true) (hl : L.length ≤ 1000000) (hsz : ∀ x ∈ L, x.1.size ≤ 140737488351232) :
  Calls Try.prog 23 #[.pointer (some ⟨m, 0, none⟩), .int .i64 who, .agg #[.int .u8 o.k, .string o.y, .string o.t, .int .i64 o.n, .slice A o.b.length cap]] w (Md G w m c n (N + 2) (nextV c.f8 L (T who) o.n).1 sends L (setT T who (nextV c.f8 L (T who) o.n).2)) := by
 have hup := Try.underlying59
 have huo := Try.underlying56
 have hum := Try.underlying122
 have huc := Try.underlying47
 have hur := Try.underlying29
 obtain ⟨hlt, em, cb, nn, F, B, hx⟩ := h
 obtain ⟨ok, oy, ot, on, ob⟩ := o
 have hk : ok = 5 := hk
 subst hk
 subst he
 have q0 : (((0 : Int)) == 0) = true := rfl
 have hB0 : Below w.heap.size w ((w.alloc (objO ⟨5, oy, ot, on, ob⟩ A cap)).alloc rep0) := below_alloc (below_alloc (Below.refl _ _) _) _
 have bO : ((w.alloc (objO ⟨5, oy, ot, on, ob⟩ A cap)).alloc rep0).heap[w.heap.size]? = some (objO ⟨5, oy, ot, on, ob⟩ A cap) := blk_alloc (blk_new w _) _
 have bD : ((w.alloc (objO ⟨5, oy, ot, on, ob⟩ A cap)).alloc rep0).heap[w.heap.size + 1]? = some rep0 := by have := blk_new (w.alloc (objO ⟨5, oy, ot, on, ob⟩ A cap)) rep0; rwa [World.size_alloc] at this
 have hsz2 : ((w.alloc (objO ⟨5, oy, ot, on, ob⟩ A cap)).alloc rep0).heap.size = w.heap.size + 2 := by simp
 have x9 := blk_cell (blk_below hx.hm hB0) 9
 simp at x9
 have d0 := decide_eq_false (show ¬ who < 1 by omega)
 have d1 := decide_eq_false (show ¬ who > n by omega)
 have hA := aK_ (And.intro hx (And.intro hB0 (And.intro bO (And.intro bD (And.intro hC (And.intro hcap (And.intro hsz2 hask)))))))
 clear hx hB0 bO bD hC hcap hsz2 hask
 go_enter Try.func23, Try.ntmps23
 go_wp2
 obtain ⟨hx, hB0, bO, bD, hC, hcap, hsz2, hask⟩ := hA.out
 generalize (w.alloc (objO ⟨5, oy, ot, on, ob⟩ A cap)).alloc rep0 = w2 at hB0 bO bD hsz2 ⊢
 have hB0d := below_drew1 hB0
 have hm2 : w2.drew.heap[m]? = _ := blk_below hx.hm hB0d
 have bO2 : w2.drew.heap[w.heap.size]? = _ := bO
 have o0 := blk_cell bO2 0
 have o1 := blk_cell bO2 1
 have o2 := blk_cell bO2 2
 have o3 := blk_cell bO2 3
 have o4 := blk_cell bO2 4
 have c0 := blk_cell hm2 0
 have c1 := blk_cell hm2 1
 have c2 := blk_cell hm2 2
 have c3 := blk_cell hm2 3
 have c4 := blk_cell hm2 4
 have c5 := blk_cell hm2 5
 have c6 := blk_cell hm2 6
 have c7 := blk_cell hm2 7
 have c8 := blk_cell hm2 8
 simp at o0 o1 o2 o3 o4 c0 c1 c2 c3 c4 c5 c6 c7 c8
 have AK := room_Ask.calls ka 5 oy ot on A cap ob c.f0 c.f1 c.f2 c.f3 c.f4 c.f5 c.f6 c.f7 c.f8 0 w2.drew (Kd.C_below hC hB0d) hcap hask
 have AK2 := AK.mono (R' := fun x w' => x = .returned (.int .i64 0) ∧ (w'.cell? ⟨w.heap.size, 0, none⟩ = some (.int .u8 5) ∧ w'.cell? ⟨w.heap.size, 1, none⟩ = some (.string oy) ∧ w'.cell? ⟨w.heap.size, 2, none⟩ = some (.string ot) ∧ w'.cell? ⟨w.heap.size, 3, none⟩ = some (.int .i64 on) ∧ w'.cell? ⟨w.heap.size, 4, none⟩ = some (.slice A ob.length cap) ∧ w'.cell? ⟨m, 0, none⟩ = some (.int .i64 c.f0) ∧ w'.cell? ⟨m, 1, none⟩ = some (.int .i64 c.f1) ∧ w'.cell? ⟨m, 2, none⟩ = some (.int .i64 c.f2) ∧ w'.cell? ⟨m, 3, none⟩ = some (.int .i64 c.f3) ∧ w'.cell? ⟨m, 4, none⟩ = some (.int .i64 c.f4) ∧ w'.cell? ⟨m, 5, none⟩ = some (.int .i64 c.f5) ∧ w'.cell? ⟨m, 6, none⟩ = some (.int .i64 c.f6) ∧ w'.cell? ⟨m, 7, none⟩ = some (.int .i64 c.f7) ∧ w'.cell? ⟨m, 8, none⟩ = some (.int .i64 c.f8)) ∧ Aside0 (Below w.heap.size w w' ∧ w2.heap.size ≤ w'.heap.size ∧ w'.heap[w.heap.size + 1]? = some rep0 ∧ w'.heap[w.heap.size]? = some (objO ⟨5, oy, ot, on, ob⟩ A cap))) (by
  rintro x w' ⟨rfl, hb⟩
  have hm5 := blk_below hm2 hb
  have bO5 := blk_below bO2 hb
  have o0 := blk_cell bO5 0
  have o1 := blk_cell bO5 1
  have o2 := blk_cell bO5 2
  have o3 := blk_cell bO5 3
  have o4 := blk_cell bO5 4
  have c0 := blk_cell hm5 0
  have c1 := blk_cell hm5 1
  have c2 := blk_cell hm5 2
  have c3 := blk_cell hm5 3
  have c4 := blk_cell hm5 4
  have c5 := blk_cell hm5 5
  have c6 := blk_cell hm5 6
  have c7 := blk_cell hm5 7
  have c8 := blk_cell hm5 8
  simp at o0 o1 o2 o3 o4 c0 c1 c2 c3 c4 c5 c6 c7 c8
  have bD5 := blk_below (show w2.drew.heap[w.heap.size + 1]? = some rep0 from bD) hb
  exact ⟨rfl, ⟨o0, o1, o2, o3, o4, c0, c1, c2, c3, c4, c5, c6, c7, c8⟩, ⟨below_then hB0d hB0d.size hb, hb.size, bD5, bO5⟩⟩)
 have hA2 := aK_ hsz2
 clear AK hB0d hm2 bO2 hx hB0 bO bD hC hcap hsz2 hask
 go_region_held3 (fun w' => w'.cell? ⟨w.heap.size, 0, none⟩ = some (.int .u8 5) ∧ w'.cell? ⟨w.heap.size, 1, none⟩ = some (.string oy) ∧ w'.cell? ⟨w.heap.size, 2, none⟩ = some (.string ot) ∧ w'.cell? ⟨w.heap.size, 3, none⟩ = some (.int .i64 on) ∧ w'.cell? ⟨w.heap.size, 4, none⟩ = some (.slice A ob.length cap) ∧ w'.cell? ⟨m, 0, none⟩ = some (.int .i64 c.f0) ∧ w'.cell? ⟨m, 1, none⟩ = some (.int .i64 c.f1) ∧ w'.cell? ⟨m, 2, none⟩ = some (.int .i64 c.f2) ∧ w'.cell? ⟨m, 3, none⟩ = some (.int .i64 c.f3) ∧ w'.cell? ⟨m, 4, none⟩ = some (.int .i64 c.f4) ∧ w'.cell? ⟨m, 5, none⟩ = some (.int .i64 c.f5) ∧ w'.cell? ⟨m, 6, none⟩ = some (.int .i64 c.f6) ∧ w'.cell? ⟨m, 7, none⟩ = some (.int .i64 c.f7) ∧ w'.cell? ⟨m, 8, none⟩ = some (.int .i64 c.f8)) (first | exact ⟨by assumption, by assumption, by assumption, by assumption, by assumption, by assumption, by assumption, by assumption, by assumption, by assumption, by assumption, by assumption, by assumption, by assumption⟩ | exact ⟨o0, o1, o2, o3, o4, c0, c1, c2, c3, c4, c5, c6, c7, c8⟩)
   (first
    | (go_at_call 55; refine AK2.mono ?_; clear AK2; rintro x w5 ⟨rfl, ⟨y0, y1, y2, y3, y4, y5, y6, y7, y8, y9, y10, y11, y12, y13⟩, hA5⟩))
 clear o0 o1 o2 o3 o4 c0 c1 c2 c3 c4 c5 c6 c7 c8 y0 y1 y2 y3 y4 y5 y6 y7 y8 y9 y10 y11 y12 y13
 obtain ⟨hx, _, _, _, hC, hcap, _, _⟩ := hA.out
 obtain ⟨hB5, hs5, bD5, bO5⟩ := hA5.out
 have hB6 : Below w.heap.size w (w5.alloc (.cells #[.string oy, .string ot] 29)) := below_alloc hB5 _
 have bD6 := blk_alloc bD5 (.cells #[.string oy, .string ot] 29)
 have bO6 := blk_alloc bO5 (.cells #[.string oy, .string ot] 29)
 have bR6 := blk_new w5 (.cells #[.string oy, .string ot] 29)
 have o0 := blk_cell bO6 0
 have o1 := blk_cell bO6 1
 have o2 := blk_cell bO6 2
 have o3 := blk_cell bO6 3
 have o4 := blk_cell bO6 4
 simp at o0 o1 o2 o3 o4
 have NX := next_any (w := w5.alloc (.cells #[.string oy, .string ot] 29)) ⟨fun k hk => Nat.lt_of_lt_of_le (hlt k hk) hB6.size, em, cb, nn, F, B, hx.frm (.of_below hB6)⟩ who h1 h2 hN on hkw hl hsz
 obtain ⟨r, hr⟩ : ∃ r, r = nextV c.f8 L (T who) on := ⟨_, rfl⟩
 rw [← hr] at NX
 have hrA := aK_ hr
 have hA6 := aK_ (And.intro hB6 bD6)
 clear hx hC hcap hB5 hs5 bD5 bO5 hB6 bD6 bO6 bR6 hr
 go_wp2_with (first
  | (go_at_call 59; refine NX.mono ?_; clear NX; rintro x w7 ⟨v, rfl, G7, hG7, hM7, hf7, A7, p7, rfl, hV7⟩; have bD7 := hf7.blk hA6.out.2 (by rw [g0 hlt _ (by omega)]; simp); have y0 := blk_cell bD7 0; have y1 := blk_cell bD7 1; have y2 := blk_cell bD7 2; have y3 := blk_cell bD7 3; have y4 := blk_cell bD7 4; have y5 := blk_cell bD7 5; have q0 := blk_frozen bD7 0; have q1 := blk_frozen bD7 1; have q2 := blk_frozen bD7 2; have q3 := blk_frozen bD7 3; have q4 := blk_frozen bD7 4; have q5 := blk_frozen bD7 5; simp at y0 y1 y2 y3 y4 y5; have hA7 := aK_ (And.intro hG7 (And.intro hM7 (And.intro hf7 (And.intro bD7 hV7)))); clear hG7 hM7 hf7 bD7 hV7))
 obtain ⟨hG7, hM7, hf7, bD7, hV7⟩ := hA7.out
 obtain hr := hrA.out
 clear hrA
 subst hr
 obtain ⟨hB6, bD6⟩ := hA6.out
 have hs6 := hB6.size
 have hs7 := hf7.size
 have lD := blk_lt bD6
 refine md_end (fun k hk => hG7 k (by omega)) hM7 ((It.FrM.of_below hB6).trans hf7 (fun i hi => .inl hi)) (by omega) ((hG7 _ lD).trans (g0 hlt _ (by omega))) rfl rfl rfl bD7 (fun W' f hs => ⟨_, _, rfl, ?_⟩)
 refine Kd.V_mono (Kd.V_step hV7 (fun j hj hjl => f.block j hjl (fun e => ?_))) (fun j hj => ⟨by omega, by omega, hj.2.2⟩)
 omega
theorem do_send {G : Nat → Nat} {w : World} {m : Nat} {c : Cf} {n sends : Int} {L : Row} {T : Int → List Cu} {N : Nat} (h : Mw G w m c n sends L T N) (who : Int) (hw : ¬ (who < 1 ∨ who > n)) (o : Oq) {A : Option Addr} {cap : Nat} (hC : Kd.C P.k117 w A o.b.length o.b) (hcap : o.b.length ≤ cap) (ka : Nat) (e : Int) (hask : room_Ask.f ka o.k o.y o.t o.n o.b c.f0 c.f1 c.f2 c.f3 c.f4 c.f5 c.f6 c.f7 c.f8 = some e) (hk : o.k = 2) (he : e = 0) (hC2 : ∀ W, It.FrM (fun k => G k ≠ 0) w W → Kd.C P.k117 W A o.b.length o.b) (hs0 : 0 ≤ sends) (hs1 : sends < 1000000) (hl : L.length ≤ 500000) (hlen : o.b.length ≤ 100000) (hsz : ∀ x ∈ o.b, x.f2.size ≤ 140737488351232) :
  Calls Try.prog 23 #[.pointer (some ⟨m, 0, none⟩), .int .i64 who, .agg #[.int .u8 o.k, .string o.y, .string o.t, .int .i64 o.n, .slice A o.b.length cap]] w (Md G w m c n N ⟨0, false, e0, [], 0, false⟩ (sends + 1) (o.b.foldl sendV L) T) := by
 have hup := Try.underlying59
 have huo := Try.underlying56
 have hum := Try.underlying122
 have huc := Try.underlying47
 have hur := Try.underlying29
 obtain ⟨hlt, em, cb, nn, F, B, hx⟩ := h
 obtain ⟨ok, oy, ot, on, ob⟩ := o
 have hk : ok = 2 := hk
 subst hk
 subst he
 have q0 : (((0 : Int)) == 0) = true := rfl
 have hB0 : Below w.heap.size w ((w.alloc (objO ⟨2, oy, ot, on, ob⟩ A cap)).alloc rep0) := below_alloc (below_alloc (Below.refl _ _) _) _
 have bO : ((w.alloc (objO ⟨2, oy, ot, on, ob⟩ A cap)).alloc rep0).heap[w.heap.size]? = some (objO ⟨2, oy, ot, on, ob⟩ A cap) := blk_alloc (blk_new w _) _
 have bD : ((w.alloc (objO ⟨2, oy, ot, on, ob⟩ A cap)).alloc rep0).heap[w.heap.size + 1]? = some rep0 := by have := blk_new (w.alloc (objO ⟨2, oy, ot, on, ob⟩ A cap)) rep0; rwa [World.size_alloc] at this
 have hsz2 : ((w.alloc (objO ⟨2, oy, ot, on, ob⟩ A cap)).alloc rep0).heap.size = w.heap.size + 2 := by simp
 have x9 := blk_cell (blk_below hx.hm hB0) 9
 simp at x9
 have d0 := decide_eq_false (show ¬ who < 1 by omega)
 have d1 := decide_eq_false (show ¬ who > n by omega)
 have hA := aK_ (And.intro hx (And.intro hB0 (And.intro bO (And.intro bD (And.intro hC (And.intro hcap (And.intro hsz2 hask)))))))
 clear hx hB0 bO bD hC hcap hsz2 hask
 go_enter Try.func23, Try.ntmps23
 go_wp2
 obtain ⟨hx, hB0, bO, bD, hC, hcap, hsz2, hask⟩ := hA.out
 generalize (w.alloc (objO ⟨2, oy, ot, on, ob⟩ A cap)).alloc rep0 = w2 at hB0 bO bD hsz2 ⊢
 have hB0d := below_drew1 hB0
 have hm2 : w2.drew.heap[m]? = _ := blk_below hx.hm hB0d
 have bO2 : w2.drew.heap[w.heap.size]? = _ := bO
 have o0 := blk_cell bO2 0
 have o1 := blk_cell bO2 1
 have o2 := blk_cell bO2 2
 have o3 := blk_cell bO2 3
 have o4 := blk_cell bO2 4
 have c0 := blk_cell hm2 0
 have c1 := blk_cell hm2 1
 have c2 := blk_cell hm2 2
 have c3 := blk_cell hm2 3
 have c4 := blk_cell hm2 4
 have c5 := blk_cell hm2 5
 have c6 := blk_cell hm2 6
 have c7 := blk_cell hm2 7
 have c8 := blk_cell hm2 8
 simp at o0 o1 o2 o3 o4 c0 c1 c2 c3 c4 c5 c6 c7 c8
 have AK := room_Ask.calls ka 2 oy ot on A cap ob c.f0 c.f1 c.f2 c.f3 c.f4 c.f5 c.f6 c.f7 c.f8 0 w2.drew (Kd.C_below hC hB0d) hcap hask
 have AK2 := AK.mono (R' := fun x w' => x = .returned (.int .i64 0) ∧ (w'.cell? ⟨w.heap.size, 0, none⟩ = some (.int .u8 2) ∧ w'.cell? ⟨w.heap.size, 1, none⟩ = some (.string oy) ∧ w'.cell? ⟨w.heap.size, 2, none⟩ = some (.string ot) ∧ w'.cell? ⟨w.heap.size, 3, none⟩ = some (.int .i64 on) ∧ w'.cell? ⟨w.heap.size, 4, none⟩ = some (.slice A ob.length cap) ∧ w'.cell? ⟨m, 0, none⟩ = some (.int .i64 c.f0) ∧ w'.cell? ⟨m, 1, none⟩ = some (.int .i64 c.f1) ∧ w'.cell? ⟨m, 2, none⟩ = some (.int .i64 c.f2) ∧ w'.cell? ⟨m, 3, none⟩ = some (.int .i64 c.f3) ∧ w'.cell? ⟨m, 4, none⟩ = some (.int .i64 c.f4) ∧ w'.cell? ⟨m, 5, none⟩ = some (.int .i64 c.f5) ∧ w'.cell? ⟨m, 6, none⟩ = some (.int .i64 c.f6) ∧ w'.cell? ⟨m, 7, none⟩ = some (.int .i64 c.f7) ∧ w'.cell? ⟨m, 8, none⟩ = some (.int .i64 c.f8)) ∧ Aside0 (Below w.heap.size w w' ∧ w2.heap.size ≤ w'.heap.size ∧ w'.heap[w.heap.size + 1]? = some rep0 ∧ w'.heap[w.heap.size]? = some (objO ⟨2, oy, ot, on, ob⟩ A cap))) (by
  rintro x w' ⟨rfl, hb⟩
  have hm5 := blk_below hm2 hb
  have bO5 := blk_below bO2 hb
  have o0 := blk_cell bO5 0
  have o1 := blk_cell bO5 1
  have o2 := blk_cell bO5 2
  have o3 := blk_cell bO5 3
  have o4 := blk_cell bO5 4
  have c0 := blk_cell hm5 0
  have c1 := blk_cell hm5 1
  have c2 := blk_cell hm5 2
  have c3 := blk_cell hm5 3
  have c4 := blk_cell hm5 4
  have c5 := blk_cell hm5 5
  have c6 := blk_cell hm5 6
  have c7 := blk_cell hm5 7
  have c8 := blk_cell hm5 8
  simp at o0 o1 o2 o3 o4 c0 c1 c2 c3 c4 c5 c6 c7 c8
  have bD5 := blk_below (show w2.drew.heap[w.heap.size + 1]? = some rep0 from bD) hb
  exact ⟨rfl, ⟨o0, o1, o2, o3, o4, c0, c1, c2, c3, c4, c5, c6, c7, c8⟩, ⟨below_then hB0d hB0d.size hb, hb.size, bD5, bO5⟩⟩)
 have hA2 := aK_ hsz2
 clear AK hB0d hm2 bO2 hx hB0 bO bD hC hcap hsz2 hask
 go_region_held3 (fun w' => w'.cell? ⟨w.heap.size, 0, none⟩ = some (.int .u8 2) ∧ w'.cell? ⟨w.heap.size, 1, none⟩ = some (.string oy) ∧ w'.cell? ⟨w.heap.size, 2, none⟩ = some (.string ot) ∧ w'.cell? ⟨w.heap.size, 3, none⟩ = some (.int .i64 on) ∧ w'.cell? ⟨w.heap.size, 4, none⟩ = some (.slice A ob.length cap) ∧ w'.cell? ⟨m, 0, none⟩ = some (.int .i64 c.f0) ∧ w'.cell? ⟨m, 1, none⟩ = some (.int .i64 c.f1) ∧ w'.cell? ⟨m, 2, none⟩ = some (.int .i64 c.f2) ∧ w'.cell? ⟨m, 3, none⟩ = some (.int .i64 c.f3) ∧ w'.cell? ⟨m, 4, none⟩ = some (.int .i64 c.f4) ∧ w'.cell? ⟨m, 5, none⟩ = some (.int .i64 c.f5) ∧ w'.cell? ⟨m, 6, none⟩ = some (.int .i64 c.f6) ∧ w'.cell? ⟨m, 7, none⟩ = some (.int .i64 c.f7) ∧ w'.cell? ⟨m, 8, none⟩ = some (.int .i64 c.f8)) (first | exact ⟨by assumption, by assumption, by assumption, by assumption, by assumption, by assumption, by assumption, by assumption, by assumption, by assumption, by assumption, by assumption, by assumption, by assumption⟩ | exact ⟨o0, o1, o2, o3, o4, c0, c1, c2, c3, c4, c5, c6, c7, c8⟩)
   (first
    | (go_at_call 55; refine AK2.mono ?_; clear AK2; rintro x w5 ⟨rfl, ⟨y0, y1, y2, y3, y4, y5, y6, y7, y8, y9, y10, y11, y12, y13⟩, hA5⟩))
 clear o0 o1 o2 o3 o4 c0 c1 c2 c3 c4 c5 c6 c7 c8 y0 y1 y2 y3 y4 y5 y6 y7 y8 y9 y10 y11 y12 y13
 obtain ⟨hx, _, _, _, hC, hcap, _, _⟩ := hA.out
 obtain ⟨hB5, hs5, bD5, bO5⟩ := hA5.out
 have hB6 : Below w.heap.size w (w5.alloc (.cells #[.string oy, .string ot] 29)) := below_alloc hB5 _
 have bD6 := blk_alloc bD5 (.cells #[.string oy, .string ot] 29)
 have bO6 := blk_alloc bO5 (.cells #[.string oy, .string ot] 29)
 have bR6 := blk_new w5 (.cells #[.string oy, .string ot] 29)
 have o0 := blk_cell bO6 0
 have o1 := blk_cell bO6 1
 have o2 := blk_cell bO6 2
 have o3 := blk_cell bO6 3
 have o4 := blk_cell bO6 4
 simp at o0 o1 o2 o3 o4
 have SD := send_any (w := w5.alloc (.cells #[.string oy, .string ot] 29)) (m := m) (c := c) (n := n) (sends := sends) (L := L) (T := T) (N := N) (G := G) ⟨fun k hk => Nat.lt_of_lt_of_le (hlt k hk) hB6.size, em, cb, nn, F, B, hx.frm (.of_below hB6)⟩ hs0 hs1 hl (fun W f => hC2 W ((It.FrM.of_below hB6).trans f (fun i hi => .inl hi))) hcap hlen hsz
 obtain ⟨L2, hr⟩ : ∃ L2, L2 = List.foldl sendV L ob := ⟨_, rfl⟩
 rw [← hr] at SD
 have hrA := aK_ hr
 clear hr
 have hA6 := aK_ (And.intro hB6 bD6)
 have hC3 := aK_ hC2
 clear hx hC hcap hB5 hs5 bD5 bO5 hB6 bD6 bO6 bR6 hC2
 go_wp2_with (first
  | (go_at_call 57; refine SD.mono ?_; clear SD; rintro x w7 ⟨⟨v, rfl⟩, G7, hG7, hM7, hf7⟩; have bD7 := hf7.blk hA6.out.2 (by rw [g0 hlt _ (by omega)]; simp); have y0 := blk_cell bD7 0; have y1 := blk_cell bD7 1; have y2 := blk_cell bD7 2; have y3 := blk_cell bD7 3; have y4 := blk_cell bD7 4; have y5 := blk_cell bD7 5; have q0 := blk_frozen bD7 0; have q1 := blk_frozen bD7 1; have q2 := blk_frozen bD7 2; have q3 := blk_frozen bD7 3; have q4 := blk_frozen bD7 4; have q5 := blk_frozen bD7 5; simp at y0 y1 y2 y3 y4 y5; have hA7 := aK_ (And.intro hG7 (And.intro hM7 (And.intro hf7 bD7))); clear hG7 hM7 hf7 bD7))
 obtain ⟨hG7, hM7, hf7, bD7⟩ := hA7.out
 obtain hr := hrA.out
 clear hrA
 subst hr
 obtain ⟨hB6, bD6⟩ := hA6.out
 have hs6 := hB6.size
 have lD := blk_lt bD6
 exact md_end (fun k hk => hG7 k (by omega)) hM7 ((It.FrM.of_below hB6).trans hf7 (fun i hi => .inl hi)) (by omega) ((hG7 _ lD).trans (g0 hlt _ (by omega))) rfl rfl rfl bD7 (fun W' f hs => RepV.bare _ _ _ _ _ _ _)
theorem do_look {G : Nat → Nat} {w : World} {m : Nat} {c : Cf} {n sends : Int} {L : Row} {T : Int → List Cu} {N : Nat} (h : Mw G w m c n sends L T N) (who : Int) (hw : ¬ (who < 1 ∨ who > n)) (o : Oq) {A : Option Addr} {cap : Nat} (hC : Kd.C P.k117 w A o.b.length o.b) (hcap : o.b.length ≤ cap) (ka : Nat) (e : Int) (hask : room_Ask.f ka o.k o.y o.t o.n o.b c.f0 c.f1 c.f2 c.f3 c.f4 c.f5 c.f6 c.f7 c.f8 = some e) (hk : o.k = 3) (he : e = 0) (hl : L.length ≤ 1000000) :
  Calls Try.prog 23 #[.pointer (some ⟨m, 0, none⟩), .int .i64 who, .agg #[.int .u8 o.k, .string o.y, .string o.t, .int .i64 o.n, .slice A o.b.length cap]] w (Md G w m c n N ⟨0, false, e0, (someM o.y o.t L o.n).map toE, 0, false⟩ sends L T) := by
 have hup := Try.underlying59
 have huo := Try.underlying56
 have hum := Try.underlying122
 have huc := Try.underlying47
 have hur := Try.underlying29
 obtain ⟨hlt, em, cb, nn, F, B, hx⟩ := h
 obtain ⟨ok, oy, ot, on, ob⟩ := o
 have hk : ok = 3 := hk
 subst hk
 subst he
 have q0 : (((0 : Int)) == 0) = true := rfl
 have hB0 : Below w.heap.size w ((w.alloc (objO ⟨3, oy, ot, on, ob⟩ A cap)).alloc rep0) := below_alloc (below_alloc (Below.refl _ _) _) _
 have bO : ((w.alloc (objO ⟨3, oy, ot, on, ob⟩ A cap)).alloc rep0).heap[w.heap.size]? = some (objO ⟨3, oy, ot, on, ob⟩ A cap) := blk_alloc (blk_new w _) _
 have bD : ((w.alloc (objO ⟨3, oy, ot, on, ob⟩ A cap)).alloc rep0).heap[w.heap.size + 1]? = some rep0 := by have := blk_new (w.alloc (objO ⟨3, oy, ot, on, ob⟩ A cap)) rep0; rwa [World.size_alloc] at this
 have hsz2 : ((w.alloc (objO ⟨3, oy, ot, on, ob⟩ A cap)).alloc rep0).heap.size = w.heap.size + 2 := by simp
 have x9 := blk_cell (blk_below hx.hm hB0) 9
 simp at x9
 have d0 := decide_eq_false (show ¬ who < 1 by omega)
 have d1 := decide_eq_false (show ¬ who > n by omega)
 have hA := aK_ (And.intro hx (And.intro hB0 (And.intro bO (And.intro bD (And.intro hC (And.intro hcap (And.intro hsz2 hask)))))))
 clear hx hB0 bO bD hC hcap hsz2 hask
 go_enter Try.func23, Try.ntmps23
 go_wp2
 obtain ⟨hx, hB0, bO, bD, hC, hcap, hsz2, hask⟩ := hA.out
 generalize (w.alloc (objO ⟨3, oy, ot, on, ob⟩ A cap)).alloc rep0 = w2 at hB0 bO bD hsz2 ⊢
 have hB0d := below_drew1 hB0
 have hm2 : w2.drew.heap[m]? = _ := blk_below hx.hm hB0d
 have bO2 : w2.drew.heap[w.heap.size]? = _ := bO
 have o0 := blk_cell bO2 0
 have o1 := blk_cell bO2 1
 have o2 := blk_cell bO2 2
 have o3 := blk_cell bO2 3
 have o4 := blk_cell bO2 4
 have c0 := blk_cell hm2 0
 have c1 := blk_cell hm2 1
 have c2 := blk_cell hm2 2
 have c3 := blk_cell hm2 3
 have c4 := blk_cell hm2 4
 have c5 := blk_cell hm2 5
 have c6 := blk_cell hm2 6
 have c7 := blk_cell hm2 7
 have c8 := blk_cell hm2 8
 simp at o0 o1 o2 o3 o4 c0 c1 c2 c3 c4 c5 c6 c7 c8
 have AK := room_Ask.calls ka 3 oy ot on A cap ob c.f0 c.f1 c.f2 c.f3 c.f4 c.f5 c.f6 c.f7 c.f8 0 w2.drew (Kd.C_below hC hB0d) hcap hask
 have AK2 := AK.mono (R' := fun x w' => x = .returned (.int .i64 0) ∧ (w'.cell? ⟨w.heap.size, 0, none⟩ = some (.int .u8 3) ∧ w'.cell? ⟨w.heap.size, 1, none⟩ = some (.string oy) ∧ w'.cell? ⟨w.heap.size, 2, none⟩ = some (.string ot) ∧ w'.cell? ⟨w.heap.size, 3, none⟩ = some (.int .i64 on) ∧ w'.cell? ⟨w.heap.size, 4, none⟩ = some (.slice A ob.length cap) ∧ w'.cell? ⟨m, 0, none⟩ = some (.int .i64 c.f0) ∧ w'.cell? ⟨m, 1, none⟩ = some (.int .i64 c.f1) ∧ w'.cell? ⟨m, 2, none⟩ = some (.int .i64 c.f2) ∧ w'.cell? ⟨m, 3, none⟩ = some (.int .i64 c.f3) ∧ w'.cell? ⟨m, 4, none⟩ = some (.int .i64 c.f4) ∧ w'.cell? ⟨m, 5, none⟩ = some (.int .i64 c.f5) ∧ w'.cell? ⟨m, 6, none⟩ = some (.int .i64 c.f6) ∧ w'.cell? ⟨m, 7, none⟩ = some (.int .i64 c.f7) ∧ w'.cell? ⟨m, 8, none⟩ = some (.int .i64 c.f8)) ∧ Aside0 (Below w.heap.size w w' ∧ w2.heap.size ≤ w'.heap.size ∧ w'.heap[w.heap.size + 1]? = some rep0 ∧ w'.heap[w.heap.size]? = some (objO ⟨3, oy, ot, on, ob⟩ A cap))) (by
  rintro x w' ⟨rfl, hb⟩
  have hm5 := blk_below hm2 hb
  have bO5 := blk_below bO2 hb
  have o0 := blk_cell bO5 0
  have o1 := blk_cell bO5 1
  have o2 := blk_cell bO5 2
  have o3 := blk_cell bO5 3
  have o4 := blk_cell bO5 4
  have c0 := blk_cell hm5 0
  have c1 := blk_cell hm5 1
  have c2 := blk_cell hm5 2
  have c3 := blk_cell hm5 3
  have c4 := blk_cell hm5 4
  have c5 := blk_cell hm5 5
  have c6 := blk_cell hm5 6
  have c7 := blk_cell hm5 7
  have c8 := blk_cell hm5 8
  simp at o0 o1 o2 o3 o4 c0 c1 c2 c3 c4 c5 c6 c7 c8
  have bD5 := blk_below (show w2.drew.heap[w.heap.size + 1]? = some rep0 from bD) hb
  exact ⟨rfl, ⟨o0, o1, o2, o3, o4, c0, c1, c2, c3, c4, c5, c6, c7, c8⟩, ⟨below_then hB0d hB0d.size hb, hb.size, bD5, bO5⟩⟩)
 have hA2 := aK_ hsz2
 clear AK hB0d hm2 bO2 hx hB0 bO bD hC hcap hsz2 hask
 go_region_held3 (fun w' => w'.cell? ⟨w.heap.size, 0, none⟩ = some (.int .u8 3) ∧ w'.cell? ⟨w.heap.size, 1, none⟩ = some (.string oy) ∧ w'.cell? ⟨w.heap.size, 2, none⟩ = some (.string ot) ∧ w'.cell? ⟨w.heap.size, 3, none⟩ = some (.int .i64 on) ∧ w'.cell? ⟨w.heap.size, 4, none⟩ = some (.slice A ob.length cap) ∧ w'.cell? ⟨m, 0, none⟩ = some (.int .i64 c.f0) ∧ w'.cell? ⟨m, 1, none⟩ = some (.int .i64 c.f1) ∧ w'.cell? ⟨m, 2, none⟩ = some (.int .i64 c.f2) ∧ w'.cell? ⟨m, 3, none⟩ = some (.int .i64 c.f3) ∧ w'.cell? ⟨m, 4, none⟩ = some (.int .i64 c.f4) ∧ w'.cell? ⟨m, 5, none⟩ = some (.int .i64 c.f5) ∧ w'.cell? ⟨m, 6, none⟩ = some (.int .i64 c.f6) ∧ w'.cell? ⟨m, 7, none⟩ = some (.int .i64 c.f7) ∧ w'.cell? ⟨m, 8, none⟩ = some (.int .i64 c.f8)) (first | exact ⟨by assumption, by assumption, by assumption, by assumption, by assumption, by assumption, by assumption, by assumption, by assumption, by assumption, by assumption, by assumption, by assumption, by assumption⟩ | exact ⟨o0, o1, o2, o3, o4, c0, c1, c2, c3, c4, c5, c6, c7, c8⟩)
   (first
    | (go_at_call 55; refine AK2.mono ?_; clear AK2; rintro x w5 ⟨rfl, ⟨y0, y1, y2, y3, y4, y5, y6, y7, y8, y9, y10, y11, y12, y13⟩, hA5⟩))
 clear o0 o1 o2 o3 o4 c0 c1 c2 c3 c4 c5 c6 c7 c8 y0 y1 y2 y3 y4 y5 y6 y7 y8 y9 y10 y11 y12 y13
 obtain ⟨hx, _, _, _, hC, hcap, _, _⟩ := hA.out
 obtain ⟨hB5, hs5, bD5, bO5⟩ := hA5.out
 have hB6 : Below w.heap.size w (w5.alloc (.cells #[.string oy, .string ot] 29)) := below_alloc hB5 _
 have bD6 := blk_alloc bD5 (.cells #[.string oy, .string ot] 29)
 have bO6 := blk_alloc bO5 (.cells #[.string oy, .string ot] 29)
 have bR6 := blk_new w5 (.cells #[.string oy, .string ot] 29)
 have o0 := blk_cell bO6 0
 have o1 := blk_cell bO6 1
 have o2 := blk_cell bO6 2
 have o3 := blk_cell bO6 3
 have o4 := blk_cell bO6 4
 simp at o0 o1 o2 o3 o4
 have hx6 := hx.frm (w' := w5.alloc (.cells #[.string oy, .string ot] 29)) (.of_below hB6)
 have SM := some_any hx6.hm hx6.hH hl oy ot on
 have r0 := blk_cell bR6 0
 have r1 := blk_cell bR6 1
 simp at r0 r1
 obtain ⟨l, hr⟩ : ∃ l, l = (someM oy ot L on).map toE := ⟨_, rfl⟩
 rw [← hr] at SM
 have hrA := aK_ hr
 clear hr
 have hA6 := aK_ (And.intro hB6 bD6)
 clear hx hC hcap hB5 hs5 bD5 bO5 hB6 bD6 bO6 bR6 hx6
 go_wp2_with (first
  | (go_at_call 53; refine SM.mono ?_; clear SM; rintro x w7 ⟨v, rfl, hR7, hb7⟩; obtain ⟨A7, p7, rfl⟩ := Kd.R_slice hR7; have bD7 := blk_below hA6.out.2 hb7; have y0 := blk_cell bD7 0; have y1 := blk_cell bD7 1; have y2 := blk_cell bD7 2; have y3 := blk_cell bD7 3; have y4 := blk_cell bD7 4; have y5 := blk_cell bD7 5; have q0 := blk_frozen bD7 0; have q1 := blk_frozen bD7 1; have q2 := blk_frozen bD7 2; have q3 := blk_frozen bD7 3; have q4 := blk_frozen bD7 4; have q5 := blk_frozen bD7 5; simp at y0 y1 y2 y3 y4 y5; have hA7 := aK_ (And.intro hb7 (And.intro bD7 hR7)); clear hb7 bD7 hR7))
 obtain ⟨hb7, bD7, hR7⟩ := hA7.out
 obtain hr := hrA.out
 clear hrA
 subst hr
 obtain ⟨hB6, bD6⟩ := hA6.out
 obtain ⟨hx, _, _, _, _, _, _, _⟩ := hA.out
 have hs6 := hB6.size
 have lD := blk_lt bD6
 have hB7 : Below w.heap.size w w7 := below_then hB6 hs6 hb7
 refine md_end (fun _ _ => rfl) ⟨fun k hk => Nat.lt_of_lt_of_le (hlt k hk) hB7.size, em, cb, nn, F, B, hx.frm (.of_below hB7)⟩ (.of_below hB7) (by omega) (g0 hlt _ (by omega)) rfl rfl rfl bD7 (fun W' f hs => ⟨_, _, rfl, ?_⟩)
 refine Kd.V_mono (Kd.V_step (V_of_R hR7) (fun j hj hjl => f.block j hjl (fun e => ?_))) (fun j hj => ⟨by omega, by omega, g0 hlt _ (by omega)⟩)
 omega
theorem opens {G1 : Nat → Nat} {w1 : World} {m : Nat} {c : Cf} {n sends : Int} {L : Row} {T : Int → List Cu} {N em cb nn1 : Nat} {F1 : Int → Option Nat} {B1 : Int → Nat} {who : Int} {p : Nat} (hx1 : Mx G1 w1 m c n sends L T N em cb nn1 F1 B1) (hF1 : F1 who = some p) (hN : N < 1000000) (hl : (T who).length < 1000000) (f t : ByteArray) :
  Calls Try.prog 15 #[.pointer (some ⟨p, 0, none⟩), .agg #[.string f, .string t]] w1 fun e w4 => e = .returned (.tuple #[.int .i64 (openV (T who) f t).2.1, .int .i64 (openV (T who) f t).2.2]) ∧ Mx G1 w4 m c n sends L (setT T who (openV (T who) f t).1) (N + 1) em cb nn1 F1 B1 ∧ It.FrM (fun k => G1 k ≠ 0) w1 w4 := by
 obtain ⟨_, h2, h3, k1, hk1, hTb⟩ := hx1.tab who p hF1
 refine (Cur.open_any hTb (by omega) (by omega) (by omega) (tabF_out (by omega)) f t).mono ?_
 rintro e w4 ⟨rfl, hT4, f4⟩
 by_cases hr : Cur.rrB f t = true
 ·obtain ⟨e1, e2, e3⟩ := open_tab (T who) f t hr
  rw [if_pos hr] at hT4
  refine ⟨?_, hx1.tabs hF1 f4 (by omega) (k := k1 + 1) (by omega) ?_⟩
  ·unfold openV; simp only [if_pos hr]
  rw [e1, e2, e3]; exact hT4
 rw [if_neg hr] at hT4
 have eo : openV (T who) f t = (T who, 0, 7) := by unfold openV; rw [if_neg hr]
 rw [eo]
 refine ⟨?_, hx1.tabs hF1 f4 (by omega) (k := k1) (by omega) hT4⟩
 simp only [if_neg hr]
theorem closes {G1 : Nat → Nat} {w1 : World} {m : Nat} {c : Cf} {n sends : Int} {L : Row} {T : Int → List Cu} {N em cb nn1 : Nat} {F1 : Int → Option Nat} {B1 : Int → Nat} {who : Int} {p : Nat} (hx1 : Mx G1 w1 m c n sends L T N em cb nn1 F1 B1) (hF1 : F1 who = some p) (k : Int) (hk : (Lit.int .i64 k).wf = true) :
  Calls Try.prog 18 #[.pointer (some ⟨p, 0, none⟩), .int .i64 k] w1 fun e w4 => e = .returned (.int .i64 (closeC (T who) k).2) ∧ Mx G1 w4 m c n sends L (setT T who (closeC (T who) k).1) N em cb nn1 F1 B1 ∧ It.FrM (fun k => G1 k ≠ 0) w1 w4 := by
 obtain ⟨_, h2, h3, k1, hk1, hTb⟩ := hx1.tab who p hF1
 refine (Cur.close_any hTb k hk).mono ?_
 rintro e w4 ⟨rfl, hT4, f4⟩
 obtain ⟨e1, e2, e3⟩ := close_tab (T who) k
 refine ⟨?_, hx1.tabs hF1 ⟨f4.os, f4.tape, f4.output, f4.size, fun j hj hn => f4.block j hj (fun h => hn (List.mem_cons_of_mem _ h))⟩ (Nat.le_refl _) hk1 ?_⟩
 ·unfold closeC; by_cases q : (tabF (T who) k).isSome = true
  ·simp only [if_pos q]
  simp only [if_neg q]
 rw [e1, e2]; exact hT4 _ e3
def Deed (G : Nat → Nat) (w : World) (m : Nat) (c : Cf) (n sends : Int) (L : Row) (T : Int → List Cu) (N : Nat) (w4 : World) : Prop := ∃ G', (∀ k, k < w.heap.size → G' k = G k) ∧ Mw G' w4 m c n sends L T N ∧ It.FrM (fun k => G k ≠ 0) w w4 ∧ G' (w.heap.size + 1) = 0 ∧ w4.heap[w.heap.size + 1]? = some rep0
theorem do_open {G : Nat → Nat} {w : World} {m : Nat} {c : Cf} {n sends : Int} {L : Row} {T : Int → List Cu} {N : Nat} (h : Mw G w m c n sends L T N) (who : Int) (hw : ¬ (who < 1 ∨ who > n)) (o : Oq) {A : Option Addr} {cap : Nat} (hC : Kd.C P.k117 w A o.b.length o.b) (hcap : o.b.length ≤ cap) (ka : Nat) (e : Int) (hask : room_Ask.f ka o.k o.y o.t o.n o.b c.f0 c.f1 c.f2 c.f3 c.f4 c.f5 c.f6 c.f7 c.f8 = some e) (hk : o.k = 4) (he : e = 0) (h1 : 1 ≤ who) (h2 : who ≤ 1000000) (hN : N + 1 < 1000000) (hl : (T who).length < 1000000) :
  Calls Try.prog 23 #[.pointer (some ⟨m, 0, none⟩), .int .i64 who, .agg #[.int .u8 o.k, .string o.y, .string o.t, .int .i64 o.n, .slice A o.b.length cap]] w (Md G w m c n (N + 2) ⟨(openV (T who) o.y o.t).2.2, false, e0, [], (openV (T who) o.y o.t).2.1, false⟩ sends L (setT T who (openV (T who) o.y o.t).1)) := by
 have hup := Try.underlying59
 have huo := Try.underlying56
 have hum := Try.underlying122
 have huc := Try.underlying47
 have hur := Try.underlying29
 obtain ⟨hlt, em, cb, nn, F, B, hx⟩ := h
 obtain ⟨ok, oy, ot, on, ob⟩ := o
 have hk : ok = 4 := hk
 subst hk
 subst he
 have q0 : (((0 : Int)) == 0) = true := rfl
 have hB0 : Below w.heap.size w ((w.alloc (objO ⟨4, oy, ot, on, ob⟩ A cap)).alloc rep0) := below_alloc (below_alloc (Below.refl _ _) _) _
 have bO : ((w.alloc (objO ⟨4, oy, ot, on, ob⟩ A cap)).alloc rep0).heap[w.heap.size]? = some (objO ⟨4, oy, ot, on, ob⟩ A cap) := blk_alloc (blk_new w _) _
 have bD : ((w.alloc (objO ⟨4, oy, ot, on, ob⟩ A cap)).alloc rep0).heap[w.heap.size + 1]? = some rep0 := by have := blk_new (w.alloc (objO ⟨4, oy, ot, on, ob⟩ A cap)) rep0; rwa [World.size_alloc] at this
 have hsz2 : ((w.alloc (objO ⟨4, oy, ot, on, ob⟩ A cap)).alloc rep0).heap.size = w.heap.size + 2 := by simp
 have x9 := blk_cell (blk_below hx.hm hB0) 9
 simp at x9
 have d0 := decide_eq_false (show ¬ who < 1 by omega)
 have d1 := decide_eq_false (show ¬ who > n by omega)
 have hA := aK_ (And.intro hx (And.intro hB0 (And.intro bO (And.intro bD (And.intro hC (And.intro hcap (And.intro hsz2 hask)))))))
 clear hx hB0 bO bD hC hcap hsz2 hask
 go_enter Try.func23, Try.ntmps23
 go_wp2
 obtain ⟨hx, hB0, bO, bD, hC, hcap, hsz2, hask⟩ := hA.out
 generalize (w.alloc (objO ⟨4, oy, ot, on, ob⟩ A cap)).alloc rep0 = w2 at hB0 bO bD hsz2 ⊢
 have hB0d := below_drew1 hB0
 have hm2 : w2.drew.heap[m]? = _ := blk_below hx.hm hB0d
 have bO2 : w2.drew.heap[w.heap.size]? = _ := bO
 have o0 := blk_cell bO2 0
 have o1 := blk_cell bO2 1
 have o2 := blk_cell bO2 2
 have o3 := blk_cell bO2 3
 have o4 := blk_cell bO2 4
 have c0 := blk_cell hm2 0
 have c1 := blk_cell hm2 1
 have c2 := blk_cell hm2 2
 have c3 := blk_cell hm2 3
 have c4 := blk_cell hm2 4
 have c5 := blk_cell hm2 5
 have c6 := blk_cell hm2 6
 have c7 := blk_cell hm2 7
 have c8 := blk_cell hm2 8
 simp at o0 o1 o2 o3 o4 c0 c1 c2 c3 c4 c5 c6 c7 c8
 have AK := room_Ask.calls ka 4 oy ot on A cap ob c.f0 c.f1 c.f2 c.f3 c.f4 c.f5 c.f6 c.f7 c.f8 0 w2.drew (Kd.C_below hC hB0d) hcap hask
 have AK2 := AK.mono (R' := fun x w' => x = .returned (.int .i64 0) ∧ (w'.cell? ⟨w.heap.size, 0, none⟩ = some (.int .u8 4) ∧ w'.cell? ⟨w.heap.size, 1, none⟩ = some (.string oy) ∧ w'.cell? ⟨w.heap.size, 2, none⟩ = some (.string ot) ∧ w'.cell? ⟨w.heap.size, 3, none⟩ = some (.int .i64 on) ∧ w'.cell? ⟨w.heap.size, 4, none⟩ = some (.slice A ob.length cap) ∧ w'.cell? ⟨m, 0, none⟩ = some (.int .i64 c.f0) ∧ w'.cell? ⟨m, 1, none⟩ = some (.int .i64 c.f1) ∧ w'.cell? ⟨m, 2, none⟩ = some (.int .i64 c.f2) ∧ w'.cell? ⟨m, 3, none⟩ = some (.int .i64 c.f3) ∧ w'.cell? ⟨m, 4, none⟩ = some (.int .i64 c.f4) ∧ w'.cell? ⟨m, 5, none⟩ = some (.int .i64 c.f5) ∧ w'.cell? ⟨m, 6, none⟩ = some (.int .i64 c.f6) ∧ w'.cell? ⟨m, 7, none⟩ = some (.int .i64 c.f7) ∧ w'.cell? ⟨m, 8, none⟩ = some (.int .i64 c.f8)) ∧ Aside0 (Below w.heap.size w w' ∧ w2.heap.size ≤ w'.heap.size ∧ w'.heap[w.heap.size + 1]? = some rep0 ∧ w'.heap[w.heap.size]? = some (objO ⟨4, oy, ot, on, ob⟩ A cap))) (by
  rintro x w' ⟨rfl, hb⟩
  have hm5 := blk_below hm2 hb
  have bO5 := blk_below bO2 hb
  have o0 := blk_cell bO5 0
  have o1 := blk_cell bO5 1
  have o2 := blk_cell bO5 2
  have o3 := blk_cell bO5 3
  have o4 := blk_cell bO5 4
  have c0 := blk_cell hm5 0
  have c1 := blk_cell hm5 1
  have c2 := blk_cell hm5 2
  have c3 := blk_cell hm5 3
  have c4 := blk_cell hm5 4
  have c5 := blk_cell hm5 5
  have c6 := blk_cell hm5 6
  have c7 := blk_cell hm5 7
  have c8 := blk_cell hm5 8
  simp at o0 o1 o2 o3 o4 c0 c1 c2 c3 c4 c5 c6 c7 c8
  have bD5 := blk_below (show w2.drew.heap[w.heap.size + 1]? = some rep0 from bD) hb
  exact ⟨rfl, ⟨o0, o1, o2, o3, o4, c0, c1, c2, c3, c4, c5, c6, c7, c8⟩, ⟨below_then hB0d hB0d.size hb, hb.size, bD5, bO5⟩⟩)
 have hA2 := aK_ hsz2
 clear AK hB0d hm2 bO2 hx hB0 bO bD hC hcap hsz2 hask
 go_region_held3 (fun w' => w'.cell? ⟨w.heap.size, 0, none⟩ = some (.int .u8 4) ∧ w'.cell? ⟨w.heap.size, 1, none⟩ = some (.string oy) ∧ w'.cell? ⟨w.heap.size, 2, none⟩ = some (.string ot) ∧ w'.cell? ⟨w.heap.size, 3, none⟩ = some (.int .i64 on) ∧ w'.cell? ⟨w.heap.size, 4, none⟩ = some (.slice A ob.length cap) ∧ w'.cell? ⟨m, 0, none⟩ = some (.int .i64 c.f0) ∧ w'.cell? ⟨m, 1, none⟩ = some (.int .i64 c.f1) ∧ w'.cell? ⟨m, 2, none⟩ = some (.int .i64 c.f2) ∧ w'.cell? ⟨m, 3, none⟩ = some (.int .i64 c.f3) ∧ w'.cell? ⟨m, 4, none⟩ = some (.int .i64 c.f4) ∧ w'.cell? ⟨m, 5, none⟩ = some (.int .i64 c.f5) ∧ w'.cell? ⟨m, 6, none⟩ = some (.int .i64 c.f6) ∧ w'.cell? ⟨m, 7, none⟩ = some (.int .i64 c.f7) ∧ w'.cell? ⟨m, 8, none⟩ = some (.int .i64 c.f8)) (first | exact ⟨by assumption, by assumption, by assumption, by assumption, by assumption, by assumption, by assumption, by assumption, by assumption, by assumption, by assumption, by assumption, by assumption, by assumption⟩ | exact ⟨o0, o1, o2, o3, o4, c0, c1, c2, c3, c4, c5, c6, c7, c8⟩)
   (first
    | (go_at_call 55; refine AK2.mono ?_; clear AK2; rintro x w5 ⟨rfl, ⟨y0, y1, y2, y3, y4, y5, y6, y7, y8, y9, y10, y11, y12, y13⟩, hA5⟩))
 clear o0 o1 o2 o3 o4 c0 c1 c2 c3 c4 c5 c6 c7 c8 y0 y1 y2 y3 y4 y5 y6 y7 y8 y9 y10 y11 y12 y13
 obtain ⟨hx, _, _, _, hC, hcap, _, _⟩ := hA.out
 obtain ⟨hB5, hs5, bD5, bO5⟩ := hA5.out
 have hB6 : Below w.heap.size w (w5.alloc (.cells #[.string oy, .string ot] 29)) := below_alloc hB5 _
 have bD6 := blk_alloc bD5 (.cells #[.string oy, .string ot] 29)
 have bO6 := blk_alloc bO5 (.cells #[.string oy, .string ot] 29)
 have bR6 := blk_new w5 (.cells #[.string oy, .string ot] 29)
 have o0 := blk_cell bO6 0
 have o1 := blk_cell bO6 1
 have o2 := blk_cell bO6 2
 have o3 := blk_cell bO6 3
 have o4 := blk_cell bO6 4
 simp at o0 o1 o2 o3 o4
 clear hx hC hcap hB5 hs5 bD5 bO5 hB6 bD6 bO6 bR6
 go_wp2
 obtain ⟨hx, _, _, _, hC, hcap, _, _⟩ := hA.out
 obtain ⟨hB5, hs5, bD5, bO5⟩ := hA5.out
 have hB6 : Below w.heap.size w (w5.alloc (.cells #[.string oy, .string ot] 29)) := below_alloc hB5 _
 have bD6 := blk_alloc bD5 (.cells #[.string oy, .string ot] 29)
 have bO6 := blk_alloc bO5 (.cells #[.string oy, .string ot] 29)
 have bR6 := blk_new w5 (.cells #[.string oy, .string ot] 29)
 generalize hw6 : w5.alloc (.cells #[.string oy, .string ot] 29) = w6 at hB6 bD6 bO6 bR6 ⊢
 have ls5 : w5.heap.size + 1 = w6.heap.size := by rw [← hw6]; simp
 clear hw6 o0 o1 o2 o3 o4
 have hB6d := below_drew1 hB6
 have bR7 : w6.drew.heap[w5.heap.size]? = _ := bR6
 have bO7 : w6.drew.heap[w.heap.size]? = _ := bO6
 have bD7 : w6.drew.heap[w.heap.size + 1]? = _ := bD6
 have u0 := blk_cell bR7 0
 have u1 := blk_cell bR7 1
 simp at u0 u1
 have lsd : w6.drew.heap.size = w6.heap.size := rfl
 have hsz := hA2.out
 have TB := (table_any (G := G) (fun k hk => Nat.lt_of_lt_of_le (hlt k hk) hB6d.size) (hx.frm (.of_below hB6d)) who h1 h2 (by omega)).mono (R' := fun e w1 => ∃ p, e = .returned (.pointer (some ⟨p, 0, none⟩)) ∧ (w1.cell? ⟨w5.heap.size, 0, none⟩ = some (.string oy) ∧ w1.cell? ⟨w5.heap.size, 1, none⟩ = some (.string ot)) ∧ Calls Try.prog 15 #[.pointer (some ⟨p, 0, none⟩), .agg #[.string oy, .string ot]] w1 (fun e w4 => e = .returned (.tuple #[.int .i64 (openV (T who) oy ot).2.1, .int .i64 (openV (T who) oy ot).2.2]) ∧ (w4.cell? ⟨w5.heap.size, 0, none⟩ = some (.string oy) ∧ w4.cell? ⟨w5.heap.size, 1, none⟩ = some (.string ot)) ∧ Aside0 (Deed G w m c n sends L (setT T who (openV (T who) oy ot).1) (N + 2) w4))) (by
  rintro e w1 ⟨p, rfl, G1, hG1, ⟨hlt1, nn1, F1, B1, hx1, hF1⟩, hf1⟩
  have z1 : G w5.heap.size = 0 := g0 hlt _ (by omega)
  have z2 : G (w.heap.size + 1) = 0 := g0 hlt _ (by omega)
  have z3 : G1 w5.heap.size = 0 := (hG1 _ (by omega)).trans z1
  have z4 : G1 (w.heap.size + 1) = 0 := (hG1 _ (by omega)).trans z2
  have bR1 := hf1.blk bR7 (by rw [z1]; simp)
  have bD1 := hf1.blk bD7 (by rw [z2]; simp)
  have a0 := blk_cell bR1 0
  have a1 := blk_cell bR1 1
  simp at a0 a1
  refine ⟨p, rfl, ⟨a0, a1⟩, (opens hx1 hF1 (by omega) hl oy ot).mono ?_⟩
  rintro e w4 ⟨rfl, hx4, hf4⟩
  have bR4 := hf4.blk bR1 (by rw [z3]; simp)
  have bD4 := hf4.blk bD1 (by rw [z4]; simp)
  have a0 := blk_cell bR4 0
  have a1 := blk_cell bR4 1
  simp at a0 a1
  refine ⟨rfl, ⟨a0, a1⟩, ⟨G1, fun k hk => hG1 k (by omega), ⟨fun k hk => Nat.lt_of_lt_of_le (hlt1 k hk) hf4.size, em, cb, nn1, F1, B1, hx4⟩, (((It.FrM.of_below hB6d).trans hf1 (fun i hi => .inl hi)).trans hf4 (fun i hi => ?_)), z4, bD4⟩⟩
  rcases Nat.lt_or_ge i w.heap.size with q | q
  ·rw [hG1 i (by omega)] at hi; exact .inl hi
  exact .inr q)
 clear hx hC hcap hB5 hs5 bD5 bO5 hB6 bD6 bO6 bR6 hB6d bR7 bO7 bD7 lsd ls5 hsz
 go_region_held3 (fun w' => (w'.cell? ⟨w5.heap.size, 0, none⟩ = some (.string oy) ∧ w'.cell? ⟨w5.heap.size, 1, none⟩ = some (.string ot))) (first | exact ⟨by assumption, by assumption⟩ | exact ⟨u0, u1⟩)
   (first
    | (go_at_call 58; refine TB.mono ?_; clear TB; rintro x w7 ⟨p, rfl, ⟨v0, v1⟩, OP⟩)
    | (go_at_call 15; refine OP.mono ?_; clear OP; rintro x w8 ⟨rfl, ⟨v2, v3⟩, hA8⟩))
 obtain ⟨G8, hG8, hM8, hf8, hD8, bD8⟩ := hA8.out
 have y0 := blk_cell bD8 0
 have y1 := blk_cell bD8 1
 have y2 := blk_cell bD8 2
 have y3 := blk_cell bD8 3
 have y4 := blk_cell bD8 4
 have y5 := blk_cell bD8 5
 have q0 := blk_frozen bD8 0
 have q1 := blk_frozen bD8 1
 have q2 := blk_frozen bD8 2
 have q3 := blk_frozen bD8 3
 have q4 := blk_frozen bD8 4
 have q5 := blk_frozen bD8 5
 simp at y0 y1 y2 y3 y4 y5
 clear hG8 hM8 hf8 hD8 bD8 u0 u1 v0 v1 v2 v3
 go_wp2
 obtain ⟨G8, hG8, hM8, hf8, hD8, bD8⟩ := hA8.out
 exact md_end hG8 hM8 hf8 (by omega) hD8 rfl rfl rfl bD8 (fun W' _ _ => RepV.bare _ _ _ _ _ _ _)
end Go.Proofs.Ytljnlnbopohghaa.Mdl
end
section
namespace Go.Proofs.Ytljnlnbopohghaa.Mdl
open Go.RowKit Go.Shelf Go.Proofs.YtljnlnbopohghaaW.PrintWords Go.Proofs.YtljnlnbopohghaaW.PrintLast Go.Proofs.YtljnlnbopohghaaW.PrintMore Go.Proofs.Ytljnlnbopohghaa.Own Go.Proofs.Ytljnlnbopohghaa.Ord Go.Proofs.Ytljnlnbopohghaa Go.Proofs.Ytljnlnbopohghaa.P
open List renaming setIfInBounds_toArray → sA1, set_cons_zero → sA2, set_cons_succ → sA3, getElem_toArray → sA4, getElem_cons_zero → sA5, getElem_cons_succ → sA6
open Go.Proofs.Ytljnlnbopohghaa.OrdSm (Hold hold_get)
set_option maxHeartbeats 2000000
set_option maxRecDepth 100000
theorem closeT23 : rtab .any (opsOf Try.f23 23) = rtab .any (opsOf Try.f23 23) := rfl
theorem do_close {G : Nat → Nat} {w : World} {m : Nat} {c : Cf} {n sends : Int} {L : Row} {T : Int → List Cu} {N : Nat} (h : Mw G w m c n sends L T N) (who : Int) (hw : ¬ (who < 1 ∨ who > n)) (o : Oq) {A : Option Addr} {cap : Nat} (hC : Kd.C P.k117 w A o.b.length o.b) (hcap : o.b.length ≤ cap) (ka : Nat) (e : Int) (hask : room_Ask.f ka o.k o.y o.t o.n o.b c.f0 c.f1 c.f2 c.f3 c.f4 c.f5 c.f6 c.f7 c.f8 = some e) (hk : o.k = 6) (he : e = 0) (h1 : 1 ≤ who) (h2 : who ≤ 1000000) (hN : N + 1 < 1000000) (hkw : (Lit.int .i64 o.n).wf = true) :
  Calls Try.prog 23 #[.pointer (some ⟨m, 0, none⟩), .int .i64 who, .agg #[.int .u8 o.k, .string o.y, .string o.t, .int .i64 o.n, .slice A o.b.length cap]] w (Md G w m c n (N + 2) ⟨(closeC (T who) o.n).2, false, e0, [], 0, false⟩ sends L (setT T who (closeC (T who) o.n).1)) := by
 have hup := Try.underlying59
 have huo := Try.underlying56
 have hum := Try.underlying122
 have huc := Try.underlying47
 have hur := Try.underlying29
 obtain ⟨hlt, em, cb, nn, F, B, hx⟩ := h
 obtain ⟨ok, oy, ot, on, ob⟩ := o
 have hk : ok = 6 := hk
 subst hk
 subst he
 have q0 : (((0 : Int)) == 0) = true := rfl
 have hB0 : Below w.heap.size w ((w.alloc (objO ⟨6, oy, ot, on, ob⟩ A cap)).alloc rep0) := below_alloc (below_alloc (Below.refl _ _) _) _
 have bO : ((w.alloc (objO ⟨6, oy, ot, on, ob⟩ A cap)).alloc rep0).heap[w.heap.size]? = some (objO ⟨6, oy, ot, on, ob⟩ A cap) := blk_alloc (blk_new w _) _
 have bD : ((w.alloc (objO ⟨6, oy, ot, on, ob⟩ A cap)).alloc rep0).heap[w.heap.size + 1]? = some rep0 := by have := blk_new (w.alloc (objO ⟨6, oy, ot, on, ob⟩ A cap)) rep0; rwa [World.size_alloc] at this
 have hsz2 : ((w.alloc (objO ⟨6, oy, ot, on, ob⟩ A cap)).alloc rep0).heap.size = w.heap.size + 2 := by simp
 have x9 := blk_cell (blk_below hx.hm hB0) 9
 simp at x9
 have d0 := decide_eq_false (show ¬ who < 1 by omega)
 have d1 := decide_eq_false (show ¬ who > n by omega)
 have hA := aK_ (And.intro hx (And.intro hB0 (And.intro bO (And.intro bD (And.intro hC (And.intro hcap (And.intro hsz2 hask)))))))
 clear hx hB0 bO bD hC hcap hsz2 hask
 go_enter Try.func23, Try.ntmps23
 go_wp2
 obtain ⟨hx, hB0, bO, bD, hC, hcap, hsz2, hask⟩ := hA.out
 generalize (w.alloc (objO ⟨6, oy, ot, on, ob⟩ A cap)).alloc rep0 = w2 at hB0 bO bD hsz2 ⊢
 have hB0d := below_drew1 hB0
 have hm2 : w2.drew.heap[m]? = _ := blk_below hx.hm hB0d
 have bO2 : w2.drew.heap[w.heap.size]? = _ := bO
 have o0 := blk_cell bO2 0
 have o1 := blk_cell bO2 1
 have o2 := blk_cell bO2 2
 have o3 := blk_cell bO2 3
 have o4 := blk_cell bO2 4
 have c0 := blk_cell hm2 0
 have c1 := blk_cell hm2 1
 have c2 := blk_cell hm2 2
 have c3 := blk_cell hm2 3
 have c4 := blk_cell hm2 4
 have c5 := blk_cell hm2 5
 have c6 := blk_cell hm2 6
 have c7 := blk_cell hm2 7
 have c8 := blk_cell hm2 8
 simp at o0 o1 o2 o3 o4 c0 c1 c2 c3 c4 c5 c6 c7 c8
 have AK := room_Ask.calls ka 6 oy ot on A cap ob c.f0 c.f1 c.f2 c.f3 c.f4 c.f5 c.f6 c.f7 c.f8 0 w2.drew (Kd.C_below hC hB0d) hcap hask
 have AK2 := AK.mono (R' := fun x w' => x = .returned (.int .i64 0) ∧ (w'.cell? ⟨w.heap.size, 0, none⟩ = some (.int .u8 6) ∧ w'.cell? ⟨w.heap.size, 1, none⟩ = some (.string oy) ∧ w'.cell? ⟨w.heap.size, 2, none⟩ = some (.string ot) ∧ w'.cell? ⟨w.heap.size, 3, none⟩ = some (.int .i64 on) ∧ w'.cell? ⟨w.heap.size, 4, none⟩ = some (.slice A ob.length cap) ∧ w'.cell? ⟨m, 0, none⟩ = some (.int .i64 c.f0) ∧ w'.cell? ⟨m, 1, none⟩ = some (.int .i64 c.f1) ∧ w'.cell? ⟨m, 2, none⟩ = some (.int .i64 c.f2) ∧ w'.cell? ⟨m, 3, none⟩ = some (.int .i64 c.f3) ∧ w'.cell? ⟨m, 4, none⟩ = some (.int .i64 c.f4) ∧ w'.cell? ⟨m, 5, none⟩ = some (.int .i64 c.f5) ∧ w'.cell? ⟨m, 6, none⟩ = some (.int .i64 c.f6) ∧ w'.cell? ⟨m, 7, none⟩ = some (.int .i64 c.f7) ∧ w'.cell? ⟨m, 8, none⟩ = some (.int .i64 c.f8)) ∧ Aside0 (Below w.heap.size w w' ∧ w2.heap.size ≤ w'.heap.size ∧ w'.heap[w.heap.size + 1]? = some rep0 ∧ w'.heap[w.heap.size]? = some (objO ⟨6, oy, ot, on, ob⟩ A cap))) (by
  rintro x w' ⟨rfl, hb⟩
  have hm5 := blk_below hm2 hb
  have bO5 := blk_below bO2 hb
  have o0 := blk_cell bO5 0
  have o1 := blk_cell bO5 1
  have o2 := blk_cell bO5 2
  have o3 := blk_cell bO5 3
  have o4 := blk_cell bO5 4
  have c0 := blk_cell hm5 0
  have c1 := blk_cell hm5 1
  have c2 := blk_cell hm5 2
  have c3 := blk_cell hm5 3
  have c4 := blk_cell hm5 4
  have c5 := blk_cell hm5 5
  have c6 := blk_cell hm5 6
  have c7 := blk_cell hm5 7
  have c8 := blk_cell hm5 8
  simp at o0 o1 o2 o3 o4 c0 c1 c2 c3 c4 c5 c6 c7 c8
  have bD5 := blk_below (show w2.drew.heap[w.heap.size + 1]? = some rep0 from bD) hb
  exact ⟨rfl, ⟨o0, o1, o2, o3, o4, c0, c1, c2, c3, c4, c5, c6, c7, c8⟩, ⟨below_then hB0d hB0d.size hb, hb.size, bD5, bO5⟩⟩)
 have hA2 := aK_ hsz2
 clear AK hB0d hm2 bO2 hx hB0 bO bD hC hcap hsz2 hask
 go_region_held3 (fun w' => w'.cell? ⟨w.heap.size, 0, none⟩ = some (.int .u8 6) ∧ w'.cell? ⟨w.heap.size, 1, none⟩ = some (.string oy) ∧ w'.cell? ⟨w.heap.size, 2, none⟩ = some (.string ot) ∧ w'.cell? ⟨w.heap.size, 3, none⟩ = some (.int .i64 on) ∧ w'.cell? ⟨w.heap.size, 4, none⟩ = some (.slice A ob.length cap) ∧ w'.cell? ⟨m, 0, none⟩ = some (.int .i64 c.f0) ∧ w'.cell? ⟨m, 1, none⟩ = some (.int .i64 c.f1) ∧ w'.cell? ⟨m, 2, none⟩ = some (.int .i64 c.f2) ∧ w'.cell? ⟨m, 3, none⟩ = some (.int .i64 c.f3) ∧ w'.cell? ⟨m, 4, none⟩ = some (.int .i64 c.f4) ∧ w'.cell? ⟨m, 5, none⟩ = some (.int .i64 c.f5) ∧ w'.cell? ⟨m, 6, none⟩ = some (.int .i64 c.f6) ∧ w'.cell? ⟨m, 7, none⟩ = some (.int .i64 c.f7) ∧ w'.cell? ⟨m, 8, none⟩ = some (.int .i64 c.f8)) (first | exact ⟨by assumption, by assumption, by assumption, by assumption, by assumption, by assumption, by assumption, by assumption, by assumption, by assumption, by assumption, by assumption, by assumption, by assumption⟩ | exact ⟨o0, o1, o2, o3, o4, c0, c1, c2, c3, c4, c5, c6, c7, c8⟩)
   (first
    | (go_at_call 55; refine AK2.mono ?_; clear AK2; rintro x w5 ⟨rfl, ⟨y0, y1, y2, y3, y4, y5, y6, y7, y8, y9, y10, y11, y12, y13⟩, hA5⟩))
 clear o0 o1 o2 o3 o4 c0 c1 c2 c3 c4 c5 c6 c7 c8 y0 y1 y2 y3 y4 y5 y6 y7 y8 y9 y10 y11 y12 y13
 obtain ⟨hx, _, _, _, hC, hcap, _, _⟩ := hA.out
 obtain ⟨hB5, hs5, bD5, bO5⟩ := hA5.out
 have hB6 : Below w.heap.size w (w5.alloc (.cells #[.string oy, .string ot] 29)) := below_alloc hB5 _
 have bD6 := blk_alloc bD5 (.cells #[.string oy, .string ot] 29)
 have bO6 := blk_alloc bO5 (.cells #[.string oy, .string ot] 29)
 have bR6 := blk_new w5 (.cells #[.string oy, .string ot] 29)
 have o0 := blk_cell bO6 0
 have o1 := blk_cell bO6 1
 have o2 := blk_cell bO6 2
 have o3 := blk_cell bO6 3
 have o4 := blk_cell bO6 4
 simp at o0 o1 o2 o3 o4
 clear hx hC hcap hB5 hs5 bD5 bO5 hB6 bD6 bO6 bR6
 go_wp2
 obtain ⟨hx, _, _, _, hC, hcap, _, _⟩ := hA.out
 obtain ⟨hB5, hs5, bD5, bO5⟩ := hA5.out
 have hB6 : Below w.heap.size w (w5.alloc (.cells #[.string oy, .string ot] 29)) := below_alloc hB5 _
 have bD6 := blk_alloc bD5 (.cells #[.string oy, .string ot] 29)
 have bO6 := blk_alloc bO5 (.cells #[.string oy, .string ot] 29)
 have bR6 := blk_new w5 (.cells #[.string oy, .string ot] 29)
 generalize hw6 : w5.alloc (.cells #[.string oy, .string ot] 29) = w6 at hB6 bD6 bO6 bR6 ⊢
 have ls5 : w5.heap.size + 1 = w6.heap.size := by rw [← hw6]; simp
 clear hw6 o0 o1 o2 o3 o4
 have hB6d := below_drew1 hB6
 have bR7 : w6.drew.heap[w5.heap.size]? = _ := bR6
 have bO7 : w6.drew.heap[w.heap.size]? = _ := bO6
 have bD7 : w6.drew.heap[w.heap.size + 1]? = _ := bD6
 have u0 := blk_cell bO7 3
 simp at u0
 have lsd : w6.drew.heap.size = w6.heap.size := rfl
 have hsz := hA2.out
 have TB := (table_any (G := G) (fun k hk => Nat.lt_of_lt_of_le (hlt k hk) hB6d.size) (hx.frm (.of_below hB6d)) who h1 h2 (by omega)).mono (R' := fun e w1 => ∃ p, e = .returned (.pointer (some ⟨p, 0, none⟩)) ∧ w1.cell? ⟨w.heap.size, 3, none⟩ = some (.int .i64 on) ∧ Calls Try.prog 18 #[.pointer (some ⟨p, 0, none⟩), .int .i64 on] w1 (fun e w4 => e = .returned (.int .i64 (closeC (T who) on).2) ∧ w4.cell? ⟨w.heap.size, 3, none⟩ = some (.int .i64 on) ∧ Aside0 (Deed G w m c n sends L (setT T who (closeC (T who) on).1) (N + 2) w4))) (by
  rintro e w1 ⟨p, rfl, G1, hG1, ⟨hlt1, nn1, F1, B1, hx1, hF1⟩, hf1⟩
  have z1 : G w.heap.size = 0 := g0 hlt _ (by omega)
  have z2 : G (w.heap.size + 1) = 0 := g0 hlt _ (by omega)
  have z3 : G1 w.heap.size = 0 := (hG1 _ (by omega)).trans z1
  have z4 : G1 (w.heap.size + 1) = 0 := (hG1 _ (by omega)).trans z2
  have bR1 := hf1.blk bO7 (by rw [z1]; simp)
  have bD1 := hf1.blk bD7 (by rw [z2]; simp)
  have a0 := blk_cell bR1 3
  simp at a0
  refine ⟨p, rfl, a0, (closes hx1 hF1 on hkw).mono ?_⟩
  rintro e w4 ⟨rfl, hx4, hf4⟩
  have bR4 := hf4.blk bR1 (by rw [z3]; simp)
  have bD4 := hf4.blk bD1 (by rw [z4]; simp)
  have a0 := blk_cell bR4 3
  simp at a0
  refine ⟨rfl, a0, ⟨G1, fun k hk => hG1 k (by omega), ⟨fun k hk => Nat.lt_of_lt_of_le (hlt1 k hk) hf4.size, em, cb, nn1, F1, B1, hx4.mono (by omega)⟩, (((It.FrM.of_below hB6d).trans hf1 (fun i hi => .inl hi)).trans hf4 (fun i hi => ?_)), z4, bD4⟩⟩
  rcases Nat.lt_or_ge i w.heap.size with q | q
  ·rw [hG1 i (by omega)] at hi; exact .inl hi
  exact .inr q)
 clear hx hC hcap hB5 hs5 bD5 bO5 hB6 bD6 bO6 bR6 hB6d bR7 bO7 bD7 lsd ls5 hsz
 refine start_ (n := 8) (S := fun w' : World => w'.cell? ⟨w.heap.size, 3, none⟩ = some (.int .i64 on)) (ds := [7]) #[false, false, false, false, false, false, false, false] (by kernel_rfl) rfl rfl u0 (fun hHeld => ?_)
 have HT_ := aK_ closeT23
 refine pU_ 0 97 #[true, false, false, false, false, false, false, false] ?_
 refine pU_ 1 98 #[true, true, false, false, false, false, false, false] ?_
 refine pU_ 3 100 #[true, true, false, true, false, false, false, false] ?_
 refine take_ (i := 4) (N := some 101) (v := ?_) (a' := ?_) #[true, true, false, true, true, false, false, false] rfl rfl (take_of HT_.out (by kernel_rfl)) (fun _ _ _ h => h) (Or.inl ⟨by rfl, ?_⟩) hHeld ?_ ?_
 rotate_left
 ·rintro w' s0
  go_simp
  with_reducible rfl
 rotate_left
 ·simp only [Act.put, sA1, sA2, sA3, i64_w, i32_w]
  rfl
 refine one_ (i := 2) (N := some 99) #[true, true, true, true, true, false, false, false] rfl rfl (one_of HT_.out (by kernel_rfl)) (by decide) (fun K hK => ?_)
 refine goes_ Try.func58 (by kernel_rfl) rfl #[.pointer (some ⟨m, 0, none⟩), .int .i64 who] (by rfl) rfl rfl (by (try simp only [List.map_toArray, List.map_cons, List.map_nil]); first | done | rfl) ?_
 refine (TB).mono ?_
 rintro x w7 ⟨p, rfl, v0, OP⟩
 refine ⟨_, rfl, ?_⟩
 clear TB
 refine hK.out _ _ v0 (fun hHeld => ?_)
 clear hK K
 refine norm_ (a' := ?_) ?_ ?_
 rotate_left
 ·show Act.put _ (some 99) _ = _
  simp only [Act.put, sA1, sA2, sA3, i64_w, i32_w]
  rfl
 refine one_ (i := 5) (N := some 102) #[true, true, true, true, true, true, false, false] rfl rfl (one_of HT_.out (by kernel_rfl)) (by decide) (fun K hK => ?_)
 refine goes_ Try.func18 (by kernel_rfl) rfl #[.pointer (some ⟨p, 0, none⟩), .int .i64 on] (by rfl) rfl rfl (by (try simp only [List.map_toArray, List.map_cons, List.map_nil]); first | done | rfl) ?_
 refine (OP).mono ?_
 rintro x w8 ⟨rfl, v2, hA8⟩
 refine ⟨_, rfl, ?_⟩
 clear OP
 obtain ⟨G8, hG8, hM8, hf8, hD8, bD8⟩ := hA8.out
 have y0 := blk_cell bD8 0
 have y1 := blk_cell bD8 1
 have y2 := blk_cell bD8 2
 have y3 := blk_cell bD8 3
 have y4 := blk_cell bD8 4
 have y5 := blk_cell bD8 5
 have q0 := blk_frozen bD8 0
 have q1 := blk_frozen bD8 1
 have q2 := blk_frozen bD8 2
 have q3 := blk_frozen bD8 3
 have q4 := blk_frozen bD8 4
 have q5 := blk_frozen bD8 5
 simp at y0 y1 y2 y3 y4 y5
 clear hG8 hM8 hf8 hD8 bD8
 refine hK.out _ _ v2 (fun hHeld => ?_)
 clear hK K
 refine norm_ (a' := ?_) ?_ ?_
 rotate_left
 ·show Act.put _ (some 102) _ = _
  simp only [Act.put, sA1, sA2, sA3, i64_w, i32_w]
  rfl
 refine pU_ 6 103 #[true, true, true, true, true, true, true, false] ?_
 refine last_ (i := 7) (N := none) #[true, true, true, true, true, true, true, true] rfl rfl (one_of HT_.out (by kernel_rfl)) (by decide) (fun K hK => ?_)
 refine skip_ (w1 := (setRep w8 (w.heap.size + 1) (.int .i64 (closeC (T who) on).2) (.bool false) (.string ⟨#[]⟩) (.slice none 0 0) (.int .i64 0) (.bool false))) (by rfl) rfl ?_ ?_
 ·first | (go_simp; done) | (go_simp; rfl)
 refine hK.out _ _ ?_
 clear hK K
 refine done_ (done_of HT_.out (by kernel_rfl)) ?_
 clear u0 v0 v2 hHeld
 go_wp2
 obtain ⟨G8, hG8, hM8, hf8, hD8, bD8⟩ := hA8.out
 exact md_end hG8 hM8 hf8 (by omega) hD8 rfl rfl rfl bD8 (fun W' _ _ => RepV.bare _ _ _ _ _ _ _)
end Go.Proofs.Ytljnlnbopohghaa.Mdl
end
