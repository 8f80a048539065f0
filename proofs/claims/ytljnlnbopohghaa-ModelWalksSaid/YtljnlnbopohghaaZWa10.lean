/- Texts of one claim (laid by shake.py). -/
import Derived.Test.YtljnlnbopohghaaZWa6
import Derived.Test.YtljnlnbopohghaaZWa8
import Derived.Test.YtljnlnbopohghaaZWa9
import Derived.Test.YtljnlnbopohghaaZWa7
import Derived.Test.YtljnlnbopohghaaProg
import Derived.Test.YtljnlnbopohghaaZWa2
import Derived.StillTailTactics
import Derived.Maps.OwnSet
import Derived.WalkArith
import Derived.Maps.OwnOps
import Derived.Test.YtljnlnbopohghaaZWa3
set_option linter.unusedVariables false
set_option linter.unusedSimpArgs false
section
namespace Go.Proofs.Ytljnlnbopohghaa.P
open Go.RowKit Go.Proofs.YtljnlnbopohghaaW.PrintWords Go.Proofs.YtljnlnbopohghaaW.PrintLast Go.Proofs.YtljnlnbopohghaaW.PrintMore Go.Proofs.Ytljnlnbopohghaa.Own Go.Proofs.Ytljnlnbopohghaa
abbrev Ms := S117
abbrev En := S103
theorem drop_any {α : Type} {L l : List α} {i : Nat} {x : α} (hd : L.drop i = x :: l) : i < L.length ∧ L[i]? = some x ∧ L.drop (i + 1) = l ∧ L.take (i + 1) = L.take i ++ [x] ∧ x ∈ L := by
 have hlt : i < L.length := by
  rcases Nat.lt_or_ge i L.length with h | h
  ·exact h
  rw [List.drop_eq_nil_of_le h] at hd; cases hd
 have hx : L[i]? = some x := by
  have := congrArg (fun z => z[0]?) hd
  simpa using this
 refine ⟨hlt, hx, ?_, ?_, List.mem_of_getElem? hx⟩
 ·have := congrArg (List.drop 1) hd
  simpa [List.drop_drop] using this
 rw [List.take_add_one, hx]; rfl
theorem drop_none {α : Type} {L : List α} {i : Nat} (hd : L.drop i = []) (hi : i ≤ L.length) : i = L.length := by
 have := congrArg List.length hd
 simp at this
 omega
theorem rdS_at {L : List ByteArray} {i : Nat} {x : ByteArray} (h : L[i]? = some x) : rdOf ByteArray.empty L (i : Int) = x := by
 show L.getD ((i : Int).toNat) _ = x
 rw [Int.toNat_natCast, List.getD_eq_getElem?_getD, h]; rfl
theorem rdE_at {L : List En} {i : Nat} {x : En} (h : L[i]? = some x) : rd_T103 L (i : Int) = x := by
 show L.getD ((i : Int).toNat) _ = x
 rw [Int.toNat_natCast, List.getD_eq_getElem?_getD, h]; rfl
theorem rdM_at {L : List Ms} {i : Nat} {x : Ms} (h : L[i]? = some x) : rd_T117 L (i : Int) = x := by
 show L.getD ((i : Int).toNat) _ = x
 rw [Int.toNat_natCast, List.getD_eq_getElem?_getD, h]; rfl
theorem wrap1 {i : Nat} (h : i ≤ 1000000) : wrap64 ((i : Int) + 1) = ((i + 1 : Nat) : Int) := by rw [IntWalk.wrap64_in _ (by omega)]; omega
def intoV : List ByteArray → ByteArray → List ByteArray
 | [], s => [s]
 | x :: l, s => if lt x s = true then x :: intoV l s else if same x s = true then x :: l else s :: x :: l
theorem intoV_length (s : ByteArray) : ∀ L : List ByteArray, (intoV L s).length ≤ L.length + 1
 | [] => by simp [intoV]
 | x :: l => by
  have := intoV_length s l
  simp only [intoV]
  split
  ·simp; omega
  split <;> simp
theorem Into_loop (L : List ByteArray) (s : ByteArray) (hL : L.length ≤ 1000000) : ∀ (l : List ByteArray) (k i : Nat), L.drop i = l → i ≤ L.length → l.length < k → catchmentref05_Into.l0 k L s i = some (L.take i ++ intoV l s) := by
 intro l
 induction l with
 | nil =>
  intro k i hd hi hk
  obtain ⟨k, rfl⟩ : ∃ m, k = m + 1 := ⟨k - 1, by simp at hk; omega⟩
  obtain rfl := drop_none hd hi
  rw [catchmentref05_Into.l0, if_neg (by omega)]
  simp only [Option.bind_some]
  rw [if_pos (by omega), if_pos (by omega), if_pos (by simp; omega), if_pos (by simp; omega), if_pos (by simp; omega)]
  simp [intoV]
 | cons x l ih =>
  intro k i hd hi hk
  obtain ⟨k, rfl⟩ : ∃ m, k = m + 1 := ⟨k - 1, by simp at hk; omega⟩
  obtain ⟨hlt, hx, hd2, ht, _⟩ := drop_any hd
  rw [catchmentref05_Into.l0, if_pos (by omega), if_pos (by omega), rdS_at hx, wrap1 (by omega)]
  have e1 : ((i : Int)).toNat = i := by omega
  unfold intoV lt same
  by_cases h1 : Op.bytesLess x.toList s.toList = true
  ·rw [if_pos h1, if_pos h1, ih k (i + 1) hd2 (by omega) (by simp at hk; omega), ht]
   simp
  rw [if_neg h1, if_neg h1]
  by_cases h2 : x.toList = s.toList
  ·rw [if_pos h2, if_pos (by simpa using h2), ← hd, List.take_append_drop]
  rw [if_neg h2, if_neg (by simpa using h2)]
  simp only [Option.bind_some]
  rw [if_pos (by omega), if_pos (by simp; omega), if_pos (by simp; omega), if_pos (by simp; omega), e1, hd]
  simp
theorem Into_eq (k : Nat) (L : List ByteArray) (s : ByteArray) (hL : L.length ≤ 1000000) (hk : L.length < k) : catchmentref05_Into.f k L s = some (intoV L s) := by
 have := Into_loop L s hL L k 0 rfl (by omega) hk
 simpa [catchmentref05_Into.f] using this
def keysFrom : List ByteArray → List Ms → List ByteArray
 | o, [] => o
 | o, m :: l => keysFrom (if isPt m.f0 = true then intoV o m.f2 else o) l
def keysV (l : List Ms) : List ByteArray := keysFrom [] l
theorem keysFrom_length : ∀ (l : List Ms) (o : List ByteArray), (keysFrom o l).length ≤ o.length + l.length
 | [], o => by simp [keysFrom]
 | m :: l, o => by
  have h1 := keysFrom_length l (if isPt m.f0 = true then intoV o m.f2 else o)
  have h2 := intoV_length m.f2 o
  simp only [keysFrom, List.length_cons]
  by_cases h : isPt m.f0 = true
  ·rw [if_pos h] at h1 ⊢; omega
  rw [if_neg h] at h1 ⊢; omega
theorem Keys_loop (L : List Ms) (hL : L.length ≤ 100000) : ∀ (l : List Ms) (k i : Nat) (o : List ByteArray), L.drop i = l → i ≤ L.length → o.length + l.length ≤ 100000 → o.length + l.length + l.length < k → catchmentref05_Keys.l0 k L o i = some (keysFrom o l) := by
 intro l
 induction l with
 | nil =>
  intro k i o hd hi ho hk
  obtain ⟨k, rfl⟩ : ∃ m, k = m + 1 := ⟨k - 1, by omega⟩
  obtain rfl := drop_none hd hi
  rw [catchmentref05_Keys.l0, if_neg (by omega)]
  rfl
 | cons x l ih =>
  intro k i o hd hi ho hk
  simp only [List.length_cons] at ho hk
  obtain ⟨k, rfl⟩ : ∃ m, k = m + 1 := ⟨k - 1, by omega⟩
  obtain ⟨hlt, hx, hd2, _, _⟩ := drop_any hd
  have hlen := intoV_length x.f2 o
  rw [catchmentref05_Keys.l0, if_pos (by omega), if_pos (by omega), rdM_at hx, wrap1 (by omega), Point_eq, Into_eq _ _ _ (by omega) (by omega)]
  simp only [Option.bind_some, keysFrom]
  by_cases h : isPt x.f0 = true
  ·rw [if_pos h, if_pos h]
   exact ih k (i + 1) _ hd2 (by omega) (by omega) (by omega)
  rw [if_neg h, if_neg h]
  exact ih k (i + 1) _ hd2 (by omega) (by omega) (by omega)
theorem Keys_eq (k : Nat) (l : List Ms) (hl : l.length ≤ 100000) (hk : 2 * l.length < k) : catchmentref05_Keys.f k l = some (keysV l) :=
 Keys_loop l hl l k 0 [] rfl (by omega) (by simp; omega) (by simp; omega)
def addKeys : List ByteArray → List En → List ByteArray
 | o, [] => o
 | o, x :: l => addKeys (intoV o x.f0) l
def namedV (l : List Ms) (e : List En) : List ByteArray := addKeys (keysV l) e
theorem addKeys_length : ∀ (l : List En) (o : List ByteArray), (addKeys o l).length ≤ o.length + l.length
 | [], o => by simp [addKeys]
 | x :: l, o => by
  have h1 := addKeys_length l (intoV o x.f0)
  have h2 := intoV_length x.f0 o
  simp only [addKeys, List.length_cons]
  omega
theorem namedV_length (l : List Ms) (e : List En) : (namedV l e).length ≤ l.length + e.length := by
 have h1 := addKeys_length e (keysV l)
 have h2 := keysFrom_length l []
 unfold namedV
 unfold keysV at h1 ⊢
 simp at h2
 omega
theorem Named_loop (L : List En) (hL : L.length ≤ 100000) : ∀ (l : List En) (k i : Nat) (o : List ByteArray), L.drop i = l → i ≤ L.length → o.length + l.length ≤ 200000 → o.length + l.length + l.length < k → catchmentref05_Named.l0 k L o i = some (addKeys o l) := by
 intro l
 induction l with
 | nil =>
  intro k i o hd hi ho hk
  obtain ⟨k, rfl⟩ : ∃ m, k = m + 1 := ⟨k - 1, by omega⟩
  obtain rfl := drop_none hd hi
  rw [catchmentref05_Named.l0, if_neg (by omega)]
  rfl
 | cons x l ih =>
  intro k i o hd hi ho hk
  simp only [List.length_cons] at ho hk
  obtain ⟨k, rfl⟩ : ∃ m, k = m + 1 := ⟨k - 1, by omega⟩
  obtain ⟨hlt, hx, hd2, _, _⟩ := drop_any hd
  have hlen := intoV_length x.f0 o
  rw [catchmentref05_Named.l0, if_pos (by omega), if_pos (by omega), rdE_at hx, wrap1 (by omega), Into_eq _ _ _ (by omega) (by omega)]
  simp only [Option.bind_some, addKeys]
  exact ih k (i + 1) _ hd2 (by omega) (by omega) (by omega)
theorem Named_eq (k : Nat) (l : List Ms) (e : List En) (hl : l.length ≤ 100000) (he : e.length ≤ 100000) (hk : 2 * l.length + 2 * e.length < k) : catchmentref05_Named.f k l e = some (namedV l e) := by
 have h2 := keysFrom_length l []
 simp only [List.length_nil] at h2
 unfold catchmentref05_Named.f
 rw [Keys_eq k l hl (by omega)]
 simp only [Option.bind_some]
 exact Named_loop e he e k 0 _ rfl (by omega) (by unfold keysV; omega) (by unfold keysV; omega)
def findV : List En → ByteArray → ByteArray × Bool
 | [], _ => (e0, false)
 | x :: l, s => if same x.f0 s = true then (x.f1, true) else findV l s
theorem Find_loop (L : List En) (s : ByteArray) (hL : L.length ≤ 1000000) : ∀ (l : List En) (k i : Nat), L.drop i = l → i ≤ L.length → l.length < k → catchmentref05_Find.l0 k L s i = some (findV l s) := by
 intro l
 induction l with
 | nil =>
  intro k i hd hi hk
  obtain ⟨k, rfl⟩ : ∃ m, k = m + 1 := ⟨k - 1, by omega⟩
  obtain rfl := drop_none hd hi
  rw [catchmentref05_Find.l0, if_neg (by omega)]
  rfl
 | cons x l ih =>
  intro k i hd hi hk
  simp only [List.length_cons] at hk
  obtain ⟨k, rfl⟩ : ∃ m, k = m + 1 := ⟨k - 1, by omega⟩
  obtain ⟨hlt, hx, hd2, _, _⟩ := drop_any hd
  rw [catchmentref05_Find.l0, if_pos (by omega), if_pos (by omega), rdE_at hx, wrap1 (by omega), ih k (i + 1) hd2 (by omega) (by omega)]
  have hs : same x.f0 s = decide (x.f0.toList = s.toList) := rfl
  simp only [findV]
  by_cases h : x.f0.toList = s.toList
  ·rw [if_pos h, if_pos (by simpa [hs] using h)]
  rw [if_neg h, if_neg (by simpa [hs] using h)]
theorem Find_eq (k : Nat) (e : List En) (s : ByteArray) (he : e.length ≤ 1000000) (hk : e.length < k) : catchmentref05_Find.f k e s = some (findV e s) :=
 Find_loop e s he e k 0 rfl (by omega) hk
def onM (m : Ms) (s : ByteArray) (p : ByteArray × Bool) : ByteArray × Bool := onV m.f0 m.f2 m.f3 m.f4 m.f5 s p.1 p.2
def doAll (s : ByteArray) : List Ms → ByteArray × Bool → ByteArray × Bool
 | [], p => p
 | m :: l, p => doAll s l (onM m s p)
def valueV (l : List Ms) (s v : ByteArray) (is : Bool) : ByteArray × Bool := doAll s l (norm v is, is)
def okD (m : Ms) : Prop := 0 ≤ m.f5 ∧ m.f5 < 18446744073709551616
theorem Value_loop (L : List Ms) (s : ByteArray) (hL : L.length ≤ 1000000) (hD : ∀ m ∈ L, okD m) : ∀ (l : List Ms) (k i : Nat) (v : ByteArray) (is : Bool), L.drop i = l → i ≤ L.length → l.length + 11 < k → catchmentref05_Value.l0 k L s v is i = some (doAll s l (v, is)) := by
 intro l
 induction l with
 | nil =>
  intro k i v is hd hi hk
  obtain ⟨k, rfl⟩ : ∃ m, k = m + 1 := ⟨k - 1, by omega⟩
  obtain rfl := drop_none hd hi
  rw [catchmentref05_Value.l0, if_neg (by omega)]
  rfl
 | cons x l ih =>
  intro k i v is hd hi hk
  simp only [List.length_cons] at hk
  obtain ⟨k, rfl⟩ : ∃ m, k = m + 11 := ⟨k - 11, by omega⟩
  obtain ⟨hlt, hx, hd2, _, hm⟩ := drop_any hd
  have hd0 := hD x hm
  rw [catchmentref05_Value.l0, if_pos (by omega), if_pos (by omega), rdM_at hx, wrap1 (by omega), ref04_On_eq k _ _ _ _ _ _ _ _ _ hd0.1 hd0.2]
  simp only [Option.bind_some]
  exact ih (k + 10) (i + 1) _ _ hd2 (by omega) (by omega)
theorem Value_eq (k : Nat) (l : List Ms) (s v : ByteArray) (is : Bool) (hl : l.length ≤ 1000000) (hD : ∀ m ∈ l, okD m) (hk : l.length + 12 < k) : catchmentref05_Value.f k l s v is = some (valueV l s v is) := by
 obtain ⟨k, rfl⟩ : ∃ m, k = m + 1 := ⟨k - 1, by omega⟩
 unfold catchmentref05_Value.f catchmentref05_Value.j0 valueV norm
 cases is
 ·simp only [Bool.false_eq_true, if_false]
  exact Value_loop l s hl hD l k 0 _ _ rfl (by omega) (by omega)
 simp only [if_true]
 exact Value_loop l s hl hD l k 0 _ _ rfl (by omega) (by omega)
theorem ref02_Holds_eq (f t s : ByteArray) : catchmentref02_Holds.f f t s = some (holds f t s) := by
 unfold catchmentref02_Holds.f holds lt emp
 cases Op.bytesLess s.toList f.toList
 ·by_cases ht : t.toList = [] <;> simp [ht]
 rfl
theorem ref02_Right_eq (f t : ByteArray) : catchmentref02_Right.f f t = some (rr f t) := by
 unfold catchmentref02_Right.f rr emp lt
 by_cases ht : t.toList = [] <;> simp [ht]
def entryOf (l : List Ms) (e : List En) (f t s : ByteArray) : Option En :=
 let p := valueV l s (findV e s).1 (findV e s).2
 if (p.2 && rr f t && holds f t s) = true then some ⟨s, p.1⟩ else none
def entriesV (l : List Ms) (e : List En) (f t : ByteArray) : List En := (namedV l e).filterMap (entryOf l e f t)
theorem Entries_loop (l : List Ms) (e : List En) (f t : ByteArray) (hl : l.length ≤ 100000) (he : e.length ≤ 100000) (hD : ∀ m ∈ l, okD m) (K : List ByteArray) (hK : K.length ≤ 300000) :
  ∀ (q : List ByteArray) (k i : Nat) (o : List En), K.drop i = q → i ≤ K.length → o.length ≤ i → q.length + l.length + e.length + 13 < k → catchmentref05_Entries.l0 k l e o K i f t = some (o ++ q.filterMap (entryOf l e f t)) := by
 intro q
 induction q with
 | nil =>
  intro k i o hd hi ho hk
  obtain ⟨k, rfl⟩ : ∃ m, k = m + 1 := ⟨k - 1, by omega⟩
  obtain rfl := drop_none hd hi
  rw [catchmentref05_Entries.l0, if_neg (by omega)]
  simp
 | cons x q ih =>
  intro k i o hd hi ho hk
  simp only [List.length_cons] at hk
  obtain ⟨k, rfl⟩ : ∃ m, k = m + 1 := ⟨k - 1, by omega⟩
  obtain ⟨hlt, hx, hd2, _, _⟩ := drop_any hd
  rw [catchmentref05_Entries.l0, if_pos (by omega), if_pos (by omega), rdS_at hx, wrap1 (by omega), Find_eq _ _ _ (by omega) (by omega)]
  simp only [Option.bind_some]
  rw [Value_eq _ _ _ _ _ (by omega) hD (by omega)]
  simp only [Option.bind_some, ref02_Right_eq, ref02_Holds_eq]
  have go := fun o' (ho' : o'.length ≤ i + 1) => ih k (i + 1) o' hd2 (by omega) ho' (by omega)
  obtain ⟨p, hp⟩ : ∃ p, p = valueV l x (findV e x).1 (findV e x).2 := ⟨_, rfl⟩
  have hE : entryOf l e f t x = if (p.2 && rr f t && holds f t x) = true then some ⟨x, p.1⟩ else none := by rw [hp]; rfl
  rw [List.filterMap_cons, hE, ← hp]
  clear hE hp
  cases h1 : p.2
  ·simp only [Bool.false_eq_true, if_false, Bool.false_and]
   exact go o (by omega)
  cases h2 : rr f t
  ·simp only [Bool.false_eq_true, if_false, Bool.false_and, if_true, Bool.and_false]
   exact go o (by omega)
  cases h3 : holds f t x
  ·simp only [Bool.false_eq_true, if_false, if_true, Bool.and_false]
   exact go o (by omega)
  simp only [if_true, Bool.and_self]
  rw [if_pos (by omega)]
  refine (go (o ++ [(⟨x, p.1⟩ : En)]) (by simp; omega)).trans ?_
  simp
theorem Entries_eq (k : Nat) (l : List Ms) (e : List En) (f t : ByteArray) (hl : l.length ≤ 100000) (he : e.length ≤ 100000) (hD : ∀ m ∈ l, okD m) (hk : 2 * l.length + 2 * e.length + 20 < k) : catchmentref05_Entries.f k l e f t = some (entriesV l e f t) := by
 have hn := namedV_length l e
 unfold catchmentref05_Entries.f entriesV
 rw [Named_eq _ _ _ hl he (by omega)]
 simp only [Option.bind_some]
 have := Entries_loop l e f t hl he hD (namedV l e) (by omega) (namedV l e) k 0 [] rfl (by omega) (by simp) (by omega)
 simpa using this
def someV (l : List Ms) (e : List En) (f t : ByteArray) (n : Int) : List En := (entriesV l e f t).take n.toNat
theorem Some_eq (k : Nat) (l : List Ms) (e : List En) (f t : ByteArray) (n : Int) (hl : l.length ≤ 100000) (he : e.length ≤ 100000) (hD : ∀ m ∈ l, okD m) (hk : 2 * l.length + 2 * e.length + 20 < k) : catchmentref05_Some.f k l e f t n = some (someV l e f t n) := by
 unfold catchmentref05_Some.f someV
 rw [Entries_eq _ _ _ _ _ hl he hD hk]
 simp only [Option.bind_some]
 by_cases h : n < 0
 ·rw [if_pos h]
  have e1 : n.toNat = 0 := by omega
  rw [e1]
  by_cases h2 : ((entriesV l e f t).length : Int) > 0
  ·rw [if_pos h2, if_pos (by omega)]; rfl
  rw [if_neg h2]
  have : entriesV l e f t = [] := List.eq_nil_of_length_eq_zero (by omega)
  rw [this]; rfl
 rw [if_neg h]
 by_cases h2 : ((entriesV l e f t).length : Int) > n
 ·rw [if_pos h2, if_pos (by omega), if_pos (by omega)]
 rw [if_neg h2, List.take_of_length_le (by omega)]
def sameE : List En → List En → Bool
 | [], [] => true
 | x :: a, y :: b => same x.f0 y.f0 && same x.f1 y.f1 && sameE a b
 | _, _ => false
theorem sameE_iff : ∀ {a b : List En}, sameE a b = true ↔ a = b
 | [], [] => by simp [sameE]
 | [], _ :: _ => by simp [sameE]
 | _ :: _, [] => by simp [sameE]
 | x :: a, y :: b => by
  simp only [sameE, Bool.and_eq_true, same_iff, sameE_iff, List.cons.injEq]
  constructor
  ·rintro ⟨⟨h1, h2⟩, h3⟩
   exact ⟨by cases x; cases y; simp_all, h3⟩
  rintro ⟨rfl, rfl⟩
  exact ⟨⟨rfl, rfl⟩, rfl⟩
theorem sameE_len : ∀ {a b : List En}, a.length ≠ b.length → sameE a b = false
 | [], [], h => by simp at h
 | [], _ :: _, _ => rfl
 | _ :: _, [], _ => rfl
 | x :: a, y :: b, h => by
  simp only [sameE]
  rw [sameE_len (by simpa using h)]
  simp
theorem Same_loop (A B : List En) (hA : A.length ≤ 1000000) (hab : A.length = B.length) : ∀ (a b : List En) (k i : Nat), A.drop i = a → B.drop i = b → i ≤ A.length → a.length < k → catchmentref05_Same.l0 k A B i = some (sameE a b) := by
 intro a
 induction a with
 | nil =>
  intro b k i hd he hi hk
  obtain ⟨k, rfl⟩ : ∃ m, k = m + 1 := ⟨k - 1, by omega⟩
  obtain rfl := drop_none hd hi
  obtain rfl : b = [] := by rw [← he, hab, List.drop_length]
  rw [catchmentref05_Same.l0, if_neg (by omega)]
  rfl
 | cons x a ih =>
  intro b k i hd he hi hk
  simp only [List.length_cons] at hk
  obtain ⟨k, rfl⟩ : ∃ m, k = m + 1 := ⟨k - 1, by omega⟩
  obtain ⟨hlt, hx, hd2, _, _⟩ := drop_any hd
  cases b with
  | nil =>
   have := congrArg List.length he
   simp at this
   omega
  | cons y b =>
   obtain ⟨_, hy, he2, _, _⟩ := drop_any he
   rw [catchmentref05_Same.l0, if_pos (by omega), if_pos (by omega), if_pos (by omega), rdE_at hx, rdE_at hy, wrap1 (by omega), ih b k (i + 1) hd2 he2 (by omega) (by omega)]
   simp only [sameE, same]
   by_cases h1 : x.f0.toList = y.f0.toList
   ·by_cases h2 : x.f1.toList = y.f1.toList
    ·simp [h1, h2]
    simp [h1, h2]
   simp [h1]
theorem Same_eq (k : Nat) (a b : List En) (ha : a.length ≤ 1000000) (hk : a.length < k) : catchmentref05_Same.f k a b = some (sameE a b) := by
 unfold catchmentref05_Same.f
 by_cases h : a.length = b.length
 ·rw [if_pos (by omega)]
  exact Same_loop a b ha h a b k 0 rfl rfl (by omega) hk
 rw [if_neg (by omega), sameE_len h]
def risesV : List En → Bool
 | [] => true
 | [_] => true
 | x :: y :: l => lt x.f0 y.f0 && risesV (y :: l)
theorem Rises_loop (L : List En) (hL : L.length ≤ 1000000) : ∀ (l : List En) (i k : Nat) (x : En), L.drop (i + 1) = l → L[i]? = some x → l.length < k → catchmentref05_Rises.l0 k L ((i : Int) + 1) = some (risesV (x :: l)) := by
 intro l
 induction l with
 | nil =>
  intro i k x hd hx hk
  obtain ⟨k, rfl⟩ : ∃ m, k = m + 1 := ⟨k - 1, by omega⟩
  have hlen : L.length ≤ i + 1 := by have := congrArg List.length hd; simp at this; omega
  rw [catchmentref05_Rises.l0, if_neg (by omega)]
  rfl
 | cons y l ih =>
  intro i k x hd hx hk
  simp only [List.length_cons] at hk
  obtain ⟨k, rfl⟩ : ∃ m, k = m + 1 := ⟨k - 1, by omega⟩
  obtain ⟨hlt, hy, hd2, _, _⟩ := drop_any hd
  rw [catchmentref05_Rises.l0]
  rw [if_pos (by omega), IntWalk.wrap64_in ((i : Int) + 1 - 1) (by omega), if_pos (by omega), if_pos (by omega), if_pos (by omega)]
  rw [show (i : Int) + 1 - 1 = (i : Int) by omega, rdE_at hx, show (i : Int) + 1 = ((i + 1 : Nat) : Int) by omega, rdE_at hy, IntWalk.wrap64_in _ (by omega)]
  rw [ih (i + 1) k y hd2 hy (by omega)]
  show (if lt x.f0 y.f0 = true then _ else _) = some (lt x.f0 y.f0 && risesV (y :: l))
  cases lt x.f0 y.f0 <;> rfl
theorem Rises_eq (k : Nat) (L : List En) (hL : L.length ≤ 1000000) (hk : L.length + 1 < k) : catchmentref05_Rises.f k L = some (risesV L) := by
 unfold catchmentref05_Rises.f
 cases L with
 | nil =>
  obtain ⟨k, rfl⟩ : ∃ m, k = m + 1 := ⟨k - 1, by omega⟩
  rw [catchmentref05_Rises.l0, if_neg (by simp)]
  rfl
 | cons x l =>
  have := Rises_loop (x :: l) hL l 0 k x rfl rfl (by simp at hk; omega)
  exact this
theorem rises_tail {x : En} {l : List En} (h : risesV (x :: l) = true) : risesV l = true := by
 cases l with
 | nil => rfl
 | cons y l => simp only [risesV, Bool.and_eq_true] at h; exact h.2
theorem rises_lt : ∀ (x : En) (l : List En), risesV (x :: l) = true → ∀ y ∈ l, lt x.f0 y.f0 = true
 | _, [], _, _, hy => by cases hy
 | x, z :: l, h, y, hy => by
  simp only [risesV, Bool.and_eq_true] at h
  rcases List.mem_cons.1 hy with rfl | hy
  ·exact h.1
  exact lt_trans h.1 (rises_lt z l h.2 y hy)
theorem rises_cons {x : En} {l : List En} (h : ∀ y ∈ l, lt x.f0 y.f0 = true) (hl : risesV l = true) : risesV (x :: l) = true := by
 cases l with
 | nil => rfl
 | cons y l => simp only [risesV, Bool.and_eq_true]; exact ⟨h y (by simp), hl⟩
theorem rises_split : ∀ (a b : List En), risesV (a ++ b) = true → risesV a = true ∧ risesV b = true ∧ ∀ x ∈ a, ∀ y ∈ b, lt x.f0 y.f0 = true
 | [], b, h => ⟨rfl, h, fun x hx => by cases hx⟩
 | x :: a, b, h => by
  have h' : risesV (x :: (a ++ b)) = true := h
  obtain ⟨h1, h2, h3⟩ := rises_split a b (rises_tail h')
  have h4 := rises_lt x (a ++ b) h'
  refine ⟨rises_cons (fun y hy => h4 y (List.mem_append_left _ hy)) h1, h2, fun q hq y hy => ?_⟩
  rcases List.mem_cons.1 hq with rfl | hq
  ·exact h4 y (List.mem_append_right _ hy)
  exact h3 q hq y hy
theorem rises_filter (p : En → Bool) : ∀ l : List En, risesV l = true → risesV (l.filter p) = true
 | [], _ => rfl
 | x :: l, h => by
  have ih := rises_filter p l (rises_tail h)
  rw [List.filter_cons]
  split
  ·exact rises_cons (fun y hy => rises_lt x l h y (List.mem_filter.1 hy).1) ih
  exact ih
theorem rises_take (n : Nat) (l : List En) (h : risesV l = true) : risesV (l.take n) = true := (rises_split (l.take n) (l.drop n) (by rw [List.take_append_drop]; exact h)).1
theorem intoV_last : ∀ (o : List ByteArray) (s : ByteArray), (∀ x ∈ o, lt x s = true) → intoV o s = o ++ [s]
 | [], _, _ => rfl
 | x :: o, s, h => by
  rw [intoV, if_pos (h x (by simp)), intoV_last o s (fun y hy => h y (List.mem_cons_of_mem _ hy))]
  rfl
theorem addKeys_rise : ∀ (e : List En) (o : List ByteArray), risesV e = true → (∀ x ∈ o, ∀ y ∈ e, lt x y.f0 = true) → addKeys o e = o ++ e.map (·.f0)
 | [], o, _, _ => by simp [addKeys]
 | x :: e, o, h, ho => by
  rw [addKeys, intoV_last o x.f0 (fun y hy => ho y hy x (by simp)), addKeys_rise e _ (rises_tail h) (fun y hy z hz => ?_)]
  ·simp
  rcases List.mem_append.1 hy with hy | hy
  ·exact ho y hy z (List.mem_cons_of_mem _ hz)
  simp at hy; subst hy; exact rises_lt x e h z hz
theorem findV_mem : ∀ (e : List En) (x : En), risesV e = true → x ∈ e → findV e x.f0 = (x.f1, true)
 | y :: e, x, h, hx => by
  rw [findV]
  rcases List.mem_cons.1 hx with rfl | hx
  ·rw [if_pos (same_iff.2 rfl)]
  rw [if_neg (fun hs => ?_), findV_mem e x (rises_tail h) hx]
  have h1 := rises_lt y e h x hx
  rw [same_iff.1 hs, lt_irrefl] at h1
  cases h1
def ents (f t : ByteArray) (e : List En) : List En := e.filter (fun x => holds f t x.f0)
theorem filterMap_some {α β γ : Type} (g : α → β) (p : α → Bool) (h : β → Option γ) (c : α → γ) : ∀ l : List α, (∀ x ∈ l, h (g x) = if p x = true then some (c x) else none) → (l.map g).filterMap h = (l.filter p).map c
 | [], _ => rfl
 | x :: l, H => by
  have h1 := H x (by simp)
  have h2 := filterMap_some g p h c l (fun y hy => H y (List.mem_cons_of_mem _ hy))
  rw [List.map_cons, List.filterMap_cons, h1, List.filter_cons]
  cases p x
  ·simp only [Bool.false_eq_true, if_false]; exact h2
  simp only [if_true, List.map_cons, h2]
theorem entriesV_nil (e : List En) (f t : ByteArray) (h : risesV e = true) (hr : rr f t = true) : entriesV [] e f t = ents f t e := by
 unfold entriesV namedV
 rw [show keysV [] = [] from rfl, addKeys_rise e [] h (by simp), List.nil_append]
 rw [filterMap_some (·.f0) (fun x => holds f t x.f0) _ (fun x => x) e (fun x hx => ?_)]
 ·rw [List.map_id']; rfl
 unfold entryOf
 rw [findV_mem e x h hx]
 show (if (true && rr f t && holds f t x.f0) = true then some (⟨x.f0, (norm x.f1 true)⟩ : En) else none) = _
 rw [hr]
 rfl
theorem ents_behind (f t : ByteArray) (e : List En) (he : risesV e = true) (n : Nat) (z : En) (hz : ((ents f t e).take n)[((ents f t e).take n).length - 1]? = some z) : ents (succB z.f0) t e = (ents f t e).drop n := by
 have hL : risesV (ents f t e) = true := rises_filter _ _ he
 have hzm : z ∈ (ents f t e).take n := List.mem_of_getElem? hz
 have hsp := rises_split ((ents f t e).take n) ((ents f t e).drop n) (by rw [List.take_append_drop]; exact hL)
 have hzf : holds f t z.f0 = true := (List.mem_filter.1 (List.mem_of_mem_take hzm)).2
 have hzf1 : lt z.f0 f = false := by rw [holds_def] at hzf; cases q : lt z.f0 f <;> simp [q] at hzf ⊢
 have hlast : ∀ (l : List En) (z : En), risesV l = true → l[l.length - 1]? = some z → ∀ y ∈ l, lt z.f0 y.f0 = false := by
  intro l
  induction l with
  | nil => intro z _ _ y hy; cases hy
  | cons x l ih =>
   intro z h hz y hy
   cases l with
   | nil => simp at hz hy; subst hz; subst hy; exact lt_irrefl _
   | cons u l =>
    have h2 : (u :: l)[(u :: l).length - 1]? = some z := by simpa using hz
    rcases List.mem_cons.1 hy with rfl | hy
    ·exact lt_asymm (rises_lt y _ h z (List.mem_of_getElem? h2))
    exact ih z (rises_tail h) h2 y hy
 have hb := hlast _ z hsp.1 hz
 have step1 : ents (succB z.f0) t e = (ents f t e).filter (fun x => holds (succB z.f0) t x.f0) := by
  unfold ents
  rw [List.filter_filter]
  refine List.filter_congr (fun y _ => ?_)
  rw [holds_def, holds_def]
  cases h1 : ah y.f0 t
  ·simp
  cases h2 : lt y.f0 (succB z.f0)
  ·have h3 : lt z.f0 y.f0 = true := by
    cases q : lt z.f0 y.f0 with
    | true => rfl
    | false => rw [(lt_succB _ _).2 q] at h2; cases h2
   have h4 : lt y.f0 f = false := by
    cases q : lt y.f0 f with
    | false => rfl
    | true => rw [lt_trans h3 q] at hzf1; cases hzf1
   simp [h4]
  simp
 rw [step1]
 conv => lhs; rw [← List.take_append_drop n (ents f t e)]
 rw [List.filter_append]
 have g1 : ((ents f t e).take n).filter (fun x => holds (succB z.f0) t x.f0) = [] := List.filter_eq_nil_iff.2 (fun y hy => by
  have h1 : lt y.f0 (succB z.f0) = true := (lt_succB _ _).2 (hb y hy)
  rw [holds_def, h1]; simp)
 have g2 : ((ents f t e).drop n).filter (fun x => holds (succB z.f0) t x.f0) = (ents f t e).drop n := List.filter_eq_self.2 (fun y hy => by
  have h1 := hsp.2.2 z hzm y hy
  have h2 : lt y.f0 (succB z.f0) = false := by
   cases q : lt y.f0 (succB z.f0) with
   | false => rfl
   | true => rw [(lt_succB _ _).1 q] at h1; cases h1
  have h3 : holds f t y.f0 = true := (List.mem_filter.1 (show y ∈ List.filter (fun x => holds f t x.f0) e from List.mem_of_mem_drop hy)).2
  rw [holds_def] at h3 ⊢
  rw [h2]
  simp at h3 ⊢
  exact h3.2)
 rw [g1, g2, List.nil_append]
theorem ents_none (f t : ByteArray) (e : List En) (h : rr f t = false) : ents f t e = [] := by
 unfold ents
 refine List.filter_eq_nil_iff.2 (fun y _ hy => ?_)
 rw [holds_def] at hy
 rw [rr_def] at h
 simp at hy
 rw [ah_le hy.1 hy.2] at h
 cases h
end Go.Proofs.Ytljnlnbopohghaa.P
end
section
namespace Go.Proofs.Ytljnlnbopohghaa.Ord
open Go.RowKit Go.Proofs.YtljnlnbopohghaaW.PrintWords Go.Proofs.YtljnlnbopohghaaW.PrintLast
structure Fr (B : List Nat) (w w' : World) : Prop where
 os : w'.os = w.os
 tape : w'.tape = w.tape
 output : w'.output = w.output
 size : w.heap.size ≤ w'.heap.size
 block : ∀ k, k < w.heap.size → k ∉ B → w'.heap[k]? = w.heap[k]?
namespace Fr
theorem refl (B : List Nat) (w : World) : Fr B w w := ⟨rfl, rfl, rfl, Nat.le_refl _, fun _ _ _ => rfl⟩
theorem of_below {B : List Nat} {w w' : World} (h : Below w.heap.size w w') : Fr B w w' := ⟨h.os, h.tape, h.output, h.size, fun k hk _ => h.block k hk⟩
theorem wide {B B' : List Nat} {w w' : World} (h : Fr B w w') (hB : ∀ k ∈ B, k ∈ B' ∨ w.heap.size ≤ k) : Fr B' w w' :=
 ⟨h.os, h.tape, h.output, h.size, fun k hk hn => h.block k hk (fun hb => by rcases hB k hb with h1 | h1; exact hn h1; omega)⟩
theorem trans {B C : List Nat} {w w1 w2 : World} (h : Fr B w w1) (k : Fr C w1 w2) (hC : ∀ x ∈ C, x ∈ B ∨ w.heap.size ≤ x) : Fr B w w2 :=
 ⟨k.os.trans h.os, k.tape.trans h.tape, k.output.trans h.output, Nat.le_trans h.size k.size, fun x hx hn =>
  (k.block x (Nat.lt_of_lt_of_le hx h.size) (fun hc => by rcases hC x hc with h1 | h1; exact hn h1; omega)).trans (h.block x hx hn)⟩
theorem drewN {B : List Nat} {w w' : World} (h : Fr B w w') (n : Nat) : Fr B w (w'.drewN n) := ⟨h.os, h.tape, h.output, h.size, h.block⟩
theorem drew {B : List Nat} {w w' : World} (h : Fr B w w') : Fr B w w'.drew := ⟨h.os, h.tape, h.output, h.size, h.block⟩
theorem set {B : List Nat} {w w' : World} (h : Fr B w w') {b i : Nat} (hb : b ∈ B ∨ w.heap.size ≤ b) (u : Value) : Fr B w (w'.setCell ⟨b, i, none⟩ u) := by
 have h2 := (Below.refl 0 w').setCell (p := ⟨b, i, none⟩) (Nat.zero_le _) u
 exact ⟨h2.os.trans h.os, h2.tape.trans h.tape, h2.output.trans h.output, Nat.le_trans h.size h2.size, fun x hx hn => by
  rw [Below.heap_setCell w' ⟨b, i, none⟩ u x (by rintro rfl; rcases hb with h1 | h1; exact hn h1; exact absurd hx (by simpa using h1))]
  exact h.block x hx hn⟩
theorem alloc {B : List Nat} {w w' : World} (h : Fr B w w') (o : Obj) : Fr B w (w'.alloc o) := by
 have h2 := (Below.refl w'.heap.size w').alloc (Nat.le_refl _) o
 exact h.trans (of_below (B := []) h2) (fun x hx => by cases hx)
theorem below {B : List Nat} {w w' : World} {base : Nat} (h : Fr B w w') (hB : ∀ k ∈ B, base ≤ k) (hb : base ≤ w.heap.size) : Below base w w' :=
 ⟨h.os, h.tape, h.output, h.size, fun k hk => h.block k (by omega) (fun hm => by have := hB k hm; omega)⟩
theorem blk {B : List Nat} {w w' : World} (h : Fr B w w') {g : Nat} {o : Obj} (hg : w.heap[g]? = some o) (hn : g ∉ B) : w'.heap[g]? = some o := (h.block g (blk_lt hg) hn).trans hg
end Fr
theorem still_tail {P : Program} {id : Nat} {Q : Exit → Act → World → Prop} {a : Act} {w : World} {l : List Oper} (n : Nat) (hm : P.follows .mixedOrders = true) (hB : Region.lexTailB .any l.toArray n = true)
  (h : ∀ W, W = w.drew → wpStill P l.toArray W (fun a' => wpList P l.toArray Q (l.drop n) a' W) (l.take n) a) : (Code.region id l.toArray true).wp P Q a w :=
 wp_region_still_tail n hm hB (h _ rfl)
theorem still_all {P : Program} {id : Nat} {Q : Exit → Act → World → Prop} {a : Act} {w : World} {l : List Oper} (hm : P.follows .mixedOrders = true) (hB : Region.lexB .any l.toArray = true)
  (h : ∀ W, W = w.drew → wpStill P l.toArray W (fun a' => Q .normal a' W) l a) : (Code.region id l.toArray true).wp P Q a w :=
 wp_region_still_lit hm hB (h _ rfl)
inductive Kn (K V : Type) where
 | nil : Kn K V
 | node (b : Nat) (k : K) (v : V) (l r : Kn K V) : Kn K V
namespace Kn
variable {K V : Type}
def adr : Kn K V → Option Addr
 | nil => none
 | node b _ _ _ _ => some ⟨b, 0, none⟩
def bs : Kn K V → List Nat
 | nil => []
 | node b _ _ l r => b :: (l.bs ++ r.bs)
def hgt : Kn K V → Int
 | nil => 0
 | node _ _ _ l r => 1 + mx l.hgt r.hgt
def cnt : Kn K V → Int
 | nil => 0
 | node _ _ _ l r => 1 + l.cnt + r.cnt
def toL : Kn K V → List (K × V)
 | nil => []
 | node _ k v l r => l.toL ++ (k, v) :: r.toL
theorem bounds : ∀ T : Kn K V, 0 ≤ T.hgt ∧ T.hgt ≤ T.cnt
 | nil => by simp [hgt, cnt]
 | node _ _ _ l r => by
  have := bounds l; have := bounds r
  simp only [hgt, cnt, mx]
  split <;> omega
theorem cnt_len : ∀ T : Kn K V, T.cnt = T.toL.length
 | nil => rfl
 | node _ _ _ l r => by simp only [cnt, toL, List.length_append, List.length_cons, cnt_len l, cnt_len r]; omega
theorem bs_len : ∀ T : Kn K V, T.bs.length = T.toL.length
 | nil => rfl
 | node _ _ _ l r => by simp only [bs, toL, List.length_append, List.length_cons, bs_len l, bs_len r]; omega
def up : Kn K V → Kn K V
 | node b k v l (node hb hk hv hl hr) => node hb hk hv (node b k v l hl) hr
 | T => T
def down : Kn K V → Kn K V
 | node b k v (node lb lk lv ll lr) r => node lb lk lv ll (node b k v lr r)
 | T => T
def even (b : Nat) (k : K) (v : V) (l r : Kn K V) : Kn K V :=
 if l.hgt - r.hgt > 1 then
  match l with
  | node _ _ _ ll lr => if ll.hgt < lr.hgt then down (node b k v (up l) r) else down (node b k v l r)
  | nil => node b k v l r
 else if l.hgt - r.hgt < -1 then
  match r with
  | node _ _ _ rl rr => if rr.hgt < rl.hgt then up (node b k v l (down r)) else up (node b k v l r)
  | nil => node b k v l r
 else node b k v l r
theorem up_toL : ∀ T : Kn K V, (up T).toL = T.toL
 | nil => rfl
 | node _ _ _ _ nil => rfl
 | node _ _ _ _ (node ..) => by simp [up, toL]
theorem down_toL : ∀ T : Kn K V, (down T).toL = T.toL
 | nil => rfl
 | node _ _ _ nil _ => rfl
 | node _ _ _ (node ..) _ => by simp [down, toL]
theorem up_bs : ∀ T : Kn K V, (up T).bs.Perm T.bs
 | nil => .refl _
 | node _ _ _ _ nil => .refl _
 | node b k v l (node hb hk hv hl hr) => by
  rw [List.perm_iff_count]; intro a
  simp only [up, bs, List.count_cons, List.count_append]; omega
theorem down_bs : ∀ T : Kn K V, (down T).bs.Perm T.bs
 | nil => .refl _
 | node _ _ _ nil _ => .refl _
 | node b k v (node lb lk lv ll lr) r => by
  rw [List.perm_iff_count]; intro a
  simp only [down, bs, List.count_cons, List.count_append]; omega
theorem perm_left {b : Nat} {k : K} {v : V} {l l' r : Kn K V} (h : l'.bs.Perm l.bs) : (node b k v l' r).bs.Perm (node b k v l r).bs := (h.append_right _).cons _
theorem perm_right {b : Nat} {k : K} {v : V} {l r r' : Kn K V} (h : r'.bs.Perm r.bs) : (node b k v l r').bs.Perm (node b k v l r).bs := (h.append_left _).cons _
theorem even_bs (b : Nat) (k : K) (v : V) (l r : Kn K V) : (even b k v l r).bs.Perm (node b k v l r).bs := by
 unfold even
 split
 ·split
  ·split
   ·exact (down_bs _).trans (perm_left (up_bs _))
   exact down_bs _
  exact .refl _
 split
 ·split
  ·split
   ·exact (up_bs _).trans (perm_right (down_bs _))
   exact up_bs _
  exact .refl _
 exact .refl _
theorem even_toL (b : Nat) (k : K) (v : V) (l r : Kn K V) : (even b k v l r).toL = l.toL ++ (k, v) :: r.toL := by
 unfold even
 split
 ·split
  ·split
   ·rw [down_toL]; simp only [toL]; rw [up_toL]; simp [toL]
   rw [down_toL]; rfl
  rfl
 split
 ·split
  ·split
   ·rw [up_toL]; simp only [toL]; rw [down_toL]; simp [toL]
   rw [up_toL]; rfl
  rfl
 rfl
def cmpK (lt : K → K → Bool) (a b : K) : Int := if lt a b = true then -1 else if lt b a = true then 1 else 0
def put (lt : K → K → Bool) (nb : Nat) (key : K) (val : V) : Kn K V → Kn K V
 | nil => node nb key val nil nil
 | node b k v l r => if lt key k = true then even b k v (put lt nb key val l) r else if lt k key = true then even b k v l (put lt nb key val r) else node b k val l r
theorem put_bs (lt : K → K → Bool) (nb : Nat) (key : K) (val : V) : ∀ T : Kn K V, (put lt nb key val T).bs.Perm (nb :: T.bs) ∨ (put lt nb key val T).bs.Perm T.bs
 | nil => .inl (.refl _)
 | node b k v l r => by
  unfold put
  split
  ·rcases put_bs lt nb key val l with h | h
   ·exact .inl ((even_bs _ _ _ _ _).trans ((perm_left (l' := put lt nb key val l) (l := node nb key val l nil) (by simpa [bs] using h)).trans (by
     rw [List.perm_iff_count]; intro a; simp only [bs, List.count_cons, List.count_append, List.count_nil]; omega)))
   exact .inr ((even_bs _ _ _ _ _).trans (perm_left h))
  split
  ·rcases put_bs lt nb key val r with h | h
   ·exact .inl ((even_bs _ _ _ _ _).trans ((perm_right (r' := put lt nb key val r) (r := node nb key val r nil) (by simpa [bs] using h)).trans (by
     rw [List.perm_iff_count]; intro a; simp only [bs, List.count_cons, List.count_append, List.count_nil]; omega)))
   exact .inr ((even_bs _ _ _ _ _).trans (perm_right h))
  exact .inr (.refl _)
theorem cnt_bs (T : Kn K V) : T.cnt = T.bs.length := by rw [cnt_len, bs_len]
theorem put_mem {lt : K → K → Bool} {nb : Nat} {key : K} {val : V} {T : Kn K V} {x : Nat} (h : x ∈ (put lt nb key val T).bs) : x = nb ∨ x ∈ T.bs := by
 rcases put_bs lt nb key val T with p | p
 ·simpa using p.mem_iff.1 h
 exact .inr (p.mem_iff.1 h)
theorem put_nodup {lt : K → K → Bool} {nb : Nat} {key : K} {val : V} {T : Kn K V} (h : T.bs.Nodup) (hn : nb ∉ T.bs) : (put lt nb key val T).bs.Nodup := by
 rcases put_bs lt nb key val T with p | p
 ·exact p.nodup_iff.2 (List.nodup_cons.2 ⟨hn, h⟩)
 exact p.nodup_iff.2 h
theorem put_cnt (lt : K → K → Bool) (nb : Nat) (key : K) (val : V) (T : Kn K V) : (put lt nb key val T).cnt ≤ T.cnt + 1 := by
 rw [cnt_bs, cnt_bs]
 rcases put_bs lt nb key val T with p | p
 ·rw [p.length_eq, List.length_cons]; omega
 rw [p.length_eq]; omega
theorem put_left_nodup {lt : K → K → Bool} {nb b : Nat} {key k : K} {val v : V} {l r : Kn K V} (h : (node b k v l r).bs.Nodup) (hn : nb ∉ (node b k v l r).bs) : (node b k v (put lt nb key val l) r).bs.Nodup := by
 rcases put_bs lt nb key val l with p | p
 ·have q : (node b k v (put lt nb key val l) r).bs.Perm (nb :: (node b k v l r).bs) :=
   (perm_left (l' := put lt nb key val l) (l := node nb key val l nil) (by simpa [bs] using p)).trans (by
    rw [List.perm_iff_count]; intro a; simp only [bs, List.count_cons, List.count_append, List.count_nil]; omega)
  exact q.nodup_iff.2 (List.nodup_cons.2 ⟨hn, h⟩)
 exact (perm_left p).nodup_iff.2 h
theorem put_right_nodup {lt : K → K → Bool} {nb b : Nat} {key k : K} {val v : V} {l r : Kn K V} (h : (node b k v l r).bs.Nodup) (hn : nb ∉ (node b k v l r).bs) : (node b k v l (put lt nb key val r)).bs.Nodup := by
 rcases put_bs lt nb key val r with p | p
 ·have q : (node b k v l (put lt nb key val r)).bs.Perm (nb :: (node b k v l r).bs) :=
   (perm_right (r' := put lt nb key val r) (r := node nb key val r nil) (by simpa [bs] using p)).trans (by
    rw [List.perm_iff_count]; intro a; simp only [bs, List.count_cons, List.count_append, List.count_nil]; omega)
  exact q.nodup_iff.2 (List.nodup_cons.2 ⟨hn, h⟩)
 exact (perm_right p).nodup_iff.2 h
def find (lt : K → K → Bool) (key : K) : Kn K V → Kn K V
 | nil => nil
 | node b k v l r => if lt key k = true then find lt key l else if lt k key = true then find lt key r else node b k v l r
def least : Nat → K → V → Kn K V → Kn K V → Kn K V × (Nat × K × V × Kn K V)
 | b, k, v, nil, r => (r, (b, k, v, r))
 | b, k, v, node lb lk lv ll lr, r => let x := least lb lk lv ll lr; (even b k v x.1 r, x.2)
def drop (lt : K → K → Bool) (key : K) : Kn K V → Kn K V
 | nil => nil
 | node b k v l r =>
  if lt key k = true then even b k v (drop lt key l) r
  else if lt k key = true then even b k v l (drop lt key r)
  else match r with
   | nil => l
   | node rb rk rv rl rr => let x := least rb rk rv rl rr; even x.2.1 x.2.2.1 x.2.2.2.1 l x.1
theorem least_bs : ∀ (b : Nat) (k : K) (v : V) (l r : Kn K V), ((least b k v l r).2.1 :: (least b k v l r).1.bs).Perm (node b k v l r).bs
 | b, k, v, nil, r => by simp [least, bs]
 | b, k, v, node lb lk lv ll lr, r => by
  have h := least_bs lb lk lv ll lr
  have h2 := even_bs b k v (least lb lk lv ll lr).1 r
  rw [List.perm_iff_count] at h h2 ⊢
  intro a
  have := h a; have := h2 a
  simp only [least, bs, List.count_cons, List.count_append] at *
  omega
theorem least_out {b lb : Nat} {k lk : K} {v lv : V} {ll lr r : Kn K V} (h : (node b k v (node lb lk lv ll lr) r).bs.Nodup) :
  (node b k v (least lb lk lv ll lr).1 r).bs.Nodup ∧ (least lb lk lv ll lr).2.1 ∉ (node b k v (least lb lk lv ll lr).1 r).bs ∧ (∀ x ∈ (least lb lk lv ll lr).1.bs, x ∈ (node lb lk lv ll lr).bs) ∧ (least lb lk lv ll lr).2.1 ∈ (node lb lk lv ll lr).bs := by
 have p := least_bs lb lk lv ll lr
 have q : ((least lb lk lv ll lr).2.1 :: (node b k v (least lb lk lv ll lr).1 r).bs).Perm (node b k v (node lb lk lv ll lr) r).bs := by
  rw [List.perm_iff_count] at p ⊢
  intro a
  have := p a
  simp only [bs, List.count_cons, List.count_append] at *
  omega
 have n := q.nodup_iff.2 h
 rw [List.nodup_cons] at n
 exact ⟨n.2, n.1, fun x hx => p.mem_iff.1 (List.mem_cons_of_mem _ hx), p.mem_iff.1 (List.mem_cons_self)⟩
theorem least_cnt (b : Nat) (k : K) (v : V) (l r : Kn K V) : (least b k v l r).1.cnt + 1 = (node b k v l r).cnt := by
 rw [cnt_bs, cnt_bs, ← (least_bs b k v l r).length_eq, List.length_cons]; omega
theorem least_nodup {b : Nat} {k : K} {v : V} {l r : Kn K V} (h : (node b k v l r).bs.Nodup) : (least b k v l r).1.bs.Nodup ∧ (least b k v l r).2.1 ∉ (least b k v l r).1.bs := by
 have := (least_bs b k v l r).nodup_iff.2 h
 rw [List.nodup_cons] at this
 exact ⟨this.2, this.1⟩
theorem drop_count (lt : K → K → Bool) (key : K) : ∀ (T : Kn K V) (a : Nat), (drop lt key T).bs.count a ≤ T.bs.count a
 | nil, a => by simp [drop, bs]
 | node b k v l r, a => by
  unfold drop
  split
  ·have h2 := List.perm_iff_count.1 (even_bs b k v (drop lt key l) r) a
   have := drop_count lt key l a
   rw [h2]; simp only [bs, List.count_cons, List.count_append]; omega
  split
  ·have h2 := List.perm_iff_count.1 (even_bs b k v l (drop lt key r)) a
   have := drop_count lt key r a
   rw [h2]; simp only [bs, List.count_cons, List.count_append]; omega
  cases r with
  | nil => simp only [bs, List.count_cons, List.count_append]; omega
  | node rb rk rv rl rr =>
   have h := List.perm_iff_count.1 (least_bs rb rk rv rl rr) a
   have h2 := List.perm_iff_count.1 (even_bs (least rb rk rv rl rr).2.1 (least rb rk rv rl rr).2.2.1 (least rb rk rv rl rr).2.2.2.1 l (least rb rk rv rl rr).1) a
   simp only
   rw [h2]
   simp only [bs, List.count_cons, List.count_append] at *
   omega
theorem drop_mem {lt : K → K → Bool} {key : K} {T : Kn K V} {x : Nat} (h : x ∈ (drop lt key T).bs) : x ∈ T.bs := by
 have := drop_count lt key T x
 have := List.count_pos_iff.2 h
 exact List.count_pos_iff.1 (by omega)
theorem drop_nodup {lt : K → K → Bool} {key : K} {T : Kn K V} (h : T.bs.Nodup) : (drop lt key T).bs.Nodup :=
 List.nodup_iff_count.2 (fun a => Nat.le_trans (drop_count lt key T a) (List.nodup_iff_count.1 h a))
theorem even_cnt (b : Nat) (k : K) (v : V) (l r : Kn K V) : (even b k v l r).cnt = 1 + l.cnt + r.cnt := by
 rw [cnt_bs, (even_bs b k v l r).length_eq, ← cnt_bs]; rfl
theorem drop_cnt (lt : K → K → Bool) (key : K) : ∀ T : Kn K V, (drop lt key T).cnt ≤ T.cnt
 | nil => by simp [drop]
 | node b k v l r => by
  have h1 := drop_cnt lt key l
  have h2 := drop_cnt lt key r
  have := bounds l
  have := bounds r
  unfold drop
  split
  ·rw [even_cnt]; simp only [cnt]; omega
  split
  ·rw [even_cnt]; simp only [cnt]; omega
  cases r with
  | nil => simp only [cnt] at *; omega
  | node rb rk rv rl rr =>
   have := least_cnt rb rk rv rl rr
   simp only
   rw [even_cnt]
   simp only [cnt] at *
   omega
theorem drop_left_nodup {lt : K → K → Bool} {key k : K} {b : Nat} {v : V} {l r : Kn K V} (h : (node b k v l r).bs.Nodup) : (node b k v (drop lt key l) r).bs.Nodup := by
 rw [List.nodup_iff_count] at h ⊢
 intro a
 have := h a
 have := drop_count lt key l a
 simp only [bs, List.count_cons, List.count_append] at *
 omega
theorem drop_right_nodup {lt : K → K → Bool} {key k : K} {b : Nat} {v : V} {l r : Kn K V} (h : (node b k v l r).bs.Nodup) : (node b k v l (drop lt key r)).bs.Nodup := by
 rw [List.nodup_iff_count] at h ⊢
 intro a
 have := h a
 have := drop_count lt key r a
 simp only [bs, List.count_cons, List.count_append] at *
 omega
theorem join_nodup {b rb : Nat} {k rk : K} {v rv : V} {l rl rr : Kn K V} (h : (node b k v l (node rb rk rv rl rr)).bs.Nodup) (k' : K) (v' : V) : (node (least rb rk rv rl rr).2.1 k' v' l (least rb rk rv rl rr).1).bs.Nodup := by
 have p := least_bs rb rk rv rl rr
 rw [List.perm_iff_count] at p
 rw [List.nodup_iff_count] at h ⊢
 intro a
 have := h a
 have := p a
 simp only [bs, List.count_cons, List.count_append] at *
 omega
end Kn
end Go.Proofs.Ytljnlnbopohghaa.Ord
end
section
namespace Go.Proofs.Ytljnlnbopohghaa.Cur
open Go Go.RowKit Go.Maps Go.Proofs.YtljnlnbopohghaaW.PrintWords Go.Proofs.YtljnlnbopohghaaW.PrintLast Go.Proofs.YtljnlnbopohghaaW.PrintMore Go.Proofs.Ytljnlnbopohghaa.Own Go.Proofs.Ytljnlnbopohghaa.Ord
abbrev X := ByteArray × ByteArray × Bool
def e0 : ByteArray := ⟨#[]⟩
def x0 : X := (e0, e0, false)
def restV (x : X) : Value := .agg #[.string x.1, .string x.2.1, .bool x.2.2]
def restD (x : X) : DataW Unit := .agg [.lit (.string x.1.data.toList), .lit (.string x.2.1.data.toList), .lit (.bool x.2.2)]
def restR (v : Value) : Option (DataW Unit × List MemPlace) :=
 match v with
 | .agg cs => match cs.toList with
  | [.string a, .string b, .bool e] => some (restD (a, b, e), [])
  | _ => none
 | _ => none
theorem restR_mk (x : X) : restR (restV x) = some (restD x, []) := rfl
theorem restD_inj {x y : X} (h : restD x = restD y) : x = y := by
 obtain ⟨a, b, e⟩ := x
 obtain ⟨c, d, g⟩ := y
 simp only [restD, DataW.agg.injEq, List.cons.injEq, DataW.lit.injEq, Lit.string.injEq, Lit.bool.injEq, and_true] at h
 obtain ⟨h1, h2, rfl⟩ := h
 have e1 : a = c := by
  obtain ⟨⟨a⟩⟩ := a; obtain ⟨⟨c⟩⟩ := c; simp at h1; rw [h1]
 have e2 : b = d := by
  obtain ⟨⟨a⟩⟩ := b; obtain ⟨⟨c⟩⟩ := d; simp at h2; rw [h2]
 rw [e1, e2]
theorem restR_inv {v : Value} {d : DataW Unit} {ps : List MemPlace} (h : restR v = some (d, ps)) : ∃ x, v = restV x ∧ d = restD x := by
 unfold restR at h
 split at h
 ·rename_i cs
  split at h
  ·rename_i a b e hl
   cases h
   refine ⟨(a, b, e), ?_, rfl⟩
   show Value.agg cs = Value.agg #[.string a, .string b, .bool e]
   rw [Array.toList_inj.1 (show cs.toList = (#[.string a, .string b, .bool e] : Array Value).toList from hl)]
  cases h
 cases h
def key (k : Int) : Lit := .int .i64 k
theorem key_inj {a b : Int} (h : key a = key b) : a = b := by cases h; rfl
def Fits (D : DataW Unit) (F : Int → Option X) : Prop := ∀ k, has D (key k) = (F k).isSome ∧ ∀ x, F k = some x → ∀ z, D.atKey (key k) z = restD x
def upd (F : Int → Option X) (n : Int) (x : Option X) : Int → Option X := fun k => if k = n then x else F k
theorem upd_same (F : Int → Option X) (n : Int) (x : Option X) : upd F n x n = x := if_pos rfl
theorem upd_other (F : Int → Option X) {n k : Int} (h : k ≠ n) (x : Option X) : upd F n x k = F k := if_neg h
theorem Fits.empty : Fits (.map []) (fun _ => none) := fun k => ⟨rfl, fun x h => by cases h⟩
theorem Fits.put {D : DataW Unit} {F : Int → Option X} (h : Fits D F) (hD : IsMap D) (n : Int) (x : X) : Fits (D.put (key n) (restD x)) (upd F n (some x)) := fun k => by
 by_cases hk : k = n
 ·subst hk
  rw [upd_same]
  exact ⟨has_put_same hD (by simp [key, WideAt.IsKeyLit]) _, fun y hy z => by cases hy; exact atKey_put_same hD (by simp [key, WideAt.IsKeyLit]) _ _⟩
 have hne : key k ≠ key n := fun e => hk (key_inj e)
 rw [upd_other F hk]
 exact ⟨by rw [has_put_other hne]; exact (h k).1, fun y hy z => by rw [atKey_put_other hne]; exact (h k).2 y hy z⟩
theorem Fits.del {D : DataW Unit} {F : Int → Option X} (h : Fits D F) (n : Int) : Fits (D.del (key n)) (upd F n none) := fun k => by
 by_cases hk : k = n
 ·subst hk
  rw [upd_same]
  exact ⟨has_del_same, fun y hy => by cases hy⟩
 have hne : key k ≠ key n := fun e => hk (key_inj e)
 rw [upd_other F hk]
 exact ⟨by rw [has_del_other hne]; exact (h k).1, fun y hy z => by rw [atKey_del_other hne]; exact (h k).2 y hy z⟩
def TM (w : World) (b n : Nat) (F : Int → Option X) (c : Nat) : Prop := ∃ D, w.ownsMap Try.prog 3 restR b n D ∧ Fits D F ∧ size D = c
theorem law : Keyed Try.prog 3 := int_keyed Try.underlying3
theorem wf_key {k : Int} (h : (Lit.int .i64 k).wf = true) : keyOf Try.prog 3 (.int .i64 k) = some (key k) := keyOf_int_mk Try.underlying3 h
theorem zeroE (w : World) : (zeroValue 106).run Try.prog w = .ok (restV x0) w := by kernel_rfl
theorem TM.lt {w : World} {b n : Nat} {F : Int → Option X} {c : Nat} (h : TM w b n F c) : b < w.heap.size := by obtain ⟨D, h1, _⟩ := h; exact h1.lt
theorem TM.fr {w w' : World} {b n : Nat} {F : Int → Option X} {c : Nat} (h : TM w b n F c) {B : List Nat} (f : Fr B w w') (hb : b ∉ B) : TM w' b n F c := by
 obtain ⟨D, h1, h2, h3⟩ := h
 have hl := h1.lt
 obtain ⟨es, clock, hb1, r⟩ := h1
 exact ⟨D, ⟨es, clock, (f.block b hl hb).trans hb1, r⟩, h2, h3⟩
theorem TM.mono {w : World} {b n n' : Nat} {F : Int → Option X} {c : Nat} (h : TM w b n F c) (hn : n ≤ n') : TM w b n' F c := by
 obtain ⟨D, h1, h2, h3⟩ := h
 exact ⟨D, h1.mono hn, h2, h3⟩
theorem TM.made (w : World) : TM (w.alloc (.map #[] 0)) w.heap.size 0 (fun _ => none) 0 := ⟨_, World.ownsMap_made w _ _ _, Fits.empty, rfl⟩
theorem Fr.of_turned {w w' : World} {b : Nat} (h : w.mapTurned w' b) : Fr [b] w w' := by
 have g := h.grown
 exact ⟨g.os, g.tape, g.output, g.size, fun k hk hn => g.block k hk (fun e => hn (by cases e; simp))⟩
section
variable (w : World) {ops : Array Oper} {rest : List Oper} {o : Oper} {a : Act} {Q : Exit → Act → World → Prop}
theorem look (hg : o.guard = none) (m x : Operand) (hop : o.op = Op.lookup 86 m x true) (b n : Nat) (F : Int → Option X) (c : Nat)
  (hm : a.eval m = .map (some b)) (hT : TM w b n F c) (k : Int) (hx : a.eval x = .int .i64 k) (hk : (Lit.int .i64 k).wf = true)
  (hK : wpList Try.prog ops Q rest (a.put o.dst (.tuple #[restV ((F k).getD x0), .bool (F k).isSome])) w) : wpList Try.prog ops Q (o :: rest) a w := by
 obtain ⟨D, h1, h2, _⟩ := hT
 refine wpList_lookup_own_ok w hg m x _ hop _ _ law Try.underlying86 restR (zeroE w) (restD x0) [] (restR_mk x0) b n D hm h1 _ _ hx (wf_key hk) (fun v ps hv => ?_)
 rw [(h2 k).1]
 obtain ⟨y, rfl, hy⟩ := restR_inv hv
 have e : y = (F k).getD x0 := by
  cases hF : F k with
  | none =>
   have h3 := (h2 k).1
   rw [hF] at h3
   rw [atKey_of_not_has h3] at hy
   exact (restD_inj hy).symm
  | some z =>
   rw [(h2 k).2 z hF] at hy
   exact (restD_inj hy).symm
 rw [e]
 exact hK
theorem store (hg : o.guard = none) (m x v : Operand) (hop : o.op = Op.mapUpdate 86 m x v) (b n : Nat) (F : Int → Option X) (c : Nat)
  (hm : a.eval m = .map (some b)) (hT : TM w b n F c) (hn : n < 1000000) (k : Int) (hx : a.eval x = .int .i64 k) (hk : (Lit.int .i64 k).wf = true) (y : X) (hv : a.eval v = restV y)
  (hK : ∀ w', TM w' b (n + 1) (upd F k (some y)) (if (F k).isSome then c else c + 1) → Fr [b] w w' → wpList Try.prog ops Q rest (a.put o.dst undef) w') : wpList Try.prog ops Q (o :: rest) a w := by
 obtain ⟨D, h1, h2, h3⟩ := hT
 refine wpList_mapUpdate_in w hg m x v _ hop _ _ law Try.underlying86 restR b n D hm h1 (by unfold maxLen; omega) _ _ _ hx hv (wf_key hk) (restD y) [] (restR_mk y) (fun w' r1 r2 => ?_)
 refine hK w' ⟨_, r1, h2.put h1.isMap k y, ?_⟩ (Fr.of_turned r2)
 rw [size_put (h1.tidy law), (h2 k).1, h3]
theorem drop (hg : o.guard = none) (m x : Operand) (hop : o.op = Op.call { callee := Callee.builtin Builtin.delete, args := #[m, x], argTypes := #[86, 3] }) (b n : Nat) (F : Int → Option X) (c : Nat)
  (hm : a.eval m = .map (some b)) (hT : TM w b n F c) (k : Int) (hx : a.eval x = .int .i64 k) (hk : (Lit.int .i64 k).wf = true)
  (hK : ∀ w', (∀ d, d + (if (F k).isSome then 1 else 0) = c → TM w' b n (upd F k none) d) → Fr [b] w w' → wpList Try.prog ops Q rest (a.put o.dst (.tuple #[])) w') : wpList Try.prog ops Q (o :: rest) a w := by
 obtain ⟨D, h1, h2, h3⟩ := hT
 refine wpList_delete_own w hg m x _ _ hop _ law Try.underlying86 restR b n D hm h1 _ _ hx (wf_key hk) (fun w' r1 r2 => ?_)
 refine hK w' (fun d hd => ⟨_, r1, h2.del k, ?_⟩) (Fr.of_turned r2)
 have := size_del (k := key k) (h1.tidy law)
 rw [(h2 k).1, h3] at this
 omega
theorem lenOf (hg : o.guard = none) (m : Operand) (hop : o.op = Op.call { callee := Callee.builtin Builtin.len, args := #[m], argTypes := #[86] }) (b n : Nat) (F : Int → Option X) (c : Nat)
  (hm : a.eval m = .map (some b)) (hT : TM w b n F c) (hK : wpList Try.prog ops Q rest (a.put o.dst (.int .i64 c)) w) : wpList Try.prog ops Q (o :: rest) a w := by
 obtain ⟨D, h1, h2, h3⟩ := hT
 refine wpList_len_own w hg m _ hop _ _ Try.underlying86 restR b n D hm h1 ?_
 rw [h3]
 exact hK
end
end Go.Proofs.Ytljnlnbopohghaa.Cur
end
section
namespace Go.Proofs.Ytljnlnbopohghaa.Mdl
open Go Go.RowKit Go.Maps Go.Proofs.YtljnlnbopohghaaW.PrintWords Go.Proofs.YtljnlnbopohghaaW.PrintLast Go.Proofs.YtljnlnbopohghaaW.PrintMore Go.Proofs.Ytljnlnbopohghaa.Own Go.Proofs.Ytljnlnbopohghaa.Ord
open Go.Proofs.Ytljnlnbopohghaa.Cur (key key_inj law wf_key)
def ptrV : Option Nat → Value
 | none => .pointer none
 | some p => .pointer (some ⟨p, 0, none⟩)
def ptrD : Option Nat → DataW Unit
 | none => .agg []
 | some p => .lit (.int .i64 p)
def ptrR (v : Value) : Option (DataW Unit × List MemPlace) :=
 match v with
 | .pointer none => some (ptrD none, [])
 | .pointer (some ⟨p, 0, none⟩) => some (ptrD (some p), [])
 | _ => none
theorem ptrR_mk (x : Option Nat) : ptrR (ptrV x) = some (ptrD x, []) := by cases x <;> rfl
theorem ptrD_inj {x y : Option Nat} (h : ptrD x = ptrD y) : x = y := by
 match x, y, h with
 | none, none, _ => rfl
 | none, some _, h => simp [ptrD] at h
 | some _, none, h => simp [ptrD] at h
 | some a, some b, h =>
  simp only [ptrD, DataW.lit.injEq, Lit.int.injEq, true_and] at h
  congr 1
  omega
theorem ptrR_inv {v : Value} {d : DataW Unit} {ps : List MemPlace} (h : ptrR v = some (d, ps)) : ∃ x, v = ptrV x ∧ d = ptrD x := by
 unfold ptrR at h
 split at h
 ·cases h; exact ⟨none, rfl, rfl⟩
 ·rename_i p
  cases h; exact ⟨some p, rfl, rfl⟩
 cases h
def FitsP (D : DataW Unit) (F : Int → Option Nat) : Prop := ∀ k, has D (key k) = (F k).isSome ∧ ∀ x, F k = some x → ∀ z, D.atKey (key k) z = ptrD (some x)
def updP (F : Int → Option Nat) (n : Int) (x : Option Nat) : Int → Option Nat := fun k => if k = n then x else F k
theorem updP_same (F : Int → Option Nat) (n : Int) (x : Option Nat) : updP F n x n = x := if_pos rfl
theorem updP_other (F : Int → Option Nat) {n k : Int} (h : k ≠ n) (x : Option Nat) : updP F n x k = F k := if_neg h
theorem FitsP.empty : FitsP (.map []) (fun _ => none) := fun k => ⟨rfl, fun x h => by cases h⟩
theorem FitsP.put {D : DataW Unit} {F : Int → Option Nat} (h : FitsP D F) (hD : IsMap D) (n : Int) (x : Nat) : FitsP (D.put (key n) (ptrD (some x))) (updP F n (some x)) := fun k => by
 by_cases hk : k = n
 ·subst hk
  rw [updP_same]
  exact ⟨has_put_same hD (by simp [key, WideAt.IsKeyLit]) _, fun y hy z => by cases hy; exact atKey_put_same hD (by simp [key, WideAt.IsKeyLit]) _ _⟩
 have hne : key k ≠ key n := fun e => hk (key_inj e)
 rw [updP_other F hk]
 exact ⟨by rw [has_put_other hne]; exact (h k).1, fun y hy z => by rw [atKey_put_other hne]; exact (h k).2 y hy z⟩
def TP (w : World) (b n : Nat) (F : Int → Option Nat) : Prop := ∃ D, w.ownsMap Try.prog 3 ptrR b n D ∧ FitsP D F
theorem zeroP (w : World) : (zeroValue 23).run Try.prog w = .ok (ptrV none) w := by kernel_rfl
theorem TP.lt {w : World} {b n : Nat} {F : Int → Option Nat} (h : TP w b n F) : b < w.heap.size := by obtain ⟨D, h1, _⟩ := h; exact h1.lt
theorem TP.fr {w w' : World} {b n : Nat} {F : Int → Option Nat} (h : TP w b n F) (e : w'.heap[b]? = w.heap[b]?) : TP w' b n F := by
 obtain ⟨D, h1, h2⟩ := h
 obtain ⟨es, clock, hb1, r⟩ := h1
 exact ⟨D, ⟨es, clock, e.trans hb1, r⟩, h2⟩
theorem TP.mono {w : World} {b n n' : Nat} {F : Int → Option Nat} (h : TP w b n F) (hn : n ≤ n') : TP w b n' F := by
 obtain ⟨D, h1, h2⟩ := h
 exact ⟨D, h1.mono hn, h2⟩
theorem TP.made (w : World) : TP (w.alloc (.map #[] 0)) w.heap.size 0 (fun _ => none) := ⟨_, World.ownsMap_made w _ _ _, FitsP.empty⟩
section
variable (w : World) {ops : Array Oper} {rest : List Oper} {o : Oper} {a : Act} {Q : Exit → Act → World → Prop}
theorem lookP (hg : o.guard = none) (m x : Operand) (hop : o.op = Op.lookup 120 m x false) (b n : Nat) (F : Int → Option Nat)
  (hm : a.eval m = .map (some b)) (hT : TP w b n F) (k : Int) (hx : a.eval x = .int .i64 k) (hk : (Lit.int .i64 k).wf = true) (y : Option Nat) (hF : F k = y)
  (hK : wpList Try.prog ops Q rest (a.put o.dst (ptrV y)) w) : wpList Try.prog ops Q (o :: rest) a w := by
 obtain ⟨D, h1, h2⟩ := hT
 obtain ⟨v, ps, hrun, hv⟩ := h1.lookup law Try.underlying120 (zeroP w) (ptrR_mk none) (wf_key hk)
 obtain ⟨z, rfl, hz⟩ := ptrR_inv hv
 have e : z = y := by
  subst hF
  cases hF : F k with
  | none =>
   have h3 := (h2 k).1
   rw [hF] at h3
   rw [atKey_of_not_has h3] at hz
   exact (ptrD_inj hz).symm
  | some q =>
   rw [(h2 k).2 q hF] at hz
   exact (ptrD_inj hz).symm
 subst e
 refine wpList_plain hg fun K' hK' => ?_
 unfold Oper.wp
 simp [execOp, hop, hm, hx, hrun, Result.andThen]
 exact hK' _ _ hK
end
end Go.Proofs.Ytljnlnbopohghaa.Mdl
end
section
namespace Go.Proofs.Ytljnlnbopohghaa.OrdSm
open Go.RowKit Go.Proofs.YtljnlnbopohghaaW.PrintWords Go.Proofs.YtljnlnbopohghaaW.PrintLast Go.Proofs.YtljnlnbopohghaaW.PrintMore Go.Proofs.Ytljnlnbopohghaa.Own Go.Proofs.Ytljnlnbopohghaa.Ord
def In (w : World) : Kn ByteArray ByteArray → Prop
 | .nil => True
 | .node b k v l r => w.heap[b]? = some (.cells #[.string k, .string v, .pointer l.adr, .pointer r.adr, .int .i64 (Kn.node b k v l r).hgt, .int .i64 (Kn.node b k v l r).cnt] 159 (0, 0)) ∧ In w l ∧ In w r
theorem in_fr {w w' : World} {B : List Nat} (h : Fr B w w') : ∀ {T : Kn ByteArray ByteArray}, In w T → (∀ x ∈ T.bs, x ∉ B) → In w' T
 | .nil, _, _ => trivial
 | .node b k v l r, hi, hn => ⟨h.blk hi.1 (hn b (by simp [Kn.bs])), in_fr h hi.2.1 (fun x hx => hn x (by simp [Kn.bs, hx])), in_fr h hi.2.2 (fun x hx => hn x (by simp [Kn.bs, hx]))⟩
theorem in_lt {w : World} : ∀ {T : Kn ByteArray ByteArray}, In w T → ∀ x ∈ T.bs, x < w.heap.size
 | .nil, _, x, hx => by simp [Kn.bs] at hx
 | .node b k v l r, hi, x, hx => by
  simp only [Kn.bs, List.mem_cons, List.mem_append] at hx
  rcases hx with rfl | hx | hx
  ·exact blk_lt hi.1
  ·exact in_lt hi.2.1 x hx
  exact in_lt hi.2.2 x hx
theorem in_typed {w : World} : ∀ {T : Kn ByteArray ByteArray}, In w T → ∀ x ∈ T.bs, ∃ cells, w.heap[x]? = some (.cells cells 159 (0, 0))
 | .nil, _, x, hx => by simp [Kn.bs] at hx
 | .node b k v l r, hi, x, hx => by
  simp only [Kn.bs, List.mem_cons, List.mem_append] at hx
  rcases hx with rfl | hx | hx
  ·exact ⟨_, hi.1⟩
  ·exact in_typed hi.2.1 x hx
  exact in_typed hi.2.2 x hx
theorem in_drewN {w : World} (n : Nat) : ∀ {T : Kn ByteArray ByteArray}, In w T → In (w.drewN n) T
 | .nil, _ => trivial
 | .node _ _ _ _ _, hi => ⟨hi.1, in_drewN n hi.2.1, in_drewN n hi.2.2⟩
attribute [local go_sem] max2_int max_two
set_option maxHeartbeats 2000000
set_option maxRecDepth 100000
theorem depth_any (T : Kn ByteArray ByteArray) (w : World) (h : In w T) : Calls Try.prog 133 #[.pointer T.adr] w fun e w' => e = .returned (.int .i64 T.hgt) ∧ w' = w := by
 cases T with
 | nil =>
  show Calls Try.prog 133 #[.pointer none] w _
  go_enter Try.func133, Try.ntmps133
  go_wp2
  go_ret
  exact ⟨rfl, rfl⟩
 | node b k v l r =>
  show Calls Try.prog 133 #[.pointer (some ⟨b, 0, none⟩)] w _
  have c : w.cell? ⟨b, 4, none⟩ = some (.int .i64 (Kn.node b k v l r).hgt) := blk_cell h.1 4
  go_enter Try.func133, Try.ntmps133
  go_wp2
  go_ret
  exact ⟨rfl, rfl⟩
theorem size_any (T : Kn ByteArray ByteArray) (w : World) (h : In w T) : Calls Try.prog 82 #[.pointer T.adr] w fun e w' => e = .returned (.int .i64 T.cnt) ∧ w' = w := by
 cases T with
 | nil =>
  show Calls Try.prog 82 #[.pointer none] w _
  go_enter Try.func82, Try.ntmps82
  go_wp2
  go_ret
  exact ⟨rfl, rfl⟩
 | node b k v l r =>
  show Calls Try.prog 82 #[.pointer (some ⟨b, 0, none⟩)] w _
  have c : w.cell? ⟨b, 5, none⟩ = some (.int .i64 (Kn.node b k v l r).cnt) := blk_cell h.1 5
  go_enter Try.func82, Try.ntmps82
  go_wp2
  go_ret
  exact ⟨rfl, rfl⟩
theorem fresh_any (b : Nat) (k : ByteArray) (v : ByteArray) (l r : Kn ByteArray ByteArray) (d s : Int) (w : World)
  (hb : w.heap[b]? = some (.cells #[.string k, .string v, .pointer l.adr, .pointer r.adr, .int .i64 d, .int .i64 s] 159 (0, 0))) (hl : In w l) (hr : In w r) (nl : b ∉ l.bs) (nr : b ∉ r.bs) (hc : l.cnt + r.cnt < 4611686018427387904) :
  Calls Try.prog 121 #[.pointer (some ⟨b, 0, none⟩)] w fun e w' => e = .returned (.pointer (some ⟨b, 0, none⟩)) ∧ In w' (.node b k v l r) ∧ Fr [b] w w' := by
 obtain ⟨m, hm⟩ : ∃ m, m = mx l.hgt r.hgt := ⟨_, rfl⟩
 have h1 := Kn.bounds l
 have h2 := Kn.bounds r
 have hm2 : 0 ≤ m ∧ m < 4611686018427387904 := by rw [hm]; unfold mx; split <;> omega
 have hw1 : IntKind.i64.wrap (1 + m) = 1 + m := IntWalk.i64_in _ (by omega)
 have hmH : Hid (m = mx l.hgt r.hgt) := hm
 clear hm
 have hw2 : IntKind.i64.wrap (1 + l.cnt) = 1 + l.cnt := IntWalk.i64_in _ (by omega)
 have hw3 : IntKind.i64.wrap (1 + l.cnt + r.cnt) = 1 + l.cnt + r.cnt := IntWalk.i64_in _ (by omega)
 go_enter Try.func121, Try.ntmps121
 go_wp2_with fail
 refine still_tail 13 (by kernel_rfl) (by kernel_rfl) (fun W hW => ?_)
 simp only [List.take_succ_cons, List.take_zero, List.drop_succ_cons, List.drop_zero]
 have hb1 : W.heap[b]? = some (.cells #[.string k, .string v, .pointer l.adr, .pointer r.adr, .int .i64 d, .int .i64 s] 159 (0, 0)) := by rw [hW]; exact hb
 have fr1 : Fr [b] w W := by rw [hW]; exact (Fr.refl _ _).drew
 clear hW hb
 have hl1 : In W l := in_fr fr1 hl (fun x hx => by simp; rintro rfl; exact nl hx)
 have hr1 : In W r := in_fr fr1 hr (fun x hx => by simp; rintro rfl; exact nr hx)
 have c2 : W.cell? ⟨b, 2, none⟩ = some (.pointer l.adr) := blk_cell hb1 2
 have c3 : W.cell? ⟨b, 3, none⟩ = some (.pointer r.adr) := blk_cell hb1 3
 have c4 : W.cell? ⟨b, 4, none⟩ = some (.int .i64 d) := blk_cell hb1 4
 have f4 := blk_frozen hb1 4
 iterate 5 still_step
 still_call (depth_any l _ hl1)
 iterate 4 still_step
 still_call (depth_any r _ hr1)
 iterate 2 still_step
 refine wpStill_nil ?_
 simp only [show (if l.hgt < r.hgt then r.hgt else l.hgt) = m from hmH.out.symm, hw1]
 go_wp2_with fail
 refine still_tail 13 (by kernel_rfl) (by kernel_rfl) (fun W2 hW2 => ?_)
 simp only [List.take_succ_cons, List.take_zero, List.drop_succ_cons, List.drop_zero]
 have hb2 : W2.heap[b]? = some (.cells #[.string k, .string v, .pointer l.adr, .pointer r.adr, .int .i64 (1 + m), .int .i64 s] 159 (0, 0)) := by rw [hW2]; exact blk_put hb1 4 _ rfl
 have fr2 : Fr [b] W W2 := by rw [hW2]; exact ((Fr.refl _ _).set (.inl (by simp)) _).drew
 clear hW2 hb1 c2 c3 c4 f4
 have hl2 : In W2 l := in_fr fr2 hl1 (fun x hx => by simp; rintro rfl; exact nl hx)
 have hr2 : In W2 r := in_fr fr2 hr1 (fun x hx => by simp; rintro rfl; exact nr hx)
 have c2 : W2.cell? ⟨b, 2, none⟩ = some (.pointer l.adr) := blk_cell hb2 2
 have c3 : W2.cell? ⟨b, 3, none⟩ = some (.pointer r.adr) := blk_cell hb2 3
 have c5 : W2.cell? ⟨b, 5, none⟩ = some (.int .i64 s) := blk_cell hb2 5
 have f5 := blk_frozen hb2 5
 iterate 5 still_step
 still_call (size_any l _ hl2)
 iterate 5 still_step
 still_call (size_any r _ hr2)
 still_step
 refine wpStill_nil ?_
 go_wp2_with fail
 go_ret
 have fr3 : Fr [b] W2 (W2.setCell ⟨b, 5, none⟩ (.int .i64 (1 + l.cnt + r.cnt))) := (Fr.refl _ _).set (.inl (by simp)) _
 refine ⟨rfl, ⟨?_, in_fr fr3 hl2 (fun x hx => by simp; rintro rfl; exact nl hx), in_fr fr3 hr2 (fun x hx => by simp; rintro rfl; exact nr hx)⟩, (fr1.trans fr2 (fun x hx => .inl hx)).trans fr3 (fun x hx => .inl hx)⟩
 simp only [Kn.hgt, Kn.cnt, ← hmH.out]
 exact blk_put hb2 5 _ rfl
end Go.Proofs.Ytljnlnbopohghaa.OrdSm
end
section
namespace Go.Proofs.Ytljnlnbopohghaa.OrdSm
open Go.RowKit Go.Proofs.YtljnlnbopohghaaW.PrintWords Go.Proofs.YtljnlnbopohghaaW.PrintLast Go.Proofs.YtljnlnbopohghaaW.PrintMore Go.Proofs.Ytljnlnbopohghaa.Own Go.Proofs.Ytljnlnbopohghaa.Ord
def Top (w : World) (b : Nat) (k : ByteArray) (v : ByteArray) (l r : Option Addr) : Prop := ∃ d s : Int, w.heap[b]? = some (.cells #[.string k, .string v, .pointer l, .pointer r, .int .i64 d, .int .i64 s] 159 (0, 0))
theorem Top.fr {w w' : World} {B : List Nat} {b : Nat} {k : ByteArray} {v : ByteArray} {l r : Option Addr} (h : Top w b k v l r) (f : Fr B w w') (hn : b ∉ B) : Top w' b k v l r := by
  obtain ⟨d, s, h⟩ := h
  exact ⟨d, s, f.blk h hn⟩
theorem Top.low {w : World} {b : Nat} {k : ByteArray} {v : ByteArray} {l r : Option Addr} (h : Top w b k v l r) (l' : Option Addr) : Top (w.setCell ⟨b, 2, none⟩ (.pointer l')) b k v l' r := by
  obtain ⟨d, s, h⟩ := h
  exact ⟨d, s, blk_put h 2 _ rfl⟩
theorem Top.high {w : World} {b : Nat} {k : ByteArray} {v : ByteArray} {l r : Option Addr} (h : Top w b k v l r) (r' : Option Addr) : Top (w.setCell ⟨b, 3, none⟩ (.pointer r')) b k v l r' := by
  obtain ⟨d, s, h⟩ := h
  exact ⟨d, s, blk_put h 3 _ rfl⟩
theorem Top.of_in {w : World} {b : Nat} {k : ByteArray} {v : ByteArray} {l r : Kn ByteArray ByteArray} (h : In w (.node b k v l r)) : Top w b k v l.adr r.adr := ⟨_, _, h.1⟩
theorem Top.cells {w : World} {b : Nat} {k : ByteArray} {v : ByteArray} {l r : Option Addr} (h : Top w b k v l r) :
    w.cell? ⟨b, 0, none⟩ = some (.string k) ∧ w.cell? ⟨b, 1, none⟩ = some (.string v) ∧ w.cell? ⟨b, 2, none⟩ = some (.pointer l) ∧ w.cell? ⟨b, 3, none⟩ = some (.pointer r) ∧ w.frozen? ⟨b, 1, none⟩ = false ∧ w.frozen? ⟨b, 2, none⟩ = false ∧ w.frozen? ⟨b, 3, none⟩ = false := by
  obtain ⟨d, s, h⟩ := h
  exact ⟨blk_cell h 0, blk_cell h 1, blk_cell h 2, blk_cell h 3, blk_frozen h 1, blk_frozen h 2, blk_frozen h 3⟩
theorem fresh_top {b : Nat} {k : ByteArray} {v : ByteArray} {l r : Kn ByteArray ByteArray} {w : World} (hb : Top w b k v l.adr r.adr) (hl : In w l) (hr : In w r) (nl : b ∉ l.bs) (nr : b ∉ r.bs) (hc : l.cnt + r.cnt < 4611686018427387904) :
    Calls Try.prog 121 #[.pointer (some ⟨b, 0, none⟩)] w fun e w' => e = .returned (.pointer (some ⟨b, 0, none⟩)) ∧ In w' (.node b k v l r) ∧ Fr [b] w w' := by
  obtain ⟨d, s, hb⟩ := hb
  exact fresh_any b k v l r d s w hb hl hr nl nr hc
theorem set_in {w : World} {T : Kn ByteArray ByteArray} (h : In w T) {b : Nat} (hn : b ∉ T.bs) (i : Nat) (u : Value) : In (w.setCell ⟨b, i, none⟩ u) T :=
  in_fr (B := [b]) ((Fr.refl _ w).set (.inl (by simp)) u) h (fun x hx => by simp; rintro rfl; exact hn hx)
set_option maxHeartbeats 2000000
set_option maxRecDepth 100000
theorem up_any {b hb : Nat} {k hk : ByteArray} {v hv : ByteArray} {l hl hr : Kn ByteArray ByteArray} {w : World} (h1 : Top w b k v l.adr (some ⟨hb, 0, none⟩)) (h2 : Top w hb hk hv hl.adr hr.adr) (il : In w l) (ihl : In w hl) (ihr : In w hr)
    (hnd : (Kn.node b k v l (.node hb hk hv hl hr)).bs.Nodup) (hc : (Kn.node b k v l (.node hb hk hv hl hr)).cnt < 4611686018427387904) :
    Calls Try.prog 134 #[.pointer (some ⟨b, 0, none⟩)] w fun e w' => e = .returned (.pointer (some ⟨hb, 0, none⟩)) ∧ In w' (.node hb hk hv (.node b k v l hl) hr) ∧ Fr [b, hb] w w' := by
  simp only [Kn.bs, List.nodup_cons, List.nodup_append, List.mem_append, List.mem_cons, not_or] at hnd
  simp only [Kn.cnt] at hc
  obtain ⟨⟨nbl, nbh, nbhl, nbhr⟩, ndl, ⟨⟨nhhl, nhhr⟩, ndhl, ndhr, dj⟩, dl⟩ := hnd
  have nhl : hb ∉ l.bs := fun h => dl hb h hb (.inl rfl) rfl
  have := Kn.bounds l; have := Kn.bounds hl; have := Kn.bounds hr
  have b1 : l.cnt + hl.cnt < 4611686018427387904 := by omega
  have b2 : (Kn.node b k v l hl).cnt + hr.cnt < 4611686018427387904 := by simp only [Kn.cnt]; omega
  obtain ⟨c10, c11, c12, c13, f11, f12, f13⟩ := h1.cells
  obtain ⟨c20, c21, c22, c23, f21, f22, f23⟩ := h2.cells
  have W1 := fresh_top (h1.high hl.adr) (set_in il nbl 3 _) (set_in ihl nbhl 3 _) nbl nbhl b1
  have fr0 : Fr [b, hb] w (w.setCell ⟨b, 3, none⟩ (.pointer hl.adr)) := (Fr.refl _ _).set (.inl (by simp)) _
  have h2' : Top (w.setCell ⟨b, 3, none⟩ (.pointer hl.adr)) hb hk hv hl.adr hr.adr := h2.fr (B := [b]) ((Fr.refl _ _).set (.inl (by simp)) _) (by simp; exact fun e => nbh e.symm)
  have ihr' := set_in ihr nbhr 3 (.pointer hl.adr)
  clear h1 h2 il ihl ihr
  go_enter Try.func134, Try.ntmps134
  go_wp2_with (first
    | (go_at_call_of 121 (some (⟨b, 0, none⟩ : Addr))
       refine W1.mono ?_
       clear W1
       rintro e w1 ⟨rfl, hi, fr⟩
       have h3 := h2'.fr fr (by simp; exact fun e => nbh e.symm)
       have ihr1 := in_fr fr ihr' (fun x hx => by simp; rintro rfl; exact nbhr hx)
       obtain ⟨c30, c31, c32, c33, f31, f32, f33⟩ := h3.cells
       have nn : hb ∉ (Kn.node b k v l hl).bs := by simp only [Kn.bs, List.mem_cons, List.mem_append, not_or]; exact ⟨fun e => nbh e.symm, nhl, nhhl⟩
       have W2 := fresh_top (h3.low (some ⟨b, 0, none⟩)) (l := Kn.node b k v l hl) (set_in hi nn 2 _) (set_in ihr1 nhhr 2 _) nn nhhr b2
       have fr1 : Fr [b, hb] w (w1.setCell ⟨hb, 2, none⟩ (.pointer (some ⟨b, 0, none⟩))) := (fr0.trans fr (fun x hx => .inl (by simp at hx; simp [hx]))).set (.inl (by simp)) _
       clear h3 ihr1 hi)
    | (go_at_call_of 121 (some (⟨hb, 0, none⟩ : Addr))
       refine W2.mono ?_
       clear W2
       rintro e w2 ⟨rfl, hi2, fr2⟩))
  go_ret
  exact ⟨rfl, hi2, fr1.trans fr2 (fun x hx => .inl (by simp at hx; simp [hx]))⟩
theorem down_any {b lb : Nat} {k lk : ByteArray} {v lv : ByteArray} {r ll lr : Kn ByteArray ByteArray} {w : World} (h1 : Top w b k v (some ⟨lb, 0, none⟩) r.adr) (h2 : Top w lb lk lv ll.adr lr.adr) (ir : In w r) (ill : In w ll) (ilr : In w lr)
    (hnd : (Kn.node b k v (.node lb lk lv ll lr) r).bs.Nodup) (hc : (Kn.node b k v (.node lb lk lv ll lr) r).cnt < 4611686018427387904) :
    Calls Try.prog 135 #[.pointer (some ⟨b, 0, none⟩)] w fun e w' => e = .returned (.pointer (some ⟨lb, 0, none⟩)) ∧ In w' (.node lb lk lv ll (.node b k v lr r)) ∧ Fr [b, lb] w w' := by
  simp only [Kn.bs, List.nodup_cons, List.nodup_append, List.mem_append, List.mem_cons, not_or] at hnd
  simp only [Kn.cnt] at hc
  obtain ⟨⟨⟨nbh, nbll, nblr⟩, nbr⟩, ⟨⟨nlll, nllr⟩, ndll, ndlr, dj⟩, ndr, dl⟩ := hnd
  have nlr : lb ∉ r.bs := fun h => dl lb (.inl rfl) lb h rfl
  have := Kn.bounds r; have := Kn.bounds ll; have := Kn.bounds lr
  have b1 : lr.cnt + r.cnt < 4611686018427387904 := by omega
  have b2 : ll.cnt + (Kn.node b k v lr r).cnt < 4611686018427387904 := by simp only [Kn.cnt]; omega
  obtain ⟨c10, c11, c12, c13, f11, f12, f13⟩ := h1.cells
  obtain ⟨c20, c21, c22, c23, f21, f22, f23⟩ := h2.cells
  have W1 := fresh_top (h1.low lr.adr) (set_in ilr nblr 2 _) (set_in ir nbr 2 _) nblr nbr b1
  have fr0 : Fr [b, lb] w (w.setCell ⟨b, 2, none⟩ (.pointer lr.adr)) := (Fr.refl _ _).set (.inl (by simp)) _
  have h2' : Top (w.setCell ⟨b, 2, none⟩ (.pointer lr.adr)) lb lk lv ll.adr lr.adr := h2.fr (B := [b]) ((Fr.refl _ _).set (.inl (by simp)) _) (by simp; exact fun e => nbh e.symm)
  have ill' := set_in ill nbll 2 (.pointer lr.adr)
  clear h1 h2 ill ilr ir
  go_enter Try.func135, Try.ntmps135
  go_wp2_with (first
    | (go_at_call_of 121 (some (⟨b, 0, none⟩ : Addr))
       refine W1.mono ?_
       clear W1
       rintro e w1 ⟨rfl, hi, fr⟩
       have h3 := h2'.fr fr (by simp; exact fun e => nbh e.symm)
       have ill1 := in_fr fr ill' (fun x hx => by simp; rintro rfl; exact nbll hx)
       obtain ⟨c30, c31, c32, c33, f31, f32, f33⟩ := h3.cells
       have nn : lb ∉ (Kn.node b k v lr r).bs := by simp only [Kn.bs, List.mem_cons, List.mem_append, not_or]; exact ⟨fun e => nbh e.symm, nllr, nlr⟩
       have W2 := fresh_top (h3.high (some ⟨b, 0, none⟩)) (r := Kn.node b k v lr r) (set_in ill1 nlll 3 _) (set_in hi nn 3 _) nlll nn b2
       have fr1 : Fr [b, lb] w (w1.setCell ⟨lb, 3, none⟩ (.pointer (some ⟨b, 0, none⟩))) := (fr0.trans fr (fun x hx => .inl (by simp at hx; simp [hx]))).set (.inl (by simp)) _
       clear h3 ill1 hi)
    | (go_at_call_of 121 (some (⟨lb, 0, none⟩ : Addr))
       refine W2.mono ?_
       clear W2
       rintro e w2 ⟨rfl, hi2, fr2⟩))
  go_ret
  exact ⟨rfl, hi2, fr1.trans fr2 (fun x hx => .inl (by simp at hx; simp [hx]))⟩
end Go.Proofs.Ytljnlnbopohghaa.OrdSm
end
section
namespace Go.Proofs.Ytljnlnbopohghaa.OrdSm
open Go.RowKit Go.Proofs.YtljnlnbopohghaaW.PrintWords Go.Proofs.YtljnlnbopohghaaW.PrintLast Go.Proofs.YtljnlnbopohghaaW.PrintMore Go.Proofs.Ytljnlnbopohghaa.Own Go.Proofs.Ytljnlnbopohghaa.Ord
set_option maxHeartbeats 2000000
set_option maxRecDepth 100000
theorem even_a1 {b lb xb : Nat} {k lk xk : ByteArray} {v lv xv : ByteArray} {r ll xl xr : Kn ByteArray ByteArray} {w : World} (h1 : Top w b k v (some ⟨lb, 0, none⟩) r.adr) (il : In w (.node lb lk lv ll (.node xb xk xv xl xr))) (ir : In w r)
    (hnd : (Kn.node b k v (.node lb lk lv ll (.node xb xk xv xl xr)) r).bs.Nodup) (hc : (Kn.node b k v (.node lb lk lv ll (.node xb xk xv xl xr)) r).cnt < 4611686018427387904)
    (hd : 1 < (Kn.node lb lk lv ll (.node xb xk xv xl xr)).hgt - r.hgt) (hx : ll.hgt < (Kn.node xb xk xv xl xr).hgt) :
    Calls Try.prog 118 #[.pointer (some ⟨b, 0, none⟩)] w fun e w' => e = .returned (.pointer (some ⟨xb, 0, none⟩)) ∧ In w' (.node xb xk xv (.node lb lk lv ll xl) (.node b k v xr r)) ∧ Fr (Kn.node b k v (.node lb lk lv ll (.node xb xk xv xl xr)) r).bs w w' := by
  have hndL : (Kn.node lb lk lv ll (.node xb xk xv xl xr)).bs.Nodup := by
    simp only [Kn.bs, List.nodup_cons, List.nodup_append] at hnd ⊢; exact hnd.2.1
  have nbL : b ∉ (Kn.node lb lk lv ll (.node xb xk xv xl xr)).bs := by
    simp only [Kn.bs, List.nodup_cons, List.mem_append, not_or] at hnd ⊢; exact hnd.1.1
  have nbr : b ∉ r.bs := by simp only [Kn.bs, List.nodup_cons, List.mem_append, not_or] at hnd ⊢; exact hnd.1.2
  have nLr : ∀ x ∈ (Kn.node lb lk lv ll (.node xb xk xv xl xr)).bs, x ∉ r.bs := fun x hx hr => by
    have := hnd; simp only [Kn.bs, List.nodup_cons, List.nodup_append] at this hx
    exact this.2.2.2 x hx x hr rfl
  have pU : (Kn.node xb xk xv (.node lb lk lv ll xl) xr).bs.Perm (Kn.node lb lk lv ll (.node xb xk xv xl xr)).bs := Kn.up_bs (.node lb lk lv ll (.node xb xk xv xl xr))
  have hnd2 : (Kn.node b k v (.node xb xk xv (.node lb lk lv ll xl) xr) r).bs.Nodup := (Kn.perm_left pU).nodup_iff.2 hnd
  have hcL : (Kn.node lb lk lv ll (.node xb xk xv xl xr)).cnt < 4611686018427387904 := by
    have := Kn.bounds r; simp only [Kn.cnt] at hc ⊢; omega
  have hc2 : (Kn.node b k v (.node xb xk xv (.node lb lk lv ll xl) xr) r).cnt < 4611686018427387904 := by simp only [Kn.cnt] at hc ⊢; omega
  have hbL := Kn.bounds (Kn.node lb lk lv ll (.node xb xk xv xl xr))
  have hbr := Kn.bounds r
  have hbc : r.cnt < 4611686018427387904 := by simp only [Kn.cnt] at hc; have := Kn.bounds ll; have := Kn.bounds xl; have := Kn.bounds xr; omega
  have hw1 : IntKind.i64.wrap ((Kn.node lb lk lv ll (.node xb xk xv xl xr)).hgt - r.hgt) = (Kn.node lb lk lv ll (.node xb xk xv xl xr)).hgt - r.hgt := IntWalk.i64_in _ (by omega)
  obtain ⟨c10, c11, c12, c13, f11, f12, f13⟩ := h1.cells
  go_enter Try.func118, Try.ntmps118
  go_wp2_with fail
  refine still_all (by kernel_rfl) (by kernel_rfl) (fun W hW => ?_)
  have fr1 : Fr [] w W := by rw [hW]; exact (Fr.refl _ _).drew
  clear hW c10 c11 c12 c13 f11 f12 f13
  have h1 := h1.fr fr1 (by simp)
  have il := in_fr fr1 il (by simp)
  have ir := in_fr fr1 ir (by simp)
  obtain ⟨c10, c11, c12, c13, f11, f12, f13⟩ := h1.cells
  repeat still_step
  still_call (depth_any (Kn.node lb lk lv ll (.node xb xk xv xl xr)) _ il)
  repeat still_step
  still_call (depth_any r _ ir)
  repeat still_step
  refine wpStill_nil ?_
  obtain ⟨D, hD⟩ : ∃ D, D = (Kn.node lb lk lv ll (.node xb xk xv xl xr)).hgt := ⟨_, rfl⟩
  rw [← hD] at hd hw1
  simp only [← hD]
  clear hD
  go_wp2_with fail
  refine still_all (by kernel_rfl) (by kernel_rfl) (fun W2 hW => ?_)
  have fr2 : Fr [] W W2 := by rw [hW]; exact (Fr.refl _ _).drew
  clear hW c10 c11 c12 c13 f11 f12 f13
  have h2 := h1.fr fr2 (by simp)
  have il2 := in_fr fr2 il (by simp)
  have ir2 := in_fr fr2 ir (by simp)
  clear h1 il ir
  obtain ⟨c10, c11, c12, c13, f11, f12, f13⟩ := h2.cells
  obtain ⟨d10, d11, d12, d13, g11, g12, g13⟩ := (Top.of_in il2).cells
  rw [Kn.adr] at d13
  repeat still_step
  still_call (depth_any ll _ il2.2.1)
  repeat still_step
  still_call (depth_any (Kn.node xb xk xv xl xr) _ il2.2.2)
  repeat still_step
  refine wpStill_nil ?_
  obtain ⟨E, hE⟩ : ∃ E, E = (Kn.node xb xk xv xl xr).hgt := ⟨_, rfl⟩
  rw [← hE] at hx
  simp only [← hE]
  clear hE
  have W1 := up_any (Top.of_in il2) (Top.of_in il2.2.2) il2.2.1 il2.2.2.2.1 il2.2.2.2.2 hndL hcL
  have fl : ∀ x ∈ [lb, xb], x ∈ (Kn.node lb lk lv ll (.node xb xk xv xl xr)).bs := by intro x hx; simp at hx; rcases hx with rfl | rfl <;> simp [Kn.bs]
  have fb : b ∉ [lb, xb] := fun h => nbL (fl b h)
  go_wp2_with (first
    | (go_at_call 134
       refine W1.mono ?_
       clear W1
       rintro e w3 ⟨rfl, hi, fr3⟩
       have h3 := h2.fr fr3 fb
       have ir3 := in_fr fr3 ir2 (fun x hx hm => nLr x (fl x hm) hx)
       obtain ⟨c30, c31, c32, c33, f31, f32, f33⟩ := h3.cells
       have nb3 : b ∉ (Kn.node xb xk xv (.node lb lk lv ll xl) xr).bs := fun h => nbL (pU.mem_iff.1 h)
       have hi4 := set_in hi nb3 2 (.pointer (some ⟨xb, 0, none⟩))
       have W4 := down_any (h3.low (some ⟨xb, 0, none⟩)) (Top.of_in hi4) (set_in ir3 nbr 2 _) hi4.2.1 hi4.2.2 hnd2 hc2
       have fr4 : Fr (Kn.node b k v (.node lb lk lv ll (.node xb xk xv xl xr)) r).bs w (w3.setCell ⟨b, 2, none⟩ (.pointer (some ⟨xb, 0, none⟩))) := by
         refine ((((fr1.wide (fun _ h => by cases h)).trans fr2 (fun _ h => by cases h)).trans fr3 (fun x hx => .inl ?_)).set (.inl ?_) _)
         · exact List.mem_cons_of_mem _ (List.mem_append_left _ (fl x hx))
         · simp [Kn.bs]
       clear hi h3 ir3 hi4)
    | (go_at_call 135
       refine W4.mono ?_
       clear W4
       rintro e w5 ⟨rfl, hi5, fr5⟩))
  go_ret
  exact ⟨rfl, hi5, fr4.trans fr5 (fun x hx => .inl (by simp at hx; rcases hx with rfl | rfl <;> simp [Kn.bs]))⟩
theorem even_a2 {b lb : Nat} {k lk : ByteArray} {v lv : ByteArray} {r ll lr : Kn ByteArray ByteArray} {w : World} (h1 : Top w b k v (some ⟨lb, 0, none⟩) r.adr) (il : In w (.node lb lk lv ll lr)) (ir : In w r)
    (hnd : (Kn.node b k v (.node lb lk lv ll lr) r).bs.Nodup) (hc : (Kn.node b k v (.node lb lk lv ll lr) r).cnt < 4611686018427387904)
    (hd : 1 < (Kn.node lb lk lv ll lr).hgt - r.hgt) (hx : ¬ ll.hgt < lr.hgt) :
    Calls Try.prog 118 #[.pointer (some ⟨b, 0, none⟩)] w fun e w' => e = .returned (.pointer (some ⟨lb, 0, none⟩)) ∧ In w' (.node lb lk lv ll (.node b k v lr r)) ∧ Fr (Kn.node b k v (.node lb lk lv ll lr) r).bs w w' := by
  have hbL := Kn.bounds (Kn.node lb lk lv ll lr)
  have hbr := Kn.bounds r
  have hbc : r.cnt < 4611686018427387904 ∧ (Kn.node lb lk lv ll lr).cnt < 4611686018427387904 := by simp only [Kn.cnt] at hc ⊢; have := Kn.bounds ll; have := Kn.bounds lr; omega
  have hw1 : IntKind.i64.wrap ((Kn.node lb lk lv ll lr).hgt - r.hgt) = (Kn.node lb lk lv ll lr).hgt - r.hgt := IntWalk.i64_in _ (by omega)
  have hx2 : lr.hgt ≤ ll.hgt := by omega
  obtain ⟨c10, c11, c12, c13, f11, f12, f13⟩ := h1.cells
  go_enter Try.func118, Try.ntmps118
  go_wp2_with fail
  refine still_all (by kernel_rfl) (by kernel_rfl) (fun W hW => ?_)
  have fr1 : Fr [] w W := by rw [hW]; exact (Fr.refl _ _).drew
  clear hW c10 c11 c12 c13 f11 f12 f13
  have h1 := h1.fr fr1 (by simp)
  have il := in_fr fr1 il (by simp)
  have ir := in_fr fr1 ir (by simp)
  obtain ⟨c10, c11, c12, c13, f11, f12, f13⟩ := h1.cells
  repeat still_step
  still_call (depth_any (Kn.node lb lk lv ll lr) _ il)
  repeat still_step
  still_call (depth_any r _ ir)
  repeat still_step
  refine wpStill_nil ?_
  obtain ⟨D, hD⟩ : ∃ D, D = (Kn.node lb lk lv ll lr).hgt := ⟨_, rfl⟩
  rw [← hD] at hd hw1
  simp only [← hD]
  clear hD
  go_wp2_with fail
  refine still_all (by kernel_rfl) (by kernel_rfl) (fun W2 hW => ?_)
  have fr2 : Fr [] W W2 := by rw [hW]; exact (Fr.refl _ _).drew
  clear hW c10 c11 c12 c13 f11 f12 f13
  have h2 := h1.fr fr2 (by simp)
  have il2 := in_fr fr2 il (by simp)
  have ir2 := in_fr fr2 ir (by simp)
  clear h1 il ir
  obtain ⟨c10, c11, c12, c13, f11, f12, f13⟩ := h2.cells
  obtain ⟨d10, d11, d12, d13, g11, g12, g13⟩ := (Top.of_in il2).cells
  repeat still_step
  still_call (depth_any ll _ il2.2.1)
  repeat still_step
  still_call (depth_any lr _ il2.2.2)
  repeat still_step
  refine wpStill_nil ?_
  have W4 := down_any h2 (Top.of_in il2) ir2 il2.2.1 il2.2.2 hnd hc
  have fr4 : Fr (Kn.node b k v (.node lb lk lv ll lr) r).bs w W2 := (fr1.wide (fun _ h => by cases h)).trans fr2 (fun _ h => by cases h)
  go_wp2_with (go_at_call 135; refine W4.mono ?_; clear W4; rintro e w5 ⟨rfl, hi5, fr5⟩)
  go_ret
  exact ⟨rfl, hi5, fr4.trans fr5 (fun x hx => .inl (by simp at hx; rcases hx with rfl | rfl <;> simp [Kn.bs]))⟩
theorem even_b1 {b rb xb : Nat} {k rk xk : ByteArray} {v rv xv : ByteArray} {l rr xl xr : Kn ByteArray ByteArray} {w : World} (h1 : Top w b k v l.adr (some ⟨rb, 0, none⟩)) (il : In w l) (ir : In w (.node rb rk rv (.node xb xk xv xl xr) rr))
    (hnd : (Kn.node b k v l (.node rb rk rv (.node xb xk xv xl xr) rr)).bs.Nodup) (hc : (Kn.node b k v l (.node rb rk rv (.node xb xk xv xl xr) rr)).cnt < 4611686018427387904)
    (hd : l.hgt - (Kn.node rb rk rv (.node xb xk xv xl xr) rr).hgt < -1) (hx : rr.hgt < (Kn.node xb xk xv xl xr).hgt) :
    Calls Try.prog 118 #[.pointer (some ⟨b, 0, none⟩)] w fun e w' => e = .returned (.pointer (some ⟨xb, 0, none⟩)) ∧ In w' (.node xb xk xv (.node b k v l xl) (.node rb rk rv xr rr)) ∧ Fr (Kn.node b k v l (.node rb rk rv (.node xb xk xv xl xr) rr)).bs w w' := by
  have hndL : (Kn.node rb rk rv (.node xb xk xv xl xr) rr).bs.Nodup := by
    simp only [Kn.bs, List.nodup_cons, List.nodup_append] at hnd ⊢; exact hnd.2.2.1
  have nbL : b ∉ (Kn.node rb rk rv (.node xb xk xv xl xr) rr).bs := by
    simp only [Kn.bs, List.nodup_cons, List.mem_append, not_or] at hnd ⊢; exact hnd.1.2
  have nbr : b ∉ l.bs := by simp only [Kn.bs, List.nodup_cons, List.mem_append, not_or] at hnd ⊢; exact hnd.1.1
  have nLr : ∀ x ∈ (Kn.node rb rk rv (.node xb xk xv xl xr) rr).bs, x ∉ l.bs := fun x hx hr => by
    have := hnd; simp only [Kn.bs, List.nodup_cons, List.nodup_append] at this hx
    exact this.2.2.2 x hr x hx rfl
  have pU : (Kn.node xb xk xv xl (.node rb rk rv xr rr)).bs.Perm (Kn.node rb rk rv (.node xb xk xv xl xr) rr).bs := Kn.down_bs (.node rb rk rv (.node xb xk xv xl xr) rr)
  have hnd2 : (Kn.node b k v l (.node xb xk xv xl (.node rb rk rv xr rr))).bs.Nodup := (Kn.perm_right pU).nodup_iff.2 hnd
  have hcL : (Kn.node rb rk rv (.node xb xk xv xl xr) rr).cnt < 4611686018427387904 := by
    have := Kn.bounds l; simp only [Kn.cnt] at hc ⊢; omega
  have hc2 : (Kn.node b k v l (.node xb xk xv xl (.node rb rk rv xr rr))).cnt < 4611686018427387904 := by simp only [Kn.cnt] at hc ⊢; omega
  have hbL := Kn.bounds (Kn.node rb rk rv (.node xb xk xv xl xr) rr)
  have hbr := Kn.bounds l
  have hbc : l.cnt < 4611686018427387904 := by simp only [Kn.cnt] at hc; have := Kn.bounds rr; have := Kn.bounds xl; have := Kn.bounds xr; omega
  have hw1 : IntKind.i64.wrap (l.hgt - (Kn.node rb rk rv (.node xb xk xv xl xr) rr).hgt) = l.hgt - (Kn.node rb rk rv (.node xb xk xv xl xr) rr).hgt := IntWalk.i64_in _ (by omega)
  obtain ⟨c10, c11, c12, c13, f11, f12, f13⟩ := h1.cells
  go_enter Try.func118, Try.ntmps118
  go_wp2_with fail
  refine still_all (by kernel_rfl) (by kernel_rfl) (fun W hW => ?_)
  have fr1 : Fr [] w W := by rw [hW]; exact (Fr.refl _ _).drew
  clear hW c10 c11 c12 c13 f11 f12 f13
  have h1 := h1.fr fr1 (by simp)
  have il := in_fr fr1 il (by simp)
  have ir := in_fr fr1 ir (by simp)
  obtain ⟨c10, c11, c12, c13, f11, f12, f13⟩ := h1.cells
  repeat still_step
  still_call (depth_any l _ il)
  repeat still_step
  still_call (depth_any (Kn.node rb rk rv (.node xb xk xv xl xr) rr) _ ir)
  repeat still_step
  refine wpStill_nil ?_
  obtain ⟨D, hD⟩ : ∃ D, D = (Kn.node rb rk rv (.node xb xk xv xl xr) rr).hgt := ⟨_, rfl⟩
  rw [← hD] at hd hw1
  simp only [← hD]
  clear hD
  have hd0 : l.hgt - D ≤ 1 := by omega
  go_wp2_with fail
  refine still_all (by kernel_rfl) (by kernel_rfl) (fun W2 hW => ?_)
  have fr2 : Fr [] W W2 := by rw [hW]; exact (Fr.refl _ _).drew
  clear hW c10 c11 c12 c13 f11 f12 f13
  have h2 := h1.fr fr2 (by simp)
  have il2 := in_fr fr2 il (by simp)
  have ir2 := in_fr fr2 ir (by simp)
  clear h1 il ir
  obtain ⟨c10, c11, c12, c13, f11, f12, f13⟩ := h2.cells
  obtain ⟨d10, d11, d12, d13, g11, g12, g13⟩ := (Top.of_in ir2).cells
  rw [Kn.adr] at d12
  repeat still_step
  still_call (depth_any rr _ ir2.2.2)
  repeat still_step
  still_call (depth_any (Kn.node xb xk xv xl xr) _ ir2.2.1)
  repeat still_step
  refine wpStill_nil ?_
  obtain ⟨E, hE⟩ : ∃ E, E = (Kn.node xb xk xv xl xr).hgt := ⟨_, rfl⟩
  rw [← hE] at hx
  simp only [← hE]
  clear hE
  have W1 := down_any (Top.of_in ir2) (Top.of_in ir2.2.1) ir2.2.2 ir2.2.1.2.1 ir2.2.1.2.2 hndL hcL
  have fl : ∀ x ∈ [rb, xb], x ∈ (Kn.node rb rk rv (.node xb xk xv xl xr) rr).bs := by intro x hx; simp at hx; rcases hx with rfl | rfl <;> simp [Kn.bs]
  have fb : b ∉ [rb, xb] := fun h => nbL (fl b h)
  go_wp2_with (first
    | (go_at_call 135
       refine W1.mono ?_
       clear W1
       rintro e w3 ⟨rfl, hi, fr3⟩
       have h3 := h2.fr fr3 fb
       have il3 := in_fr fr3 il2 (fun x hx hm => nLr x (fl x hm) hx)
       obtain ⟨c30, c31, c32, c33, f31, f32, f33⟩ := h3.cells
       have nb3 : b ∉ (Kn.node xb xk xv xl (.node rb rk rv xr rr)).bs := fun h => nbL (pU.mem_iff.1 h)
       have hi4 := set_in hi nb3 3 (.pointer (some ⟨xb, 0, none⟩))
       have W4 := up_any (h3.high (some ⟨xb, 0, none⟩)) (Top.of_in hi4) (set_in il3 nbr 3 _) hi4.2.1 hi4.2.2 hnd2 hc2
       have fr4 : Fr (Kn.node b k v l (.node rb rk rv (.node xb xk xv xl xr) rr)).bs w (w3.setCell ⟨b, 3, none⟩ (.pointer (some ⟨xb, 0, none⟩))) := by
         refine ((((fr1.wide (fun _ h => by cases h)).trans fr2 (fun _ h => by cases h)).trans fr3 (fun x hx => .inl ?_)).set (.inl ?_) _)
         · exact List.mem_cons_of_mem _ (List.mem_append_right _ (fl x hx))
         · simp [Kn.bs]
       clear hi h3 il3 hi4)
    | (go_at_call 134
       refine W4.mono ?_
       clear W4
       rintro e w5 ⟨rfl, hi5, fr5⟩))
  go_ret
  exact ⟨rfl, hi5, fr4.trans fr5 (fun x hx => .inl (by simp at hx; rcases hx with rfl | rfl <;> simp [Kn.bs]))⟩
theorem even_b2 {b rb : Nat} {k rk : ByteArray} {v rv : ByteArray} {l rl rr : Kn ByteArray ByteArray} {w : World} (h1 : Top w b k v l.adr (some ⟨rb, 0, none⟩)) (il : In w l) (ir : In w (.node rb rk rv rl rr))
    (hnd : (Kn.node b k v l (.node rb rk rv rl rr)).bs.Nodup) (hc : (Kn.node b k v l (.node rb rk rv rl rr)).cnt < 4611686018427387904)
    (hd : l.hgt - (Kn.node rb rk rv rl rr).hgt < -1) (hx : ¬ rr.hgt < rl.hgt) :
    Calls Try.prog 118 #[.pointer (some ⟨b, 0, none⟩)] w fun e w' => e = .returned (.pointer (some ⟨rb, 0, none⟩)) ∧ In w' (.node rb rk rv (.node b k v l rl) rr) ∧ Fr (Kn.node b k v l (.node rb rk rv rl rr)).bs w w' := by
  have hbL := Kn.bounds (Kn.node rb rk rv rl rr)
  have hbr := Kn.bounds l
  have hbc : l.cnt < 4611686018427387904 ∧ (Kn.node rb rk rv rl rr).cnt < 4611686018427387904 := by simp only [Kn.cnt] at hc ⊢; have := Kn.bounds rl; have := Kn.bounds rr; omega
  have hw1 : IntKind.i64.wrap (l.hgt - (Kn.node rb rk rv rl rr).hgt) = l.hgt - (Kn.node rb rk rv rl rr).hgt := IntWalk.i64_in _ (by omega)
  have hx2 : rl.hgt ≤ rr.hgt := by omega
  obtain ⟨c10, c11, c12, c13, f11, f12, f13⟩ := h1.cells
  go_enter Try.func118, Try.ntmps118
  go_wp2_with fail
  refine still_all (by kernel_rfl) (by kernel_rfl) (fun W hW => ?_)
  have fr1 : Fr [] w W := by rw [hW]; exact (Fr.refl _ _).drew
  clear hW c10 c11 c12 c13 f11 f12 f13
  have h1 := h1.fr fr1 (by simp)
  have il := in_fr fr1 il (by simp)
  have ir := in_fr fr1 ir (by simp)
  obtain ⟨c10, c11, c12, c13, f11, f12, f13⟩ := h1.cells
  repeat still_step
  still_call (depth_any l _ il)
  repeat still_step
  still_call (depth_any (Kn.node rb rk rv rl rr) _ ir)
  repeat still_step
  refine wpStill_nil ?_
  obtain ⟨D, hD⟩ : ∃ D, D = (Kn.node rb rk rv rl rr).hgt := ⟨_, rfl⟩
  rw [← hD] at hd hw1
  simp only [← hD]
  clear hD
  have hd0 : l.hgt - D ≤ 1 := by omega
  go_wp2_with fail
  refine still_all (by kernel_rfl) (by kernel_rfl) (fun W2 hW => ?_)
  have fr2 : Fr [] W W2 := by rw [hW]; exact (Fr.refl _ _).drew
  clear hW c10 c11 c12 c13 f11 f12 f13
  have h2 := h1.fr fr2 (by simp)
  have il2 := in_fr fr2 il (by simp)
  have ir2 := in_fr fr2 ir (by simp)
  clear h1 il ir
  obtain ⟨c10, c11, c12, c13, f11, f12, f13⟩ := h2.cells
  obtain ⟨d10, d11, d12, d13, g11, g12, g13⟩ := (Top.of_in ir2).cells
  repeat still_step
  still_call (depth_any rr _ ir2.2.2)
  repeat still_step
  still_call (depth_any rl _ ir2.2.1)
  repeat still_step
  refine wpStill_nil ?_
  have W4 := up_any h2 (Top.of_in ir2) il2 ir2.2.1 ir2.2.2 hnd hc
  have fr4 : Fr (Kn.node b k v l (.node rb rk rv rl rr)).bs w W2 := (fr1.wide (fun _ h => by cases h)).trans fr2 (fun _ h => by cases h)
  go_wp2_with (go_at_call 134; refine W4.mono ?_; clear W4; rintro e w5 ⟨rfl, hi5, fr5⟩)
  go_ret
  exact ⟨rfl, hi5, fr4.trans fr5 (fun x hx => .inl (by simp at hx; rcases hx with rfl | rfl <;> simp [Kn.bs]))⟩
theorem even_c {b : Nat} {k : ByteArray} {v : ByteArray} {l r : Kn ByteArray ByteArray} {w : World} (h1 : Top w b k v l.adr r.adr) (il : In w l) (ir : In w r)
    (hnd : (Kn.node b k v l r).bs.Nodup) (hc : (Kn.node b k v l r).cnt < 4611686018427387904) (hd : l.hgt - r.hgt ≤ 1) (hx : -1 ≤ l.hgt - r.hgt) :
    Calls Try.prog 118 #[.pointer (some ⟨b, 0, none⟩)] w fun e w' => e = .returned (.pointer (some ⟨b, 0, none⟩)) ∧ In w' (.node b k v l r) ∧ Fr (Kn.node b k v l r).bs w w' := by
  have hbL := Kn.bounds l
  have hbr := Kn.bounds r
  have hbc : l.cnt + r.cnt < 4611686018427387904 := by simp only [Kn.cnt] at hc; omega
  have hw1 : IntKind.i64.wrap (l.hgt - r.hgt) = l.hgt - r.hgt := IntWalk.i64_in _ (by omega)
  have nbl : b ∉ l.bs := by simp only [Kn.bs, List.nodup_cons, List.mem_append, not_or] at hnd; exact hnd.1.1
  have nbr : b ∉ r.bs := by simp only [Kn.bs, List.nodup_cons, List.mem_append, not_or] at hnd; exact hnd.1.2
  obtain ⟨c10, c11, c12, c13, f11, f12, f13⟩ := h1.cells
  go_enter Try.func118, Try.ntmps118
  go_wp2_with fail
  refine still_all (by kernel_rfl) (by kernel_rfl) (fun W hW => ?_)
  have fr1 : Fr [] w W := by rw [hW]; exact (Fr.refl _ _).drew
  clear hW c10 c11 c12 c13 f11 f12 f13
  have h1 := h1.fr fr1 (by simp)
  have il := in_fr fr1 il (by simp)
  have ir := in_fr fr1 ir (by simp)
  obtain ⟨c10, c11, c12, c13, f11, f12, f13⟩ := h1.cells
  repeat still_step
  still_call (depth_any l _ il)
  repeat still_step
  still_call (depth_any r _ ir)
  repeat still_step
  refine wpStill_nil ?_
  have W4 := fresh_top h1 il ir nbl nbr hbc
  go_wp2_with (go_at_call 121; refine W4.mono ?_; clear W4; rintro e w5 ⟨rfl, hi5, fr5⟩)
  go_ret
  exact ⟨rfl, hi5, (fr1.wide (fun _ h => by cases h)).trans fr5 (fun x hx => .inl (by simp at hx; subst hx; simp [Kn.bs]))⟩
theorem even_any {b : Nat} {k : ByteArray} {v : ByteArray} {l r : Kn ByteArray ByteArray} {w : World} (h1 : Top w b k v l.adr r.adr) (il : In w l) (ir : In w r) (hnd : (Kn.node b k v l r).bs.Nodup) (hc : (Kn.node b k v l r).cnt < 4611686018427387904) :
    Calls Try.prog 118 #[.pointer (some ⟨b, 0, none⟩)] w fun e w' => e = .returned (.pointer (Kn.even b k v l r).adr) ∧ In w' (Kn.even b k v l r) ∧ Fr (Kn.node b k v l r).bs w w' := by
  by_cases hA : l.hgt - r.hgt > 1
  · cases l with
    | nil => have := Kn.bounds r; simp only [Kn.hgt] at hA; omega
    | node lb lk lv ll lr =>
      by_cases hx : ll.hgt < lr.hgt
      · cases lr with
        | nil => have := Kn.bounds ll; simp only [Kn.hgt] at hx; omega
        | node xb xk xv xl xr =>
          have e : Kn.even b k v (.node lb lk lv ll (.node xb xk xv xl xr)) r = .node xb xk xv (.node lb lk lv ll xl) (.node b k v xr r) := by
            unfold Kn.even; rw [if_pos hA]; simp only [if_pos hx]; rfl
          rw [e]
          exact even_a1 h1 il ir hnd hc hA hx
      · have e : Kn.even b k v (.node lb lk lv ll lr) r = .node lb lk lv ll (.node b k v lr r) := by
          unfold Kn.even; rw [if_pos hA]; simp only [if_neg hx]; rfl
        rw [e]
        exact even_a2 h1 il ir hnd hc hA hx
  · by_cases hB : l.hgt - r.hgt < -1
    · cases r with
      | nil => have := Kn.bounds l; simp only [Kn.hgt] at hB; omega
      | node rb rk rv rl rr =>
        by_cases hx : rr.hgt < rl.hgt
        · cases rl with
          | nil => have := Kn.bounds rr; simp only [Kn.hgt] at hx; omega
          | node xb xk xv xl xr =>
            have e : Kn.even b k v l (.node rb rk rv (.node xb xk xv xl xr) rr) = .node xb xk xv (.node b k v l xl) (.node rb rk rv xr rr) := by
              unfold Kn.even; rw [if_neg hA, if_pos hB]; simp only [if_pos hx]; rfl
            rw [e]
            exact even_b1 h1 il ir hnd hc hB hx
        · have e : Kn.even b k v l (.node rb rk rv rl rr) = .node rb rk rv (.node b k v l rl) rr := by
            unfold Kn.even; rw [if_neg hA, if_pos hB]; simp only [if_neg hx]; rfl
          rw [e]
          exact even_b2 h1 il ir hnd hc hB hx
    · have e : Kn.even b k v l r = .node b k v l r := by unfold Kn.even; rw [if_neg hA, if_neg hB]
      rw [e]
      exact even_c h1 il ir hnd hc (by omega) (by omega)
end Go.Proofs.Ytljnlnbopohghaa.OrdSm
end
section
namespace Go.Proofs.Ytljnlnbopohghaa.OrdSm
open Go.RowKit Go.Proofs.YtljnlnbopohghaaW.PrintWords Go.Proofs.YtljnlnbopohghaaW.PrintLast Go.Proofs.YtljnlnbopohghaaW.PrintMore Go.Proofs.Ytljnlnbopohghaa.Own Go.Proofs.Ytljnlnbopohghaa.Ord
abbrev lt (a b : ByteArray) : Bool := Op.bytesLess a.toList b.toList
set_option maxHeartbeats 2000000
set_option maxRecDepth 100000
theorem nan_any (x : ByteArray) (w : World) : Calls Try.prog 116 #[.string x] w fun e w' => e = .returned (.bool false) ∧ w' = w := by
  go_enter Try.func116, Try.ntmps116
  go_wp2
  go_ret
  simp
theorem cmp_any (x y : ByteArray) (w : World) : Calls Try.prog 102 #[.string x, .string y] w fun e w' => e = .returned (.int .i64 (Kn.cmpK lt x y)) ∧ w' = w := by
  unfold Kn.cmpK
  by_cases h1 : lt x y = true
  · rw [if_pos h1]
    go_enter Try.func102, Try.ntmps102
    go_wp2_with (go_at_call 116; refine (nan_any _ _).mono ?_; rintro e w1 ⟨rfl, rfl⟩)
    go_ret
    simp
  · rw [if_neg h1]
    by_cases h2 : lt y x = true
    · rw [if_pos h2]
      go_enter Try.func102, Try.ntmps102
      go_wp2_with (go_at_call 116; refine (nan_any _ _).mono ?_; rintro e w1 ⟨rfl, rfl⟩)
      go_ret
      simp
    · rw [if_neg h2]
      go_enter Try.func102, Try.ntmps102
      go_wp2_with (go_at_call 116; refine (nan_any _ _).mono ?_; rintro e w1 ⟨rfl, rfl⟩)
      go_ret
      simp
theorem put_any (key : ByteArray) (val : ByteArray) (T : Kn ByteArray ByteArray) : ∀ w : World, In w T → T.bs.Nodup → T.cnt + 1 < 4611686018427387904 →
    Calls Try.prog 107 #[.pointer T.adr, .string key, .string val] w fun e w' => ∃ nb, w.heap.size ≤ nb ∧ e = .returned (.pointer (Kn.put lt nb key val T).adr) ∧ In w' (Kn.put lt nb key val T) ∧ Fr T.bs w w' := by
  induction T with
  | nil =>
    intro w _ _ _
    show Calls Try.prog 107 #[.pointer none, .string key, .string val] w _
    have W1 := fresh_top (l := .nil) (r := .nil) (w := w.alloc (.cells #[.string key, .string val, .pointer none, .pointer none, .int .i64 0, .int .i64 0] 159)) (b := w.heap.size) (k := key) (v := val) ⟨0, 0, blk_new _ _⟩ trivial trivial (by simp [Kn.bs]) (by simp [Kn.bs]) (by simp [Kn.cnt])
    go_enter Try.func107, Try.ntmps107
    go_wp2_with (go_at_call 121; refine W1.mono ?_; clear W1; rintro e w1 ⟨rfl, hi, fr⟩)
    go_ret
    exact ⟨w.heap.size, Nat.le_refl _, rfl, hi, ((Fr.refl _ _).alloc _).trans fr (fun x hx => .inr (by simp at hx; omega))⟩
  | node b k v l r ihl ihr =>
    intro w hin hnd hc
    have nbl : b ∉ l.bs := by simp only [Kn.bs, List.nodup_cons, List.mem_append, not_or] at hnd; exact hnd.1.1
    have nbr : b ∉ r.bs := by simp only [Kn.bs, List.nodup_cons, List.mem_append, not_or] at hnd; exact hnd.1.2
    have ndl : l.bs.Nodup := by simp only [Kn.bs, List.nodup_cons, List.nodup_append] at hnd; exact hnd.2.1
    have ndr : r.bs.Nodup := by simp only [Kn.bs, List.nodup_cons, List.nodup_append] at hnd; exact hnd.2.2.1
    have dj : ∀ x ∈ l.bs, x ∉ r.bs := fun x hx hr => by simp only [Kn.bs, List.nodup_cons, List.nodup_append] at hnd; exact hnd.2.2.2 x hx x hr rfl
    have hcl := Kn.bounds l
    have hcr := Kn.bounds r
    simp only [Kn.cnt] at hc
    have h1 := Top.of_in hin
    have ltw := in_lt hin
    have il := hin.2.1
    have ir := hin.2.2
    obtain ⟨c10, c11, c12, c13, f11, f12, f13⟩ := h1.cells
    show Calls Try.prog 107 #[.pointer (some ⟨b, 0, none⟩), .string key, .string val] w _
    by_cases hA : lt key k = true
    · have hcmp : ∀ W, Calls Try.prog 102 #[.string key, .string k] W fun e w' => e = .returned (.int .i64 (-1)) ∧ w' = W := fun W => by
        have := cmp_any key k W; unfold Kn.cmpK at this; rw [if_pos hA] at this; exact this
      clear hin
      go_enter Try.func107, Try.ntmps107
      go_wp2_with (first
        | (go_at_call 102; refine (hcmp _).mono ?_; rintro e w1 ⟨rfl, hw⟩; obtain rfl := hw.symm)
        | (go_at_call 107
           refine (ihl _ il ndl (by omega)).mono ?_
           rintro e w2 ⟨nb, hnb, rfl, hi, fr⟩
           have h2 := h1.fr fr nbl
           have io2 := in_fr fr ir (fun x hx hm => dj x hm hx)
           obtain ⟨c20, c21, c22, c23, f21, f22, f23⟩ := h2.cells
           have bP : b ∉ (Kn.put lt nb key val l).bs := fun h => by
             rcases Kn.put_mem h with e | e
             · have := ltw b (by simp [Kn.bs]); omega
             · exact nbl e
           have nP : nb ∉ (Kn.node b k v l r).bs := fun h => by have := ltw nb h; omega
           have W3 := even_any (h2.low (Kn.put lt nb key val l).adr) (set_in hi bP 2 _) (set_in io2 nbr 2 _) (Kn.put_left_nodup hnd nP) (by have := Kn.put_cnt lt nb key val l; simp only [Kn.cnt]; omega)
           have fr2 : Fr (Kn.node b k v l r).bs w (w2.setCell ⟨b, 2, none⟩ (.pointer (Kn.put lt nb key val l).adr)) :=
             (fr.wide (fun x hx => .inl (List.mem_cons_of_mem _ (List.mem_append_left _ hx)))).set (.inl (by simp [Kn.bs])) _
           clear hi io2)
        | (go_at_call 118
           refine W3.mono ?_
           clear W3
           rintro e w4 ⟨rfl, hi4, fr4⟩))
      go_ret
      have e : Kn.put lt nb key val (.node b k v l r) = Kn.even b k v (Kn.put lt nb key val l) r := by simp only [Kn.put]; rw [if_pos hA]
      refine ⟨nb, ?_⟩
      rw [e]
      exact ⟨hnb, rfl, hi4, fr2.trans fr4 (fun x hx => by
        simp only [Kn.bs, List.mem_cons, List.mem_append] at hx ⊢
        rcases hx with hx | hx | hx
        · exact .inl (.inl hx)
        · rcases Kn.put_mem hx with e | e; exact .inr (by omega); exact .inl (.inr (.inl e))
        · exact .inl (.inr (.inr hx)))⟩
    · by_cases hB : lt k key = true
      · have hcmp : ∀ W, Calls Try.prog 102 #[.string key, .string k] W fun e w' => e = .returned (.int .i64 1) ∧ w' = W := fun W => by
          have := cmp_any key k W; unfold Kn.cmpK at this; rw [if_neg hA, if_pos hB] at this; exact this
        clear hin
        go_enter Try.func107, Try.ntmps107
        go_wp2_with (first
          | (go_at_call 102; refine (hcmp _).mono ?_; rintro e w1 ⟨rfl, hw⟩; obtain rfl := hw.symm)
          | (go_at_call 107
             refine (ihr _ ir ndr (by omega)).mono ?_
             rintro e w2 ⟨nb, hnb, rfl, hi, fr⟩
             have h2 := h1.fr fr nbr
             have io2 := in_fr fr il (fun x hx hm => dj x hx hm)
             obtain ⟨c20, c21, c22, c23, f21, f22, f23⟩ := h2.cells
             have bP : b ∉ (Kn.put lt nb key val r).bs := fun h => by
               rcases Kn.put_mem h with e | e
               · have := ltw b (by simp [Kn.bs]); omega
               · exact nbr e
             have nP : nb ∉ (Kn.node b k v l r).bs := fun h => by have := ltw nb h; omega
             have W3 := even_any (h2.high (Kn.put lt nb key val r).adr) (set_in io2 nbl 3 _) (set_in hi bP 3 _) (Kn.put_right_nodup hnd nP) (by have := Kn.put_cnt lt nb key val r; simp only [Kn.cnt]; omega)
             have fr2 : Fr (Kn.node b k v l r).bs w (w2.setCell ⟨b, 3, none⟩ (.pointer (Kn.put lt nb key val r).adr)) :=
               (fr.wide (fun x hx => .inl (List.mem_cons_of_mem _ (List.mem_append_right _ hx)))).set (.inl (by simp [Kn.bs])) _
             clear hi io2)
          | (go_at_call 118
             refine W3.mono ?_
             clear W3
             rintro e w4 ⟨rfl, hi4, fr4⟩))
        go_ret
        have e : Kn.put lt nb key val (.node b k v l r) = Kn.even b k v l (Kn.put lt nb key val r) := by simp only [Kn.put]; rw [if_neg hA, if_pos hB]
        refine ⟨nb, ?_⟩
        rw [e]
        exact ⟨hnb, rfl, hi4, fr2.trans fr4 (fun x hx => by
          simp only [Kn.bs, List.mem_cons, List.mem_append] at hx ⊢
          rcases hx with hx | hx | hx
          · exact .inl (.inl hx)
          · exact .inl (.inr (.inl hx))
          · rcases Kn.put_mem hx with e | e; exact .inr (by omega); exact .inl (.inr (.inr e)))⟩
      · have hcmp : ∀ W, Calls Try.prog 102 #[.string key, .string k] W fun e w' => e = .returned (.int .i64 0) ∧ w' = W := fun W => by
          have := cmp_any key k W; unfold Kn.cmpK at this; rw [if_neg hA, if_neg hB] at this; exact this
        have hbl := hin.1
        clear ihl ihr h1 hin
        go_enter Try.func107, Try.ntmps107
        go_wp2_with (go_at_call 102; refine (hcmp _).mono ?_; rintro e w1 ⟨rfl, hw⟩; obtain rfl := hw.symm)
        go_ret
        have e : Kn.put lt w.heap.size key val (.node b k v l r) = .node b k val l r := by simp only [Kn.put]; rw [if_neg hA, if_neg hB]
        have f0 : ∀ u, Fr [b] w (w.setCell ⟨b, 1, none⟩ u) := fun u => (Fr.refl _ _).set (.inl (by simp)) u
        refine ⟨w.heap.size, Nat.le_refl _, ?_⟩
        rw [e]
        exact ⟨rfl, ⟨blk_put hbl 1 _ rfl, in_fr (f0 _) il (fun x hx => by simp; rintro rfl; exact nbl hx), in_fr (f0 _) ir (fun x hx => by simp; rintro rfl; exact nbr hx)⟩, (f0 _).wide (fun x hx => .inl (by simp at hx; simp [Kn.bs, hx]))⟩
end Go.Proofs.Ytljnlnbopohghaa.OrdSm
end
section
namespace Go.Proofs.Ytljnlnbopohghaa.OrdSm
open Go.RowKit Go.Proofs.YtljnlnbopohghaaW.PrintWords Go.Proofs.YtljnlnbopohghaaW.PrintLast Go.Proofs.YtljnlnbopohghaaW.PrintMore Go.Proofs.Ytljnlnbopohghaa.Own Go.Proofs.Ytljnlnbopohghaa.Ord
set_option maxHeartbeats 2000000
set_option maxRecDepth 100000
theorem find_any (key : ByteArray) (T : Kn ByteArray ByteArray) (w : World) (hin : In w T) :
  Calls Try.prog 86 #[.pointer T.adr, .string key] w fun e w' => e = .returned (.pointer (Kn.find lt key T).adr) ∧ w' = w := by
 go_enter Try.func86, Try.ntmps86
 go_wp2
 go_loopg [0] T.bs.length (fun n p wr => ∃ T' : Kn ByteArray ByteArray, p = .pointer T'.adr ∧ T'.bs.length = n ∧ In w T' ∧ Aside (Kn.find lt key T' = Kn.find lt key T) ∧ wr = w)
 case atStart => exact ⟨T, rfl, rfl, hin, rfl, rfl⟩
 obtain ⟨T', rfl, hn, hi, hf, hw⟩ := hrel
 subst hw
 cases T' with
 | nil =>
  simp only [show (Kn.nil : Kn ByteArray ByteArray).adr = none from rfl]
  go_wp2
  go_ret
  exact ⟨by rw [← hf.out]; rfl, rfl⟩
 | node b k v l r =>
  have h1 := Top.of_in hi
  obtain ⟨c10, c11, c12, c13, f11, f12, f13⟩ := h1.cells
  simp only [show (Kn.node b k v l r).adr = some ⟨b, 0, none⟩ from rfl]
  by_cases hA : lt key k = true
  ·have hcmp : ∀ W, Calls Try.prog 102 #[.string key, .string k] W fun e w' => e = .returned (.int .i64 (-1)) ∧ w' = W := fun W => by
    have := cmp_any key k W; unfold Kn.cmpK at this; rw [if_pos hA] at this; exact this
   have hf2 : Aside (Kn.find lt key l = Kn.find lt key T) := (show Kn.find lt key (Kn.node b k v l r) = Kn.find lt key l from by simp only [Kn.find]; rw [if_pos hA]).symm.trans hf.out
   go_wp2_with (go_at_call 102; refine (hcmp _).mono ?_; rintro e w1 ⟨rfl, hw⟩; obtain rfl := hw.symm)
   go_roundg l.bs.length
   case measure => simp [Kn.bs] at hn; omega
   case rel => exact ⟨l, rfl, rfl, hi.2.1, hf2, rfl⟩
  by_cases hB : lt k key = true
  ·have hcmp : ∀ W, Calls Try.prog 102 #[.string key, .string k] W fun e w' => e = .returned (.int .i64 1) ∧ w' = W := fun W => by
    have := cmp_any key k W; unfold Kn.cmpK at this; rw [if_neg hA, if_pos hB] at this; exact this
   have hf2 : Aside (Kn.find lt key r = Kn.find lt key T) := (show Kn.find lt key (Kn.node b k v l r) = Kn.find lt key r from by simp only [Kn.find]; rw [if_neg hA, if_pos hB]).symm.trans hf.out
   go_wp2_with (go_at_call 102; refine (hcmp _).mono ?_; rintro e w1 ⟨rfl, hw⟩; obtain rfl := hw.symm)
   go_roundg r.bs.length
   case measure => simp [Kn.bs] at hn; omega
   case rel => exact ⟨r, rfl, rfl, hi.2.2, hf2, rfl⟩
  have hcmp : ∀ W, Calls Try.prog 102 #[.string key, .string k] W fun e w' => e = .returned (.int .i64 0) ∧ w' = W := fun W => by
   have := cmp_any key k W; unfold Kn.cmpK at this; rw [if_neg hA, if_neg hB] at this; exact this
  have hf2 : Aside (Kn.node b k v l r = Kn.find lt key T) := (show Kn.find lt key (Kn.node b k v l r) = Kn.node b k v l r from by simp only [Kn.find]; rw [if_neg hA, if_neg hB]).symm.trans hf.out
  go_wp2_with (go_at_call 102; refine (hcmp _).mono ?_; rintro e w1 ⟨rfl, hw⟩; obtain rfl := hw.symm)
  go_ret
  exact ⟨by rw [← hf2.out]; rfl, rfl⟩
end Go.Proofs.Ytljnlnbopohghaa.OrdSm
end
