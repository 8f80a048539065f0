/- Texts of one claim (laid by shake.py). -/
import Derived.Test.YtidaiafmhidooaaZt16
import Derived.Test.YtidaiafmhidooaaZt18
import Derived.Test.YtidaiafmhidooaaZt15
import Derived.Test.YtidaiafmhidooaaZt12
import Derived.Test.YtidaiafmhidooaaZt10
import Derived.Test.YtidaiafmhidooaaZt13
import Derived.Test.YtidaiafmhidooaaZt9
import Derived.Test.YtidaiafmhidooaaZt7
set_option linter.unusedVariables false
set_option linter.unusedSimpArgs false
section
namespace Go.Proofs.Ytidaiafmhidooaa.P
open Go.RowKit Go.Proofs.YtidaiafmhidooaaW.PrintWords Go.Proofs.YtidaiafmhidooaaW.PrintLast Go.Proofs.YtidaiafmhidooaaW.PrintMore Go.Proofs.Ytidaiafmhidooaa.Own Go.Proofs.Ytidaiafmhidooaa
theorem same_beq (a b : ByteArray) : (a.toList == b.toList) = same a b := by rw [Bool.eq_iff_iff]; simp [same]
def first (a b : ByteArray) : ByteArray := if before b a = true then b else a
def meet (f t g u : ByteArray) : ByteArray × ByteArray × Bool :=
 if (rr f t && rr g u && rr (mxs f g) (first t u)) = true then (mxs f g, first t u, true) else (e0, e0, false)
theorem Before_eq (a b : ByteArray) : key_Before.f a b = some (before a b) := by
 unfold key_Before.f before emp lt
 by_cases h1 : a.toList = []
 ·simp [h1]
 ·by_cases h2 : b.toList = [] <;> simp [h1, h2]
theorem First_eq (a b : ByteArray) : key_First.f a b = some (first a b) := by
 unfold key_First.f first
 rw [Before_eq]
 cases before b a <;> simp
theorem Meet_eq (n : Nat) (f t g u : ByteArray) : key_Meet.f (n + 9) f t g u = some (meet f t g u) := by
 unfold key_Meet.f meet
 rw [RightRange_eq, RightRange_eq]
 simp only [Option.bind_some]
 cases h1 : rr f t
 ·simp [key_Meet.j0]
 ·cases h2 : rr g u
  ·simp [key_Meet.j0]
  ·simp only [if_true, key_Meet.j0, Bool.not_true, Bool.false_eq_true, if_false]
   rw [First_eq]
   simp only [Option.bind_some, RightRange_eq]
   show (if rr (mxs f g) (first t u) = true then _ else _) = _
   cases h3 : rr (mxs f g) (first t u) <;> simp
def within (f t g u : ByteArray) : Bool := (meet f t g u).2.2 && (same (meet f t g u).1 f && same (meet f t g u).2.1 t)
theorem Within_eq (n : Nat) (f t g u : ByteArray) : key_Within.f (n + 9) f t g u = some (within f t g u) := by
 unfold key_Within.f within
 rw [Meet_eq, Option.bind_some, same_beq, same_beq]
 cases (meet f t g u).2.2 <;> simp
end Go.Proofs.Ytidaiafmhidooaa.P
end
section
namespace Go.Proofs.Ytidaiafmhidooaa.P
open Go.RowKit Go.Proofs.YtidaiafmhidooaaW.PrintWords Go.Proofs.YtidaiafmhidooaaW.PrintLast Go.Proofs.YtidaiafmhidooaaW.PrintMore Go.Proofs.Ytidaiafmhidooaa.Own Go.Proofs.Ytidaiafmhidooaa
abbrev Ms := S33
abbrev En := S55
theorem drop_any {α : Type} {L l : List α} {i : Nat} {x : α} (hd : L.drop i = x :: l) : i < L.length ∧ L[i]? = some x ∧ L.drop (i + 1) = l ∧ L.take (i + 1) = L.take i ++ [x] ∧ x ∈ L := by
 have hlt : i < L.length := by
  rcases Nat.lt_or_ge i L.length with h | h
  ·exact h
  ·rw [List.drop_eq_nil_of_le h] at hd; cases hd
 have hx : L[i]? = some x := by
  have := congrArg (fun z => z[0]?) hd
  simpa using this
 refine ⟨hlt, hx, ?_, ?_, List.mem_of_getElem? hx⟩
 ·have := congrArg (List.drop 1) hd
  simpa [List.drop_drop] using this
 ·rw [List.take_add_one, hx]; rfl
theorem drop_none {α : Type} {L : List α} {i : Nat} (hd : L.drop i = []) (hi : i ≤ L.length) : i = L.length := by
 have := congrArg List.length hd
 simp at this
 omega
theorem rdS_at {L : List ByteArray} {i : Nat} {x : ByteArray} (h : L[i]? = some x) : rdOf ByteArray.empty L (i : Int) = x := by
 show L.getD ((i : Int).toNat) _ = x
 rw [Int.toNat_natCast, List.getD_eq_getElem?_getD, h]; rfl
theorem rdE_at {L : List En} {i : Nat} {x : En} (h : L[i]? = some x) : rd_T55 L (i : Int) = x := by
 show L.getD ((i : Int).toNat) _ = x
 rw [Int.toNat_natCast, List.getD_eq_getElem?_getD, h]; rfl
theorem rdM_at {L : List Ms} {i : Nat} {x : Ms} (h : L[i]? = some x) : rd_T33 L (i : Int) = x := by
 show L.getD ((i : Int).toNat) _ = x
 rw [Int.toNat_natCast, List.getD_eq_getElem?_getD, h]; rfl
theorem wrap1 {i : Nat} (h : i ≤ 1000000) : wrap64 ((i : Int) + 1) = ((i + 1 : Nat) : Int) := by rw [IntWalk.wrap64_in _ (by omega)]; omega
def intoV : List ByteArray → ByteArray → List ByteArray
 | [], s => [s]
 | x :: l, s => if lt x s = true then x :: intoV l s else if same x s = true then x :: l else s :: x :: l
theorem intoV_length (s : ByteArray) : ∀ L : List ByteArray, (intoV L s).length ≤ L.length + 1
 | [] => by simp [intoV]
 | x :: l => by
  have := intoV_length s l
  simp only [intoV]
  split
  ·simp; omega
  ·split <;> simp
theorem Into_loop (L : List ByteArray) (s : ByteArray) (hL : L.length ≤ 1000000) : ∀ (l : List ByteArray) (k i : Nat), L.drop i = l → i ≤ L.length → l.length < k → catchmentref05_Into.l0 k L s i = some (L.take i ++ intoV l s) := by
 intro l
 induction l with
 | nil =>
  intro k i hd hi hk
  obtain ⟨k, rfl⟩ : ∃ m, k = m + 1 := ⟨k - 1, by simp at hk; omega⟩
  obtain rfl := drop_none hd hi
  rw [catchmentref05_Into.l0, if_neg (by omega)]
  simp only [Option.bind_some]
  rw [if_pos (by omega), if_pos (by omega), if_pos (by simp; omega), if_pos (by simp; omega), if_pos (by simp; omega)]
  simp [intoV]
 | cons x l ih =>
  intro k i hd hi hk
  obtain ⟨k, rfl⟩ : ∃ m, k = m + 1 := ⟨k - 1, by simp at hk; omega⟩
  obtain ⟨hlt, hx, hd2, ht, _⟩ := drop_any hd
  rw [catchmentref05_Into.l0, if_pos (by omega), if_pos (by omega), rdS_at hx, wrap1 (by omega)]
  have e1 : ((i : Int)).toNat = i := by omega
  unfold intoV lt same
  by_cases h1 : Op.bytesLess x.toList s.toList = true
  ·rw [if_pos h1, if_pos h1, ih k (i + 1) hd2 (by omega) (by simp at hk; omega), ht]
   simp
  ·rw [if_neg h1, if_neg h1]
   by_cases h2 : x.toList = s.toList
   ·rw [if_pos h2, if_pos (by simpa using h2), ← hd, List.take_append_drop]
   ·rw [if_neg h2, if_neg (by simpa using h2)]
    simp only [Option.bind_some]
    rw [if_pos (by omega), if_pos (by simp; omega), if_pos (by simp; omega), if_pos (by simp; omega), e1, hd]
    simp
theorem Into_eq (k : Nat) (L : List ByteArray) (s : ByteArray) (hL : L.length ≤ 1000000) (hk : L.length < k) : catchmentref05_Into.f k L s = some (intoV L s) := by
 have := Into_loop L s hL L k 0 rfl (by omega) hk
 simpa [catchmentref05_Into.f] using this
def keysFrom : List ByteArray → List Ms → List ByteArray
 | o, [] => o
 | o, m :: l => keysFrom (if isPt m.f0 = true then intoV o m.f2 else o) l
def keysV (l : List Ms) : List ByteArray := keysFrom [] l
theorem keysFrom_length : ∀ (l : List Ms) (o : List ByteArray), (keysFrom o l).length ≤ o.length + l.length
 | [], o => by simp [keysFrom]
 | m :: l, o => by
  have h1 := keysFrom_length l (if isPt m.f0 = true then intoV o m.f2 else o)
  have h2 := intoV_length m.f2 o
  simp only [keysFrom, List.length_cons]
  by_cases h : isPt m.f0 = true
  ·rw [if_pos h] at h1 ⊢; omega
  ·rw [if_neg h] at h1 ⊢; omega
theorem Keys_loop (L : List Ms) (hL : L.length ≤ 100000) : ∀ (l : List Ms) (k i : Nat) (o : List ByteArray), L.drop i = l → i ≤ L.length → o.length + l.length ≤ 100000 → o.length + l.length + l.length < k → catchmentref05_Keys.l0 k L o i = some (keysFrom o l) := by
 intro l
 induction l with
 | nil =>
  intro k i o hd hi ho hk
  obtain ⟨k, rfl⟩ : ∃ m, k = m + 1 := ⟨k - 1, by omega⟩
  obtain rfl := drop_none hd hi
  rw [catchmentref05_Keys.l0, if_neg (by omega)]
  rfl
 | cons x l ih =>
  intro k i o hd hi ho hk
  simp only [List.length_cons] at ho hk
  obtain ⟨k, rfl⟩ : ∃ m, k = m + 1 := ⟨k - 1, by omega⟩
  obtain ⟨hlt, hx, hd2, _, _⟩ := drop_any hd
  have hlen := intoV_length x.f2 o
  rw [catchmentref05_Keys.l0, if_pos (by omega), if_pos (by omega), rdM_at hx, wrap1 (by omega), Point_eq, Into_eq _ _ _ (by omega) (by omega)]
  simp only [Option.bind_some, keysFrom]
  by_cases h : isPt x.f0 = true
  ·rw [if_pos h, if_pos h]
   exact ih k (i + 1) _ hd2 (by omega) (by omega) (by omega)
  ·rw [if_neg h, if_neg h]
   exact ih k (i + 1) _ hd2 (by omega) (by omega) (by omega)
theorem Keys_eq (k : Nat) (l : List Ms) (hl : l.length ≤ 100000) (hk : 2 * l.length < k) : catchmentref05_Keys.f k l = some (keysV l) :=
 Keys_loop l hl l k 0 [] rfl (by omega) (by simp; omega) (by simp; omega)
def addKeys : List ByteArray → List En → List ByteArray
 | o, [] => o
 | o, x :: l => addKeys (intoV o x.f0) l
def namedV (l : List Ms) (e : List En) : List ByteArray := addKeys (keysV l) e
theorem addKeys_length : ∀ (l : List En) (o : List ByteArray), (addKeys o l).length ≤ o.length + l.length
 | [], o => by simp [addKeys]
 | x :: l, o => by
  have h1 := addKeys_length l (intoV o x.f0)
  have h2 := intoV_length x.f0 o
  simp only [addKeys, List.length_cons]
  omega
theorem namedV_length (l : List Ms) (e : List En) : (namedV l e).length ≤ l.length + e.length := by
 have h1 := addKeys_length e (keysV l)
 have h2 := keysFrom_length l []
 unfold namedV
 unfold keysV at h1 ⊢
 simp at h2
 omega
theorem Named_loop (L : List En) (hL : L.length ≤ 100000) : ∀ (l : List En) (k i : Nat) (o : List ByteArray), L.drop i = l → i ≤ L.length → o.length + l.length ≤ 200000 → o.length + l.length + l.length < k → catchmentref05_Named.l0 k L o i = some (addKeys o l) := by
 intro l
 induction l with
 | nil =>
  intro k i o hd hi ho hk
  obtain ⟨k, rfl⟩ : ∃ m, k = m + 1 := ⟨k - 1, by omega⟩
  obtain rfl := drop_none hd hi
  rw [catchmentref05_Named.l0, if_neg (by omega)]
  rfl
 | cons x l ih =>
  intro k i o hd hi ho hk
  simp only [List.length_cons] at ho hk
  obtain ⟨k, rfl⟩ : ∃ m, k = m + 1 := ⟨k - 1, by omega⟩
  obtain ⟨hlt, hx, hd2, _, _⟩ := drop_any hd
  have hlen := intoV_length x.f0 o
  rw [catchmentref05_Named.l0, if_pos (by omega), if_pos (by omega), rdE_at hx, wrap1 (by omega), Into_eq _ _ _ (by omega) (by omega)]
  simp only [Option.bind_some, addKeys]
  exact ih k (i + 1) _ hd2 (by omega) (by omega) (by omega)
theorem Named_eq (k : Nat) (l : List Ms) (e : List En) (hl : l.length ≤ 100000) (he : e.length ≤ 100000) (hk : 2 * l.length + 2 * e.length < k) : catchmentref05_Named.f k l e = some (namedV l e) := by
 have h2 := keysFrom_length l []
 simp only [List.length_nil] at h2
 unfold catchmentref05_Named.f
 rw [Keys_eq k l hl (by omega)]
 simp only [Option.bind_some]
 exact Named_loop e he e k 0 _ rfl (by omega) (by unfold keysV; omega) (by unfold keysV; omega)
def findV : List En → ByteArray → ByteArray × Bool
 | [], _ => (e0, false)
 | x :: l, s => if same x.f0 s = true then (x.f1, true) else findV l s
theorem Find_loop (L : List En) (s : ByteArray) (hL : L.length ≤ 1000000) : ∀ (l : List En) (k i : Nat), L.drop i = l → i ≤ L.length → l.length < k → catchmentref05_Find.l0 k L s i = some (findV l s) := by
 intro l
 induction l with
 | nil =>
  intro k i hd hi hk
  obtain ⟨k, rfl⟩ : ∃ m, k = m + 1 := ⟨k - 1, by omega⟩
  obtain rfl := drop_none hd hi
  rw [catchmentref05_Find.l0, if_neg (by omega)]
  rfl
 | cons x l ih =>
  intro k i hd hi hk
  simp only [List.length_cons] at hk
  obtain ⟨k, rfl⟩ : ∃ m, k = m + 1 := ⟨k - 1, by omega⟩
  obtain ⟨hlt, hx, hd2, _, _⟩ := drop_any hd
  rw [catchmentref05_Find.l0, if_pos (by omega), if_pos (by omega), rdE_at hx, wrap1 (by omega), ih k (i + 1) hd2 (by omega) (by omega)]
  have hs : same x.f0 s = decide (x.f0.toList = s.toList) := rfl
  simp only [findV]
  by_cases h : x.f0.toList = s.toList
  ·rw [if_pos h, if_pos (by simpa [hs] using h)]
  ·rw [if_neg h, if_neg (by simpa [hs] using h)]
theorem Find_eq (k : Nat) (e : List En) (s : ByteArray) (he : e.length ≤ 1000000) (hk : e.length < k) : catchmentref05_Find.f k e s = some (findV e s) :=
 Find_loop e s he e k 0 rfl (by omega) hk
def onM (m : Ms) (s : ByteArray) (p : ByteArray × Bool) : ByteArray × Bool := onV m.f0 m.f2 m.f3 m.f4 m.f5 s p.1 p.2
def doAll (s : ByteArray) : List Ms → ByteArray × Bool → ByteArray × Bool
 | [], p => p
 | m :: l, p => doAll s l (onM m s p)
def valueV (l : List Ms) (s v : ByteArray) (is : Bool) : ByteArray × Bool := doAll s l (norm v is, is)
def okD (m : Ms) : Prop := 0 ≤ m.f5 ∧ m.f5 < 18446744073709551616
theorem Value_loop (L : List Ms) (s : ByteArray) (hL : L.length ≤ 1000000) (hD : ∀ m ∈ L, okD m) : ∀ (l : List Ms) (k i : Nat) (v : ByteArray) (is : Bool), L.drop i = l → i ≤ L.length → l.length + 11 < k → catchmentref05_Value.l0 k L s v is i = some (doAll s l (v, is)) := by
 intro l
 induction l with
 | nil =>
  intro k i v is hd hi hk
  obtain ⟨k, rfl⟩ : ∃ m, k = m + 1 := ⟨k - 1, by omega⟩
  obtain rfl := drop_none hd hi
  rw [catchmentref05_Value.l0, if_neg (by omega)]
  rfl
 | cons x l ih =>
  intro k i v is hd hi hk
  simp only [List.length_cons] at hk
  obtain ⟨k, rfl⟩ : ∃ m, k = m + 11 := ⟨k - 11, by omega⟩
  obtain ⟨hlt, hx, hd2, _, hm⟩ := drop_any hd
  have hd0 := hD x hm
  rw [catchmentref05_Value.l0, if_pos (by omega), if_pos (by omega), rdM_at hx, wrap1 (by omega), ref04_On_eq k _ _ _ _ _ _ _ _ _ hd0.1 hd0.2]
  simp only [Option.bind_some]
  exact ih (k + 10) (i + 1) _ _ hd2 (by omega) (by omega)
theorem Value_eq (k : Nat) (l : List Ms) (s v : ByteArray) (is : Bool) (hl : l.length ≤ 1000000) (hD : ∀ m ∈ l, okD m) (hk : l.length + 12 < k) : catchmentref05_Value.f k l s v is = some (valueV l s v is) := by
 obtain ⟨k, rfl⟩ : ∃ m, k = m + 1 := ⟨k - 1, by omega⟩
 unfold catchmentref05_Value.f catchmentref05_Value.j0 valueV norm
 cases is
 ·simp only [Bool.false_eq_true, if_false]
  exact Value_loop l s hl hD l k 0 _ _ rfl (by omega) (by omega)
 ·simp only [if_true]
  exact Value_loop l s hl hD l k 0 _ _ rfl (by omega) (by omega)
theorem ref02_Holds_eq (f t s : ByteArray) : catchmentref02_Holds.f f t s = some (holds f t s) := by
 unfold catchmentref02_Holds.f holds lt emp
 cases Op.bytesLess s.toList f.toList
 ·by_cases ht : t.toList = [] <;> simp [ht]
 ·rfl
theorem ref02_Right_eq (f t : ByteArray) : catchmentref02_Right.f f t = some (rr f t) := by
 unfold catchmentref02_Right.f rr emp lt
 by_cases ht : t.toList = [] <;> simp [ht]
def entryOf (l : List Ms) (e : List En) (f t s : ByteArray) : Option En :=
 let p := valueV l s (findV e s).1 (findV e s).2
 if (p.2 && rr f t && holds f t s) = true then some ⟨s, p.1⟩ else none
def entriesV (l : List Ms) (e : List En) (f t : ByteArray) : List En := (namedV l e).filterMap (entryOf l e f t)
theorem Entries_loop (l : List Ms) (e : List En) (f t : ByteArray) (hl : l.length ≤ 100000) (he : e.length ≤ 100000) (hD : ∀ m ∈ l, okD m) (K : List ByteArray) (hK : K.length ≤ 300000) :
  ∀ (q : List ByteArray) (k i : Nat) (o : List En), K.drop i = q → i ≤ K.length → o.length ≤ i → q.length + l.length + e.length + 13 < k → catchmentref05_Entries.l0 k l e o K i f t = some (o ++ q.filterMap (entryOf l e f t)) := by
 intro q
 induction q with
 | nil =>
  intro k i o hd hi ho hk
  obtain ⟨k, rfl⟩ : ∃ m, k = m + 1 := ⟨k - 1, by omega⟩
  obtain rfl := drop_none hd hi
  rw [catchmentref05_Entries.l0, if_neg (by omega)]
  simp
 | cons x q ih =>
  intro k i o hd hi ho hk
  simp only [List.length_cons] at hk
  obtain ⟨k, rfl⟩ : ∃ m, k = m + 1 := ⟨k - 1, by omega⟩
  obtain ⟨hlt, hx, hd2, _, _⟩ := drop_any hd
  rw [catchmentref05_Entries.l0, if_pos (by omega), if_pos (by omega), rdS_at hx, wrap1 (by omega), Find_eq _ _ _ (by omega) (by omega)]
  simp only [Option.bind_some]
  rw [Value_eq _ _ _ _ _ (by omega) hD (by omega)]
  simp only [Option.bind_some, ref02_Right_eq, ref02_Holds_eq]
  have go := fun o' (ho' : o'.length ≤ i + 1) => ih k (i + 1) o' hd2 (by omega) ho' (by omega)
  obtain ⟨p, hp⟩ : ∃ p, p = valueV l x (findV e x).1 (findV e x).2 := ⟨_, rfl⟩
  have hE : entryOf l e f t x = if (p.2 && rr f t && holds f t x) = true then some ⟨x, p.1⟩ else none := by rw [hp]; rfl
  rw [List.filterMap_cons, hE, ← hp]
  clear hE hp
  cases h1 : p.2
  ·simp only [Bool.false_eq_true, if_false, Bool.false_and]
   exact go o (by omega)
  ·cases h2 : rr f t
   ·simp only [Bool.false_eq_true, if_false, Bool.false_and, if_true, Bool.and_false]
    exact go o (by omega)
   ·cases h3 : holds f t x
    ·simp only [Bool.false_eq_true, if_false, if_true, Bool.and_false]
     exact go o (by omega)
    ·simp only [if_true, Bool.and_self]
     rw [if_pos (by omega)]
     refine (go (o ++ [(⟨x, p.1⟩ : En)]) (by simp; omega)).trans ?_
     simp
theorem Entries_eq (k : Nat) (l : List Ms) (e : List En) (f t : ByteArray) (hl : l.length ≤ 100000) (he : e.length ≤ 100000) (hD : ∀ m ∈ l, okD m) (hk : 2 * l.length + 2 * e.length + 20 < k) : catchmentref05_Entries.f k l e f t = some (entriesV l e f t) := by
 have hn := namedV_length l e
 unfold catchmentref05_Entries.f entriesV
 rw [Named_eq _ _ _ hl he (by omega)]
 simp only [Option.bind_some]
 have := Entries_loop l e f t hl he hD (namedV l e) (by omega) (namedV l e) k 0 [] rfl (by omega) (by simp) (by omega)
 simpa using this
def sameE : List En → List En → Bool
 | [], [] => true
 | x :: a, y :: b => same x.f0 y.f0 && same x.f1 y.f1 && sameE a b
 | _, _ => false
theorem sameE_iff : ∀ {a b : List En}, sameE a b = true ↔ a = b
 | [], [] => by simp [sameE]
 | [], _ :: _ => by simp [sameE]
 | _ :: _, [] => by simp [sameE]
 | x :: a, y :: b => by
  simp only [sameE, Bool.and_eq_true, same_iff, sameE_iff, List.cons.injEq]
  constructor
  ·rintro ⟨⟨h1, h2⟩, h3⟩
   exact ⟨by cases x; cases y; simp_all, h3⟩
  ·rintro ⟨rfl, rfl⟩
   exact ⟨⟨rfl, rfl⟩, rfl⟩
theorem sameE_len : ∀ {a b : List En}, a.length ≠ b.length → sameE a b = false
 | [], [], h => by simp at h
 | [], _ :: _, _ => rfl
 | _ :: _, [], _ => rfl
 | x :: a, y :: b, h => by
  simp only [sameE]
  rw [sameE_len (by simpa using h)]
  simp
theorem Same_loop (A B : List En) (hA : A.length ≤ 1000000) (hab : A.length = B.length) : ∀ (a b : List En) (k i : Nat), A.drop i = a → B.drop i = b → i ≤ A.length → a.length < k → catchmentref05_Same.l0 k A B i = some (sameE a b) := by
 intro a
 induction a with
 | nil =>
  intro b k i hd he hi hk
  obtain ⟨k, rfl⟩ : ∃ m, k = m + 1 := ⟨k - 1, by omega⟩
  obtain rfl := drop_none hd hi
  obtain rfl : b = [] := by rw [← he, hab, List.drop_length]
  rw [catchmentref05_Same.l0, if_neg (by omega)]
  rfl
 | cons x a ih =>
  intro b k i hd he hi hk
  simp only [List.length_cons] at hk
  obtain ⟨k, rfl⟩ : ∃ m, k = m + 1 := ⟨k - 1, by omega⟩
  obtain ⟨hlt, hx, hd2, _, _⟩ := drop_any hd
  cases b with
  | nil =>
   have := congrArg List.length he
   simp at this
   omega
  | cons y b =>
   obtain ⟨_, hy, he2, _, _⟩ := drop_any he
   rw [catchmentref05_Same.l0, if_pos (by omega), if_pos (by omega), if_pos (by omega), rdE_at hx, rdE_at hy, wrap1 (by omega), ih b k (i + 1) hd2 he2 (by omega) (by omega)]
   simp only [sameE, same]
   by_cases h1 : x.f0.toList = y.f0.toList
   ·by_cases h2 : x.f1.toList = y.f1.toList
    ·simp [h1, h2]
    ·simp [h1, h2]
   ·simp [h1]
theorem Same_eq (k : Nat) (a b : List En) (ha : a.length ≤ 1000000) (hk : a.length < k) : catchmentref05_Same.f k a b = some (sameE a b) := by
 unfold catchmentref05_Same.f
 by_cases h : a.length = b.length
 ·rw [if_pos (by omega)]
  exact Same_loop a b ha h a b k 0 rfl rfl (by omega) hk
 ·rw [if_neg (by omega), sameE_len h]
def risesV : List En → Bool
 | [] => true
 | [_] => true
 | x :: y :: l => lt x.f0 y.f0 && risesV (y :: l)
theorem Rises_loop (L : List En) (hL : L.length ≤ 1000000) : ∀ (l : List En) (i k : Nat) (x : En), L.drop (i + 1) = l → L[i]? = some x → l.length < k → catchmentref05_Rises.l0 k L ((i : Int) + 1) = some (risesV (x :: l)) := by
 intro l
 induction l with
 | nil =>
  intro i k x hd hx hk
  obtain ⟨k, rfl⟩ : ∃ m, k = m + 1 := ⟨k - 1, by omega⟩
  have hlen : L.length ≤ i + 1 := by have := congrArg List.length hd; simp at this; omega
  rw [catchmentref05_Rises.l0, if_neg (by omega)]
  rfl
 | cons y l ih =>
  intro i k x hd hx hk
  simp only [List.length_cons] at hk
  obtain ⟨k, rfl⟩ : ∃ m, k = m + 1 := ⟨k - 1, by omega⟩
  obtain ⟨hlt, hy, hd2, _, _⟩ := drop_any hd
  rw [catchmentref05_Rises.l0]
  rw [if_pos (by omega), IntWalk.wrap64_in ((i : Int) + 1 - 1) (by omega), if_pos (by omega), if_pos (by omega), if_pos (by omega)]
  rw [show (i : Int) + 1 - 1 = (i : Int) by omega, rdE_at hx, show (i : Int) + 1 = ((i + 1 : Nat) : Int) by omega, rdE_at hy, IntWalk.wrap64_in _ (by omega)]
  rw [ih (i + 1) k y hd2 hy (by omega)]
  show (if lt x.f0 y.f0 = true then _ else _) = some (lt x.f0 y.f0 && risesV (y :: l))
  cases lt x.f0 y.f0 <;> rfl
theorem Rises_eq (k : Nat) (L : List En) (hL : L.length ≤ 1000000) (hk : L.length + 1 < k) : catchmentref05_Rises.f k L = some (risesV L) := by
 unfold catchmentref05_Rises.f
 cases L with
 | nil =>
  obtain ⟨k, rfl⟩ : ∃ m, k = m + 1 := ⟨k - 1, by omega⟩
  rw [catchmentref05_Rises.l0, if_neg (by simp)]
  rfl
 | cons x l =>
  have := Rises_loop (x :: l) hL l 0 k x rfl rfl (by simp at hk; omega)
  exact this
end Go.Proofs.Ytidaiafmhidooaa.P
end
section
namespace Go.Proofs.Ytidaiafmhidooaa.P
open Go.RowKit Go.Proofs.YtidaiafmhidooaaW.PrintWords Go.Proofs.YtidaiafmhidooaaW.PrintLast Go.Proofs.YtidaiafmhidooaaW.PrintMore Go.Proofs.Ytidaiafmhidooaa.Own Go.Proofs.Ytidaiafmhidooaa
def joinM (a b : Ms) : Ms :=
 if b.f0 = 3 then
  if a.f0 = 3 then ⟨b.f0, b.f1, b.f2, b.f3, b.f4, IntKind.u64.wrap (b.f5 + a.f5)⟩
  else ⟨1, b.f1, b.f2, e0, (applyV b.f0 b.f4 b.f5 (applyV a.f0 a.f4 a.f5 e0 false).1 (applyV a.f0 a.f4 a.f5 e0 false).2).1, 0⟩
 else b
theorem Join_eq (n : Nat) (a b : Ms) (ha : isPt a.f0 = true) (hb : isPt b.f0 = true) (hk : a.f2 = b.f2) : msg_Join.f (n + 10) a.f0 a.f1 a.f2 a.f3 a.f4 a.f5 b.f0 b.f1 b.f2 b.f3 b.f4 b.f5 = some ((joinM a b).f0, (joinM a b).f1, (joinM a b).f2, (joinM a b).f3, (joinM a b).f4, (joinM a b).f5, true) := by
 unfold msg_Join.f
 rw [IsPoint_eq, IsPoint_eq, ha, hb, hk]
 simp only [Option.bind_some, if_true, bne_self_eq_false, msg_Join.j0, Bool.false_eq_true, if_false]
 unfold joinM
 by_cases h3 : b.f0 = 3
 ·rw [if_pos h3, if_pos h3]
  by_cases h4 : a.f0 = 3
  ·rw [if_pos h4, if_pos h4]
  ·rw [if_neg h4, if_neg h4, Apply_eq, Option.bind_some, Apply_eq, Option.bind_some]
 ·rw [if_neg h3, if_neg h3]
theorem joinM_key (a b : Ms) : (joinM a b).f2 = b.f2 := by
 unfold joinM
 (repeat' split) <;> rfl
theorem joinM_pt {a b : Ms} (hb : isPt b.f0 = true) : isPt (joinM a b).f0 = true := by
 unfold joinM
 (repeat' split)
 ·exact hb
 ·rfl
 ·exact hb
def touchesM (m : Ms) (s : ByteArray) : Bool := touches m.f0 m.f2 m.f3 s
def lastN (l : List Ms) (s : ByteArray) : Nat → Int
 | 0 => -1
 | n + 1 => match l[n]? with
  | some m => if touchesM m s = true then (n : Int) else lastN l s n
  | none => lastN l s n
def lastI (l : List Ms) (s : ByteArray) : Int := lastN l s l.length
def okS (m : Ms) : Prop := m.f2.size ≤ 140737488351232
theorem last_loop (l : List Ms) (s : ByteArray) (hl : l.length ≤ 1000000) (hs : ∀ m ∈ l, okS m) : ∀ (n k : Nat), n ≤ l.length → n < k → compact_last.l0 k l s ((n : Int) - 1) = some (lastN l s n) := by
 intro n
 induction n with
 | zero =>
  intro k _ hk
  obtain ⟨k, rfl⟩ : ∃ m, k = m + 1 := ⟨k - 1, by omega⟩
  rw [compact_last.l0, if_neg (by omega)]
  rfl
 | succ n ih =>
  intro k hn hk
  obtain ⟨k, rfl⟩ : ∃ m, k = m + 1 := ⟨k - 1, by omega⟩
  have e : ((n + 1 : Nat) : Int) - 1 = (n : Int) := by omega
  have hx : l[n]? = some l[n] := List.getElem?_eq_getElem (by omega)
  rw [compact_last.l0, e, if_pos (by omega), if_pos (by omega), if_pos (by omega), rdM_at hx, Touches_eq _ _ _ _ _ _ _ (hs _ (List.getElem_mem _)), Option.bind_some, IntWalk.wrap64_in _ (by omega), ih k (by omega) (by omega)]
  have e2 : lastN l s (n + 1) = if touchesM l[n] s = true then (n : Int) else lastN l s n := by rw [lastN, hx]
  rw [e2]
  unfold touchesM
  split <;> rfl
theorem last_eq (k : Nat) (l : List Ms) (s : ByteArray) (hl : l.length ≤ 1000000) (hs : ∀ m ∈ l, okS m) (hk : l.length < k) : compact_last.f k l s = some (lastI l s) := by
 unfold compact_last.f lastI
 rw [IntWalk.wrap64_in _ (by omega)]
 exact last_loop l s hl hs l.length k (Nat.le_refl _) hk
theorem lastN_spec (l : List Ms) (s : ByteArray) : ∀ n, n ≤ l.length → (lastN l s n = -1 ∧ ∀ j m, j < n → l[j]? = some m → touchesM m s = false) ∨ ∃ i m, i < n ∧ lastN l s n = (i : Int) ∧ l[i]? = some m ∧ touchesM m s = true ∧ ∀ j x, i < j → j < n → l[j]? = some x → touchesM x s = false
 | 0, _ => .inl ⟨rfl, fun j m h => by omega⟩
 | n + 1, hn => by
  have hx : l[n]? = some l[n] := List.getElem?_eq_getElem (by omega)
  unfold lastN
  rw [hx]
  simp only
  by_cases ht : touchesM l[n] s = true
  ·rw [if_pos ht]
   exact .inr ⟨n, l[n], by omega, rfl, hx, ht, fun j x h1 h2 => by omega⟩
  ·rw [if_neg ht]
   have htf : touchesM l[n] s = false := by simpa using ht
   rcases lastN_spec l s n (by omega) with ⟨h1, h2⟩ | ⟨i, m, h1, h2, h3, h4, h5⟩
   ·refine .inl ⟨h1, fun j m hj hm => ?_⟩
    rcases Nat.lt_or_ge j n with hj' | hj'
    ·exact h2 j m hj' hm
    ·obtain rfl : j = n := by omega
     rw [hx] at hm
     rw [← Option.some.inj hm]; exact htf
   ·refine .inr ⟨i, m, by omega, h2, h3, h4, fun j x hj hj2 hx2 => ?_⟩
    rcases Nat.lt_or_ge j n with hj' | hj'
    ·exact h5 j x hj hj' hx2
    ·obtain rfl : j = n := by omega
     rw [hx] at hx2
     rw [← Option.some.inj hx2]; exact htf
theorem lastI_spec (l : List Ms) (s : ByteArray) : (lastI l s = -1 ∧ ∀ (j : Nat) (m : Ms), l[j]? = some m → touchesM m s = false) ∨ ∃ (i : Nat) (m : Ms), i < l.length ∧ lastI l s = (i : Int) ∧ l[i]? = some m ∧ touchesM m s = true ∧ ∀ (j : Nat) (x : Ms), i < j → l[j]? = some x → touchesM x s = false := by
 rcases lastN_spec l s l.length (Nat.le_refl _) with ⟨h1, h2⟩ | ⟨i, m, h1, h2, h3, h4, h5⟩
 ·exact .inl ⟨h1, fun j m h => h2 j m (List.getElem?_eq_some_iff.1 h).1 h⟩
 ·exact .inr ⟨i, m, h1, h2, h3, h4, fun j x hj hx => h5 j x hj (List.getElem?_eq_some_iff.1 hx).1 hx⟩
def pointF : Nat → List Ms → Ms → List Ms
 | 0, l, m => l ++ [m]
 | n + 1, l, m =>
  if lastI l m.f2 < 0 then l ++ [m]
  else match l[(lastI l m.f2).toNat]? with
   | none => l ++ [m]
   | some x =>
    if isPt x.f0 = true then pointF n (l.eraseIdx (lastI l m.f2).toNat) (joinM x m)
    else if m.f0 = 2 then l
    else if m.f0 = 3 then l ++ [⟨1, m.f1, m.f2, e0, strOfNums (Wp.eight m.f5), 0⟩]
    else l ++ [m]
def pointV (l : List Ms) (m : Ms) : List Ms := pointF (l.length + 1) l m
def gone (f t : ByteArray) (x : Ms) : Bool := (isPt x.f0 && holds f t x.f2) || (decide (x.f0 = 4) && within x.f2 x.f3 f t)
def stepV (out : List Ms) (m : Ms) : List Ms :=
 if isPt m.f0 = true then pointV out m
 else if (decide (m.f0 = 4) && rr m.f2 m.f3) = true then out.filter (fun x => !gone m.f2 m.f3 x) ++ [m]
 else out
def listV (l : List Ms) : List Ms := l.foldl stepV []
theorem pointF_length : ∀ (n : Nat) (l : List Ms) (m : Ms), (pointF n l m).length ≤ l.length + 1
 | 0, l, m => by simp [pointF]
 | n + 1, l, m => by
  unfold pointF
  split
  ·simp
  ·split
   ·simp
   ·split
    ·refine Nat.le_trans (pointF_length n _ _) ?_
     have := List.length_eraseIdx_le l (lastI l m.f2).toNat
     omega
    ·(repeat' split) <;> simp
theorem stepV_length (out : List Ms) (m : Ms) : (stepV out m).length ≤ out.length + 1 := by
 unfold stepV
 split
 ·exact pointF_length _ _ _
 ·split
  ·have := List.length_filter_le (fun x => !gone m.f2 m.f3 x) out
   simp only [List.length_append, List.length_singleton]
   omega
  ·omega
theorem pointF_okS : ∀ (n : Nat) (l : List Ms) (m : Ms), (∀ x ∈ l, okS x) → okS m → ∀ x ∈ pointF n l m, okS x
 | 0, l, m, hl, hm, x, hx => by
  simp only [pointF, List.mem_append, List.mem_singleton] at hx
  rcases hx with hx | rfl
  ·exact hl x hx
  ·exact hm
 | n + 1, l, m, hl, hm, x, hx => by
  have app : ∀ y : Ms, y.f2 = m.f2 → x ∈ l ++ [y] → okS x := fun y hy h => by
   simp only [List.mem_append, List.mem_singleton] at h
   rcases h with h | rfl
   ·exact hl x h
   ·unfold okS; rw [hy]; exact hm
  unfold pointF at hx
  split at hx
  ·exact app m rfl hx
  ·split at hx
   ·exact app m rfl hx
   ·split at hx
    ·refine pointF_okS n _ _ (fun y hy => hl y (List.mem_of_mem_eraseIdx hy)) ?_ x hx
     unfold okS; rw [joinM_key]; exact hm
    ·split at hx
     ·exact hl x hx
     ·split at hx
      ·exact app ⟨1, m.f1, m.f2, e0, strOfNums (Wp.eight m.f5), 0⟩ rfl hx
      ·exact app m rfl hx
theorem stepV_okS (out : List Ms) (m : Ms) (hl : ∀ x ∈ out, okS x) (hm : okS m) : ∀ x ∈ stepV out m, okS x := by
 intro x hx
 unfold stepV at hx
 split at hx
 ·exact pointF_okS _ _ _ hl hm x hx
 ·split at hx
  ·simp only [List.mem_append, List.mem_singleton] at hx
   rcases hx with hx | rfl
   ·exact hl x (List.mem_filter.1 hx).1
   ·exact hm
  ·exact hl x hx
end Go.Proofs.Ytidaiafmhidooaa.P
end
section
namespace Go.Proofs.Ytidaiafmhidooaa.Cp
open Go.RowKit Go.Shelf Go.Proofs.YtidaiafmhidooaaW.PrintWords Go.Proofs.YtidaiafmhidooaaW.PrintLast Go.Proofs.YtidaiafmhidooaaW.PrintMore Go.Proofs.Ytidaiafmhidooaa.Own Go.Proofs.Ytidaiafmhidooaa
set_option maxHeartbeats 4000000
set_option maxRecDepth 100000
abbrev aggM (m : Ms) : Value := .agg #[.int .u8 m.f0, .int .i64 m.f1, .string m.f2, .string m.f3, .string m.f4, .int .u64 m.f5]
abbrev objM (m : Ms) : Obj := .cells #[.int .u8 m.f0, .int .i64 m.f1, .string m.f2, .string m.f3, .string m.f4, .int .u64 m.f5] 33 (0, 0)
abbrev objR (f t : ByteArray) : Obj := .cells #[.string f, .string t] 38 (0, 0)
theorem isPt_any (m : Ms) (W : World) : Calls Try.prog 47 #[aggM m] W fun e w' => e = .returned (.bool (P.isPt m.f0)) ∧ Below W.heap.size W w' :=
 P.msg_IsPoint.calls _ _ _ _ _ _ _ W (P.IsPoint_eq _ _ _ _ _ _)
theorem holds_any (f t s : ByteArray) (W : World) : Calls Try.prog 52 #[.agg #[.string f, .string t], .string s] W fun e w' => e = .returned (.bool (P.holds f t s)) ∧ Below W.heap.size W w' :=
 P.key_Holds.calls _ _ _ _ W (P.Holds_eq _ _ _)
theorem span_any (m : Ms) (hm : P.okS m) (W : World) : Calls Try.prog 46 #[aggM m] W fun e w' => e = .returned (.agg #[.string (P.span m.f0 m.f2 m.f3).1, .string (P.span m.f0 m.f2 m.f3).2]) ∧ Below W.heap.size W w' :=
 P.msg_Span.calls _ _ _ _ _ _ _ _ W (P.Span_eq _ _ _ _ _ _ hm)
theorem within_any (f t g u : ByteArray) (W : World) : Calls Try.prog 53 #[.agg #[.string f, .string t], .agg #[.string g, .string u]] W fun e w' => e = .returned (.bool (P.within f t g u)) ∧ Below W.heap.size W w' :=
 P.key_Within.calls (0 + 9) _ _ _ _ _ W (P.Within_eq 0 _ _ _ _)
structure Bx (W0 : World) (D : Nat) (x : Ms) (B : Nat) (f t : ByteArray) (w : World) : Prop where
 d : w.heap[D]? = some (objM x)
 b : w.heap[B]? = some (objR f t)
 w : Below W0.heap.size W0 w
theorem Bx.below {W0 w w' : World} {D B : Nat} {x : Ms} {f t : ByteArray} (h : Bx W0 D x B f t w) (hb : Below w.heap.size w w') : Bx W0 D x B f t w' := ⟨blk_below h.d hb, blk_below h.b hb, below_step h.w hb⟩
theorem Bx.cells {W0 w : World} {D B : Nat} {x : Ms} {f t : ByteArray} (h : Bx W0 D x B f t w) : w.cell? ⟨D, 0, none⟩ = some (.int .u8 x.f0) ∧ w.cell? ⟨D, 1, none⟩ = some (.int .i64 x.f1) ∧ w.cell? ⟨D, 2, none⟩ = some (.string x.f2) ∧ w.cell? ⟨D, 3, none⟩ = some (.string x.f3) ∧ w.cell? ⟨D, 4, none⟩ = some (.string x.f4) ∧ w.cell? ⟨D, 5, none⟩ = some (.int .u64 x.f5) ∧ w.cell? ⟨B, 0, none⟩ = some (.string f) ∧ w.cell? ⟨B, 1, none⟩ = some (.string t) :=
 ⟨blk_cell h.d 0, blk_cell h.d 1, blk_cell h.d 2, blk_cell h.d 3, blk_cell h.d 4, blk_cell h.d 5, blk_cell h.b 0, blk_cell h.b 1⟩
end Go.Proofs.Ytidaiafmhidooaa.Cp
end
