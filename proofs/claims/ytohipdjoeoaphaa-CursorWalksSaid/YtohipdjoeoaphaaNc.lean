/- What messages make of entries, by the reference: its printed functions in plain form. -/
import Derived.Test.YtohipdjoeoaphaaNb
import Derived.Test.YtohipdjoeoaphaaP5
import Derived.Test.YtohipdjoeoaphaaP2
set_option linter.unusedVariables false
set_option linter.unusedSimpArgs false
namespace Go.Proofs.Ytohipdjoeoaphaa.P
open Go.RowKit Go.Proofs.YtohipdjoeoaphaaW.PrintWords Go.Proofs.YtohipdjoeoaphaaW.PrintLast Go.Proofs.YtohipdjoeoaphaaW.PrintMore Go.Proofs.Ytohipdjoeoaphaa.Own Go.Proofs.Ytohipdjoeoaphaa

abbrev Ms := S76
abbrev En := S39
/-- A row's element at a place. -/
theorem drop_any {α : Type} {L l : List α} {i : Nat} {x : α} (hd : L.drop i = x :: l) : i < L.length ∧ L[i]? = some x ∧ L.drop (i + 1) = l ∧ L.take (i + 1) = L.take i ++ [x] ∧ x ∈ L := by
  have hlt : i < L.length := by
    rcases Nat.lt_or_ge i L.length with h | h
    · exact h
    · rw [List.drop_eq_nil_of_le h] at hd; cases hd
  have hx : L[i]? = some x := by
    have := congrArg (fun z => z[0]?) hd
    simpa using this
  refine ⟨hlt, hx, ?_, ?_, List.mem_of_getElem? hx⟩
  · have := congrArg (List.drop 1) hd
    simpa [List.drop_drop] using this
  · rw [List.take_add_one, hx]; rfl
theorem drop_none {α : Type} {L : List α} {i : Nat} (hd : L.drop i = []) (hi : i ≤ L.length) : i = L.length := by
  have := congrArg List.length hd
  simp at this
  omega
theorem rdS_at {L : List ByteArray} {i : Nat} {x : ByteArray} (h : L[i]? = some x) : rdOf ByteArray.empty L (i : Int) = x := by
  show L.getD ((i : Int).toNat) _ = x
  rw [Int.toNat_natCast, List.getD_eq_getElem?_getD, h]; rfl
theorem rdE_at {L : List En} {i : Nat} {x : En} (h : L[i]? = some x) : rd_T39 L (i : Int) = x := by
  show L.getD ((i : Int).toNat) _ = x
  rw [Int.toNat_natCast, List.getD_eq_getElem?_getD, h]; rfl
theorem rdM_at {L : List Ms} {i : Nat} {x : Ms} (h : L[i]? = some x) : rd_T76 L (i : Int) = x := by
  show L.getD ((i : Int).toNat) _ = x
  rw [Int.toNat_natCast, List.getD_eq_getElem?_getD, h]; rfl
theorem w1 {i : Nat} (h : i ≤ 1000000) : wrap64 ((i : Int) + 1) = ((i + 1 : Nat) : Int) := by rw [IntWalk.wrap64_in _ (by omega)]; omega

/-- Texts that rise, with one more. -/
def intoV : List ByteArray → ByteArray → List ByteArray
  | [], s => [s]
  | x :: l, s => if lt x s = true then x :: intoV l s else if same x s = true then x :: l else s :: x :: l
theorem intoV_length (s : ByteArray) : ∀ L : List ByteArray, (intoV L s).length ≤ L.length + 1
  | [] => by simp [intoV]
  | x :: l => by
    have := intoV_length s l
    simp only [intoV]
    split
    · simp; omega
    · split <;> simp
theorem Into_loop (L : List ByteArray) (s : ByteArray) (hL : L.length ≤ 1000000) : ∀ (l : List ByteArray) (k i : Nat), L.drop i = l → i ≤ L.length → l.length < k → catchmentref05_Into.l0 k L s i = some (L.take i ++ intoV l s) := by
  intro l
  induction l with
  | nil =>
    intro k i hd hi hk
    obtain ⟨k, rfl⟩ : ∃ m, k = m + 1 := ⟨k - 1, by simp at hk; omega⟩
    obtain rfl := drop_none hd hi
    rw [catchmentref05_Into.l0, if_neg (by omega)]
    simp only [Option.bind_some]
    rw [if_pos (by omega), if_pos (by omega), if_pos (by simp; omega), if_pos (by simp; omega), if_pos (by simp; omega)]
    simp [intoV]
  | cons x l ih =>
    intro k i hd hi hk
    obtain ⟨k, rfl⟩ : ∃ m, k = m + 1 := ⟨k - 1, by simp at hk; omega⟩
    obtain ⟨hlt, hx, hd2, ht, _⟩ := drop_any hd
    rw [catchmentref05_Into.l0, if_pos (by omega), if_pos (by omega), rdS_at hx, w1 (by omega)]
    have e1 : ((i : Int)).toNat = i := by omega
    unfold intoV lt same
    by_cases h1 : Op.bytesLess x.toList s.toList = true
    · rw [if_pos h1, if_pos h1, ih k (i + 1) hd2 (by omega) (by simp at hk; omega), ht]
      simp
    · rw [if_neg h1, if_neg h1]
      by_cases h2 : x.toList = s.toList
      · rw [if_pos h2, if_pos (by simpa using h2), ← hd, List.take_append_drop]
      · rw [if_neg h2, if_neg (by simpa using h2)]
        simp only [Option.bind_some]
        rw [if_pos (by omega), if_pos (by simp; omega), if_pos (by simp; omega), if_pos (by simp; omega), e1, hd]
        simp
theorem Into_eq (k : Nat) (L : List ByteArray) (s : ByteArray) (hL : L.length ≤ 1000000) (hk : L.length < k) : catchmentref05_Into.f k L s = some (intoV L s) := by
  have := Into_loop L s hL L k 0 rfl (by omega) hk
  simpa [catchmentref05_Into.f] using this

/-- The keys that points name. -/
def keysFrom : List ByteArray → List Ms → List ByteArray
  | o, [] => o
  | o, m :: l => keysFrom (if isPt m.f0 = true then intoV o m.f2 else o) l
def keysV (l : List Ms) : List ByteArray := keysFrom [] l
theorem keysFrom_length : ∀ (l : List Ms) (o : List ByteArray), (keysFrom o l).length ≤ o.length + l.length
  | [], o => by simp [keysFrom]
  | m :: l, o => by
    have h1 := keysFrom_length l (if isPt m.f0 = true then intoV o m.f2 else o)
    have h2 := intoV_length m.f2 o
    simp only [keysFrom, List.length_cons]
    by_cases h : isPt m.f0 = true
    · rw [if_pos h] at h1 ⊢; omega
    · rw [if_neg h] at h1 ⊢; omega
theorem Keys_loop (L : List Ms) (hL : L.length ≤ 100000) : ∀ (l : List Ms) (k i : Nat) (o : List ByteArray), L.drop i = l → i ≤ L.length → o.length + l.length ≤ 100000 → o.length + l.length + l.length < k → catchmentref05_Keys.l0 k L o i = some (keysFrom o l) := by
  intro l
  induction l with
  | nil =>
    intro k i o hd hi ho hk
    obtain ⟨k, rfl⟩ : ∃ m, k = m + 1 := ⟨k - 1, by omega⟩
    obtain rfl := drop_none hd hi
    rw [catchmentref05_Keys.l0, if_neg (by omega)]
    rfl
  | cons x l ih =>
    intro k i o hd hi ho hk
    simp only [List.length_cons] at ho hk
    obtain ⟨k, rfl⟩ : ∃ m, k = m + 1 := ⟨k - 1, by omega⟩
    obtain ⟨hlt, hx, hd2, _, _⟩ := drop_any hd
    have hlen := intoV_length x.f2 o
    rw [catchmentref05_Keys.l0, if_pos (by omega), if_pos (by omega), rdM_at hx, w1 (by omega), Point_eq, Into_eq _ _ _ (by omega) (by omega)]
    simp only [Option.bind_some, keysFrom]
    by_cases h : isPt x.f0 = true
    · rw [if_pos h, if_pos h]
      exact ih k (i + 1) _ hd2 (by omega) (by omega) (by omega)
    · rw [if_neg h, if_neg h]
      exact ih k (i + 1) _ hd2 (by omega) (by omega) (by omega)
theorem Keys_eq (k : Nat) (l : List Ms) (hl : l.length ≤ 100000) (hk : 2 * l.length < k) : catchmentref05_Keys.f k l = some (keysV l) :=
  Keys_loop l hl l k 0 [] rfl (by omega) (by simp; omega) (by simp; omega)

/-- The keys that points name, or entries have. -/
def addKeys : List ByteArray → List En → List ByteArray
  | o, [] => o
  | o, x :: l => addKeys (intoV o x.f0) l
def namedV (l : List Ms) (e : List En) : List ByteArray := addKeys (keysV l) e
theorem addKeys_length : ∀ (l : List En) (o : List ByteArray), (addKeys o l).length ≤ o.length + l.length
  | [], o => by simp [addKeys]
  | x :: l, o => by
    have h1 := addKeys_length l (intoV o x.f0)
    have h2 := intoV_length x.f0 o
    simp only [addKeys, List.length_cons]
    omega
theorem namedV_length (l : List Ms) (e : List En) : (namedV l e).length ≤ l.length + e.length := by
  have h1 := addKeys_length e (keysV l)
  have h2 := keysFrom_length l []
  unfold namedV
  unfold keysV at h1 ⊢
  simp at h2
  omega
theorem Named_loop (L : List En) (hL : L.length ≤ 100000) : ∀ (l : List En) (k i : Nat) (o : List ByteArray), L.drop i = l → i ≤ L.length → o.length + l.length ≤ 200000 → o.length + l.length + l.length < k → catchmentref05_Named.l0 k L o i = some (addKeys o l) := by
  intro l
  induction l with
  | nil =>
    intro k i o hd hi ho hk
    obtain ⟨k, rfl⟩ : ∃ m, k = m + 1 := ⟨k - 1, by omega⟩
    obtain rfl := drop_none hd hi
    rw [catchmentref05_Named.l0, if_neg (by omega)]
    rfl
  | cons x l ih =>
    intro k i o hd hi ho hk
    simp only [List.length_cons] at ho hk
    obtain ⟨k, rfl⟩ : ∃ m, k = m + 1 := ⟨k - 1, by omega⟩
    obtain ⟨hlt, hx, hd2, _, _⟩ := drop_any hd
    have hlen := intoV_length x.f0 o
    rw [catchmentref05_Named.l0, if_pos (by omega), if_pos (by omega), rdE_at hx, w1 (by omega), Into_eq _ _ _ (by omega) (by omega)]
    simp only [Option.bind_some, addKeys]
    exact ih k (i + 1) _ hd2 (by omega) (by omega) (by omega)
theorem Named_eq (k : Nat) (l : List Ms) (e : List En) (hl : l.length ≤ 100000) (he : e.length ≤ 100000) (hk : 2 * l.length + 2 * e.length < k) : catchmentref05_Named.f k l e = some (namedV l e) := by
  have h2 := keysFrom_length l []
  simp only [List.length_nil] at h2
  unfold catchmentref05_Named.f
  rw [Keys_eq k l hl (by omega)]
  simp only [Option.bind_some]
  exact Named_loop e he e k 0 _ rfl (by omega) (by unfold keysV; omega) (by unfold keysV; omega)

/-- A key's value. -/
def findV : List En → ByteArray → ByteArray × Bool
  | [], _ => (e0, false)
  | x :: l, s => if same x.f0 s = true then (x.f1, true) else findV l s
theorem Find_loop (L : List En) (s : ByteArray) (hL : L.length ≤ 1000000) : ∀ (l : List En) (k i : Nat), L.drop i = l → i ≤ L.length → l.length < k → catchmentref05_Find.l0 k L s i = some (findV l s) := by
  intro l
  induction l with
  | nil =>
    intro k i hd hi hk
    obtain ⟨k, rfl⟩ : ∃ m, k = m + 1 := ⟨k - 1, by omega⟩
    obtain rfl := drop_none hd hi
    rw [catchmentref05_Find.l0, if_neg (by omega)]
    rfl
  | cons x l ih =>
    intro k i hd hi hk
    simp only [List.length_cons] at hk
    obtain ⟨k, rfl⟩ : ∃ m, k = m + 1 := ⟨k - 1, by omega⟩
    obtain ⟨hlt, hx, hd2, _, _⟩ := drop_any hd
    rw [catchmentref05_Find.l0, if_pos (by omega), if_pos (by omega), rdE_at hx, w1 (by omega), ih k (i + 1) hd2 (by omega) (by omega)]
    have hs : same x.f0 s = decide (x.f0.toList = s.toList) := rfl
    simp only [findV]
    by_cases h : x.f0.toList = s.toList
    · rw [if_pos h, if_pos (by simpa [hs] using h)]
    · rw [if_neg h, if_neg (by simpa [hs] using h)]
theorem Find_eq (k : Nat) (e : List En) (s : ByteArray) (he : e.length ≤ 1000000) (hk : e.length < k) : catchmentref05_Find.f k e s = some (findV e s) :=
  Find_loop e s he e k 0 rfl (by omega) hk

/-- What becomes of a key's value. -/
def onM (m : Ms) (s : ByteArray) (p : ByteArray × Bool) : ByteArray × Bool := onV m.f0 m.f2 m.f3 m.f4 m.f5 s p.1 p.2
def doAll (s : ByteArray) : List Ms → ByteArray × Bool → ByteArray × Bool
  | [], p => p
  | m :: l, p => doAll s l (onM m s p)
def valueV (l : List Ms) (s v : ByteArray) (is : Bool) : ByteArray × Bool := doAll s l (norm v is, is)
def okD (m : Ms) : Prop := 0 ≤ m.f5 ∧ m.f5 < 18446744073709551616
theorem Value_loop (L : List Ms) (s : ByteArray) (hL : L.length ≤ 1000000) (hD : ∀ m ∈ L, okD m) : ∀ (l : List Ms) (k i : Nat) (v : ByteArray) (is : Bool), L.drop i = l → i ≤ L.length → l.length + 11 < k → catchmentref05_Value.l0 k L s v is i = some (doAll s l (v, is)) := by
  intro l
  induction l with
  | nil =>
    intro k i v is hd hi hk
    obtain ⟨k, rfl⟩ : ∃ m, k = m + 1 := ⟨k - 1, by omega⟩
    obtain rfl := drop_none hd hi
    rw [catchmentref05_Value.l0, if_neg (by omega)]
    rfl
  | cons x l ih =>
    intro k i v is hd hi hk
    simp only [List.length_cons] at hk
    obtain ⟨k, rfl⟩ : ∃ m, k = m + 11 := ⟨k - 11, by omega⟩
    obtain ⟨hlt, hx, hd2, _, hm⟩ := drop_any hd
    have hd0 := hD x hm
    rw [catchmentref05_Value.l0, if_pos (by omega), if_pos (by omega), rdM_at hx, w1 (by omega), ref04_On_eq k _ _ _ _ _ _ _ _ _ hd0.1 hd0.2]
    simp only [Option.bind_some]
    exact ih (k + 10) (i + 1) _ _ hd2 (by omega) (by omega)
theorem Value_eq (k : Nat) (l : List Ms) (s v : ByteArray) (is : Bool) (hl : l.length ≤ 1000000) (hD : ∀ m ∈ l, okD m) (hk : l.length + 12 < k) : catchmentref05_Value.f k l s v is = some (valueV l s v is) := by
  obtain ⟨k, rfl⟩ : ∃ m, k = m + 1 := ⟨k - 1, by omega⟩
  unfold catchmentref05_Value.f catchmentref05_Value.j0 valueV norm
  cases is
  · simp only [Bool.false_eq_true, if_false]
    exact Value_loop l s hl hD l k 0 _ _ rfl (by omega) (by omega)
  · simp only [if_true]
    exact Value_loop l s hl hD l k 0 _ _ rfl (by omega) (by omega)

theorem ref02_Holds_eq (f t s : ByteArray) : catchmentref02_Holds.f f t s = some (holds f t s) := by
  unfold catchmentref02_Holds.f holds lt emp
  cases Op.bytesLess s.toList f.toList
  · by_cases ht : t.toList = [] <;> simp [ht]
  · rfl
theorem ref02_Right_eq (f t : ByteArray) : catchmentref02_Right.f f t = some (rr f t) := by
  unfold catchmentref02_Right.f rr emp lt
  by_cases ht : t.toList = [] <;> simp [ht]
/-- What messages make of entries. -/
def entryOf (l : List Ms) (e : List En) (f t s : ByteArray) : Option En :=
  let p := valueV l s (findV e s).1 (findV e s).2
  if (p.2 && rr f t && holds f t s) = true then some ⟨s, p.1⟩ else none
def entriesV (l : List Ms) (e : List En) (f t : ByteArray) : List En := (namedV l e).filterMap (entryOf l e f t)
theorem filterMap_length_le {α β : Type} (g : α → Option β) (l : List α) : (l.filterMap g).length ≤ l.length := List.length_filterMap_le g l
theorem entriesV_length (l : List Ms) (e : List En) (f t : ByteArray) : (entriesV l e f t).length ≤ l.length + e.length :=
  Nat.le_trans (filterMap_length_le _ _) (namedV_length l e)
theorem Entries_loop (l : List Ms) (e : List En) (f t : ByteArray) (hl : l.length ≤ 100000) (he : e.length ≤ 100000) (hD : ∀ m ∈ l, okD m) (K : List ByteArray) (hK : K.length ≤ 300000) :
    ∀ (q : List ByteArray) (k i : Nat) (o : List En), K.drop i = q → i ≤ K.length → o.length ≤ i → q.length + l.length + e.length + 13 < k → catchmentref05_Entries.l0 k l e o K i f t = some (o ++ q.filterMap (entryOf l e f t)) := by
  intro q
  induction q with
  | nil =>
    intro k i o hd hi ho hk
    obtain ⟨k, rfl⟩ : ∃ m, k = m + 1 := ⟨k - 1, by omega⟩
    obtain rfl := drop_none hd hi
    rw [catchmentref05_Entries.l0, if_neg (by omega)]
    simp
  | cons x q ih =>
    intro k i o hd hi ho hk
    simp only [List.length_cons] at hk
    obtain ⟨k, rfl⟩ : ∃ m, k = m + 1 := ⟨k - 1, by omega⟩
    obtain ⟨hlt, hx, hd2, _, _⟩ := drop_any hd
    rw [catchmentref05_Entries.l0, if_pos (by omega), if_pos (by omega), rdS_at hx, w1 (by omega), Find_eq _ _ _ (by omega) (by omega)]
    simp only [Option.bind_some]
    rw [Value_eq _ _ _ _ _ (by omega) hD (by omega)]
    simp only [Option.bind_some, ref02_Right_eq, ref02_Holds_eq]
    have go := fun o' (ho' : o'.length ≤ i + 1) => ih k (i + 1) o' hd2 (by omega) ho' (by omega)
    obtain ⟨p, hp⟩ : ∃ p, p = valueV l x (findV e x).1 (findV e x).2 := ⟨_, rfl⟩
    have hE : entryOf l e f t x = if (p.2 && rr f t && holds f t x) = true then some ⟨x, p.1⟩ else none := by rw [hp]; rfl
    rw [List.filterMap_cons, hE, ← hp]
    clear hE hp
    cases h1 : p.2
    · simp only [Bool.false_eq_true, if_false, Bool.false_and]
      exact go o (by omega)
    · cases h2 : rr f t
      · simp only [Bool.false_eq_true, if_false, Bool.false_and, if_true, Bool.and_false]
        exact go o (by omega)
      · cases h3 : holds f t x
        · simp only [Bool.false_eq_true, if_false, if_true, Bool.and_false]
          exact go o (by omega)
        · simp only [if_true, Bool.and_self]
          rw [if_pos (by omega)]
          refine (go (o ++ [(⟨x, p.1⟩ : En)]) (by simp; omega)).trans ?_
          simp
theorem Entries_eq (k : Nat) (l : List Ms) (e : List En) (f t : ByteArray) (hl : l.length ≤ 100000) (he : e.length ≤ 100000) (hD : ∀ m ∈ l, okD m) (hk : 2 * l.length + 2 * e.length + 20 < k) : catchmentref05_Entries.f k l e f t = some (entriesV l e f t) := by
  have hn := namedV_length l e
  unfold catchmentref05_Entries.f entriesV
  rw [Named_eq _ _ _ hl he (by omega)]
  simp only [Option.bind_some]
  have := Entries_loop l e f t hl he hD (namedV l e) (by omega) (namedV l e) k 0 [] rfl (by omega) (by simp) (by omega)
  simpa using this
/-- The first of them. -/
def someV (l : List Ms) (e : List En) (f t : ByteArray) (n : Int) : List En := (entriesV l e f t).take n.toNat
theorem Some_eq (k : Nat) (l : List Ms) (e : List En) (f t : ByteArray) (n : Int) (hl : l.length ≤ 100000) (he : e.length ≤ 100000) (hD : ∀ m ∈ l, okD m) (hk : 2 * l.length + 2 * e.length + 20 < k) : catchmentref05_Some.f k l e f t n = some (someV l e f t n) := by
  unfold catchmentref05_Some.f someV
  rw [Entries_eq _ _ _ _ _ hl he hD hk]
  simp only [Option.bind_some]
  by_cases h : n < 0
  · rw [if_pos h]
    have e1 : n.toNat = 0 := by omega
    rw [e1]
    by_cases h2 : ((entriesV l e f t).length : Int) > 0
    · rw [if_pos h2, if_pos (by omega)]; rfl
    · rw [if_neg h2]
      have : entriesV l e f t = [] := List.eq_nil_of_length_eq_zero (by omega)
      rw [this]; rfl
  · rw [if_neg h]
    by_cases h2 : ((entriesV l e f t).length : Int) > n
    · rw [if_pos h2, if_pos (by omega), if_pos (by omega)]
    · rw [if_neg h2, List.take_of_length_le (by omega)]
/-- Are two rows of entries the same? -/
def sameE : List En → List En → Bool
  | [], [] => true
  | x :: a, y :: b => same x.f0 y.f0 && same x.f1 y.f1 && sameE a b
  | _, _ => false
theorem sameE_iff : ∀ {a b : List En}, sameE a b = true ↔ a = b
  | [], [] => by simp [sameE]
  | [], _ :: _ => by simp [sameE]
  | _ :: _, [] => by simp [sameE]
  | x :: a, y :: b => by
    simp only [sameE, Bool.and_eq_true, same_iff, sameE_iff, List.cons.injEq]
    constructor
    · rintro ⟨⟨h1, h2⟩, h3⟩
      exact ⟨by cases x; cases y; simp_all, h3⟩
    · rintro ⟨rfl, rfl⟩
      exact ⟨⟨rfl, rfl⟩, rfl⟩
theorem sameE_len : ∀ {a b : List En}, a.length ≠ b.length → sameE a b = false
  | [], [], h => by simp at h
  | [], _ :: _, _ => rfl
  | _ :: _, [], _ => rfl
  | x :: a, y :: b, h => by
    simp only [sameE]
    rw [sameE_len (by simpa using h)]
    simp
theorem Same_loop (A B : List En) (hA : A.length ≤ 1000000) (hab : A.length = B.length) : ∀ (a b : List En) (k i : Nat), A.drop i = a → B.drop i = b → i ≤ A.length → a.length < k → catchmentref05_Same.l0 k A B i = some (sameE a b) := by
  intro a
  induction a with
  | nil =>
    intro b k i hd he hi hk
    obtain ⟨k, rfl⟩ : ∃ m, k = m + 1 := ⟨k - 1, by omega⟩
    obtain rfl := drop_none hd hi
    obtain rfl : b = [] := by rw [← he, hab, List.drop_length]
    rw [catchmentref05_Same.l0, if_neg (by omega)]
    rfl
  | cons x a ih =>
    intro b k i hd he hi hk
    simp only [List.length_cons] at hk
    obtain ⟨k, rfl⟩ : ∃ m, k = m + 1 := ⟨k - 1, by omega⟩
    obtain ⟨hlt, hx, hd2, _, _⟩ := drop_any hd
    cases b with
    | nil =>
      have := congrArg List.length he
      simp at this
      omega
    | cons y b =>
      obtain ⟨_, hy, he2, _, _⟩ := drop_any he
      rw [catchmentref05_Same.l0, if_pos (by omega), if_pos (by omega), if_pos (by omega), rdE_at hx, rdE_at hy, w1 (by omega), ih b k (i + 1) hd2 he2 (by omega) (by omega)]
      simp only [sameE, same]
      by_cases h1 : x.f0.toList = y.f0.toList
      · by_cases h2 : x.f1.toList = y.f1.toList
        · simp [h1, h2]
        · simp [h1, h2]
      · simp [h1]
theorem Same_eq (k : Nat) (a b : List En) (ha : a.length ≤ 1000000) (hk : a.length < k) : catchmentref05_Same.f k a b = some (sameE a b) := by
  unfold catchmentref05_Same.f
  by_cases h : a.length = b.length
  · rw [if_pos (by omega)]
    exact Same_loop a b ha h a b k 0 rfl rfl (by omega) hk
  · rw [if_neg (by omega), sameE_len h]
/-- Do entries rise? -/
def risesV : List En → Bool
  | [] => true
  | [_] => true
  | x :: y :: l => lt x.f0 y.f0 && risesV (y :: l)
theorem Rises_loop (L : List En) (hL : L.length ≤ 1000000) : ∀ (l : List En) (i k : Nat) (x : En), L.drop (i + 1) = l → L[i]? = some x → l.length < k → catchmentref05_Rises.l0 k L ((i : Int) + 1) = some (risesV (x :: l)) := by
  intro l
  induction l with
  | nil =>
    intro i k x hd hx hk
    obtain ⟨k, rfl⟩ : ∃ m, k = m + 1 := ⟨k - 1, by omega⟩
    have hlen : L.length ≤ i + 1 := by have := congrArg List.length hd; simp at this; omega
    rw [catchmentref05_Rises.l0, if_neg (by omega)]
    rfl
  | cons y l ih =>
    intro i k x hd hx hk
    simp only [List.length_cons] at hk
    obtain ⟨k, rfl⟩ : ∃ m, k = m + 1 := ⟨k - 1, by omega⟩
    obtain ⟨hlt, hy, hd2, _, _⟩ := drop_any hd
    rw [catchmentref05_Rises.l0]
    rw [if_pos (by omega), IntWalk.wrap64_in ((i : Int) + 1 - 1) (by omega), if_pos (by omega), if_pos (by omega), if_pos (by omega)]
    rw [show (i : Int) + 1 - 1 = (i : Int) by omega, rdE_at hx, show (i : Int) + 1 = ((i + 1 : Nat) : Int) by omega, rdE_at hy, IntWalk.wrap64_in _ (by omega)]
    rw [ih (i + 1) k y hd2 hy (by omega)]
    show (if lt x.f0 y.f0 = true then _ else _) = some (lt x.f0 y.f0 && risesV (y :: l))
    cases lt x.f0 y.f0 <;> rfl
theorem Rises_eq (k : Nat) (L : List En) (hL : L.length ≤ 1000000) (hk : L.length + 1 < k) : catchmentref05_Rises.f k L = some (risesV L) := by
  unfold catchmentref05_Rises.f
  cases L with
  | nil =>
    obtain ⟨k, rfl⟩ : ∃ m, k = m + 1 := ⟨k - 1, by omega⟩
    rw [catchmentref05_Rises.l0, if_neg (by simp)]
    rfl
  | cons x l =>
    have := Rises_loop (x :: l) hL l 0 k x rfl rfl (by simp at hk; omega)
    exact this
end Go.Proofs.Ytohipdjoeoaphaa.P
