/- Texts of one claim (laid by shake.py). -/
import Derived.Test.YtebejadiaooooaaZt3
import Derived.Lib.Strings
import Derived.Test.YtebejadiaooooaaZt5
import Derived.Laws.BitsAllLaws
import Derived.Test.YtebejadiaooooaaZt7
import Derived.Test.YtebejadiaooooaaZt8
import Derived.Test.YtebejadiaooooaaProg
import Derived.Test.YtebejadiaooooaaZt2
import Derived.StillTailTactics
set_option linter.unusedVariables false
set_option linter.unusedSimpArgs false
section
namespace Go.Proofs.Ytebejadiaooooaa.P
open Go.RowKit Go.Proofs.YtebejadiaooooaaW.PrintWords Go.Proofs.YtebejadiaooooaaW.PrintLast Go.Proofs.YtebejadiaooooaaW.PrintMore Go.Proofs.Ytebejadiaooooaa.Own Go.Proofs.Ytebejadiaooooaa
theorem ba_ext {a b : ByteArray} (h : a.toList = b.toList) : a = b := by
 rw [Lib.toList_data, Lib.toList_data] at h
 cases a; cases b
 simp only [ByteArray.mk.injEq]
 exact Array.toList_inj.1 h
theorem ba_eq {a b : ByteArray} : a.toList = b.toList ↔ a = b := ⟨ba_ext, fun h => by rw [h]⟩
theorem ba_mk (l : Array UInt8) : (⟨l⟩ : ByteArray).toList = l.toList := by rw [Lib.toList_data]
end Go.Proofs.Ytebejadiaooooaa.P
end
section
namespace Go.Proofs.Ytebejadiaooooaa.P
open Go.RowKit Go.Proofs.YtebejadiaooooaaW.PrintWords Go.Proofs.YtebejadiaooooaaW.PrintLast Go.Proofs.YtebejadiaooooaaW.PrintMore Go.Proofs.Ytebejadiaooooaa.Own Go.Proofs.Ytebejadiaooooaa
def lt (a b : ByteArray) : Bool := Op.bytesLess a.toList b.toList
def emp (a : ByteArray) : Bool := decide (a.toList = [])
def same (a b : ByteArray) : Bool := decide (a.toList = b.toList)
abbrev e0 : ByteArray := ⟨#[]⟩
theorem emp_e0 : emp e0 = true := by simp [emp, ba_mk]
theorem same_iff {a b : ByteArray} : same a b = true ↔ a = b := by simp [same, ba_eq]
theorem emp_iff {a : ByteArray} : emp a = true ↔ a = e0 := by
 have h : (e0 : ByteArray).toList = [] := by simp [ba_mk]
 simp only [emp, decide_eq_true_eq]
 exact ⟨fun h2 => ba_ext (h2.trans h.symm), fun h2 => by rw [h2]; exact h⟩
def isPt (k : Int) : Bool := decide (k = 1 ∨ k = 2 ∨ k = 3)
def rr (f t : ByteArray) : Bool := emp t || lt f t
def holds (f t s : ByteArray) : Bool := !lt s f && (emp t || lt s t)
def before (a b : ByteArray) : Bool := !emp a && (emp b || lt a b)
def succB (a : ByteArray) : ByteArray := a ++ ⟨#[0]⟩
def span (k : Int) (y t : ByteArray) : ByteArray × ByteArray := if isPt k = true then (y, succB y) else if k = 4 then (y, t) else (e0, e0)
theorem isPt_ne4 {k : Int} (h : isPt k = true) : ¬ k = 4 := by
 simp only [isPt, decide_eq_true_eq] at h
 omega
theorem lt_irrefl (a : ByteArray) : lt a a = false := Bo.irrefl _
theorem lt_trans {a b c : ByteArray} (h : lt a b = true) (k : lt b c = true) : lt a c = true := Bo.trans h k
theorem lt_tri (a b : ByteArray) : lt a b = true ∨ a = b ∨ lt b a = true := by
 rcases Bo.le_or a.toList b.toList with h | h | h
 ·exact .inl h
 ·exact .inr (.inl (ba_ext h))
 ·exact .inr (.inr h)
theorem le_trans {s b c : ByteArray} (h : lt s b = false) (k : lt b c = false) : lt s c = false := by
 cases q : lt s c with
 | false => rfl
 | true =>
  rcases lt_tri s b with h1 | h1 | h1
  ·rw [h] at h1; cases h1
  ·subst h1; rw [k] at q; cases q
  ·rw [lt_trans h1 q] at k; cases k
theorem lt_emp {a b : ByteArray} (h : lt a b = true) : emp b = false := by
 cases q : emp b with
 | false => rfl
 | true =>
  rw [emp_iff.1 q] at h
  unfold lt at h
  rw [show (e0 : ByteArray).toList = [] from by simp [ba_mk], Bo.nil_right] at h
  cases h
def ah (s t : ByteArray) : Bool := emp t || lt s t
theorem holds_def (y t s : ByteArray) : holds y t s = (!lt s y && ah s t) := rfl
theorem ah_lt {s t x : ByteArray} (h : lt s x = true) (k : ah x t = true) : ah s t = true := by
 unfold ah at *
 cases he : emp t
 ·rw [he] at k
  simp only [Bool.false_or] at k ⊢
  exact lt_trans h k
 ·rfl
def norm (v : ByteArray) (is : Bool) : ByteArray := if is = true then v else e0
end Go.Proofs.Ytebejadiaooooaa.P
end
section
namespace Go.Proofs.Ytebejadiaooooaa.P
open Go.RowKit Go.Proofs.YtebejadiaooooaaW.PrintWords Go.Proofs.YtebejadiaooooaaW.PrintLast Go.Proofs.YtebejadiaooooaaW.PrintMore Go.Proofs.Ytebejadiaooooaa.Own Go.Proofs.Ytebejadiaooooaa
def eight (n : Int) : List Int := [n / 72057594037927936 % 256, n / 281474976710656 % 256, n / 1099511627776 % 256, n / 4294967296 % 256, n / 16777216 % 256, n / 65536 % 256, n / 256 % 256, n % 256]
def valN (s : ByteArray) : Nat → Int
 | 0 => 0
 | n + 1 => valN s n * 256 + bt s n
theorem valN_range (s : ByteArray) (n : Nat) : 0 ≤ valN s n ∧ valN s n < 256 ^ n := by
 induction n with
 | zero => simp [valN]
 | succ n ih =>
  have := bt_range s n
  simp only [valN, Int.pow_succ]
  omega
theorem pow_le : ∀ n : Nat, n < 8 → (256 : Int) ^ n ≤ 72057594037927936 := by decide
def addV (v : ByteArray) (is : Bool) (d : Int) : ByteArray :=
 if is = true then (if v.size = 8 then strOfNums (eight (IntKind.u64.wrap (valN v 8 + d))) else v) else strOfNums (eight d)
def touches (k : Int) (y t s : ByteArray) : Bool := (isPt k && same y s) || (decide (k = 4) && holds y t s)
def applyV (k : Int) (vv : ByteArray) (d : Int) (v : ByteArray) (is : Bool) : ByteArray × Bool :=
 if k = 1 then (vv, true) else if k = 3 then (addV v is d, true) else if k = 2 ∨ k = 4 then (e0, false) else if is = true then (v, true) else (e0, false)
def onV (k : Int) (y t vv : ByteArray) (d : Int) (s v : ByteArray) (is : Bool) : ByteArray × Bool :=
 if touches k y t s = true then applyV k vv d v is else if is = true then (v, true) else (e0, false)
end Go.Proofs.Ytebejadiaooooaa.P
end
section
namespace Go.Proofs.Ytebejadiaooooaa.P
open Go.RowKit Go.Proofs.YtebejadiaooooaaW.PrintWords Go.Proofs.YtebejadiaooooaaW.PrintLast Go.Proofs.YtebejadiaooooaaW.PrintMore Go.Proofs.Ytebejadiaooooaa.Own Go.Proofs.Ytebejadiaooooaa
abbrev Ms := S32
abbrev En := S39
theorem drop_any {α : Type} {L l : List α} {i : Nat} {x : α} (hd : L.drop i = x :: l) : i < L.length ∧ L[i]? = some x ∧ L.drop (i + 1) = l ∧ L.take (i + 1) = L.take i ++ [x] ∧ x ∈ L := by
 have hlt : i < L.length := by
  rcases Nat.lt_or_ge i L.length with h | h
  ·exact h
  ·rw [List.drop_eq_nil_of_le h] at hd; cases hd
 have hx : L[i]? = some x := by
  have := congrArg (fun z => z[0]?) hd
  simpa using this
 refine ⟨hlt, hx, ?_, ?_, List.mem_of_getElem? hx⟩
 ·have := congrArg (List.drop 1) hd
  simpa [List.drop_drop] using this
 ·rw [List.take_add_one, hx]; rfl
theorem drop_none {α : Type} {L : List α} {i : Nat} (hd : L.drop i = []) (hi : i ≤ L.length) : i = L.length := by
 have := congrArg List.length hd
 simp at this
 omega
theorem rdS_at {L : List ByteArray} {i : Nat} {x : ByteArray} (h : L[i]? = some x) : rdOf ByteArray.empty L (i : Int) = x := by
 show L.getD ((i : Int).toNat) _ = x
 rw [Int.toNat_natCast, List.getD_eq_getElem?_getD, h]; rfl
theorem rdE_at {L : List En} {i : Nat} {x : En} (h : L[i]? = some x) : rd_T39 L (i : Int) = x := by
 show L.getD ((i : Int).toNat) _ = x
 rw [Int.toNat_natCast, List.getD_eq_getElem?_getD, h]; rfl
theorem rdM_at {L : List Ms} {i : Nat} {x : Ms} (h : L[i]? = some x) : rd_T32 L (i : Int) = x := by
 show L.getD ((i : Int).toNat) _ = x
 rw [Int.toNat_natCast, List.getD_eq_getElem?_getD, h]; rfl
theorem wrap1 {i : Nat} (h : i ≤ 1000000) : wrap64 ((i : Int) + 1) = ((i + 1 : Nat) : Int) := by rw [IntWalk.wrap64_in _ (by omega)]; omega
def intoV : List ByteArray → ByteArray → List ByteArray
 | [], s => [s]
 | x :: l, s => if lt x s = true then x :: intoV l s else if same x s = true then x :: l else s :: x :: l
theorem intoV_length (s : ByteArray) : ∀ L : List ByteArray, (intoV L s).length ≤ L.length + 1
 | [] => by simp [intoV]
 | x :: l => by
  have := intoV_length s l
  simp only [intoV]
  split
  ·simp; omega
  ·split <;> simp
theorem Into_loop (L : List ByteArray) (s : ByteArray) (hL : L.length ≤ 1000000) : ∀ (l : List ByteArray) (k i : Nat), L.drop i = l → i ≤ L.length → l.length < k → catchmentref05_Into.l0 k L s i = some (L.take i ++ intoV l s) := by
 intro l
 induction l with
 | nil =>
  intro k i hd hi hk
  obtain ⟨k, rfl⟩ : ∃ m, k = m + 1 := ⟨k - 1, by simp at hk; omega⟩
  obtain rfl := drop_none hd hi
  rw [catchmentref05_Into.l0, if_neg (by omega)]
  simp only [Option.bind_some]
  rw [if_pos (by omega), if_pos (by omega), if_pos (by simp; omega), if_pos (by simp; omega), if_pos (by simp; omega)]
  simp [intoV]
 | cons x l ih =>
  intro k i hd hi hk
  obtain ⟨k, rfl⟩ : ∃ m, k = m + 1 := ⟨k - 1, by simp at hk; omega⟩
  obtain ⟨hlt, hx, hd2, ht, _⟩ := drop_any hd
  rw [catchmentref05_Into.l0, if_pos (by omega), if_pos (by omega), rdS_at hx, wrap1 (by omega)]
  have e1 : ((i : Int)).toNat = i := by omega
  unfold intoV lt same
  by_cases h1 : Op.bytesLess x.toList s.toList = true
  ·rw [if_pos h1, if_pos h1, ih k (i + 1) hd2 (by omega) (by simp at hk; omega), ht]
   simp
  ·rw [if_neg h1, if_neg h1]
   by_cases h2 : x.toList = s.toList
   ·rw [if_pos h2, if_pos (by simpa using h2), ← hd, List.take_append_drop]
   ·rw [if_neg h2, if_neg (by simpa using h2)]
    simp only [Option.bind_some]
    rw [if_pos (by omega), if_pos (by simp; omega), if_pos (by simp; omega), if_pos (by simp; omega), e1, hd]
    simp
theorem Into_eq (k : Nat) (L : List ByteArray) (s : ByteArray) (hL : L.length ≤ 1000000) (hk : L.length < k) : catchmentref05_Into.f k L s = some (intoV L s) := by
 have := Into_loop L s hL L k 0 rfl (by omega) hk
 simpa [catchmentref05_Into.f] using this
def keysFrom : List ByteArray → List Ms → List ByteArray
 | o, [] => o
 | o, m :: l => keysFrom (if isPt m.f0 = true then intoV o m.f2 else o) l
def keysV (l : List Ms) : List ByteArray := keysFrom [] l
theorem keysFrom_length : ∀ (l : List Ms) (o : List ByteArray), (keysFrom o l).length ≤ o.length + l.length
 | [], o => by simp [keysFrom]
 | m :: l, o => by
  have h1 := keysFrom_length l (if isPt m.f0 = true then intoV o m.f2 else o)
  have h2 := intoV_length m.f2 o
  simp only [keysFrom, List.length_cons]
  by_cases h : isPt m.f0 = true
  ·rw [if_pos h] at h1 ⊢; omega
  ·rw [if_neg h] at h1 ⊢; omega
def addKeys : List ByteArray → List En → List ByteArray
 | o, [] => o
 | o, x :: l => addKeys (intoV o x.f0) l
def namedV (l : List Ms) (e : List En) : List ByteArray := addKeys (keysV l) e
theorem addKeys_length : ∀ (l : List En) (o : List ByteArray), (addKeys o l).length ≤ o.length + l.length
 | [], o => by simp [addKeys]
 | x :: l, o => by
  have h1 := addKeys_length l (intoV o x.f0)
  have h2 := intoV_length x.f0 o
  simp only [addKeys, List.length_cons]
  omega
theorem namedV_length (l : List Ms) (e : List En) : (namedV l e).length ≤ l.length + e.length := by
 have h1 := addKeys_length e (keysV l)
 have h2 := keysFrom_length l []
 unfold namedV
 unfold keysV at h1 ⊢
 simp at h2
 omega
def findV : List En → ByteArray → ByteArray × Bool
 | [], _ => (e0, false)
 | x :: l, s => if same x.f0 s = true then (x.f1, true) else findV l s
theorem Find_loop (L : List En) (s : ByteArray) (hL : L.length ≤ 1000000) : ∀ (l : List En) (k i : Nat), L.drop i = l → i ≤ L.length → l.length < k → catchmentref05_Find.l0 k L s i = some (findV l s) := by
 intro l
 induction l with
 | nil =>
  intro k i hd hi hk
  obtain ⟨k, rfl⟩ : ∃ m, k = m + 1 := ⟨k - 1, by omega⟩
  obtain rfl := drop_none hd hi
  rw [catchmentref05_Find.l0, if_neg (by omega)]
  rfl
 | cons x l ih =>
  intro k i hd hi hk
  simp only [List.length_cons] at hk
  obtain ⟨k, rfl⟩ : ∃ m, k = m + 1 := ⟨k - 1, by omega⟩
  obtain ⟨hlt, hx, hd2, _, _⟩ := drop_any hd
  rw [catchmentref05_Find.l0, if_pos (by omega), if_pos (by omega), rdE_at hx, wrap1 (by omega), ih k (i + 1) hd2 (by omega) (by omega)]
  have hs : same x.f0 s = decide (x.f0.toList = s.toList) := rfl
  simp only [findV]
  by_cases h : x.f0.toList = s.toList
  ·rw [if_pos h, if_pos (by simpa [hs] using h)]
  ·rw [if_neg h, if_neg (by simpa [hs] using h)]
theorem Find_eq (k : Nat) (e : List En) (s : ByteArray) (he : e.length ≤ 1000000) (hk : e.length < k) : catchmentref05_Find.f k e s = some (findV e s) :=
 Find_loop e s he e k 0 rfl (by omega) hk
def onM (m : Ms) (s : ByteArray) (p : ByteArray × Bool) : ByteArray × Bool := onV m.f0 m.f2 m.f3 m.f4 m.f5 s p.1 p.2
def doAll (s : ByteArray) : List Ms → ByteArray × Bool → ByteArray × Bool
 | [], p => p
 | m :: l, p => doAll s l (onM m s p)
def valueV (l : List Ms) (s v : ByteArray) (is : Bool) : ByteArray × Bool := doAll s l (norm v is, is)
def okD (m : Ms) : Prop := 0 ≤ m.f5 ∧ m.f5 < 18446744073709551616
def entryOf (l : List Ms) (e : List En) (f t s : ByteArray) : Option En :=
 let p := valueV l s (findV e s).1 (findV e s).2
 if (p.2 && rr f t && holds f t s) = true then some ⟨s, p.1⟩ else none
def entriesV (l : List Ms) (e : List En) (f t : ByteArray) : List En := (namedV l e).filterMap (entryOf l e f t)
theorem filterMap_length_le {α β : Type} (g : α → Option β) (l : List α) : (l.filterMap g).length ≤ l.length := List.length_filterMap_le g l
theorem entriesV_length (l : List Ms) (e : List En) (f t : ByteArray) : (entriesV l e f t).length ≤ l.length + e.length :=
 Nat.le_trans (filterMap_length_le _ _) (namedV_length l e)
def sameE : List En → List En → Bool
 | [], [] => true
 | x :: a, y :: b => same x.f0 y.f0 && same x.f1 y.f1 && sameE a b
 | _, _ => false
theorem sameE_iff : ∀ {a b : List En}, sameE a b = true ↔ a = b
 | [], [] => by simp [sameE]
 | [], _ :: _ => by simp [sameE]
 | _ :: _, [] => by simp [sameE]
 | x :: a, y :: b => by
  simp only [sameE, Bool.and_eq_true, same_iff, sameE_iff, List.cons.injEq]
  constructor
  ·rintro ⟨⟨h1, h2⟩, h3⟩
   exact ⟨by cases x; cases y; simp_all, h3⟩
  ·rintro ⟨rfl, rfl⟩
   exact ⟨⟨rfl, rfl⟩, rfl⟩
theorem sameE_len : ∀ {a b : List En}, a.length ≠ b.length → sameE a b = false
 | [], [], h => by simp at h
 | [], _ :: _, _ => rfl
 | _ :: _, [], _ => rfl
 | x :: a, y :: b, h => by
  simp only [sameE]
  rw [sameE_len (by simpa using h)]
  simp
theorem Same_loop (A B : List En) (hA : A.length ≤ 1000000) (hab : A.length = B.length) : ∀ (a b : List En) (k i : Nat), A.drop i = a → B.drop i = b → i ≤ A.length → a.length < k → catchmentref05_Same.l0 k A B i = some (sameE a b) := by
 intro a
 induction a with
 | nil =>
  intro b k i hd he hi hk
  obtain ⟨k, rfl⟩ : ∃ m, k = m + 1 := ⟨k - 1, by omega⟩
  obtain rfl := drop_none hd hi
  obtain rfl : b = [] := by rw [← he, hab, List.drop_length]
  rw [catchmentref05_Same.l0, if_neg (by omega)]
  rfl
 | cons x a ih =>
  intro b k i hd he hi hk
  simp only [List.length_cons] at hk
  obtain ⟨k, rfl⟩ : ∃ m, k = m + 1 := ⟨k - 1, by omega⟩
  obtain ⟨hlt, hx, hd2, _, _⟩ := drop_any hd
  cases b with
  | nil =>
   have := congrArg List.length he
   simp at this
   omega
  | cons y b =>
   obtain ⟨_, hy, he2, _, _⟩ := drop_any he
   rw [catchmentref05_Same.l0, if_pos (by omega), if_pos (by omega), if_pos (by omega), rdE_at hx, rdE_at hy, wrap1 (by omega), ih b k (i + 1) hd2 he2 (by omega) (by omega)]
   simp only [sameE, same]
   by_cases h1 : x.f0.toList = y.f0.toList
   ·by_cases h2 : x.f1.toList = y.f1.toList
    ·simp [h1, h2]
    ·simp [h1, h2]
   ·simp [h1]
theorem Same_eq (k : Nat) (a b : List En) (ha : a.length ≤ 1000000) (hk : a.length < k) : catchmentref05_Same.f k a b = some (sameE a b) := by
 unfold catchmentref05_Same.f
 by_cases h : a.length = b.length
 ·rw [if_pos (by omega)]
  exact Same_loop a b ha h a b k 0 rfl rfl (by omega) hk
 ·rw [if_neg (by omega), sameE_len h]
def risesV : List En → Bool
 | [] => true
 | [_] => true
 | x :: y :: l => lt x.f0 y.f0 && risesV (y :: l)
theorem Rises_loop (L : List En) (hL : L.length ≤ 1000000) : ∀ (l : List En) (i k : Nat) (x : En), L.drop (i + 1) = l → L[i]? = some x → l.length < k → catchmentref05_Rises.l0 k L ((i : Int) + 1) = some (risesV (x :: l)) := by
 intro l
 induction l with
 | nil =>
  intro i k x hd hx hk
  obtain ⟨k, rfl⟩ : ∃ m, k = m + 1 := ⟨k - 1, by omega⟩
  have hlen : L.length ≤ i + 1 := by have := congrArg List.length hd; simp at this; omega
  rw [catchmentref05_Rises.l0, if_neg (by omega)]
  rfl
 | cons y l ih =>
  intro i k x hd hx hk
  simp only [List.length_cons] at hk
  obtain ⟨k, rfl⟩ : ∃ m, k = m + 1 := ⟨k - 1, by omega⟩
  obtain ⟨hlt, hy, hd2, _, _⟩ := drop_any hd
  rw [catchmentref05_Rises.l0]
  rw [if_pos (by omega), IntWalk.wrap64_in ((i : Int) + 1 - 1) (by omega), if_pos (by omega), if_pos (by omega), if_pos (by omega)]
  rw [show (i : Int) + 1 - 1 = (i : Int) by omega, rdE_at hx, show (i : Int) + 1 = ((i + 1 : Nat) : Int) by omega, rdE_at hy, IntWalk.wrap64_in _ (by omega)]
  rw [ih (i + 1) k y hd2 hy (by omega)]
  show (if lt x.f0 y.f0 = true then _ else _) = some (lt x.f0 y.f0 && risesV (y :: l))
  cases lt x.f0 y.f0 <;> rfl
theorem Rises_eq (k : Nat) (L : List En) (hL : L.length ≤ 1000000) (hk : L.length + 1 < k) : catchmentref05_Rises.f k L = some (risesV L) := by
 unfold catchmentref05_Rises.f
 cases L with
 | nil =>
  obtain ⟨k, rfl⟩ : ∃ m, k = m + 1 := ⟨k - 1, by omega⟩
  rw [catchmentref05_Rises.l0, if_neg (by simp)]
  rfl
 | cons x l =>
  have := Rises_loop (x :: l) hL l 0 k x rfl rfl (by simp at hk; omega)
  exact this
end Go.Proofs.Ytebejadiaooooaa.P
end
section
namespace Go.Proofs.Ytebejadiaooooaa.Ord
open Go.RowKit Go.Proofs.YtebejadiaooooaaW.PrintWords Go.Proofs.YtebejadiaooooaaW.PrintLast
structure Fr (B : List Nat) (w w' : World) : Prop where
 os : w'.os = w.os
 tape : w'.tape = w.tape
 output : w'.output = w.output
 size : w.heap.size ≤ w'.heap.size
 block : ∀ k, k < w.heap.size → k ∉ B → w'.heap[k]? = w.heap[k]?
namespace Fr
theorem refl (B : List Nat) (w : World) : Fr B w w := ⟨rfl, rfl, rfl, Nat.le_refl _, fun _ _ _ => rfl⟩
theorem of_below {B : List Nat} {w w' : World} (h : Below w.heap.size w w') : Fr B w w' := ⟨h.os, h.tape, h.output, h.size, fun k hk _ => h.block k hk⟩
theorem wide {B B' : List Nat} {w w' : World} (h : Fr B w w') (hB : ∀ k ∈ B, k ∈ B' ∨ w.heap.size ≤ k) : Fr B' w w' :=
 ⟨h.os, h.tape, h.output, h.size, fun k hk hn => h.block k hk (fun hb => by rcases hB k hb with h1 | h1; exact hn h1; omega)⟩
theorem trans {B C : List Nat} {w w1 w2 : World} (h : Fr B w w1) (k : Fr C w1 w2) (hC : ∀ x ∈ C, x ∈ B ∨ w.heap.size ≤ x) : Fr B w w2 :=
 ⟨k.os.trans h.os, k.tape.trans h.tape, k.output.trans h.output, Nat.le_trans h.size k.size, fun x hx hn =>
  (k.block x (Nat.lt_of_lt_of_le hx h.size) (fun hc => by rcases hC x hc with h1 | h1; exact hn h1; omega)).trans (h.block x hx hn)⟩
theorem drewN {B : List Nat} {w w' : World} (h : Fr B w w') (n : Nat) : Fr B w (w'.drewN n) := ⟨h.os, h.tape, h.output, h.size, h.block⟩
theorem drew {B : List Nat} {w w' : World} (h : Fr B w w') : Fr B w w'.drew := ⟨h.os, h.tape, h.output, h.size, h.block⟩
theorem set {B : List Nat} {w w' : World} (h : Fr B w w') {b i : Nat} (hb : b ∈ B ∨ w.heap.size ≤ b) (u : Value) : Fr B w (w'.setCell ⟨b, i, none⟩ u) := by
 have h2 := (Below.refl 0 w').setCell (p := ⟨b, i, none⟩) (Nat.zero_le _) u
 exact ⟨h2.os.trans h.os, h2.tape.trans h.tape, h2.output.trans h.output, Nat.le_trans h.size h2.size, fun x hx hn => by
  rw [Below.heap_setCell w' ⟨b, i, none⟩ u x (by rintro rfl; rcases hb with h1 | h1; exact hn h1; exact absurd hx (by simpa using h1))]
  exact h.block x hx hn⟩
theorem alloc {B : List Nat} {w w' : World} (h : Fr B w w') (o : Obj) : Fr B w (w'.alloc o) := by
 have h2 := (Below.refl w'.heap.size w').alloc (Nat.le_refl _) o
 exact h.trans (of_below (B := []) h2) (fun x hx => by cases hx)
theorem below {B : List Nat} {w w' : World} {base : Nat} (h : Fr B w w') (hB : ∀ k ∈ B, base ≤ k) (hb : base ≤ w.heap.size) : Below base w w' :=
 ⟨h.os, h.tape, h.output, h.size, fun k hk => h.block k (by omega) (fun hm => by have := hB k hm; omega)⟩
theorem blk {B : List Nat} {w w' : World} (h : Fr B w w') {g : Nat} {o : Obj} (hg : w.heap[g]? = some o) (hn : g ∉ B) : w'.heap[g]? = some o := (h.block g (blk_lt hg) hn).trans hg
end Fr
theorem still_tail {P : Program} {id : Nat} {Q : Exit → Act → World → Prop} {a : Act} {w : World} {l : List Oper} (n : Nat) (hm : P.follows .mixedOrders = true) (hB : Region.lexTailB .any l.toArray n = true)
  (h : ∀ W, W = w.drew → wpStill P l.toArray W (fun a' => wpList P l.toArray Q (l.drop n) a' W) (l.take n) a) : (Code.region id l.toArray true).wp P Q a w :=
 wp_region_still_tail n hm hB (h _ rfl)
theorem still_all {P : Program} {id : Nat} {Q : Exit → Act → World → Prop} {a : Act} {w : World} {l : List Oper} (hm : P.follows .mixedOrders = true) (hB : Region.lexB .any l.toArray = true)
  (h : ∀ W, W = w.drew → wpStill P l.toArray W (fun a' => Q .normal a' W) l a) : (Code.region id l.toArray true).wp P Q a w :=
 wp_region_still_lit hm hB (h _ rfl)
inductive Kn (K V : Type) where
 | nil : Kn K V
 | node (b : Nat) (k : K) (v : V) (l r : Kn K V) : Kn K V
namespace Kn
variable {K V : Type}
def adr : Kn K V → Option Addr
 | nil => none
 | node b _ _ _ _ => some ⟨b, 0, none⟩
def bs : Kn K V → List Nat
 | nil => []
 | node b _ _ l r => b :: (l.bs ++ r.bs)
def hgt : Kn K V → Int
 | nil => 0
 | node _ _ _ l r => 1 + mx l.hgt r.hgt
def cnt : Kn K V → Int
 | nil => 0
 | node _ _ _ l r => 1 + l.cnt + r.cnt
def toL : Kn K V → List (K × V)
 | nil => []
 | node _ k v l r => l.toL ++ (k, v) :: r.toL
theorem bounds : ∀ T : Kn K V, 0 ≤ T.hgt ∧ T.hgt ≤ T.cnt
 | nil => by simp [hgt, cnt]
 | node _ _ _ l r => by
  have := bounds l; have := bounds r
  simp only [hgt, cnt, mx]
  split <;> omega
theorem cnt_len : ∀ T : Kn K V, T.cnt = T.toL.length
 | nil => rfl
 | node _ _ _ l r => by simp only [cnt, toL, List.length_append, List.length_cons, cnt_len l, cnt_len r]; omega
theorem bs_len : ∀ T : Kn K V, T.bs.length = T.toL.length
 | nil => rfl
 | node _ _ _ l r => by simp only [bs, toL, List.length_append, List.length_cons, bs_len l, bs_len r]; omega
def up : Kn K V → Kn K V
 | node b k v l (node hb hk hv hl hr) => node hb hk hv (node b k v l hl) hr
 | T => T
def down : Kn K V → Kn K V
 | node b k v (node lb lk lv ll lr) r => node lb lk lv ll (node b k v lr r)
 | T => T
def even (b : Nat) (k : K) (v : V) (l r : Kn K V) : Kn K V :=
 if l.hgt - r.hgt > 1 then
  match l with
  | node _ _ _ ll lr => if ll.hgt < lr.hgt then down (node b k v (up l) r) else down (node b k v l r)
  | nil => node b k v l r
 else if l.hgt - r.hgt < -1 then
  match r with
  | node _ _ _ rl rr => if rr.hgt < rl.hgt then up (node b k v l (down r)) else up (node b k v l r)
  | nil => node b k v l r
 else node b k v l r
theorem up_toL : ∀ T : Kn K V, (up T).toL = T.toL
 | nil => rfl
 | node _ _ _ _ nil => rfl
 | node _ _ _ _ (node ..) => by simp [up, toL]
theorem down_toL : ∀ T : Kn K V, (down T).toL = T.toL
 | nil => rfl
 | node _ _ _ nil _ => rfl
 | node _ _ _ (node ..) _ => by simp [down, toL]
theorem up_bs : ∀ T : Kn K V, (up T).bs.Perm T.bs
 | nil => .refl _
 | node _ _ _ _ nil => .refl _
 | node b k v l (node hb hk hv hl hr) => by
  rw [List.perm_iff_count]; intro a
  simp only [up, bs, List.count_cons, List.count_append]; omega
theorem down_bs : ∀ T : Kn K V, (down T).bs.Perm T.bs
 | nil => .refl _
 | node _ _ _ nil _ => .refl _
 | node b k v (node lb lk lv ll lr) r => by
  rw [List.perm_iff_count]; intro a
  simp only [down, bs, List.count_cons, List.count_append]; omega
theorem perm_left {b : Nat} {k : K} {v : V} {l l' r : Kn K V} (h : l'.bs.Perm l.bs) : (node b k v l' r).bs.Perm (node b k v l r).bs := (h.append_right _).cons _
theorem perm_right {b : Nat} {k : K} {v : V} {l r r' : Kn K V} (h : r'.bs.Perm r.bs) : (node b k v l r').bs.Perm (node b k v l r).bs := (h.append_left _).cons _
theorem even_bs (b : Nat) (k : K) (v : V) (l r : Kn K V) : (even b k v l r).bs.Perm (node b k v l r).bs := by
 unfold even
 split
 ·split
  ·split
   ·exact (down_bs _).trans (perm_left (up_bs _))
   ·exact down_bs _
  ·exact .refl _
 ·split
  ·split
   ·split
    ·exact (up_bs _).trans (perm_right (down_bs _))
    ·exact up_bs _
   ·exact .refl _
  ·exact .refl _
theorem even_toL (b : Nat) (k : K) (v : V) (l r : Kn K V) : (even b k v l r).toL = l.toL ++ (k, v) :: r.toL := by
 unfold even
 split
 ·split
  ·split
   ·rw [down_toL]; simp only [toL]; rw [up_toL]; simp [toL]
   ·rw [down_toL]; rfl
  ·rfl
 ·split
  ·split
   ·split
    ·rw [up_toL]; simp only [toL]; rw [down_toL]; simp [toL]
    ·rw [up_toL]; rfl
   ·rfl
  ·rfl
def cmpK (lt : K → K → Bool) (a b : K) : Int := if lt a b = true then -1 else if lt b a = true then 1 else 0
def put (lt : K → K → Bool) (nb : Nat) (key : K) (val : V) : Kn K V → Kn K V
 | nil => node nb key val nil nil
 | node b k v l r => if lt key k = true then even b k v (put lt nb key val l) r else if lt k key = true then even b k v l (put lt nb key val r) else node b k val l r
theorem put_bs (lt : K → K → Bool) (nb : Nat) (key : K) (val : V) : ∀ T : Kn K V, (put lt nb key val T).bs.Perm (nb :: T.bs) ∨ (put lt nb key val T).bs.Perm T.bs
 | nil => .inl (.refl _)
 | node b k v l r => by
  unfold put
  split
  ·rcases put_bs lt nb key val l with h | h
   ·exact .inl ((even_bs _ _ _ _ _).trans ((perm_left (l' := put lt nb key val l) (l := node nb key val l nil) (by simpa [bs] using h)).trans (by
     rw [List.perm_iff_count]; intro a; simp only [bs, List.count_cons, List.count_append, List.count_nil]; omega)))
   ·exact .inr ((even_bs _ _ _ _ _).trans (perm_left h))
  ·split
   ·rcases put_bs lt nb key val r with h | h
    ·exact .inl ((even_bs _ _ _ _ _).trans ((perm_right (r' := put lt nb key val r) (r := node nb key val r nil) (by simpa [bs] using h)).trans (by
      rw [List.perm_iff_count]; intro a; simp only [bs, List.count_cons, List.count_append, List.count_nil]; omega)))
    ·exact .inr ((even_bs _ _ _ _ _).trans (perm_right h))
   ·exact .inr (.refl _)
theorem cnt_bs (T : Kn K V) : T.cnt = T.bs.length := by rw [cnt_len, bs_len]
theorem put_mem {lt : K → K → Bool} {nb : Nat} {key : K} {val : V} {T : Kn K V} {x : Nat} (h : x ∈ (put lt nb key val T).bs) : x = nb ∨ x ∈ T.bs := by
 rcases put_bs lt nb key val T with p | p
 ·simpa using p.mem_iff.1 h
 ·exact .inr (p.mem_iff.1 h)
theorem put_nodup {lt : K → K → Bool} {nb : Nat} {key : K} {val : V} {T : Kn K V} (h : T.bs.Nodup) (hn : nb ∉ T.bs) : (put lt nb key val T).bs.Nodup := by
 rcases put_bs lt nb key val T with p | p
 ·exact p.nodup_iff.2 (List.nodup_cons.2 ⟨hn, h⟩)
 ·exact p.nodup_iff.2 h
theorem put_cnt (lt : K → K → Bool) (nb : Nat) (key : K) (val : V) (T : Kn K V) : (put lt nb key val T).cnt ≤ T.cnt + 1 := by
 rw [cnt_bs, cnt_bs]
 rcases put_bs lt nb key val T with p | p
 ·rw [p.length_eq, List.length_cons]; omega
 ·rw [p.length_eq]; omega
theorem put_left_nodup {lt : K → K → Bool} {nb b : Nat} {key k : K} {val v : V} {l r : Kn K V} (h : (node b k v l r).bs.Nodup) (hn : nb ∉ (node b k v l r).bs) : (node b k v (put lt nb key val l) r).bs.Nodup := by
 rcases put_bs lt nb key val l with p | p
 ·have q : (node b k v (put lt nb key val l) r).bs.Perm (nb :: (node b k v l r).bs) :=
   (perm_left (l' := put lt nb key val l) (l := node nb key val l nil) (by simpa [bs] using p)).trans (by
    rw [List.perm_iff_count]; intro a; simp only [bs, List.count_cons, List.count_append, List.count_nil]; omega)
  exact q.nodup_iff.2 (List.nodup_cons.2 ⟨hn, h⟩)
 ·exact (perm_left p).nodup_iff.2 h
theorem put_right_nodup {lt : K → K → Bool} {nb b : Nat} {key k : K} {val v : V} {l r : Kn K V} (h : (node b k v l r).bs.Nodup) (hn : nb ∉ (node b k v l r).bs) : (node b k v l (put lt nb key val r)).bs.Nodup := by
 rcases put_bs lt nb key val r with p | p
 ·have q : (node b k v l (put lt nb key val r)).bs.Perm (nb :: (node b k v l r).bs) :=
   (perm_right (r' := put lt nb key val r) (r := node nb key val r nil) (by simpa [bs] using p)).trans (by
    rw [List.perm_iff_count]; intro a; simp only [bs, List.count_cons, List.count_append, List.count_nil]; omega)
  exact q.nodup_iff.2 (List.nodup_cons.2 ⟨hn, h⟩)
 ·exact (perm_right p).nodup_iff.2 h
def find (lt : K → K → Bool) (key : K) : Kn K V → Kn K V
 | nil => nil
 | node b k v l r => if lt key k = true then find lt key l else if lt k key = true then find lt key r else node b k v l r
def least : Nat → K → V → Kn K V → Kn K V → Kn K V × (Nat × K × V × Kn K V)
 | b, k, v, nil, r => (r, (b, k, v, r))
 | b, k, v, node lb lk lv ll lr, r => let x := least lb lk lv ll lr; (even b k v x.1 r, x.2)
def drop (lt : K → K → Bool) (key : K) : Kn K V → Kn K V
 | nil => nil
 | node b k v l r =>
  if lt key k = true then even b k v (drop lt key l) r
  else if lt k key = true then even b k v l (drop lt key r)
  else match r with
   | nil => l
   | node rb rk rv rl rr => let x := least rb rk rv rl rr; even x.2.1 x.2.2.1 x.2.2.2.1 l x.1
theorem least_bs : ∀ (b : Nat) (k : K) (v : V) (l r : Kn K V), ((least b k v l r).2.1 :: (least b k v l r).1.bs).Perm (node b k v l r).bs
 | b, k, v, nil, r => by simp [least, bs]
 | b, k, v, node lb lk lv ll lr, r => by
  have h := least_bs lb lk lv ll lr
  have h2 := even_bs b k v (least lb lk lv ll lr).1 r
  rw [List.perm_iff_count] at h h2 ⊢
  intro a
  have := h a; have := h2 a
  simp only [least, bs, List.count_cons, List.count_append] at *
  omega
theorem least_out {b lb : Nat} {k lk : K} {v lv : V} {ll lr r : Kn K V} (h : (node b k v (node lb lk lv ll lr) r).bs.Nodup) :
  (node b k v (least lb lk lv ll lr).1 r).bs.Nodup ∧ (least lb lk lv ll lr).2.1 ∉ (node b k v (least lb lk lv ll lr).1 r).bs ∧ (∀ x ∈ (least lb lk lv ll lr).1.bs, x ∈ (node lb lk lv ll lr).bs) ∧ (least lb lk lv ll lr).2.1 ∈ (node lb lk lv ll lr).bs := by
 have p := least_bs lb lk lv ll lr
 have q : ((least lb lk lv ll lr).2.1 :: (node b k v (least lb lk lv ll lr).1 r).bs).Perm (node b k v (node lb lk lv ll lr) r).bs := by
  rw [List.perm_iff_count] at p ⊢
  intro a
  have := p a
  simp only [bs, List.count_cons, List.count_append] at *
  omega
 have n := q.nodup_iff.2 h
 rw [List.nodup_cons] at n
 exact ⟨n.2, n.1, fun x hx => p.mem_iff.1 (List.mem_cons_of_mem _ hx), p.mem_iff.1 (List.mem_cons_self)⟩
theorem least_cnt (b : Nat) (k : K) (v : V) (l r : Kn K V) : (least b k v l r).1.cnt + 1 = (node b k v l r).cnt := by
 rw [cnt_bs, cnt_bs, ← (least_bs b k v l r).length_eq, List.length_cons]; omega
theorem least_nodup {b : Nat} {k : K} {v : V} {l r : Kn K V} (h : (node b k v l r).bs.Nodup) : (least b k v l r).1.bs.Nodup ∧ (least b k v l r).2.1 ∉ (least b k v l r).1.bs := by
 have := (least_bs b k v l r).nodup_iff.2 h
 rw [List.nodup_cons] at this
 exact ⟨this.2, this.1⟩
theorem drop_count (lt : K → K → Bool) (key : K) : ∀ (T : Kn K V) (a : Nat), (drop lt key T).bs.count a ≤ T.bs.count a
 | nil, a => by simp [drop, bs]
 | node b k v l r, a => by
  unfold drop
  split
  ·have h2 := List.perm_iff_count.1 (even_bs b k v (drop lt key l) r) a
   have := drop_count lt key l a
   rw [h2]; simp only [bs, List.count_cons, List.count_append]; omega
  ·split
   ·have h2 := List.perm_iff_count.1 (even_bs b k v l (drop lt key r)) a
    have := drop_count lt key r a
    rw [h2]; simp only [bs, List.count_cons, List.count_append]; omega
   ·cases r with
    | nil => simp only [bs, List.count_cons, List.count_append]; omega
    | node rb rk rv rl rr =>
     have h := List.perm_iff_count.1 (least_bs rb rk rv rl rr) a
     have h2 := List.perm_iff_count.1 (even_bs (least rb rk rv rl rr).2.1 (least rb rk rv rl rr).2.2.1 (least rb rk rv rl rr).2.2.2.1 l (least rb rk rv rl rr).1) a
     simp only
     rw [h2]
     simp only [bs, List.count_cons, List.count_append] at *
     omega
theorem drop_mem {lt : K → K → Bool} {key : K} {T : Kn K V} {x : Nat} (h : x ∈ (drop lt key T).bs) : x ∈ T.bs := by
 have := drop_count lt key T x
 have := List.count_pos_iff.2 h
 exact List.count_pos_iff.1 (by omega)
theorem drop_nodup {lt : K → K → Bool} {key : K} {T : Kn K V} (h : T.bs.Nodup) : (drop lt key T).bs.Nodup :=
 List.nodup_iff_count.2 (fun a => Nat.le_trans (drop_count lt key T a) (List.nodup_iff_count.1 h a))
theorem even_cnt (b : Nat) (k : K) (v : V) (l r : Kn K V) : (even b k v l r).cnt = 1 + l.cnt + r.cnt := by
 rw [cnt_bs, (even_bs b k v l r).length_eq, ← cnt_bs]; rfl
theorem drop_cnt (lt : K → K → Bool) (key : K) : ∀ T : Kn K V, (drop lt key T).cnt ≤ T.cnt
 | nil => by simp [drop]
 | node b k v l r => by
  have h1 := drop_cnt lt key l
  have h2 := drop_cnt lt key r
  have := bounds l
  have := bounds r
  unfold drop
  split
  ·rw [even_cnt]; simp only [cnt]; omega
  ·split
   ·rw [even_cnt]; simp only [cnt]; omega
   ·cases r with
    | nil => simp only [cnt] at *; omega
    | node rb rk rv rl rr =>
     have := least_cnt rb rk rv rl rr
     simp only
     rw [even_cnt]
     simp only [cnt] at *
     omega
theorem drop_left_nodup {lt : K → K → Bool} {key k : K} {b : Nat} {v : V} {l r : Kn K V} (h : (node b k v l r).bs.Nodup) : (node b k v (drop lt key l) r).bs.Nodup := by
 rw [List.nodup_iff_count] at h ⊢
 intro a
 have := h a
 have := drop_count lt key l a
 simp only [bs, List.count_cons, List.count_append] at *
 omega
theorem drop_right_nodup {lt : K → K → Bool} {key k : K} {b : Nat} {v : V} {l r : Kn K V} (h : (node b k v l r).bs.Nodup) : (node b k v l (drop lt key r)).bs.Nodup := by
 rw [List.nodup_iff_count] at h ⊢
 intro a
 have := h a
 have := drop_count lt key r a
 simp only [bs, List.count_cons, List.count_append] at *
 omega
theorem join_nodup {b rb : Nat} {k rk : K} {v rv : V} {l rl rr : Kn K V} (h : (node b k v l (node rb rk rv rl rr)).bs.Nodup) (k' : K) (v' : V) : (node (least rb rk rv rl rr).2.1 k' v' l (least rb rk rv rl rr).1).bs.Nodup := by
 have p := least_bs rb rk rv rl rr
 rw [List.perm_iff_count] at p
 rw [List.nodup_iff_count] at h ⊢
 intro a
 have := h a
 have := p a
 simp only [bs, List.count_cons, List.count_append] at *
 omega
end Kn
end Go.Proofs.Ytebejadiaooooaa.Ord
end
section
namespace Go.Proofs.Ytebejadiaooooaa.OrdSs
open Go.RowKit Go.Proofs.YtebejadiaooooaaW.PrintWords Go.Proofs.YtebejadiaooooaaW.PrintLast Go.Proofs.YtebejadiaooooaaW.PrintMore Go.Proofs.Ytebejadiaooooaa.Own Go.Proofs.Ytebejadiaooooaa.Ord
def In (w : World) : Kn ByteArray ByteArray → Prop
 | .nil => True
 | .node b k v l r => w.heap[b]? = some (.cells #[.string k, .string v, .pointer l.adr, .pointer r.adr, .int .i64 (Kn.node b k v l r).hgt, .int .i64 (Kn.node b k v l r).cnt] 126 (0, 0)) ∧ In w l ∧ In w r
theorem in_fr {w w' : World} {B : List Nat} (h : Fr B w w') : ∀ {T : Kn ByteArray ByteArray}, In w T → (∀ x ∈ T.bs, x ∉ B) → In w' T
 | .nil, _, _ => trivial
 | .node b k v l r, hi, hn => ⟨h.blk hi.1 (hn b (by simp [Kn.bs])), in_fr h hi.2.1 (fun x hx => hn x (by simp [Kn.bs, hx])), in_fr h hi.2.2 (fun x hx => hn x (by simp [Kn.bs, hx]))⟩
theorem in_lt {w : World} : ∀ {T : Kn ByteArray ByteArray}, In w T → ∀ x ∈ T.bs, x < w.heap.size
 | .nil, _, x, hx => by simp [Kn.bs] at hx
 | .node b k v l r, hi, x, hx => by
  simp only [Kn.bs, List.mem_cons, List.mem_append] at hx
  rcases hx with rfl | hx | hx
  ·exact blk_lt hi.1
  ·exact in_lt hi.2.1 x hx
  ·exact in_lt hi.2.2 x hx
theorem in_typed {w : World} : ∀ {T : Kn ByteArray ByteArray}, In w T → ∀ x ∈ T.bs, ∃ cells, w.heap[x]? = some (.cells cells 126 (0, 0))
 | .nil, _, x, hx => by simp [Kn.bs] at hx
 | .node b k v l r, hi, x, hx => by
  simp only [Kn.bs, List.mem_cons, List.mem_append] at hx
  rcases hx with rfl | hx | hx
  ·exact ⟨_, hi.1⟩
  ·exact in_typed hi.2.1 x hx
  ·exact in_typed hi.2.2 x hx
theorem in_drewN {w : World} (n : Nat) : ∀ {T : Kn ByteArray ByteArray}, In w T → In (w.drewN n) T
 | .nil, _ => trivial
 | .node _ _ _ _ _, hi => ⟨hi.1, in_drewN n hi.2.1, in_drewN n hi.2.2⟩
attribute [local go_sem] max2_int max_two
set_option maxHeartbeats 2000000
set_option maxRecDepth 100000
theorem depth_any (T : Kn ByteArray ByteArray) (w : World) (h : In w T) : Calls Try.prog 138 #[.pointer T.adr] w fun e w' => e = .returned (.int .i64 T.hgt) ∧ w' = w := by
 cases T with
 | nil =>
  show Calls Try.prog 138 #[.pointer none] w _
  go_enter Try.func138, Try.ntmps138
  go_wp2
  go_ret
  exact ⟨rfl, rfl⟩
 | node b k v l r =>
  show Calls Try.prog 138 #[.pointer (some ⟨b, 0, none⟩)] w _
  have c : w.cell? ⟨b, 4, none⟩ = some (.int .i64 (Kn.node b k v l r).hgt) := blk_cell h.1 4
  go_enter Try.func138, Try.ntmps138
  go_wp2
  go_ret
  exact ⟨rfl, rfl⟩
theorem size_any (T : Kn ByteArray ByteArray) (w : World) (h : In w T) : Calls Try.prog 130 #[.pointer T.adr] w fun e w' => e = .returned (.int .i64 T.cnt) ∧ w' = w := by
 cases T with
 | nil =>
  show Calls Try.prog 130 #[.pointer none] w _
  go_enter Try.func130, Try.ntmps130
  go_wp2
  go_ret
  exact ⟨rfl, rfl⟩
 | node b k v l r =>
  show Calls Try.prog 130 #[.pointer (some ⟨b, 0, none⟩)] w _
  have c : w.cell? ⟨b, 5, none⟩ = some (.int .i64 (Kn.node b k v l r).cnt) := blk_cell h.1 5
  go_enter Try.func130, Try.ntmps130
  go_wp2
  go_ret
  exact ⟨rfl, rfl⟩
theorem fresh_any (b : Nat) (k : ByteArray) (v : ByteArray) (l r : Kn ByteArray ByteArray) (d s : Int) (w : World)
  (hb : w.heap[b]? = some (.cells #[.string k, .string v, .pointer l.adr, .pointer r.adr, .int .i64 d, .int .i64 s] 126 (0, 0))) (hl : In w l) (hr : In w r) (nl : b ∉ l.bs) (nr : b ∉ r.bs) (hc : l.cnt + r.cnt < 4611686018427387904) :
  Calls Try.prog 131 #[.pointer (some ⟨b, 0, none⟩)] w fun e w' => e = .returned (.pointer (some ⟨b, 0, none⟩)) ∧ In w' (.node b k v l r) ∧ Fr [b] w w' := by
 obtain ⟨m, hm⟩ : ∃ m, m = mx l.hgt r.hgt := ⟨_, rfl⟩
 have h1 := Kn.bounds l
 have h2 := Kn.bounds r
 have hm2 : 0 ≤ m ∧ m < 4611686018427387904 := by rw [hm]; unfold mx; split <;> omega
 have hw1 : IntKind.i64.wrap (1 + m) = 1 + m := IntWalk.i64_in _ (by omega)
 have hmH : Hid (m = mx l.hgt r.hgt) := hm
 clear hm
 have hw2 : IntKind.i64.wrap (1 + l.cnt) = 1 + l.cnt := IntWalk.i64_in _ (by omega)
 have hw3 : IntKind.i64.wrap (1 + l.cnt + r.cnt) = 1 + l.cnt + r.cnt := IntWalk.i64_in _ (by omega)
 go_enter Try.func131, Try.ntmps131
 go_wp2_with fail
 refine still_tail 13 (by kernel_rfl) (by kernel_rfl) (fun W hW => ?_)
 simp only [List.take_succ_cons, List.take_zero, List.drop_succ_cons, List.drop_zero]
 have hb1 : W.heap[b]? = some (.cells #[.string k, .string v, .pointer l.adr, .pointer r.adr, .int .i64 d, .int .i64 s] 126 (0, 0)) := by rw [hW]; exact hb
 have fr1 : Fr [b] w W := by rw [hW]; exact (Fr.refl _ _).drew
 clear hW hb
 have hl1 : In W l := in_fr fr1 hl (fun x hx => by simp; rintro rfl; exact nl hx)
 have hr1 : In W r := in_fr fr1 hr (fun x hx => by simp; rintro rfl; exact nr hx)
 have c2 : W.cell? ⟨b, 2, none⟩ = some (.pointer l.adr) := blk_cell hb1 2
 have c3 : W.cell? ⟨b, 3, none⟩ = some (.pointer r.adr) := blk_cell hb1 3
 have c4 : W.cell? ⟨b, 4, none⟩ = some (.int .i64 d) := blk_cell hb1 4
 have f4 := blk_frozen hb1 4
 iterate 5 still_step
 still_call (depth_any l _ hl1)
 iterate 4 still_step
 still_call (depth_any r _ hr1)
 iterate 2 still_step
 refine wpStill_nil ?_
 simp only [show (if l.hgt < r.hgt then r.hgt else l.hgt) = m from hmH.out.symm, hw1]
 go_wp2_with fail
 refine still_tail 13 (by kernel_rfl) (by kernel_rfl) (fun W2 hW2 => ?_)
 simp only [List.take_succ_cons, List.take_zero, List.drop_succ_cons, List.drop_zero]
 have hb2 : W2.heap[b]? = some (.cells #[.string k, .string v, .pointer l.adr, .pointer r.adr, .int .i64 (1 + m), .int .i64 s] 126 (0, 0)) := by rw [hW2]; exact blk_put hb1 4 _ rfl
 have fr2 : Fr [b] W W2 := by rw [hW2]; exact ((Fr.refl _ _).set (.inl (by simp)) _).drew
 clear hW2 hb1 c2 c3 c4 f4
 have hl2 : In W2 l := in_fr fr2 hl1 (fun x hx => by simp; rintro rfl; exact nl hx)
 have hr2 : In W2 r := in_fr fr2 hr1 (fun x hx => by simp; rintro rfl; exact nr hx)
 have c2 : W2.cell? ⟨b, 2, none⟩ = some (.pointer l.adr) := blk_cell hb2 2
 have c3 : W2.cell? ⟨b, 3, none⟩ = some (.pointer r.adr) := blk_cell hb2 3
 have c5 : W2.cell? ⟨b, 5, none⟩ = some (.int .i64 s) := blk_cell hb2 5
 have f5 := blk_frozen hb2 5
 iterate 5 still_step
 still_call (size_any l _ hl2)
 iterate 5 still_step
 still_call (size_any r _ hr2)
 still_step
 refine wpStill_nil ?_
 go_wp2_with fail
 go_ret
 have fr3 : Fr [b] W2 (W2.setCell ⟨b, 5, none⟩ (.int .i64 (1 + l.cnt + r.cnt))) := (Fr.refl _ _).set (.inl (by simp)) _
 refine ⟨rfl, ⟨?_, in_fr fr3 hl2 (fun x hx => by simp; rintro rfl; exact nl hx), in_fr fr3 hr2 (fun x hx => by simp; rintro rfl; exact nr hx)⟩, (fr1.trans fr2 (fun x hx => .inl hx)).trans fr3 (fun x hx => .inl hx)⟩
 simp only [Kn.hgt, Kn.cnt, ← hmH.out]
 exact blk_put hb2 5 _ rfl
end Go.Proofs.Ytebejadiaooooaa.OrdSs
end
section
namespace Go.Proofs.Ytebejadiaooooaa.OrdSs
open Go.RowKit Go.Proofs.YtebejadiaooooaaW.PrintWords Go.Proofs.YtebejadiaooooaaW.PrintLast Go.Proofs.YtebejadiaooooaaW.PrintMore Go.Proofs.Ytebejadiaooooaa.Own Go.Proofs.Ytebejadiaooooaa.Ord
def Top (w : World) (b : Nat) (k : ByteArray) (v : ByteArray) (l r : Option Addr) : Prop := ∃ d s : Int, w.heap[b]? = some (.cells #[.string k, .string v, .pointer l, .pointer r, .int .i64 d, .int .i64 s] 126 (0, 0))
theorem Top.fr {w w' : World} {B : List Nat} {b : Nat} {k : ByteArray} {v : ByteArray} {l r : Option Addr} (h : Top w b k v l r) (f : Fr B w w') (hn : b ∉ B) : Top w' b k v l r := by
  obtain ⟨d, s, h⟩ := h
  exact ⟨d, s, f.blk h hn⟩
theorem Top.low {w : World} {b : Nat} {k : ByteArray} {v : ByteArray} {l r : Option Addr} (h : Top w b k v l r) (l' : Option Addr) : Top (w.setCell ⟨b, 2, none⟩ (.pointer l')) b k v l' r := by
  obtain ⟨d, s, h⟩ := h
  exact ⟨d, s, blk_put h 2 _ rfl⟩
theorem Top.high {w : World} {b : Nat} {k : ByteArray} {v : ByteArray} {l r : Option Addr} (h : Top w b k v l r) (r' : Option Addr) : Top (w.setCell ⟨b, 3, none⟩ (.pointer r')) b k v l r' := by
  obtain ⟨d, s, h⟩ := h
  exact ⟨d, s, blk_put h 3 _ rfl⟩
theorem Top.of_in {w : World} {b : Nat} {k : ByteArray} {v : ByteArray} {l r : Kn ByteArray ByteArray} (h : In w (.node b k v l r)) : Top w b k v l.adr r.adr := ⟨_, _, h.1⟩
theorem Top.cells {w : World} {b : Nat} {k : ByteArray} {v : ByteArray} {l r : Option Addr} (h : Top w b k v l r) :
    w.cell? ⟨b, 0, none⟩ = some (.string k) ∧ w.cell? ⟨b, 1, none⟩ = some (.string v) ∧ w.cell? ⟨b, 2, none⟩ = some (.pointer l) ∧ w.cell? ⟨b, 3, none⟩ = some (.pointer r) ∧ w.frozen? ⟨b, 1, none⟩ = false ∧ w.frozen? ⟨b, 2, none⟩ = false ∧ w.frozen? ⟨b, 3, none⟩ = false := by
  obtain ⟨d, s, h⟩ := h
  exact ⟨blk_cell h 0, blk_cell h 1, blk_cell h 2, blk_cell h 3, blk_frozen h 1, blk_frozen h 2, blk_frozen h 3⟩
theorem fresh_top {b : Nat} {k : ByteArray} {v : ByteArray} {l r : Kn ByteArray ByteArray} {w : World} (hb : Top w b k v l.adr r.adr) (hl : In w l) (hr : In w r) (nl : b ∉ l.bs) (nr : b ∉ r.bs) (hc : l.cnt + r.cnt < 4611686018427387904) :
    Calls Try.prog 131 #[.pointer (some ⟨b, 0, none⟩)] w fun e w' => e = .returned (.pointer (some ⟨b, 0, none⟩)) ∧ In w' (.node b k v l r) ∧ Fr [b] w w' := by
  obtain ⟨d, s, hb⟩ := hb
  exact fresh_any b k v l r d s w hb hl hr nl nr hc
theorem set_in {w : World} {T : Kn ByteArray ByteArray} (h : In w T) {b : Nat} (hn : b ∉ T.bs) (i : Nat) (u : Value) : In (w.setCell ⟨b, i, none⟩ u) T :=
  in_fr (B := [b]) ((Fr.refl _ w).set (.inl (by simp)) u) h (fun x hx => by simp; rintro rfl; exact hn hx)
set_option maxHeartbeats 2000000
set_option maxRecDepth 100000
theorem up_any {b hb : Nat} {k hk : ByteArray} {v hv : ByteArray} {l hl hr : Kn ByteArray ByteArray} {w : World} (h1 : Top w b k v l.adr (some ⟨hb, 0, none⟩)) (h2 : Top w hb hk hv hl.adr hr.adr) (il : In w l) (ihl : In w hl) (ihr : In w hr)
    (hnd : (Kn.node b k v l (.node hb hk hv hl hr)).bs.Nodup) (hc : (Kn.node b k v l (.node hb hk hv hl hr)).cnt < 4611686018427387904) :
    Calls Try.prog 139 #[.pointer (some ⟨b, 0, none⟩)] w fun e w' => e = .returned (.pointer (some ⟨hb, 0, none⟩)) ∧ In w' (.node hb hk hv (.node b k v l hl) hr) ∧ Fr [b, hb] w w' := by
  simp only [Kn.bs, List.nodup_cons, List.nodup_append, List.mem_append, List.mem_cons, not_or] at hnd
  simp only [Kn.cnt] at hc
  obtain ⟨⟨nbl, nbh, nbhl, nbhr⟩, ndl, ⟨⟨nhhl, nhhr⟩, ndhl, ndhr, dj⟩, dl⟩ := hnd
  have nhl : hb ∉ l.bs := fun h => dl hb h hb (.inl rfl) rfl
  have := Kn.bounds l; have := Kn.bounds hl; have := Kn.bounds hr
  have b1 : l.cnt + hl.cnt < 4611686018427387904 := by omega
  have b2 : (Kn.node b k v l hl).cnt + hr.cnt < 4611686018427387904 := by simp only [Kn.cnt]; omega
  obtain ⟨c10, c11, c12, c13, f11, f12, f13⟩ := h1.cells
  obtain ⟨c20, c21, c22, c23, f21, f22, f23⟩ := h2.cells
  have W1 := fresh_top (h1.high hl.adr) (set_in il nbl 3 _) (set_in ihl nbhl 3 _) nbl nbhl b1
  have fr0 : Fr [b, hb] w (w.setCell ⟨b, 3, none⟩ (.pointer hl.adr)) := (Fr.refl _ _).set (.inl (by simp)) _
  have h2' : Top (w.setCell ⟨b, 3, none⟩ (.pointer hl.adr)) hb hk hv hl.adr hr.adr := h2.fr (B := [b]) ((Fr.refl _ _).set (.inl (by simp)) _) (by simp; exact fun e => nbh e.symm)
  have ihr' := set_in ihr nbhr 3 (.pointer hl.adr)
  clear h1 h2 il ihl ihr
  go_enter Try.func139, Try.ntmps139
  go_wp2_with (first
    | (go_at_call_of 131 (some (⟨b, 0, none⟩ : Addr))
       refine W1.mono ?_
       clear W1
       rintro e w1 ⟨rfl, hi, fr⟩
       have h3 := h2'.fr fr (by simp; exact fun e => nbh e.symm)
       have ihr1 := in_fr fr ihr' (fun x hx => by simp; rintro rfl; exact nbhr hx)
       obtain ⟨c30, c31, c32, c33, f31, f32, f33⟩ := h3.cells
       have nn : hb ∉ (Kn.node b k v l hl).bs := by simp only [Kn.bs, List.mem_cons, List.mem_append, not_or]; exact ⟨fun e => nbh e.symm, nhl, nhhl⟩
       have W2 := fresh_top (h3.low (some ⟨b, 0, none⟩)) (l := Kn.node b k v l hl) (set_in hi nn 2 _) (set_in ihr1 nhhr 2 _) nn nhhr b2
       have fr1 : Fr [b, hb] w (w1.setCell ⟨hb, 2, none⟩ (.pointer (some ⟨b, 0, none⟩))) := (fr0.trans fr (fun x hx => .inl (by simp at hx; simp [hx]))).set (.inl (by simp)) _
       clear h3 ihr1 hi)
    | (go_at_call_of 131 (some (⟨hb, 0, none⟩ : Addr))
       refine W2.mono ?_
       clear W2
       rintro e w2 ⟨rfl, hi2, fr2⟩))
  go_ret
  exact ⟨rfl, hi2, fr1.trans fr2 (fun x hx => .inl (by simp at hx; simp [hx]))⟩
theorem down_any {b lb : Nat} {k lk : ByteArray} {v lv : ByteArray} {r ll lr : Kn ByteArray ByteArray} {w : World} (h1 : Top w b k v (some ⟨lb, 0, none⟩) r.adr) (h2 : Top w lb lk lv ll.adr lr.adr) (ir : In w r) (ill : In w ll) (ilr : In w lr)
    (hnd : (Kn.node b k v (.node lb lk lv ll lr) r).bs.Nodup) (hc : (Kn.node b k v (.node lb lk lv ll lr) r).cnt < 4611686018427387904) :
    Calls Try.prog 140 #[.pointer (some ⟨b, 0, none⟩)] w fun e w' => e = .returned (.pointer (some ⟨lb, 0, none⟩)) ∧ In w' (.node lb lk lv ll (.node b k v lr r)) ∧ Fr [b, lb] w w' := by
  simp only [Kn.bs, List.nodup_cons, List.nodup_append, List.mem_append, List.mem_cons, not_or] at hnd
  simp only [Kn.cnt] at hc
  obtain ⟨⟨⟨nbh, nbll, nblr⟩, nbr⟩, ⟨⟨nlll, nllr⟩, ndll, ndlr, dj⟩, ndr, dl⟩ := hnd
  have nlr : lb ∉ r.bs := fun h => dl lb (.inl rfl) lb h rfl
  have := Kn.bounds r; have := Kn.bounds ll; have := Kn.bounds lr
  have b1 : lr.cnt + r.cnt < 4611686018427387904 := by omega
  have b2 : ll.cnt + (Kn.node b k v lr r).cnt < 4611686018427387904 := by simp only [Kn.cnt]; omega
  obtain ⟨c10, c11, c12, c13, f11, f12, f13⟩ := h1.cells
  obtain ⟨c20, c21, c22, c23, f21, f22, f23⟩ := h2.cells
  have W1 := fresh_top (h1.low lr.adr) (set_in ilr nblr 2 _) (set_in ir nbr 2 _) nblr nbr b1
  have fr0 : Fr [b, lb] w (w.setCell ⟨b, 2, none⟩ (.pointer lr.adr)) := (Fr.refl _ _).set (.inl (by simp)) _
  have h2' : Top (w.setCell ⟨b, 2, none⟩ (.pointer lr.adr)) lb lk lv ll.adr lr.adr := h2.fr (B := [b]) ((Fr.refl _ _).set (.inl (by simp)) _) (by simp; exact fun e => nbh e.symm)
  have ill' := set_in ill nbll 2 (.pointer lr.adr)
  clear h1 h2 ill ilr ir
  go_enter Try.func140, Try.ntmps140
  go_wp2_with (first
    | (go_at_call_of 131 (some (⟨b, 0, none⟩ : Addr))
       refine W1.mono ?_
       clear W1
       rintro e w1 ⟨rfl, hi, fr⟩
       have h3 := h2'.fr fr (by simp; exact fun e => nbh e.symm)
       have ill1 := in_fr fr ill' (fun x hx => by simp; rintro rfl; exact nbll hx)
       obtain ⟨c30, c31, c32, c33, f31, f32, f33⟩ := h3.cells
       have nn : lb ∉ (Kn.node b k v lr r).bs := by simp only [Kn.bs, List.mem_cons, List.mem_append, not_or]; exact ⟨fun e => nbh e.symm, nllr, nlr⟩
       have W2 := fresh_top (h3.high (some ⟨b, 0, none⟩)) (r := Kn.node b k v lr r) (set_in ill1 nlll 3 _) (set_in hi nn 3 _) nlll nn b2
       have fr1 : Fr [b, lb] w (w1.setCell ⟨lb, 3, none⟩ (.pointer (some ⟨b, 0, none⟩))) := (fr0.trans fr (fun x hx => .inl (by simp at hx; simp [hx]))).set (.inl (by simp)) _
       clear h3 ill1 hi)
    | (go_at_call_of 131 (some (⟨lb, 0, none⟩ : Addr))
       refine W2.mono ?_
       clear W2
       rintro e w2 ⟨rfl, hi2, fr2⟩))
  go_ret
  exact ⟨rfl, hi2, fr1.trans fr2 (fun x hx => .inl (by simp at hx; simp [hx]))⟩
end Go.Proofs.Ytebejadiaooooaa.OrdSs
end
