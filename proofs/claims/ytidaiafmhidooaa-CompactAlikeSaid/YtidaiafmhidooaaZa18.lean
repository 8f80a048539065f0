/- Texts of one claim (laid by shake.py). -/
import Derived.Test.YtidaiafmhidooaaZa11
import Derived.Test.YtidaiafmhidooaaZa17
import Derived.Test.YtidaiafmhidooaaZa15
import Derived.Test.YtidaiafmhidooaaZa10
import Derived.Test.YtidaiafmhidooaaZa14
import Derived.Test.YtidaiafmhidooaaZa8
import Derived.Test.YtidaiafmhidooaaZa6
set_option linter.unusedVariables false
set_option linter.unusedSimpArgs false
section
namespace Go.Proofs.Ytidaiafmhidooaa.P
open Go.RowKit Go.Proofs.YtidaiafmhidooaaW.PrintWords Go.Proofs.YtidaiafmhidooaaW.PrintLast Go.Proofs.YtidaiafmhidooaaW.PrintMore Go.Proofs.Ytidaiafmhidooaa.Own Go.Proofs.Ytidaiafmhidooaa
abbrev Ms := S33
abbrev En := S55
theorem drop_any {α : Type} {L l : List α} {i : Nat} {x : α} (hd : L.drop i = x :: l) : i < L.length ∧ L[i]? = some x ∧ L.drop (i + 1) = l ∧ L.take (i + 1) = L.take i ++ [x] ∧ x ∈ L := by
 have hlt : i < L.length := by
  rcases Nat.lt_or_ge i L.length with h | h
  ·exact h
  ·rw [List.drop_eq_nil_of_le h] at hd; cases hd
 have hx : L[i]? = some x := by
  have := congrArg (fun z => z[0]?) hd
  simpa using this
 refine ⟨hlt, hx, ?_, ?_, List.mem_of_getElem? hx⟩
 ·have := congrArg (List.drop 1) hd
  simpa [List.drop_drop] using this
 ·rw [List.take_add_one, hx]; rfl
theorem drop_none {α : Type} {L : List α} {i : Nat} (hd : L.drop i = []) (hi : i ≤ L.length) : i = L.length := by
 have := congrArg List.length hd
 simp at this
 omega
theorem rdS_at {L : List ByteArray} {i : Nat} {x : ByteArray} (h : L[i]? = some x) : rdOf ByteArray.empty L (i : Int) = x := by
 show L.getD ((i : Int).toNat) _ = x
 rw [Int.toNat_natCast, List.getD_eq_getElem?_getD, h]; rfl
theorem rdM_at {L : List Ms} {i : Nat} {x : Ms} (h : L[i]? = some x) : rd_T33 L (i : Int) = x := by
 show L.getD ((i : Int).toNat) _ = x
 rw [Int.toNat_natCast, List.getD_eq_getElem?_getD, h]; rfl
theorem wrap1 {i : Nat} (h : i ≤ 1000000) : wrap64 ((i : Int) + 1) = ((i + 1 : Nat) : Int) := by rw [IntWalk.wrap64_in _ (by omega)]; omega
def onM (m : Ms) (s : ByteArray) (p : ByteArray × Bool) : ByteArray × Bool := onV m.f0 m.f2 m.f3 m.f4 m.f5 s p.1 p.2
def doAll (s : ByteArray) : List Ms → ByteArray × Bool → ByteArray × Bool
 | [], p => p
 | m :: l, p => doAll s l (onM m s p)
def valueV (l : List Ms) (s v : ByteArray) (is : Bool) : ByteArray × Bool := doAll s l (norm v is, is)
def okD (m : Ms) : Prop := 0 ≤ m.f5 ∧ m.f5 < 18446744073709551616
theorem Value_loop (L : List Ms) (s : ByteArray) (hL : L.length ≤ 1000000) (hD : ∀ m ∈ L, okD m) : ∀ (l : List Ms) (k i : Nat) (v : ByteArray) (is : Bool), L.drop i = l → i ≤ L.length → l.length + 11 < k → catchmentref05_Value.l0 k L s v is i = some (doAll s l (v, is)) := by
 intro l
 induction l with
 | nil =>
  intro k i v is hd hi hk
  obtain ⟨k, rfl⟩ : ∃ m, k = m + 1 := ⟨k - 1, by omega⟩
  obtain rfl := drop_none hd hi
  rw [catchmentref05_Value.l0, if_neg (by omega)]
  rfl
 | cons x l ih =>
  intro k i v is hd hi hk
  simp only [List.length_cons] at hk
  obtain ⟨k, rfl⟩ : ∃ m, k = m + 11 := ⟨k - 11, by omega⟩
  obtain ⟨hlt, hx, hd2, _, hm⟩ := drop_any hd
  have hd0 := hD x hm
  rw [catchmentref05_Value.l0, if_pos (by omega), if_pos (by omega), rdM_at hx, wrap1 (by omega), ref04_On_eq k _ _ _ _ _ _ _ _ _ hd0.1 hd0.2]
  simp only [Option.bind_some]
  exact ih (k + 10) (i + 1) _ _ hd2 (by omega) (by omega)
theorem Value_eq (k : Nat) (l : List Ms) (s v : ByteArray) (is : Bool) (hl : l.length ≤ 1000000) (hD : ∀ m ∈ l, okD m) (hk : l.length + 12 < k) : catchmentref05_Value.f k l s v is = some (valueV l s v is) := by
 obtain ⟨k, rfl⟩ : ∃ m, k = m + 1 := ⟨k - 1, by omega⟩
 unfold catchmentref05_Value.f catchmentref05_Value.j0 valueV norm
 cases is
 ·simp only [Bool.false_eq_true, if_false]
  exact Value_loop l s hl hD l k 0 _ _ rfl (by omega) (by omega)
 ·simp only [if_true]
  exact Value_loop l s hl hD l k 0 _ _ rfl (by omega) (by omega)
end Go.Proofs.Ytidaiafmhidooaa.P
end
section
namespace Go.Proofs.Ytidaiafmhidooaa.P
open Go.RowKit Go.Proofs.YtidaiafmhidooaaW.PrintWords Go.Proofs.YtidaiafmhidooaaW.PrintLast Go.Proofs.YtidaiafmhidooaaW.PrintMore Go.Proofs.Ytidaiafmhidooaa.Own Go.Proofs.Ytidaiafmhidooaa
def joinM (a b : Ms) : Ms :=
 if b.f0 = 3 then
  if a.f0 = 3 then ⟨b.f0, b.f1, b.f2, b.f3, b.f4, IntKind.u64.wrap (b.f5 + a.f5)⟩
  else ⟨1, b.f1, b.f2, e0, (applyV b.f0 b.f4 b.f5 (applyV a.f0 a.f4 a.f5 e0 false).1 (applyV a.f0 a.f4 a.f5 e0 false).2).1, 0⟩
 else b
theorem Join_eq (n : Nat) (a b : Ms) (ha : isPt a.f0 = true) (hb : isPt b.f0 = true) (hk : a.f2 = b.f2) : msg_Join.f (n + 10) a.f0 a.f1 a.f2 a.f3 a.f4 a.f5 b.f0 b.f1 b.f2 b.f3 b.f4 b.f5 = some ((joinM a b).f0, (joinM a b).f1, (joinM a b).f2, (joinM a b).f3, (joinM a b).f4, (joinM a b).f5, true) := by
 unfold msg_Join.f
 rw [IsPoint_eq, IsPoint_eq, ha, hb, hk]
 simp only [Option.bind_some, if_true, bne_self_eq_false, msg_Join.j0, Bool.false_eq_true, if_false]
 unfold joinM
 by_cases h3 : b.f0 = 3
 ·rw [if_pos h3, if_pos h3]
  by_cases h4 : a.f0 = 3
  ·rw [if_pos h4, if_pos h4]
  ·rw [if_neg h4, if_neg h4, Apply_eq, Option.bind_some, Apply_eq, Option.bind_some]
 ·rw [if_neg h3, if_neg h3]
theorem joinM_key (a b : Ms) : (joinM a b).f2 = b.f2 := by
 unfold joinM
 (repeat' split) <;> rfl
theorem joinM_pt {a b : Ms} (hb : isPt b.f0 = true) : isPt (joinM a b).f0 = true := by
 unfold joinM
 (repeat' split)
 ·exact hb
 ·rfl
 ·exact hb
def touchesM (m : Ms) (s : ByteArray) : Bool := touches m.f0 m.f2 m.f3 s
def lastN (l : List Ms) (s : ByteArray) : Nat → Int
 | 0 => -1
 | n + 1 => match l[n]? with
  | some m => if touchesM m s = true then (n : Int) else lastN l s n
  | none => lastN l s n
def lastI (l : List Ms) (s : ByteArray) : Int := lastN l s l.length
def okS (m : Ms) : Prop := m.f2.size ≤ 140737488351232
theorem last_loop (l : List Ms) (s : ByteArray) (hl : l.length ≤ 1000000) (hs : ∀ m ∈ l, okS m) : ∀ (n k : Nat), n ≤ l.length → n < k → compact_last.l0 k l s ((n : Int) - 1) = some (lastN l s n) := by
 intro n
 induction n with
 | zero =>
  intro k _ hk
  obtain ⟨k, rfl⟩ : ∃ m, k = m + 1 := ⟨k - 1, by omega⟩
  rw [compact_last.l0, if_neg (by omega)]
  rfl
 | succ n ih =>
  intro k hn hk
  obtain ⟨k, rfl⟩ : ∃ m, k = m + 1 := ⟨k - 1, by omega⟩
  have e : ((n + 1 : Nat) : Int) - 1 = (n : Int) := by omega
  have hx : l[n]? = some l[n] := List.getElem?_eq_getElem (by omega)
  rw [compact_last.l0, e, if_pos (by omega), if_pos (by omega), if_pos (by omega), rdM_at hx, Touches_eq _ _ _ _ _ _ _ (hs _ (List.getElem_mem _)), Option.bind_some, IntWalk.wrap64_in _ (by omega), ih k (by omega) (by omega)]
  have e2 : lastN l s (n + 1) = if touchesM l[n] s = true then (n : Int) else lastN l s n := by rw [lastN, hx]
  rw [e2]
  unfold touchesM
  split <;> rfl
theorem last_eq (k : Nat) (l : List Ms) (s : ByteArray) (hl : l.length ≤ 1000000) (hs : ∀ m ∈ l, okS m) (hk : l.length < k) : compact_last.f k l s = some (lastI l s) := by
 unfold compact_last.f lastI
 rw [IntWalk.wrap64_in _ (by omega)]
 exact last_loop l s hl hs l.length k (Nat.le_refl _) hk
theorem lastN_spec (l : List Ms) (s : ByteArray) : ∀ n, n ≤ l.length → (lastN l s n = -1 ∧ ∀ j m, j < n → l[j]? = some m → touchesM m s = false) ∨ ∃ i m, i < n ∧ lastN l s n = (i : Int) ∧ l[i]? = some m ∧ touchesM m s = true ∧ ∀ j x, i < j → j < n → l[j]? = some x → touchesM x s = false
 | 0, _ => .inl ⟨rfl, fun j m h => by omega⟩
 | n + 1, hn => by
  have hx : l[n]? = some l[n] := List.getElem?_eq_getElem (by omega)
  unfold lastN
  rw [hx]
  simp only
  by_cases ht : touchesM l[n] s = true
  ·rw [if_pos ht]
   exact .inr ⟨n, l[n], by omega, rfl, hx, ht, fun j x h1 h2 => by omega⟩
  ·rw [if_neg ht]
   have htf : touchesM l[n] s = false := by simpa using ht
   rcases lastN_spec l s n (by omega) with ⟨h1, h2⟩ | ⟨i, m, h1, h2, h3, h4, h5⟩
   ·refine .inl ⟨h1, fun j m hj hm => ?_⟩
    rcases Nat.lt_or_ge j n with hj' | hj'
    ·exact h2 j m hj' hm
    ·obtain rfl : j = n := by omega
     rw [hx] at hm
     rw [← Option.some.inj hm]; exact htf
   ·refine .inr ⟨i, m, by omega, h2, h3, h4, fun j x hj hj2 hx2 => ?_⟩
    rcases Nat.lt_or_ge j n with hj' | hj'
    ·exact h5 j x hj hj' hx2
    ·obtain rfl : j = n := by omega
     rw [hx] at hx2
     rw [← Option.some.inj hx2]; exact htf
theorem lastI_spec (l : List Ms) (s : ByteArray) : (lastI l s = -1 ∧ ∀ (j : Nat) (m : Ms), l[j]? = some m → touchesM m s = false) ∨ ∃ (i : Nat) (m : Ms), i < l.length ∧ lastI l s = (i : Int) ∧ l[i]? = some m ∧ touchesM m s = true ∧ ∀ (j : Nat) (x : Ms), i < j → l[j]? = some x → touchesM x s = false := by
 rcases lastN_spec l s l.length (Nat.le_refl _) with ⟨h1, h2⟩ | ⟨i, m, h1, h2, h3, h4, h5⟩
 ·exact .inl ⟨h1, fun j m h => h2 j m (List.getElem?_eq_some_iff.1 h).1 h⟩
 ·exact .inr ⟨i, m, h1, h2, h3, h4, fun j x hj hx => h5 j x hj (List.getElem?_eq_some_iff.1 hx).1 hx⟩
def pointF : Nat → List Ms → Ms → List Ms
 | 0, l, m => l ++ [m]
 | n + 1, l, m =>
  if lastI l m.f2 < 0 then l ++ [m]
  else match l[(lastI l m.f2).toNat]? with
   | none => l ++ [m]
   | some x =>
    if isPt x.f0 = true then pointF n (l.eraseIdx (lastI l m.f2).toNat) (joinM x m)
    else if m.f0 = 2 then l
    else if m.f0 = 3 then l ++ [⟨1, m.f1, m.f2, e0, strOfNums (Wp.eight m.f5), 0⟩]
    else l ++ [m]
def pointV (l : List Ms) (m : Ms) : List Ms := pointF (l.length + 1) l m
def gone (f t : ByteArray) (x : Ms) : Bool := (isPt x.f0 && holds f t x.f2) || (decide (x.f0 = 4) && within x.f2 x.f3 f t)
def stepV (out : List Ms) (m : Ms) : List Ms :=
 if isPt m.f0 = true then pointV out m
 else if (decide (m.f0 = 4) && rr m.f2 m.f3) = true then out.filter (fun x => !gone m.f2 m.f3 x) ++ [m]
 else out
def listV (l : List Ms) : List Ms := l.foldl stepV []
theorem pointF_length : ∀ (n : Nat) (l : List Ms) (m : Ms), (pointF n l m).length ≤ l.length + 1
 | 0, l, m => by simp [pointF]
 | n + 1, l, m => by
  unfold pointF
  split
  ·simp
  ·split
   ·simp
   ·split
    ·refine Nat.le_trans (pointF_length n _ _) ?_
     have := List.length_eraseIdx_le l (lastI l m.f2).toNat
     omega
    ·(repeat' split) <;> simp
theorem stepV_length (out : List Ms) (m : Ms) : (stepV out m).length ≤ out.length + 1 := by
 unfold stepV
 split
 ·exact pointF_length _ _ _
 ·split
  ·have := List.length_filter_le (fun x => !gone m.f2 m.f3 x) out
   simp only [List.length_append, List.length_singleton]
   omega
  ·omega
theorem pointF_okS : ∀ (n : Nat) (l : List Ms) (m : Ms), (∀ x ∈ l, okS x) → okS m → ∀ x ∈ pointF n l m, okS x
 | 0, l, m, hl, hm, x, hx => by
  simp only [pointF, List.mem_append, List.mem_singleton] at hx
  rcases hx with hx | rfl
  ·exact hl x hx
  ·exact hm
 | n + 1, l, m, hl, hm, x, hx => by
  have app : ∀ y : Ms, y.f2 = m.f2 → x ∈ l ++ [y] → okS x := fun y hy h => by
   simp only [List.mem_append, List.mem_singleton] at h
   rcases h with h | rfl
   ·exact hl x h
   ·unfold okS; rw [hy]; exact hm
  unfold pointF at hx
  split at hx
  ·exact app m rfl hx
  ·split at hx
   ·exact app m rfl hx
   ·split at hx
    ·refine pointF_okS n _ _ (fun y hy => hl y (List.mem_of_mem_eraseIdx hy)) ?_ x hx
     unfold okS; rw [joinM_key]; exact hm
    ·split at hx
     ·exact hl x hx
     ·split at hx
      ·exact app ⟨1, m.f1, m.f2, e0, strOfNums (Wp.eight m.f5), 0⟩ rfl hx
      ·exact app m rfl hx
theorem stepV_okS (out : List Ms) (m : Ms) (hl : ∀ x ∈ out, okS x) (hm : okS m) : ∀ x ∈ stepV out m, okS x := by
 intro x hx
 unfold stepV at hx
 split at hx
 ·exact pointF_okS _ _ _ hl hm x hx
 ·split at hx
  ·simp only [List.mem_append, List.mem_singleton] at hx
   rcases hx with hx | rfl
   ·exact hl x (List.mem_filter.1 hx).1
   ·exact hm
  ·exact hl x hx
end Go.Proofs.Ytidaiafmhidooaa.P
end
section
namespace Go.Proofs.Ytidaiafmhidooaa.Cp
open Go.RowKit Go.Shelf Go.Proofs.YtidaiafmhidooaaW.PrintWords Go.Proofs.YtidaiafmhidooaaW.PrintLast Go.Proofs.YtidaiafmhidooaaW.PrintMore Go.Proofs.Ytidaiafmhidooaa.Own Go.Proofs.Ytidaiafmhidooaa
set_option maxHeartbeats 4000000
set_option maxRecDepth 100000
abbrev aggM (m : Ms) : Value := .agg #[.int .u8 m.f0, .int .i64 m.f1, .string m.f2, .string m.f3, .string m.f4, .int .u64 m.f5]
abbrev objM (m : Ms) : Obj := .cells #[.int .u8 m.f0, .int .i64 m.f1, .string m.f2, .string m.f3, .string m.f4, .int .u64 m.f5] 33 (0, 0)
abbrev objR (f t : ByteArray) : Obj := .cells #[.string f, .string t] 38 (0, 0)
theorem isPt_any (m : Ms) (W : World) : Calls Try.prog 47 #[aggM m] W fun e w' => e = .returned (.bool (P.isPt m.f0)) ∧ Below W.heap.size W w' :=
 P.msg_IsPoint.calls _ _ _ _ _ _ _ W (P.IsPoint_eq _ _ _ _ _ _)
theorem holds_any (f t s : ByteArray) (W : World) : Calls Try.prog 52 #[.agg #[.string f, .string t], .string s] W fun e w' => e = .returned (.bool (P.holds f t s)) ∧ Below W.heap.size W w' :=
 P.key_Holds.calls _ _ _ _ W (P.Holds_eq _ _ _)
theorem span_any (m : Ms) (hm : P.okS m) (W : World) : Calls Try.prog 46 #[aggM m] W fun e w' => e = .returned (.agg #[.string (P.span m.f0 m.f2 m.f3).1, .string (P.span m.f0 m.f2 m.f3).2]) ∧ Below W.heap.size W w' :=
 P.msg_Span.calls _ _ _ _ _ _ _ _ W (P.Span_eq _ _ _ _ _ _ hm)
theorem within_any (f t g u : ByteArray) (W : World) : Calls Try.prog 53 #[.agg #[.string f, .string t], .agg #[.string g, .string u]] W fun e w' => e = .returned (.bool (P.within f t g u)) ∧ Below W.heap.size W w' :=
 P.key_Within.calls (0 + 9) _ _ _ _ _ W (P.Within_eq 0 _ _ _ _)
structure Bx (W0 : World) (D : Nat) (x : Ms) (B : Nat) (f t : ByteArray) (w : World) : Prop where
 d : w.heap[D]? = some (objM x)
 b : w.heap[B]? = some (objR f t)
 w : Below W0.heap.size W0 w
theorem Bx.below {W0 w w' : World} {D B : Nat} {x : Ms} {f t : ByteArray} (h : Bx W0 D x B f t w) (hb : Below w.heap.size w w') : Bx W0 D x B f t w' := ⟨blk_below h.d hb, blk_below h.b hb, below_step h.w hb⟩
theorem Bx.cells {W0 w : World} {D B : Nat} {x : Ms} {f t : ByteArray} (h : Bx W0 D x B f t w) : w.cell? ⟨D, 0, none⟩ = some (.int .u8 x.f0) ∧ w.cell? ⟨D, 1, none⟩ = some (.int .i64 x.f1) ∧ w.cell? ⟨D, 2, none⟩ = some (.string x.f2) ∧ w.cell? ⟨D, 3, none⟩ = some (.string x.f3) ∧ w.cell? ⟨D, 4, none⟩ = some (.string x.f4) ∧ w.cell? ⟨D, 5, none⟩ = some (.int .u64 x.f5) ∧ w.cell? ⟨B, 0, none⟩ = some (.string f) ∧ w.cell? ⟨B, 1, none⟩ = some (.string t) :=
 ⟨blk_cell h.d 0, blk_cell h.d 1, blk_cell h.d 2, blk_cell h.d 3, blk_cell h.d 4, blk_cell h.d 5, blk_cell h.b 0, blk_cell h.b 1⟩
end Go.Proofs.Ytidaiafmhidooaa.Cp
end
section
namespace Go.Proofs.Ytidaiafmhidooaa.Cp
open Go.RowKit Go.Shelf Go.Proofs.YtidaiafmhidooaaW.PrintWords Go.Proofs.YtidaiafmhidooaaW.PrintLast Go.Proofs.YtidaiafmhidooaaW.PrintMore Go.Proofs.Ytidaiafmhidooaa.Own Go.Proofs.Ytidaiafmhidooaa
open List renaming setIfInBounds_toArray → sA1, set_cons_zero → sA2, set_cons_succ → sA3, getElem_toArray → sA4, getElem_cons_zero → sA5, getElem_cons_succ → sA6
set_option maxHeartbeats 4000000
set_option maxRecDepth 100000
theorem goneT : rtab .any (opsOf Try.f51 1) = rtab .any (opsOf Try.f51 1) := rfl
theorem gone_A {W : World} {B : Nat} {f t : ByteArray} (hB : W.heap[B]? = some (objR f t)) (x : Ms) (hx : P.okS x) (hp : P.isPt x.f0 = true) (hh : P.holds f t x.f2 = true) :
  Calls Try.prog 51 #[aggM x, .pointer (some ⟨B, 0, none⟩)] W fun e w' => e = .returned (.bool true) ∧ Below W.heap.size W w' := by
 have P1 := isPt_any x
 rw [hp] at P1
 have P2 := holds_any f t x.f2
 rw [hh] at P2
 clear hp hh
 have hum := Try.underlying33
 have hur := Try.underlying38
 have hD : Bx W W.heap.size x B f t (W.alloc (objM x)).drew := ⟨blk_new W _, blk_alloc hB _, below_drew (below_alloc (Below.refl _ _) _)⟩
 clear hB
 go_enter Try.func51, Try.ntmps51
 go_wp2
 refine start_ (n := 20) (S := fun w' => w'.cell? ⟨W.heap.size, 0, none⟩ = some (.int .u8 x.f0) ∧ w'.cell? ⟨W.heap.size, 1, none⟩ = some (.int .i64 x.f1) ∧ w'.cell? ⟨W.heap.size, 2, none⟩ = some (.string x.f2) ∧ w'.cell? ⟨W.heap.size, 3, none⟩ = some (.string x.f3) ∧ w'.cell? ⟨W.heap.size, 4, none⟩ = some (.string x.f4) ∧ w'.cell? ⟨W.heap.size, 5, none⟩ = some (.int .u64 x.f5) ∧ w'.cell? ⟨B, 0, none⟩ = some (.string f) ∧ w'.cell? ⟨B, 1, none⟩ = some (.string t)) (ds := []) #[false, false, false, false, false, false, false, false, false, false, false, false, false, false, false, false, false, false, false, false] (by kernel_rfl) rfl rfl hD.cells (fun hHeld => ?_)
 have HT_ := Aside0.mk goneT
 generalize (W.alloc (objM x)).drew = w0 at hD hHeld ⊢
 refine take_ (i := 0) (N := some 4) (v := ?_) (a' := ?_) #[true, false, false, false, false, false, false, false, false, false, false, false, false, false, false, false, false, false, false, false] rfl rfl (take_of HT_.out (by kernel_rfl)) (fun _ _ _ h => h) (Or.inl ⟨by rfl, ?_⟩) hHeld ?_ ?_
 rotate_left
 ·rintro w' ⟨s0, s1, s2, s3, s4, s5, s6, s7⟩
  go_simp
  with_reducible rfl
 rotate_left
 ·simp only [Act.put, sA1, sA2, sA3, i64_w, i32_w]
  rfl
 refine one_ (i := 1) (N := some 5) #[true, true, false, false, false, false, false, false, false, false, false, false, false, false, false, false, false, false, false, false] rfl rfl (one_of HT_.out (by kernel_rfl)) (by decide) (fun K hK => ?_)
 refine goes_ Try.func47 (by kernel_rfl) rfl #[aggM x] (by rfl) rfl rfl (by (try simp only [List.map_toArray, List.map_cons, List.map_nil]); first | done | rfl) ?_
 refine (P1 _).mono ?_
 rintro e w1 ⟨rfl, hb1⟩
 refine ⟨_, rfl, ?_⟩
 have hD1 := hD.below hb1
 refine hK.out _ _ hD1.cells (fun hHeld => ?_)
 clear hK K
 refine norm_ (a' := ?_) ?_ ?_
 rotate_left
 ·show Act.put _ (some 5) _ = _
  simp only [Act.put, sA1, sA2, sA3, i64_w, i32_w]
  rfl
 refine pure_ (i := 2) (N := some 6) (v := ?_) (a' := ?_) #[true, true, true, false, false, false, false, false, false, false, false, false, false, false, false, false, false, false, false, false] rfl rfl (any_of HT_.out (by kernel_rfl)) (fun _ _ _ h => h) (Or.inl ⟨by rfl, ?_⟩) ?_ ?_
 rotate_left
 ·intro w'
  go_simp
  with_reducible rfl
 rotate_left
 ·simp only [Act.put, sA1, sA2, sA3, i64_w, i32_w]
  rfl
 refine take_ (i := 3) (N := some 7) (v := ?_) (a' := ?_) #[true, true, true, true, false, false, false, false, false, false, false, false, false, false, false, false, false, false, false, false] rfl rfl (take_of HT_.out (by kernel_rfl)) (fun _ _ _ h => h) (Or.inl ⟨by rfl, ?_⟩) hHeld ?_ ?_
 rotate_left
 ·rintro w' ⟨s0, s1, s2, s3, s4, s5, s6, s7⟩
  go_simp
  with_reducible rfl
 rotate_left
 ·simp only [Act.put, sA1, sA2, sA3, i64_w, i32_w]
  rfl
 refine pure_ (i := 4) (N := some 8) (v := ?_) (a' := ?_) #[true, true, true, true, true, false, false, false, false, false, false, false, false, false, false, false, false, false, false, false] rfl rfl (any_of HT_.out (by kernel_rfl)) (fun _ _ _ h => h) (Or.inl ⟨by rfl, ?_⟩) ?_ ?_
 rotate_left
 ·intro w'
  go_simp
  with_reducible rfl
 rotate_left
 ·simp only [Act.put, sA1, sA2, sA3, i64_w, i32_w]
  rfl
 refine take_ (i := 5) (N := some 9) (v := ?_) (a' := ?_) #[true, true, true, true, true, true, false, false, false, false, false, false, false, false, false, false, false, false, false, false] rfl rfl (take_of HT_.out (by kernel_rfl)) (fun _ _ _ h => h) (Or.inl ⟨by rfl, ?_⟩) hHeld ?_ ?_
 rotate_left
 ·rintro w' ⟨s0, s1, s2, s3, s4, s5, s6, s7⟩
  go_simp
  with_reducible rfl
 rotate_left
 ·simp only [Act.put, sA1, sA2, sA3, i64_w, i32_w]
  rfl
 refine one_ (i := 6) (N := some 10) #[true, true, true, true, true, true, true, false, false, false, false, false, false, false, false, false, false, false, false, false] rfl rfl (one_of HT_.out (by kernel_rfl)) (by decide) (fun K hK => ?_)
 refine goes_ Try.func52 (by kernel_rfl) rfl #[.agg #[.string f, .string t], .string x.f2] (by rfl) rfl rfl (by (try simp only [List.map_toArray, List.map_cons, List.map_nil]); first | done | rfl) ?_
 refine (P2 _).mono ?_
 rintro e w2 ⟨rfl, hb2⟩
 refine ⟨_, rfl, ?_⟩
 have hD2 := hD1.below hb2
 refine hK.out _ _ hD2.cells (fun hHeld => ?_)
 clear hK K
 refine norm_ (a' := ?_) ?_ ?_
 rotate_left
 ·show Act.put _ (some 10) _ = _
  simp only [Act.put, sA1, sA2, sA3, i64_w, i32_w]
  rfl
 refine pure_ (i := 7) (N := some 11) (v := ?_) (a' := ?_) #[true, true, true, true, true, true, true, true, false, false, false, false, false, false, false, false, false, false, false, false] rfl rfl (any_of HT_.out (by kernel_rfl)) (fun _ _ _ h => h) (Or.inl ⟨by rfl, ?_⟩) ?_ ?_
 rotate_left
 ·intro w'
  go_simp
  with_reducible rfl
 rotate_left
 ·simp only [Act.put, sA1, sA2, sA3, i64_w, i32_w]
  rfl
 refine pure_ (i := 8) (N := some 12) (v := ?_) (a' := ?_) #[true, true, true, true, true, true, true, true, true, false, false, false, false, false, false, false, false, false, false, false] rfl rfl (any_of HT_.out (by kernel_rfl)) (fun _ _ _ h => h) (Or.inl ⟨by rfl, ?_⟩) ?_ ?_
 rotate_left
 ·intro w'
  go_simp
  with_reducible rfl
 rotate_left
 ·simp only [Act.put, sA1, sA2, sA3, i64_w, i32_w]
  rfl
 refine pure_ (i := 9) (N := some 13) (v := undef) (a' := ?_) #[true, true, true, true, true, true, true, true, true, true, false, false, false, false, false, false, false, false, false, false] rfl rfl (any_of HT_.out (by kernel_rfl)) (fun _ _ _ h => h) (Or.inr ⟨by rfl, rfl⟩) ?_ ?_
 rotate_left
 ·simp only [Act.put, sA1, sA2, sA3, i64_w, i32_w]
  rfl
 refine pure_ (i := 10) (N := some 14) (v := undef) (a' := ?_) #[true, true, true, true, true, true, true, true, true, true, true, false, false, false, false, false, false, false, false, false] rfl rfl (any_of HT_.out (by kernel_rfl)) (fun _ _ _ h => h) (Or.inr ⟨by rfl, rfl⟩) ?_ ?_
 rotate_left
 ·simp only [Act.put, sA1, sA2, sA3, i64_w, i32_w]
  rfl
 refine pure_ (i := 11) (N := some 15) (v := undef) (a' := ?_) #[true, true, true, true, true, true, true, true, true, true, true, true, false, false, false, false, false, false, false, false] rfl rfl (any_of HT_.out (by kernel_rfl)) (fun _ _ _ h => h) (Or.inr ⟨by rfl, rfl⟩) ?_ ?_
 rotate_left
 ·simp only [Act.put, sA1, sA2, sA3, i64_w, i32_w]
  rfl
 refine pure_ (i := 12) (N := some 16) (v := undef) (a' := ?_) #[true, true, true, true, true, true, true, true, true, true, true, true, true, false, false, false, false, false, false, false] rfl rfl (any_of HT_.out (by kernel_rfl)) (fun _ _ _ h => h) (Or.inr ⟨by rfl, rfl⟩) ?_ ?_
 rotate_left
 ·simp only [Act.put, sA1, sA2, sA3, i64_w, i32_w]
  rfl
 refine pure_ (i := 13) (N := some 17) (v := undef) (a' := ?_) #[true, true, true, true, true, true, true, true, true, true, true, true, true, true, false, false, false, false, false, false] rfl rfl (any_of HT_.out (by kernel_rfl)) (fun _ _ _ h => h) (Or.inr ⟨by rfl, rfl⟩) ?_ ?_
 rotate_left
 ·simp only [Act.put, sA1, sA2, sA3, i64_w, i32_w]
  rfl
 refine pure_ (i := 15) (N := some 19) (v := undef) (a' := ?_) #[true, true, true, true, true, true, true, true, true, true, true, true, true, true, false, true, false, false, false, false] rfl rfl (any_of HT_.out (by kernel_rfl)) (fun _ _ _ h => h) (Or.inr ⟨by rfl, rfl⟩) ?_ ?_
 rotate_left
 ·simp only [Act.put, sA1, sA2, sA3, i64_w, i32_w]
  rfl
 refine pure_ (i := 14) (N := some 18) (v := undef) (a' := ?_) #[true, true, true, true, true, true, true, true, true, true, true, true, true, true, true, true, false, false, false, false] rfl rfl (any_of HT_.out (by kernel_rfl)) (fun _ _ _ h => h) (Or.inr ⟨by rfl, rfl⟩) ?_ ?_
 rotate_left
 ·simp only [Act.put, sA1, sA2, sA3, i64_w, i32_w]
  rfl
 refine pure_ (i := 16) (N := some 20) (v := undef) (a' := ?_) #[true, true, true, true, true, true, true, true, true, true, true, true, true, true, true, true, true, false, false, false] rfl rfl (any_of HT_.out (by kernel_rfl)) (fun _ _ _ h => h) (Or.inr ⟨by rfl, rfl⟩) ?_ ?_
 rotate_left
 ·simp only [Act.put, sA1, sA2, sA3, i64_w, i32_w]
  rfl
 refine pure_ (i := 17) (N := some 21) (v := undef) (a' := ?_) #[true, true, true, true, true, true, true, true, true, true, true, true, true, true, true, true, true, true, false, false] rfl rfl (any_of HT_.out (by kernel_rfl)) (fun _ _ _ h => h) (Or.inr ⟨by rfl, rfl⟩) ?_ ?_
 rotate_left
 ·simp only [Act.put, sA1, sA2, sA3, i64_w, i32_w]
  rfl
 refine pure_ (i := 18) (N := some 22) (v := ?_) (a' := ?_) #[true, true, true, true, true, true, true, true, true, true, true, true, true, true, true, true, true, true, true, false] rfl rfl (any_of HT_.out (by kernel_rfl)) (fun _ _ _ h => h) (Or.inl ⟨by rfl, ?_⟩) ?_ ?_
 rotate_left
 ·intro w'
  go_simp
  with_reducible rfl
 rotate_left
 ·simp only [Act.put, sA1, sA2, sA3, i64_w, i32_w]
  rfl
 refine pure_ (i := 19) (N := some 3) (v := ?_) (a' := ?_) #[true, true, true, true, true, true, true, true, true, true, true, true, true, true, true, true, true, true, true, true] rfl rfl (any_of HT_.out (by kernel_rfl)) (fun _ _ _ h => h) (Or.inl ⟨by rfl, ?_⟩) ?_ ?_
 rotate_left
 ·intro w'
  go_simp
  with_reducible rfl
 rotate_left
 ·simp only [Act.put, sA1, sA2, sA3, i64_w, i32_w]
  rfl
 refine done_ (done_of HT_.out (by kernel_rfl)) ?_
 go_wp2
 go_ret
 exact ⟨rfl, hD2.w⟩
theorem gone_B {W : World} {B : Nat} {f t : ByteArray} (hB : W.heap[B]? = some (objR f t)) (x : Ms) (hx : P.okS x) (hp : P.isPt x.f0 = true) (hh : P.holds f t x.f2 = false) (hk : (x.f0 == 4) = false) :
  Calls Try.prog 51 #[aggM x, .pointer (some ⟨B, 0, none⟩)] W fun e w' => e = .returned (.bool false) ∧ Below W.heap.size W w' := by
 have P1 := isPt_any x
 rw [hp] at P1
 have P2 := holds_any f t x.f2
 rw [hh] at P2
 clear hp hh
 have hum := Try.underlying33
 have hur := Try.underlying38
 have hD : Bx W W.heap.size x B f t (W.alloc (objM x)).drew := ⟨blk_new W _, blk_alloc hB _, below_drew (below_alloc (Below.refl _ _) _)⟩
 clear hB
 go_enter Try.func51, Try.ntmps51
 go_wp2
 refine start_ (n := 20) (S := fun w' => w'.cell? ⟨W.heap.size, 0, none⟩ = some (.int .u8 x.f0) ∧ w'.cell? ⟨W.heap.size, 1, none⟩ = some (.int .i64 x.f1) ∧ w'.cell? ⟨W.heap.size, 2, none⟩ = some (.string x.f2) ∧ w'.cell? ⟨W.heap.size, 3, none⟩ = some (.string x.f3) ∧ w'.cell? ⟨W.heap.size, 4, none⟩ = some (.string x.f4) ∧ w'.cell? ⟨W.heap.size, 5, none⟩ = some (.int .u64 x.f5) ∧ w'.cell? ⟨B, 0, none⟩ = some (.string f) ∧ w'.cell? ⟨B, 1, none⟩ = some (.string t)) (ds := []) #[false, false, false, false, false, false, false, false, false, false, false, false, false, false, false, false, false, false, false, false] (by kernel_rfl) rfl rfl hD.cells (fun hHeld => ?_)
 have HT_ := Aside0.mk goneT
 generalize (W.alloc (objM x)).drew = w0 at hD hHeld ⊢
 refine take_ (i := 0) (N := some 4) (v := ?_) (a' := ?_) #[true, false, false, false, false, false, false, false, false, false, false, false, false, false, false, false, false, false, false, false] rfl rfl (take_of HT_.out (by kernel_rfl)) (fun _ _ _ h => h) (Or.inl ⟨by rfl, ?_⟩) hHeld ?_ ?_
 rotate_left
 ·rintro w' ⟨s0, s1, s2, s3, s4, s5, s6, s7⟩
  go_simp
  with_reducible rfl
 rotate_left
 ·simp only [Act.put, sA1, sA2, sA3, i64_w, i32_w]
  rfl
 refine one_ (i := 1) (N := some 5) #[true, true, false, false, false, false, false, false, false, false, false, false, false, false, false, false, false, false, false, false] rfl rfl (one_of HT_.out (by kernel_rfl)) (by decide) (fun K hK => ?_)
 refine goes_ Try.func47 (by kernel_rfl) rfl #[aggM x] (by rfl) rfl rfl (by (try simp only [List.map_toArray, List.map_cons, List.map_nil]); first | done | rfl) ?_
 refine (P1 _).mono ?_
 rintro e w1 ⟨rfl, hb1⟩
 refine ⟨_, rfl, ?_⟩
 have hD1 := hD.below hb1
 refine hK.out _ _ hD1.cells (fun hHeld => ?_)
 clear hK K
 refine norm_ (a' := ?_) ?_ ?_
 rotate_left
 ·show Act.put _ (some 5) _ = _
  simp only [Act.put, sA1, sA2, sA3, i64_w, i32_w]
  rfl
 refine pure_ (i := 2) (N := some 6) (v := ?_) (a' := ?_) #[true, true, true, false, false, false, false, false, false, false, false, false, false, false, false, false, false, false, false, false] rfl rfl (any_of HT_.out (by kernel_rfl)) (fun _ _ _ h => h) (Or.inl ⟨by rfl, ?_⟩) ?_ ?_
 rotate_left
 ·intro w'
  go_simp
  with_reducible rfl
 rotate_left
 ·simp only [Act.put, sA1, sA2, sA3, i64_w, i32_w]
  rfl
 refine take_ (i := 3) (N := some 7) (v := ?_) (a' := ?_) #[true, true, true, true, false, false, false, false, false, false, false, false, false, false, false, false, false, false, false, false] rfl rfl (take_of HT_.out (by kernel_rfl)) (fun _ _ _ h => h) (Or.inl ⟨by rfl, ?_⟩) hHeld ?_ ?_
 rotate_left
 ·rintro w' ⟨s0, s1, s2, s3, s4, s5, s6, s7⟩
  go_simp
  with_reducible rfl
 rotate_left
 ·simp only [Act.put, sA1, sA2, sA3, i64_w, i32_w]
  rfl
 refine pure_ (i := 4) (N := some 8) (v := ?_) (a' := ?_) #[true, true, true, true, true, false, false, false, false, false, false, false, false, false, false, false, false, false, false, false] rfl rfl (any_of HT_.out (by kernel_rfl)) (fun _ _ _ h => h) (Or.inl ⟨by rfl, ?_⟩) ?_ ?_
 rotate_left
 ·intro w'
  go_simp
  with_reducible rfl
 rotate_left
 ·simp only [Act.put, sA1, sA2, sA3, i64_w, i32_w]
  rfl
 refine take_ (i := 5) (N := some 9) (v := ?_) (a' := ?_) #[true, true, true, true, true, true, false, false, false, false, false, false, false, false, false, false, false, false, false, false] rfl rfl (take_of HT_.out (by kernel_rfl)) (fun _ _ _ h => h) (Or.inl ⟨by rfl, ?_⟩) hHeld ?_ ?_
 rotate_left
 ·rintro w' ⟨s0, s1, s2, s3, s4, s5, s6, s7⟩
  go_simp
  with_reducible rfl
 rotate_left
 ·simp only [Act.put, sA1, sA2, sA3, i64_w, i32_w]
  rfl
 refine one_ (i := 6) (N := some 10) #[true, true, true, true, true, true, true, false, false, false, false, false, false, false, false, false, false, false, false, false] rfl rfl (one_of HT_.out (by kernel_rfl)) (by decide) (fun K hK => ?_)
 refine goes_ Try.func52 (by kernel_rfl) rfl #[.agg #[.string f, .string t], .string x.f2] (by rfl) rfl rfl (by (try simp only [List.map_toArray, List.map_cons, List.map_nil]); first | done | rfl) ?_
 refine (P2 _).mono ?_
 rintro e w2 ⟨rfl, hb2⟩
 refine ⟨_, rfl, ?_⟩
 have hD2 := hD1.below hb2
 refine hK.out _ _ hD2.cells (fun hHeld => ?_)
 clear hK K
 refine norm_ (a' := ?_) ?_ ?_
 rotate_left
 ·show Act.put _ (some 10) _ = _
  simp only [Act.put, sA1, sA2, sA3, i64_w, i32_w]
  rfl
 refine pure_ (i := 7) (N := some 11) (v := ?_) (a' := ?_) #[true, true, true, true, true, true, true, true, false, false, false, false, false, false, false, false, false, false, false, false] rfl rfl (any_of HT_.out (by kernel_rfl)) (fun _ _ _ h => h) (Or.inl ⟨by rfl, ?_⟩) ?_ ?_
 rotate_left
 ·intro w'
  go_simp
  with_reducible rfl
 rotate_left
 ·simp only [Act.put, sA1, sA2, sA3, i64_w, i32_w]
  rfl
 refine pure_ (i := 8) (N := some 12) (v := ?_) (a' := ?_) #[true, true, true, true, true, true, true, true, true, false, false, false, false, false, false, false, false, false, false, false] rfl rfl (any_of HT_.out (by kernel_rfl)) (fun _ _ _ h => h) (Or.inl ⟨by rfl, ?_⟩) ?_ ?_
 rotate_left
 ·intro w'
  go_simp
  with_reducible rfl
 rotate_left
 ·simp only [Act.put, sA1, sA2, sA3, i64_w, i32_w]
  rfl
 refine pure_ (i := 9) (N := some 13) (v := ?_) (a' := ?_) #[true, true, true, true, true, true, true, true, true, true, false, false, false, false, false, false, false, false, false, false] rfl rfl (any_of HT_.out (by kernel_rfl)) (fun _ _ _ h => h) (Or.inl ⟨by rfl, ?_⟩) ?_ ?_
 rotate_left
 ·intro w'
  go_simp
  with_reducible rfl
 rotate_left
 ·simp only [Act.put, sA1, sA2, sA3, i64_w, i32_w]
  rfl
 refine take_ (i := 10) (N := some 14) (v := ?_) (a' := ?_) #[true, true, true, true, true, true, true, true, true, true, true, false, false, false, false, false, false, false, false, false] rfl rfl (take_of HT_.out (by kernel_rfl)) (fun _ _ _ h => h) (Or.inl ⟨by rfl, ?_⟩) hHeld ?_ ?_
 rotate_left
 ·rintro w' ⟨s0, s1, s2, s3, s4, s5, s6, s7⟩
  go_simp
  with_reducible rfl
 rotate_left
 ·simp only [Act.put, sA1, sA2, sA3, i64_w, i32_w]
  rfl
 refine pure_ (i := 11) (N := some 15) (v := ?_) (a' := ?_) #[true, true, true, true, true, true, true, true, true, true, true, true, false, false, false, false, false, false, false, false] rfl rfl (any_of HT_.out (by kernel_rfl)) (fun _ _ _ h => h) (Or.inl ⟨by rfl, ?_⟩) ?_ ?_
 rotate_left
 ·intro w'
  go_simp
  with_reducible rfl
 rotate_left
 ·simp only [Act.put, sA1, sA2, sA3, i64_w, i32_w]
  rfl
 refine pure_ (i := 12) (N := some 16) (v := ?_) (a' := ?_) #[true, true, true, true, true, true, true, true, true, true, true, true, true, false, false, false, false, false, false, false] rfl rfl (any_of HT_.out (by kernel_rfl)) (fun _ _ _ h => h) (Or.inl ⟨by rfl, ?_⟩) ?_ ?_
 rotate_left
 ·intro w'
  go_simp
  with_reducible rfl
 rotate_left
 ·simp only [Act.put, sA1, sA2, sA3, i64_w, i32_w]
  rfl
 refine pure_ (i := 13) (N := some 17) (v := undef) (a' := ?_) #[true, true, true, true, true, true, true, true, true, true, true, true, true, true, false, false, false, false, false, false] rfl rfl (any_of HT_.out (by kernel_rfl)) (fun _ _ _ h => h) (Or.inr ⟨by rfl, rfl⟩) ?_ ?_
 rotate_left
 ·simp only [Act.put, sA1, sA2, sA3, i64_w, i32_w]
  rfl
 refine pure_ (i := 15) (N := some 19) (v := undef) (a' := ?_) #[true, true, true, true, true, true, true, true, true, true, true, true, true, true, false, true, false, false, false, false] rfl rfl (any_of HT_.out (by kernel_rfl)) (fun _ _ _ h => h) (Or.inr ⟨by rfl, rfl⟩) ?_ ?_
 rotate_left
 ·simp only [Act.put, sA1, sA2, sA3, i64_w, i32_w]
  rfl
 refine pure_ (i := 14) (N := some 18) (v := undef) (a' := ?_) #[true, true, true, true, true, true, true, true, true, true, true, true, true, true, true, true, false, false, false, false] rfl rfl (any_of HT_.out (by kernel_rfl)) (fun _ _ _ h => h) (Or.inr ⟨by rfl, rfl⟩) ?_ ?_
 rotate_left
 ·simp only [Act.put, sA1, sA2, sA3, i64_w, i32_w]
  rfl
 refine pure_ (i := 16) (N := some 20) (v := undef) (a' := ?_) #[true, true, true, true, true, true, true, true, true, true, true, true, true, true, true, true, true, false, false, false] rfl rfl (any_of HT_.out (by kernel_rfl)) (fun _ _ _ h => h) (Or.inr ⟨by rfl, rfl⟩) ?_ ?_
 rotate_left
 ·simp only [Act.put, sA1, sA2, sA3, i64_w, i32_w]
  rfl
 refine pure_ (i := 17) (N := some 21) (v := ?_) (a' := ?_) #[true, true, true, true, true, true, true, true, true, true, true, true, true, true, true, true, true, true, false, false] rfl rfl (any_of HT_.out (by kernel_rfl)) (fun _ _ _ h => h) (Or.inl ⟨by rfl, ?_⟩) ?_ ?_
 rotate_left
 ·intro w'
  go_simp
  with_reducible rfl
 rotate_left
 ·simp only [Act.put, sA1, sA2, sA3, i64_w, i32_w]
  rfl
 refine pure_ (i := 18) (N := some 22) (v := ?_) (a' := ?_) #[true, true, true, true, true, true, true, true, true, true, true, true, true, true, true, true, true, true, true, false] rfl rfl (any_of HT_.out (by kernel_rfl)) (fun _ _ _ h => h) (Or.inl ⟨by rfl, ?_⟩) ?_ ?_
 rotate_left
 ·intro w'
  go_simp
  with_reducible rfl
 rotate_left
 ·simp only [Act.put, sA1, sA2, sA3, i64_w, i32_w]
  rfl
 refine pure_ (i := 19) (N := some 3) (v := ?_) (a' := ?_) #[true, true, true, true, true, true, true, true, true, true, true, true, true, true, true, true, true, true, true, true] rfl rfl (any_of HT_.out (by kernel_rfl)) (fun _ _ _ h => h) (Or.inl ⟨by rfl, ?_⟩) ?_ ?_
 rotate_left
 ·intro w'
  go_simp
  with_reducible rfl
 rotate_left
 ·simp only [Act.put, sA1, sA2, sA3, i64_w, i32_w]
  rfl
 refine done_ (done_of HT_.out (by kernel_rfl)) ?_
 go_wp2
 go_ret
 exact ⟨rfl, hD2.w⟩
theorem gone_C {W : World} {B : Nat} {f t : ByteArray} (hB : W.heap[B]? = some (objR f t)) (x : Ms) (hx : P.okS x) (hp : P.isPt x.f0 = false) (hk : (x.f0 == 4) = true) :
  Calls Try.prog 51 #[aggM x, .pointer (some ⟨B, 0, none⟩)] W fun e w' => e = .returned (.bool (P.within x.f2 x.f3 f t)) ∧ Below W.heap.size W w' := by
 have P1 := isPt_any x
 rw [hp] at P1
 have P3 := span_any x hx
 rw [show P.span x.f0 x.f2 x.f3 = (x.f2, x.f3) from by unfold P.span; rw [if_neg (by simp [hp]), if_pos (by simpa using hk)]] at P3
 have P4 := within_any x.f2 x.f3 f t
 clear hp
 have hum := Try.underlying33
 have hur := Try.underlying38
 have hD : Bx W W.heap.size x B f t (W.alloc (objM x)).drew := ⟨blk_new W _, blk_alloc hB _, below_drew (below_alloc (Below.refl _ _) _)⟩
 clear hB
 go_enter Try.func51, Try.ntmps51
 go_wp2
 refine start_ (n := 20) (S := fun w' => w'.cell? ⟨W.heap.size, 0, none⟩ = some (.int .u8 x.f0) ∧ w'.cell? ⟨W.heap.size, 1, none⟩ = some (.int .i64 x.f1) ∧ w'.cell? ⟨W.heap.size, 2, none⟩ = some (.string x.f2) ∧ w'.cell? ⟨W.heap.size, 3, none⟩ = some (.string x.f3) ∧ w'.cell? ⟨W.heap.size, 4, none⟩ = some (.string x.f4) ∧ w'.cell? ⟨W.heap.size, 5, none⟩ = some (.int .u64 x.f5) ∧ w'.cell? ⟨B, 0, none⟩ = some (.string f) ∧ w'.cell? ⟨B, 1, none⟩ = some (.string t)) (ds := []) #[false, false, false, false, false, false, false, false, false, false, false, false, false, false, false, false, false, false, false, false] (by kernel_rfl) rfl rfl hD.cells (fun hHeld => ?_)
 have HT_ := Aside0.mk goneT
 generalize (W.alloc (objM x)).drew = w0 at hD hHeld ⊢
 refine take_ (i := 0) (N := some 4) (v := ?_) (a' := ?_) #[true, false, false, false, false, false, false, false, false, false, false, false, false, false, false, false, false, false, false, false] rfl rfl (take_of HT_.out (by kernel_rfl)) (fun _ _ _ h => h) (Or.inl ⟨by rfl, ?_⟩) hHeld ?_ ?_
 rotate_left
 ·rintro w' ⟨s0, s1, s2, s3, s4, s5, s6, s7⟩
  go_simp
  with_reducible rfl
 rotate_left
 ·simp only [Act.put, sA1, sA2, sA3, i64_w, i32_w]
  rfl
 refine one_ (i := 1) (N := some 5) #[true, true, false, false, false, false, false, false, false, false, false, false, false, false, false, false, false, false, false, false] rfl rfl (one_of HT_.out (by kernel_rfl)) (by decide) (fun K hK => ?_)
 refine goes_ Try.func47 (by kernel_rfl) rfl #[aggM x] (by rfl) rfl rfl (by (try simp only [List.map_toArray, List.map_cons, List.map_nil]); first | done | rfl) ?_
 refine (P1 _).mono ?_
 rintro e w1 ⟨rfl, hb1⟩
 refine ⟨_, rfl, ?_⟩
 have hD1 := hD.below hb1
 refine hK.out _ _ hD1.cells (fun hHeld => ?_)
 clear hK K
 refine norm_ (a' := ?_) ?_ ?_
 rotate_left
 ·show Act.put _ (some 5) _ = _
  simp only [Act.put, sA1, sA2, sA3, i64_w, i32_w]
  rfl
 refine pure_ (i := 2) (N := some 6) (v := ?_) (a' := ?_) #[true, true, true, false, false, false, false, false, false, false, false, false, false, false, false, false, false, false, false, false] rfl rfl (any_of HT_.out (by kernel_rfl)) (fun _ _ _ h => h) (Or.inl ⟨by rfl, ?_⟩) ?_ ?_
 rotate_left
 ·intro w'
  go_simp
  with_reducible rfl
 rotate_left
 ·simp only [Act.put, sA1, sA2, sA3, i64_w, i32_w]
  rfl
 refine pure_ (i := 3) (N := some 7) (v := undef) (a' := ?_) #[true, true, true, true, false, false, false, false, false, false, false, false, false, false, false, false, false, false, false, false] rfl rfl (any_of HT_.out (by kernel_rfl)) (fun _ _ _ h => h) (Or.inr ⟨by rfl, rfl⟩) ?_ ?_
 rotate_left
 ·simp only [Act.put, sA1, sA2, sA3, i64_w, i32_w]
  rfl
 refine pure_ (i := 4) (N := some 8) (v := undef) (a' := ?_) #[true, true, true, true, true, false, false, false, false, false, false, false, false, false, false, false, false, false, false, false] rfl rfl (any_of HT_.out (by kernel_rfl)) (fun _ _ _ h => h) (Or.inr ⟨by rfl, rfl⟩) ?_ ?_
 rotate_left
 ·simp only [Act.put, sA1, sA2, sA3, i64_w, i32_w]
  rfl
 refine pure_ (i := 5) (N := some 9) (v := undef) (a' := ?_) #[true, true, true, true, true, true, false, false, false, false, false, false, false, false, false, false, false, false, false, false] rfl rfl (any_of HT_.out (by kernel_rfl)) (fun _ _ _ h => h) (Or.inr ⟨by rfl, rfl⟩) ?_ ?_
 rotate_left
 ·simp only [Act.put, sA1, sA2, sA3, i64_w, i32_w]
  rfl
 refine pure_ (i := 6) (N := some 10) (v := undef) (a' := ?_) #[true, true, true, true, true, true, true, false, false, false, false, false, false, false, false, false, false, false, false, false] rfl rfl (any_of HT_.out (by kernel_rfl)) (fun _ _ _ h => h) (Or.inr ⟨by rfl, rfl⟩) ?_ ?_
 rotate_left
 ·simp only [Act.put, sA1, sA2, sA3, i64_w, i32_w]
  rfl
 refine pure_ (i := 7) (N := some 11) (v := ?_) (a' := ?_) #[true, true, true, true, true, true, true, true, false, false, false, false, false, false, false, false, false, false, false, false] rfl rfl (any_of HT_.out (by kernel_rfl)) (fun _ _ _ h => h) (Or.inl ⟨by rfl, ?_⟩) ?_ ?_
 rotate_left
 ·intro w'
  go_simp
  with_reducible rfl
 rotate_left
 ·simp only [Act.put, sA1, sA2, sA3, i64_w, i32_w]
  rfl
 refine pure_ (i := 8) (N := some 12) (v := ?_) (a' := ?_) #[true, true, true, true, true, true, true, true, true, false, false, false, false, false, false, false, false, false, false, false] rfl rfl (any_of HT_.out (by kernel_rfl)) (fun _ _ _ h => h) (Or.inl ⟨by rfl, ?_⟩) ?_ ?_
 rotate_left
 ·intro w'
  go_simp
  with_reducible rfl
 rotate_left
 ·simp only [Act.put, sA1, sA2, sA3, i64_w, i32_w]
  rfl
 refine pure_ (i := 9) (N := some 13) (v := ?_) (a' := ?_) #[true, true, true, true, true, true, true, true, true, true, false, false, false, false, false, false, false, false, false, false] rfl rfl (any_of HT_.out (by kernel_rfl)) (fun _ _ _ h => h) (Or.inl ⟨by rfl, ?_⟩) ?_ ?_
 rotate_left
 ·intro w'
  go_simp
  with_reducible rfl
 rotate_left
 ·simp only [Act.put, sA1, sA2, sA3, i64_w, i32_w]
  rfl
 refine take_ (i := 10) (N := some 14) (v := ?_) (a' := ?_) #[true, true, true, true, true, true, true, true, true, true, true, false, false, false, false, false, false, false, false, false] rfl rfl (take_of HT_.out (by kernel_rfl)) (fun _ _ _ h => h) (Or.inl ⟨by rfl, ?_⟩) hHeld ?_ ?_
 rotate_left
 ·rintro w' ⟨s0, s1, s2, s3, s4, s5, s6, s7⟩
  go_simp
  with_reducible rfl
 rotate_left
 ·simp only [Act.put, sA1, sA2, sA3, i64_w, i32_w]
  rfl
 refine pure_ (i := 11) (N := some 15) (v := ?_) (a' := ?_) #[true, true, true, true, true, true, true, true, true, true, true, true, false, false, false, false, false, false, false, false] rfl rfl (any_of HT_.out (by kernel_rfl)) (fun _ _ _ h => h) (Or.inl ⟨by rfl, ?_⟩) ?_ ?_
 rotate_left
 ·intro w'
  go_simp
  with_reducible rfl
 rotate_left
 ·simp only [Act.put, sA1, sA2, sA3, i64_w, i32_w]
  rfl
 refine pure_ (i := 12) (N := some 16) (v := ?_) (a' := ?_) #[true, true, true, true, true, true, true, true, true, true, true, true, true, false, false, false, false, false, false, false] rfl rfl (any_of HT_.out (by kernel_rfl)) (fun _ _ _ h => h) (Or.inl ⟨by rfl, ?_⟩) ?_ ?_
 rotate_left
 ·intro w'
  go_simp
  with_reducible rfl
 rotate_left
 ·simp only [Act.put, sA1, sA2, sA3, i64_w, i32_w]
  rfl
 refine take_ (i := 13) (N := some 17) (v := ?_) (a' := ?_) #[true, true, true, true, true, true, true, true, true, true, true, true, true, true, false, false, false, false, false, false] rfl rfl (take_of HT_.out (by kernel_rfl)) (fun _ _ _ h => h) (Or.inl ⟨by rfl, ?_⟩) hHeld ?_ ?_
 rotate_left
 ·rintro w' ⟨s0, s1, s2, s3, s4, s5, s6, s7⟩
  go_simp
  with_reducible rfl
 rotate_left
 ·simp only [Act.put, sA1, sA2, sA3, i64_w, i32_w]
  rfl
 refine take_ (i := 15) (N := some 19) (v := ?_) (a' := ?_) #[true, true, true, true, true, true, true, true, true, true, true, true, true, true, false, true, false, false, false, false] rfl rfl (take_of HT_.out (by kernel_rfl)) (fun _ _ _ h => h) (Or.inl ⟨by rfl, ?_⟩) hHeld ?_ ?_
 rotate_left
 ·rintro w' ⟨s0, s1, s2, s3, s4, s5, s6, s7⟩
  go_simp
  with_reducible rfl
 rotate_left
 ·simp only [Act.put, sA1, sA2, sA3, i64_w, i32_w]
  rfl
 refine one_ (i := 14) (N := some 18) #[true, true, true, true, true, true, true, true, true, true, true, true, true, true, true, true, false, false, false, false] rfl rfl (one_of HT_.out (by kernel_rfl)) (by decide) (fun K hK => ?_)
 refine goes_ Try.func46 (by kernel_rfl) rfl #[aggM x] (by rfl) rfl rfl (by (try simp only [List.map_toArray, List.map_cons, List.map_nil]); first | done | rfl) ?_
 refine (P3 _).mono ?_
 rintro e w2 ⟨rfl, hb2⟩
 refine ⟨_, rfl, ?_⟩
 have hD2 := hD1.below hb2
 refine hK.out _ _ hD2.cells (fun hHeld => ?_)
 clear hK K
 refine norm_ (a' := ?_) ?_ ?_
 rotate_left
 ·show Act.put _ (some 18) _ = _
  simp only [Act.put, sA1, sA2, sA3, i64_w, i32_w]
  rfl
 refine one_ (i := 16) (N := some 20) #[true, true, true, true, true, true, true, true, true, true, true, true, true, true, true, true, true, false, false, false] rfl rfl (one_of HT_.out (by kernel_rfl)) (by decide) (fun K hK => ?_)
 refine goes_ Try.func53 (by kernel_rfl) rfl #[.agg #[.string x.f2, .string x.f3], .agg #[.string f, .string t]] (by rfl) rfl rfl (by (try simp only [List.map_toArray, List.map_cons, List.map_nil]); first | done | rfl) ?_
 refine (P4 _).mono ?_
 rintro e w3 ⟨rfl, hb3⟩
 refine ⟨_, rfl, ?_⟩
 have hD3 := hD2.below hb3
 refine hK.out _ _ hD3.cells (fun hHeld => ?_)
 clear hK K
 refine norm_ (a' := ?_) ?_ ?_
 rotate_left
 ·show Act.put _ (some 20) _ = _
  simp only [Act.put, sA1, sA2, sA3, i64_w, i32_w]
  rfl
 refine pure_ (i := 17) (N := some 21) (v := ?_) (a' := ?_) #[true, true, true, true, true, true, true, true, true, true, true, true, true, true, true, true, true, true, false, false] rfl rfl (any_of HT_.out (by kernel_rfl)) (fun _ _ _ h => h) (Or.inl ⟨by rfl, ?_⟩) ?_ ?_
 rotate_left
 ·intro w'
  go_simp
  with_reducible rfl
 rotate_left
 ·simp only [Act.put, sA1, sA2, sA3, i64_w, i32_w]
  rfl
 refine pure_ (i := 18) (N := some 22) (v := ?_) (a' := ?_) #[true, true, true, true, true, true, true, true, true, true, true, true, true, true, true, true, true, true, true, false] rfl rfl (any_of HT_.out (by kernel_rfl)) (fun _ _ _ h => h) (Or.inl ⟨by rfl, ?_⟩) ?_ ?_
 rotate_left
 ·intro w'
  go_simp
  with_reducible rfl
 rotate_left
 ·simp only [Act.put, sA1, sA2, sA3, i64_w, i32_w]
  rfl
 refine pure_ (i := 19) (N := some 3) (v := ?_) (a' := ?_) #[true, true, true, true, true, true, true, true, true, true, true, true, true, true, true, true, true, true, true, true] rfl rfl (any_of HT_.out (by kernel_rfl)) (fun _ _ _ h => h) (Or.inl ⟨by rfl, ?_⟩) ?_ ?_
 rotate_left
 ·intro w'
  go_simp
  with_reducible rfl
 rotate_left
 ·simp only [Act.put, sA1, sA2, sA3, i64_w, i32_w]
  rfl
 refine done_ (done_of HT_.out (by kernel_rfl)) ?_
 go_wp2
 go_ret
 exact ⟨rfl, hD3.w⟩
theorem gone_D {W : World} {B : Nat} {f t : ByteArray} (hB : W.heap[B]? = some (objR f t)) (x : Ms) (hx : P.okS x) (hp : P.isPt x.f0 = false) (hk : (x.f0 == 4) = false) :
  Calls Try.prog 51 #[aggM x, .pointer (some ⟨B, 0, none⟩)] W fun e w' => e = .returned (.bool false) ∧ Below W.heap.size W w' := by
 have P1 := isPt_any x
 rw [hp] at P1
 clear hp
 have hum := Try.underlying33
 have hur := Try.underlying38
 have hD : Bx W W.heap.size x B f t (W.alloc (objM x)).drew := ⟨blk_new W _, blk_alloc hB _, below_drew (below_alloc (Below.refl _ _) _)⟩
 clear hB
 go_enter Try.func51, Try.ntmps51
 go_wp2
 refine start_ (n := 20) (S := fun w' => w'.cell? ⟨W.heap.size, 0, none⟩ = some (.int .u8 x.f0) ∧ w'.cell? ⟨W.heap.size, 1, none⟩ = some (.int .i64 x.f1) ∧ w'.cell? ⟨W.heap.size, 2, none⟩ = some (.string x.f2) ∧ w'.cell? ⟨W.heap.size, 3, none⟩ = some (.string x.f3) ∧ w'.cell? ⟨W.heap.size, 4, none⟩ = some (.string x.f4) ∧ w'.cell? ⟨W.heap.size, 5, none⟩ = some (.int .u64 x.f5) ∧ w'.cell? ⟨B, 0, none⟩ = some (.string f) ∧ w'.cell? ⟨B, 1, none⟩ = some (.string t)) (ds := []) #[false, false, false, false, false, false, false, false, false, false, false, false, false, false, false, false, false, false, false, false] (by kernel_rfl) rfl rfl hD.cells (fun hHeld => ?_)
 have HT_ := Aside0.mk goneT
 generalize (W.alloc (objM x)).drew = w0 at hD hHeld ⊢
 refine take_ (i := 0) (N := some 4) (v := ?_) (a' := ?_) #[true, false, false, false, false, false, false, false, false, false, false, false, false, false, false, false, false, false, false, false] rfl rfl (take_of HT_.out (by kernel_rfl)) (fun _ _ _ h => h) (Or.inl ⟨by rfl, ?_⟩) hHeld ?_ ?_
 rotate_left
 ·rintro w' ⟨s0, s1, s2, s3, s4, s5, s6, s7⟩
  go_simp
  with_reducible rfl
 rotate_left
 ·simp only [Act.put, sA1, sA2, sA3, i64_w, i32_w]
  rfl
 refine one_ (i := 1) (N := some 5) #[true, true, false, false, false, false, false, false, false, false, false, false, false, false, false, false, false, false, false, false] rfl rfl (one_of HT_.out (by kernel_rfl)) (by decide) (fun K hK => ?_)
 refine goes_ Try.func47 (by kernel_rfl) rfl #[aggM x] (by rfl) rfl rfl (by (try simp only [List.map_toArray, List.map_cons, List.map_nil]); first | done | rfl) ?_
 refine (P1 _).mono ?_
 rintro e w1 ⟨rfl, hb1⟩
 refine ⟨_, rfl, ?_⟩
 have hD1 := hD.below hb1
 refine hK.out _ _ hD1.cells (fun hHeld => ?_)
 clear hK K
 refine norm_ (a' := ?_) ?_ ?_
 rotate_left
 ·show Act.put _ (some 5) _ = _
  simp only [Act.put, sA1, sA2, sA3, i64_w, i32_w]
  rfl
 refine pure_ (i := 2) (N := some 6) (v := ?_) (a' := ?_) #[true, true, true, false, false, false, false, false, false, false, false, false, false, false, false, false, false, false, false, false] rfl rfl (any_of HT_.out (by kernel_rfl)) (fun _ _ _ h => h) (Or.inl ⟨by rfl, ?_⟩) ?_ ?_
 rotate_left
 ·intro w'
  go_simp
  with_reducible rfl
 rotate_left
 ·simp only [Act.put, sA1, sA2, sA3, i64_w, i32_w]
  rfl
 refine pure_ (i := 3) (N := some 7) (v := undef) (a' := ?_) #[true, true, true, true, false, false, false, false, false, false, false, false, false, false, false, false, false, false, false, false] rfl rfl (any_of HT_.out (by kernel_rfl)) (fun _ _ _ h => h) (Or.inr ⟨by rfl, rfl⟩) ?_ ?_
 rotate_left
 ·simp only [Act.put, sA1, sA2, sA3, i64_w, i32_w]
  rfl
 refine pure_ (i := 4) (N := some 8) (v := undef) (a' := ?_) #[true, true, true, true, true, false, false, false, false, false, false, false, false, false, false, false, false, false, false, false] rfl rfl (any_of HT_.out (by kernel_rfl)) (fun _ _ _ h => h) (Or.inr ⟨by rfl, rfl⟩) ?_ ?_
 rotate_left
 ·simp only [Act.put, sA1, sA2, sA3, i64_w, i32_w]
  rfl
 refine pure_ (i := 5) (N := some 9) (v := undef) (a' := ?_) #[true, true, true, true, true, true, false, false, false, false, false, false, false, false, false, false, false, false, false, false] rfl rfl (any_of HT_.out (by kernel_rfl)) (fun _ _ _ h => h) (Or.inr ⟨by rfl, rfl⟩) ?_ ?_
 rotate_left
 ·simp only [Act.put, sA1, sA2, sA3, i64_w, i32_w]
  rfl
 refine pure_ (i := 6) (N := some 10) (v := undef) (a' := ?_) #[true, true, true, true, true, true, true, false, false, false, false, false, false, false, false, false, false, false, false, false] rfl rfl (any_of HT_.out (by kernel_rfl)) (fun _ _ _ h => h) (Or.inr ⟨by rfl, rfl⟩) ?_ ?_
 rotate_left
 ·simp only [Act.put, sA1, sA2, sA3, i64_w, i32_w]
  rfl
 refine pure_ (i := 7) (N := some 11) (v := ?_) (a' := ?_) #[true, true, true, true, true, true, true, true, false, false, false, false, false, false, false, false, false, false, false, false] rfl rfl (any_of HT_.out (by kernel_rfl)) (fun _ _ _ h => h) (Or.inl ⟨by rfl, ?_⟩) ?_ ?_
 rotate_left
 ·intro w'
  go_simp
  with_reducible rfl
 rotate_left
 ·simp only [Act.put, sA1, sA2, sA3, i64_w, i32_w]
  rfl
 refine pure_ (i := 8) (N := some 12) (v := ?_) (a' := ?_) #[true, true, true, true, true, true, true, true, true, false, false, false, false, false, false, false, false, false, false, false] rfl rfl (any_of HT_.out (by kernel_rfl)) (fun _ _ _ h => h) (Or.inl ⟨by rfl, ?_⟩) ?_ ?_
 rotate_left
 ·intro w'
  go_simp
  with_reducible rfl
 rotate_left
 ·simp only [Act.put, sA1, sA2, sA3, i64_w, i32_w]
  rfl
 refine pure_ (i := 9) (N := some 13) (v := ?_) (a' := ?_) #[true, true, true, true, true, true, true, true, true, true, false, false, false, false, false, false, false, false, false, false] rfl rfl (any_of HT_.out (by kernel_rfl)) (fun _ _ _ h => h) (Or.inl ⟨by rfl, ?_⟩) ?_ ?_
 rotate_left
 ·intro w'
  go_simp
  with_reducible rfl
 rotate_left
 ·simp only [Act.put, sA1, sA2, sA3, i64_w, i32_w]
  rfl
 refine take_ (i := 10) (N := some 14) (v := ?_) (a' := ?_) #[true, true, true, true, true, true, true, true, true, true, true, false, false, false, false, false, false, false, false, false] rfl rfl (take_of HT_.out (by kernel_rfl)) (fun _ _ _ h => h) (Or.inl ⟨by rfl, ?_⟩) hHeld ?_ ?_
 rotate_left
 ·rintro w' ⟨s0, s1, s2, s3, s4, s5, s6, s7⟩
  go_simp
  with_reducible rfl
 rotate_left
 ·simp only [Act.put, sA1, sA2, sA3, i64_w, i32_w]
  rfl
 refine pure_ (i := 11) (N := some 15) (v := ?_) (a' := ?_) #[true, true, true, true, true, true, true, true, true, true, true, true, false, false, false, false, false, false, false, false] rfl rfl (any_of HT_.out (by kernel_rfl)) (fun _ _ _ h => h) (Or.inl ⟨by rfl, ?_⟩) ?_ ?_
 rotate_left
 ·intro w'
  go_simp
  with_reducible rfl
 rotate_left
 ·simp only [Act.put, sA1, sA2, sA3, i64_w, i32_w]
  rfl
 refine pure_ (i := 12) (N := some 16) (v := ?_) (a' := ?_) #[true, true, true, true, true, true, true, true, true, true, true, true, true, false, false, false, false, false, false, false] rfl rfl (any_of HT_.out (by kernel_rfl)) (fun _ _ _ h => h) (Or.inl ⟨by rfl, ?_⟩) ?_ ?_
 rotate_left
 ·intro w'
  go_simp
  with_reducible rfl
 rotate_left
 ·simp only [Act.put, sA1, sA2, sA3, i64_w, i32_w]
  rfl
 refine pure_ (i := 13) (N := some 17) (v := undef) (a' := ?_) #[true, true, true, true, true, true, true, true, true, true, true, true, true, true, false, false, false, false, false, false] rfl rfl (any_of HT_.out (by kernel_rfl)) (fun _ _ _ h => h) (Or.inr ⟨by rfl, rfl⟩) ?_ ?_
 rotate_left
 ·simp only [Act.put, sA1, sA2, sA3, i64_w, i32_w]
  rfl
 refine pure_ (i := 15) (N := some 19) (v := undef) (a' := ?_) #[true, true, true, true, true, true, true, true, true, true, true, true, true, true, false, true, false, false, false, false] rfl rfl (any_of HT_.out (by kernel_rfl)) (fun _ _ _ h => h) (Or.inr ⟨by rfl, rfl⟩) ?_ ?_
 rotate_left
 ·simp only [Act.put, sA1, sA2, sA3, i64_w, i32_w]
  rfl
 refine pure_ (i := 14) (N := some 18) (v := undef) (a' := ?_) #[true, true, true, true, true, true, true, true, true, true, true, true, true, true, true, true, false, false, false, false] rfl rfl (any_of HT_.out (by kernel_rfl)) (fun _ _ _ h => h) (Or.inr ⟨by rfl, rfl⟩) ?_ ?_
 rotate_left
 ·simp only [Act.put, sA1, sA2, sA3, i64_w, i32_w]
  rfl
 refine pure_ (i := 16) (N := some 20) (v := undef) (a' := ?_) #[true, true, true, true, true, true, true, true, true, true, true, true, true, true, true, true, true, false, false, false] rfl rfl (any_of HT_.out (by kernel_rfl)) (fun _ _ _ h => h) (Or.inr ⟨by rfl, rfl⟩) ?_ ?_
 rotate_left
 ·simp only [Act.put, sA1, sA2, sA3, i64_w, i32_w]
  rfl
 refine pure_ (i := 17) (N := some 21) (v := ?_) (a' := ?_) #[true, true, true, true, true, true, true, true, true, true, true, true, true, true, true, true, true, true, false, false] rfl rfl (any_of HT_.out (by kernel_rfl)) (fun _ _ _ h => h) (Or.inl ⟨by rfl, ?_⟩) ?_ ?_
 rotate_left
 ·intro w'
  go_simp
  with_reducible rfl
 rotate_left
 ·simp only [Act.put, sA1, sA2, sA3, i64_w, i32_w]
  rfl
 refine pure_ (i := 18) (N := some 22) (v := ?_) (a' := ?_) #[true, true, true, true, true, true, true, true, true, true, true, true, true, true, true, true, true, true, true, false] rfl rfl (any_of HT_.out (by kernel_rfl)) (fun _ _ _ h => h) (Or.inl ⟨by rfl, ?_⟩) ?_ ?_
 rotate_left
 ·intro w'
  go_simp
  with_reducible rfl
 rotate_left
 ·simp only [Act.put, sA1, sA2, sA3, i64_w, i32_w]
  rfl
 refine pure_ (i := 19) (N := some 3) (v := ?_) (a' := ?_) #[true, true, true, true, true, true, true, true, true, true, true, true, true, true, true, true, true, true, true, true] rfl rfl (any_of HT_.out (by kernel_rfl)) (fun _ _ _ h => h) (Or.inl ⟨by rfl, ?_⟩) ?_ ?_
 rotate_left
 ·intro w'
  go_simp
  with_reducible rfl
 rotate_left
 ·simp only [Act.put, sA1, sA2, sA3, i64_w, i32_w]
  rfl
 refine done_ (done_of HT_.out (by kernel_rfl)) ?_
 go_wp2
 go_ret
 exact ⟨rfl, hD1.w⟩
end Go.Proofs.Ytidaiafmhidooaa.Cp
end
