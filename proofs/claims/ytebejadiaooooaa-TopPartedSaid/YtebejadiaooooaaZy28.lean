/- Texts of one claim (laid by shake.py). -/
import Derived.Test.YtebejadiaooooaaZy24
import Derived.Test.YtebejadiaooooaaZy5
import Derived.Test.YtebejadiaooooaaZy27
import Derived.Test.YtebejadiaooooaaZy16
import Derived.Test.YtebejadiaooooaaZy10
import Derived.Test.YtebejadiaooooaaZy9
import Derived.LoopTactic
set_option linter.unusedVariables false
set_option linter.unusedSimpArgs false
section
namespace Go.Proofs.Ytebejadiaooooaa.P
open Go.RowKit Go.Proofs.YtebejadiaooooaaW.PrintWords Go.Proofs.YtebejadiaooooaaW.PrintLast Go.Proofs.YtebejadiaooooaaW.PrintMore Go.Proofs.Ytebejadiaooooaa.Own Go.Proofs.Ytebejadiaooooaa
theorem same_beq (a b : ByteArray) : (a.toList == b.toList) = same a b := by rw [Bool.eq_iff_iff]; simp [same]
def first (a b : ByteArray) : ByteArray := if before b a = true then b else a
def meet (f t g u : ByteArray) : ByteArray × ByteArray × Bool :=
 if (rr f t && rr g u && rr (mxs f g) (first t u)) = true then (mxs f g, first t u, true) else (e0, e0, false)
theorem Before_eq (a b : ByteArray) : key_Before.f a b = some (before a b) := by
 unfold key_Before.f before emp lt
 by_cases h1 : a.toList = []
 ·simp [h1]
 ·by_cases h2 : b.toList = [] <;> simp [h1, h2]
theorem First_eq (a b : ByteArray) : key_First.f a b = some (first a b) := by
 unfold key_First.f first
 rw [Before_eq]
 cases before b a <;> simp
theorem Meet_eq (n : Nat) (f t g u : ByteArray) : key_Meet.f (n + 9) f t g u = some (meet f t g u) := by
 unfold key_Meet.f meet
 rw [RightRange_eq, RightRange_eq]
 simp only [Option.bind_some]
 cases h1 : rr f t
 ·simp [key_Meet.j0]
 ·cases h2 : rr g u
  ·simp [key_Meet.j0]
  ·simp only [if_true, key_Meet.j0, Bool.not_true, Bool.false_eq_true, if_false]
   rw [First_eq]
   simp only [Option.bind_some, RightRange_eq]
   show (if rr (mxs f g) (first t u) = true then _ else _) = _
   cases h3 : rr (mxs f g) (first t u) <;> simp
def within (f t g u : ByteArray) : Bool := (meet f t g u).2.2 && (same (meet f t g u).1 f && same (meet f t g u).2.1 t)
theorem Within_eq (n : Nat) (f t g u : ByteArray) : key_Within.f (n + 9) f t g u = some (within f t g u) := by
 unfold key_Within.f within
 rw [Meet_eq, Option.bind_some, same_beq, same_beq]
 cases (meet f t g u).2.2 <;> simp
theorem holds_rr {a b s : ByteArray} (h : holds a b s = true) : rr a b = true := by
 rw [holds_def] at h
 simp only [Bool.and_eq_true, Bool.not_eq_true'] at h
 rw [rr_def]
 exact ah_le h.1 h.2
theorem lt_mxs (y f s : ByteArray) : lt s (mxs y f) = (lt s y || lt s f) := by
 have e : mxs y f = if lt y f = true then f else y := rfl
 rw [e]
 split
 ·rename_i h
  cases q : lt s y
  ·rfl
  ·rw [lt_trans q h]; rfl
 ·rename_i h
  have h : lt y f = false := by simpa using h
  cases q : lt s f
  ·simp
  ·rw [lt_of_lt_le q h]; rfl
theorem ah_first (t u s : ByteArray) : ah s (first t u) = (ah s t && ah s u) := by
 unfold first
 split
 ·rename_i h
  rw [before_def] at h
  simp only [Bool.and_eq_true, Bool.not_eq_true'] at h
  cases q : ah s u
  ·simp
  ·have : ah s t = true := by
    unfold ah at q
    rw [h.1] at q
    simp only [Bool.false_or] at q
    exact ah_lt q h.2
   rw [this]; rfl
 ·rename_i h
  have h : before u t = false := by simpa using h
  rw [before_def] at h
  cases q : ah s t
  ·rfl
  ·have : ah s u = true := by
    cases hu : emp u
    ·rw [hu] at h
     simp only [Bool.not_false, Bool.true_and] at h
     unfold ah at h q ⊢
     rw [hu]
     simp only [Bool.or_eq_false_iff] at h
     rw [h.1] at q
     simp only [Bool.false_or] at q ⊢
     exact lt_of_lt_le q h.2
    ·unfold ah; rw [hu]; rfl
   rw [this]; rfl
theorem holds_meet (y t f u s : ByteArray) : holds (mxs y f) (first t u) s = (holds y t s && holds f u s) := by
 rw [holds_def, holds_def, holds_def, lt_mxs, ah_first]
 cases lt s y <;> cases lt s f <;> cases ah s t <;> cases ah s u <;> rfl
end Go.Proofs.Ytebejadiaooooaa.P
end
section
namespace Go.Proofs.Ytebejadiaooooaa.P
open Go.RowKit Go.Proofs.YtebejadiaooooaaW.PrintWords Go.Proofs.YtebejadiaooooaaW.PrintLast Go.Proofs.YtebejadiaooooaaW.PrintMore Go.Proofs.Ytebejadiaooooaa.Own Go.Proofs.Ytebejadiaooooaa
def joinM (a b : Ms) : Ms :=
 if b.f0 = 3 then
  if a.f0 = 3 then ⟨b.f0, b.f1, b.f2, b.f3, b.f4, IntKind.u64.wrap (b.f5 + a.f5)⟩
  else ⟨1, b.f1, b.f2, e0, (applyV b.f0 b.f4 b.f5 (applyV a.f0 a.f4 a.f5 e0 false).1 (applyV a.f0 a.f4 a.f5 e0 false).2).1, 0⟩
 else b
theorem Join_eq (n : Nat) (a b : Ms) (ha : isPt a.f0 = true) (hb : isPt b.f0 = true) (hk : a.f2 = b.f2) : msg_Join.f (n + 10) a.f0 a.f1 a.f2 a.f3 a.f4 a.f5 b.f0 b.f1 b.f2 b.f3 b.f4 b.f5 = some ((joinM a b).f0, (joinM a b).f1, (joinM a b).f2, (joinM a b).f3, (joinM a b).f4, (joinM a b).f5, true) := by
 unfold msg_Join.f
 rw [IsPoint_eq, IsPoint_eq, ha, hb, hk]
 simp only [Option.bind_some, if_true, bne_self_eq_false, msg_Join.j0, Bool.false_eq_true, if_false]
 unfold joinM
 by_cases h3 : b.f0 = 3
 ·rw [if_pos h3, if_pos h3]
  by_cases h4 : a.f0 = 3
  ·rw [if_pos h4, if_pos h4]
  ·rw [if_neg h4, if_neg h4, Apply_eq, Option.bind_some, Apply_eq, Option.bind_some]
 ·rw [if_neg h3, if_neg h3]
theorem joinM_key (a b : Ms) : (joinM a b).f2 = b.f2 := by
 unfold joinM
 (repeat' split) <;> rfl
theorem joinM_pt {a b : Ms} (hb : isPt b.f0 = true) : isPt (joinM a b).f0 = true := by
 unfold joinM
 (repeat' split)
 ·exact hb
 ·rfl
 ·exact hb
def touchesM (m : Ms) (s : ByteArray) : Bool := touches m.f0 m.f2 m.f3 s
def lastN (l : List Ms) (s : ByteArray) : Nat → Int
 | 0 => -1
 | n + 1 => match l[n]? with
  | some m => if touchesM m s = true then (n : Int) else lastN l s n
  | none => lastN l s n
def lastI (l : List Ms) (s : ByteArray) : Int := lastN l s l.length
def okS (m : Ms) : Prop := m.f2.size ≤ 140737488351232
theorem last_loop (l : List Ms) (s : ByteArray) (hl : l.length ≤ 1000000) (hs : ∀ m ∈ l, okS m) : ∀ (n k : Nat), n ≤ l.length → n < k → compact_last.l0 k l s ((n : Int) - 1) = some (lastN l s n) := by
 intro n
 induction n with
 | zero =>
  intro k _ hk
  obtain ⟨k, rfl⟩ : ∃ m, k = m + 1 := ⟨k - 1, by omega⟩
  rw [compact_last.l0, if_neg (by omega)]
  rfl
 | succ n ih =>
  intro k hn hk
  obtain ⟨k, rfl⟩ : ∃ m, k = m + 1 := ⟨k - 1, by omega⟩
  have e : ((n + 1 : Nat) : Int) - 1 = (n : Int) := by omega
  have hx : l[n]? = some l[n] := List.getElem?_eq_getElem (by omega)
  rw [compact_last.l0, e, if_pos (by omega), if_pos (by omega), if_pos (by omega), rdM_at hx, Touches_eq _ _ _ _ _ _ _ (hs _ (List.getElem_mem _)), Option.bind_some, IntWalk.wrap64_in _ (by omega), ih k (by omega) (by omega)]
  have e2 : lastN l s (n + 1) = if touchesM l[n] s = true then (n : Int) else lastN l s n := by rw [lastN, hx]
  rw [e2]
  unfold touchesM
  split <;> rfl
theorem last_eq (k : Nat) (l : List Ms) (s : ByteArray) (hl : l.length ≤ 1000000) (hs : ∀ m ∈ l, okS m) (hk : l.length < k) : compact_last.f k l s = some (lastI l s) := by
 unfold compact_last.f lastI
 rw [IntWalk.wrap64_in _ (by omega)]
 exact last_loop l s hl hs l.length k (Nat.le_refl _) hk
theorem lastN_spec (l : List Ms) (s : ByteArray) : ∀ n, n ≤ l.length → (lastN l s n = -1 ∧ ∀ j m, j < n → l[j]? = some m → touchesM m s = false) ∨ ∃ i m, i < n ∧ lastN l s n = (i : Int) ∧ l[i]? = some m ∧ touchesM m s = true ∧ ∀ j x, i < j → j < n → l[j]? = some x → touchesM x s = false
 | 0, _ => .inl ⟨rfl, fun j m h => by omega⟩
 | n + 1, hn => by
  have hx : l[n]? = some l[n] := List.getElem?_eq_getElem (by omega)
  unfold lastN
  rw [hx]
  simp only
  by_cases ht : touchesM l[n] s = true
  ·rw [if_pos ht]
   exact .inr ⟨n, l[n], by omega, rfl, hx, ht, fun j x h1 h2 => by omega⟩
  ·rw [if_neg ht]
   have htf : touchesM l[n] s = false := by simpa using ht
   rcases lastN_spec l s n (by omega) with ⟨h1, h2⟩ | ⟨i, m, h1, h2, h3, h4, h5⟩
   ·refine .inl ⟨h1, fun j m hj hm => ?_⟩
    rcases Nat.lt_or_ge j n with hj' | hj'
    ·exact h2 j m hj' hm
    ·obtain rfl : j = n := by omega
     rw [hx] at hm
     rw [← Option.some.inj hm]; exact htf
   ·refine .inr ⟨i, m, by omega, h2, h3, h4, fun j x hj hj2 hx2 => ?_⟩
    rcases Nat.lt_or_ge j n with hj' | hj'
    ·exact h5 j x hj hj' hx2
    ·obtain rfl : j = n := by omega
     rw [hx] at hx2
     rw [← Option.some.inj hx2]; exact htf
theorem lastI_spec (l : List Ms) (s : ByteArray) : (lastI l s = -1 ∧ ∀ (j : Nat) (m : Ms), l[j]? = some m → touchesM m s = false) ∨ ∃ (i : Nat) (m : Ms), i < l.length ∧ lastI l s = (i : Int) ∧ l[i]? = some m ∧ touchesM m s = true ∧ ∀ (j : Nat) (x : Ms), i < j → l[j]? = some x → touchesM x s = false := by
 rcases lastN_spec l s l.length (Nat.le_refl _) with ⟨h1, h2⟩ | ⟨i, m, h1, h2, h3, h4, h5⟩
 ·exact .inl ⟨h1, fun j m h => h2 j m (List.getElem?_eq_some_iff.1 h).1 h⟩
 ·exact .inr ⟨i, m, h1, h2, h3, h4, fun j x hj hx => h5 j x hj (List.getElem?_eq_some_iff.1 hx).1 hx⟩
def pointF : Nat → List Ms → Ms → List Ms
 | 0, l, m => l ++ [m]
 | n + 1, l, m =>
  if lastI l m.f2 < 0 then l ++ [m]
  else match l[(lastI l m.f2).toNat]? with
   | none => l ++ [m]
   | some x =>
    if isPt x.f0 = true then pointF n (l.eraseIdx (lastI l m.f2).toNat) (joinM x m)
    else if m.f0 = 2 then l
    else if m.f0 = 3 then l ++ [⟨1, m.f1, m.f2, e0, strOfNums (Wp.eight m.f5), 0⟩]
    else l ++ [m]
def pointV (l : List Ms) (m : Ms) : List Ms := pointF (l.length + 1) l m
def gone (f t : ByteArray) (x : Ms) : Bool := (isPt x.f0 && holds f t x.f2) || (decide (x.f0 = 4) && within x.f2 x.f3 f t)
def stepV (out : List Ms) (m : Ms) : List Ms :=
 if isPt m.f0 = true then pointV out m
 else if (decide (m.f0 = 4) && rr m.f2 m.f3) = true then out.filter (fun x => !gone m.f2 m.f3 x) ++ [m]
 else out
def listV (l : List Ms) : List Ms := l.foldl stepV []
theorem pointF_length : ∀ (n : Nat) (l : List Ms) (m : Ms), (pointF n l m).length ≤ l.length + 1
 | 0, l, m => by simp [pointF]
 | n + 1, l, m => by
  unfold pointF
  split
  ·simp
  ·split
   ·simp
   ·split
    ·refine Nat.le_trans (pointF_length n _ _) ?_
     have := List.length_eraseIdx_le l (lastI l m.f2).toNat
     omega
    ·(repeat' split) <;> simp
theorem stepV_length (out : List Ms) (m : Ms) : (stepV out m).length ≤ out.length + 1 := by
 unfold stepV
 split
 ·exact pointF_length _ _ _
 ·split
  ·have := List.length_filter_le (fun x => !gone m.f2 m.f3 x) out
   simp only [List.length_append, List.length_singleton]
   omega
  ·omega
theorem pointF_okS : ∀ (n : Nat) (l : List Ms) (m : Ms), (∀ x ∈ l, okS x) → okS m → ∀ x ∈ pointF n l m, okS x
 | 0, l, m, hl, hm, x, hx => by
  simp only [pointF, List.mem_append, List.mem_singleton] at hx
  rcases hx with hx | rfl
  ·exact hl x hx
  ·exact hm
 | n + 1, l, m, hl, hm, x, hx => by
  have app : ∀ y : Ms, y.f2 = m.f2 → x ∈ l ++ [y] → okS x := fun y hy h => by
   simp only [List.mem_append, List.mem_singleton] at h
   rcases h with h | rfl
   ·exact hl x h
   ·unfold okS; rw [hy]; exact hm
  unfold pointF at hx
  split at hx
  ·exact app m rfl hx
  ·split at hx
   ·exact app m rfl hx
   ·split at hx
    ·refine pointF_okS n _ _ (fun y hy => hl y (List.mem_of_mem_eraseIdx hy)) ?_ x hx
     unfold okS; rw [joinM_key]; exact hm
    ·split at hx
     ·exact hl x hx
     ·split at hx
      ·exact app ⟨1, m.f1, m.f2, e0, strOfNums (Wp.eight m.f5), 0⟩ rfl hx
      ·exact app m rfl hx
theorem stepV_okS (out : List Ms) (m : Ms) (hl : ∀ x ∈ out, okS x) (hm : okS m) : ∀ x ∈ stepV out m, okS x := by
 intro x hx
 unfold stepV at hx
 split at hx
 ·exact pointF_okS _ _ _ hl hm x hx
 ·split at hx
  ·simp only [List.mem_append, List.mem_singleton] at hx
   rcases hx with hx | rfl
   ·exact hl x (List.mem_filter.1 hx).1
   ·exact hm
  ·exact hl x hx
end Go.Proofs.Ytebejadiaooooaa.P
end
section
namespace Go.Proofs.Ytebejadiaooooaa.Cp
open Go.RowKit Go.Shelf Go.Proofs.YtebejadiaooooaaW.PrintWords Go.Proofs.YtebejadiaooooaaW.PrintLast Go.Proofs.YtebejadiaooooaaW.PrintMore Go.Proofs.Ytebejadiaooooaa.Own Go.Proofs.Ytebejadiaooooaa
set_option maxHeartbeats 4000000
set_option maxRecDepth 100000
abbrev aggM (m : Ms) : Value := .agg #[.int .u8 m.f0, .int .i64 m.f1, .string m.f2, .string m.f3, .string m.f4, .int .u64 m.f5]
abbrev objM (m : Ms) : Obj := .cells #[.int .u8 m.f0, .int .i64 m.f1, .string m.f2, .string m.f3, .string m.f4, .int .u64 m.f5] 32 (0, 0)
abbrev objR (f t : ByteArray) : Obj := .cells #[.string f, .string t] 28 (0, 0)
theorem isPt_any (m : Ms) (W : World) : Calls Try.prog 55 #[aggM m] W fun e w' => e = .returned (.bool (P.isPt m.f0)) ∧ Below W.heap.size W w' :=
 P.msg_IsPoint.calls _ _ _ _ _ _ _ W (P.IsPoint_eq _ _ _ _ _ _)
theorem holds_any (f t s : ByteArray) (W : World) : Calls Try.prog 56 #[.agg #[.string f, .string t], .string s] W fun e w' => e = .returned (.bool (P.holds f t s)) ∧ Below W.heap.size W w' :=
 P.key_Holds.calls _ _ _ _ W (P.Holds_eq _ _ _)
theorem span_any (m : Ms) (hm : P.okS m) (W : World) : Calls Try.prog 58 #[aggM m] W fun e w' => e = .returned (.agg #[.string (P.span m.f0 m.f2 m.f3).1, .string (P.span m.f0 m.f2 m.f3).2]) ∧ Below W.heap.size W w' :=
 P.msg_Span.calls _ _ _ _ _ _ _ _ W (P.Span_eq _ _ _ _ _ _ hm)
theorem within_any (f t g u : ByteArray) (W : World) : Calls Try.prog 63 #[.agg #[.string f, .string t], .agg #[.string g, .string u]] W fun e w' => e = .returned (.bool (P.within f t g u)) ∧ Below W.heap.size W w' :=
 P.key_Within.calls (0 + 9) _ _ _ _ _ W (P.Within_eq 0 _ _ _ _)
structure Bx (W0 : World) (D : Nat) (x : Ms) (B : Nat) (f t : ByteArray) (w : World) : Prop where
 d : w.heap[D]? = some (objM x)
 b : w.heap[B]? = some (objR f t)
 w : Below W0.heap.size W0 w
theorem Bx.below {W0 w w' : World} {D B : Nat} {x : Ms} {f t : ByteArray} (h : Bx W0 D x B f t w) (hb : Below w.heap.size w w') : Bx W0 D x B f t w' := ⟨blk_below h.d hb, blk_below h.b hb, below_step h.w hb⟩
theorem Bx.cells {W0 w : World} {D B : Nat} {x : Ms} {f t : ByteArray} (h : Bx W0 D x B f t w) : w.cell? ⟨D, 0, none⟩ = some (.int .u8 x.f0) ∧ w.cell? ⟨D, 1, none⟩ = some (.int .i64 x.f1) ∧ w.cell? ⟨D, 2, none⟩ = some (.string x.f2) ∧ w.cell? ⟨D, 3, none⟩ = some (.string x.f3) ∧ w.cell? ⟨D, 4, none⟩ = some (.string x.f4) ∧ w.cell? ⟨D, 5, none⟩ = some (.int .u64 x.f5) ∧ w.cell? ⟨B, 0, none⟩ = some (.string f) ∧ w.cell? ⟨B, 1, none⟩ = some (.string t) :=
 ⟨blk_cell h.d 0, blk_cell h.d 1, blk_cell h.d 2, blk_cell h.d 3, blk_cell h.d 4, blk_cell h.d 5, blk_cell h.b 0, blk_cell h.b 1⟩
end Go.Proofs.Ytebejadiaooooaa.Cp
end
section
namespace Go.Proofs.Ytebejadiaooooaa.Cp
open Go.RowKit Go.Shelf Go.Proofs.YtebejadiaooooaaW.PrintWords Go.Proofs.YtebejadiaooooaaW.PrintLast Go.Proofs.YtebejadiaooooaaW.PrintMore Go.Proofs.Ytebejadiaooooaa.Own Go.Proofs.Ytebejadiaooooaa
open List renaming setIfInBounds_toArray → sA1, set_cons_zero → sA2, set_cons_succ → sA3, getElem_toArray → sA4, getElem_cons_zero → sA5, getElem_cons_succ → sA6
set_option maxHeartbeats 4000000
set_option maxRecDepth 100000
theorem goneT : rtab .any (opsOf Try.f62 1) = rtab .any (opsOf Try.f62 1) := rfl
theorem gone_A {W : World} {B : Nat} {f t : ByteArray} (hB : W.heap[B]? = some (objR f t)) (x : Ms) (hx : P.okS x) (hp : P.isPt x.f0 = true) (hh : P.holds f t x.f2 = true) :
  Calls Try.prog 62 #[aggM x, .pointer (some ⟨B, 0, none⟩)] W fun e w' => e = .returned (.bool true) ∧ Below W.heap.size W w' := by
 have P1 := isPt_any x
 rw [hp] at P1
 have P2 := holds_any f t x.f2
 rw [hh] at P2
 clear hp hh
 have hum := Try.underlying32
 have hur := Try.underlying28
 have hD : Bx W W.heap.size x B f t (W.alloc (objM x)).drew := ⟨blk_new W _, blk_alloc hB _, below_drew (below_alloc (Below.refl _ _) _)⟩
 clear hB
 go_enter Try.func62, Try.ntmps62
 go_wp2
 refine start_ (n := 20) (S := fun w' => w'.cell? ⟨W.heap.size, 0, none⟩ = some (.int .u8 x.f0) ∧ w'.cell? ⟨W.heap.size, 1, none⟩ = some (.int .i64 x.f1) ∧ w'.cell? ⟨W.heap.size, 2, none⟩ = some (.string x.f2) ∧ w'.cell? ⟨W.heap.size, 3, none⟩ = some (.string x.f3) ∧ w'.cell? ⟨W.heap.size, 4, none⟩ = some (.string x.f4) ∧ w'.cell? ⟨W.heap.size, 5, none⟩ = some (.int .u64 x.f5) ∧ w'.cell? ⟨B, 0, none⟩ = some (.string f) ∧ w'.cell? ⟨B, 1, none⟩ = some (.string t)) (ds := []) #[false, false, false, false, false, false, false, false, false, false, false, false, false, false, false, false, false, false, false, false] (by kernel_rfl) rfl rfl hD.cells (fun hHeld => ?_)
 have HT_ := Aside0.mk goneT
 generalize (W.alloc (objM x)).drew = w0 at hD hHeld ⊢
 refine take_ (i := 0) (N := some 4) (v := ?_) (a' := ?_) #[true, false, false, false, false, false, false, false, false, false, false, false, false, false, false, false, false, false, false, false] rfl rfl (take_of HT_.out (by kernel_rfl)) (fun _ _ _ h => h) (Or.inl ⟨by rfl, ?_⟩) hHeld ?_ ?_
 rotate_left
 ·rintro w' ⟨s0, s1, s2, s3, s4, s5, s6, s7⟩
  go_simp
  with_reducible rfl
 rotate_left
 ·simp only [Act.put, sA1, sA2, sA3, i64_w, i32_w]
  rfl
 refine one_ (i := 1) (N := some 5) #[true, true, false, false, false, false, false, false, false, false, false, false, false, false, false, false, false, false, false, false] rfl rfl (one_of HT_.out (by kernel_rfl)) (by decide) (fun K hK => ?_)
 refine goes_ Try.func55 (by kernel_rfl) rfl #[aggM x] (by rfl) rfl rfl (by (try simp only [List.map_toArray, List.map_cons, List.map_nil]); first | done | rfl) ?_
 refine (P1 _).mono ?_
 rintro e w1 ⟨rfl, hb1⟩
 refine ⟨_, rfl, ?_⟩
 have hD1 := hD.below hb1
 refine hK.out _ _ hD1.cells (fun hHeld => ?_)
 clear hK K
 refine norm_ (a' := ?_) ?_ ?_
 rotate_left
 ·show Act.put _ (some 5) _ = _
  simp only [Act.put, sA1, sA2, sA3, i64_w, i32_w]
  rfl
 refine pU_ 2 6 #[true, true, true, false, false, false, false, false, false, false, false, false, false, false, false, false, false, false, false, false] ?_
 refine take_ (i := 3) (N := some 7) (v := ?_) (a' := ?_) #[true, true, true, true, false, false, false, false, false, false, false, false, false, false, false, false, false, false, false, false] rfl rfl (take_of HT_.out (by kernel_rfl)) (fun _ _ _ h => h) (Or.inl ⟨by rfl, ?_⟩) hHeld ?_ ?_
 rotate_left
 ·rintro w' ⟨s0, s1, s2, s3, s4, s5, s6, s7⟩
  go_simp
  with_reducible rfl
 rotate_left
 ·simp only [Act.put, sA1, sA2, sA3, i64_w, i32_w]
  rfl
 refine pU_ 4 8 #[true, true, true, true, true, false, false, false, false, false, false, false, false, false, false, false, false, false, false, false] ?_
 refine take_ (i := 5) (N := some 9) (v := ?_) (a' := ?_) #[true, true, true, true, true, true, false, false, false, false, false, false, false, false, false, false, false, false, false, false] rfl rfl (take_of HT_.out (by kernel_rfl)) (fun _ _ _ h => h) (Or.inl ⟨by rfl, ?_⟩) hHeld ?_ ?_
 rotate_left
 ·rintro w' ⟨s0, s1, s2, s3, s4, s5, s6, s7⟩
  go_simp
  with_reducible rfl
 rotate_left
 ·simp only [Act.put, sA1, sA2, sA3, i64_w, i32_w]
  rfl
 refine one_ (i := 6) (N := some 10) #[true, true, true, true, true, true, true, false, false, false, false, false, false, false, false, false, false, false, false, false] rfl rfl (one_of HT_.out (by kernel_rfl)) (by decide) (fun K hK => ?_)
 refine goes_ Try.func56 (by kernel_rfl) rfl #[.agg #[.string f, .string t], .string x.f2] (by rfl) rfl rfl (by (try simp only [List.map_toArray, List.map_cons, List.map_nil]); first | done | rfl) ?_
 refine (P2 _).mono ?_
 rintro e w2 ⟨rfl, hb2⟩
 refine ⟨_, rfl, ?_⟩
 have hD2 := hD1.below hb2
 refine hK.out _ _ hD2.cells (fun hHeld => ?_)
 clear hK K
 refine norm_ (a' := ?_) ?_ ?_
 rotate_left
 ·show Act.put _ (some 10) _ = _
  simp only [Act.put, sA1, sA2, sA3, i64_w, i32_w]
  rfl
 refine pU_ 7 11 #[true, true, true, true, true, true, true, true, false, false, false, false, false, false, false, false, false, false, false, false] ?_
 refine pU_ 8 12 #[true, true, true, true, true, true, true, true, true, false, false, false, false, false, false, false, false, false, false, false] ?_
 refine oF_ 9 13 #[true, true, true, true, true, true, true, true, true, true, false, false, false, false, false, false, false, false, false, false] ?_
 refine oF_ 10 14 #[true, true, true, true, true, true, true, true, true, true, true, false, false, false, false, false, false, false, false, false] ?_
 refine oF_ 11 15 #[true, true, true, true, true, true, true, true, true, true, true, true, false, false, false, false, false, false, false, false] ?_
 refine oF_ 12 16 #[true, true, true, true, true, true, true, true, true, true, true, true, true, false, false, false, false, false, false, false] ?_
 refine oF_ 13 17 #[true, true, true, true, true, true, true, true, true, true, true, true, true, true, false, false, false, false, false, false] ?_
 refine oF_ 15 19 #[true, true, true, true, true, true, true, true, true, true, true, true, true, true, false, true, false, false, false, false] ?_
 refine oF_ 14 18 #[true, true, true, true, true, true, true, true, true, true, true, true, true, true, true, true, false, false, false, false] ?_
 refine oF_ 16 20 #[true, true, true, true, true, true, true, true, true, true, true, true, true, true, true, true, true, false, false, false] ?_
 refine oF_ 17 21 #[true, true, true, true, true, true, true, true, true, true, true, true, true, true, true, true, true, true, false, false] ?_
 refine pU_ 18 22 #[true, true, true, true, true, true, true, true, true, true, true, true, true, true, true, true, true, true, true, false] ?_
 refine pU_ 19 3 #[true, true, true, true, true, true, true, true, true, true, true, true, true, true, true, true, true, true, true, true] ?_
 refine done_ (done_of HT_.out (by kernel_rfl)) ?_
 go_wp2
 go_ret
 exact ⟨rfl, hD2.w⟩
theorem gone_B {W : World} {B : Nat} {f t : ByteArray} (hB : W.heap[B]? = some (objR f t)) (x : Ms) (hx : P.okS x) (hp : P.isPt x.f0 = true) (hh : P.holds f t x.f2 = false) (hk : (x.f0 == 4) = false) :
  Calls Try.prog 62 #[aggM x, .pointer (some ⟨B, 0, none⟩)] W fun e w' => e = .returned (.bool false) ∧ Below W.heap.size W w' := by
 have P1 := isPt_any x
 rw [hp] at P1
 have P2 := holds_any f t x.f2
 rw [hh] at P2
 clear hp hh
 have hum := Try.underlying32
 have hur := Try.underlying28
 have hD : Bx W W.heap.size x B f t (W.alloc (objM x)).drew := ⟨blk_new W _, blk_alloc hB _, below_drew (below_alloc (Below.refl _ _) _)⟩
 clear hB
 go_enter Try.func62, Try.ntmps62
 go_wp2
 refine start_ (n := 20) (S := fun w' => w'.cell? ⟨W.heap.size, 0, none⟩ = some (.int .u8 x.f0) ∧ w'.cell? ⟨W.heap.size, 1, none⟩ = some (.int .i64 x.f1) ∧ w'.cell? ⟨W.heap.size, 2, none⟩ = some (.string x.f2) ∧ w'.cell? ⟨W.heap.size, 3, none⟩ = some (.string x.f3) ∧ w'.cell? ⟨W.heap.size, 4, none⟩ = some (.string x.f4) ∧ w'.cell? ⟨W.heap.size, 5, none⟩ = some (.int .u64 x.f5) ∧ w'.cell? ⟨B, 0, none⟩ = some (.string f) ∧ w'.cell? ⟨B, 1, none⟩ = some (.string t)) (ds := []) #[false, false, false, false, false, false, false, false, false, false, false, false, false, false, false, false, false, false, false, false] (by kernel_rfl) rfl rfl hD.cells (fun hHeld => ?_)
 have HT_ := Aside0.mk goneT
 generalize (W.alloc (objM x)).drew = w0 at hD hHeld ⊢
 refine take_ (i := 0) (N := some 4) (v := ?_) (a' := ?_) #[true, false, false, false, false, false, false, false, false, false, false, false, false, false, false, false, false, false, false, false] rfl rfl (take_of HT_.out (by kernel_rfl)) (fun _ _ _ h => h) (Or.inl ⟨by rfl, ?_⟩) hHeld ?_ ?_
 rotate_left
 ·rintro w' ⟨s0, s1, s2, s3, s4, s5, s6, s7⟩
  go_simp
  with_reducible rfl
 rotate_left
 ·simp only [Act.put, sA1, sA2, sA3, i64_w, i32_w]
  rfl
 refine one_ (i := 1) (N := some 5) #[true, true, false, false, false, false, false, false, false, false, false, false, false, false, false, false, false, false, false, false] rfl rfl (one_of HT_.out (by kernel_rfl)) (by decide) (fun K hK => ?_)
 refine goes_ Try.func55 (by kernel_rfl) rfl #[aggM x] (by rfl) rfl rfl (by (try simp only [List.map_toArray, List.map_cons, List.map_nil]); first | done | rfl) ?_
 refine (P1 _).mono ?_
 rintro e w1 ⟨rfl, hb1⟩
 refine ⟨_, rfl, ?_⟩
 have hD1 := hD.below hb1
 refine hK.out _ _ hD1.cells (fun hHeld => ?_)
 clear hK K
 refine norm_ (a' := ?_) ?_ ?_
 rotate_left
 ·show Act.put _ (some 5) _ = _
  simp only [Act.put, sA1, sA2, sA3, i64_w, i32_w]
  rfl
 refine pU_ 2 6 #[true, true, true, false, false, false, false, false, false, false, false, false, false, false, false, false, false, false, false, false] ?_
 refine take_ (i := 3) (N := some 7) (v := ?_) (a' := ?_) #[true, true, true, true, false, false, false, false, false, false, false, false, false, false, false, false, false, false, false, false] rfl rfl (take_of HT_.out (by kernel_rfl)) (fun _ _ _ h => h) (Or.inl ⟨by rfl, ?_⟩) hHeld ?_ ?_
 rotate_left
 ·rintro w' ⟨s0, s1, s2, s3, s4, s5, s6, s7⟩
  go_simp
  with_reducible rfl
 rotate_left
 ·simp only [Act.put, sA1, sA2, sA3, i64_w, i32_w]
  rfl
 refine pU_ 4 8 #[true, true, true, true, true, false, false, false, false, false, false, false, false, false, false, false, false, false, false, false] ?_
 refine take_ (i := 5) (N := some 9) (v := ?_) (a' := ?_) #[true, true, true, true, true, true, false, false, false, false, false, false, false, false, false, false, false, false, false, false] rfl rfl (take_of HT_.out (by kernel_rfl)) (fun _ _ _ h => h) (Or.inl ⟨by rfl, ?_⟩) hHeld ?_ ?_
 rotate_left
 ·rintro w' ⟨s0, s1, s2, s3, s4, s5, s6, s7⟩
  go_simp
  with_reducible rfl
 rotate_left
 ·simp only [Act.put, sA1, sA2, sA3, i64_w, i32_w]
  rfl
 refine one_ (i := 6) (N := some 10) #[true, true, true, true, true, true, true, false, false, false, false, false, false, false, false, false, false, false, false, false] rfl rfl (one_of HT_.out (by kernel_rfl)) (by decide) (fun K hK => ?_)
 refine goes_ Try.func56 (by kernel_rfl) rfl #[.agg #[.string f, .string t], .string x.f2] (by rfl) rfl rfl (by (try simp only [List.map_toArray, List.map_cons, List.map_nil]); first | done | rfl) ?_
 refine (P2 _).mono ?_
 rintro e w2 ⟨rfl, hb2⟩
 refine ⟨_, rfl, ?_⟩
 have hD2 := hD1.below hb2
 refine hK.out _ _ hD2.cells (fun hHeld => ?_)
 clear hK K
 refine norm_ (a' := ?_) ?_ ?_
 rotate_left
 ·show Act.put _ (some 10) _ = _
  simp only [Act.put, sA1, sA2, sA3, i64_w, i32_w]
  rfl
 refine pU_ 7 11 #[true, true, true, true, true, true, true, true, false, false, false, false, false, false, false, false, false, false, false, false] ?_
 refine pU_ 8 12 #[true, true, true, true, true, true, true, true, true, false, false, false, false, false, false, false, false, false, false, false] ?_
 refine pU_ 9 13 #[true, true, true, true, true, true, true, true, true, true, false, false, false, false, false, false, false, false, false, false] ?_
 refine take_ (i := 10) (N := some 14) (v := ?_) (a' := ?_) #[true, true, true, true, true, true, true, true, true, true, true, false, false, false, false, false, false, false, false, false] rfl rfl (take_of HT_.out (by kernel_rfl)) (fun _ _ _ h => h) (Or.inl ⟨by rfl, ?_⟩) hHeld ?_ ?_
 rotate_left
 ·rintro w' ⟨s0, s1, s2, s3, s4, s5, s6, s7⟩
  go_simp
  with_reducible rfl
 rotate_left
 ·simp only [Act.put, sA1, sA2, sA3, i64_w, i32_w]
  rfl
 refine pU_ 11 15 #[true, true, true, true, true, true, true, true, true, true, true, true, false, false, false, false, false, false, false, false] ?_
 refine pU_ 12 16 #[true, true, true, true, true, true, true, true, true, true, true, true, true, false, false, false, false, false, false, false] ?_
 refine oF_ 13 17 #[true, true, true, true, true, true, true, true, true, true, true, true, true, true, false, false, false, false, false, false] ?_
 refine oF_ 15 19 #[true, true, true, true, true, true, true, true, true, true, true, true, true, true, false, true, false, false, false, false] ?_
 refine oF_ 14 18 #[true, true, true, true, true, true, true, true, true, true, true, true, true, true, true, true, false, false, false, false] ?_
 refine oF_ 16 20 #[true, true, true, true, true, true, true, true, true, true, true, true, true, true, true, true, true, false, false, false] ?_
 refine pU_ 17 21 #[true, true, true, true, true, true, true, true, true, true, true, true, true, true, true, true, true, true, false, false] ?_
 refine pU_ 18 22 #[true, true, true, true, true, true, true, true, true, true, true, true, true, true, true, true, true, true, true, false] ?_
 refine pU_ 19 3 #[true, true, true, true, true, true, true, true, true, true, true, true, true, true, true, true, true, true, true, true] ?_
 refine done_ (done_of HT_.out (by kernel_rfl)) ?_
 go_wp2
 go_ret
 exact ⟨rfl, hD2.w⟩
theorem gone_C {W : World} {B : Nat} {f t : ByteArray} (hB : W.heap[B]? = some (objR f t)) (x : Ms) (hx : P.okS x) (hp : P.isPt x.f0 = false) (hk : (x.f0 == 4) = true) :
  Calls Try.prog 62 #[aggM x, .pointer (some ⟨B, 0, none⟩)] W fun e w' => e = .returned (.bool (P.within x.f2 x.f3 f t)) ∧ Below W.heap.size W w' := by
 have P1 := isPt_any x
 rw [hp] at P1
 have P3 := span_any x hx
 rw [show P.span x.f0 x.f2 x.f3 = (x.f2, x.f3) from by unfold P.span; rw [if_neg (by simp [hp]), if_pos (by simpa using hk)]] at P3
 have P4 := within_any x.f2 x.f3 f t
 clear hp
 have hum := Try.underlying32
 have hur := Try.underlying28
 have hD : Bx W W.heap.size x B f t (W.alloc (objM x)).drew := ⟨blk_new W _, blk_alloc hB _, below_drew (below_alloc (Below.refl _ _) _)⟩
 clear hB
 go_enter Try.func62, Try.ntmps62
 go_wp2
 refine start_ (n := 20) (S := fun w' => w'.cell? ⟨W.heap.size, 0, none⟩ = some (.int .u8 x.f0) ∧ w'.cell? ⟨W.heap.size, 1, none⟩ = some (.int .i64 x.f1) ∧ w'.cell? ⟨W.heap.size, 2, none⟩ = some (.string x.f2) ∧ w'.cell? ⟨W.heap.size, 3, none⟩ = some (.string x.f3) ∧ w'.cell? ⟨W.heap.size, 4, none⟩ = some (.string x.f4) ∧ w'.cell? ⟨W.heap.size, 5, none⟩ = some (.int .u64 x.f5) ∧ w'.cell? ⟨B, 0, none⟩ = some (.string f) ∧ w'.cell? ⟨B, 1, none⟩ = some (.string t)) (ds := []) #[false, false, false, false, false, false, false, false, false, false, false, false, false, false, false, false, false, false, false, false] (by kernel_rfl) rfl rfl hD.cells (fun hHeld => ?_)
 have HT_ := Aside0.mk goneT
 generalize (W.alloc (objM x)).drew = w0 at hD hHeld ⊢
 refine take_ (i := 0) (N := some 4) (v := ?_) (a' := ?_) #[true, false, false, false, false, false, false, false, false, false, false, false, false, false, false, false, false, false, false, false] rfl rfl (take_of HT_.out (by kernel_rfl)) (fun _ _ _ h => h) (Or.inl ⟨by rfl, ?_⟩) hHeld ?_ ?_
 rotate_left
 ·rintro w' ⟨s0, s1, s2, s3, s4, s5, s6, s7⟩
  go_simp
  with_reducible rfl
 rotate_left
 ·simp only [Act.put, sA1, sA2, sA3, i64_w, i32_w]
  rfl
 refine one_ (i := 1) (N := some 5) #[true, true, false, false, false, false, false, false, false, false, false, false, false, false, false, false, false, false, false, false] rfl rfl (one_of HT_.out (by kernel_rfl)) (by decide) (fun K hK => ?_)
 refine goes_ Try.func55 (by kernel_rfl) rfl #[aggM x] (by rfl) rfl rfl (by (try simp only [List.map_toArray, List.map_cons, List.map_nil]); first | done | rfl) ?_
 refine (P1 _).mono ?_
 rintro e w1 ⟨rfl, hb1⟩
 refine ⟨_, rfl, ?_⟩
 have hD1 := hD.below hb1
 refine hK.out _ _ hD1.cells (fun hHeld => ?_)
 clear hK K
 refine norm_ (a' := ?_) ?_ ?_
 rotate_left
 ·show Act.put _ (some 5) _ = _
  simp only [Act.put, sA1, sA2, sA3, i64_w, i32_w]
  rfl
 refine pU_ 2 6 #[true, true, true, false, false, false, false, false, false, false, false, false, false, false, false, false, false, false, false, false] ?_
 refine oF_ 3 7 #[true, true, true, true, false, false, false, false, false, false, false, false, false, false, false, false, false, false, false, false] ?_
 refine oF_ 4 8 #[true, true, true, true, true, false, false, false, false, false, false, false, false, false, false, false, false, false, false, false] ?_
 refine oF_ 5 9 #[true, true, true, true, true, true, false, false, false, false, false, false, false, false, false, false, false, false, false, false] ?_
 refine oF_ 6 10 #[true, true, true, true, true, true, true, false, false, false, false, false, false, false, false, false, false, false, false, false] ?_
 refine pU_ 7 11 #[true, true, true, true, true, true, true, true, false, false, false, false, false, false, false, false, false, false, false, false] ?_
 refine pU_ 8 12 #[true, true, true, true, true, true, true, true, true, false, false, false, false, false, false, false, false, false, false, false] ?_
 refine pU_ 9 13 #[true, true, true, true, true, true, true, true, true, true, false, false, false, false, false, false, false, false, false, false] ?_
 refine take_ (i := 10) (N := some 14) (v := ?_) (a' := ?_) #[true, true, true, true, true, true, true, true, true, true, true, false, false, false, false, false, false, false, false, false] rfl rfl (take_of HT_.out (by kernel_rfl)) (fun _ _ _ h => h) (Or.inl ⟨by rfl, ?_⟩) hHeld ?_ ?_
 rotate_left
 ·rintro w' ⟨s0, s1, s2, s3, s4, s5, s6, s7⟩
  go_simp
  with_reducible rfl
 rotate_left
 ·simp only [Act.put, sA1, sA2, sA3, i64_w, i32_w]
  rfl
 refine pU_ 11 15 #[true, true, true, true, true, true, true, true, true, true, true, true, false, false, false, false, false, false, false, false] ?_
 refine pU_ 12 16 #[true, true, true, true, true, true, true, true, true, true, true, true, true, false, false, false, false, false, false, false] ?_
 refine take_ (i := 13) (N := some 17) (v := ?_) (a' := ?_) #[true, true, true, true, true, true, true, true, true, true, true, true, true, true, false, false, false, false, false, false] rfl rfl (take_of HT_.out (by kernel_rfl)) (fun _ _ _ h => h) (Or.inl ⟨by rfl, ?_⟩) hHeld ?_ ?_
 rotate_left
 ·rintro w' ⟨s0, s1, s2, s3, s4, s5, s6, s7⟩
  go_simp
  with_reducible rfl
 rotate_left
 ·simp only [Act.put, sA1, sA2, sA3, i64_w, i32_w]
  rfl
 refine take_ (i := 15) (N := some 19) (v := ?_) (a' := ?_) #[true, true, true, true, true, true, true, true, true, true, true, true, true, true, false, true, false, false, false, false] rfl rfl (take_of HT_.out (by kernel_rfl)) (fun _ _ _ h => h) (Or.inl ⟨by rfl, ?_⟩) hHeld ?_ ?_
 rotate_left
 ·rintro w' ⟨s0, s1, s2, s3, s4, s5, s6, s7⟩
  go_simp
  with_reducible rfl
 rotate_left
 ·simp only [Act.put, sA1, sA2, sA3, i64_w, i32_w]
  rfl
 refine one_ (i := 14) (N := some 18) #[true, true, true, true, true, true, true, true, true, true, true, true, true, true, true, true, false, false, false, false] rfl rfl (one_of HT_.out (by kernel_rfl)) (by decide) (fun K hK => ?_)
 refine goes_ Try.func58 (by kernel_rfl) rfl #[aggM x] (by rfl) rfl rfl (by (try simp only [List.map_toArray, List.map_cons, List.map_nil]); first | done | rfl) ?_
 refine (P3 _).mono ?_
 rintro e w2 ⟨rfl, hb2⟩
 refine ⟨_, rfl, ?_⟩
 have hD2 := hD1.below hb2
 refine hK.out _ _ hD2.cells (fun hHeld => ?_)
 clear hK K
 refine norm_ (a' := ?_) ?_ ?_
 rotate_left
 ·show Act.put _ (some 18) _ = _
  simp only [Act.put, sA1, sA2, sA3, i64_w, i32_w]
  rfl
 refine one_ (i := 16) (N := some 20) #[true, true, true, true, true, true, true, true, true, true, true, true, true, true, true, true, true, false, false, false] rfl rfl (one_of HT_.out (by kernel_rfl)) (by decide) (fun K hK => ?_)
 refine goes_ Try.func63 (by kernel_rfl) rfl #[.agg #[.string x.f2, .string x.f3], .agg #[.string f, .string t]] (by rfl) rfl rfl (by (try simp only [List.map_toArray, List.map_cons, List.map_nil]); first | done | rfl) ?_
 refine (P4 _).mono ?_
 rintro e w3 ⟨rfl, hb3⟩
 refine ⟨_, rfl, ?_⟩
 have hD3 := hD2.below hb3
 refine hK.out _ _ hD3.cells (fun hHeld => ?_)
 clear hK K
 refine norm_ (a' := ?_) ?_ ?_
 rotate_left
 ·show Act.put _ (some 20) _ = _
  simp only [Act.put, sA1, sA2, sA3, i64_w, i32_w]
  rfl
 refine pU_ 17 21 #[true, true, true, true, true, true, true, true, true, true, true, true, true, true, true, true, true, true, false, false] ?_
 refine pU_ 18 22 #[true, true, true, true, true, true, true, true, true, true, true, true, true, true, true, true, true, true, true, false] ?_
 refine pU_ 19 3 #[true, true, true, true, true, true, true, true, true, true, true, true, true, true, true, true, true, true, true, true] ?_
 refine done_ (done_of HT_.out (by kernel_rfl)) ?_
 go_wp2
 go_ret
 exact ⟨rfl, hD3.w⟩
theorem gone_D {W : World} {B : Nat} {f t : ByteArray} (hB : W.heap[B]? = some (objR f t)) (x : Ms) (hx : P.okS x) (hp : P.isPt x.f0 = false) (hk : (x.f0 == 4) = false) :
  Calls Try.prog 62 #[aggM x, .pointer (some ⟨B, 0, none⟩)] W fun e w' => e = .returned (.bool false) ∧ Below W.heap.size W w' := by
 have P1 := isPt_any x
 rw [hp] at P1
 clear hp
 have hum := Try.underlying32
 have hur := Try.underlying28
 have hD : Bx W W.heap.size x B f t (W.alloc (objM x)).drew := ⟨blk_new W _, blk_alloc hB _, below_drew (below_alloc (Below.refl _ _) _)⟩
 clear hB
 go_enter Try.func62, Try.ntmps62
 go_wp2
 refine start_ (n := 20) (S := fun w' => w'.cell? ⟨W.heap.size, 0, none⟩ = some (.int .u8 x.f0) ∧ w'.cell? ⟨W.heap.size, 1, none⟩ = some (.int .i64 x.f1) ∧ w'.cell? ⟨W.heap.size, 2, none⟩ = some (.string x.f2) ∧ w'.cell? ⟨W.heap.size, 3, none⟩ = some (.string x.f3) ∧ w'.cell? ⟨W.heap.size, 4, none⟩ = some (.string x.f4) ∧ w'.cell? ⟨W.heap.size, 5, none⟩ = some (.int .u64 x.f5) ∧ w'.cell? ⟨B, 0, none⟩ = some (.string f) ∧ w'.cell? ⟨B, 1, none⟩ = some (.string t)) (ds := []) #[false, false, false, false, false, false, false, false, false, false, false, false, false, false, false, false, false, false, false, false] (by kernel_rfl) rfl rfl hD.cells (fun hHeld => ?_)
 have HT_ := Aside0.mk goneT
 generalize (W.alloc (objM x)).drew = w0 at hD hHeld ⊢
 refine take_ (i := 0) (N := some 4) (v := ?_) (a' := ?_) #[true, false, false, false, false, false, false, false, false, false, false, false, false, false, false, false, false, false, false, false] rfl rfl (take_of HT_.out (by kernel_rfl)) (fun _ _ _ h => h) (Or.inl ⟨by rfl, ?_⟩) hHeld ?_ ?_
 rotate_left
 ·rintro w' ⟨s0, s1, s2, s3, s4, s5, s6, s7⟩
  go_simp
  with_reducible rfl
 rotate_left
 ·simp only [Act.put, sA1, sA2, sA3, i64_w, i32_w]
  rfl
 refine one_ (i := 1) (N := some 5) #[true, true, false, false, false, false, false, false, false, false, false, false, false, false, false, false, false, false, false, false] rfl rfl (one_of HT_.out (by kernel_rfl)) (by decide) (fun K hK => ?_)
 refine goes_ Try.func55 (by kernel_rfl) rfl #[aggM x] (by rfl) rfl rfl (by (try simp only [List.map_toArray, List.map_cons, List.map_nil]); first | done | rfl) ?_
 refine (P1 _).mono ?_
 rintro e w1 ⟨rfl, hb1⟩
 refine ⟨_, rfl, ?_⟩
 have hD1 := hD.below hb1
 refine hK.out _ _ hD1.cells (fun hHeld => ?_)
 clear hK K
 refine norm_ (a' := ?_) ?_ ?_
 rotate_left
 ·show Act.put _ (some 5) _ = _
  simp only [Act.put, sA1, sA2, sA3, i64_w, i32_w]
  rfl
 refine pU_ 2 6 #[true, true, true, false, false, false, false, false, false, false, false, false, false, false, false, false, false, false, false, false] ?_
 refine oF_ 3 7 #[true, true, true, true, false, false, false, false, false, false, false, false, false, false, false, false, false, false, false, false] ?_
 refine oF_ 4 8 #[true, true, true, true, true, false, false, false, false, false, false, false, false, false, false, false, false, false, false, false] ?_
 refine oF_ 5 9 #[true, true, true, true, true, true, false, false, false, false, false, false, false, false, false, false, false, false, false, false] ?_
 refine oF_ 6 10 #[true, true, true, true, true, true, true, false, false, false, false, false, false, false, false, false, false, false, false, false] ?_
 refine pU_ 7 11 #[true, true, true, true, true, true, true, true, false, false, false, false, false, false, false, false, false, false, false, false] ?_
 refine pU_ 8 12 #[true, true, true, true, true, true, true, true, true, false, false, false, false, false, false, false, false, false, false, false] ?_
 refine pU_ 9 13 #[true, true, true, true, true, true, true, true, true, true, false, false, false, false, false, false, false, false, false, false] ?_
 refine take_ (i := 10) (N := some 14) (v := ?_) (a' := ?_) #[true, true, true, true, true, true, true, true, true, true, true, false, false, false, false, false, false, false, false, false] rfl rfl (take_of HT_.out (by kernel_rfl)) (fun _ _ _ h => h) (Or.inl ⟨by rfl, ?_⟩) hHeld ?_ ?_
 rotate_left
 ·rintro w' ⟨s0, s1, s2, s3, s4, s5, s6, s7⟩
  go_simp
  with_reducible rfl
 rotate_left
 ·simp only [Act.put, sA1, sA2, sA3, i64_w, i32_w]
  rfl
 refine pU_ 11 15 #[true, true, true, true, true, true, true, true, true, true, true, true, false, false, false, false, false, false, false, false] ?_
 refine pU_ 12 16 #[true, true, true, true, true, true, true, true, true, true, true, true, true, false, false, false, false, false, false, false] ?_
 refine oF_ 13 17 #[true, true, true, true, true, true, true, true, true, true, true, true, true, true, false, false, false, false, false, false] ?_
 refine oF_ 15 19 #[true, true, true, true, true, true, true, true, true, true, true, true, true, true, false, true, false, false, false, false] ?_
 refine oF_ 14 18 #[true, true, true, true, true, true, true, true, true, true, true, true, true, true, true, true, false, false, false, false] ?_
 refine oF_ 16 20 #[true, true, true, true, true, true, true, true, true, true, true, true, true, true, true, true, true, false, false, false] ?_
 refine pU_ 17 21 #[true, true, true, true, true, true, true, true, true, true, true, true, true, true, true, true, true, true, false, false] ?_
 refine pU_ 18 22 #[true, true, true, true, true, true, true, true, true, true, true, true, true, true, true, true, true, true, true, false] ?_
 refine pU_ 19 3 #[true, true, true, true, true, true, true, true, true, true, true, true, true, true, true, true, true, true, true, true] ?_
 refine done_ (done_of HT_.out (by kernel_rfl)) ?_
 go_wp2
 go_ret
 exact ⟨rfl, hD1.w⟩
end Go.Proofs.Ytebejadiaooooaa.Cp
end
section
namespace Go.Proofs.Ytebejadiaooooaa.Cp
open Go.RowKit Go.Shelf Go.Proofs.YtebejadiaooooaaW.PrintWords Go.Proofs.YtebejadiaooooaaW.PrintLast Go.Proofs.YtebejadiaooooaaW.PrintMore Go.Proofs.Ytebejadiaooooaa.Own Go.Proofs.Ytebejadiaooooaa
set_option maxHeartbeats 2000000
set_option maxRecDepth 100000
theorem gone_any {W : World} {B : Nat} {f t : ByteArray} (hB : W.heap[B]? = some (objR f t)) (x : Ms) (hx : P.okS x) :
  Calls Try.prog 62 #[aggM x, .pointer (some ⟨B, 0, none⟩)] W fun e w' => e = .returned (.bool (P.gone f t x)) ∧ Below W.heap.size W w' := by
 have hG : P.gone f t x = ((P.isPt x.f0 && P.holds f t x.f2) || (decide (x.f0 = 4) && P.within x.f2 x.f3 f t)) := rfl
 cases hp : P.isPt x.f0 with
 | true =>
  have hk : (x.f0 == 4) = false := by simpa using P.isPt_ne4 hp
  have hk2 : decide (x.f0 = 4) = false := by simpa using P.isPt_ne4 hp
  cases hh : P.holds f t x.f2 with
  | true =>
   rw [hG, hp, hh]
   exact gone_A hB x hx hp hh
  | false =>
   rw [hG, hp, hh, hk2]
   exact gone_B hB x hx hp hh hk
 | false =>
  by_cases h4 : x.f0 = 4
  ·rw [hG, hp, decide_eq_true h4]
   simp only [Bool.false_and, Bool.false_or, Bool.true_and]
   exact gone_C hB x hx hp (by simpa using h4)
  ·rw [hG, hp, decide_eq_false h4]
   exact gone_D hB x hx hp (by simpa using h4)
theorem at_M {w : World} {A : Option Addr} {n : Nat} {xs : List Ms} (h : Kd.C P.k32 w A n xs) (i : Int) (h0 : 0 ≤ i) (h1 : i < n) : ∃ ad, ∃ x : Ms, A = some ad ∧ xs[i.toNat]? = some x ∧ w.cell? (ad.add (i.toNat * 6)) = some (.int .u8 x.f0) ∧
  w.cell? ⟨(ad.add (i.toNat * 6)).block, (ad.add (i.toNat * 6)).off + 1, none⟩ = some (.int .i64 x.f1) ∧ w.cell? ⟨(ad.add (i.toNat * 6)).block, (ad.add (i.toNat * 6)).off + 2, none⟩ = some (.string x.f2) ∧ w.cell? ⟨(ad.add (i.toNat * 6)).block, (ad.add (i.toNat * 6)).off + 3, none⟩ = some (.string x.f3) ∧
  w.cell? ⟨(ad.add (i.toNat * 6)).block, (ad.add (i.toNat * 6)).off + 4, none⟩ = some (.string x.f4) ∧ w.cell? ⟨(ad.add (i.toNat * 6)).block, (ad.add (i.toNat * 6)).off + 5, none⟩ = some (.int .u64 x.f5) := by
 obtain ⟨ad, c, e, _, hK, hc0⟩ := Kd.C_get h P.z32 i h0 h1
 have hc : ∀ j u, c[j]? = some u → w.cell? (ad.add (i.toNat * 6 + j)) = some u := hc0
 obtain rfl := P.k32_open hK
 have hl := h.1
 refine ⟨ad, _, e, ?_, hc 0 _ rfl, by rw [← add_field _ _ 1 (by omega)]; exact hc 1 _ rfl, by rw [← add_field _ _ 2 (by omega)]; exact hc 2 _ rfl, by rw [← add_field _ _ 3 (by omega)]; exact hc 3 _ rfl, by rw [← add_field _ _ 4 (by omega)]; exact hc 4 _ rfl, by rw [← add_field _ _ 5 (by omega)]; exact hc 5 _ rfl⟩
 rw [List.getD_eq_getElem?_getD, List.getElem?_eq_getElem (by omega)]
 rfl
theorem cell_below {w W : World} (hb : Below w.heap.size w W) {a : Addr} {v : Value} (h : w.cell? a = some v) : W.cell? a = some v := (World.cell?_of_block (hb.block a.block (World.block_lt_of_cell? w a h))).trans h
abbrev fnG (B : Nat) : Value := .func (.func 62) #[] #[.pointer (some ⟨B, 0, none⟩)]
def Idx (p : Ms → Bool) (l : List Ms) (r : Int) : Prop :=
 (r = -1 ∧ ∀ x ∈ l, p x = false) ∨ ∃ (i : Nat) (x : Ms), r = (i : Int) ∧ l[i]? = some x ∧ p x = true ∧ ∀ (j : Nat) (y : Ms), j < i → l[j]? = some y → p y = false
theorem index_any {w : World} {A : Option Addr} {c B : Nat} {l : List Ms} {f t : ByteArray} (hC : Kd.C P.k32 w A l.length l) (hcap : l.length ≤ c) (hlen : l.length ≤ 100000) (hB : w.heap[B]? = some (objR f t)) (hsz : ∀ x ∈ l, P.okS x) :
  Calls Try.prog 96 #[.slice A l.length c, fnG B] w fun e w' => ∃ r, e = .returned (.int .i64 r) ∧ Idx (P.gone f t) l r ∧ Below w.heap.size w w' := by
 have hmax := Kd.C_max hC
 have hum := Try.underlying32
 go_enter Try.func96, Try.ntmps96
 go_wp2
 go_loopg [8] l.length (fun g iv wr => ∃ i : Int, iv = .int .i64 i ∧ Aside (0 ≤ i ∧ i.toNat + g = l.length) ∧ Aside (∀ (j : Nat) (y : Ms), j < i.toNat → l[j]? = some y → P.gone f t y = false) ∧ Aside (Below w.heap.size w wr))
 case atStart => exact ⟨0, rfl, ⟨Int.le_refl _, by simp⟩, fun j y hj => by simp at hj, Below.refl _ _⟩
 case round =>
  obtain ⟨i, rfl, hA, hN, hB1⟩ := hrel
  obtain ⟨h0, hg⟩ := hA.out
  cases gk with
  | zero =>
   have d0 : decide (i < (l.length : Int)) = false := decide_eq_false (by omega)
   clear hg hC
   go_wp2
   go_ret
   refine ⟨-1, rfl, .inl ⟨rfl, fun x hx => ?_⟩, hB1.out⟩
   obtain ⟨j, hj⟩ := List.getElem?_of_mem hx
   have := hA.out
   exact hN.out j x (by have := (List.getElem?_eq_some_iff.1 hj).1; omega) hj
  | succ g =>
   have hlt : i < (l.length : Int) := by omega
   obtain ⟨ad, x, rfl, hx, q0, q1, q2, q3, q4, q5⟩ := at_M hC i h0 hlt
   have e0 := cell_below hB1.out q0
   have e1 := cell_below hB1.out q1
   have e2 := cell_below hB1.out q2
   have e3 := cell_below hB1.out q3
   have e4 := cell_below hB1.out q4
   have e5 := cell_below hB1.out q5
   have d0 := decide_eq_true hlt
   have d1 := decide_eq_true h0
   have d2 := eq_true h0
   have d3 := eq_true hlt
   have hwi : wrap64 (i + 1) = i + 1 := IntWalk.wrap64_in _ (by omega)
   have hX := Aside0.mk hx
   have hCA := Aside0.mk hC
   have GN := gone_any (blk_below hB hB1.out) x (hsz x (List.mem_of_getElem? hx))
   have hgA := Aside0.mk (And.intro h0 (And.intro hlt hg))
   clear hC hg hx q0 q1 q2 q3 q4 q5 hlt h0 hA
   cases hk : P.gone f t x with
   | true =>
    rw [hk] at GN
    go_wp2_with (go_at_call 62; refine GN.mono ?_; clear GN; rintro e w1 ⟨rfl, hb1⟩)
    go_ret
    obtain ⟨h0, hlt, hg⟩ := hgA.out
    refine ⟨i, rfl, .inr ⟨i.toNat, x, by omega, hX.out, hk, hN.out⟩, below_step hB1.out hb1⟩
   | false =>
    rw [hk] at GN
    go_wp2_with (go_at_call 62; refine GN.mono ?_; clear GN; rintro e w1 ⟨rfl, hb1⟩)
    go_roundg g
    case measure => omega
    case rel =>
     obtain ⟨h0, hlt, hg⟩ := hgA.out
     refine ⟨i + 1, by rw [hwi], ⟨by omega, by omega⟩, fun j y hj hy => ?_, below_step hB1.out hb1⟩
     rcases Nat.lt_or_ge j i.toNat with h | h
     ·exact hN.out j y h hy
     ·have e : j = i.toNat := by omega
      subst e
      rw [hX.out] at hy
      rw [← Option.some.inj hy]
      exact hk
end Go.Proofs.Ytebejadiaooooaa.Cp
end
section
namespace Go.Proofs.Ytebejadiaooooaa.Cp
open Go.RowKit Go.Shelf Go.Lib Go.Proofs.YtebejadiaooooaaW.PrintWords Go.Proofs.YtebejadiaooooaaW.PrintLast Go.Proofs.YtebejadiaooooaaW.PrintMore Go.Proofs.Ytebejadiaooooaa.Own Go.Proofs.Ytebejadiaooooaa
set_option maxHeartbeats 4000000
set_option maxRecDepth 1000000
def zM : Value := .agg #[.int .u8 0, .int .i64 0, .string ⟨#[]⟩, .string ⟨#[]⟩, .string ⟨#[]⟩, .int .u64 0]
def zs (n : Nat) : List Value := (Builtin.zeroCells zM.cells n).toList
theorem zs_length (n : Nat) : (zs n).length = n * 6 := by
 simp only [zs, Builtin.zeroCells, Array.toList_map, List.length_map, Array.length_toList, Array.size_range]
 rfl
theorem zs_one {n : Nat} {u : Value} (h : u ∈ zs n) : u.oneCell' = true := by
 simp only [zs, Builtin.zeroCells, Array.toList_map, List.mem_map] at h
 obtain ⟨i, _, rfl⟩ := h
 have h6 : i % zM.cells.size < 6 := Nat.mod_lt _ (by decide)
 generalize i % zM.cells.size = j at h6 ⊢
 obtain rfl | rfl | rfl | rfl | rfl | rfl : j = 0 ∨ j = 1 ∨ j = 2 ∨ j = 3 ∨ j = 4 ∨ j = 5 := by omega
 all_goals rfl
theorem zeroM (w : World) : (zeroValue 32).run Try.prog w = .ok zM w := by
 obtain ⟨i0, hi0, hz0, hz1, hz2⟩ := info_parts P.info32
 go_simp
 try simp [zeroValue, typeInfo, hi0, hz0, zM]
theorem run_clear_rows (w : World) (ty : TypeId) (b o n c : Nat) (hn : 0 < n) (hc : ∀ j, j < n * 6 → (w.cell? ⟨b, o + j, none⟩).isSome = true) (hf : ∀ j, j < n * 6 → w.frozen? ⟨b, o + j, none⟩ = false) :
  (Builtin.clear_ #[22] ty #[.slice (some ⟨b, o, none⟩) n c]).run Try.prog w = .ok (.tuple #[]) (w.setCells b o (zs n)) := by
 have hst := run_storeCells_cells (P := Try.prog) b o (zs n) 0 w (by rw [zs_length]; simpa using hc) (by rw [zs_length]; simpa using hf) (fun v hv => zs_one hv)
 simp only [Nat.add_zero] at hst
 obtain ⟨m, rfl⟩ : ∃ m, n = m + 1 := ⟨n - 1, by omega⟩
 have hst2 : (storeCells ⟨b, o, none⟩ (Builtin.zeroCells (Value.agg #[.int .u8 0, .int .i64 0, .string ⟨#[]⟩, .string ⟨#[]⟩, .string ⟨#[]⟩, .int .u64 0]).cells (m + 1)).toList).run Try.prog w = .ok () (w.setCells b o (zs (m + 1))) := hst
 simp [Builtin.clear_, run_underlying Try.underlying22, zeroM, hst2]
theorem delete_any {w : World} {base g cap : Nat} {cur : Array Value} {l : List Ms} (i j : Nat) (hb : base ≤ g) (hh : w.heap[g]? = some (.cells cur 32 (0, 0))) (hc : l.length ≤ cap) (hm : cap ≤ maxLen) (hs : cur.size = cap * 6) (ht : cur.toList.take (l.length * 6) = flat l) (hj : j = i + 1) (hi : i < l.length) :
  Calls Try.prog 94 #[.slice (some ⟨g, 0, none⟩) l.length cap, .int .i64 i, .int .i64 j] w fun e w' => e = .returned (.slice (some ⟨g, 0, none⟩) (l.eraseIdx i).length cap) ∧ Rw w' base (.slice (some ⟨g, 0, none⟩) (l.eraseIdx i).length cap) (l.eraseIdx i) ∧ w.grownBy w' (some g) := by
 obtain ⟨i0, hi0, hz0, hz1, hz2⟩ := info_parts P.info32
 have hmx : maxLen = 9223372036854775807 := rfl
 obtain ⟨news, hnews⟩ : ∃ news, news = flat (l.drop j) := ⟨_, rfl⟩
 have hlen : news.length = (l.length - j) * 6 := by rw [hnews, flat_length, List.length_drop]
 have hcl : ∀ t u, (flat l)[t]? = some u → w.drew.cell? ⟨g, t, none⟩ = some u := fun t u hu => cell_of_take (w := w.drew) hh (by rw [flat_length]; exact ht) hu
 obtain ⟨A, hA, hsrc⟩ : ∃ A : Addr, (if cap = j then some (⟨g, 0, none⟩ : Addr) else some ⟨g, j * 6, none⟩) = some A ∧ Hid (∀ t u, news[t]? = some u → w.drew.cell? (A.add t) = some u) := by
  by_cases h : cap = j
  ·refine ⟨⟨g, 0, none⟩, by simp [h], fun t u hu => ?_⟩
   have h0 : news.length = 0 := by rw [hlen]; omega
   rw [List.length_eq_zero_iff.1 h0] at hu
   simp at hu
  ·refine ⟨⟨g, j * 6, none⟩, by simp [h], fun t u hu => ?_⟩
   rw [Addr.add_lit]
   refine hcl _ _ ?_
   rw [← hu, hnews, ← flat_drop, List.getElem?_drop]
 have s1 : Hid (news.length = (l.length - j) * 6) := hlen
 have s2 : Hid (∀ u ∈ news, u.oneCell' = true) := fun u hu => flat_one (by rw [hnews] at hu; exact hu)
 have s3 : Hid (∀ t, t < news.length → (w.drew.cell? ⟨g, 0 + i * 6 + t, none⟩).isSome = true ∧ w.drew.frozen? ⟨g, 0 + i * 6 + t, none⟩ = false) := by
  intro t ht2
  rw [hlen] at ht2
  refine ⟨?_, blk_frozen (w := w.drew) hh _⟩
  rw [cell_of_row w.drew g _ cur 32 (0, 0) hh]
  rw [Array.getElem?_eq_getElem (by omega)]
  rfl
 obtain ⟨W1, hW1⟩ : ∃ W1, W1 = w.drew.setCells g (0 + i * 6) news := ⟨_, rfl⟩
 obtain ⟨cur1, hh1, hcur1⟩ := heap_setCells news (0 + i * 6) w.drew cur hh (by rw [hlen, hs]; omega)
 rw [← hW1] at hh1
 have hsz1 : cur1.size = cur.size := by
  rw [← Array.length_toList, hcur1, List.length_append, List.length_append, List.length_take, List.length_drop, Array.length_toList, hlen, hs]
  omega
 have hclr : ∀ ty, (Builtin.clear_ #[22] ty #[.slice (some ⟨g, (i + (l.length - j)) * 6, none⟩) (l.length - (i + (l.length - j))) (cap - (i + (l.length - j)))]).run Try.prog W1 = .ok (.tuple #[]) (W1.setCells g ((i + (l.length - j)) * 6) (zs (l.length - (i + (l.length - j))))) :=
  fun ty => run_clear_rows W1 ty g _ _ _ (by omega) (fun t ht => by rw [cell_of_row W1 g _ cur1 32 (0, 0) hh1, Array.getElem?_eq_getElem (by omega)]; rfl) (fun t ht => blk_frozen hh1 _)
 have X : Aside (W1.heap[g]? = some (.cells cur1 32 (0, 0))) := hh1
 have hW : Hid (W1 = w.drew.setCells g (0 + i * 6) news) := hW1
 have hic : i ≤ cap := by omega
 have hjc : j ≤ cap := by omega
 have hnc : l.length ≤ cap := hc
 have S1 : Aside (cur1.toList = cur.toList.take (0 + i * 6) ++ news ++ cur.toList.drop (0 + i * 6 + news.length) ∧ cur1.size = cap * 6) := ⟨hcur1, hsz1.trans hs⟩
 have S0 : Aside (cur.toList.take (l.length * 6) = flat l ∧ news = flat (l.drop j) ∧ cur.size = cap * 6) := ⟨ht, hnews, hs⟩
 have S2 : Aside (w.heap[g]? = some (.cells cur 32 (0, 0))) := hh
 have hin : ¬ (cap = i + (l.length - j)) := by omega
 have hne : ¬ (i = j) := by omega
 have mixed : Try.prog.follows Departure.mixedOrders = true := by kernel_rfl
 have hij : i ≤ j := by omega
 have hlt : i < j := by omega
 have hj2 : j ≤ l.length := by omega
 have hJ : Hid (j = i + 1) := hj
 clear hW1 hh1 hcur1 hsz1 hcl hnews hlen hs ht hh hj hi
 go_enter Try.func94, Try.ntmps94
 go_wp2_with fail
 go_region_law_o (refine step_append_room rfl (.tmp 22) (.tmp 25) 22 rfl 32 i0 6 Try.underlying22 hi0 hz1 g 0 i cap (by simp [Act.eval, Act.put]) A (l.length - j) (cap - j) news (by simp [Act.eval, Act.put]) s1.out hsrc.out s2.out (by omega) s3.out ?_; rw [← hW.out])
 go_wp2
 go_ret
 obtain rfl := hJ.out
 obtain ⟨hcur1, hsz1⟩ := S1.out
 obtain ⟨ht, hnews, hs⟩ := S0.out
 have hh := S2.out
 have hh1 := X.out
 have hle : (l.eraseIdx i).length = l.length - 1 := List.length_eraseIdx_of_lt (by omega)
 obtain ⟨cur2, hh2, hcur2⟩ := heap_setCells (zs (l.length - (i + (l.length - (i + 1))))) ((i + (l.length - (i + 1))) * 6) W1 cur1 hh1 (by rw [zs_length, hsz1]; omega)
 have hnl : news.length = (l.length - (i + 1)) * 6 := s1.out
 have hl1 : cur1.toList.length = cap * 6 := by rw [Array.length_toList, hsz1]
 have hl2 : cur2.size = cap * 6 := by
  have h := congrArg List.length hcur2
  rw [List.length_append, List.length_append, List.length_take, List.length_drop, zs_length, Array.length_toList, hl1] at h
  omega
 have hl0 : cur.toList.length = cap * 6 := by rw [Array.length_toList, hs]
 refine ⟨?_, ?_, ?_⟩
 ·rw [hle]
  show Ending.returned (Value.slice _ (i + (l.length - (i + 1))) cap) = _
  rw [show i + (l.length - (i + 1)) = l.length - 1 by omega]
 ·refine Rw.mk hb hh2 (by omega) hm hl2 ?_
  rw [hcur2, hle, List.append_assoc, List.take_append_of_le_length (by rw [List.length_take, hl1]; omega), List.take_take, Nat.min_eq_left (by omega), hcur1]
  have e1 : cur.toList.take (0 + i * 6) = flat (l.take i) := by
   rw [← flat_take, ← ht, List.take_take, Nat.min_eq_left (by omega), Nat.zero_add]
  have hll : (flat (l.take i) ++ flat (l.drop (i + 1))).length = (l.length - 1) * 6 := by
   rw [List.length_append, flat_length, flat_length, List.length_take, List.length_drop]
   omega
  rw [e1, hnews, List.take_append_of_le_length (by rw [hll]; omega), List.take_of_length_le (by rw [hll]; omega), ← flat_append, List.eraseIdx_eq_take_drop_succ]
 ·refine ((grown_drew w (some g)).trans ?_).trans (grown_setCells g _ _ _)
  rw [hW.out]
  exact grown_setCells g _ _ _
end Go.Proofs.Ytebejadiaooooaa.Cp
end
