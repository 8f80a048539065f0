/- THE ROW of TopParted: for every input the call returns true, and each argument reads afterwards as it read before: no condition beyond the row's own. Out of the walk (its contract over the Lean function of the same text) and the plain law (module YtebejadiaooooaaPureTopParted). (Laid by rowgen.py.) -/
/- Texts of one claim (laid by shake.py). -/
import Derived.Test.YtebejadiaooooaaZy33
import Derived.Test.YtebejadiaooooaaZy24
import Derived.Test.YtebejadiaooooaaZy23
import Derived.Test.YtebejadiaooooaaZy15
import Derived.Test.YtebejadiaooooaaZy34
import Derived.Test.YtebejadiaooooaaZy6
import Derived.Test.YtebejadiaooooaaZy4
import Derived.Test.YtebejadiaooooaaZy32
import Derived.Test.YtebejadiaooooaaRows
import Derived.WalkKit
import Derived.ProofKit
import Derived.OpenShut
import Derived.ShutString
import Derived.ChangeOld
import Derived.Below
import Derived.SizedLaws
set_option linter.unusedVariables false
set_option linter.unusedSimpArgs false
section
namespace Go.Proofs.Ytebejadiaooooaa.P
open Go.RowKit Go.Proofs.YtebejadiaooooaaW.PrintWords Go.Proofs.YtebejadiaooooaaW.PrintLast Go.Proofs.YtebejadiaooooaaW.PrintMore Go.Proofs.Ytebejadiaooooaa.Own Go.Proofs.Ytebejadiaooooaa
theorem take_mn {α : Type} (l : List α) : l.take (mn (l.length : Int) 40).toNat = l.take 40 := by
 unfold mn
 split
 ·rfl
 ·rename_i h
  rw [List.take_of_length_le (by omega), List.take_of_length_le (by omega)]
theorem mn_le (n : Nat) : 0 ≤ mn (n : Int) 40 ∧ mn (n : Int) 40 ≤ n := by
 unfold mn
 split <;> omega
structure Okd (n : Nat) (l : List Ms) (e : List En) : Prop where
 ll : l.length ≤ n
 el : e.length ≤ n
 od : ∀ m ∈ l, okD m
 os : ∀ m ∈ l, m.f2.size ≤ 140737488351232
theorem entriesF_eq {l : List Ms} {e : List En} (h : Okd 100000 l e) (f t : ByteArray) : Fo.entriesF l e f t = some (entriesV l e f t) := by
 unfold Fo.entriesF
 rw [if_pos (Fo.okF_iff.2 ⟨h.ll, h.el, h.os⟩)]
 exact congrArg some (Fo.held_eq l e f t)
theorem Okd.mono {n m : Nat} {l : List Ms} {e : List En} (h : Okd n l e) (k : n ≤ m) : Okd m l e := ⟨Nat.le_trans h.ll k, Nat.le_trans h.el k, h.od, h.os⟩
theorem same_self (k : Nat) (a : List En) (ha : a.length ≤ 1000000) (hk : a.length < k) : catchmentref05_Same.f k a a = some true := by
 rw [Same_eq k a a ha hk, sameE_iff.2 rfl]
end Go.Proofs.Ytebejadiaooooaa.P
end
section
namespace Go.Proofs.Ytebejadiaooooaa.P
open Go.RowKit Go.Proofs.YtebejadiaooooaaW.PrintWords Go.Proofs.YtebejadiaooooaaW.PrintLast Go.Proofs.YtebejadiaooooaaW.PrintMore Go.Proofs.Ytebejadiaooooaa.Own Go.Proofs.Ytebejadiaooooaa
theorem entries_list {l : List Ms} (hl : ∀ m ∈ l, okD m) (e : List En) (f t : ByteArray) : entriesV (listV l) e f t = entriesV l e f t :=
 val_ext (fun s _ _ => by unfold valO; rw [list_val s l _ (tidy_find e s) hl])
theorem take_mn30 {α : Type} (l : List α) : l.take (mn (l.length : Int) 30).toNat = l.take 30 := by
 unfold mn
 split
 ·rfl
 ·rw [List.take_of_length_le (by omega), List.take_of_length_le (by omega)]
theorem mn_le30 (n : Nat) : 0 ≤ mn (n : Int) 30 ∧ mn (n : Int) 30 ≤ n := by unfold mn; split <;> omega
def live3 : List Ms := [⟨1, 0, ⟨#[97]⟩, e0, e0, 0⟩]
theorem live3_eq : ∃ x : En, fold_Entries.f live3 [] e0 e0 = some [x] := by
 have hD : Okd 100000 live3 [] := ⟨by decide, by decide, fun m hm => by simp [live3] at hm; subst hm; exact ⟨by decide, by decide⟩, fun m hm => by simp [live3] at hm; subst hm; decide⟩
 refine ⟨⟨⟨#[97]⟩, e0⟩, ?_⟩
 unfold fold_Entries.f
 rw [entriesF_eq hD]
 kernel_rfl
end Go.Proofs.Ytebejadiaooooaa.P
end
section
namespace Go.Proofs.Ytebejadiaooooaa.Pure
open Go.RowKit Go.Proofs.Ytebejadiaooooaa.P Go.Proofs.YtebejadiaooooaaW.PrintWords Go.Proofs.YtebejadiaooooaaW.PrintLast Go.Proofs.YtebejadiaooooaaW.PrintMore Go.Proofs.Ytebejadiaooooaa.Own Go.Proofs.Ytebejadiaooooaa
abbrev Rg := S28
def clipT (k q : Int) (y t v : ByteArray) (d : Int) (f u : ByteArray) : Int × Int × ByteArray × ByteArray × ByteArray × Int × Bool :=
 if (isPt k && rr f u && holds f u y) = true then (k, q, y, t, v, d, true)
 else if (decide (k = 4) && (meet y t f u).2.2) = true then (k, q, (meet y t f u).1, (meet y t f u).2.1, v, d, true)
 else (0, 0, e0, e0, e0, 0, false)
theorem Clip_eq (n : Nat) (k q : Int) (y t v : ByteArray) (d : Int) (f u : ByteArray) (hy : y.size ≤ 140737488351232) : msg_Clip.f (n + 10) k q y t v d f u = some (clipT k q y t v d f u) := by
 have tail : msg_Clip.j0 (n + 10) false k q y t v d f u = some (if (decide (k = 4) && (meet y t f u).2.2) = true then (k, q, (meet y t f u).1, (meet y t f u).2.1, v, d, true) else (0, 0, e0, e0, e0, 0, false)) := by
  simp only [msg_Clip.j0, Bool.false_eq_true, if_false]
  by_cases h4 : k = 4
  ·rw [if_pos h4, Span_eq _ _ _ _ _ _ hy, Option.bind_some]
   have hs : span k y t = (y, t) := by unfold span; rw [if_neg (by simp [isPt, h4]), if_pos h4]
   rw [hs, Meet_eq, Option.bind_some, decide_eq_true h4, Bool.true_and]
   split <;> rfl
  ·rw [if_neg h4]
   simp [h4]
 unfold msg_Clip.f clipT
 rw [IsPoint_eq]
 simp only [Option.bind_some, RightRange_eq, Holds_eq]
 cases hp : isPt k
 ·simp only [Bool.false_eq_true, if_false, Bool.false_and]
  exact tail
 ·cases h1 : rr f u
  ·simp only [if_true, Bool.false_eq_true, if_false, Bool.and_false, Bool.false_and]
   exact tail
  ·cases h2 : holds f u y
   ·simp only [if_true, Bool.and_false, Bool.false_eq_true, if_false]
    exact tail
   ·simp only [if_true, Bool.and_self]
    simp only [msg_Clip.j0, if_true]
def clipM (f u : ByteArray) (m : Ms) : Option Ms :=
 let c := clipT m.f0 m.f1 m.f2 m.f3 m.f4 m.f5 f u
 if c.2.2.2.2.2.2 = true then some ⟨c.1, c.2.1, c.2.2.1, c.2.2.2.1, c.2.2.2.2.1, c.2.2.2.2.2.1⟩ else none
theorem on_far {m : Ms} {s : ByteArray} {p : ByteArray × Bool} (hp : tidy p) (h : touches m.f0 m.f2 m.f3 s = false) : onM m s p = p := by
 unfold onM onV
 rw [if_neg (by simp [h])]
 obtain ⟨v, b⟩ := p
 cases b
 ·have := hp rfl; simp at this; subst this; rfl
 ·rfl
theorem clip_on (f u : ByteArray) (m : Ms) (s : ByteArray) (hs : holds f u s = true) (p : ByteArray × Bool) (hp : tidy p) : doAll s ((clipM f u m).toList) p = onM m s p := by
 have hr := holds_rr hs
 obtain ⟨k, q, y, t, v, d⟩ := m
 unfold clipM clipT
 simp only
 split
 ·rename_i h
  split
  ·rfl
  ·rename_i h2; exact absurd rfl h2
 ·rename_i h
  rw [hr] at h
  split
  ·rename_i h2
   simp only [Bool.and_eq_true, decide_eq_true_eq] at h2
   obtain ⟨h4, h2⟩ := h2
   subst h4
   rw [if_pos rfl]
   show onM ⟨4, q, (meet y t f u).1, (meet y t f u).2.1, v, d⟩ s p = _
   unfold meet at h2 ⊢
   split at h2
   ·rename_i h3
    rw [if_pos h3]
    unfold onM onV
    have : touches 4 (mxs y f) (first t u) s = touches 4 y t s := by
     simp [touches, isPt, holds_meet, hs]
    simp only [this]
   ·cases h2
  ·rename_i h2
   rw [if_neg (by simp)]
   refine (on_far hp ?_).symm
   show touches k y t s = false
   cases ht : touches k y t s with
   | false => rfl
   | true =>
    exfalso
    unfold touches at ht
    simp only [Bool.or_eq_true, Bool.and_eq_true, decide_eq_true_eq] at ht
    rcases ht with ht | ht
    ·obtain rfl := same_iff.1 ht.2
     exact h (by rw [ht.1, hs]; rfl)
    ·refine h2 ?_
     have hm : holds (mxs y f) (first t u) s = true := by rw [holds_meet, ht.2, hs]; rfl
     unfold meet
     rw [holds_rr ht.2, hr, holds_rr hm, ht.1]
     rfl
theorem clips_on (f u s : ByteArray) (hs : holds f u s = true) : ∀ (l : List Ms) (p : ByteArray × Bool), tidy p → doAll s (l.filterMap (clipM f u)) p = doAll s l p
 | [], p, hp => rfl
 | m :: l, p, hp => by
  have h := clip_on f u m s hs p hp
  have ih := clips_on f u s hs l (onM m s p) (tidy_on m s p)
  show _ = doAll s l (onM m s p)
  rw [List.filterMap_cons]
  cases hc : clipM f u m with
  | none =>
   rw [hc] at h
   have h2 : p = onM m s p := h
   rw [← h2] at ih ⊢
   exact ih
  | some x =>
   rw [hc] at h
   have h2 : onM x s p = onM m s p := h
   show doAll s (l.filterMap (clipM f u)) (onM x s p) = _
   rw [h2]
   exact ih
theorem clip_wf (f u : ByteArray) (hf : f.size ≤ 140737488351232) (m x : Ms) (h : clipM f u m = some x) (h1 : okD m) (h2 : m.f2.size ≤ 140737488351232) : okD x ∧ x.f2.size ≤ 140737488351232 := by
 obtain ⟨k, q, y, t, v, d⟩ := m
 unfold clipM clipT at h
 simp only at h
 split at h
 ·rw [if_pos rfl] at h
  obtain rfl := Option.some.inj h
  exact ⟨h1, h2⟩
 ·split at h
  ·rw [if_pos rfl] at h
   obtain rfl := Option.some.inj h
   refine ⟨h1, ?_⟩
   show (meet y t f u).1.size ≤ _
   unfold meet
   split
   ·show (mxs y f).size ≤ _
    unfold mxs
    split
    ·exact hf
    ·exact h2
   ·show ByteArray.size ⟨#[]⟩ ≤ _
    decide
  ·rw [if_neg (by simp)] at h
   cases h
def splits (f t at_ : ByteArray) : Bool := rr f t && (lt f at_ && ah at_ t)
def piecesV (f t : ByteArray) : List ByteArray → List Rg
 | [] => [⟨f, t⟩]
 | x :: l => if splits f t x = true then ⟨f, x⟩ :: piecesV x t l else piecesV f t l
theorem Split_eq (f t x : ByteArray) : key_Split.f f t x = some (if splits f t x = true then (f, x, x, t, true) else (e0, e0, e0, e0, false)) := by
 unfold key_Split.f splits
 rw [RightRange_eq, Option.bind_some]
 cases h1 : rr f t
 ·simp
 ·have e : Op.bytesLess f.toList x.toList = lt f x := rfl
  rw [if_pos rfl, e]
  cases h2 : lt f x
  ·simp
  ·rw [if_pos rfl, ahead_eq, Option.bind_some]
   show (if ah x t = true then _ else _) = _
   cases h3 : ah x t <;> simp
theorem Pieces_loop (L : List ByteArray) (hL : L.length ≤ 1000) : ∀ (l : List ByteArray) (k i : Nat) (o : List Rg) (f t : ByteArray), L.drop i = l → i ≤ L.length → o.length + l.length ≤ 1000 → l.length < k → key_Pieces.l0 k o L (L.length : Int) (i : Int) f t = some (o ++ piecesV f t l) := by
 intro l
 induction l with
 | nil =>
  intro k i o f t hd hi ho hk
  obtain ⟨k, rfl⟩ : ∃ m, k = m + 1 := ⟨k - 1, by omega⟩
  have := drop_none hd hi
  rw [key_Pieces.l0, if_neg (by omega), if_pos (by simp at ho; omega)]
  rfl
 | cons x l ih =>
  intro k i o f t hd hi ho hk
  simp only [List.length_cons] at ho hk
  obtain ⟨k, rfl⟩ : ∃ m, k = m + 1 := ⟨k - 1, by omega⟩
  obtain ⟨hlt, hx, hd2, _, _⟩ := drop_any hd
  rw [key_Pieces.l0, if_pos (by omega), if_pos (by omega), if_pos (by omega), rdS_at hx, Split_eq, Option.bind_some, wrap1 (by omega)]
  unfold piecesV
  by_cases h : splits f t x = true
  ·rw [if_pos h, if_pos h, if_pos rfl, if_pos (by omega), ih k (i + 1) _ _ _ hd2 (by omega) (by simp; omega) (by omega), List.append_assoc]
   rfl
  ·rw [if_neg h, if_neg h, if_neg (by simp), ih k (i + 1) _ _ _ hd2 (by omega) (by omega) (by omega)]
theorem Pieces_eq (k : Nat) (L : List ByteArray) (hL : L.length ≤ 900) (hk : L.length < k) : key_Pieces.f k e0 e0 L = some (piecesV e0 e0 L) := by
 unfold key_Pieces.f
 rw [RightRange_eq, Option.bind_some, rr_all, if_pos rfl]
 exact Pieces_loop L (by omega) L k 0 [] e0 e0 rfl (by omega) (by simp; omega) hk
theorem pieces_length : ∀ (l : List ByteArray) (f t : ByteArray), (piecesV f t l).length ≤ l.length + 1
 | [], _, _ => by simp [piecesV]
 | x :: l, f, t => by
  unfold piecesV
  have h1 := pieces_length l x t
  have h2 := pieces_length l f t
  split <;> simp only [List.length_cons] <;> omega
theorem pieces_pos : ∀ (l : List ByteArray) (f t : ByteArray), 0 < (piecesV f t l).length
 | [], _, _ => by simp [piecesV]
 | x :: l, f, t => by
  unfold piecesV
  have := pieces_pos l f t
  split
  ·simp
  ·exact this
theorem entries_split (l : List Ms) (e : List En) (f t x : ByteArray) (h : splits f t x = true) : entriesV l e f x ++ entriesV l e x t = entriesV l e f t := by
 simp only [splits, Bool.and_eq_true] at h
 obtain ⟨hr, hfx, hxt⟩ := h
 have r1 : rr f x = true := by unfold rr; rw [hfx]; simp
 have r2 : rr x t = true := hxt
 refine riseE_ext ?_ (rise_entries l e f t) (fun z => ?_)
 ·refine List.pairwise_append.2 ⟨rise_entries _ _ _ _, rise_entries _ _ _ _, fun a ha b hb => ?_⟩
  have h1 := ((mem_entries l e f x a).1 ha).2.1
  have h2 := ((mem_entries l e x t b).1 hb).2.1
  rw [holds_def] at h1 h2
  simp only [Bool.and_eq_true, Bool.not_eq_true'] at h1 h2
  have hax : lt a.f0 x = true := by
   have h3 := h1.2
   unfold ah at h3
   rw [lt_emp hfx] at h3
   simpa using h3
  exact lt_of_lt_le hax h2.1
 ·rw [List.mem_append, mem_entries, mem_entries, mem_entries]
  have key : (holds f x z.f0 = true ∨ holds x t z.f0 = true) ↔ holds f t z.f0 = true := by
   rw [holds_def, holds_def, holds_def]
   simp only [Bool.and_eq_true, Bool.not_eq_true']
   constructor
   ·rintro (⟨h1, h2⟩ | ⟨h1, h2⟩)
    ·refine ⟨h1, ?_⟩
     have hax : lt z.f0 x = true := by
      unfold ah at h2
      rw [lt_emp hfx] at h2
      simpa using h2
     exact ah_lt hax hxt
    ·refine ⟨?_, h2⟩
     cases q : lt z.f0 f with
     | false => rfl
     | true => rw [lt_trans q hfx] at h1; cases h1
   ·rintro ⟨h1, h2⟩
    cases q : lt z.f0 x with
    | true => exact .inl ⟨h1, by unfold ah; rw [q]; simp⟩
    | false => exact .inr ⟨rfl, h2⟩
  rw [hr, r1, r2]
  simp only [true_and, ← key]
  constructor
  ·rintro (⟨a, b⟩ | ⟨a, b⟩)
   ·exact ⟨.inl a, b⟩
   ·exact ⟨.inr a, b⟩
  ·rintro ⟨a | a, b⟩
   ·exact .inl ⟨a, b⟩
   ·exact .inr ⟨a, b⟩
theorem entries_pieces (l : List Ms) (e : List En) : ∀ (L : List ByteArray) (f t : ByteArray), (piecesV f t L).flatMap (fun r => entriesV l e r.f0 r.f1) = entriesV l e f t
 | [], f, t => by simp [piecesV]
 | x :: L, f, t => by
  unfold piecesV
  split
  ·rename_i h
   rw [List.flatMap_cons, entries_pieces l e L x t, entries_split l e f t x h]
  ·exact entries_pieces l e L f t
theorem pieces_size {L : List ByteArray} (hL : ∀ x ∈ L, x.size ≤ 140737488351232) : ∀ (f t : ByteArray), f.size ≤ 140737488351232 → ∀ r ∈ piecesV f t L, r.f0.size ≤ 140737488351232 := by
 induction L with
 | nil => intro f t hf r hr; simp [piecesV] at hr; subst hr; exact hf
 | cons x L ih =>
  intro f t hf r hr
  have ihL := ih (fun y hy => hL y (List.mem_cons_of_mem _ hy))
  unfold piecesV at hr
  split at hr
  ·rcases List.mem_cons.1 hr with rfl | hr
   ·exact hf
   ·exact ihL x t (hL x (by simp)) r hr
  ·exact ihL f t hf r hr
theorem rdR_at {L : List Rg} {i : Nat} {x : Rg} (h : L[i]? = some x) : rd_T28 L (i : Int) = x := by
 simp [rd_T28, rdOf, h]
section
variable (l : List Ms) (e : List En) (R : List Rg)
theorem held_loop (x : List En) (g : List En) (i : Nat) (r : Rg) (hi : R[i]? = some r) (hi2 : i < 1000) (hx : x.length ≤ 1000) (hg : g.length ≤ 100000) (hh : ∀ y ∈ x, holds r.f0 r.f1 y.f0 = true) (n : Nat) (b : Option Bool) (h0 : ∀ k, n ≤ k → catchmenttop_TopParted.l0 k l e (g ++ x) R ((i + 1 : Nat) : Int) = b) :
  ∀ (q : List En) (k j : Nat), x.drop j = q → j ≤ x.length → n + q.length < k → catchmenttop_TopParted.l2 k l e g R (i : Int) x (j : Int) = b := by
 intro q
 have hlt := (List.getElem?_eq_some_iff.1 hi).1
 induction q with
 | nil =>
  intro k j hd hj hk
  obtain ⟨k, rfl⟩ : ∃ m, k = m + 1 := ⟨k - 1, by omega⟩
  have := drop_none hd hj
  rw [catchmenttop_TopParted.l2, if_neg (by omega), if_pos (by omega), wrap1 (by omega)]
  exact h0 k (by simp at hk; omega)
 | cons y q ih =>
  intro k j hd hj hk
  simp only [List.length_cons] at hk
  obtain ⟨k, rfl⟩ : ∃ m, k = m + 1 := ⟨k - 1, by omega⟩
  obtain ⟨hltj, hy, hd2, _, hm⟩ := drop_any hd
  rw [catchmenttop_TopParted.l2, if_pos (by omega), if_pos (by omega), if_pos (by omega), if_pos (by omega), rdR_at hi, rdE_at hy, ref02_Holds_eq, Option.bind_some, hh y hm, if_pos rfl, wrap1 (by omega)]
  exact ih k (j + 1) hd2 (by omega) (by omega)
theorem own_loop (hl : l.length ≤ 30) (he : e.length ≤ 40) (hD : ∀ m ∈ l, okD m) (hS : ∀ m ∈ l, m.f2.size ≤ 140737488351232) (g : List En) (i : Nat) (r : Rg) (hi : R[i]? = some r) (hi2 : i < 1000) (hr : r.f0.size ≤ 140737488351232) (hg : g.length ≤ 100000) (n : Nat) (hn : 100 ≤ n) (b : Option Bool) (h0 : ∀ k, n ≤ k → catchmenttop_TopParted.l0 k l e (g ++ entriesV l e r.f0 r.f1) R ((i + 1 : Nat) : Int) = b) :
  ∀ (q : List Ms) (k j : Nat), l.drop j = q → j ≤ l.length → n + 100 + q.length < k → catchmenttop_TopParted.l1 k l e g R (i : Int) ((l.take j).filterMap (clipM r.f0 r.f1)) (j : Int) = b := by
 intro q
 have hlt := (List.getElem?_eq_some_iff.1 hi).1
 have ok : ∀ (j : Nat), ∀ m ∈ (l.take j).filterMap (clipM r.f0 r.f1), okD m ∧ m.f2.size ≤ 140737488351232 := fun j m hm => by
  obtain ⟨x, hx, h⟩ := List.mem_filterMap.1 hm
  have hxl := List.mem_of_mem_take hx
  exact clip_wf r.f0 r.f1 hr x m h (hD x hxl) (hS x hxl)
 have len : ∀ (j : Nat), ((l.take j).filterMap (clipM r.f0 r.f1)).length ≤ 30 := fun j => by
  have := List.length_filterMap_le (clipM r.f0 r.f1) (l.take j)
  have h2 : (l.take j).length ≤ l.length := by simp; omega
  omega
 induction q with
 | nil =>
  intro k j hd hj hk
  obtain ⟨k, rfl⟩ : ∃ m, k = m + 1 := ⟨k - 1, by omega⟩
  have hjl := drop_none hd hj
  have ho := len j
  have hok := ok j
  rw [hjl] at ho hok ⊢
  rw [List.take_length] at ho hok ⊢
  have hO : Ok6 (l.filterMap (clipM r.f0 r.f1)) := ⟨ho, fun m hm => (hok m hm).1, fun m hm => (hok m hm).2⟩
  have hL := ok6_list hO
  have hL2 := hL.ll
  have hE : entriesV (listV (l.filterMap (clipM r.f0 r.f1))) e r.f0 r.f1 = entriesV l e r.f0 r.f1 := by
   rw [entries_list hO.od]
   refine val_ext (fun s _ hs => ?_)
   unfold valO
   rw [clips_on r.f0 r.f1 s hs l _ (tidy_find e s)]
  have hxl := entriesV_length l e r.f0 r.f1
  have hF : fold_Entries.f (listV (l.filterMap (clipM r.f0 r.f1))) e r.f0 r.f1 = some (entriesV l e r.f0 r.f1) := by
   rw [← hE]
   exact entriesF_eq ⟨by omega, by omega, hL.od, hL.os⟩ _ _
  rw [catchmenttop_TopParted.l1, if_neg (by omega), List_eq hO, Option.bind_some, if_pos (by omega), if_pos (by omega), rdR_at hi, hF, Option.bind_some]
  exact held_loop l e R (entriesV l e r.f0 r.f1) g i r hi hi2 (by omega) hg (fun y hy => ((mem_entries _ _ _ _ y).1 hy).2.1) n b h0 (entriesV l e r.f0 r.f1) k 0 rfl (by omega) (by simp at hk; omega)
 | cons x q ih =>
  intro k j hd hj hk
  simp only [List.length_cons] at hk
  obtain ⟨k, rfl⟩ : ∃ m, k = m + 11 := ⟨k - 11, by omega⟩
  obtain ⟨hltj, hx, hd2, _, hm⟩ := drop_any hd
  have ho := len j
  have htk : (l.take (j + 1)).filterMap (clipM r.f0 r.f1) = (l.take j).filterMap (clipM r.f0 r.f1) ++ (clipM r.f0 r.f1 x).toList := by
   rw [List.take_add_one, hx, List.filterMap_append]
   simp only [Option.toList_some, List.filterMap_cons, List.filterMap_nil]
   cases clipM r.f0 r.f1 x <;> rfl
  have ih2 := ih (k + 10) (j + 1) hd2 (by omega) (by omega)
  rw [htk] at ih2
  rw [show k + 11 = (k + 10) + 1 from rfl, catchmenttop_TopParted.l1, if_pos (by omega), if_pos (by omega), if_pos (by omega), if_pos (by omega), rdM_at hx, rdR_at hi, Clip_eq _ _ _ _ _ _ _ _ _ (hS x hm), Option.bind_some, wrap1 (by omega)]
  have hcx : clipM r.f0 r.f1 x = (if (clipT x.f0 x.f1 x.f2 x.f3 x.f4 x.f5 r.f0 r.f1).2.2.2.2.2.2 = true then some ⟨(clipT x.f0 x.f1 x.f2 x.f3 x.f4 x.f5 r.f0 r.f1).1, (clipT x.f0 x.f1 x.f2 x.f3 x.f4 x.f5 r.f0 r.f1).2.1, (clipT x.f0 x.f1 x.f2 x.f3 x.f4 x.f5 r.f0 r.f1).2.2.1, (clipT x.f0 x.f1 x.f2 x.f3 x.f4 x.f5 r.f0 r.f1).2.2.2.1, (clipT x.f0 x.f1 x.f2 x.f3 x.f4 x.f5 r.f0 r.f1).2.2.2.2.1, (clipT x.f0 x.f1 x.f2 x.f3 x.f4 x.f5 r.f0 r.f1).2.2.2.2.2.1⟩ else none) := rfl
  rw [hcx] at ih2
  by_cases hc : (clipT x.f0 x.f1 x.f2 x.f3 x.f4 x.f5 r.f0 r.f1).2.2.2.2.2.2 = true
  ·rw [if_pos hc] at ih2
   rw [if_pos hc, if_pos (by omega)]
   exact ih2
  ·rw [if_neg hc] at ih2
   rw [if_neg hc]
   simpa using ih2
theorem part_loop (hl : l.length ≤ 30) (he : e.length ≤ 40) (hD : ∀ m ∈ l, okD m) (hS : ∀ m ∈ l, m.f2.size ≤ 140737488351232) (hR : R.length ≤ 9) (hRs : ∀ r ∈ R, r.f0.size ≤ 140737488351232) (hall : R.flatMap (fun r => entriesV l e r.f0 r.f1) = entriesV l e e0 e0) :
  ∀ (q : List Rg) (k i : Nat), R.drop i = q → i ≤ R.length → 1000 + 400 * q.length ≤ k → catchmenttop_TopParted.l0 k l e ((R.take i).flatMap (fun r => entriesV l e r.f0 r.f1)) R (i : Int) = some true := by
 intro q
 have len : ∀ i : Nat, ((R.take i).flatMap (fun r => entriesV l e r.f0 r.f1)).length ≤ 9 * 70 := fun i => by
  have : ∀ Q : List Rg, (Q.flatMap (fun r => entriesV l e r.f0 r.f1)).length ≤ Q.length * 70 := fun Q => by
   induction Q with
   | nil => simp
   | cons r Q ih =>
    have := entriesV_length l e r.f0 r.f1
    rw [List.flatMap_cons, List.length_append, List.length_cons]
    omega
  have h1 := this (R.take i)
  have h2 : (R.take i).length ≤ 9 := by simp; omega
  omega
 induction q with
 | nil =>
  intro k i hd hi hk
  obtain ⟨k, rfl⟩ : ∃ m, k = m + 1 := ⟨k - 1, by simp at hk; omega⟩
  have hil := drop_none hd hi
  obtain ⟨z, hz⟩ := live3_eq
  have hgl := len i
  rw [hil, List.take_length, hall] at hgl ⊢
  have hz' : fold_Entries.f [⟨1, 0, ⟨#[97]⟩, ⟨#[]⟩, ⟨#[]⟩, 0⟩] [] ⟨#[]⟩ ⟨#[]⟩ = some [z] := hz
  rw [catchmenttop_TopParted.l0, if_neg (by omega), hz', Option.bind_some, if_pos (show (([z].length : Nat) : Int) = 1 from rfl), Entries_eq _ _ _ _ _ (by omega) (by omega) hD (by simp at hk; omega), Option.bind_some, same_self _ _ (by omega) (by simp at hk; omega), Option.bind_some]
 | cons r q ih =>
  intro k i hd hi hk
  simp only [List.length_cons] at hk
  obtain ⟨k, rfl⟩ : ∃ m, k = m + 1 := ⟨k - 1, by omega⟩
  obtain ⟨hlt, hr, hd2, _, hm⟩ := drop_any hd
  have hgl := len i
  rw [catchmenttop_TopParted.l0, if_pos (by omega)]
  refine own_loop l e R hl he hD hS _ i r hr (by omega) (hRs r hm) (by omega) (1000 + 400 * q.length) (by omega) (some true) (fun k2 hk2 => ?_) l k 0 rfl (by omega) (by omega)
  have h := ih k2 (i + 1) hd2 (by omega) (by omega)
  rw [List.take_add_one, hr, List.flatMap_append] at h
  simpa using h
end
theorem TopParted : ∀ (x0 : (List S32)) (x1 : (List S39)) (x2 : List ByteArray), (x0.length * 72 ≤ 140737488351232 ∧ ∀ a_ ∈ x0, wf32 a_) → (x1.length * 32 ≤ 140737488351232 ∧ ∀ a_ ∈ x1, wf39 a_) → (x2.length * 16 ≤ 140737488351232 ∧ ∀ a_ ∈ x2, a_.size ≤ 140737488351232) → ∃ k, catchmenttop_TopParted.f k x0 x1 x2 = some true := by
 intro x0 x1 x2 w0 w1 w2
 refine ⟨10000, ?_⟩
 have hO : Ok6 (x0.take 30) := ok6_take w0.2
 have hE : (x1.take 40).length ≤ 40 := by simp; omega
 have h8 : ∀ n : Nat, 0 ≤ mn (n : Int) 8 ∧ mn (n : Int) 8 ≤ n := fun n => by unfold mn; split <;> omega
 have hL8 : (x2.take (mn (x2.length : Int) 8).toNat).length ≤ 8 := by
  have : (mn (x2.length : Int) 8).toNat ≤ 8 := by unfold mn; split <;> omega
  simp; omega
 have hLs : ∀ x ∈ x2.take (mn (x2.length : Int) 8).toNat, x.size ≤ 140737488351232 := fun x hx => w2.2 x (List.mem_of_mem_take hx)
 unfold catchmenttop_TopParted.f
 rw [if_pos (mn_le30 _).1, if_pos (mn_le30 _).2, if_pos (mn_le _).1, if_pos (mn_le _).2, if_pos (h8 _).1, if_pos (h8 _).2, take_mn, take_mn30]
 generalize x0.take 30 = l at hO ⊢
 generalize x1.take 40 = e at hE ⊢
 generalize x2.take (mn (x2.length : Int) 8).toNat = L at hL8 hLs ⊢
 have hp := pieces_length L e0 e0
 have hq := pieces_pos L e0 e0
 rw [show key_Pieces.f 10000 ⟨#[]⟩ ⟨#[]⟩ L = some (piecesV e0 e0 L) from Pieces_eq 10000 L (by omega) (by omega), Option.bind_some, if_neg (by omega)]
 exact part_loop l e (piecesV e0 e0 L) hO.ll hE hO.od hO.os (by omega) (pieces_size hLs e0 e0 (by decide)) (entries_pieces l e L e0 e0) (piecesV e0 e0 L) 10000 0 rfl (by omega) (by omega)
end Go.Proofs.Ytebejadiaooooaa.Pure
end
section
namespace Go.Proofs.Ytebejadiaooooaa.topParted
open Go.ChangeShapes Go.WideShapes Go.ChangeAt Go.RowKit Go.Proofs.Ytebejadiaooooaa.P Go.Proofs.Ytebejadiaooooaa.Rd Go.Proofs.YtebejadiaooooaaW.PrintWords
open Go.ChangeMaps (open_string shut_string)
theorem own : ownKnob Try.prog.godebug = none := by kernel_rfl
theorem laidOut : laidOutB Try.prog = true := by kernel_rfl
set_option maxHeartbeats 2000000 in
set_option maxRecDepth 100000 in
theorem lifted (os : Os) (started : os.Started) (H : Type) (enc : TypeId × Value → H) :
  ReturnsInHanded {} Try.checked os 3 .any (Rows.topPartedSpec.pre6 enc Try.prog Try.f3 Rows.topPartedRow.domain false) (Rows.topPartedSpec.post enc Try.prog Try.f3 false true false false) := by
 refine returnsInHanded_of_change_sized (C := Try.checked) own started (by kernel_rfl) Try.func3
  (ChangeSpec.witness6 (enc := enc) (C := Try.checked) false ⟨#[], #[.slice none 0 0, .slice none 0 0, .slice none 0 0], []⟩ 8 (by kernel_rfl) (by kernel_rfl) (by kernel_rfl) (by kernel_rfl)) ?_
 intro W base args ds gs before hval0 hW hcnd hsz0 _
 have hsz : (DataW.weightsEach Try.prog (Try.f3.params.toList ++ Rows.topPartedSpec.plain.varTypes Try.prog) (ds ++ gs)).all (· ≤ reachBytes) = true := hsz0
 have hval : ∀ (j : Nat) t v, Try.f3.params[j]? = some t → args[j]? = some v → Value.okWide Try.prog W .any base t v := hval0
 have hW' := hW
 obtain ⟨p, q, hA0, hV, rfl, hfz, hnd⟩ := hW
 have hA : DataW.TrodAll enc Try.prog W 0 (fun _ => true) true Try.f3.params.toList args.toList ds p := hA0
 rw [Try.params3] at hA hval hsz
 obtain ⟨v0, vs0, d0, ds0, p0, q0, hargs, rfl, rfl, h0, r0⟩ := trodAll_cons hA
 obtain ⟨v1, vs1, d1, ds1, p1, q1, rfl, rfl, rfl, h1, r1⟩ := trodAll_cons r0
 obtain ⟨v2, vs2, d2, ds2, p2, q2, rfl, rfl, rfl, h2, r2⟩ := trodAll_cons r1
 obtain ⟨rfl, rfl, rfl⟩ := trodAll_nil r2
 obtain rfl : args = #[v0, v1, v2] := by cases args; simp_all
 obtain ⟨rfl, rfl⟩ := trodVars_none hV
 have k0 := h0
 have lt0 : ∀ x ∈ p0, x.block < W.heap.size := by obtain ⟨m, hm⟩ := k0; exact DataW.trod_lt m _ _ _ hm
 have ww0 : ∀ n ∈ d0.weights Try.prog 22, n ≤ reachBytes := fun n hn => by simpa using List.all_eq_true.1 hsz n (DataW.weights_mem_each (j := 0) rfl rfl n hn)
 obtain ⟨ad0, len0, cap0, rfl⟩ := okWide_slice Try.underlying22 (hval 0 22 v0 rfl rfl)
 obtain ⟨fu0, hf0⟩ := h0
 obtain ⟨x0, kx0, w0⟩ := o22.down hf0 ww0
 obtain ⟨A0, c0, e0, hc0, hr0⟩ := kx0
 obtain ⟨rfl, rfl, rfl⟩ : ad0 = A0 ∧ len0 = x0.length ∧ cap0 = c0 := by simpa [Value.cells] using e0
 have k1 := h1
 have lt1 : ∀ x ∈ p1, x.block < W.heap.size := by obtain ⟨m, hm⟩ := k1; exact DataW.trod_lt m _ _ _ hm
 have ww1 : ∀ n ∈ d1.weights Try.prog 23, n ≤ reachBytes := fun n hn => by simpa using List.all_eq_true.1 hsz n (DataW.weights_mem_each (j := 1) rfl rfl n hn)
 obtain ⟨ad1, len1, cap1, rfl⟩ := okWide_slice Try.underlying23 (hval 1 23 v1 rfl rfl)
 obtain ⟨fu1, hf1⟩ := h1
 obtain ⟨x1, kx1, w1⟩ := o23.down hf1 ww1
 obtain ⟨A1, c1, e1, hc1, hr1⟩ := kx1
 obtain ⟨rfl, rfl, rfl⟩ : ad1 = A1 ∧ len1 = x1.length ∧ cap1 = c1 := by simpa [Value.cells] using e1
 have k2 := h2
 have lt2 : ∀ x ∈ p2, x.block < W.heap.size := by obtain ⟨m, hm⟩ := k2; exact DataW.trod_lt m _ _ _ hm
 have ww2 : ∀ n ∈ d2.weights Try.prog 24, n ≤ reachBytes := fun n hn => by simpa using List.all_eq_true.1 hsz n (DataW.weights_mem_each (j := 2) rfl rfl n hn)
 obtain ⟨ad2, len2, cap2, rfl⟩ := okWide_slice Try.underlying24 (hval 2 24 v2 rfl rfl)
 obtain ⟨fu2, hf2⟩ := h2
 obtain ⟨x2, kx2, w2⟩ := o24.down hf2 ww2
 obtain ⟨A2, c2, e2, hc2, hr2⟩ := kx2
 obtain ⟨rfl, rfl, rfl⟩ : ad2 = A2 ∧ len2 = x2.length ∧ cap2 = c2 := by simpa [Value.cells] using e2
 clear hA0 hval0 hsz0 hsz
 obtain ⟨k_, hp⟩ := Pure.TopParted x0 x1 x2 w0 w1 w2
 refine (catchmenttop_TopParted.calls (k := k_) (r := true) (w := W) (hr0 := hr0) (hc0 := hc0) (hr1 := hr1) (hc1 := hc1) (hr2 := hr2) (hc2 := hc2) (h := hp)).mono fun e W' ⟨he, bel0⟩ => ?_
 have bel : Below W.heap.size W W' := bel0
 subst he
 exact ⟨_, rfl, _, _, _, [], _, [], hW', trodAll_mk1 (shut_bool Try.underlying4 _), (trodAll_cons_mk (Below.trod laidOut (by kernel_rfl) (of_decide_eq_true (by kernel_rfl)) k0 bel lt0) (trodAll_cons_mk (Below.trod laidOut (by kernel_rfl) (of_decide_eq_true (by kernel_rfl)) k1 bel lt1) (trodAll_cons_mk (Below.trod laidOut (by kernel_rfl) (of_decide_eq_true (by kernel_rfl)) k2 bel lt2) trodAll_mk0))), rfl, bel.frame _, fun h => by cases h⟩
theorem over : Rows.topPartedRow.holds Try.pinned (OpenSpec.ofChange Rows.topPartedSpec) :=
 OpenClaim.holds_of_wide 3 Try.f3 rfl rfl rfl rfl rfl rfl rfl ⟨rfl, rfl, rfl, rfl, rfl⟩ rfl rfl rfl rfl rfl (by kernel_rfl) Try.func3 (by kernel_rfl)
  (of_decide_eq_true (by kernel_rfl)) (by unfold Func.isWrapper; first | (rw [if_pos (by decide +kernel)]; kernel_rfl) | (rw [if_neg (by decide +kernel)]; exact ⟨rfl, rfl⟩))
  (fun os started H enc _ => lifted os started H enc)
end Go.Proofs.Ytebejadiaooooaa.topParted
namespace Go.Proofs.Ytebejadiaooooaa
theorem topParted_holds : Rows.TopPartedSaid := topParted.over
#print axioms topParted_holds
end Go.Proofs.Ytebejadiaooooaa
end
