/- Texts of one claim (laid by shake.py). -/
import Derived.Test.YtljnlnbopohghaaZCf11
import Derived.Test.YtljnlnbopohghaaZCf5
import Derived.Test.YtljnlnbopohghaaZCf12
import Derived.Test.YtljnlnbopohghaaZCf8
import Derived.Deep.RegionHeld3
import Derived.Test.YtljnlnbopohghaaZCf0
import Derived.Deep.Slices
import Derived.ChangeArms
import Derived.SizedLaws
import Derived.OpenShut
import Derived.Test.YtljnlnbopohghaaZCf4
import Derived.Test.YtljnlnbopohghaaZCf6
import Derived.Shelf.SlIterI.Nil
import Derived.Shelf.SortM.Plain
import Derived.Shelf.SortM.SortNone
import Derived.Ground.GgzProg
import Derived.Ground.SlgmProg
import Derived.Test.YtljnlnbopohghaaProg
import Derived.Maps.OwnIn
import Derived.LoopIn
import Derived.Sort.MapsRangeIn
import Derived.OrdersIn
set_option linter.unusedVariables false
set_option linter.unusedSimpArgs false
section
namespace Go.Proofs.Ytljnlnbopohghaa.Mdl
open Go.RowKit Go.Shelf Go.Proofs.YtljnlnbopohghaaW.PrintWords Go.Proofs.YtljnlnbopohghaaW.PrintLast Go.Proofs.YtljnlnbopohghaaW.PrintMore Go.Proofs.Ytljnlnbopohghaa.Own Go.Proofs.Ytljnlnbopohghaa.Ord Go.Proofs.Ytljnlnbopohghaa Go.Proofs.Ytljnlnbopohghaa.P
open Go.Proofs.Ytljnlnbopohghaa.Cur (upd upd_same upd_other tookV now rrB)
set_option maxHeartbeats 1000000
set_option maxRecDepth 100000
set_option maxHeartbeats 4000000
def setC (cs : List Cu) (n : Int) (x : Cu) : List Cu := cs.set (n - 1).toNat x
def openV (cs : List Cu) (f t : ByteArray) : List Cu × Int × Int := if rrB f t = true then (cs ++ [⟨⟨f, t⟩, false, false⟩], (cs.length : Int) + 1, 0) else (cs, 0, 7)
def ofX (y : Cur.X) : Cu := ⟨⟨y.1, y.2.1⟩, y.2.2, false⟩
def tookL (cs : List Cu) (n : Int) : Option Cur.X → List Cu
 | none => cs
 | some y => setC cs n (ofX y)
def tookC (cs : List Cu) (n : Int) (l : List En) (most : Int) : List Cu × Bool × Int := (tookL cs n (tookV (tabF cs n) l most).2.2, (tookV (tabF cs n) l most).1, (tookV (tabF cs n) l most).2.1)
def closeC (cs : List Cu) (n : Int) : List Cu × Int := if (tabF cs n).isSome = true then (setC cs n ⟨⟨e0, e0⟩, false, true⟩, 0) else (cs, 11)
theorem tabF_some {cs : List Cu} {n : Int} {x : Cur.X} (h : tabF cs n = some x) : 1 ≤ n ∧ n ≤ cs.length ∧ ∃ c, cs[(n - 1).toNat]? = some c ∧ c.f2 = false ∧ x = curX c := by
 unfold tabF at h
 split at h
 ·rename_i h1
  cases hc : cs[(n - 1).toNat]? with
  | none => rw [hc] at h; cases h
  | some c =>
   rw [hc] at h
   simp only at h
   have hl := (List.getElem?_eq_some_iff.1 hc).1
   cases h2 : c.f2 with
   | true => rw [h2] at h; simp at h
   | false =>
    rw [h2] at h
    simp at h
    exact ⟨h1, by omega, c, rfl, h2, h.symm⟩
 cases h
theorem tabF_at {cs : List Cu} {n : Int} {c : Cu} (h1 : 1 ≤ n) (hc : cs[(n - 1).toNat]? = some c) : tabF cs n = if c.f2 = true then none else some (curX c) := by
 unfold tabF
 rw [if_pos h1, hc]
theorem tabF_out {cs : List Cu} {n : Int} (h : ¬ (1 ≤ n ∧ n ≤ cs.length)) : tabF cs n = none := by
 cases hx : tabF cs n with
 | none => rfl
 | some x => obtain ⟨a, b, _⟩ := tabF_some hx; exact absurd ⟨a, b⟩ h
theorem tabF_append (cs : List Cu) (c : Cu) (hc : c.f2 = false) : tabF (cs ++ [c]) = upd (tabF cs) ((cs.length : Int) + 1) (some (curX c)) := by
 funext k
 unfold upd
 by_cases hk : k = (cs.length : Int) + 1
 ·rw [if_pos hk, tabF_at (c := c) (by omega) (by rw [show (k - 1).toNat = cs.length by omega]; simp), hc]
  rfl
 rw [if_neg hk]
 by_cases h1 : 1 ≤ k ∧ k ≤ cs.length
 ·unfold tabF
  rw [if_pos h1.1, if_pos h1.1, List.getElem?_append_left (by omega)]
 rw [tabF_out h1, tabF_out (by rw [List.length_append, List.length_singleton]; omega)]
theorem tabF_set {cs : List Cu} {n : Int} (h : 1 ≤ n ∧ n ≤ cs.length) (c : Cu) : tabF (setC cs n c) = upd (tabF cs) n (if c.f2 = true then none else some (curX c)) := by
 funext k
 unfold upd setC
 by_cases hk : k = n
 ·subst hk
  rw [if_pos rfl, tabF_at (c := c) h.1 (by rw [List.getElem?_set_self (by omega)])]
 rw [if_neg hk]
 unfold tabF
 by_cases h1 : 1 ≤ k
 ·rw [if_pos h1, if_pos h1, List.getElem?_set_ne (by omega)]
 rw [if_neg h1, if_neg h1]
theorem cntV_append (cs : List Cu) (c : Cu) (hc : c.f2 = false) : cntV (cs ++ [c]) = cntV cs + 1 := by simp [cntV, hc]
theorem cnt_set : ∀ (cs : List Cu) (i : Nat) (c d : Cu), cs[i]? = some d → ((cs.set i c).filter (fun c => !c.f2)).length + (if d.f2 = true then 0 else 1) = (cs.filter (fun c => !c.f2)).length + (if c.f2 = true then 0 else 1)
 | [], i, c, d, h => by simp at h
 | x :: cs, 0, c, d, h => by
  have : x = d := by simpa using h
  subst this
  rw [List.set_cons_zero, List.filter_cons, List.filter_cons]
  cases x.f2 <;> cases c.f2 <;> simp <;> omega
 | x :: cs, i + 1, c, d, h => by
  have ih := cnt_set cs i c d (by simpa using h)
  rw [List.set_cons_succ, List.filter_cons, List.filter_cons]
  cases x.f2 <;> simp only [Bool.not_true, Bool.not_false, Bool.false_eq_true, if_true, if_false, List.length_cons] <;> omega
theorem cntV_set {cs : List Cu} {n : Int} {x : Cur.X} (h : tabF cs n = some x) (c : Cu) : cntV (setC cs n c) + 1 = cntV cs + (if c.f2 = true then 0 else 1) := by
 obtain ⟨_, _, d, hd, hf, _⟩ := tabF_some h
 have := cnt_set cs (n - 1).toNat c d hd
 rw [hf] at this
 exact this
theorem tookV_some {o : Option Cur.X} {l : List En} {most : Int} {y : Cur.X} (h : (tookV o l most).2.2 = some y) : o.isSome = true := by
 cases o with
 | none => cases h
 | some x => rfl
theorem setC_length (cs : List Cu) (n : Int) (c : Cu) : (setC cs n c).length = cs.length := List.length_set
theorem took_tab (cs : List Cu) (n : Int) (l : List En) (most : Int) : tabF (tookC cs n l most).1 = now (tabF cs) n (tookV (tabF cs n) l most).2.2 ∧ (tookC cs n l most).1.length = cs.length ∧ cntV (tookC cs n l most).1 = cntV cs := by
 unfold tookC
 simp only
 cases hy : (tookV (tabF cs n) l most).2.2 with
 | none => exact ⟨rfl, rfl, rfl⟩
 | some y =>
  have hs := tookV_some hy
  cases hx : tabF cs n with
  | none => rw [hx] at hs; cases hs
  | some x =>
   obtain ⟨a, b, _⟩ := tabF_some hx
   refine ⟨(tabF_set ⟨a, b⟩ (ofX y)).trans rfl, setC_length _ _ _, ?_⟩
   have := cntV_set hx (ofX y)
   simp [ofX] at this
   exact this
theorem open_tab (cs : List Cu) (f t : ByteArray) (h : rrB f t = true) : tabF (openV cs f t).1 = upd (tabF cs) ((cs.length : Int) + 1) (some (f, t, false)) ∧ (openV cs f t).1.length = cs.length + 1 ∧ cntV (openV cs f t).1 = cntV cs + 1 := by
 unfold openV
 rw [if_pos h]
 exact ⟨tabF_append _ _ rfl, by simp, cntV_append _ _ rfl⟩
theorem close_tab (cs : List Cu) (n : Int) : tabF (closeC cs n).1 = upd (tabF cs) n none ∧ (closeC cs n).1.length = cs.length ∧ cntV (closeC cs n).1 + (if (tabF cs n).isSome = true then 1 else 0) = cntV cs := by
 unfold closeC
 cases hx : tabF cs n with
 | none =>
  refine ⟨?_, rfl, rfl⟩
  show tabF cs = _
  funext k
  unfold upd
  split
  ·rename_i q; rw [q, hx]
  rfl
 | some x =>
  obtain ⟨a, b, _⟩ := tabF_some hx
  simp only [Option.isSome_some, if_true]
  refine ⟨(tabF_set ⟨a, b⟩ _).trans rfl, setC_length _ _ _, ?_⟩
  have := cntV_set hx ⟨⟨e0, e0⟩, false, true⟩
  simp at this
  exact this
theorem rdC_at {cs : List Cu} {i : Nat} {c : Cu} (h : cs[i]? = some c) : rd_T97 cs (i : Int) = c := by
 simp [rd_T97, rdOf, h]
theorem Is_eq (cs : List Cu) (n : Int) (h0 : -9223372036854775807 ≤ n) (h1 : n ≤ 9223372036854775807) (hl : cs.length ≤ 1000000) : catchmentref27_Is.f cs n = some (tabF cs n).isSome := by
 unfold catchmentref27_Is.f
 have hw : wrap64 (n - 1) = n - 1 := IntWalk.wrap64_in _ (by omega)
 by_cases h : 1 ≤ n ∧ n ≤ cs.length
 ·obtain ⟨c, hc⟩ : ∃ c, cs[(n - 1).toNat]? = some c := ⟨_, List.getElem?_eq_getElem (by omega)⟩
  have e := rdC_at hc
  rw [show (((n - 1).toNat : Nat) : Int) = n - 1 by omega] at e
  rw [if_pos (by omega), if_pos (by omega), hw, if_pos (by omega), if_pos (by omega), e, tabF_at h.1 hc]
  cases c.f2 <;> rfl
 rw [tabF_out h]
 by_cases h2 : n ≥ 1
 ·rw [if_pos h2, if_neg (by omega)]; rfl
 rw [if_neg h2]; rfl
theorem With_eq (cs : List Cu) (n : Int) (f t : ByteArray) (a b : Bool) (h0 : 1 ≤ n) (h1 : n ≤ cs.length) (hl : cs.length ≤ 1000000) : catchmentref27_With.f cs n f t a b = some (setC cs n ⟨⟨f, t⟩, a, b⟩) := by
 unfold catchmentref27_With.f
 have hw : wrap64 (n - 1) = n - 1 := IntWalk.wrap64_in _ (by omega)
 rw [Option.bind_some, if_pos (by simp; omega), Option.bind_some, hw, List.nil_append, if_pos (by omega), if_pos (by omega)]
 rfl
theorem Open_eq (cs : List Cu) (f t : ByteArray) (hl : cs.length ≤ 1000000) : catchmentref27_Open.f cs f t = some (openV cs f t) := by
 unfold catchmentref27_Open.f openV
 rw [Cur.right_eq, Option.bind_some]
 cases rrB f t with
 | false => rfl
 | true =>
  rw [if_pos rfl, if_pos rfl, Option.bind_some, if_pos (by simp; omega), Option.bind_some, Option.bind_some, if_pos (by simp; omega), Option.bind_some]
  simp
theorem Close_eq (cs : List Cu) (n : Int) (h0 : -9223372036854775807 ≤ n) (h1 : n ≤ 9223372036854775807) (hl : cs.length ≤ 1000000) : catchmentref27_Close.f cs n = some (closeC cs n) := by
 unfold catchmentref27_Close.f closeC
 rw [Is_eq cs n h0 h1 hl, Option.bind_some]
 cases hx : tabF cs n with
 | none => rfl
 | some x =>
  obtain ⟨a, b, _⟩ := tabF_some hx
  rw [With_eq cs n _ _ _ _ a b hl]
  rfl
theorem incE_loop (cs : List Cu) (n : Int) (l : List En) (most : Int) (f t : ByteArray) (d b : Bool) (hl : l.length ≤ 1000000) (r : Option (List Cu × Bool × Int)) : ∀ (q : List En) (k i : Nat), l.drop i = q → i ≤ l.length → l.length + 2 + q.length < k →
  (∀ k', l.length + 2 < k' → Cur.outside f t q = false → catchmentref27_Took.l0 k' cs n l most (l.length : Int) f t d b = r) → (Cur.outside f t q = true → r = some (cs, false, 16)) → catchmentref27_Took.l0 k cs n l most (i : Int) f t d b = r := by
 intro q
 induction q with
 | nil =>
  intro k i hd hi hk h1 _
  have := drop_none hd hi
  rw [this]
  exact h1 k (by simp at hk; omega) rfl
 | cons x q ih =>
  intro k i hd hi hk h1 h2
  simp only [List.length_cons] at hk
  obtain ⟨k, rfl⟩ : ∃ m, k = m + 1 := ⟨k - 1, by omega⟩
  obtain ⟨hlt, hx, hd2, _, _⟩ := drop_any hd
  have eo : Cur.outside f t (x :: q) = (!Cur.holdsB f t x.f0 || Cur.outside f t q) := by simp [Cur.outside]
  rw [catchmentref27_Took.l0, if_pos (by omega), if_pos (by omega), rdE_at hx, Cur.holds2_eq, Option.bind_some, wrap1 (by omega)]
  cases hh : Cur.holdsB f t x.f0 with
  | false =>
   rw [if_neg (by simp)]
   exact (h2 (by rw [eo, hh]; rfl)).symm
  | true =>
   rw [if_pos rfl]
   refine ih k (i + 1) hd2 (by omega) (by omega) (fun k' hk' ho => h1 k' hk' (by rw [eo, hh, ho]; rfl)) (fun ho => h2 (by rw [eo, hh, ho]; rfl))
def tookEnd (f t : ByteArray) (d : Bool) (l : List En) (most : Int) : Bool × Int × Option Cur.X :=
 if d = true ∨ (l.length : Int) < most then (true, 0, some (e0, e0, true)) else match l[l.length - 1]? with
  | none => (true, 0, none)
  | some x => ((Cur.behV f t x.f0).2.2, 0, some (Cur.behV f t x.f0))
theorem tookV_end (f t : ByteArray) (d : Bool) (l : List En) (most : Int) : tookV (some (f, t, d)) l most =
  if d = true ∧ 0 < l.length then (false, 15, none) else if most < 1 then (false, 2, none) else if most < l.length then (false, 4, none) else if Cur.incB l = false then (false, 16, none) else if Cur.outside f t l = true then (false, 16, none) else tookEnd f t d l most := rfl
theorem Took_eq (cs : List Cu) (n : Int) (l : List En) (most : Int) (h0 : -9223372036854775807 ≤ n) (h1 : n ≤ 9223372036854775807) (hl : cs.length ≤ 1000000) (hll : l.length ≤ 1000000) (hsz : ∀ x ∈ l, x.f0.size ≤ 140737488351232) (k : Nat) (hk : 2 * l.length + 10 < k) : catchmentref27_Took.f k cs n l most = some (tookC cs n l most) := by
 unfold catchmentref27_Took.f
 rw [Is_eq cs n h0 h1 hl, Option.bind_some]
 cases hx : tabF cs n with
 | none =>
  rw [if_neg (by simp)]
  unfold tookC
  rw [hx]
  rfl
 | some x =>
  obtain ⟨a, b_1, c, hc, hcf, rfl⟩ := tabF_some hx
  have e := rdC_at hc
  rw [show (((n - 1).toNat : Nat) : Int) = n - 1 by omega] at e
  have hw : wrap64 (n - 1) = n - 1 := IntWalk.wrap64_in _ (by omega)
  obtain ⟨⟨cf, ct⟩, ce, cc⟩ := c
  simp only at hcf
  subst hcf
  rw [if_pos (by rfl), hw, if_pos (by omega), if_pos (by omega), e]
  simp only
  have R : ∀ z : Bool, z = (ce && decide (0 < (l.length : Int))) → catchmentref27_Took.j0 k cs n l most z cf ct ce false = some (tookC cs n l most) := by
   intro z hz
   have eT : tookC cs n l most = (tookL cs n (tookV (some (cf, ct, ce)) l most).2.2, (tookV (some (cf, ct, ce)) l most).1, (tookV (some (cf, ct, ce)) l most).2.1) := by unfold tookC; rw [hx]; rfl
   rw [eT]
   obtain ⟨k, rfl⟩ : ∃ m, k = m + 1 := ⟨k - 1, by omega⟩
   rw [catchmentref27_Took.j0]
   rw [tookV_end]
   by_cases hz1 : ce = true ∧ 0 < l.length
   ·have : z = true := by rw [hz, hz1.1]; simpa using hz1.2
    rw [if_pos this, if_pos hz1]
    rfl
   have : ¬ z = true := by
    rw [hz]
    intro q
    rw [Bool.and_eq_true, decide_eq_true_eq] at q
    exact hz1 ⟨q.1, by omega⟩
   rw [if_neg this, if_neg hz1]
   by_cases m1 : most < 1
   ·rw [if_pos m1, if_pos m1]
    rfl
   rw [if_neg m1, if_neg m1]
   by_cases m2 : most < (l.length : Int)
   ·rw [if_pos m2, if_pos m2]
    rfl
   rw [if_neg m2, if_neg m2]
   refine incE_loop cs n l most cf ct ce false hll _ l k 0 rfl (by omega) (by omega) (fun k' hk' ho => ?_) (fun ho => ?_)
   ·obtain ⟨k', rfl⟩ : ∃ m, k' = m + 2 + l.length + 1 := ⟨k' - 3 - l.length, by omega⟩
    rw [catchmentref27_Took.l0, if_neg (by omega), Cur.ref_eq _ _ (by omega), Option.bind_some]
    cases hi : Cur.incB l with
    | false =>
     rw [if_neg (by simp), if_pos rfl]
     rfl
    | true =>
     have eR : (if Cur.outside cf ct l = true then ((false, 16, none) : Bool × Int × Option Cur.X) else tookEnd cf ct ce l most) = tookEnd cf ct ce l most := if_neg (by rw [ho]; simp)
     have eS : (if true = false then ((false, 16, none) : Bool × Int × Option Cur.X) else if Cur.outside cf ct l = true then (false, 16, none) else tookEnd cf ct ce l most) = tookEnd cf ct ce l most := (if_neg (by simp)).trans eR
     rw [eS, if_pos rfl]
     have J : ∀ b : Bool, b = (ce || decide ((l.length : Int) < most)) → catchmentref27_Took.j2 (k' + 2 + l.length) cs n l b cf ct ce false = some (tookL cs n (tookEnd cf ct ce l most).2.2, (tookEnd cf ct ce l most).1, (tookEnd cf ct ce l most).2.1) := by
      intro b hb
      rw [show k' + 2 + l.length = (k' + 1 + l.length) + 1 by omega, catchmentref27_Took.j2]
      by_cases hc1 : ce = true ∨ (l.length : Int) < most
      ·have : b = true := by rw [hb]; rcases hc1 with q | q <;> simp [q]
       have eE : tookEnd cf ct ce l most = (true, 0, some (e0, e0, true)) := if_pos hc1
       rw [eE, if_pos this, With_eq cs n _ _ _ _ a b_1 hl, Option.bind_some]
       rfl
      have : ¬ b = true := by
       rw [hb]
       intro q
       rw [Bool.or_eq_true, decide_eq_true_eq] at q
       exact hc1 q
      have hlen : 0 < l.length := by
       have := not_or.1 hc1
       omega
      obtain ⟨x, hxl⟩ : ∃ x, l[l.length - 1]? = some x := ⟨_, List.getElem?_eq_getElem (by omega)⟩
      have hwl : wrap64 ((l.length : Int) - 1) = ((l.length - 1 : Nat) : Int) := (IntWalk.wrap64_in _ (by omega)).trans (by omega)
      have hxz := hsz x (List.mem_of_getElem? hxl)
      have eE : tookEnd cf ct ce l most = ((Cur.behV cf ct x.f0).2.2, 0, some (Cur.behV cf ct x.f0)) := by
       unfold tookEnd
       rw [if_neg hc1, hxl]
      rw [eE, if_neg this, hwl, if_pos (by omega), if_pos (by omega), rdE_at hxl, if_pos (by omega), Cur.right_eq, Option.bind_some]
      have hb : Cur.behV cf ct x.f0 = if rrB (x.f0 ++ (⟨#[0]⟩ : ByteArray)) ct = true then (x.f0 ++ (⟨#[0]⟩ : ByteArray), ct, false) else (e0, e0, true) := rfl
      rw [hb]
      cases rrB (x.f0 ++ (⟨#[0]⟩ : ByteArray)) ct with
      | true =>
       rw [if_pos rfl, With_eq cs n _ _ _ _ a b_1 hl, Option.bind_some, if_pos rfl]
       rfl
      | false =>
       rw [if_neg (by simp), With_eq cs n _ _ _ _ a b_1 hl, Option.bind_some, if_neg (by simp)]
       rfl
     by_cases hce : ce = true
     ·rw [if_pos hce]
      exact J true (by rw [hce]; rfl)
     rw [if_neg hce]
     exact J _ (by rw [Bool.eq_false_iff.2 hce]; rfl)
   cases hi : Cur.incB l with
   | false => rw [if_pos rfl]; rfl
   | true => rw [if_neg (by simp), if_pos ho]; rfl
  by_cases hce : ce = true
  ·rw [if_pos hce]
   exact R _ (by rw [hce]; rfl)
  rw [if_neg hce]
  exact R _ (by rw [Bool.eq_false_iff.2 hce]; rfl)
theorem Len_loop (cs : List Cu) (hl : cs.length ≤ 1000000) : ∀ (q : List Cu) (k i : Nat) (o : Nat), cs.drop i = q → i ≤ cs.length → o ≤ 1000000 → o + q.length ≤ 1000000 → q.length < k → catchmentref27_Len.l0 k cs (o : Int) (i : Int) = some (((o + (q.filter (fun c => !c.f2)).length : Nat) : Int)) := by
 intro q
 induction q with
 | nil =>
  intro k i o hd hi ho hq hk
  obtain ⟨k, rfl⟩ : ∃ m, k = m + 1 := ⟨k - 1, by omega⟩
  have := drop_none hd hi
  rw [catchmentref27_Len.l0, if_neg (by omega)]
  rfl
 | cons c q ih =>
  intro k i o hd hi ho hq hk
  simp only [List.length_cons] at hq hk
  obtain ⟨k, rfl⟩ : ∃ m, k = m + 1 := ⟨k - 1, by omega⟩
  obtain ⟨hlt, hx, hd2, _, _⟩ := drop_any hd
  rw [catchmentref27_Len.l0, if_pos (by omega), if_pos (by omega), rdC_at hx, wrap1 (by omega), wrap1 (by omega), List.filter_cons]
  cases hc : c.f2 with
  | true =>
   rw [if_pos rfl, ih k (i + 1) o hd2 (by omega) ho (by omega) (by omega)]
   simp
  | false =>
   rw [if_neg (by simp), ih k (i + 1) (o + 1) hd2 (by omega) (by omega) (by omega) (by omega)]
   simp only [Bool.not_false, if_true, List.length_cons]
   congr 2
   omega
theorem Len_eq (k : Nat) (cs : List Cu) (hl : cs.length ≤ 1000000) (hk : cs.length < k) : catchmentref27_Len.f k cs = some (cntV cs : Int) := by
 have := Len_loop cs hl cs k 0 0 rfl (by omega) (by omega) (by omega) hk
 rw [Nat.zero_add] at this
 exact this
theorem Is_all (cs : List Cu) (n : Int) (hl : cs.length ≤ 1000000) : catchmentref27_Is.f cs n = some (tabF cs n).isSome := by
 by_cases h : 1 ≤ n ∧ n ≤ cs.length
 ·exact Is_eq cs n (by omega) (by omega) hl
 unfold catchmentref27_Is.f
 rw [tabF_out h]
 by_cases h2 : n ≥ 1
 ·rw [if_pos h2, if_neg (by omega)]; rfl
 rw [if_neg h2]; rfl
theorem Close_all (cs : List Cu) (n : Int) (hl : cs.length ≤ 1000000) : catchmentref27_Close.f cs n = some (closeC cs n) := by
 by_cases h : 1 ≤ n ∧ n ≤ cs.length
 ·exact Close_eq cs n (by omega) (by omega) hl
 unfold catchmentref27_Close.f closeC
 rw [Is_all cs n hl, tabF_out h]
 rfl
structure Sx (Z : Nat → Prop) (w : World) (p b m : Nat) (cs : List Cu) (A : Option Addr) (cap : Nat) : Prop where
 tb : Cur.Tb w p b cs.length m (tabF cs) (cntV cs)
 row : Kd.V P.k97 97 w 0 Z (.slice A cs.length cap) cs
def So (Z : Nat → Prop) (w : World) (p b m : Nat) (cs : List Cu) (e : Ending) (w' : World) : Prop :=
 ∃ B cp m', e = .returned (.tuple #[.slice B cs.length cp, .bool true]) ∧ Sx Z w' p b m' cs B cp ∧ m' ≤ m + 1 ∧ Fr [p, b] w w'
theorem Sx.fr {Z : Nat → Prop} {w w' : World} {p b m cap : Nat} {cs : List Cu} {A : Option Addr} (h : Sx Z w p b m cs A cap) {B : List Nat} (f : Fr B w w') (hp : p ∉ B) (hb : b ∉ B) (hz : ∀ k, Z k → k ∉ B) : Sx Z w' p b m cs A cap :=
 ⟨h.tb.fr f hp hb, Kd.V_step h.row (fun k hk hl => f.block k hl (hz k hk))⟩
theorem row_fr {Z : Nat → Prop} {w w' : World} {p b : Nat} {v : Value} {cs : List Cu} (hV : Kd.V P.k97 97 w 0 Z v cs) (hz : ∀ k, Z k → k ≠ p ∧ k ≠ b) (f : Fr [p, b] w w') : Kd.V P.k97 97 w' 0 Z v cs :=
 Kd.V_step hV (fun k hk hl => f.block k hl (by have := hz k hk; simp; omega))
theorem V_base {Z : Nat → Prop} {w : World} {v : Value} {cs : List Cu} {base base' : Nat} (h : Kd.V P.k97 97 w base Z v cs) : Kd.V P.k97 97 w base' Z v cs := h
theorem V_into {Z : Nat → Prop} {w : World} {v : Value} {cs : List Cu} {a base : Nat} (h : Kd.V P.k97 97 w base (fun k => Z k ∨ a ≤ k) v cs) (hz : ∀ k, a ≤ k → Z k) : Kd.V P.k97 97 w 0 Z v cs :=
 Kd.V_mono h (fun k hk => hk.elim id (hz k))
theorem fr_then {p b : Nat} {w w1 w2 : World} (h : Fr [p, b] w w1) (k : Fr [p, b] w1 w2) : Fr [p, b] w w2 := h.trans k (fun x hx => .inl hx)
theorem fr_nil {p b : Nat} {w w1 : World} (h : Fr [] w w1) : Fr [p, b] w w1 := h.wide (fun x hx => by cases hx)
theorem fr_bel {p b : Nat} {w w1 : World} (h : Below w.heap.size w w1) : Fr [p, b] w w1 := Fr.of_below h
theorem step_open {Z : Nat → Prop} {w : World} {p b m cap : Nat} {cs : List Cu} {A : Option Addr} (h : Sx Z w p b m cs A cap) (hz : ∀ k, Z k → k ≠ p ∧ k ≠ b) (hzn : ∀ k, w.heap.size ≤ k → Z k) (hl : cs.length < 1000000) (hm : m < 1000000) (d1 d2 : Int) (f t : ByteArray) (A5 : Option Addr) (n5 c5 : Nat) :
  Calls Try.prog 11 #[.pointer (some ⟨p, 0, none⟩), .slice A cs.length cap, .agg #[.int .i64 0, .int .i64 d1, .int .i64 d2, .string f, .string t, .slice A5 n5 c5]] w (So Z w p b m (openV cs f t).1) := by
 have hpl := blk_lt h.tb.blk
 have hbl := h.tb.map.lt
 have hud := Try.underlying32
 have hur := Try.underlying29
 have hR := Open_eq cs f t (by omega)
 have hx0 := blk_new w (.cells #[.int .i64 0, .int .i64 d1, .int .i64 d2, .string f, .string t, .slice A5 n5 c5] 32)
 have h0 := h.fr ((Fr.refl [] w).alloc (.cells #[.int .i64 0, .int .i64 d1, .int .i64 d2, .string f, .string t, .slice A5 n5 c5] 32)) (by simp) (by simp) (by simp)
 have OP : Calls Try.prog 15 #[.pointer (some ⟨p, 0, none⟩), .agg #[.string f, .string t]] (w.alloc (.cells #[.int .i64 0, .int .i64 d1, .int .i64 d2, .string f, .string t, .slice A5 n5 c5] 32)) fun e w1 => e = .returned (.tuple #[.int .i64 (openV cs f t).2.1, .int .i64 (openV cs f t).2.2]) ∧ (∃ m', m' ≤ m + 1 ∧ Cur.Tb w1 p b (openV cs f t).1.length m' (tabF (openV cs f t).1) (cntV (openV cs f t).1)) ∧ Fr [p, b] (w.alloc (.cells #[.int .i64 0, .int .i64 d1, .int .i64 d2, .string f, .string t, .slice A5 n5 c5] 32)) w1 := by
  refine (Cur.open_any h0.tb (by omega) (by omega) hm (tabF_out (by omega)) f t).mono ?_
  rintro e w1 ⟨rfl, hT, hf⟩
  cases hr : rrB f t with
  | true =>
   have ho := open_tab cs f t hr
   rw [if_pos hr] at hT
   refine ⟨?_, ⟨m + 1, Nat.le_refl _, ?_⟩, hf⟩
   ·unfold openV; simp [hr]
   rw [ho.1, ho.2.1, ho.2.2]
   exact hT
  | false =>
   have ho : openV cs f t = (cs, 0, 7) := by unfold openV; simp [hr]
   rw [if_neg (by rw [hr]; simp)] at hT
   rw [ho]
   exact ⟨rfl, ⟨m, by omega, hT⟩, hf⟩
 generalize openV cs f t = o at hR OP ⊢
 obtain ⟨cs', n1, e1⟩ := o
 have OP2 := OP.mono (R' := fun e w1 => e = .returned (.tuple #[.int .i64 n1, .int .i64 e1]) ∧ (w1.cell? ⟨w.heap.size, 3, none⟩ = some (.string f) ∧ w1.cell? ⟨w.heap.size, 4, none⟩ = some (.string t)) ∧ Calls Try.prog 39 #[.slice A cs.length cap, .agg #[.string f, .string t]] w1 fun e w2 => ∃ B cp, e = .returned (.tuple #[.slice B cs'.length cp, .int .i64 n1, .int .i64 e1]) ∧ Aside0 (∃ m', Sx Z w2 p b m' cs' B cp ∧ m' ≤ m + 1 ∧ Fr [p, b] w w2)) (by
  rintro e w1 ⟨rfl, ⟨m', hm', hT⟩, hf⟩
  have hb1 := hf.blk hx0 (by simp; omega)
  refine ⟨rfl, ⟨blk_cell hb1 3, blk_cell hb1 4⟩, ?_⟩
  have hv := row_fr h0.row hz hf
  refine (catchmentref27_Open.calls Z A cap cs f t cs' n1 e1 w1 (V_base hv) hR).mono ?_
  rintro e w2 ⟨v, rfl, hv2, hB⟩
  obtain ⟨B, cp, rfl, h2, h3⟩ := hv2
  have hs := hf.size
  simp at hs
  exact ⟨B, cp, rfl, ⟨m', ⟨hT.fr (B := []) (Fr.of_below hB) (by simp) (by simp), V_into (base := 0) ⟨B, cp, rfl, h2, h3⟩ (fun k hk => hzn k (by omega))⟩, hm', fr_then (fr_nil ((Fr.refl [] w).alloc _)) (fr_then hf (fr_bel hB))⟩⟩)
 clear OP hR h0
 have hA := aK_ (And.intro h (And.intro hz hzn))
 clear h hz hzn
 have q00 : ((0 : Int) == 0) = true := rfl
 go_enter Try.func11, Try.ntmps11
 go_wp2_with (first
  | (go_at_call 15; refine OP2.mono ?_; clear OP2; rintro e w1 ⟨rfl, ⟨q3, q4⟩, OR⟩)
  | (go_at_call 39; refine OR.mono ?_; clear OR; rintro e w2 ⟨B, cp, rfl, hS⟩))
 go_ret2
 obtain ⟨m', h1, h2, h3⟩ := hS.out
 exact ⟨B, cp, m', rfl, h1, h2, h3⟩
theorem closeC_2 (cs : List Cu) (n : Int) : (closeC cs n).2 = if (tabF cs n).isSome = true then 0 else 11 := by
 unfold closeC
 split <;> rfl
theorem step_close {Z : Nat → Prop} {w : World} {p b m cap : Nat} {cs : List Cu} {A : Option Addr} (h : Sx Z w p b m cs A cap) (hz : ∀ k, Z k → k ≠ p ∧ k ≠ b) (hzn : ∀ k, w.heap.size ≤ k → Z k) (hl : cs.length ≤ 1000000) (d1 d2 : Int) (hd1 : (Lit.int .i64 d1).wf = true) (f t : ByteArray) (A5 : Option Addr) (n5 c5 : Nat) :
  Calls Try.prog 11 #[.pointer (some ⟨p, 0, none⟩), .slice A cs.length cap, .agg #[.int .i64 1, .int .i64 d1, .int .i64 d2, .string f, .string t, .slice A5 n5 c5]] w (So Z w p b m (closeC cs d1).1) := by
 have hpl := blk_lt h.tb.blk
 have hbl := h.tb.map.lt
 have hud := Try.underlying32
 have hur := Try.underlying29
 have hR := Close_all cs d1 hl
 have hx0 := blk_new w (.cells #[.int .i64 1, .int .i64 d1, .int .i64 d2, .string f, .string t, .slice A5 n5 c5] 32)
 have h0 := h.fr ((Fr.refl [] w).alloc (.cells #[.int .i64 1, .int .i64 d1, .int .i64 d2, .string f, .string t, .slice A5 n5 c5] 32)) (by simp) (by simp) (by simp)
 have hct := close_tab cs d1
 have hc2 := closeC_2 cs d1
 generalize closeC cs d1 = o at hR hct hc2 ⊢
 obtain ⟨cs', e1⟩ := o
 simp only at hct hc2
 have RC : Calls Try.prog 40 #[.slice A cs.length cap, .int .i64 d1] (w.alloc (.cells #[.int .i64 1, .int .i64 d1, .int .i64 d2, .string f, .string t, .slice A5 n5 c5] 32)) fun e w1 => ∃ B cp, e = .returned (.tuple #[.slice B cs'.length cp, .int .i64 e1]) ∧ w1.cell? ⟨w.heap.size, 1, none⟩ = some (.int .i64 d1) ∧ Calls Try.prog 18 #[.pointer (some ⟨p, 0, none⟩), .int .i64 d1] w1 fun e w2 => e = .returned (.int .i64 e1) ∧ Aside0 (Sx Z w2 p b m cs' B cp ∧ Fr [p, b] w w2) := by
  refine (catchmentref27_Close.calls Z A cap cs d1 cs' e1 _ (V_base h0.row) hR).mono ?_
  rintro e w1 ⟨v, rfl, hv, hB⟩
  obtain ⟨B, cp, rfl, h2, h3⟩ := hv
  have hT1 := h0.tb.fr (B := []) (Fr.of_below hB) (by simp) (by simp)
  refine ⟨B, cp, rfl, blk_cell (blk_below hx0 hB) 1, (Cur.close_any hT1 d1 hd1).mono ?_⟩
  rintro e w2 ⟨rfl, hT, hf⟩
  have hs := hB.size
  simp at hs
  have hf2 : Fr [p, b] w1 w2 := hf.wide (by simp)
  refine ⟨by rw [hc2], ⟨⟨?_, row_fr (V_into (base := 0) ⟨B, cp, rfl, h2, h3⟩ (fun k hk => hzn k (by simp at hk; omega))) hz hf2⟩, fr_then (fr_nil ((Fr.refl [] w).alloc _)) (fr_then (fr_bel hB) hf2)⟩⟩
  have := hT (cntV cs') hct.2.2
  rw [← hct.1] at this
  rw [hct.2.1]
  exact this
 clear hR h0 hx0 hct hc2 h hz hzn
 have q00 : ((1 : Int) == 0) = false := rfl
 have q01 : ((1 : Int) == 1) = true := rfl
 go_enter Try.func11, Try.ntmps11
 go_wp2_with (first
  | (go_at_call 40; refine RC.mono ?_; clear RC; rintro e w1 ⟨B, cp, rfl, q1, TC⟩)
  | (go_at_call 18; refine TC.mono ?_; clear TC; rintro e w2 ⟨rfl, hS⟩))
 go_ret2
 obtain ⟨h1, h3⟩ := hS.out
 exact ⟨B, cp, m, rfl, h1, by omega, h3⟩
theorem step_few {Z : Nat → Prop} {w : World} {p b m cap : Nat} {cs : List Cu} {A : Option Addr} (h : Sx Z w p b m cs A cap) (d1 d2 : Int) (f t : ByteArray) (A5 : Option Addr) (n5 c5 : Nat) (hn5 : 20 < n5) :
  Calls Try.prog 11 #[.pointer (some ⟨p, 0, none⟩), .slice A cs.length cap, .agg #[.int .i64 2, .int .i64 d1, .int .i64 d2, .string f, .string t, .slice A5 n5 c5]] w (So Z w p b m cs) := by
 have hpl := blk_lt h.tb.blk
 have hbl := h.tb.map.lt
 have hud := Try.underlying32
 have hur := Try.underlying29
 have h0 := aK_ (And.intro (h.fr ((Fr.refl [] w).alloc (.cells #[.int .i64 2, .int .i64 d1, .int .i64 d2, .string f, .string t, .slice A5 n5 c5] 32)) (by simp) (by simp) (by simp)) ((Fr.refl [p, b] w).alloc (.cells #[.int .i64 2, .int .i64 d1, .int .i64 d2, .string f, .string t, .slice A5 n5 c5] 32)))
 clear h
 have q00 : ((2 : Int) == 0) = false := rfl
 have q01 : ((2 : Int) == 1) = false := rfl
 have q02 : ((2 : Int) == 2) = true := rfl
 have q03 := decide_eq_true (show (20 : Int) < n5 by omega)
 clear hn5
 go_enter Try.func11, Try.ntmps11
 go_wp2
 go_ret2
 exact ⟨A, cap, m, rfl, h0.out.1, by omega, h0.out.2⟩
theorem Took_all (cs : List Cu) (n : Int) (l : List En) (most : Int) (hl : cs.length ≤ 1000000) (hll : l.length ≤ 1000000) (hsz : ∀ x ∈ l, x.f0.size ≤ 140737488351232) (k : Nat) (hk : 2 * l.length + 10 < k) : catchmentref27_Took.f k cs n l most = some (tookC cs n l most) := by
 by_cases h : 1 ≤ n ∧ n ≤ cs.length
 ·exact Took_eq cs n l most (by omega) (by omega) hl hll hsz k hk
 unfold catchmentref27_Took.f
 rw [Is_all cs n hl, tabF_out h, Option.bind_some, if_neg (by simp)]
 unfold tookC
 rw [tabF_out h]
 rfl
theorem step_took {Z : Nat → Prop} {w : World} {p b m cap : Nat} {cs : List Cu} {A : Option Addr} (h : Sx Z w p b m cs A cap) (hz : ∀ k, Z k → k ≠ p ∧ k ≠ b) (hzn : ∀ k, w.heap.size ≤ k → Z k) (hl : cs.length ≤ 1000000) (hm : m < 1000000) (d1 d2 : Int) (hd1 : (Lit.int .i64 d1).wf = true) (f t : ByteArray) (A5 : Option Addr) (l : List En) (c5 : Nat) (hC : ∀ W, Below w.heap.size w W ∨ Fr [p, b] w W → Kd.C P.k103 W A5 l.length l) (hc5 : l.length ≤ c5) (hsz : ∀ x ∈ l, x.f0.size ≤ 140737488351232) (hn5 : l.length ≤ 20) :
  Calls Try.prog 11 #[.pointer (some ⟨p, 0, none⟩), .slice A cs.length cap, .agg #[.int .i64 2, .int .i64 d1, .int .i64 d2, .string f, .string t, .slice A5 l.length c5]] w (So Z w p b m (tookC cs d1 l d2).1) := by
 have hpl := blk_lt h.tb.blk
 have hbl := h.tb.map.lt
 have hud := Try.underlying32
 have hur := Try.underlying29
 have hR := Took_all cs d1 l d2 hl (by omega) hsz (2 * l.length + 11) (by omega)
 have hx0 := blk_new w (.cells #[.int .i64 2, .int .i64 d1, .int .i64 d2, .string f, .string t, .slice A5 l.length c5] 32)
 have hfa := (Fr.refl [] w).alloc (.cells #[.int .i64 2, .int .i64 d1, .int .i64 d2, .string f, .string t, .slice A5 l.length c5] 32)
 have h0 := h.fr hfa (by simp) (by simp) (by simp)
 have TT : Calls Try.prog 17 #[.pointer (some ⟨p, 0, none⟩), .int .i64 d1, .slice A5 l.length c5, .int .i64 d2] (w.alloc (.cells #[.int .i64 2, .int .i64 d1, .int .i64 d2, .string f, .string t, .slice A5 l.length c5] 32)) fun e w1 => e = .returned (.tuple #[.bool (tookC cs d1 l d2).2.1, .int .i64 (tookC cs d1 l d2).2.2]) ∧ Cur.Tb w1 p b (tookC cs d1 l d2).1.length (m + 1) (tabF (tookC cs d1 l d2).1) (cntV (tookC cs d1 l d2).1) ∧ Fr [p, b] (w.alloc (.cells #[.int .i64 2, .int .i64 d1, .int .i64 d2, .string f, .string t, .slice A5 l.length c5] 32)) w1 := by
  refine (Cur.took_any h0.tb d1 hd1 (hC _ (.inl (hfa.below (by simp) (Nat.le_refl _)))) hc5 d2 hm hsz (by omega)).mono ?_
  rintro e w1 ⟨rfl, hT, hf⟩
  obtain ⟨t1, t2, t3⟩ := took_tab cs d1 l d2
  rw [t1, t2, t3]
  exact ⟨rfl, hT, hf.wide (by simp)⟩
 generalize tookC cs d1 l d2 = o at hR TT ⊢
 obtain ⟨cs', fin, e1⟩ := o
 simp only at TT
 have TT2 := TT.mono (R' := fun e w1 => e = .returned (.tuple #[.bool fin, .int .i64 e1]) ∧ (w1.cell? ⟨w.heap.size, 1, none⟩ = some (.int .i64 d1) ∧ w1.cell? ⟨w.heap.size, 2, none⟩ = some (.int .i64 d2) ∧ w1.cell? ⟨w.heap.size, 5, none⟩ = some (.slice A5 l.length c5)) ∧ Calls Try.prog 41 #[.slice A cs.length cap, .int .i64 d1, .slice A5 l.length c5, .int .i64 d2] w1 fun e w2 => ∃ B cp, e = .returned (.tuple #[.slice B cs'.length cp, .bool fin, .int .i64 e1]) ∧ Aside0 (Sx Z w2 p b (m + 1) cs' B cp ∧ Fr [p, b] w w2)) (by
  rintro e w1 ⟨rfl, hT, hf⟩
  have hb1 := hf.blk hx0 (by simp; omega)
  have hf2 : Fr [p, b] w w1 := fr_then (fr_nil hfa) hf
  refine ⟨rfl, ⟨blk_cell hb1 1, blk_cell hb1 2, blk_cell hb1 5⟩, ?_⟩
  have hv := row_fr h0.row hz hf
  refine (catchmentref27_Took.calls (2 * l.length + 11) Z A cap cs d1 A5 c5 l d2 cs' fin e1 w1 (V_base hv) (hC _ (.inr hf2)) hc5 hR).mono ?_
  rintro e w2 ⟨v, rfl, hv2, hB⟩
  obtain ⟨B, cp, rfl, h2, h3⟩ := hv2
  have hs := hf.size
  simp at hs
  exact ⟨B, cp, rfl, ⟨⟨hT.fr (B := []) (Fr.of_below hB) (by simp) (by simp), V_into (base := 0) ⟨B, cp, rfl, h2, h3⟩ (fun k hk => hzn k (by omega))⟩, fr_then hf2 (fr_bel hB)⟩⟩)
 clear TT hR h0 h hz hzn hx0 hfa hC hsz
 have q00 : ((2 : Int) == 0) = false := rfl
 have q01 : ((2 : Int) == 1) = false := rfl
 have q02 : ((2 : Int) == 2) = true := rfl
 have q03 := decide_eq_false (show ¬ (20 : Int) < l.length by omega)
 clear hn5
 go_enter Try.func11, Try.ntmps11
 go_wp2_with (first
  | (go_at_call 17; refine TT2.mono ?_; clear TT2; rintro e w1 ⟨rfl, ⟨q1, q2, q5⟩, RT⟩)
  | (go_at_call 41; refine RT.mono ?_; clear RT; rintro e w2 ⟨B, cp, rfl, hS⟩))
 go_ret2
 obtain ⟨h1, h3⟩ := hS.out
 exact ⟨B, cp, m + 1, rfl, h1, Nat.le_refl _, h3⟩
theorem step_left {Z : Nat → Prop} {w : World} {p b m cap : Nat} {cs : List Cu} {A : Option Addr} (h : Sx Z w p b m cs A cap) (hl : cs.length ≤ 1000000) (d0 d1 d2 : Int) (hd0 : d0 ≠ 0 ∧ d0 ≠ 1 ∧ d0 ≠ 2) (hd1 : (Lit.int .i64 d1).wf = true) (f t : ByteArray) (A5 : Option Addr) (n5 c5 : Nat) :
  Calls Try.prog 11 #[.pointer (some ⟨p, 0, none⟩), .slice A cs.length cap, .agg #[.int .i64 d0, .int .i64 d1, .int .i64 d2, .string f, .string t, .slice A5 n5 c5]] w (So Z w p b m cs) := by
 have hpl := blk_lt h.tb.blk
 have hbl := h.tb.map.lt
 have hud := Try.underlying32
 have hur := Try.underlying29
 have hR := Is_all cs d1 hl
 have hx0 := blk_new w (.cells #[.int .i64 d0, .int .i64 d1, .int .i64 d2, .string f, .string t, .slice A5 n5 c5] 32)
 have hfa := (Fr.refl [] w).alloc (.cells #[.int .i64 d0, .int .i64 d1, .int .i64 d2, .string f, .string t, .slice A5 n5 c5] 32)
 have h0 := h.fr hfa (by simp) (by simp) (by simp)
 have hba : Below w.heap.size w (w.alloc (.cells #[.int .i64 d0, .int .i64 d1, .int .i64 d2, .string f, .string t, .slice A5 n5 c5] 32)) := hfa.below (by simp) (Nat.le_refl _)
 have LF := Cur.left_any h0.tb d1 hd1
 cases hT : tabF cs d1 with
 | none =>
  rw [hT] at LF hR
  have LF2 := LF.mono (R' := fun e w1 => e = .returned (.tuple #[.agg #[.string ⟨#[]⟩, .string ⟨#[]⟩], .bool false, .int .i64 11]) ∧ (w1.cell? ⟨w.heap.size, 1, none⟩ = some (.int .i64 d1) ∧ (w1.alloc (.cells #[.string ⟨#[]⟩, .string ⟨#[]⟩] 29)).cell? ⟨w.heap.size, 1, none⟩ = some (.int .i64 d1)) ∧ Calls Try.prog 42 #[.slice A cs.length cap, .int .i64 d1] (w1.alloc (.cells #[.string ⟨#[]⟩, .string ⟨#[]⟩] 29)) fun e w2 => e = .returned (.bool false) ∧ (w2.cell? ⟨w1.heap.size, 0, none⟩ = some (.string ⟨#[]⟩) ∧ w2.cell? ⟨w1.heap.size, 1, none⟩ = some (.string ⟨#[]⟩)) ∧ Aside0 (Below w.heap.size w w2)) (by
   rintro e w1 ⟨rfl, hB⟩
   have hb1 := blk_below hx0 hB
   have hB1 := below_then hba (hba.size) hB
   have hB2 := below_alloc hB1 (.cells #[.string ⟨#[]⟩, .string ⟨#[]⟩] 29)
   refine ⟨rfl, ⟨blk_cell hb1 1, blk_cell (blk_alloc hb1 _) 1⟩, ?_⟩
   have rR := Kd.V_reads' (Kd.V_below h.row hB2)
   refine (catchmentref27_Is.calls A cap cs d1 false _ rR.2.2 rR.2.1 hR).mono ?_
   rintro e w2 ⟨rfl, hb_⟩
   have hr := blk_below (blk_new w1 (.cells #[.string ⟨#[]⟩, .string ⟨#[]⟩] 29)) hb_.below
   exact ⟨rfl, ⟨blk_cell hr 0, blk_cell hr 1⟩, ⟨below_then hB2 hB2.size hb_.below⟩⟩)
  have hA := aK_ h
  clear LF hR h0 hx0 hfa hba hT h
  obtain ⟨e0, e1, e2⟩ := hd0
  have q00 : (d0 == 0) = false := beq_eq_false_iff_ne.2 e0
  have q01 : (d0 == 1) = false := beq_eq_false_iff_ne.2 e1
  have q02 : (d0 == 2) = false := beq_eq_false_iff_ne.2 e2
  go_enter Try.func11, Try.ntmps11
  go_wp2_with (first
   | (go_at_call 16; refine LF2.mono ?_; clear LF2; rintro e w1 ⟨rfl, ⟨q1, q2⟩, IS⟩)
   | (go_at_call 42; refine IS.mono ?_; clear IS; rintro e w2 ⟨rfl, ⟨r0, r1⟩, hS⟩))
  go_ret2
  exact ⟨A, cap, m, rfl, hA.out.fr (B := []) (Fr.of_below hS.out) (by simp) (by simp) (by simp), by omega, fr_bel hS.out⟩
 | some x =>
  obtain ⟨g1, g2, c, hc, hcf, rfl⟩ := tabF_some hT
  rw [hT] at LF hR
  obtain ⟨ad, rfl, _⟩ := at_T97 (Kd.V_reads' h.row).2.2 (d1 - 1) (by omega) (by omega)
  have HC : ∀ W, Below w.heap.size w W → W.cell? (ad.add ((d1 - 1).toNat * 4)) = some (.string c.f0.f0) ∧ W.cell? ⟨(ad.add ((d1 - 1).toNat * 4)).block, (ad.add ((d1 - 1).toNat * 4)).off + 1, none⟩ = some (.string c.f0.f1) ∧ W.cell? ⟨(ad.add ((d1 - 1).toNat * 4)).block, (ad.add ((d1 - 1).toNat * 4)).off + 2, none⟩ = some (.bool c.f1) := fun W hW => by
   obtain ⟨ad', e, f0, f1, f2, _⟩ := at_T97 (Kd.V_reads' (Kd.V_below h.row hW)).2.2 (d1 - 1) (by omega) (by omega)
   cases e
   have e1 : rd_T97 cs (d1 - 1) = c := by
    have := rdC_at hc
    rwa [show (((d1 - 1).toNat : Nat) : Int) = d1 - 1 by omega] at this
   rw [e1] at f0 f1 f2
   exact ⟨f0, f1, f2⟩
  have LF2 := LF.mono (R' := fun e w1 => e = .returned (.tuple #[.agg #[.string c.f0.f0, .string c.f0.f1], .bool c.f1, .int .i64 0]) ∧ (w1.cell? ⟨w.heap.size, 1, none⟩ = some (.int .i64 d1) ∧ (w1.alloc (.cells #[.string c.f0.f0, .string c.f0.f1] 29)).cell? ⟨w.heap.size, 1, none⟩ = some (.int .i64 d1)) ∧ Calls Try.prog 42 #[.slice (some ad) cs.length cap, .int .i64 d1] (w1.alloc (.cells #[.string c.f0.f0, .string c.f0.f1] 29)) fun e w2 => e = .returned (.bool true) ∧ (w2.cell? ⟨w.heap.size, 1, none⟩ = some (.int .i64 d1) ∧ w2.cell? ⟨w1.heap.size, 0, none⟩ = some (.string c.f0.f0) ∧ w2.cell? ⟨w1.heap.size, 1, none⟩ = some (.string c.f0.f1) ∧ w2.cell? (ad.add ((d1 - 1).toNat * 4)) = some (.string c.f0.f0) ∧ w2.cell? ⟨(ad.add ((d1 - 1).toNat * 4)).block, (ad.add ((d1 - 1).toNat * 4)).off + 1, none⟩ = some (.string c.f0.f1) ∧ w2.cell? ⟨(ad.add ((d1 - 1).toNat * 4)).block, (ad.add ((d1 - 1).toNat * 4)).off + 2, none⟩ = some (.bool c.f1)) ∧ Aside0 (Below w.heap.size w w2)) (by
   rintro e w1 ⟨rfl, hB⟩
   have hb1 := blk_below hx0 hB
   have hB1 := below_then hba (hba.size) hB
   have hB2 := below_alloc hB1 (.cells #[.string c.f0.f0, .string c.f0.f1] 29)
   refine ⟨rfl, ⟨blk_cell hb1 1, blk_cell (blk_alloc hb1 _) 1⟩, ?_⟩
   have rR := Kd.V_reads' (Kd.V_below h.row hB2)
   refine (catchmentref27_Is.calls (some ad) cap cs d1 true _ rR.2.2 rR.2.1 hR).mono ?_
   rintro e w2 ⟨rfl, hb_⟩
   have hr := blk_below (blk_new w1 (.cells #[.string c.f0.f0, .string c.f0.f1] 29)) hb_.below
   have hB3 := below_then hB2 hB2.size hb_.below
   have hq := HC _ hB3
   exact ⟨rfl, ⟨blk_cell (blk_below (blk_alloc hb1 _) hb_.below) 1, blk_cell hr 0, blk_cell hr 1, hq.1, hq.2.1, hq.2.2⟩, ⟨hB3⟩⟩)
  have hA := aK_ h
  clear LF hR h0 hx0 hfa hba h HC
  obtain ⟨e0, e1, e2⟩ := hd0
  have q00 : (d0 == 0) = false := beq_eq_false_iff_ne.2 e0
  have q01 : (d0 == 1) = false := beq_eq_false_iff_ne.2 e1
  have q02 : (d0 == 2) = false := beq_eq_false_iff_ne.2 e2
  have hw1 : IntKind.i64.wrap (d1 - 1) = d1 - 1 := IntWalk.i64_in _ (by omega)
  have i0 : decide (0 ≤ d1 - 1) = true := decide_eq_true (by omega)
  have i1 : decide (d1 - 1 < (cs.length : Int)) = true := decide_eq_true (by omega)
  have i2 := eq_true (show 0 ≤ d1 - 1 by omega)
  have i3 := eq_true (show d1 - 1 < (cs.length : Int) by omega)
  have i4 := eq_true (show 1 ≤ d1 by omega)
  rw [show (d1 - 1).toNat = d1.toNat - 1 by omega] at LF2
  clear g1 g2 hc hT
  go_enter Try.func11, Try.ntmps11
  go_wp2_with (first
   | (go_at_call 16; refine LF2.mono ?_; clear LF2; rintro e w1 ⟨rfl, ⟨q1, q2⟩, IS⟩)
   | (go_at_call 42; refine IS.mono ?_; clear IS; rintro e w2 ⟨rfl, ⟨r0, r1, r2, r3, r4, r5⟩, hS⟩))
  go_region_held3 (fun w' => w'.cell? ⟨w.heap.size, 1, none⟩ = some (.int .i64 d1) ∧ w'.cell? ⟨w1.heap.size, 0, none⟩ = some (.string c.f0.f0) ∧ w'.cell? ⟨w1.heap.size, 1, none⟩ = some (.string c.f0.f1) ∧ w'.cell? (ad.add ((d1.toNat - 1) * 4)) = some (.string c.f0.f0) ∧ w'.cell? ⟨(ad.add ((d1.toNat - 1) * 4)).block, (ad.add ((d1.toNat - 1) * 4)).off + 1, none⟩ = some (.string c.f0.f1) ∧ w'.cell? ⟨(ad.add ((d1.toNat - 1) * 4)).block, (ad.add ((d1.toNat - 1) * 4)).off + 2, none⟩ = some (.bool c.f1)) (first | exact ⟨by assumption, by assumption, by assumption, by assumption, by assumption, by assumption⟩ | exact ⟨r0, r1, r2, r3, r4, r5⟩) (fail)
  go_wp2
  go_ret2
  have hB := below_drew1 hS.out
  exact ⟨some ad, cap, m, rfl, hA.out.fr (B := []) (Fr.of_below hB) (by simp) (by simp) (by simp), by omega, fr_bel hB⟩
end Go.Proofs.Ytljnlnbopohghaa.Mdl
end
section
namespace Go.Proofs.Ytljnlnbopohghaa.Rd
open Go.RowKit Go.ChangeShapes Go.WideShapes Go.Deep Go.Proofs.YtljnlnbopohghaaW.PrintWords
structure Opens {α : Type} (P : Program) (t : TypeId) (d : Kd α) (wf : α → Prop) : Prop where
 cells : P.cellsOf t = d.sz
 down : ∀ {H : Type} {enc : TypeId × Value → H} {w : World} {base : Nat} {spare : Nat → Bool} {held : Bool} {fuel : Nat} {cs : List Value} {x : DataW H × List MemPlace},
  DataW.trod enc P w base spare held fuel t cs = some x → (∀ n ∈ x.1.weights P t, n ≤ reachBytes) → ∃ a, d.K w a cs ∧ wf a
theorem mem_weightsAll {H : Type} {P : Program} {e : TypeId} {d : DataW H} : ∀ {l : List (DataW H)}, d ∈ l → ∀ n ∈ d.weights P e, n ∈ DataW.weightsAll P e l
 | x :: l, hd, n, hn => by
  simp only [DataW.weightsAll, List.mem_append]
  rcases List.mem_cons.1 hd with rfl | hd
  ·exact .inl hn
  exact .inr (mem_weightsAll hd n hn)
theorem Opens.int {P : Program} {t : TypeId} {k : IntKind} (ht : P.underlying t = some (.int k)) (hc : P.cellsOf t = 1) : Opens P t (Kd.int k) (fun n => (Lit.int k n).wf = true) where
 cells := hc
 down := by
  intro H enc w base spare held fuel cs x h _
  obtain ⟨n, rfl, _, hw⟩ := DataW.trod_int ht h
  exact ⟨n, rfl, hw⟩
theorem Opens.bool {P : Program} {t : TypeId} (ht : P.underlying t = some .bool) (hc : P.cellsOf t = 1) : Opens P t Kd.bool (fun _ => True) where
 cells := hc
 down := by
  intro H enc w base spare held fuel cs x h _
  obtain ⟨b, rfl, _⟩ := DataW.trod_bool ht h
  exact ⟨b, rfl, trivial⟩
theorem Opens.string {P : Program} {t : TypeId} (ht : P.underlying t = some .string) (hc : P.cellsOf t = 1) : Opens P t Kd.string (fun s => s.size ≤ 140737488351232) where
 cells := hc
 down := by
  intro H enc w base spare held fuel cs x h hw
  obtain ⟨s, rfl, rfl, _⟩ := DataW.trod_string ht h
  refine ⟨s, rfl, ?_⟩
  have := hw s.data.toList.length (by simp [DataW.weights])
  have e : s.data.toList.length = s.size := by simp
  rw [e] at this
  exact this
theorem Opens.slice {α : Type} {P : Program} {t e : TypeId} {d : Kd α} {wf : α → Prop} (ht : P.underlying t = some (.slice e)) (hc : P.cellsOf t = 1) {B : Nat} (hB : P.bytesOf e = B) (he : Opens P e d wf) :
  Opens P t (Kd.slice e d) (fun l => l.length * B ≤ 140737488351232 ∧ ∀ a ∈ l, wf a) where
 cells := hc
 down := by
  intro H enc w base spare held fuel cs x h hw
  rcases open_slice ht h with ⟨rfl, _⟩ | ⟨a, len, cap, m, n, D, Pl, rfl, hb, hl, hm, hmm, rfl, hx⟩
  ·exact ⟨[], ⟨none, 0, rfl, Nat.le_refl _, rfl, by simp, fun h0 => absurd h0 (by simp)⟩, by simp, fun a ha => by simp at ha⟩
  have hlm : len ≤ m := by rw [hmm]; split <;> omega
  have hel : ∀ i : Fin len, ∃ y : α, ∃ c : List Value, w.cells? base (a.add (i.1 * P.cellsOf e)) (P.cellsOf e) = some c ∧ d.K w y c ∧ wf y := by
   intro i
   obtain ⟨c, h1, h2⟩ := hx i.1 (by omega)
   obtain ⟨y, hy, hwf⟩ := he.down h2 (fun n hn => hw n (by
    simp only [DataW.weights, ht, List.mem_cons, List.mem_append]
    exact .inr (.inl (mem_weightsAll (List.mem_map.2 ⟨i.1, List.mem_range.2 i.2, rfl⟩) n hn))))
   exact ⟨y, c, h1, hy, hwf⟩
  obtain ⟨f, hf⟩ := Classical.axiomOfChoice hel
  have hlen : (List.ofFn f).length = len := by simp
  have hmax : len ≤ 9223372036854775807 := by simp only [maxLen] at hm; omega
  refine ⟨List.ofFn f, ⟨some a, cap, ?_, ?_, ?_, ?_, ?_⟩, ?_, ?_⟩
  ·rw [hlen]
  ·rw [hlen]; exact hl
  ·rfl
  ·rw [hlen]; exact hmax
  ·intro _
   refine ⟨a, rfl, fun j p hj => ?_⟩
   obtain ⟨hjl, rfl⟩ := List.getElem?_eq_some_iff.1 hj
   rw [hlen] at hjl
   obtain ⟨c, h1, hy, _⟩ := hf ⟨j, hjl⟩
   obtain ⟨_, hcl, hcell⟩ := World.cells?_some h1
   refine ⟨c, by rw [hcl, he.cells], by simpa using hy, fun i u hu => ?_⟩
   have hi : i < P.cellsOf e := by
    have := (List.getElem?_eq_some_iff.1 hu).1
    omega
   have := hcell i hi
   rw [Go.Deep.add_add] at this
   rw [← he.cells, this, hu]
  ·rw [hlen]
   have hz := hw (((List.range len).map D).length + ((List.range (m - len)).map fun j => D (len + j)).length |>.mul (P.bytesOf e)) (by
    simp only [DataW.weights, ht, List.mem_cons]
    exact .inl rfl)
   rw [hB] at hz
   simp only [List.length_map, List.length_range] at hz
   have h2 : len * B ≤ (len + (m - len)) * B := Nat.mul_le_mul_right _ (by omega)
   exact Nat.le_trans h2 hz
  intro y hy
  obtain ⟨i, rfl⟩ := List.mem_ofFn.1 hy
  obtain ⟨_, _, _, hwf⟩ := hf i
  exact hwf
theorem Opens.iso {α β : Type} {P : Program} {t : TypeId} {d : Kd α} {wf : α → Prop} {f : β → α} (g : α → β) (hg : ∀ a, f (g a) = a) (h : Opens P t d wf) : Opens P t (Kd.iso d f) (fun b => wf (f b)) where
 cells := h.cells
 down := by
  intro H enc w base spare held fuel cs x hx hw
  obtain ⟨a, hk, hwf⟩ := h.down hx hw
  refine ⟨g a, ?_, ?_⟩
  ·show d.K w (f (g a)) cs
   rw [hg]; exact hk
  show wf (f (g a))
  rw [hg]; exact hwf
structure OpensFs {α : Type} (P : Program) (fs : List Field) (off : Nat) (d : Kd α) (wf : α → Prop) : Prop where
 down : ∀ {H : Type} {enc : TypeId × Value → H} {w : World} {base : Nat} {spare : Nat → Bool} {held : Bool} {fuel : Nat} {cs : List Value} {xs : List (DataW H × List MemPlace)},
  cs.length = d.sz → xs.length = fs.length → (∀ (i : Nat) (f : Field), fs[i]? = some f → DataW.trod enc P w base spare held fuel f.type ((cs.drop (f.offset - off)).take (P.cellsOf f.type)) = xs[i]?) →
  (∀ n ∈ DataW.weightsEach P (fs.map (·.type)) (xs.map (·.1)), n ≤ reachBytes) → ∃ a, d.K w a cs ∧ wf a
 offs : ∀ f ∈ fs, off ≤ f.offset
theorem OpensFs.one {α : Type} {P : Program} {f : Field} {off : Nat} {d : Kd α} {wf : α → Prop} (ho : f.offset = off) (h : Opens P f.type d wf) : OpensFs P [f] off d wf where
 offs := by simp [ho]
 down := by
  intro H enc w base spare held fuel cs xs hl hxs hx hw
  have h0 := hx 0 f rfl
  obtain ⟨x, rfl⟩ : ∃ x, xs = [x] := by
   match xs, hxs with
   | [x], _ => exact ⟨x, rfl⟩
  rw [ho, Nat.sub_self, List.drop_zero, h.cells, ← hl, List.take_length] at h0
  exact h.down h0 (fun n hn => hw n (by simp [DataW.weightsEach, hn]))
theorem OpensFs.cons {α β : Type} {P : Program} {f : Field} {fs : List Field} {off off2 : Nat} {d : Kd α} {d2 : Kd β} {wf : α → Prop} {wf2 : β → Prop} (ho : f.offset = off) (h : Opens P f.type d wf) (ho2 : off2 = off + d.sz)
  (h2 : OpensFs P fs off2 d2 wf2) : OpensFs P (f :: fs) off (Kd.pair d d2) (fun p => wf p.1 ∧ wf2 p.2) where
 offs := by
  intro g hg
  rcases List.mem_cons.1 hg with rfl | hg
  ·omega
  ·have := h2.offs g hg; omega
 down := by
  intro H enc w base spare held fuel cs xs hl hxs hx hw
  obtain ⟨x, ys, rfl⟩ : ∃ x ys, xs = x :: ys := by
   match xs, hxs with
   | x :: ys, _ => exact ⟨x, ys, rfl⟩
  have hl' : cs.length = d.sz + d2.sz := hl
  have h0 := hx 0 f rfl
  rw [ho, Nat.sub_self, List.drop_zero, h.cells] at h0
  obtain ⟨a, ha, hwa⟩ := h.down h0 (fun n hn => hw n (by simp [DataW.weightsEach, hn]))
  obtain ⟨b, hb, hwb⟩ := h2.down (cs := cs.drop d.sz) (xs := ys) (by rw [List.length_drop, hl']; omega) (by simpa using hxs) (fun i g hg => by
   have h1 := hx (i + 1) g (by simpa using hg)
   have hgo := h2.offs g (List.mem_of_getElem? hg)
   rw [List.drop_drop]
   have e : d.sz + (g.offset - off2) = g.offset - off := by omega
   rw [e]
   simpa using h1) (fun n hn => hw n (by simp [DataW.weightsEach, hn]))
  exact ⟨(a, b), ⟨cs.take d.sz, cs.drop d.sz, (List.take_append_drop _ _).symm, ha, hb⟩, hwa, hwb⟩
theorem Opens.struct {α : Type} {P : Program} {t : TypeId} {fs : Array Field} {d : Kd α} {wf : α → Prop} (ht : P.underlying t = some (.struct fs)) (hc : P.cellsOf t = d.sz) (h : OpensFs P fs.toList 0 d wf) : Opens P t d wf where
 cells := hc
 down := by
  intro H enc w base spare held fuel cs x hx hw
  obtain ⟨xs, n, rfl, rfl, hl, hxs, hf⟩ := DataW.trod_struct ht hx
  refine h.down (enc := enc) (w := w) (base := base) (spare := spare) (held := held) (fuel := n) (cs := cs) (xs := xs) (by rw [hl, hc]) (by simpa using hxs) (fun i f hi => ?_) (fun n hn => hw n (by simpa [DataW.weights, ht] using hn))
  rw [Nat.sub_zero]
  exact hf i f (by simpa using hi)
end Go.Proofs.Ytljnlnbopohghaa.Rd
end
section
namespace Go.Proofs.Ytljnlnbopohghaa.P
open Go.RowKit Go.Proofs.Ytljnlnbopohghaa.Rd Go.Proofs.YtljnlnbopohghaaW.PrintWords
structure S32 where
 f0 : Int
 f1 : Int
 f2 : Int
 f3 : S29
 f4 : (List S103)
def z32 : S32 := ⟨(0 : Int), (0 : Int), (0 : Int), z29, ([] : List S103)⟩
def k32 : Kd S32 := Kd.iso (Kd.pair (Kd.int .i64) (Kd.pair (Kd.int .i64) (Kd.pair (Kd.int .i64) (Kd.pair k29 (Kd.slice 103 k103))))) (fun x : S32 => (x.f0, x.f1, x.f2, x.f3, x.f4))
theorem k32_open {w : World} {x : S32} {cs : List Value} (h : k32.K w x cs) : ∃ A5 c5, cs = [.int .i64 x.f0, .int .i64 x.f1, .int .i64 x.f2, .string x.f3.f0, .string x.f3.f1, .slice A5 x.f4.length c5] ∧ x.f4.length ≤ c5 ∧ k103.C w A5 x.f4.length x.f4 := by
 obtain ⟨_, _, rfl, rfl, ⟨_, _, rfl, rfl, ⟨_, _, rfl, rfl, ⟨_, _, rfl, s3, ⟨A5, c5, rfl, l5, g5⟩⟩⟩⟩⟩ := h
 obtain rfl := k29_open s3
 exact ⟨A5, c5, rfl, l5, g5⟩
theorem o3 : Opens Try.prog 3 (Kd.int .i64) (fun n => (Lit.int .i64 n).wf = true) := Opens.int Try.underlying3 (by kernel_rfl)
theorem o9 : Opens Try.prog 9 Kd.string (fun x_ => x_.size ≤ 140737488351232) := Opens.string Try.underlying9 (by kernel_rfl)
def wf29 (x : S29) : Prop := (x.f0.size ≤ 140737488351232) ∧ (x.f1.size ≤ 140737488351232)
theorem o29 : Opens Try.prog 29 k29 wf29 := Opens.iso (g := fun p_ => (⟨p_.1, p_.2⟩ : S29)) (fun _ => rfl) (Opens.struct Try.underlying29 (by kernel_rfl) (OpensFs.cons rfl o9 rfl (OpensFs.one rfl o9)))
def wf103 (x : S103) : Prop := (x.f0.size ≤ 140737488351232) ∧ (x.f1.size ≤ 140737488351232)
theorem o103 : Opens Try.prog 103 k103 wf103 := Opens.iso (g := fun p_ => (⟨p_.1, p_.2⟩ : S103)) (fun _ => rfl) (Opens.struct Try.underlying103 (by kernel_rfl) (OpensFs.cons rfl o9 rfl (OpensFs.one rfl o9)))
theorem o30 : Opens Try.prog 30 (Kd.slice 103 k103) (fun x_ => x_.length * 32 ≤ 140737488351232 ∧ ∀ a_ ∈ x_, wf103 a_) := Opens.slice Try.underlying30 (by kernel_rfl) (by kernel_rfl) o103
def wf32 (x : S32) : Prop := ((Lit.int .i64 x.f0).wf = true) ∧ ((Lit.int .i64 x.f1).wf = true) ∧ ((Lit.int .i64 x.f2).wf = true) ∧ (wf29 x.f3) ∧ (x.f4.length * 32 ≤ 140737488351232 ∧ ∀ a_ ∈ x.f4, wf103 a_)
theorem o32 : Opens Try.prog 32 k32 wf32 := Opens.iso (g := fun p_ => (⟨p_.1, p_.2.1, p_.2.2.1, p_.2.2.2.1, p_.2.2.2.2⟩ : S32)) (fun _ => rfl) (Opens.struct Try.underlying32 (by kernel_rfl) (OpensFs.cons rfl o3 rfl (OpensFs.cons rfl o3 rfl (OpensFs.cons rfl o3 rfl (OpensFs.cons rfl o29 rfl (OpensFs.one rfl o30))))))
theorem o22 : Opens Try.prog 22 (Kd.slice 32 k32) (fun x_ => x_.length * 80 ≤ 140737488351232 ∧ ∀ a_ ∈ x_, wf32 a_) := Opens.slice Try.underlying22 (by kernel_rfl) (by kernel_rfl) o32
end Go.Proofs.Ytljnlnbopohghaa.P
end
section
namespace Go.Proofs.Ytljnlnbopohghaa.Mdl
open Go.RowKit Go.Shelf Go.Proofs.YtljnlnbopohghaaW.PrintWords Go.Proofs.YtljnlnbopohghaaW.PrintLast Go.Proofs.YtljnlnbopohghaaW.PrintMore Go.Proofs.Ytljnlnbopohghaa.Own Go.Proofs.Ytljnlnbopohghaa.Ord Go.Proofs.Ytljnlnbopohghaa Go.Proofs.Ytljnlnbopohghaa.P
open Go.Proofs.Ytljnlnbopohghaa.Cur (upd tookV now rrB)
set_option maxRecDepth 100000
set_option maxHeartbeats 4000000
abbrev Dd27 := P.S32
def stepC (cs : List Cu) (d : Dd27) : List Cu := if d.f0 = 0 then (openV cs d.f3.f0 d.f3.f1).1 else if d.f0 = 1 then (closeC cs d.f1).1 else if d.f0 = 2 then (if 20 < d.f4.length then cs else (tookC cs d.f1 d.f4 d.f2).1) else cs
def okd27 (d : Dd27) : Bool := (Lit.int .i64 d.f1).wf && d.f4.all (fun y => decide (y.f0.size ≤ 140737488351232))
theorem okd27_wf {d : Dd27} (h : P.wf32 d) : okd27 d = true := by
 unfold okd27
 rw [Bool.and_eq_true]
 exact ⟨h.2.1, List.all_eq_true.2 (fun y hy => by simpa using (h.2.2.2.2.2 y hy).1)⟩
theorem stepC_len (cs : List Cu) (d : Dd27) : (stepC cs d).length ≤ cs.length + 1 := by
 unfold stepC
 split
 ·unfold openV
  split <;> simp
 split
 ·rw [(close_tab _ _).2.1]; omega
 split
 ·split
  ·omega
  rw [(took_tab _ _ _ _).2.1]; omega
 omega
theorem step_any {Z : Nat → Prop} {w : World} {p b m cap : Nat} {cs : List Cu} {A : Option Addr} (h : Sx Z w p b m cs A cap) (hz : ∀ k, Z k → k ≠ p ∧ k ≠ b) (hzn : ∀ k, w.heap.size ≤ k → Z k) (hl : cs.length < 1000000) (hm : m < 1000000) (d : Dd27) (hd : okd27 d = true) (A5 : Option Addr) (c5 : Nat) (hC : ∀ W, Below w.heap.size w W ∨ Fr [p, b] w W → Kd.C P.k103 W A5 d.f4.length d.f4) (hc5 : d.f4.length ≤ c5) :
  Calls Try.prog 11 #[.pointer (some ⟨p, 0, none⟩), .slice A cs.length cap, .agg #[.int .i64 d.f0, .int .i64 d.f1, .int .i64 d.f2, .string d.f3.f0, .string d.f3.f1, .slice A5 d.f4.length c5]] w (So Z w p b m (stepC cs d)) := by
 obtain ⟨d0, d1, d2, ⟨f, t⟩, l⟩ := d
 unfold okd27 at hd
 rw [Bool.and_eq_true] at hd
 obtain ⟨hd1, hd4⟩ := hd
 have hsz : ∀ x ∈ l, x.f0.size ≤ 140737488351232 := fun x hx => by simpa using List.all_eq_true.1 hd4 x hx
 unfold stepC
 simp only
 split
 ·rename_i e
  subst e
  exact step_open h hz hzn hl hm d1 d2 f t A5 l.length c5
 split
 ·rename_i e
  subst e
  exact step_close h hz hzn (by omega) d1 d2 hd1 f t A5 l.length c5
 split
 ·rename_i e
  subst e
  split
  ·rename_i e
   exact step_few h d1 d2 f t A5 l.length c5 e
  exact step_took h hz hzn (by omega) hm d1 d2 hd1 f t A5 l c5 hC hc5 hsz (by omega)
 rename_i e0 e1 e2
 exact step_left h (by omega) d0 d1 d2 ⟨e0, e1, e2⟩ hd1 f t A5 l.length c5
end Go.Proofs.Ytljnlnbopohghaa.Mdl
end
section
namespace Go.Proofs.Ytljnlnbopohghaa.It
open Go Go.RowKit
variable {F : Fence} {n : Nat} {P : Program}
def IterR {α : Type} (F : Fence) (n : Nat) (P : Program) (g : Nat) (lb : Array Value) (encs : α → Array Value) (R Rp : List α → Prop) (S : Nat → Prop) (w : World) : Prop :=
 ∀ (l : Nat) (J Jx : List α → (Nat → Prop) → World → Prop) (M : Nat → Prop) (W : World), FrM (fun k => ¬ S k) w W → (∀ k, S k → k < w.heap.size ∧ ¬ M k) → (∀ k, M k → k < W.heap.size) →
  Stab W.heap.size J → Stab W.heap.size Jx →
  (∀ pre x M1 W1, J pre M1 W1 → (∀ k, M1 k → (M k ∨ W.heap.size ≤ k) ∧ k < W1.heap.size) → FrM M W W1 → Rp (pre ++ [x]) → YieldAt F (n - 1) P l (encs x) W1 (Told J Jx pre x M1 W1)) →
  J [] M W → CallsIn F n P g (#[.func (.yield l) #[] #[]] ++ lb) W (Went J Jx R Rp M W)
theorem range_iterB {α : Type} {g : Operand} {ps : Array Tmp} {assign body : Code} {Q : Exit → Act → World → Prop} {a : Act} {w : World}
  (hro : F.round = none) (h1 : 1 ≤ n) {gf : Nat} {lb : Array Value} (hg : a.eval g = .func (.func gf) #[] lb) (hFg : F.fn gf) (eg : ∀ args w, (callFunc gf args).run P w = .ok (.enter gf args) w)
  {encs : α → Array Value} {R Rp : List α → Prop} {S : Nat → Prop} {w0 : World} (hseq : IterR F (n - 1) P gf lb encs R Rp S w0) (hw0 : FrM (fun k => ¬ S k) w0 w)
  (M : Nat → Prop) (hS : ∀ k, S k → k < w0.heap.size ∧ ¬ M k) (hM : ∀ k, M k → k < w.heap.size) (hps : ∀ x, (encs x).size = ps.size)
  (I : List α → (Nat → Prop) → World → Prop) (Ix : Code → List α → (Nat → Prop) → World → Prop) (hI : Stab w.heap.size I) (hIx : ∀ c, Stab w.heap.size (Ix c)) (h0 : I [] M w) (Ib : List α × α × Act → (Nat → Prop) → World → Prop) (hIb : Stab w.heap.size Ib)
  (hassign : ∀ (l : Nat) (pre : List α) (x : α) (M1 : Nat → Prop) (W : World), I pre M1 W → (∀ k, M1 k → (M k ∨ w.heap.size ≤ k) ∧ k < W.heap.size) → FrM M w W → Rp (pre ++ [x]) → ∀ (K : Act → World → Prop),
   (∀ a' M1' W', (∀ k, M1' k → (M1 k ∨ W.heap.size ≤ k) ∧ k < W'.heap.size) → FrM M1 W W' → Ib (pre, x, a') M1' W' → K a' W') →
   assign.wpIn (F.inRound l) (n - 1 - 1) P (Exit.then K (fun _ _ _ => False)) { tmps := (ps.zip (encs x)).foldl (fun t (p, v) => t.setIfInBounds p v) a.tmps, defers := [] } W)
  (hbody : ∀ (l : Nat) (pre : List α) (x : α) (a' : Act) (M1 : Nat → Prop) (W : World), Ib (pre, x, a') M1 W → (∀ k, M1 k → (M k ∨ w.heap.size ≤ k) ∧ k < W.heap.size) → FrM M w W → Rp (pre ++ [x]) →
   body.wpIn (F.inRound l) (n - 1 - 1) P (bodyP I Ix (pre ++ [x]) M1 W) a' W)
  (hdone : ∀ (D : Nat) (xs : List α) (M1 : Nat → Prop) (W : World), w.heap.size ≤ D → D < W.heap.size → ¬ M1 D → (∀ k, M1 k → (M k ∨ w.heap.size ≤ k) ∧ k < W.heap.size) → FrM M w W → R xs → I xs M1 W → W.heap[D]? = some (.deferred (some [])) →
   Q .normal { a with defers := { target := .collected D, args := #[] } :: a.defers } W)
  (hstop : ∀ (D : Nat) (c : Code) (pre : List α) (M1 : Nat → Prop) (W : World), w.heap.size ≤ D → D < W.heap.size → ¬ M1 D → (∀ k, M1 k → (M k ∨ w.heap.size ≤ k) ∧ k < W.heap.size) → FrM M w W → Rp pre → Ix c pre M1 W → W.heap[D]? = some (.deferred (some [])) →
   c.wpIn F n P Q { a with defers := { target := .collected D, args := #[] } :: a.defers } W) :
  (Code.rangeFunc g ps assign body).wpIn F n P Q a w := by
 refine wpIn_rangeFunc ?_
 intro fn hfn
 rw [hro]
 obtain ⟨rec, hrec⟩ : ∃ rec : LoopState → Option Code → Loop, rec = fun st pe => { state := st, pending := pe, fn, tmps := a.tmps, params := ps, assign, body, defers := w.heap.size } := ⟨_, rfl⟩
 obtain ⟨W1, hW1⟩ : ∃ W1, (w.alloc (.deferred (some []))).alloc (.loop (rec .ready none)) = W1 := ⟨_, rfl⟩
 have hs1 : W1.heap.size = w.heap.size + 2 := by rw [← hW1]; simp
 have hL1 : W1.heap[w.heap.size + 1]? = some (.loop (rec .ready none)) := by
  rw [← hW1]; have := World.alloc_heap_new (w.alloc (.deferred (some []))) (.loop (rec .ready none)); rwa [World.size_alloc] at this
 have hK1 : W1.heap[w.heap.size]? = some (.deferred (some [])) := by
  rw [← hW1]; exact (Below.heap_alloc _ _ _ (by simp)).trans (World.alloc_heap_new w _)
 have hB1 : Below w.heap.size w W1 := by rw [← hW1]; exact ((Below.refl _ w).alloc (Nat.le_refl _) _).alloc (by simp) _
 have hI1 : I [] M W1 := hI _ _ _ _ h0 (.of_below hB1)
 obtain ⟨J, hJ⟩ : ∃ J : LoopState → Option Code → (List α → (Nat → Prop) → World → Prop) → List α → (Nat → Prop) → World → Prop,
   J = fun st pe I' pre Mx W => ∃ M1 : Nat → Prop, (∀ k, Mx k ↔ (M1 k ∨ k = w.heap.size ∨ k = w.heap.size + 1)) ∧ (∀ k, M1 k → (M k ∨ w.heap.size ≤ k) ∧ k < W.heap.size) ∧ ¬ M1 w.heap.size ∧ ¬ M1 (w.heap.size + 1) ∧ I' pre M1 W ∧
    W.heap[w.heap.size + 1]? = some (.loop (rec st pe)) ∧ W.heap[w.heap.size]? = some (.deferred (some [])) ∧ FrM M w W := ⟨_, rfl⟩
 have hJs : ∀ st pe I', Stab w.heap.size I' → Stab W1.heap.size (J st pe I') := by
  intro st pe I' hI' s Mx A B hs hf
  rw [hJ] at hs ⊢
  obtain ⟨M1, e, hb, hd, hl, hi, gl, gd, fr⟩ := hs
  have fl : ∀ k, k < A.heap.size → (k = w.heap.size ∨ k = w.heap.size + 1) → B.heap[k]? = A.heap[k]? := fun k hk hq => hf.block k hk (fun hc => hc.1 ((e k).2 (.inr hq)))
  refine ⟨M1, e, fun k hk => ⟨(hb k hk).1, Nat.lt_of_lt_of_le (hb k hk).2 hf.size⟩, hd, hl, hI' _ _ _ _ hi (hf.mono (fun i hi => .inl ⟨fun hm => hi.1 ((e i).2 (.inl hm)), by omega⟩)), (fl _ (Array.getElem?_eq_some_iff.1 gl).1 (.inr rfl)).trans gl, (fl _ (Array.getElem?_eq_some_iff.1 gd).1 (.inl rfl)).trans gd, ?_⟩
  exact fr.trans hf (fun i hi => .inr (by omega))
 refine ⟨w.heap.size + 1, [{ target := .collected w.heap.size, args := #[] }], W1, { target := .fn (.func gf) lb, args := #[.func (.yield (w.heap.size + 1)) #[] #[]] }, W1, gf,
  #[.func (.yield (w.heap.size + 1)) #[] #[]] ++ lb, W1, ?_, ?_, ?_, ?_, fun _ => h1, ?_⟩
 ·rw [← hW1, hrec]; exact run_enterLoop_outer _ _ _ _ _
 ·simp only [resolve, hg]
  simp [go_sem]
 ·intro f' hf'; simp [Target.leads] at hf'; subst hf'; exact hFg
 ·simp [invoke, go_sem, eg]
 refine (hseq (w.heap.size + 1) (J .ready none I) (fun pre Mx W => ∃ c, J .done (some c) (Ix c) pre Mx W) (fun k => M k ∨ k = w.heap.size ∨ k = w.heap.size + 1) W1 (hw0.trans (.of_below (M := fun _ => False) hB1) (fun i hi => hi.elim))
  (fun k hk => ⟨(hS k hk).1, ?_⟩) ?_ (hJs _ _ _ hI) ?_ ?_ ?_).mono ?_
 ·rintro (q | q | q)
  ·exact (hS k hk).2 q
  ·have := (hS k hk).1; have := hw0.size; omega
  have := (hS k hk).1; have := hw0.size; omega
 ·rintro k (q | q | q)
  ·have := hM k q; omega
  ·omega
  omega
 ·rintro s Mx A B ⟨c, hs⟩ hf
  exact ⟨c, hJs _ _ _ (hIx c) s Mx A B hs hf⟩
 ·-- a round
  intro pre x Mx W hs hb hfr hlen
  rw [hJ] at hs
  obtain ⟨M1, e, hb1, hd, hln, hi, gl, gd, fr⟩ := hs
  have hlt : w.heap.size + 1 < W.heap.size := (Array.getElem?_eq_some_iff.1 gl).1
  have hy := run_yield (P := P) (args := encs x) gl (by rw [hrec]; exact hps x)
  rw [hrec] at hy
  refine ⟨fn, _, assign, body, hy, roundIn_of_wpIn hfn (hassign _ pre x M1 W hi hb1 fr hlen _ ?_)⟩
  intro a' Ma Wa hMa fa hia
  have gla := fa.blk gl hln
  have gda := fa.blk gd hd
  have hlta : w.heap.size + 1 < Wa.heap.size := (Array.getElem?_eq_some_iff.1 gla).1
  have hda : ¬ Ma w.heap.size := fun h => by
   rcases (hMa _ h).1 with q | q
   ·exact hd q
   omega
  have hlna : ¬ Ma (w.heap.size + 1) := fun h => by
   rcases (hMa _ h).1 with q | q
   ·exact hln q
   omega
  have frA : FrM M w Wa := fr.trans fa (fun i hi => (hb1 i hi).1)
  have hbA : ∀ k, Ma k → (M k ∨ w.heap.size ≤ k) ∧ k < Wa.heap.size := fun k hk => ⟨by
   rcases (hMa k hk).1 with q | q
   ·exact (hb1 k q).1
   exact .inr (by omega), (hMa k hk).2⟩
  refine ⟨_, run_beginRound gla (by rw [hrec]), ?_⟩
  obtain ⟨W2, hW2⟩ : ∃ W2, Wa.putObj (w.heap.size + 1) (.loop { rec .ready none with state := .busy }) = W2 := ⟨_, rfl⟩
  rw [hW2]
  have gl2 : W2.heap[w.heap.size + 1]? = some (.loop { rec .ready none with state := .busy }) := by rw [← hW2]; exact World.putObj_heap_same hlta
  have hs2 : W2.heap.size = Wa.heap.size := by rw [← hW2]; simp
  have f2 : FrM (fun k => k = w.heap.size + 1) Wa W2 := by rw [← hW2]; exact .putObj _ _ _ rfl
  have gd2 : W2.heap[w.heap.size]? = some (.deferred (some [])) := f2.blk gda (by omega)
  have hi2 : Ib (pre, x, a') Ma W2 := hIb _ _ _ _ hia (f2.mono (fun i hi => .inl (by subst hi; exact ⟨hlna, by omega⟩)))
  refine wpIn_mono (hbody _ pre x a' Ma W2 hi2 (fun k hk => by rw [hs2]; exact hbA k hk) (frA.trans f2 (fun i hi => .inr (by omega))) hlen) ?_
  have fin : ∀ (jump : Option Code) (W3 : World) (M' : Nat → Prop) (I' : List α → (Nat → Prop) → World → Prop), Stab w.heap.size I' → (∀ k, M' k → (Ma k ∨ W2.heap.size ≤ k) ∧ k < W3.heap.size) → FrM Ma W2 W3 → I' (pre ++ [x]) M' W3 →
    ∃ Mx', (∀ k, Mx' k → (Mx k ∨ W.heap.size ≤ k) ∧ k < (W3.putObj (w.heap.size + 1) (.loop (rec (if jump.isNone then .ready else .done) jump))).heap.size) ∧
     FrM Mx W (W3.putObj (w.heap.size + 1) (.loop (rec (if jump.isNone then .ready else .done) jump))) ∧
     J (if jump.isNone then .ready else .done) jump I' (pre ++ [x]) Mx' (W3.putObj (w.heap.size + 1) (.loop (rec (if jump.isNone then .ready else .done) jump))) ∧
     (Instr.endRound (w.heap.size + 1) jump).run P W3 = .ok (.bool jump.isNone) (W3.putObj (w.heap.size + 1) (.loop (rec (if jump.isNone then .ready else .done) jump))) := by
   intro jump W3 M' I' hI' hM' f3 hi3
   have gl3 := f3.blk gl2 hlna
   have gd3 := f3.blk gd2 hda
   have hlt3 := (Array.getElem?_eq_some_iff.1 gl3).1
   have hr := run_endRound (P := P) jump gl3
   rw [hrec] at hr
   obtain ⟨W4, hW4⟩ : ∃ W4, W3.putObj (w.heap.size + 1) (.loop (rec (if jump.isNone then .ready else .done) jump)) = W4 := ⟨_, rfl⟩
   have hr' : (Instr.endRound (w.heap.size + 1) jump).run P W3 = .ok (.bool jump.isNone) W4 := by rw [← hW4, hrec]; exact hr
   have gl4 : W4.heap[w.heap.size + 1]? = some (.loop (rec (if jump.isNone then .ready else .done) jump)) := by rw [← hW4]; exact World.putObj_heap_same hlt3
   have hs4 : W4.heap.size = W3.heap.size := by rw [← hW4]; simp
   have hsA := fa.size
   have f4 : FrM (fun k => k = w.heap.size + 1) W3 W4 := by rw [← hW4]; exact .putObj _ _ _ rfl
   have nl : ∀ k, M' k → k ≠ w.heap.size ∧ k ≠ w.heap.size + 1 := fun k hk => by
    rcases (hM' k hk).1 with q | q
    ·exact ⟨fun e2 => hda (e2 ▸ q), fun e2 => hlna (e2 ▸ q)⟩
    ·omega
   have fW : FrM Mx W W4 := by
    have a0 : FrM Mx W Wa := fa.mono (fun i hi => .inl ((e i).2 (.inl hi)))
    have a1 : FrM Mx W W2 := a0.trans f2 (fun i hi => .inl ((e i).2 (.inr (.inr hi))))
    have a2 : FrM Mx W W3 := a1.trans f3 (fun i hi => by
     rcases (hMa i hi).1 with q | q
     ·exact .inl ((e i).2 (.inl q))
     ·exact .inr q)
    exact a2.trans f4 (fun i hi => .inl ((e i).2 (.inr (.inr hi))))
   rw [hW4]
   refine ⟨fun k => M' k ∨ k = w.heap.size ∨ k = w.heap.size + 1, ?_, fW, ?_, hr'⟩
   ·rintro k (q | q | q)
    ·refine ⟨?_, by rw [hs4]; exact (hM' k q).2⟩
     rcases (hM' k q).1 with z | z
     ·rcases (hMa k z).1 with y | y
      ·exact .inl ((e k).2 (.inl y))
      ·exact .inr y
     ·exact .inr (by omega)
    ·exact ⟨.inl ((e k).2 (.inr (.inl q))), by omega⟩
    ·exact ⟨.inl ((e k).2 (.inr (.inr q))), by omega⟩
   ·rw [hJ]
    refine ⟨M', fun k => Iff.rfl, fun k hk => ⟨?_, by rw [hs4]; exact (hM' k hk).2⟩, fun h => (nl _ h).1 rfl, fun h => (nl _ h).2 rfl, hI' _ _ _ _ hi3 (f4.mono (fun i hi => .inl (by subst hi; exact ⟨fun h => (nl _ h).2 rfl, by omega⟩))), gl4, f4.blk gd3 (by omega), ?_⟩
    ·rcases (hM' k hk).1 with z | z
     ·exact (hbA k z).1
     ·exact .inr (by omega)
    ·have b1 : FrM M w W2 := frA.trans f2 (fun i hi => .inr (by omega))
     have b2 : FrM M w W3 := b1.trans f3 (fun i hi => (hbA i hi).1)
     exact b2.trans f4 (fun i hi => .inr (by omega))
  rintro ex a3 W3 hp
  cases ex with
  | normal =>
   obtain ⟨M', hM', f3, hi3⟩ := hp
   obtain ⟨Mx', q1, q2, q3, q4⟩ := fin none W3 M' I hI hM' f3 hi3
   exact ⟨_, _, q4, Mx', q1, q2, .inl ⟨rfl, q3⟩⟩
  | ret =>
   obtain ⟨M', hM', f3, hi3⟩ := hp
   obtain ⟨Mx', q1, q2, q3, q4⟩ := fin (some .ret) W3 M' (Ix .ret) (hIx _) hM' f3 hi3
   exact ⟨_, _, q4, Mx', q1, q2, .inr ⟨rfl, .ret, q3⟩⟩
  | exit id =>
   obtain ⟨M', hM', f3, hi3⟩ := hp
   obtain ⟨Mx', q1, q2, q3, q4⟩ := fin (some (.exit id)) W3 M' (Ix (.exit id)) (hIx _) hM' f3 hi3
   exact ⟨_, _, q4, Mx', q1, q2, .inr ⟨rfl, .exit id, q3⟩⟩
  | goto t =>
   obtain ⟨M', hM', f3, hi3⟩ := hp
   obtain ⟨Mx', q1, q2, q3, q4⟩ := fin (some (.goto t)) W3 M' (Ix (.goto t)) (hIx _) hM' f3 hi3
   exact ⟨_, _, q4, Mx', q1, q2, .inr ⟨rfl, .goto t, q3⟩⟩
  | panic ch => exact hp.elim
  | outgrown => exact hp.elim
 ·rw [hJ]
  exact ⟨M, fun k => Iff.rfl, fun k hk => ⟨.inl hk, by have := hM k hk; omega⟩, fun h => by have := hM _ h; omega, fun h => by have := hM _ h; omega, hI1, hL1, hK1, .of_below hB1⟩
 -- behind the iterator
 rintro e W2 ⟨⟨v, rfl⟩, Mx, hMx, f2, hq⟩
 rw [hJ] at hq
 have key : ∀ (st : LoopState) (pe : Option Code) (I' : List α → (Nat → Prop) → World → Prop) (xs : List α) (M1 : Nat → Prop), Stab w.heap.size I' → (∀ k, M1 k → (M k ∨ w.heap.size ≤ k) ∧ k < W2.heap.size) → ¬ M1 w.heap.size → ¬ M1 (w.heap.size + 1) → I' xs M1 W2 →
   W2.heap[w.heap.size + 1]? = some (.loop (rec st pe)) → W2.heap[w.heap.size]? = some (.deferred (some [])) → FrM M w W2 → st ≠ .busy → ∃ W3, (Instr.endLoop (w.heap.size + 1)).run P W2 = .ok pe W3 ∧ w.heap.size < W3.heap.size ∧ (∀ k, M1 k → (M k ∨ w.heap.size ≤ k) ∧ k < W3.heap.size) ∧ FrM M w W3 ∧ I' xs M1 W3 ∧ W3.heap[w.heap.size]? = some (.deferred (some [])) := by
  intro st pe I' xs M1 hI' hb hd hl hi gl gd fr hst
  have hr := run_endLoop (P := P) gl (by rw [hrec]; exact hst)
  rw [hrec] at hr
  refine ⟨_, hr, ?_⟩
  generalize Obj.loop _ = o
  have f4 : FrM (fun k => k = w.heap.size + 1) W2 (W2.putObj (w.heap.size + 1) o) := .putObj _ _ _ rfl
  have hlt := (Array.getElem?_eq_some_iff.1 gl).1
  refine ⟨by simp; omega, fun k hk => ⟨(hb k hk).1, by have := (hb k hk).2; simpa using this⟩, fr.trans f4 (fun i hi => .inr (by omega)), hI' _ _ _ _ hi (f4.mono (fun i hi => .inl (by subst hi; exact ⟨hl, by omega⟩))), f4.blk gd (by omega)⟩
 rcases hq with ⟨xs, hR, M1, e1, hb, hd, hl, hi, gl, gd, fr⟩ | ⟨pre, hRp, c, M1, e1, hb, hd, hl, hi, gl, gd, fr⟩
 ·obtain ⟨W3, k1, k2, k3, k4, k5, k6⟩ := key _ _ _ _ _ hI hb hd hl hi gl gd fr (by simp)
  exact ⟨none, W3, k1, hdone _ xs M1 W3 (Nat.le_refl _) k2 hd k3 k4 hR k5 k6⟩
 obtain ⟨W3, k1, k2, k3, k4, k5, k6⟩ := key _ _ _ _ _ (hIx c) hb hd hl hi gl gd fr (by simp)
 exact ⟨some c, W3, k1, hstop _ c pre M1 W3 (Nat.le_refl _) k2 hd k3 k4 hRp k5 k6⟩
end Go.Proofs.Ytljnlnbopohghaa.It
end
section
namespace Go.Proofs
open Go.Shelf
def Try.keysC_ren : Go.Shelf.Ren := ⟨fun | 7 => 76 | 10 => 98 | n => n, fun | 23 => 86 | 26 => 3 | 3 => 106 | 28 => 141 | 0 => 0 | 27 => 140 | 33 => 169 | 4 => 4 | n => n, fun | n => n⟩
theorem Try.keysC : Go.Proofs.SlLaysZI.n7 Try.prog Try.keysC_ren := {
 mixed := by kernel_rfl
 f7 := ⟨Try.f76.name, by decide, Try.func76.trans (congrArg some (by kernel_rfl))⟩
 f10 := ⟨Try.f98.name, by decide, Try.func98.trans (congrArg some (by kernel_rfl))⟩
 t0 := Try.underlying0
 a0 := Try.isAgg0
 z0 := Try.sizeOf0
 v0 := Try.zeroValue0
 t4 := Try.underlying4
 a4 := Try.isAgg4
 z4 := Try.sizeOf4
 v4 := Try.zeroValue4
 t23 := Try.underlying86
 a23 := Try.isAgg86
 z23 := Try.sizeOf86
 v23 := Try.zeroValue86
 t26 := Try.underlying3
 a26 := Try.isAgg3
 z26 := Try.sizeOf3
 v26 := Try.zeroValue3
 t27 := Try.underlying140
 a27 := Try.isAgg140
 z27 := Try.sizeOf140
 v27 := Try.zeroValue140
 t28 := Try.underlying141
 a28 := Try.isAgg141
 z28 := Try.sizeOf141
 v28 := Try.zeroValue141
 t33 := Try.underlying169
 a33 := Try.isAgg169
 z33 := Try.sizeOf169
 v33 := Try.zeroValue169 }
def Try.sortedC_ren : Go.Shelf.Ren := ⟨fun | 6 => 75 | 8 => 96 | 9 => 97 | 11 => 110 | 13 => 112 | 12 => 111 | 23 => 131 | 24 => 132 | 14 => 122 | 15 => 123 | 16 => 124 | 17 => 125 | 18 => 126 | 19 => 127 | 20 => 128 | 21 => 129 | 22 => 130 | 25 => 136 | 26 => 137 | 27 => 138 | 28 => 139 | 29 => 140 | 30 => 141 | 31 => 142 | n => n, fun | 26 => 3 | 28 => 141 | 24 => 138 | 0 => 0 | 3 => 3 | 37 => 181 | 48 => 198 | 50 => 115 | 4 => 4 | 40 => 190 | 39 => 189 | 45 => 195 | 5 => 5 | 9 => 9 | 51 => 201 | 55 => 205 | 57 => 207 | 58 => 208 | 33 => 169 | n => n, fun | n => n⟩
theorem Try.sortedC : Go.Proofs.SlLaysZI.n6 Try.prog Try.sortedC_ren := {
 mixed := by kernel_rfl
 f6 := ⟨Try.f75.name, by decide, Try.func75.trans (congrArg some (by kernel_rfl))⟩
 f8 := ⟨Try.f96.name, by decide, Try.func96.trans (congrArg some (by kernel_rfl))⟩
 f11 := ⟨Try.f110.name, by decide, Try.func110.trans (congrArg some (by kernel_rfl))⟩
 t0 := Try.underlying0
 a0 := Try.isAgg0
 z0 := Try.sizeOf0
 v0 := Try.zeroValue0
 t24 := Try.underlying138
 a24 := Try.isAgg138
 z24 := Try.sizeOf138
 v24 := Try.zeroValue138
 t26 := Try.underlying3
 a26 := Try.isAgg3
 z26 := Try.sizeOf3
 v26 := Try.zeroValue3
 t28 := Try.underlying141
 a28 := Try.isAgg141
 z28 := Try.sizeOf141
 v28 := Try.zeroValue141
 i26 := by kernel_rfl }
def Try.sortC_ren : Go.Shelf.Ren := ⟨fun | 5 => 97 | 8 => 112 | 7 => 111 | 19 => 131 | 20 => 132 | 10 => 122 | 11 => 123 | 12 => 124 | 13 => 125 | 14 => 126 | 15 => 127 | 16 => 128 | 17 => 129 | 18 => 130 | 30 => 136 | 31 => 137 | 32 => 138 | 33 => 139 | 34 => 140 | 35 => 141 | 40 => 142 | n => n, fun | 23 => 138 | 25 => 3 | 3 => 3 | 32 => 181 | 22 => 138 | 0 => 0 | 44 => 198 | 46 => 115 | 4 => 4 | 36 => 190 | 35 => 189 | 41 => 195 | 5 => 5 | 9 => 9 | 53 => 201 | 57 => 205 | 63 => 207 | 64 => 208 | n => n, fun | n => n⟩
theorem Try.sortC : Go.Proofs.SlLaysM.n5 Try.prog Try.sortC_ren := {
 mixed := by kernel_rfl
 f5 := ⟨Try.f97.name, by decide, Try.func97.trans (congrArg some (by kernel_rfl))⟩
 f7 := ⟨Try.f111.name, by decide, Try.func111.trans (congrArg some (by kernel_rfl))⟩
 f8 := Try.func112.trans (congrArg some (by kernel_rfl))
 f10 := ⟨Try.f122.name, by decide, Try.func122.trans (congrArg some (by kernel_rfl))⟩
 f11 := ⟨Try.f123.name, by decide, Try.func123.trans (congrArg some (by kernel_rfl))⟩
 f12 := ⟨Try.f124.name, by decide, Try.func124.trans (congrArg some (by kernel_rfl))⟩
 f13 := ⟨Try.f125.name, by decide, Try.func125.trans (congrArg some (by kernel_rfl))⟩
 f14 := ⟨Try.f126.name, by decide, Try.func126.trans (congrArg some (by kernel_rfl))⟩
 f15 := ⟨Try.f127.name, by decide, Try.func127.trans (congrArg some (by kernel_rfl))⟩
 f16 := ⟨Try.f128.name, by decide, Try.func128.trans (congrArg some (by kernel_rfl))⟩
 f17 := ⟨Try.f129.name, by decide, Try.func129.trans (congrArg some (by kernel_rfl))⟩
 f18 := ⟨Try.f130.name, by decide, Try.func130.trans (congrArg some (by kernel_rfl))⟩
 f19 := Try.func131.trans (congrArg some (by kernel_rfl))
 f20 := Try.func132.trans (congrArg some (by kernel_rfl))
 f30 := ⟨Try.f136.name, by decide, Try.func136.trans (congrArg some (by kernel_rfl))⟩
 f31 := Try.func137.trans (congrArg some (by kernel_rfl))
 f32 := Try.func138.trans (congrArg some (by kernel_rfl))
 f33 := ⟨Try.f139.name, by decide, Try.func139.trans (congrArg some (by kernel_rfl))⟩
 f34 := ⟨Try.f140.name, by decide, Try.func140.trans (congrArg some (by kernel_rfl))⟩
 f35 := ⟨Try.f141.name, by decide, Try.func141.trans (congrArg some (by kernel_rfl))⟩
 f40 := ⟨Try.f142.name, by decide, Try.func142.trans (congrArg some (by kernel_rfl))⟩
 t0 := Try.underlying0
 a0 := Try.isAgg0
 z0 := Try.sizeOf0
 v0 := Try.zeroValue0
 t3 := Try.underlying3
 a3 := Try.isAgg3
 z3 := Try.sizeOf3
 v3 := Try.zeroValue3
 t4 := Try.underlying4
 a4 := Try.isAgg4
 z4 := Try.sizeOf4
 v4 := Try.zeroValue4
 t5 := Try.underlying5
 a5 := Try.isAgg5
 z5 := Try.sizeOf5
 v5 := Try.zeroValue5
 t9 := Try.underlying9
 a9 := Try.isAgg9
 z9 := Try.sizeOf9
 v9 := Try.zeroValue9
 t22 := Try.underlying138
 a22 := Try.isAgg138
 z22 := Try.sizeOf138
 v22 := Try.zeroValue138
 t23 := Try.underlying138
 a23 := Try.isAgg138
 z23 := Try.sizeOf138
 v23 := Try.zeroValue138
 t25 := Try.underlying3
 a25 := Try.isAgg3
 z25 := Try.sizeOf3
 v25 := Try.zeroValue3
 t32 := Try.underlying181
 a32 := Try.isAgg181
 z32 := Try.sizeOf181
 v32 := Try.zeroValue181
 t35 := Try.underlying189
 a35 := Try.isAgg189
 z35 := Try.sizeOf189
 v35 := Try.zeroValue189
 t36 := Try.underlying190
 a36 := Try.isAgg190
 z36 := Try.sizeOf190
 v36 := Try.zeroValue190
 t41 := Try.underlying195
 a41 := Try.isAgg195
 z41 := Try.sizeOf195
 v41 := Try.zeroValue195
 t44 := Try.underlying198
 a44 := Try.isAgg198
 z44 := Try.sizeOf198
 v44 := Try.zeroValue198
 t46 := Try.underlying115
 a46 := Try.isAgg115
 z46 := Try.sizeOf115
 v46 := Try.zeroValue115
 t53 := Try.underlying201
 a53 := Try.isAgg201
 z53 := Try.sizeOf201
 v53 := Try.zeroValue201
 t57 := Try.underlying205
 a57 := Try.isAgg205
 z57 := Try.sizeOf205
 v57 := Try.zeroValue205
 t63 := Try.underlying207
 a63 := Try.isAgg207
 z63 := Try.sizeOf207
 v63 := Try.zeroValue207
 t64 := Try.underlying208
 a64 := Try.isAgg208
 z64 := Try.sizeOf208
 v64 := Try.zeroValue208 }
end Go.Proofs
end
section
namespace Go.Proofs.Ytljnlnbopohghaa.Cur
open Go Go.RowKit Go.Maps Go.Sort Go.Shelf Go.Proofs.YtljnlnbopohghaaW.PrintWords Go.Proofs.YtljnlnbopohghaaW.PrintLast Go.Proofs.YtljnlnbopohghaaW.PrintMore Go.Proofs.Ytljnlnbopohghaa.Own Go.Proofs.Ytljnlnbopohghaa.Ord
theorem lookIn {Fc : Fence} {nF : Nat} (w : World) {ops : Array Oper} {rest : List Oper} {o : Oper} {a : Act} {Q : Exit → Act → World → Prop} (hg : o.guard = none) (m x : Operand) (hop : o.op = Op.lookup 86 m x false) (b n : Nat) (F : Int → Option X) (c : Nat)
    (hm : a.eval m = .map (some b)) (hT : TM w b n F c) (k : Int) (hx : a.eval x = .int .i64 k) (hk : (Lit.int .i64 k).wf = true)
    (hK : wpListIn Fc nF Try.prog ops Q rest (a.put o.dst (restV ((F k).getD x0))) w) : wpListIn Fc nF Try.prog ops Q (o :: rest) a w := by
  obtain ⟨D, h1, h2, _⟩ := hT
  refine wpListIn_plain hg fun K' hK' => ?_
  obtain ⟨v, ps, hrun, hv⟩ := h1.lookup law Try.underlying86 (zeroE w) (restR_mk x0) (wf_key hk)
  obtain ⟨y, rfl, hy⟩ := restR_inv hv
  have e : y = (F k).getD x0 := by
    cases hF : F k with
    | none =>
      have h3 := (h2 k).1
      rw [hF] at h3
      rw [atKey_of_not_has h3] at hy
      exact (restD_inj hy).symm
    | some z =>
      rw [(h2 k).2 z hF] at hy
      exact (restD_inj hy).symm
  rw [← e] at hK
  unfold Oper.wpIn
  refine ⟨by simp [Oper.about, hop], ?_⟩
  rw [Oper.semAt_plain Fc _ _ (by rw [hop]; intro c hc'; cases hc')]
  simp [execOp, hop, hm, hx, hrun, Result.andThen]
  exact hK' _ _ hK
def Keys (F : Int → Option X) (ns : List Int) : Prop := ns.Pairwise (· < ·) ∧ ∀ k, k ∈ ns ↔ (F k).isSome = true
theorem keys_of {w : World} {b n : Nat} {D : DataW Unit} {F : Int → Option X} (h : w.ownsMap Try.prog 3 restR b n D) (hF : Fits D F) :
    Keys F ((intKeys D).mergeSort leI) ∧ ((intKeys D).mergeSort leI).length = size D ∧ ∀ k ∈ (intKeys D).mergeSort leI, (Lit.int .i64 k).wf = true := by
  have hwf := intKeys_wf h Try.underlying3
  obtain ⟨es, hD, hpw, _⟩ := h.entries law
  obtain ⟨es', hD', hko⟩ := h.keysOf
  obtain rfl : es = es' := by rw [hD] at hD'; simpa using hD'
  subst hD
  have hk : ∀ p ∈ es, ∃ x, p.1 = .int .i64 x := fun p hp => by obtain ⟨v, hv⟩ := hko p hp; obtain ⟨x, _, hx, _⟩ := Maps.keyOf_i64 Try.underlying3 hv; exact ⟨x, hx⟩
  have hnd : (intKeys (.map es)).Nodup := by
    show (es.map fun p => _root_.Go.intOf p.1).Nodup
    refine List.pairwise_map.2 (hpw.imp_of_mem fun {p q} hp' hq' hne e => hne ?_)
    obtain ⟨a, ha⟩ := hk p hp'
    obtain ⟨b, hb⟩ := hk q hq'
    rw [ha, hb] at e ⊢
    exact congrArg _ e
  have hmem : ∀ x, x ∈ intKeys (.map es) ↔ has (.map es) (.int .i64 x) = true := fun x => by
    rw [has_eq, List.any_eq_true]
    show (x ∈ es.map fun p => _root_.Go.intOf p.1) ↔ _
    rw [List.mem_map]
    constructor
    · rintro ⟨p, hp', rfl⟩
      obtain ⟨a, ha⟩ := hk p hp'
      exact ⟨p, hp', by rw [ha]; simp [Lit.sameKey, _root_.Go.intOf]⟩
    · rintro ⟨p, hp', hs⟩
      obtain ⟨a, ha⟩ := hk p hp'
      rw [ha] at hs
      exact ⟨p, hp', by rw [ha]; simpa [Lit.sameKey, _root_.Go.intOf] using hs⟩
  have tr : ∀ a b c : Int, leI a b = true → leI b c = true → leI a c = true := fun a b c h1 h2 => by simp only [leI, decide_eq_true_eq] at *; exact Int.le_trans h1 h2
  have tt : ∀ a b : Int, (leI a b || leI b a) = true := fun a b => by simp only [leI, Bool.or_eq_true, decide_eq_true_eq]; exact Int.le_total a b
  have hpm := List.mergeSort_perm (intKeys (.map es)) leI
  have hs := List.pairwise_mergeSort tr tt (intKeys (.map es))
  have hn2 : ((intKeys (.map es)).mergeSort leI).Nodup := hpm.nodup_iff.2 hnd
  refine ⟨⟨?_, fun k => ?_⟩, ?_, fun k hk' => hwf k (hpm.mem_iff.1 hk')⟩
  · refine (hs.and hn2).imp ?_
    rintro a b ⟨h1, h2⟩
    simp only [leI, decide_eq_true_eq] at h1
    have h3 : a ≠ b := h2
    omega
  · rw [hpm.mem_iff, hmem, ← (hF k).1]
    rfl
  · rw [hpm.length_eq]
    show (es.map fun p => _root_.Go.intOf p.1).length = _
    simp [Maps.size]
def tell (F : Int → Option X) (k : Int) : Int × ByteArray × ByteArray := (k, ((F k).getD x0).1, ((F k).getD x0).2.1)
abbrev encT (y : Int × ByteArray × ByteArray) : Array Value := #[.int .i64 y.1, .agg #[.string y.2.1, .string y.2.2]]
theorem sortsC (m : Nat) : AnyZI.SortsIn Try.prog Try.sortedC_ren Fence.wide m :=
  ⟨fun blk off cap ss W hH hblk hsz => callsIn_wide.2 (AnyM.slices_Sort_int Try.sortC blk off cap ss W hH hblk hsz),
   fun p cap W => callsIn_wide.2 (AnyM.slices_Sort_int_none Try.sortC p cap W)⟩
set_option maxRecDepth 100000 in
set_option maxHeartbeats 4000000 in
theorem all_iter (n : Nat) (hn : 7 ≤ n) {w : World} {bx p b m c : Nat} {last : Int} {G : Int → Option X} (hbx : w.cell? ⟨bx, 0, none⟩ = some (.pointer (some ⟨p, 0, none⟩))) (hbl : bx < w.heap.size) (h : Tb w p b last m G c) (hc : c ≤ 1000000) :
    ∃ ns, Keys G ns ∧ ns.length = c ∧ It.IterR Fence.wide n Try.prog 74 #[.pointer (some ⟨bx, 0, none⟩)] encT (fun ys => ys = ns.map (tell G)) (fun pre => pre <+: ns.map (tell G)) (fun k => k = bx ∨ k = p ∨ k = b) w := by
  have hpl := blk_lt h.blk
  have hbb := h.map.lt
  obtain ⟨D, hown, hFit, hsz⟩ := h.map
  obtain ⟨hK, hlen, hwf⟩ := keys_of hown hFit
  obtain ⟨ns, hns⟩ : ∃ ns, (intKeys D).mergeSort leI = ns := ⟨_, rfl⟩
  rw [hns] at hK hlen hwf
  refine ⟨ns, hK, by omega, ?_⟩
  intro l J Jx M W hWf hSW hM hJ hJx hY h0
  have hWs := hWf.size
  have kept : ∀ W1, It.FrM M W W1 → W1.cell? ⟨bx, 0, none⟩ = some (.pointer (some ⟨p, 0, none⟩)) ∧ W1.heap[p]? = some (.cells #[.int .i64 last, .map (some b)] 88 (0, 0)) ∧ W1.ownsMap Try.prog 3 restR b m D := fun W1 f => by
    have e : ∀ k, (k = bx ∨ k = p ∨ k = b) → W1.heap[k]? = w.heap[k]? := fun k hk => by
      have h1 := (hSW k hk).1
      exact (f.block k (by omega) (hSW k hk).2).trans (hWf.block k h1 (fun q => q hk))
    refine ⟨(World.cell?_of_block (e bx (.inl rfl))).trans hbx, (e p (.inr (.inl rfl))).trans h.blk, ?_⟩
    obtain ⟨es, clock, hb, Ft, hs, hD⟩ := hown
    exact ⟨es, clock, (e b (.inr (.inr rfl))).trans hb, Ft, hs, hD⟩
  obtain ⟨kbx, kp, kown⟩ := kept W (It.FrM.refl _ _)
  have kc := blk_cell kp 1
  simp at kc
  have hmx : maxLen = 9223372036854775807 := rfl
  have hseq : SeqGives Fence.wide (n - 1 - 1 - 1 - 1) Try.prog 98 #[.pointer (some ⟨W.heap.size, 0, none⟩)] encZ (fun ss => ss.Perm (intKeys D)) (Maps.size D) (W.alloc (.cells #[.map (some b)] 86)) :=
    AnyZI.keys_gives (ρ := Try.keysC_ren) { Try.keysC with } Fence.wide _ trivial rfl (by omega) W.heap.size b m D _ (by simp) (by simp) (by
      have hbl := kown.lt
      obtain ⟨es, clock, hb, Ft, hs, hD⟩ := kown
      exact ⟨es, clock, (Below.heap_alloc _ _ b hbl).trans hb, Ft, hs, hD⟩)
  have cK : ∀ mb W, CallsIn Fence.wide (n - 1) Try.prog 76 #[.map mb] W fun e w' => e = .returned (.func (.func 98) #[] #[.pointer (some ⟨W.heap.size, 0, none⟩)]) ∧ w' = W.alloc (.cells #[.map mb] 86) := fun mb W => AnyZI.keys_in Try.keysC Fence.wide (n - 1) trivial rfl mb W
  have cS := AnyZI.sorted_in Try.sortedC Fence.wide (n - 1) trivial trivial trivial trivial rfl (by omega) (sortsC _) (enters_of Try.func97 (by kernel_rfl) rfl) 98 #[.pointer (some ⟨W.heap.size, 0, none⟩)] trivial (enters_of Try.func98 (by kernel_rfl) rfl) _ _ (by omega) (by omega) _ hseq
  change CallsIn _ _ Try.prog 75 _ _ _ at cS
  have hus := Try.underlying88
  have hfd : ∀ (a b : ByteArray) (d : Bool) (w : World), (Instr.field 106 (.agg #[.string a, .string b, .bool d]) 0).run Try.prog w = .ok (.agg #[.string a, .string b]) w := fun _ _ _ _ => by kernel_rfl
  refine callsIn_of_wp Try.func74 rfl trivial ?_ rfl
  simp only [Try.ntmps74, List.size_toArray, List.length_cons, List.length_nil, Nat.reduceAdd, Nat.reduceSub, Array.replicate_succ, Array.replicate_zero, List.push_toArray, List.append_toArray, List.nil_append, List.cons_append]
  have hn1 : 1 ≤ n := by omega
  have hfK : Fence.wide.fn 76 := trivial
  have hfS : Fence.wide.fn 75 := trivial
  gi_wp2_with (first
    | (gi_at_call 76; refine (cK _ _).mono ?_; rintro e w' ⟨rfl, rfl⟩)
    | (gi_at_call 75; refine cS.mono ?_; rintro e w2 ⟨v, ss, rfl, hS, hrow, hnil, hb⟩; rw [mergeSort_of_perm_i hS, hns, show ss.length = ns.length by rw [← hns, (List.mergeSort_perm (intKeys D) leI).length_eq]; exact hS.length_eq] at hrow; clear hnil; obtain ⟨A, cap, rfl⟩ : ∃ A cap, v = .slice A ns.length cap := (by rcases hrow.2 with ⟨rfl, h0⟩ | ⟨g, cap, cur, rfl, _⟩; exact ⟨none, 0, by rw [h0]⟩; exact ⟨_, _, rfl⟩)))
  have hB2 : Below W.heap.size W w2 := ((Below.refl _ W).alloc (Nat.le_refl _) _).trans (hb.mono (by simp))
  have hF2 : It.FrM M W w2 := It.FrM.of_below hB2
  have hJ2 : J [] M w2 := hJ _ _ _ _ h0 ((It.FrM.of_below (M := fun _ => False) hB2).mono (fun i hi => hi.elim))
  clear cK cS hseq kbx kp kc kown hb
  gi_loopw [14] (fun iv wr => ∃ j : Nat, iv = .int .i64 j ∧ j ≤ ns.length ∧ ∃ M1, J ((ns.take j).map (tell G)) M1 wr ∧ (∀ k, M1 k → (M k ∨ w2.heap.size ≤ k) ∧ k < wr.heap.size) ∧ It.FrM M w2 wr)
    (fun iv wr => match iv with | .int _ j => ns.length - j.toNat | _ => 0)
  case atStart => exact ⟨0, rfl, by omega, M, hJ2, fun k hk => ⟨.inl hk, by have := hM k hk; have := hB2.size; omega⟩, It.FrM.refl _ _⟩
  obtain ⟨j, rfl, hjl, M1, hJs, hMb, hFr⟩ := hrel
  have hFw : It.FrM M W wr := hF2.trans hFr (fun i hi => .inl hi)
  by_cases hlt : j < ns.length
  · have d0 : decide ((j : Int) < (ns.length : Int)) = true := decide_eq_true (by omega)
    obtain ⟨kbx, kp, kown⟩ := kept wr hFw
    have kc := blk_cell kp 1
    simp at kc
    obtain ⟨g, rfl, hg⟩ : ∃ g, A = some ⟨g, 0, none⟩ ∧ wr.cell? ⟨g, j, none⟩ = some (.int .i64 ns[j]) := by
      rcases hrow.2 with ⟨_, h0⟩ | ⟨g, cap, cur, e, hbase, hgb, h1, h2, h3, h4⟩
      · omega
      · injection e with e1 e2 e3
        refine ⟨g, e1, ?_⟩
        have hgM : ¬ M g := fun hm => by have := hM g hm; simp at hbase; omega
        have q := blk_cell (hFr.blk hgb hgM) j
        rw [q]
        have h5 : (cur.toList.take (ns.length * 1))[j]? = some (encZ ns[j]) := by rw [h4, List.getElem?_map, List.getElem?_eq_getElem hlt]; rfl
        rw [List.getElem?_take_of_lt (by omega)] at h5
        simpa using h5
    have hkw : (Lit.int .i64 ns[j]).wf = true := hwf _ (List.getElem_mem hlt)
    obtain ⟨fn, tmps, assign, body, hy, hR⟩ := hY ((ns.take j).map (tell G)) (tell G ns[j]) M1 wr hJs (fun k hk => ⟨by rcases (hMb k hk).1 with q | q; exact .inl q; have := hB2.size; exact .inr (by omega), (hMb k hk).2⟩) hFw (by rw [show (ns.take j).map (tell G) ++ [tell G ns[j]] = (ns.take (j + 1)).map (tell G) by rw [List.take_succ_eq_append_getElem hlt, List.map_append]; rfl]; exact (List.take_prefix _ _).map _)
    dsimp only [encT, tell] at hy
    have hTM : TM wr b m G c := ⟨D, kown, hFit, hsz⟩
    have p0 := eq_true (show (j : Int) < (ns.length : Int) by omega)
    gi_wp2_with (first
      | (gi_at_lookup; refine lookIn _ rfl _ _ rfl b m G c rfl hTM ns[j] rfl hkw ?_; dsimp only [restV])
      | gi_in)
    refine hR.mono ?_
    have et : (ns.take j).map (tell G) ++ [tell G ns[j]] = (ns.take (j + 1)).map (tell G) := by rw [List.take_succ_eq_append_getElem hlt, List.map_append]; rfl
    have hbd : ∀ k, M1 k → (M k ∨ W.heap.size ≤ k) := fun k hk => by
      rcases (hMb k hk).1 with q | q
      · exact .inl q
      · have := hB2.size; exact .inr (by omega)
    have hs2 := hB2.size
    have hsr := hFr.size
    rintro e W3 ⟨M3, hM3, hF3, ⟨rfl, hJ3⟩ | ⟨rfl, hJ3⟩⟩ <;> rw [et] at hJ3
    · gi_wp2
      go_roundw
      case rel =>
        refine ⟨j + 1, by simp, by omega, M3, hJ3, fun k hk => ⟨?_, (hM3 k hk).2⟩, hFr.trans hF3 (fun i hi => (hMb i hi).1)⟩
        rcases (hM3 k hk).1 with q | q
        · exact (hMb k q).1
        · exact .inr (by omega)
      case measure =>
        show ns.length - ((j : Int) + 1).toNat < ns.length - (j : Int).toNat
        omega
    · gi_wp2
      refine bodyPost_ret (results_none rfl _ _ _) rfl ?_
      refine ⟨⟨_, rfl⟩, M3, fun k hk => ⟨?_, (hM3 k hk).2⟩, hFw.trans hF3 (fun i hi => hbd i hi), .inr ⟨_, (List.take_prefix _ _).map _, hJ3⟩⟩
      rcases (hM3 k hk).1 with q | q
      · exact hbd k q
      · exact .inr (by omega)
  · have d0 : decide ((j : Int) < (ns.length : Int)) = false := decide_eq_false (by omega)
    gi_wp2
    go_end0
    rw [List.take_of_length_le (by omega)] at hJs
    refine ⟨⟨_, rfl⟩, M1, fun k hk => ⟨?_, (hMb k hk).2⟩, hFw, .inl ⟨_, rfl, hJs⟩⟩
    rcases (hMb k hk).1 with q | q
    · exact .inl q
    · have := hB2.size; exact .inr (by omega)
theorem all_any (w : World) (p : Nat) : Calls Try.prog 43 #[.pointer (some ⟨p, 0, none⟩)] w fun e w' => e = .returned (.func (.func 74) #[] #[.pointer (some ⟨w.heap.size, 0, none⟩)]) ∧ w' = w.alloc (.cells #[.pointer (some ⟨p, 0, none⟩)] 23) := by
  go_enter Try.func43, Try.ntmps43
  go_wp2
  go_ret
  exact ⟨rfl, rfl⟩
end Go.Proofs.Ytljnlnbopohghaa.Cur
end
section
namespace Go.Proofs.Ytljnlnbopohghaa.It
open Go Go.RowKit
variable {P : Program} {ops : Array Oper} {Q : Exit → Act → World → Prop} {md : Region.Mode} {S : World → Prop} {n l : Nat}
def noDefer (ops : Array Oper) : Bool := ops.toList.all (fun o => match o.op with | .defer _ => false | _ => true)
theorem noDefer_spec (h : noDefer ops = true) : ∀ (i : Nat) (o : Oper), ops[i]? = some o → ∀ c : Call, o.op ≠ Op.defer c := fun i o hi c hc => by
 have h1 := (List.all_eq_true.1 h) o (Array.mem_toList_iff.2 (Array.mem_of_getElem? hi))
 rw [hc] at h1
 cases h1
theorem upon_in {o : Oper} {a : Act} {K : Act → World → Prop} : ∀ {r : Result Next}, o.upon P a K Q r → o.uponIn (Fence.wide.inRound l) n P a K Q r := by
 intro r h
 cases r with
 | ok x w' =>
  cases x <;> simp only [Oper.upon, Oper.uponIn] at h ⊢ <;>
   first
    | exact h
    | exact ⟨fun q => by simp [Fence.wide] at q, CallsIn.inRound l (callsIn_wide.2 h)⟩
    | exact ⟨fun q => by simp [Fence.wide] at q, fun c cs _ => by
      obtain ⟨v, w2, r1, r2⟩ := h c cs
      exact ⟨v, w2, r1, (stepsIn_wide.2 r2 : StepsIn (Machine.fenced P Fence.wide) P _ _)⟩⟩
 | halt x w' => cases x <;> simp only [Oper.upon, Oper.uponIn] at h ⊢ <;> exact h
theorem wpOp_in (hnd : ∀ (i : Nat) (o : Oper), ops[i]? = some o → ∀ c : Call, o.op ≠ Op.defer c) (hlo : ¬ LetsOut Q) {i : Nat} {K : Act → World → Prop} {a : Act} {w : World} (h : wpOp P ops Q i K a w) : wpOpIn (Fence.wide.inRound l) n P ops Q i K a w := by
 unfold wpOp at h
 unfold wpOpIn
 cases ho : ops[i]? with
 | none => rw [ho] at h; exact h
 | some o =>
  rw [ho] at h
  simp only at h ⊢
  split
  ·rename_i hw
   rw [if_pos hw] at h
   rcases h with h | h
   ·unfold Oper.wp at h
    unfold Oper.wpIn
    refine ⟨fun f _ => trivial, ?_⟩
    rw [Oper.semAt_eq _ _ _ (hnd i o ho)]
    exact upon_in h
   exact absurd h.2 hlo
  rename_i hw
  rw [if_neg hw] at h
  exact ⟨fun f _ => trivial, h⟩
theorem wpAny_in (hnd : ∀ (i : Nat) (o : Oper), ops[i]? = some o → ∀ c : Call, o.op ≠ Op.defer c) (hlo : ¬ LetsOut Q) : ∀ (fuel : Nat) (listed : Array Bool) (a : Act) (w : World), wpAny P md ops Q fuel listed a w → wpAnyIn (Fence.wide.inRound l) n P md ops Q fuel listed a w
 | 0, _, _, _, h => h
 | fuel + 1, _, _, _, h => ⟨h.1, fun i hi => wpOpIn_mono (fun a' w' h' => wpAny_in hnd hlo fuel _ a' w' h') (wpOp_in hnd hlo (h.2 i hi))⟩
theorem region_round {id : Nat} {a : Act} {w : World} (N : Nat) (L : Array Bool) (hN : ops.size = N) (hL : Array.replicate N false = L) (hm : P.follows .mixedOrders = true) (hnd : ∀ (i : Nat) (o : Oper), ops[i]? = some o → ∀ c : Call, o.op ≠ Op.defer c) (hlo : ¬ LetsOut Q) (hS : S w.drew)
  (h : S w.drew → wpAnyH P .any ops Q S N L a w.drew) : (Code.region id ops true).wpIn (Fence.wide.inRound l) n P Q a w := by
 subst hL hN
 exact wpIn_region_any hm (wpAny_in hnd hlo _ _ _ _ (wpAny_of_held _ _ _ _ (h hS)))
end Go.Proofs.Ytljnlnbopohghaa.It
end
section
namespace Go.Proofs.Ytljnlnbopohghaa.Mdl
open Go.RowKit Go.Shelf Go.Proofs.YtljnlnbopohghaaW.PrintWords Go.Proofs.YtljnlnbopohghaaW.PrintLast Go.Proofs.YtljnlnbopohghaaW.PrintMore Go.Proofs.Ytljnlnbopohghaa.Own Go.Proofs.Ytljnlnbopohghaa.Ord Go.Proofs.Ytljnlnbopohghaa Go.Proofs.Ytljnlnbopohghaa.P
open List renaming setIfInBounds_toArray → sA1, set_cons_zero → sA2, set_cons_succ → sA3, getElem_toArray → sA4, getElem_cons_zero → sA5, getElem_cons_succ → sA6
open Go.Proofs.Ytljnlnbopohghaa.Cur (upd tookV now rrB Keys tell encT all_iter all_any)
attribute [local go_sem] Oper.semAt_some
def lastT (pre : List (Int × ByteArray × ByteArray)) : Int := ((pre.getLast?).map (·.1)).getD 0
theorem lastT_snoc (pre : List (Int × ByteArray × ByteArray)) (x : Int × ByteArray × ByteArray) : lastT (pre ++ [x]) = x.1 := by simp [lastT]
theorem tell_next {cs : List Cu} {ns : List Int} (hK : Keys (tabF cs) ns) {pre : List (Int × ByteArray × ByteArray)} {x : Int × ByteArray × ByteArray} (h : pre ++ [x] <+: ns.map (tell (tabF cs))) :
  lastT pre < x.1 ∧ (tabF cs x.1).isSome = true ∧ 1 ≤ x.1 ∧ x.1 ≤ cs.length ∧ ∃ c, cs[(x.1 - 1).toNat]? = some c ∧ x.2 = (c.f0.f0, c.f0.f1) := by
 have hx : x ∈ ns.map (tell (tabF cs)) := h.subset (by simp)
 obtain ⟨k, hk, rfl⟩ := List.mem_map.1 hx
 have hs := (hK.2 k).1 hk
 obtain ⟨y, hy⟩ := Option.isSome_iff_exists.1 hs
 obtain ⟨h1, h2, c, hc, hc2, rfl⟩ := tabF_some hy
 refine ⟨?_, hs, h1, h2, c, hc, ?_⟩
 ·have hp : (ns.map (tell (tabF cs))).Pairwise (fun a b => a.1 < b.1) := List.pairwise_map.2 hK.1
  have hq := hp.sublist h.sublist
  rcases List.eq_nil_or_concat pre with rfl | ⟨pre', z, rfl⟩
  ·show (0 : Int) < k
   omega
  rw [List.concat_eq_append] at *
  rw [lastT_snoc]
  exact (List.pairwise_append.1 hq).2.2 z (by simp) _ (by simp)
 show (((tabF cs k).getD Cur.x0).1, ((tabF cs k).getD Cur.x0).2.1) = _
 rw [hy]
 rfl
theorem keys_len {cs : List Cu} (hl : cs.length ≤ 1000000) : cntV cs ≤ 1000000 := by
 unfold cntV
 have := List.length_filter_le (fun c : Cu => !c.f2) cs
 omega
set_option maxRecDepth 100000
set_option maxHeartbeats 4000000
theorem alike27 {w : World} {p b m e0_ base : Nat} {ok : Nat → Prop} {cs : List Cu} {A : Option Addr} {cap : Nat} (h : Cur.Tb w p b cs.length m (tabF cs) (cntV cs)) (hV : Kd.V P.k97 e0_ w base ok (.slice A cs.length cap) cs) (hl : cs.length ≤ 1000000) :
  Calls Try.prog 12 #[.pointer (some ⟨p, 0, none⟩), .slice A cs.length cap] w fun e w' => e = .returned (.bool true) ∧ Below w.heap.size w w' := by
 refine (callsIn_wide (n := 12)).1 ?_
 refine callsIn_of_wp_marks Try.func12 rfl trivial ?_ rfl
 simp only [Try.ntmps12, List.size_toArray, List.length_cons, List.length_nil, Nat.reduceAdd, Nat.reduceSub, Array.replicate_succ, Array.replicate_zero, List.push_toArray, List.append_toArray, List.nil_append, List.cons_append]
 have hbo : ∀ (x : Addr) (w : World), (binOp BinOp.eql 99 (Value.func (Fn.func 74) #[] #[.pointer (some x)]) Value.nilFunc).run Try.prog w = .ok (.bool false) w := fun _ _ => by kernel_rfl
 gi_wp2_with (first | (refine ⟨trivial, ?_⟩; gi_at_call 43; refine (callsIn_wide.2 (all_any _ p)).mono ?_; rintro e w3 ⟨rfl, rfl⟩))
 have b3 := blk_alloc (blk_alloc (blk_alloc (blk_alloc (blk_new w (.cells #[.slice A cs.length cap] 25)) (.cells #[.bool false] 4)) (.cells #[.int .i64 0] 3)) (.cells #[.int .i64 0] 3)) (.cells #[.pointer (some ⟨p, 0, none⟩)] 23)
 have bE := blk_alloc (blk_alloc (blk_alloc (blk_new (w.alloc (.cells #[.slice A cs.length cap] 25)) (.cells #[.bool false] 4)) (.cells #[.int .i64 0] 3)) (.cells #[.int .i64 0] 3)) (.cells #[.pointer (some ⟨p, 0, none⟩)] 23)
 have bN := blk_alloc (blk_alloc (blk_new ((w.alloc (.cells #[.slice A cs.length cap] 25)).alloc (.cells #[.bool false] 4)) (.cells #[.int .i64 0] 3)) (.cells #[.int .i64 0] 3)) (.cells #[.pointer (some ⟨p, 0, none⟩)] 23)
 have bL := blk_alloc (blk_new (((w.alloc (.cells #[.slice A cs.length cap] 25)).alloc (.cells #[.bool false] 4)).alloc (.cells #[.int .i64 0] 3)) (.cells #[.int .i64 0] 3)) (.cells #[.pointer (some ⟨p, 0, none⟩)] 23)
 have bX := blk_new ((((w.alloc (.cells #[.slice A cs.length cap] 25)).alloc (.cells #[.bool false] 4)).alloc (.cells #[.int .i64 0] 3)).alloc (.cells #[.int .i64 0] 3)) (.cells #[.pointer (some ⟨p, 0, none⟩)] 23)
 have hB4 := below_alloc (below_alloc (below_alloc (below_alloc (below_alloc (Below.refl w.heap.size w) (.cells #[.slice A cs.length cap] 25)) (.cells #[.bool false] 4)) (.cells #[.int .i64 0] 3)) (.cells #[.int .i64 0] 3)) (.cells #[.pointer (some ⟨p, 0, none⟩)] 23)
 have hs4 : (((((w.alloc (.cells #[.slice A cs.length cap] 25)).alloc (.cells #[.bool false] 4)).alloc (.cells #[.int .i64 0] 3)).alloc (.cells #[.int .i64 0] 3)).alloc (.cells #[.pointer (some ⟨p, 0, none⟩)] 23)).heap.size = w.heap.size + 1 + 1 + 1 + 1 + 1 := by simp
 simp only [World.size_alloc] at bE bN bL bX
 generalize ((((w.alloc (.cells #[.slice A cs.length cap] 25)).alloc (.cells #[.bool false] 4)).alloc (.cells #[.int .i64 0] 3)).alloc (.cells #[.int .i64 0] 3)).alloc (.cells #[.pointer (some ⟨p, 0, none⟩)] 23) = w4 at b3 bE bN bL bX hB4 hs4 ⊢
 have hT4 : Cur.Tb w4 p b cs.length m (tabF cs) (cntV cs) := h.fr (B := []) (Fr.of_below hB4) (by simp) (by simp)
 have hpl := blk_lt h.blk
 have hbl := h.map.lt
 obtain ⟨ns, hK, hnl, hIt⟩ := all_iter 11 (by omega) (blk_cell bX 0) (blk_lt bX) hT4 (keys_len hl)
 have hcl := keys_len hl
 apply It.range_iterB rfl (by omega) (gf := 74) (lb := #[.pointer (some ⟨w.heap.size + 1 + 1 + 1 + 1, 0, none⟩)]) rfl trivial (enters_of Try.func74 (by kernel_rfl) rfl)
  hIt (It.FrM.refl _ _) (fun k => k = w.heap.size + 1 + 1 ∨ k = w.heap.size + 1 + 1 + 1) (fun k hk => ⟨by omega, fun q => by omega⟩) (fun k hk => by omega) (fun _ => rfl)
  (fun pre M V => (M (w.heap.size + 1 + 1) ∧ M (w.heap.size + 1 + 1 + 1)) ∧ V.heap[w.heap.size + 1 + 1]? = some (.cells #[.int .i64 pre.length] 3 (0, 0)) ∧ V.heap[w.heap.size + 1 + 1 + 1]? = some (.cells #[.int .i64 (lastT pre)] 3 (0, 0)))
  (fun cd pre M V => False)
  (fun pre M X Y h fr => ⟨h.1, (fr.block _ (blk_lt h.2.1) (fun q => q.1 h.1.1)).trans h.2.1, (fr.block _ (blk_lt h.2.2) (fun q => q.1 h.1.2)).trans h.2.2⟩) (fun cd pre M X Y h fr => h) ⟨⟨.inl rfl, .inr rfl⟩, bN, bL⟩
  (fun s M V => (∃ bx, s.2.2 = { tmps := #[.pointer (some ⟨p, 0, none⟩), .slice A cs.length cap, undef, .pointer (some ⟨w.heap.size, 0, none⟩), .pointer (some ⟨w.heap.size + 1, 0, none⟩), .pointer (some ⟨w.heap.size + 1 + 1, 0, none⟩), .pointer (some ⟨w.heap.size + 1 + 1 + 1, 0, none⟩), .func (.func 74) #[] #[.pointer (some ⟨w.heap.size + 1 + 1 + 1 + 1, 0, none⟩)], .int .i64 s.2.1.1, .pointer (some ⟨bx, 0, none⟩), .pointer (some ⟨p, 0, none⟩), .func (.func 74) #[] #[.pointer (some ⟨w.heap.size + 1 + 1 + 1 + 1, 0, none⟩)], .func (.func 74) #[] #[.pointer (some ⟨w.heap.size + 1 + 1 + 1 + 1, 0, none⟩)], .bool false, .func (.func 74) #[] #[.pointer (some ⟨w.heap.size + 1 + 1 + 1 + 1, 0, none⟩)], .int .i64 s.2.1.1, .agg #[.string s.2.1.2.1, .string s.2.1.2.2], undef, undef, undef, undef, undef, undef, undef, undef, undef, undef, undef, undef, undef, undef, undef, undef, undef, undef, undef, undef, undef, undef, undef, undef, undef, undef, undef, undef, undef, undef, undef, undef], defers := [] } ∧ M bx ∧ V.heap[bx]? = some (.cells #[.string s.2.1.2.1, .string s.2.1.2.2] 29 (0, 0)) ∧ w.heap.size + 1 + 1 + 1 < bx) ∧ (M (w.heap.size + 1 + 1) ∧ M (w.heap.size + 1 + 1 + 1)) ∧ V.heap[w.heap.size + 1 + 1]? = some (.cells #[.int .i64 s.1.length] 3 (0, 0)) ∧ V.heap[w.heap.size + 1 + 1 + 1]? = some (.cells #[.int .i64 (lastT s.1)] 3 (0, 0)))
  (fun s M X Y h fr => by
   obtain ⟨⟨bx, h1, h2, h3, h3'⟩, h4, h5, h6⟩ := h
   exact ⟨⟨bx, h1, h2, (fr.block _ (blk_lt h3) (fun q => q.1 h2)).trans h3, h3'⟩, h4, (fr.block _ (blk_lt h5) (fun q => q.1 h4.1)).trans h5, (fr.block _ (blk_lt h6) (fun q => q.1 h4.2)).trans h6⟩)
 case hassign =>
  rintro ll pre x M1 V ⟨hMM, gN, gL⟩ hMb hF hpre K hK
  gi_wp2
  refine hK _ (fun k => M1 k ∨ k = V.heap.size) _ (fun k hk => ?_) ((It.FrM.refl M1 V).alloc _) ⟨⟨V.heap.size, rfl, .inr rfl, blk_new _ _, ?_⟩, ⟨.inl hMM.1, .inl hMM.2⟩, blk_alloc gN _, blk_alloc gL _⟩
  ·rcases hk with q | rfl
   ·exact ⟨.inl q, by have := (hMb k q).2; simp; omega⟩
   exact ⟨.inr (Nat.le_refl _), by simp⟩
  exact (hMb _ hMM.2).2
 case hbody =>
  intro ll pre x a' M1 V hib hMb hF hpre
  dsimp only at hib
  obtain ⟨⟨bx, rfl, hMx, gx, hxb⟩, hMM, gN, gL⟩ := hib
  obtain ⟨t1, t2, t3, t4, c, hc, hx2⟩ := tell_next hK hpre
  have BV : Below w.heap.size w V := hB4.trans (hF.below (base := w.heap.size) (fun k hk => by omega) (by omega))
  have IS : ∀ W, Below w.heap.size w W → Calls Try.prog 42 #[.slice A cs.length cap, .int .i64 x.1] W fun e w' => e = .returned (.bool true) ∧ Below W.heap.size W w' := fun W hW => by
   have rR := Kd.V_reads' (Kd.V_below hV hW)
   refine (catchmentref27_Is.calls A cap cs x.1 true W rR.2.2 rR.2.1 (by rw [Is_all cs _ hl, t2])).mono ?_
   rintro e w' ⟨rfl, hb_⟩
   exact ⟨rfl, hb_.below⟩
  have g3 := hF.blk b3 (by omega)
  have c3 := blk_cell g3 0
  have cN := blk_cell gN 0
  have cL := blk_cell gL 0
  have cx0 := blk_cell gx 0
  have cx1 := blk_cell gx 1
  simp at c3 cN cL cx0 cx1
  have d0 : decide (x.1 ≤ lastT pre) = false := decide_eq_false (by omega)
  have hur := Try.underlying29
  obtain ⟨ad, rfl, _⟩ := at_T97 (Kd.V_reads' hV).2.2 (x.1 - 1) (by omega) (by omega)
  have HC : ∀ W, Below w.heap.size w W → (W.cell? (ad.add ((x.1 - 1).toNat * 4)) = some (.string x.2.1) ∧ W.cell? ⟨(ad.add ((x.1 - 1).toNat * 4)).block, (ad.add ((x.1 - 1).toNat * 4)).off + 1, none⟩ = some (.string x.2.2)) ∧ W.cell? (ad.add ((x.1.toNat - 1) * 4)) = some (.string x.2.1) ∧ W.cell? ⟨(ad.add ((x.1.toNat - 1) * 4)).block, (ad.add ((x.1.toNat - 1) * 4)).off + 1, none⟩ = some (.string x.2.2) := fun W hW => by
   rw [show (x.1 - 1).toNat = x.1.toNat - 1 by omega]
   refine (fun h => ⟨h, h⟩) ?_
   rw [← show (x.1 - 1).toNat = x.1.toNat - 1 by omega]
   obtain ⟨ad', e, f0, f1, _⟩ := at_T97 (Kd.V_reads' (Kd.V_below hV hW)).2.2 (x.1 - 1) (by omega) (by omega)
   cases e
   have e1 : rd_T97 cs (x.1 - 1) = c := by
    have := rdC_at hc
    rwa [show (((x.1 - 1).toNat : Nat) : Int) = x.1 - 1 by omega] at this
   rw [e1] at f0 f1
   rw [hx2]
   exact ⟨f0, f1⟩
  have hfw : Fence.wide.fn 42 := trivial
  have hmo : Try.prog.follows .mixedOrders = true := by kernel_rfl
  have BV2 : Below w.heap.size w V.drew := below_drew1 BV
  have hw1 : IntKind.i64.wrap (x.1 - 1) = x.1 - 1 := IntWalk.i64_in _ (by omega)
  have i0 : decide (0 ≤ x.1 - 1) = true := decide_eq_true (by omega)
  have i1 : decide (x.1 - 1 < (cs.length : Int)) = true := decide_eq_true (by omega)
  have i2 := eq_true (show 0 ≤ x.1 - 1 by omega)
  have i3 := eq_true (show x.1 - 1 < (cs.length : Int) by omega)
  gi_wp2
  have g3d : V.drew.heap[w.heap.size]? = _ := g3
  have gxd : V.drew.heap[bx]? = _ := gx
  have gLd : V.drew.heap[w.heap.size + 1 + 1 + 1]? = _ := gL
  have hKS : ∀ W, Below V.drew.heap.size V.drew W → W.cell? ⟨w.heap.size + 1 + 1 + 1, 0, none⟩ = some (.int .i64 (lastT pre)) ∧ W.cell? ⟨w.heap.size, 0, none⟩ = some (.slice (some ad) cs.length cap) ∧ W.cell? ⟨bx, 0, none⟩ = some (.string x.2.1) ∧ W.cell? ⟨bx, 1, none⟩ = some (.string x.2.2) ∧ W.cell? (ad.add ((x.1.toNat - 1) * 4)) = some (.string x.2.1) ∧ W.cell? ⟨(ad.add ((x.1.toNat - 1) * 4)).block, (ad.add ((x.1.toNat - 1) * 4)).off + 1, none⟩ = some (.string x.2.2) := fun W hW => by
   have q := HC W (below_then BV2 BV2.size hW)
   exact ⟨blk_cell (blk_below gLd hW) 0, blk_cell (blk_below g3d hW) 0, blk_cell (blk_below gxd hW) 0, blk_cell (blk_below gxd hW) 1, q.2.1, q.2.2⟩
  refine It.region_round (S := fun w' => w'.cell? ⟨w.heap.size + 1 + 1 + 1, 0, none⟩ = some (.int .i64 (lastT pre)) ∧ w'.cell? ⟨w.heap.size, 0, none⟩ = some (.slice (some ad) cs.length cap) ∧ w'.cell? ⟨bx, 0, none⟩ = some (.string x.2.1) ∧ w'.cell? ⟨bx, 1, none⟩ = some (.string x.2.2) ∧ w'.cell? (ad.add ((x.1.toNat - 1) * 4)) = some (.string x.2.1) ∧ w'.cell? ⟨(ad.add ((x.1.toNat - 1) * 4)).block, (ad.add ((x.1.toNat - 1) * 4)).off + 1, none⟩ = some (.string x.2.2)) 19 #[false, false, false, false, false, false, false, false, false, false, false, false, false, false, false, false, false, false, false] rfl rfl hmo (It.noDefer_spec (by kernel_rfl)) (fun ⟨_, _, h⟩ => h) (hKS _ (Below.refl _ _)) (fun hHeld => ?_)
  refine wpAnyH_take (i := 0) (oi := ⟨some 17, _, _, _, _, _⟩) (v := ?_) rfl (by kernel_rfl) (by kernel_rfl) (by kernel_rfl) (fun _ _ _ h => h) (Or.inl ⟨by rfl, ?_⟩) (by assumption) ?_
  rotate_left
  ·intro w hSw
   (try dsimp only at hSw)
   go_simp
   (try with_reducible rfl)
  (try simp only [Act.put, sA1, sA2, sA3])
  refine wpAnyH_take (i := 1) (oi := ⟨some 18, _, _, _, _, _⟩) (v := ?_) rfl (by kernel_rfl) (by kernel_rfl) (by kernel_rfl) (fun _ _ _ h => h) (Or.inl ⟨by rfl, ?_⟩) (by assumption) ?_
  rotate_left
  ·intro w hSw
   (try dsimp only at hSw)
   go_simp
   (try with_reducible rfl)
  (try simp only [Act.put, sA1, sA2, sA3])
  refine wpAnyH_take (i := 2) (oi := ⟨some 19, _, _, _, _, _⟩) (v := ?_) rfl (by kernel_rfl) (by kernel_rfl) (by kernel_rfl) (fun _ _ _ h => h) (Or.inl ⟨by rfl, ?_⟩) (by assumption) ?_
  rotate_left
  ·intro w hSw
   (try dsimp only at hSw)
   go_simp
   (try with_reducible rfl)
  (try simp only [Act.put, sA1, sA2, sA3])
  refine wpAnyH_take (i := 3) (oi := ⟨some 20, _, _, _, _, _⟩) (v := ?_) rfl (by kernel_rfl) (by kernel_rfl) (by kernel_rfl) (fun _ _ _ h => h) (Or.inl ⟨by rfl, ?_⟩) (by assumption) ?_
  rotate_left
  ·intro w hSw
   (try dsimp only at hSw)
   go_simp
   (try with_reducible rfl)
  (try simp only [Act.put, sA1, sA2, sA3])
  refine wpAnyH_take (i := 4) (oi := ⟨some 21, _, _, _, _, _⟩) (v := ?_) rfl (by kernel_rfl) (by kernel_rfl) (by kernel_rfl) (fun _ _ _ h => h) (Or.inl ⟨by rfl, ?_⟩) (by assumption) ?_
  rotate_left
  ·intro w hSw
   (try dsimp only at hSw)
   go_simp
   (try with_reducible rfl)
  (try simp only [Act.put, sA1, sA2, sA3])
  refine wpAnyH_take (i := 5) (oi := ⟨some 22, _, _, _, _, _⟩) (v := ?_) rfl (by kernel_rfl) (by kernel_rfl) (by kernel_rfl) (fun _ _ _ h => h) (Or.inl ⟨by rfl, ?_⟩) (by assumption) ?_
  rotate_left
  ·intro w hSw
   (try dsimp only at hSw)
   go_simp
   (try with_reducible rfl)
  (try simp only [Act.put, sA1, sA2, sA3])
  refine wpAnyH_ready (rs := [6]) (by kernel_rfl) (by simp) (AllReadyH.cons (i := 6) (o := ⟨some 23, _, _, _, _, _⟩) rfl (fun K' hK' => ?_) AllReadyH.nil)
  rw [if_pos (by rfl)]
  go_simp
  go_at_call 42
  refine (IS _ BV2).mono ?_
  rintro e w3 ⟨rfl, hb_⟩
  refine hK'.out _ _ (hKS _ hb_) (fun hHeld => ?_)
  clear hHeld
  have hHeld := hKS _ hb_
  clear hK' K'
  (try simp only [Act.put, sA1, sA2, sA3])
  refine wpAnyH_take (i := 7) (oi := ⟨some 24, _, _, _, _, _⟩) (v := ?_) rfl (by kernel_rfl) (by kernel_rfl) (by kernel_rfl) (fun _ _ _ h => h) (Or.inl ⟨by rfl, ?_⟩) (by assumption) ?_
  rotate_left
  ·intro w hSw
   (try dsimp only at hSw)
   go_simp
   (try with_reducible rfl)
  (try simp only [Act.put, sA1, sA2, sA3])
  refine wpAnyH_take (i := 8) (oi := ⟨some 25, _, _, _, _, _⟩) (v := ?_) rfl (by kernel_rfl) (by kernel_rfl) (by kernel_rfl) (fun _ _ _ h => h) (Or.inl ⟨by rfl, ?_⟩) (by assumption) ?_
  rotate_left
  ·intro w hSw
   (try dsimp only at hSw)
   go_simp
   (try with_reducible rfl)
  (try simp only [Act.put, sA1, sA2, sA3])
  refine wpAnyH_take (i := 9) (oi := ⟨some 26, _, _, _, _, _⟩) (v := ?_) rfl (by kernel_rfl) (by kernel_rfl) (by kernel_rfl) (fun _ _ _ h => h) (Or.inl ⟨by rfl, ?_⟩) (by assumption) ?_
  rotate_left
  ·intro w hSw
   (try dsimp only at hSw)
   go_simp
   (try with_reducible rfl)
  (try simp only [Act.put, sA1, sA2, sA3])
  refine wpAnyH_take (i := 10) (oi := ⟨some 27, _, _, _, _, _⟩) (v := ?_) rfl (by kernel_rfl) (by kernel_rfl) (by kernel_rfl) (fun _ _ _ h => h) (Or.inl ⟨by rfl, ?_⟩) (by assumption) ?_
  rotate_left
  ·intro w hSw
   (try dsimp only at hSw)
   go_simp
   (try with_reducible rfl)
  (try simp only [Act.put, sA1, sA2, sA3])
  refine wpAnyH_take (i := 11) (oi := ⟨some 28, _, _, _, _, _⟩) (v := ?_) rfl (by kernel_rfl) (by kernel_rfl) (by kernel_rfl) (fun _ _ _ h => h) (Or.inl ⟨by rfl, ?_⟩) (by assumption) ?_
  rotate_left
  ·intro w hSw
   (try dsimp only at hSw)
   go_simp
   (try with_reducible rfl)
  (try simp only [Act.put, sA1, sA2, sA3])
  refine wpAnyH_take (i := 12) (oi := ⟨some 29, _, _, _, _, _⟩) (v := ?_) rfl (by kernel_rfl) (by kernel_rfl) (by kernel_rfl) (fun _ _ _ h => h) (Or.inl ⟨by rfl, ?_⟩) (by assumption) ?_
  rotate_left
  ·intro w hSw
   (try dsimp only at hSw)
   go_simp
   (try with_reducible rfl)
  (try simp only [Act.put, sA1, sA2, sA3])
  refine wpAnyH_take (i := 13) (oi := ⟨some 30, _, _, _, _, _⟩) (v := ?_) rfl (by kernel_rfl) (by kernel_rfl) (by kernel_rfl) (fun _ _ _ h => h) (Or.inl ⟨by rfl, ?_⟩) (by assumption) ?_
  rotate_left
  ·intro w hSw
   (try dsimp only at hSw)
   go_simp
   (try with_reducible rfl)
  (try simp only [Act.put, sA1, sA2, sA3])
  refine wpAnyH_take (i := 14) (oi := ⟨some 31, _, _, _, _, _⟩) (v := ?_) rfl (by kernel_rfl) (by kernel_rfl) (by kernel_rfl) (fun _ _ _ h => h) (Or.inl ⟨by rfl, ?_⟩) (by assumption) ?_
  rotate_left
  ·intro w hSw
   (try dsimp only at hSw)
   go_simp
   (try with_reducible rfl)
  (try simp only [Act.put, sA1, sA2, sA3])
  refine wpAnyH_take (i := 15) (oi := ⟨some 32, _, _, _, _, _⟩) (v := ?_) rfl (by kernel_rfl) (by kernel_rfl) (by kernel_rfl) (fun _ _ _ h => h) (Or.inl ⟨by rfl, ?_⟩) (by assumption) ?_
  rotate_left
  ·intro w hSw
   (try dsimp only at hSw)
   go_simp
   (try with_reducible rfl)
  (try simp only [Act.put, sA1, sA2, sA3])
  refine wpAnyH_take (i := 16) (oi := ⟨some 33, _, _, _, _, _⟩) (v := ?_) rfl (by kernel_rfl) (by kernel_rfl) (by kernel_rfl) (fun _ _ _ h => h) (Or.inl ⟨by rfl, ?_⟩) (by assumption) ?_
  rotate_left
  ·intro w hSw
   (try dsimp only at hSw)
   go_simp
   (try with_reducible rfl)
  (try simp only [Act.put, sA1, sA2, sA3])
  refine wpAnyH_take (i := 17) (oi := ⟨some 34, _, _, _, _, _⟩) (v := ?_) rfl (by kernel_rfl) (by kernel_rfl) (by kernel_rfl) (fun _ _ _ h => h) (Or.inl ⟨by rfl, ?_⟩) (by assumption) ?_
  rotate_left
  ·intro w hSw
   (try dsimp only at hSw)
   go_simp
   (try with_reducible rfl)
  (try simp only [Act.put, sA1, sA2, sA3])
  refine wpAnyH_take (i := 18) (oi := ⟨some 35, _, _, _, _, _⟩) (v := ?_) rfl (by kernel_rfl) (by kernel_rfl) (by kernel_rfl) (fun _ _ _ h => h) (Or.inl ⟨by rfl, ?_⟩) (by assumption) ?_
  rotate_left
  ·intro w hSw
   (try dsimp only at hSw)
   go_simp
   (try with_reducible rfl)
  (try simp only [Act.put, sA1, sA2, sA3])
  refine wpAnyH_done (by kernel_rfl) ?_ _
  have gL3 := blk_below gLd hb_
  have gN3 := blk_below (w := V.drew) gN hb_
  have hpl2 : pre.length + 1 ≤ 1000000 := by
   have := hpre.length_le
   rw [List.length_append, List.length_map, List.length_singleton] at this
   omega
  have hw2 : IntKind.i64.wrap ((pre.length : Int) + 1) = (pre.length : Int) + 1 := IntWalk.i64_in _ (by omega)
  have n0 := blk_cell gN3 0
  have n1 := blk_frozen gN3 0
  have l0 := blk_cell gL3 0
  have l1 := blk_frozen gL3 0
  simp at n0 l0
  have hs3 := hb_.size
  have hVd : V.drew.heap.size = V.heap.size := rfl
  gi_wp2
  have f3 : It.FrM M1 V w3 := ⟨hb_.os, hb_.tape, hb_.output, hb_.size, fun k hk _ => hb_.block k hk⟩
  have f4 : It.FrM M1 w3 (w3.setCell ⟨w.heap.size + 1 + 1 + 1, 0, none⟩ (.int .i64 x.1)) := It.FrM.grown (grownBy_setCell' w3 _ _) (fun r hr => .inl (by cases hr; exact hMM.2))
  have f5 : It.FrM M1 (w3.setCell ⟨w.heap.size + 1 + 1 + 1, 0, none⟩ (.int .i64 x.1)) ((w3.setCell ⟨w.heap.size + 1 + 1 + 1, 0, none⟩ (.int .i64 x.1)).setCell ⟨w.heap.size + 1 + 1, 0, none⟩ (.int .i64 (pre.length + 1))) := It.FrM.grown (grownBy_setCell' _ _ _) (fun r hr => .inl (by cases hr; exact hMM.1))
  refine ⟨M1, fun k hk => ⟨.inl hk, ?_⟩, (f3.trans f4 (fun i hi => .inl hi)).trans f5 (fun i hi => .inl hi), hMM, ?_, ?_⟩
  ·have h1 := (hMb k hk).2
   have h2 := f4.size
   have h3 := f5.size
   omega
  ·have q := blk_set (blk_far gN3 (p := ⟨w.heap.size + 1 + 1 + 1, 0, none⟩) (by simp) (.int .i64 x.1)) 0 (.int .i64 (pre.length + 1))
   rw [List.length_append, List.length_singleton]
   exact q
  have q := blk_far (blk_set gL3 0 (.int .i64 x.1)) (p := ⟨w.heap.size + 1 + 1, 0, none⟩) (by simp) (.int .i64 (pre.length + 1))
  rw [lastT_snoc]
  exact q
 case hstop =>
  rintro D cd pre M1 V hD hDV hDM hMb hF hpre hf hK
  exact hf.elim
 rintro D ys M1 V hD hDV hDM hMb hF rfl ⟨hMM, gN, gL⟩ hK
 have BV : Below w.heap.size w V := hB4.trans (hF.below (base := w.heap.size) (fun k hk => by omega) (by omega))
 have LN : ∀ W, Below w.heap.size w W → Calls Try.prog 44 #[.slice A cs.length cap] W fun e w' => e = .returned (.int .i64 (cntV cs)) ∧ Below W.heap.size W w' := fun W hW => by
  have rR := Kd.V_reads' (Kd.V_below hV hW)
  refine (catchmentref27_Len.calls (cs.length + 1) A cap cs (cntV cs) W rR.2.2 rR.2.1 (Len_eq _ cs hl (by omega))).mono ?_
  rintro e w' ⟨rfl, hb_⟩
  exact ⟨rfl, hb_.below⟩
 have TL : ∀ W, Below w.heap.size w W → Calls Try.prog 19 #[.pointer (some ⟨p, 0, none⟩)] W fun e w' => e = .returned (.int .i64 (cntV cs)) ∧ w' = W := fun W hW => Cur.len_any (h.fr (B := []) (Fr.of_below hW) (by simp) (by simp))
 have eN : (ns.map (tell (tabF cs))).length = cntV cs := by rw [List.length_map, hnl]
 rw [eN] at gN
 have g3 := hF.blk b3 (by omega)
 have gE := hF.blk bE (by omega)
 have n0 := blk_cell gN 0
 have x0 := blk_cell g3 0
 have r0 := blk_cell gE 0
 have r1 := blk_frozen gE 0
 simp at n0 x0 r0
 have cK : ∀ W, Below V.heap.size V W → W.cell? ⟨w.heap.size + 1 + 1, 0, none⟩ = some (.int .i64 (cntV cs)) ∧ W.cell? ⟨w.heap.size, 0, none⟩ = some (.slice A cs.length cap) := fun W hW => ⟨blk_cell (blk_below gN hW) 0, blk_cell (blk_below g3 hW) 0⟩
 have PC : Calls Try.prog 44 #[.slice A cs.length cap] V.drew fun e w1 => e = .returned (.int .i64 (cntV cs)) ∧ (w1.cell? ⟨w.heap.size + 1 + 1, 0, none⟩ = some (.int .i64 (cntV cs)) ∧ w1.cell? ⟨w.heap.size, 0, none⟩ = some (.slice A cs.length cap)) ∧ Calls Try.prog 19 #[.pointer (some ⟨p, 0, none⟩)] w1 fun e w2 => e = .returned (.int .i64 (cntV cs)) ∧ (w2.cell? ⟨w.heap.size + 1 + 1, 0, none⟩ = some (.int .i64 (cntV cs)) ∧ w2.cell? ⟨w.heap.size, 0, none⟩ = some (.slice A cs.length cap)) ∧ (w2.cell? ⟨w.heap.size + 1, 0, none⟩ = some (.bool false) ∧ w2.frozen? ⟨w.heap.size + 1, 0, none⟩ = false) ∧ Aside0 (Below V.heap.size V w2) := by
  refine (LN _ (below_drew1 BV)).mono ?_
  rintro e w1 ⟨rfl, hb_⟩
  have hb1 : Below V.heap.size V w1 := below_then (below_drew1 (Below.refl _ _)) (Nat.le_refl _) hb_
  refine ⟨rfl, cK w1 hb1, (TL w1 (below_then BV BV.size hb1)).mono ?_⟩
  rintro e w2 ⟨rfl, rfl⟩
  exact ⟨rfl, cK _ hb1, ⟨blk_cell (blk_below gE hb1) 0, blk_frozen (blk_below gE hb1) 0⟩, ⟨hb1⟩⟩
 have hAA := aK_ (And.intro hMM (And.intro BV (And.intro gE (And.intro hF hK))))
 clear LN TL BV gN gL g3 gE hF hMM hK cK
 gi_wp2
 refine wpIn_wide.2 ?_
 go_region_held3 (fun w' => w'.cell? ⟨w.heap.size + 1 + 1, 0, none⟩ = some (.int .i64 (cntV cs)) ∧ w'.cell? ⟨w.heap.size, 0, none⟩ = some (.slice A cs.length cap)) (first | exact ⟨by assumption, by assumption⟩ | exact ⟨n0, x0⟩ | (simp [World.cell?_setCell_other, n2, x2]; done))
  (first
   | (go_at_call 44; refine PC.mono ?_; clear PC; rintro e_ w1 ⟨rfl, ⟨n1, x1⟩, TC⟩)
   | (go_at_call 19; refine TC.mono ?_; clear TC; rintro e_ w2 ⟨rfl, ⟨n2, x2⟩, ⟨r2, r3⟩, hB2⟩))
 obtain ⟨hMM, BV, gE, hF, hK⟩ := hAA.out
 have hBw := hB2.out
 have hs4 := hs4
 have hK2 : w2.heap[D]? = some (.deferred (some [])) := (hBw.block D hDV).trans hK
 have hK' := (KeepsOthers.setCell w2 ⟨w.heap.size + 1, 0, none⟩ (.bool true)).same D _ hK2 rfl
 gi_wp2
 refine ⟨by simp, .inl ⟨_, _, rfl, run_takeDeferred hK', ?_⟩⟩
 have hc5 := cell_kept (World.cell?_setCell_same' w2 ⟨w.heap.size + 1, 0, none⟩ (.bool true) (by rw [r2]; rfl)) (grownBy_putObj' _ D (.deferred none)) (fun r e => by cases e; exact ⟨_, hK', rfl⟩)
 refine ⟨.bool true, by simp [results, Try.f12, go_sem, hc5], rfl, ?_⟩
 exact ((below_then BV BV.size hBw).setCell (p := ⟨w.heap.size + 1, 0, none⟩) (by show w.heap.size ≤ w.heap.size + 1; omega) _).trans (belowK_b (w := w) (Nat.le_refl _) _ D _ _ (by omega) hK' rfl rfl)
end Go.Proofs.Ytljnlnbopohghaa.Mdl
end
