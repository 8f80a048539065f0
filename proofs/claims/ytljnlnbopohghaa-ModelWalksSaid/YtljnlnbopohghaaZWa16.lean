/- Texts of one claim (laid by shake.py). -/
import Derived.Test.YtljnlnbopohghaaZWa13
import Derived.Test.YtljnlnbopohghaaZWa14
import Derived.Test.YtljnlnbopohghaaZWa7
import Derived.Test.YtljnlnbopohghaaZWa15
import Derived.Test.YtljnlnbopohghaaZWa12
set_option linter.unusedVariables false
set_option linter.unusedSimpArgs false
section
namespace Go.Proofs.Ytljnlnbopohghaa.Mdl
open Go.RowKit Go.Shelf Go.Proofs.YtljnlnbopohghaaW.PrintWords Go.Proofs.YtljnlnbopohghaaW.PrintLast Go.Proofs.YtljnlnbopohghaaW.PrintMore Go.Proofs.Ytljnlnbopohghaa.Own Go.Proofs.Ytljnlnbopohghaa.Ord Go.Proofs.Ytljnlnbopohghaa Go.Proofs.Ytljnlnbopohghaa.P
open Go.Proofs.Ytljnlnbopohghaa.Cur (upd upd_same upd_other tookV now rrB)
open Go.Proofs.Ytljnlnbopohghaa.OrdSm (Hold)
set_option maxHeartbeats 2000000
set_option maxRecDepth 100000
def setC (cs : List Cu) (n : Int) (x : Cu) : List Cu := cs.set (n - 1).toNat x
def openV (cs : List Cu) (f t : ByteArray) : List Cu × Int × Int := if rrB f t = true then (cs ++ [⟨⟨f, t⟩, false, false⟩], (cs.length : Int) + 1, 0) else (cs, 0, 7)
def ofX (y : Cur.X) : Cu := ⟨⟨y.1, y.2.1⟩, y.2.2, false⟩
def tookL (cs : List Cu) (n : Int) : Option Cur.X → List Cu
 | none => cs
 | some y => setC cs n (ofX y)
def tookC (cs : List Cu) (n : Int) (l : List En) (most : Int) : List Cu × Bool × Int := (tookL cs n (tookV (tabF cs n) l most).2.2, (tookV (tabF cs n) l most).1, (tookV (tabF cs n) l most).2.1)
def closeC (cs : List Cu) (n : Int) : List Cu × Int := if (tabF cs n).isSome = true then (setC cs n ⟨⟨e0, e0⟩, false, true⟩, 0) else (cs, 11)
theorem tabF_some {cs : List Cu} {n : Int} {x : Cur.X} (h : tabF cs n = some x) : 1 ≤ n ∧ n ≤ cs.length ∧ ∃ c, cs[(n - 1).toNat]? = some c ∧ c.f2 = false ∧ x = curX c := by
 unfold tabF at h
 split at h
 ·rename_i h1
  cases hc : cs[(n - 1).toNat]? with
  | none => rw [hc] at h; cases h
  | some c =>
   rw [hc] at h
   simp only at h
   have hl := (List.getElem?_eq_some_iff.1 hc).1
   cases h2 : c.f2 with
   | true => rw [h2] at h; simp at h
   | false =>
    rw [h2] at h
    simp at h
    exact ⟨h1, by omega, c, rfl, h2, h.symm⟩
 cases h
theorem tabF_at {cs : List Cu} {n : Int} {c : Cu} (h1 : 1 ≤ n) (hc : cs[(n - 1).toNat]? = some c) : tabF cs n = if c.f2 = true then none else some (curX c) := by
 unfold tabF
 rw [if_pos h1, hc]
theorem tabF_out {cs : List Cu} {n : Int} (h : ¬ (1 ≤ n ∧ n ≤ cs.length)) : tabF cs n = none := by
 cases hx : tabF cs n with
 | none => rfl
 | some x => obtain ⟨a, b, _⟩ := tabF_some hx; exact absurd ⟨a, b⟩ h
theorem tabF_append (cs : List Cu) (c : Cu) (hc : c.f2 = false) : tabF (cs ++ [c]) = upd (tabF cs) ((cs.length : Int) + 1) (some (curX c)) := by
 funext k
 unfold upd
 by_cases hk : k = (cs.length : Int) + 1
 ·rw [if_pos hk, tabF_at (c := c) (by omega) (by rw [show (k - 1).toNat = cs.length by omega]; simp), hc]
  rfl
 rw [if_neg hk]
 by_cases h1 : 1 ≤ k ∧ k ≤ cs.length
 ·unfold tabF
  rw [if_pos h1.1, if_pos h1.1, List.getElem?_append_left (by omega)]
 rw [tabF_out h1, tabF_out (by rw [List.length_append, List.length_singleton]; omega)]
theorem tabF_set {cs : List Cu} {n : Int} (h : 1 ≤ n ∧ n ≤ cs.length) (c : Cu) : tabF (setC cs n c) = upd (tabF cs) n (if c.f2 = true then none else some (curX c)) := by
 funext k
 unfold upd setC
 by_cases hk : k = n
 ·subst hk
  rw [if_pos rfl, tabF_at (c := c) h.1 (by rw [List.getElem?_set_self (by omega)])]
 rw [if_neg hk]
 unfold tabF
 by_cases h1 : 1 ≤ k
 ·rw [if_pos h1, if_pos h1, List.getElem?_set_ne (by omega)]
 rw [if_neg h1, if_neg h1]
theorem cntV_append (cs : List Cu) (c : Cu) (hc : c.f2 = false) : cntV (cs ++ [c]) = cntV cs + 1 := by simp [cntV, hc]
theorem cnt_set : ∀ (cs : List Cu) (i : Nat) (c d : Cu), cs[i]? = some d → ((cs.set i c).filter (fun c => !c.f2)).length + (if d.f2 = true then 0 else 1) = (cs.filter (fun c => !c.f2)).length + (if c.f2 = true then 0 else 1)
 | [], i, c, d, h => by simp at h
 | x :: cs, 0, c, d, h => by
  have : x = d := by simpa using h
  subst this
  rw [List.set_cons_zero, List.filter_cons, List.filter_cons]
  cases x.f2 <;> cases c.f2 <;> simp <;> omega
 | x :: cs, i + 1, c, d, h => by
  have ih := cnt_set cs i c d (by simpa using h)
  rw [List.set_cons_succ, List.filter_cons, List.filter_cons]
  cases x.f2 <;> simp only [Bool.not_true, Bool.not_false, Bool.false_eq_true, if_true, if_false, List.length_cons] <;> omega
theorem cntV_set {cs : List Cu} {n : Int} {x : Cur.X} (h : tabF cs n = some x) (c : Cu) : cntV (setC cs n c) + 1 = cntV cs + (if c.f2 = true then 0 else 1) := by
 obtain ⟨_, _, d, hd, hf, _⟩ := tabF_some h
 have := cnt_set cs (n - 1).toNat c d hd
 rw [hf] at this
 exact this
theorem tookV_some {o : Option Cur.X} {l : List En} {most : Int} {y : Cur.X} (h : (tookV o l most).2.2 = some y) : o.isSome = true := by
 cases o with
 | none => cases h
 | some x => rfl
theorem setC_length (cs : List Cu) (n : Int) (c : Cu) : (setC cs n c).length = cs.length := List.length_set
theorem took_tab (cs : List Cu) (n : Int) (l : List En) (most : Int) : tabF (tookC cs n l most).1 = now (tabF cs) n (tookV (tabF cs n) l most).2.2 ∧ (tookC cs n l most).1.length = cs.length ∧ cntV (tookC cs n l most).1 = cntV cs := by
 unfold tookC
 simp only
 cases hy : (tookV (tabF cs n) l most).2.2 with
 | none => exact ⟨rfl, rfl, rfl⟩
 | some y =>
  have hs := tookV_some hy
  cases hx : tabF cs n with
  | none => rw [hx] at hs; cases hs
  | some x =>
   obtain ⟨a, b, _⟩ := tabF_some hx
   refine ⟨(tabF_set ⟨a, b⟩ (ofX y)).trans rfl, setC_length _ _ _, ?_⟩
   have := cntV_set hx (ofX y)
   simp [ofX] at this
   exact this
theorem open_tab (cs : List Cu) (f t : ByteArray) (h : rrB f t = true) : tabF (openV cs f t).1 = upd (tabF cs) ((cs.length : Int) + 1) (some (f, t, false)) ∧ (openV cs f t).1.length = cs.length + 1 ∧ cntV (openV cs f t).1 = cntV cs + 1 := by
 unfold openV
 rw [if_pos h]
 exact ⟨tabF_append _ _ rfl, by simp, cntV_append _ _ rfl⟩
theorem close_tab (cs : List Cu) (n : Int) : tabF (closeC cs n).1 = upd (tabF cs) n none ∧ (closeC cs n).1.length = cs.length ∧ cntV (closeC cs n).1 + (if (tabF cs n).isSome = true then 1 else 0) = cntV cs := by
 unfold closeC
 cases hx : tabF cs n with
 | none =>
  refine ⟨?_, rfl, rfl⟩
  show tabF cs = _
  funext k
  unfold upd
  split
  ·rename_i q; rw [q, hx]
  rfl
 | some x =>
  obtain ⟨a, b, _⟩ := tabF_some hx
  simp only [Option.isSome_some, if_true]
  refine ⟨(tabF_set ⟨a, b⟩ _).trans rfl, setC_length _ _ _, ?_⟩
  have := cntV_set hx ⟨⟨e0, e0⟩, false, true⟩
  simp at this
  exact this
theorem rdC_at {cs : List Cu} {i : Nat} {c : Cu} (h : cs[i]? = some c) : rd_T97 cs (i : Int) = c := by
 simp [rd_T97, rdOf, h]
theorem Is_eq (cs : List Cu) (n : Int) (h0 : -9223372036854775807 ≤ n) (h1 : n ≤ 9223372036854775807) (hl : cs.length ≤ 1000000) : catchmentref27_Is.f cs n = some (tabF cs n).isSome := by
 unfold catchmentref27_Is.f
 have hw : wrap64 (n - 1) = n - 1 := IntWalk.wrap64_in _ (by omega)
 by_cases h : 1 ≤ n ∧ n ≤ cs.length
 ·obtain ⟨c, hc⟩ : ∃ c, cs[(n - 1).toNat]? = some c := ⟨_, List.getElem?_eq_getElem (by omega)⟩
  have e := rdC_at hc
  rw [show (((n - 1).toNat : Nat) : Int) = n - 1 by omega] at e
  rw [if_pos (by omega), if_pos (by omega), hw, if_pos (by omega), if_pos (by omega), e, tabF_at h.1 hc]
  cases c.f2 <;> rfl
 rw [tabF_out h]
 by_cases h2 : n ≥ 1
 ·rw [if_pos h2, if_neg (by omega)]; rfl
 rw [if_neg h2]; rfl
theorem With_eq (cs : List Cu) (n : Int) (f t : ByteArray) (a b : Bool) (h0 : 1 ≤ n) (h1 : n ≤ cs.length) (hl : cs.length ≤ 1000000) : catchmentref27_With.f cs n f t a b = some (setC cs n ⟨⟨f, t⟩, a, b⟩) := by
 unfold catchmentref27_With.f
 have hw : wrap64 (n - 1) = n - 1 := IntWalk.wrap64_in _ (by omega)
 rw [Option.bind_some, if_pos (by simp; omega), Option.bind_some, hw, List.nil_append, if_pos (by omega), if_pos (by omega)]
 rfl
theorem Open_eq (cs : List Cu) (f t : ByteArray) (hl : cs.length ≤ 1000000) : catchmentref27_Open.f cs f t = some (openV cs f t) := by
 unfold catchmentref27_Open.f openV
 rw [Cur.right_eq, Option.bind_some]
 cases rrB f t with
 | false => rfl
 | true =>
  rw [if_pos rfl, if_pos rfl, Option.bind_some, if_pos (by simp; omega), Option.bind_some, Option.bind_some, if_pos (by simp; omega), Option.bind_some]
  simp
theorem Close_eq (cs : List Cu) (n : Int) (h0 : -9223372036854775807 ≤ n) (h1 : n ≤ 9223372036854775807) (hl : cs.length ≤ 1000000) : catchmentref27_Close.f cs n = some (closeC cs n) := by
 unfold catchmentref27_Close.f closeC
 rw [Is_eq cs n h0 h1 hl, Option.bind_some]
 cases hx : tabF cs n with
 | none => rfl
 | some x =>
  obtain ⟨a, b, _⟩ := tabF_some hx
  rw [With_eq cs n _ _ _ _ a b hl]
  rfl
theorem incE_loop (cs : List Cu) (n : Int) (l : List En) (most : Int) (f t : ByteArray) (d b : Bool) (hl : l.length ≤ 1000000) (r : Option (List Cu × Bool × Int)) : ∀ (q : List En) (k i : Nat), l.drop i = q → i ≤ l.length → l.length + 2 + q.length < k →
  (∀ k', l.length + 2 < k' → Cur.outside f t q = false → catchmentref27_Took.l0 k' cs n l most (l.length : Int) f t d b = r) → (Cur.outside f t q = true → r = some (cs, false, 16)) → catchmentref27_Took.l0 k cs n l most (i : Int) f t d b = r := by
 intro q
 induction q with
 | nil =>
  intro k i hd hi hk h1 _
  have := drop_none hd hi
  rw [this]
  exact h1 k (by simp at hk; omega) rfl
 | cons x q ih =>
  intro k i hd hi hk h1 h2
  simp only [List.length_cons] at hk
  obtain ⟨k, rfl⟩ : ∃ m, k = m + 1 := ⟨k - 1, by omega⟩
  obtain ⟨hlt, hx, hd2, _, _⟩ := drop_any hd
  have eo : Cur.outside f t (x :: q) = (!Cur.holdsB f t x.f0 || Cur.outside f t q) := by simp [Cur.outside]
  rw [catchmentref27_Took.l0, if_pos (by omega), if_pos (by omega), rdE_at hx, Cur.holds2_eq, Option.bind_some, wrap1 (by omega)]
  cases hh : Cur.holdsB f t x.f0 with
  | false =>
   rw [if_neg (by simp)]
   exact (h2 (by rw [eo, hh]; rfl)).symm
  | true =>
   rw [if_pos rfl]
   refine ih k (i + 1) hd2 (by omega) (by omega) (fun k' hk' ho => h1 k' hk' (by rw [eo, hh, ho]; rfl)) (fun ho => h2 (by rw [eo, hh, ho]; rfl))
def tookEnd (f t : ByteArray) (d : Bool) (l : List En) (most : Int) : Bool × Int × Option Cur.X :=
 if d = true ∨ (l.length : Int) < most then (true, 0, some (e0, e0, true)) else match l[l.length - 1]? with
  | none => (true, 0, none)
  | some x => ((Cur.behV f t x.f0).2.2, 0, some (Cur.behV f t x.f0))
theorem tookV_end (f t : ByteArray) (d : Bool) (l : List En) (most : Int) : tookV (some (f, t, d)) l most =
  if d = true ∧ 0 < l.length then (false, 15, none) else if most < 1 then (false, 2, none) else if most < l.length then (false, 4, none) else if Cur.incB l = false then (false, 16, none) else if Cur.outside f t l = true then (false, 16, none) else tookEnd f t d l most := rfl
theorem Took_eq (cs : List Cu) (n : Int) (l : List En) (most : Int) (h0 : -9223372036854775807 ≤ n) (h1 : n ≤ 9223372036854775807) (hl : cs.length ≤ 1000000) (hll : l.length ≤ 1000000) (hsz : ∀ x ∈ l, x.f0.size ≤ 140737488351232) (k : Nat) (hk : 2 * l.length + 10 < k) : catchmentref27_Took.f k cs n l most = some (tookC cs n l most) := by
 unfold catchmentref27_Took.f
 rw [Is_eq cs n h0 h1 hl, Option.bind_some]
 cases hx : tabF cs n with
 | none =>
  rw [if_neg (by simp)]
  unfold tookC
  rw [hx]
  rfl
 | some x =>
  obtain ⟨a, b_1, c, hc, hcf, rfl⟩ := tabF_some hx
  have e := rdC_at hc
  rw [show (((n - 1).toNat : Nat) : Int) = n - 1 by omega] at e
  have hw : wrap64 (n - 1) = n - 1 := IntWalk.wrap64_in _ (by omega)
  obtain ⟨⟨cf, ct⟩, ce, cc⟩ := c
  simp only at hcf
  subst hcf
  rw [if_pos (by rfl), hw, if_pos (by omega), if_pos (by omega), e]
  simp only
  have R : ∀ z : Bool, z = (ce && decide (0 < (l.length : Int))) → catchmentref27_Took.j0 k cs n l most z cf ct ce false = some (tookC cs n l most) := by
   intro z hz
   have eT : tookC cs n l most = (tookL cs n (tookV (some (cf, ct, ce)) l most).2.2, (tookV (some (cf, ct, ce)) l most).1, (tookV (some (cf, ct, ce)) l most).2.1) := by unfold tookC; rw [hx]; rfl
   rw [eT]
   obtain ⟨k, rfl⟩ : ∃ m, k = m + 1 := ⟨k - 1, by omega⟩
   rw [catchmentref27_Took.j0]
   rw [tookV_end]
   by_cases hz1 : ce = true ∧ 0 < l.length
   ·have : z = true := by rw [hz, hz1.1]; simpa using hz1.2
    rw [if_pos this, if_pos hz1]
    rfl
   have : ¬ z = true := by
    rw [hz]
    intro q
    rw [Bool.and_eq_true, decide_eq_true_eq] at q
    exact hz1 ⟨q.1, by omega⟩
   rw [if_neg this, if_neg hz1]
   by_cases m1 : most < 1
   ·rw [if_pos m1, if_pos m1]
    rfl
   rw [if_neg m1, if_neg m1]
   by_cases m2 : most < (l.length : Int)
   ·rw [if_pos m2, if_pos m2]
    rfl
   rw [if_neg m2, if_neg m2]
   refine incE_loop cs n l most cf ct ce false hll _ l k 0 rfl (by omega) (by omega) (fun k' hk' ho => ?_) (fun ho => ?_)
   ·obtain ⟨k', rfl⟩ : ∃ m, k' = m + 2 + l.length + 1 := ⟨k' - 3 - l.length, by omega⟩
    rw [catchmentref27_Took.l0, if_neg (by omega), Cur.ref_eq _ _ (by omega), Option.bind_some]
    cases hi : Cur.incB l with
    | false =>
     rw [if_neg (by simp), if_pos rfl]
     rfl
    | true =>
     have eR : (if Cur.outside cf ct l = true then ((false, 16, none) : Bool × Int × Option Cur.X) else tookEnd cf ct ce l most) = tookEnd cf ct ce l most := if_neg (by rw [ho]; simp)
     have eS : (if true = false then ((false, 16, none) : Bool × Int × Option Cur.X) else if Cur.outside cf ct l = true then (false, 16, none) else tookEnd cf ct ce l most) = tookEnd cf ct ce l most := (if_neg (by simp)).trans eR
     rw [eS, if_pos rfl]
     have J : ∀ b : Bool, b = (ce || decide ((l.length : Int) < most)) → catchmentref27_Took.j2 (k' + 2 + l.length) cs n l b cf ct ce false = some (tookL cs n (tookEnd cf ct ce l most).2.2, (tookEnd cf ct ce l most).1, (tookEnd cf ct ce l most).2.1) := by
      intro b hb
      rw [show k' + 2 + l.length = (k' + 1 + l.length) + 1 by omega, catchmentref27_Took.j2]
      by_cases hc1 : ce = true ∨ (l.length : Int) < most
      ·have : b = true := by rw [hb]; rcases hc1 with q | q <;> simp [q]
       have eE : tookEnd cf ct ce l most = (true, 0, some (e0, e0, true)) := if_pos hc1
       rw [eE, if_pos this, With_eq cs n _ _ _ _ a b_1 hl, Option.bind_some]
       rfl
      have : ¬ b = true := by
       rw [hb]
       intro q
       rw [Bool.or_eq_true, decide_eq_true_eq] at q
       exact hc1 q
      have hlen : 0 < l.length := by
       have := not_or.1 hc1
       omega
      obtain ⟨x, hxl⟩ : ∃ x, l[l.length - 1]? = some x := ⟨_, List.getElem?_eq_getElem (by omega)⟩
      have hwl : wrap64 ((l.length : Int) - 1) = ((l.length - 1 : Nat) : Int) := (IntWalk.wrap64_in _ (by omega)).trans (by omega)
      have hxz := hsz x (List.mem_of_getElem? hxl)
      have eE : tookEnd cf ct ce l most = ((Cur.behV cf ct x.f0).2.2, 0, some (Cur.behV cf ct x.f0)) := by
       unfold tookEnd
       rw [if_neg hc1, hxl]
      rw [eE, if_neg this, hwl, if_pos (by omega), if_pos (by omega), rdE_at hxl, if_pos (by omega), Cur.right_eq, Option.bind_some]
      have hb : Cur.behV cf ct x.f0 = if rrB (x.f0 ++ (⟨#[0]⟩ : ByteArray)) ct = true then (x.f0 ++ (⟨#[0]⟩ : ByteArray), ct, false) else (e0, e0, true) := rfl
      rw [hb]
      cases rrB (x.f0 ++ (⟨#[0]⟩ : ByteArray)) ct with
      | true =>
       rw [if_pos rfl, With_eq cs n _ _ _ _ a b_1 hl, Option.bind_some, if_pos rfl]
       rfl
      | false =>
       rw [if_neg (by simp), With_eq cs n _ _ _ _ a b_1 hl, Option.bind_some, if_neg (by simp)]
       rfl
     by_cases hce : ce = true
     ·rw [if_pos hce]
      exact J true (by rw [hce]; rfl)
     rw [if_neg hce]
     exact J _ (by rw [Bool.eq_false_iff.2 hce]; rfl)
   cases hi : Cur.incB l with
   | false => rw [if_pos rfl]; rfl
   | true => rw [if_neg (by simp), if_pos ho]; rfl
  by_cases hce : ce = true
  ·rw [if_pos hce]
   exact R _ (by rw [hce]; rfl)
  rw [if_neg hce]
  exact R _ (by rw [Bool.eq_false_iff.2 hce]; rfl)
theorem results_c {P : Program} {fn : Func} {p : Tmp} {ty : TypeId} (h : fn.results = #[.cell p ty]) (tmps : Array Value) (w : World) (g : Nat) (t : TypeId) (cs : Array Value) (fr : Nat × Nat) (d : TypeDesc)
  (hp : tmps.getD p undef = .pointer (some ⟨g, 0, none⟩)) (hg : w.heap[g]? = some (.cells cs t fr))
  (hu : P.underlying ty = some d) (hd : (match d with | .struct _ | .array _ _ => true | _ => false) = true) (hi : (P.info? ty).map (·.size) = some cs.size) :
  (results fn tmps).run P w = .ok (.agg cs) w := by
 have hp' : tmps[p]?.getD undef = .pointer (some ⟨g, 0, none⟩) := by simpa using hp
 simp [results, h, hp', asAddr, run_loadVar_row w g t ty cs fr d hg hu hd hi]
def setT (T : Int → List Cu) (who : Int) (cs : List Cu) : Int → List Cu := fun v => if v = who then cs else T v
theorem setT_same (T : Int → List Cu) (who : Int) (cs : List Cu) : setT T who cs who = cs := if_pos rfl
theorem setT_self (T : Int → List Cu) (who : Int) : setT T who (T who) = T := by
 funext v
 unfold setT
 split
 ·rename_i h; rw [h]
 rfl
theorem Mx.tabs {G : Nat → Nat} {w w' : World} {m : Nat} {c : Cf} {n sends : Int} {L : Row} {T : Int → List Cu} {N N' em cb nn : Nat} {F : Int → Option Nat} {B : Int → Nat} (h : Mx G w m c n sends L T N em cb nn F B) {who : Int} {p : Nat} (hF : F who = some p) (f : Fr [p, B who] w w') {cs : List Cu} {k : Nat} (hN : N ≤ N') (hk : k ≤ N') (hb : Cur.Tb w' p (B who) cs.length k (tabF cs) (cntV cs)) :
  Mx G w' m c n sends L (setT T who cs) N' em cb nn F B ∧ It.FrM (fun k => G k ≠ 0) w w' := by
 obtain ⟨h1, h2, h3, k0, hk0, hb0⟩ := h.tab who p hF
 have fm : It.FrM (fun k => k = p ∨ k = B who) w w' := ⟨f.os, f.tape, f.output, f.size, fun k hk hn => f.block k hk (by simpa using hn)⟩
 have ne : ∀ k, G k ≠ 4 + 2 * who.toNat → G k ≠ 5 + 2 * who.toNat → ¬ (k = p ∨ k = B who) := fun k a b e => by
  rcases e with e | e
  ·exact a (by rw [e]; exact h2)
  exact b (by rw [e]; exact h3)
 refine ⟨⟨fm.blk h.hm (ne m (by rw [h.gm]; omega) (by rw [h.gm]; omega)), h.gm, h.hH.frm fm (fun k hk _ => ne k (by rw [hk]; omega) (by rw [hk]; omega)), h.hT.fr (fm.block cb h.hT.lt (ne cb (by rw [h.gc]; omega) (by rw [h.gc]; omega))), h.gc, Nat.le_trans h.hn hN, fun v hv => ?_, fun v q hq => ?_⟩, fm.mono (fun i hi => .inl ?_)⟩
 ·have : v ≠ who := fun e => by rw [e, hF] at hv; cases hv
  show (if v = who then cs else T v) = []
  rw [if_neg this]; exact h.non v hv
 ·by_cases e : v = who
  ·subst e
   rw [hF] at hq
   cases hq
   refine ⟨h1, h2, h3, k, hk, ?_⟩
   rw [setT_same]; exact hb
  obtain ⟨a1, a2, a3, k1, hk1, hb1⟩ := h.tab v q hq
  obtain ⟨l1, l2⟩ := Tb_lt hb1
  have hvw : v.toNat ≠ who.toNat := fun q => e (by omega)
  refine ⟨a1, a2, a3, k1, Nat.le_trans hk1 hN, ?_⟩
  have es : setT T who cs v = T v := if_neg e
  rw [es]
  exact Tb_eq hb1 (fm.block q l1 (ne q (by rw [a2]; omega) (by rw [a2]; omega))) (fm.block _ l2 (ne _ (by rw [a3]; omega) (by rw [a3]; omega)))
 rcases hi with e | e
 ·rw [e, h2]; omega
 rw [e, h3]; omega
structure Rp where (e : Int) (fd : Bool) (v : ByteArray) (l : List En) (n : Int) (fin : Bool)
def RepV (Z : Nat → Prop) (w : World) (r : Rp) (v : Value) : Prop := ∃ A c, v = .agg #[.int .i64 r.e, .bool r.fd, .string r.v, .slice A r.l.length c, .int .i64 r.n, .bool r.fin] ∧ Kd.V P.k103 103 w 0 Z (.slice A r.l.length c) r.l
theorem V_of_R {w : World} {base : Nat} {A : Option Addr} {c : Nat} {l : List En} (h : P.k103.R 103 w base (fun _ => True) (.slice A l.length c) l) : Kd.V P.k103 103 w 0 (fun k => base ≤ k ∧ k < w.heap.size) (.slice A l.length c) l :=
 ⟨A, c, rfl, (Kd.R_reads' h).2.1, fun w' hw => (Kd.R_reads' (Kd.R_step (Kd.R_bound h) (fun k hk hl => hw k ⟨hk.2.1, hl⟩ hl))).2.2⟩
theorem RepV.bare (Z : Nat → Prop) (w : World) (e : Int) (fd : Bool) (v : ByteArray) (n : Int) (fin : Bool) : RepV Z w ⟨e, fd, v, [], n, fin⟩ (.agg #[.int .i64 e, .bool fd, .string v, .slice none 0 0, .int .i64 n, .bool fin]) :=
 ⟨none, 0, rfl, Kd.V_nil _ _ _ _ _⟩
def nextV (chunk : Int) (L : Row) (cs : List Cu) (k : Int) : Rp × List Cu :=
 match tabF cs k with
 | none => (⟨11, false, e0, [], 0, false⟩, cs)
 | some x => (⟨(tookC cs k (if x.2.2 = true then [] else (someM x.1 x.2.1 L chunk).map toE) chunk).2.2, false, e0, if x.2.2 = true then [] else (someM x.1 x.2.1 L chunk).map toE, 0, (tookC cs k (if x.2.2 = true then [] else (someM x.1 x.2.1 L chunk).map toE) chunk).2.1⟩, (tookC cs k (if x.2.2 = true then [] else (someM x.1 x.2.1 L chunk).map toE) chunk).1)
def Md (G : Nat → Nat) (w : World) (m : Nat) (c : Cf) (n : Int) (N : Nat) (r : Rp) (sends : Int) (L : Row) (T : Int → List Cu) (e : Ending) (w' : World) : Prop :=
 ∃ v, e = .returned v ∧ ∃ G', (∀ k, k < w.heap.size → G' k = G k) ∧ Mw G' w' m c n sends L T N ∧ It.FrM (fun k => G k ≠ 0) w w' ∧ RepV (fun k => w.heap.size ≤ k ∧ k < w'.heap.size ∧ G' k = 0) w' r v
theorem frm_setN {M : Nat → Prop} {w W : World} (h : It.FrM M w W) {D : Nat} (i : Nat) (hD : M D ∨ w.heap.size ≤ D) (v : Value) : It.FrM M w (W.setCell ⟨D, i, none⟩ v) :=
 h.trans (frm_set W D i v) (fun j hj => by rw [hj]; exact hD)
abbrev setRep (W : World) (D : Nat) (v0 v1 v2 v3 v4 v5 : Value) : World := (((((W.setCell ⟨D, 0, none⟩ v0).setCell ⟨D, 1, none⟩ v1).setCell ⟨D, 2, none⟩ v2).setCell ⟨D, 3, none⟩ v3).setCell ⟨D, 4, none⟩ v4).setCell ⟨D, 5, none⟩ v5
theorem setRep_blk {W : World} {D : Nat} {a0 a1 a2 a3 a4 a5 : Value} {t : TypeId} (h : W.heap[D]? = some (.cells #[a0, a1, a2, a3, a4, a5] t (0, 0))) (v0 v1 v2 v3 v4 v5 : Value) : (setRep W D v0 v1 v2 v3 v4 v5).heap[D]? = some (.cells #[v0, v1, v2, v3, v4, v5] t (0, 0)) :=
 blk_set (blk_set (blk_set (blk_set (blk_set (blk_set h 0 v0) 1 v1) 2 v2) 3 v3) 4 v4) 5 v5
theorem setRep_frm {M : Nat → Prop} {w W : World} (h : It.FrM M w W) {D : Nat} (hD : M D ∨ w.heap.size ≤ D) (v0 v1 v2 v3 v4 v5 : Value) : It.FrM M w (setRep W D v0 v1 v2 v3 v4 v5) :=
 frm_setN (frm_setN (frm_setN (frm_setN (frm_setN (frm_setN h 0 hD v0) 1 hD v1) 2 hD v2) 3 hD v3) 4 hD v4) 5 hD v5
theorem rep_result {W : World} {fn : Func} {tmps : Array Value} {D : Nat} {p : Tmp} {a0 a1 a2 a3 a4 a5 : Value} (hfn : fn.results = #[.cell p 59]) (hp : tmps.getD p undef = .pointer (some ⟨D, 0, none⟩)) (hb : W.heap[D]? = some (.cells #[a0, a1, a2, a3, a4, a5] 59 (0, 0))) (v0 v1 v2 v3 v4 v5 : Value) :
  (results fn tmps).run Try.prog (setRep W D v0 v1 v2 v3 v4 v5) = .ok (.agg #[v0, v1, v2, v3, v4, v5]) (setRep W D v0 v1 v2 v3 v4 v5) :=
 results_c hfn tmps _ D 59 _ (0, 0) _ hp (setRep_blk hb v0 v1 v2 v3 v4 v5) Try.underlying59 rfl (by kernel_rfl)
theorem setRep_size (W : World) (D : Nat) (v0 v1 v2 v3 v4 v5 : Value) : (setRep W D v0 v1 v2 v3 v4 v5).heap.size = W.heap.size := by simp [setRep]
theorem rep_end {fn : Func} {R : Ending → World → Prop} {a : Act} {W : World} {D : Nat} {p : Tmp} {a0 a1 a2 a3 a4 a5 v0 v1 v2 v3 v4 v5 : Value} (hfn : fn.results = #[.cell p 59]) (hp : a.tmps.getD p undef = .pointer (some ⟨D, 0, none⟩)) (hd : a.defers = []) (hb : W.heap[D]? = some (.cells #[a0, a1, a2, a3, a4, a5] 59 (0, 0)))
  (h : ∀ W', W'.heap.size = W.heap.size → (∀ (M : Nat → Prop) (w : World), It.FrM M w W → (M D ∨ w.heap.size ≤ D) → It.FrM M w W') → R (.returned (.agg #[v0, v1, v2, v3, v4, v5])) W') : bodyPost Try.prog fn R .ret a (setRep W D v0 v1 v2 v3 v4 v5) :=
 bodyPost_ret (rep_result hfn hp hb _ _ _ _ _ _) hd (h _ (setRep_size _ _ _ _ _ _ _ _) (fun M w hf hD => setRep_frm hf hD _ _ _ _ _ _))
abbrev rep0 : Obj := .cells #[.int .i64 0, .bool false, .string ⟨#[]⟩, .slice none 0 0, .int .i64 0, .bool false] 59 (0, 0)
theorem next_none {G : Nat → Nat} {w : World} {m : Nat} {c : Cf} {n sends : Int} {L : Row} {T : Int → List Cu} {N : Nat} (h : Mw G w m c n sends L T N) (who : Int) (h1 : 1 ≤ who) (h2 : who ≤ 1000000) (hN : N < 1000000) (k : Int) (hk : (Lit.int .i64 k).wf = true) (hF : tabF (T who) k = none) :
  Calls Try.prog 59 #[.pointer (some ⟨m, 0, none⟩), .int .i64 who, .int .i64 k] w (Md G w m c n (N + 1) ⟨11, false, e0, [], 0, false⟩ sends L T) := by
 have hup := Try.underlying59
 have hur := Try.underlying29
 obtain ⟨hlt, em, cb, nn, F, B, hx⟩ := h
 go_enter Try.func59, Try.ntmps59
 have hB0 : Below w.heap.size w (w.alloc rep0) := below_alloc (Below.refl _ _) _
 have TB := table_any (fun k hk => Nat.lt_of_lt_of_le (hlt k hk) hB0.size) (hx.frm (.of_below hB0)) who h1 h2 hN
 have hD0 : Aside0 (G w.heap.size = 0) := ⟨by
  cases hg : G w.heap.size with
  | zero => rfl
  | succ j => have := hlt w.heap.size (by rw [hg]; omega); omega⟩
 have bD0 := aK_ (blk_new w rep0)
 clear hx
 go_wp2_with (first
  | (go_at_call 58; refine TB.mono ?_; clear TB; rintro e w1 ⟨p, rfl, hMo⟩; obtain ⟨G1, hG1, ⟨hlt1, nn1, F1, B1, hx1, hF1⟩, hf1⟩ := hMo; obtain ⟨_, _, _, k1, hk1, hTb⟩ := hx1.tab who p hF1; have LF : Calls Try.prog 16 #[.pointer (some ⟨p, 0, none⟩), .int .i64 k] w1 fun e w' => e = .returned (.tuple #[.agg #[.string e0, .string e0], .bool false, .int .i64 11]) ∧ Below w1.heap.size w1 w' := (by have := Cur.left_any hTb k hk; rw [hF] at this; exact this); clear hTb; have bD1 := hf1.blk bD0.out (by rw [hD0.out]; simp); have hA1 := aK_ (And.intro hG1 (And.intro hlt1 (And.intro hx1 (And.intro hf1 bD1)))); clear hG1 hlt1 hx1 hf1 bD1 hF1)
  | (go_at_call 16; refine LF.mono ?_; clear LF; rintro e w2 ⟨rfl, hB2⟩; have bD2 := blk_alloc (blk_below hA1.out.2.2.2.2 hB2) (.cells #[.string e0, .string e0] 29); have y0 := blk_cell bD2 0; have y1 := blk_cell bD2 1; have y2 := blk_cell bD2 2; have y3 := blk_cell bD2 3; have y4 := blk_cell bD2 4; have y5 := blk_cell bD2 5; have z0 := blk_frozen bD2 0; have z1 := blk_frozen bD2 1; have z2 := blk_frozen bD2 2; have z3 := blk_frozen bD2 3; have z4 := blk_frozen bD2 4; have z5 := blk_frozen bD2 5; simp at y0 y1 y2 y3 y4 y5; have hA2 := aK_ (And.intro hB2 bD2); clear hB2 bD2))
 obtain ⟨hB2, bD2⟩ := hA2.out
 obtain ⟨hG1, hlt1, hx1, hf1, bD1⟩ := hA1.out
 have hG0 : G1 w.heap.size = 0 := (hG1 _ (by simp)).trans hD0.out
 have hBa : Below w1.heap.size w1 (w2.alloc (.cells #[.string e0, .string e0] 29)) := below_alloc hB2 _
 refine rep_end (D := w.heap.size) rfl rfl rfl bD2 (fun W hWs hWf => ?_)
 refine ⟨_, rfl, G1, fun j hj => hG1 j (by simp; omega), ⟨fun j hj => ?_, em, cb, nn1, F1, B1, hx1.frm (hWf _ _ (.of_below hBa) (.inl hG0))⟩, hWf _ _ (((It.FrM.of_below hB0).trans hf1 (fun i hi => ?_)).trans (.of_below (M := fun _ => False) hBa) (fun i hi => hi.elim)) (.inr (Nat.le_refl _)), RepV.bare _ _ _ _ _ _ _⟩
 ·have := hlt1 j hj
  have := hBa.size
  rw [hWs]; omega
 exact .inl hi
theorem next_took {G1 : Nat → Nat} {w1 w3 : World} {m : Nat} {c : Cf} {n sends : Int} {L : Row} {T : Int → List Cu} {N em cb nn1 : Nat} {F1 : Int → Option Nat} {B1 : Int → Nat} {who : Int} {p : Nat} (hx1 : Mx G1 w1 m c n sends L T N em cb nn1 F1 B1) (hF1 : F1 who = some p) (hB : Below w1.heap.size w1 w3) (hN : N < 1000000) (k : Int) (hk : (Lit.int .i64 k).wf = true) {A : Option Addr} {cap : Nat} {l : List En} (hC : Kd.C P.k103 w3 A l.length l) (hcap : l.length ≤ cap) (most : Int) (hsz : ∀ x ∈ l, x.f0.size ≤ 140737488351232) (hlen : l.length ≤ 1000000) :
  Calls Try.prog 17 #[.pointer (some ⟨p, 0, none⟩), .int .i64 k, .slice A l.length cap, .int .i64 most] w3 fun e w4 => e = .returned (.tuple #[.bool (tookC (T who) k l most).2.1, .int .i64 (tookC (T who) k l most).2.2]) ∧ Mx G1 w4 m c n sends L (setT T who (tookC (T who) k l most).1) (N + 1) em cb nn1 F1 B1 ∧ It.FrM (fun k => G1 k ≠ 0) w3 w4 := by
 have hx3 := hx1.frm (.of_below hB)
 obtain ⟨_, h2, h3, k1, hk1, hTb⟩ := hx3.tab who p hF1
 refine (Cur.took_any hTb k hk hC hcap most (by omega) hsz hlen).mono ?_
 rintro e w4 ⟨rfl, hT4, f4⟩
 obtain ⟨e1, e2, e3⟩ := took_tab (T who) k l most
 refine ⟨rfl, hx3.tabs hF1 ⟨f4.os, f4.tape, f4.output, f4.size, fun j hj hn => f4.block j hj (by simp at hn ⊢; exact hn.2)⟩ (by omega) (k := k1 + 1) (by omega) ?_⟩
 rw [e1, e2, e3]
 exact hT4
theorem next_some {G : Nat → Nat} {w : World} {m : Nat} {c : Cf} {n sends : Int} {L : Row} {T : Int → List Cu} {N : Nat} (h : Mw G w m c n sends L T N) (who : Int) (h1 : 1 ≤ who) (h2 : who ≤ 1000000) (hN : N + 1 < 1000000) (k : Int) (hk : (Lit.int .i64 k).wf = true) (hl : L.length ≤ 1000000) (hsz : ∀ x ∈ L, x.1.size ≤ 140737488351232) (f t : ByteArray) (d : Bool) (hF : tabF (T who) k = some (f, t, d)) (l : List En) (hle : l = if d = true then [] else (someM f t L c.f8).map toE) :
  Calls Try.prog 59 #[.pointer (some ⟨m, 0, none⟩), .int .i64 who, .int .i64 k] w (Md G w m c n (N + 2) ⟨(tookC (T who) k l c.f8).2.2, false, e0, l, 0, (tookC (T who) k l c.f8).2.1⟩ sends L (setT T who (tookC (T who) k l c.f8).1)) := by
 have hup := Try.underlying59
 have hur := Try.underlying29
 have hum := Try.underlying122
 have huc := Try.underlying47
 obtain ⟨hlt, em, cb, nn, F, B, hx⟩ := h
 go_enter Try.func59, Try.ntmps59
 have hB0 : Below w.heap.size w (w.alloc rep0) := below_alloc (Below.refl _ _) _
 have TB := table_any (fun k hk => Nat.lt_of_lt_of_le (hlt k hk) hB0.size) (hx.frm (.of_below hB0)) who h1 h2 (by omega)
 have hD0 : Aside0 (G w.heap.size = 0) := ⟨by
  cases hg : G w.heap.size with
  | zero => rfl
  | succ j => have := hlt w.heap.size (by rw [hg]; omega); omega⟩
 have bD0 := aK_ (blk_new w rep0)
 clear hx
 cases d with
 | true =>
  have hle' : l = [] := hle
  subst hle'
  clear hle
  go_wp2_with (first
   | (go_at_call 58; refine TB.mono ?_; clear TB; rintro e w1 ⟨p, rfl, hMo⟩; obtain ⟨G1, hG1, ⟨hlt1, nn1, F1, B1, hx1, hF1⟩, hf1⟩ := hMo; obtain ⟨_, _, _, k1, hk1, hTb⟩ := hx1.tab who p hF1; have LF : Calls Try.prog 16 #[.pointer (some ⟨p, 0, none⟩), .int .i64 k] w1 fun e w' => e = .returned (.tuple #[.agg #[.string f, .string t], .bool true, .int .i64 0]) ∧ Below w1.heap.size w1 w' := (by have := Cur.left_any hTb k hk; rw [hF] at this; exact this); clear hTb; have bD1 := hf1.blk bD0.out (by rw [hD0.out]; simp); have hA1 := aK_ (And.intro hG1 (And.intro hlt1 (And.intro hx1 (And.intro hf1 (And.intro bD1 hF1))))); clear hG1 hlt1 hx1 hf1 bD1 hF1)
   | (go_at_call 16; refine LF.mono ?_; clear LF; rintro e w2 ⟨rfl, hB2⟩; have hBa : Below w1.heap.size w1 (w2.alloc (.cells #[.string f, .string t] 29)) := below_alloc hB2 _; have hm2 := blk_below hA1.out.2.2.1.hm hBa; have x8 := blk_cell hm2 8; simp at x8; have TK := next_took hA1.out.2.2.1 hA1.out.2.2.2.2.2 hBa (by omega) k hk (Kd.C_nil P.k103 _) (Nat.le_refl 0) c.f8 (by simp) (by simp); have hA2 := aK_ hBa; clear hB2 hBa hm2)
   | (go_at_call 17; refine TK.mono ?_; clear TK; rintro e w4 ⟨rfl, hx4, hf4⟩; have bD4 := hf4.blk (blk_below hA1.out.2.2.2.2.1 hA2.out) (by rw [hA1.out.1 _ (by simp), hD0.out]; simp); have y0 := blk_cell bD4 0; have y1 := blk_cell bD4 1; have y2 := blk_cell bD4 2; have y3 := blk_cell bD4 3; have y4 := blk_cell bD4 4; have y5 := blk_cell bD4 5; have z0 := blk_frozen bD4 0; have z1 := blk_frozen bD4 1; have z2 := blk_frozen bD4 2; have z3 := blk_frozen bD4 3; have z4 := blk_frozen bD4 4; have z5 := blk_frozen bD4 5; simp at y0 y1 y2 y3 y4 y5; have hA4 := aK_ (And.intro hx4 (And.intro hf4 bD4)); clear hx4 hf4 bD4))
  obtain ⟨hx4, hf4, bD4⟩ := hA4.out
  obtain ⟨hG1, hlt1, hx1, hf1, bD1, hF1⟩ := hA1.out
  have hBa := hA2.out
  have hG0 : G1 w.heap.size = 0 := (hG1 _ (by simp)).trans hD0.out
  refine rep_end (D := w.heap.size) rfl rfl rfl bD4 (fun W hWs hWf => ?_)
  refine ⟨_, rfl, G1, fun j hj => hG1 j (by simp; omega), ⟨fun j hj => ?_, em, cb, nn1, F1, B1, hx4.frm (hWf _ _ (It.FrM.refl _ _) (.inl hG0))⟩, hWf _ _ ((((It.FrM.of_below hB0).trans hf1 (fun i hi => .inl hi)).trans (.of_below (M := fun _ => False) hBa) (fun i hi => hi.elim)).trans hf4 (fun i hi => ?_)) (.inr (Nat.le_refl _)), RepV.bare _ _ _ _ _ _ _⟩
  ·have := hlt1 j hj
   have := hBa.size
   have := hf4.size
   rw [hWs]; omega
  rcases Nat.lt_or_ge i w.heap.size with q | q
  ·rw [hG1 i (by simp; omega)] at hi; exact .inl hi
  exact .inr q
 | false =>
  go_wp2_with (first
   | (go_at_call 58; refine TB.mono ?_; clear TB; rintro e w1 ⟨p, rfl, hMo⟩; obtain ⟨G1, hG1, ⟨hlt1, nn1, F1, B1, hx1, hF1⟩, hf1⟩ := hMo; obtain ⟨_, _, _, k1, hk1, hTb⟩ := hx1.tab who p hF1; have LF : Calls Try.prog 16 #[.pointer (some ⟨p, 0, none⟩), .int .i64 k] w1 fun e w' => e = .returned (.tuple #[.agg #[.string f, .string t], .bool false, .int .i64 0]) ∧ Below w1.heap.size w1 w' := (by have := Cur.left_any hTb k hk; rw [hF] at this; exact this); clear hTb; have bD1 := hf1.blk bD0.out (by rw [hD0.out]; simp); have hA1 := aK_ (And.intro hG1 (And.intro hlt1 (And.intro hx1 (And.intro hf1 (And.intro bD1 hF1))))); clear hG1 hlt1 hx1 hf1 bD1 hF1)
   | (go_at_call 16; refine LF.mono ?_; clear LF; rintro e w2 ⟨rfl, hB2⟩))
  have hBa : Below w1.heap.size w1 (w2.alloc (.cells #[.string f, .string t] 29)) := below_alloc hB2 _
  have br := blk_new w2 (.cells #[.string f, .string t] 29)
  generalize w2.alloc (.cells #[.string f, .string t] 29) = w3 at hBa br ⊢
  have hx3 := hA1.out.2.2.1.frm (.of_below hBa)
  have hm3 : w3.drew.heap[m]? = some (objM c n em cb sends) := hx3.hm
  have br3 : w3.drew.heap[w2.heap.size]? = some (.cells #[.string f, .string t] 29 (0, 0)) := br
  have hH3 : OrdSm.Hold (fun k => G1 k = 3) w3.drew em L := hx3.hH.below (below_drew1 (Below.refl _ _))
  have hBd : Below w1.heap.size w1 w3.drew := below_drew1 hBa
  have SM := some_any hm3 hH3 hl f t c.f8
  have hle' : (someM f t L c.f8).map toE = l := hle.symm
  rw [hle'] at SM
  have hls : ∀ x ∈ l, x.f0.size ≤ 140737488351232 := by
   rw [← hle']
   intro x hx
   obtain ⟨y, hy, rfl⟩ := List.mem_map.1 hx
   unfold someM at hy
   exact hsz y (List.mem_filter.1 (List.mem_of_mem_take hy)).1
  have hll : l.length ≤ 1000000 := by
   rw [← hle', List.length_map]
   unfold someM
   exact Nat.le_trans (List.length_take_le' _ _) (Nat.le_trans (List.length_filter_le _ _) hl)
  have SM2 := SM.mono (R' := fun e w' => ∃ A cp, e = .returned (.slice A l.length cp) ∧ (w'.cell? ⟨m, 8, none⟩ = some (.int .i64 c.f8) ∧ w'.cell? ⟨w2.heap.size, 0, none⟩ = some (.string f) ∧ w'.cell? ⟨w2.heap.size, 1, none⟩ = some (.string t)) ∧ Aside0 (P.k103.R 103 w' w3.drew.heap.size (fun _ => True) (.slice A l.length cp) l ∧ Below w3.drew.heap.size w3.drew w')) (by
   rintro e w' ⟨v, rfl, hR, hb⟩
   obtain ⟨A, cp, rfl⟩ := Kd.R_slice hR
   refine ⟨A, cp, rfl, ⟨?_, ?_, ?_⟩, ⟨hR, hb⟩⟩
   ·have := blk_cell (blk_below hm3 hb) 8; simpa using this
   ·have := blk_cell (blk_below br3 hb) 0; simpa using this
   have := blk_cell (blk_below br3 hb) 1; simpa using this)
  have u0 := blk_cell hm3 8
  have u1 := blk_cell br3 0
  have u2 := blk_cell br3 1
  simp at u0 u1 u2
  have hA3 := aK_ hBd
  clear hx3 hm3 br3 hH3 SM hBa hB2 br hBd hle' hle
  go_region_held3 (fun w' => w'.cell? ⟨m, 8, none⟩ = some (.int .i64 c.f8) ∧ w'.cell? ⟨w2.heap.size, 0, none⟩ = some (.string f) ∧ w'.cell? ⟨w2.heap.size, 1, none⟩ = some (.string t)) (first | exact ⟨by assumption, by assumption, by assumption⟩ | exact ⟨u0, u1, u2⟩)
   (first
    | (go_at_call 53; refine SM2.mono ?_; clear SM2; rintro e w5 ⟨A, cp, rfl, ⟨y0, y1, y2⟩, hR5⟩))
  have hB5 : Below w1.heap.size w1 w5 := below_then hA3.out hA3.out.size hR5.out.2
  have TK := next_took hA1.out.2.2.1 hA1.out.2.2.2.2.2 hB5 (by omega) k hk (Kd.R_reads' hR5.out.1).2.2 (Kd.R_reads' hR5.out.1).2.1 c.f8 hls hll
  have hA5 := aK_ hB5
  clear hB5 u0 u1 u2 y1 y2
  go_wp2_with (first
   | (go_at_call 17; refine TK.mono ?_; clear TK; rintro e w4 ⟨rfl, hx4, hf4⟩; have bD4 := hf4.blk (blk_below hA1.out.2.2.2.2.1 hA5.out) (by rw [hA1.out.1 _ (by simp), hD0.out]; simp); have y0 := blk_cell bD4 0; have y1 := blk_cell bD4 1; have y2 := blk_cell bD4 2; have y3 := blk_cell bD4 3; have y4 := blk_cell bD4 4; have y5 := blk_cell bD4 5; have z0 := blk_frozen bD4 0; have z1 := blk_frozen bD4 1; have z2 := blk_frozen bD4 2; have z3 := blk_frozen bD4 3; have z4 := blk_frozen bD4 4; have z5 := blk_frozen bD4 5; simp at y0 y1 y2 y3 y4 y5; have hA4 := aK_ (And.intro hx4 (And.intro hf4 bD4)); clear hx4 hf4 bD4))
  obtain ⟨hx4, hf4, bD4⟩ := hA4.out
  obtain ⟨hG1, hlt1, hx1, hf1, bD1, hF1⟩ := hA1.out
  have hBa := hA5.out
  have hG0 : G1 w.heap.size = 0 := (hG1 _ (by simp)).trans hD0.out
  have hs1 := hf1.size
  have hsa : (w.alloc rep0).heap.size = w.heap.size + 1 := by simp
  have hs3 := hA3.out.size
  have hs5 := hf4.size
  have hnew : ∀ j, w1.heap.size ≤ j → G1 j = 0 := fun j hj => by
   cases hg : G1 j with
   | zero => rfl
   | succ q => have := hlt1 j (by rw [hg]; omega); omega
  refine rep_end (D := w.heap.size) rfl rfl rfl bD4 (fun W hWs hWf => ?_)
  refine ⟨_, rfl, G1, fun j hj => hG1 j (by simp; omega), ⟨fun j hj => ?_, em, cb, nn1, F1, B1, hx4.frm (hWf _ _ (It.FrM.refl _ _) (.inl hG0))⟩, hWf _ _ ((((It.FrM.of_below hB0).trans hf1 (fun i hi => .inl hi)).trans (.of_below (M := fun _ => False) hBa) (fun i hi => hi.elim)).trans hf4 (fun i hi => ?_)) (.inr (Nat.le_refl _)), A, cp, rfl, ?_⟩
  ·have := hlt1 j hj
   have := hBa.size
   rw [hWs]; omega
  ·rcases Nat.lt_or_ge i w.heap.size with q | q
   ·rw [hG1 i (by simp; omega)] at hi; exact .inl hi
   exact .inr q
  have f5 : It.FrM (fun j => G1 j ≠ 0 ∨ j = w.heap.size) w5 W := hWf _ _ (hf4.mono (fun i hi => .inl (.inl hi))) (.inl (.inr rfl))
  refine Kd.V_mono (Kd.V_step (V_of_R hR5.out.1) (fun j hj hjl => f5.block j hjl (fun e => ?_))) (fun j hj => ⟨by have := hj.1; omega, by have := hj.2; rw [hWs]; omega, hnew j (by have := hj.1; omega)⟩)
  rcases e with e | e
  ·exact e (hnew j (by have := hj.1; omega))
  have := hj.1; omega
end Go.Proofs.Ytljnlnbopohghaa.Mdl
end
