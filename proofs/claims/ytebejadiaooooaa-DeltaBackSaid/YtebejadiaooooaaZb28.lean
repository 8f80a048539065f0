/- THE ROW of DeltaBack: for every input the call returns true, and each argument reads afterwards as it read before: no condition beyond the row's own. Out of the walk (its contract over the Lean function of the same text) and the plain law (module YtebejadiaooooaaPureDeltaBack). (Laid by rowgen.py.) -/
/- Texts of one claim (laid by shake.py). -/
import Derived.Test.YtebejadiaooooaaZb27
import Derived.Test.YtebejadiaooooaaZb7
import Derived.Test.YtebejadiaooooaaZb25
import Derived.Test.YtebejadiaooooaaZb26
import Derived.Test.YtebejadiaooooaaRows
import Derived.WalkKit
import Derived.ProofKit
import Derived.OpenShut
import Derived.ShutString
import Derived.ChangeOld
import Derived.Below
import Derived.SizedLaws
set_option linter.unusedVariables false
set_option linter.unusedSimpArgs false
section
namespace Go.Proofs.Ytebejadiaooooaa.P
open Go.RowKit Go.Proofs.YtebejadiaooooaaW.PrintWords Go.Proofs.YtebejadiaooooaaW.PrintLast Go.Proofs.YtebejadiaooooaaW.PrintMore Go.Proofs.Ytebejadiaooooaa.Own Go.Proofs.Ytebejadiaooooaa
theorem diffM_key {x : Sd} {m : Ms} (h : diffM x = some m) : m.f2 = x.f0 ∧ isPt m.f0 = true := by
 unfold diffM at h
 (repeat' split at h) <;> first | (cases h; done) | (obtain rfl := Option.some.inj h; exact ⟨rfl, rfl⟩)
theorem point_far {m : Ms} {s : ByteArray} (hp : isPt m.f0 = true) (h : m.f2 ≠ s) : touchesM m s = false := by
 have h4 := isPt_ne4 hp
 have : same m.f2 s = false := by
  cases q : same m.f2 s with
  | false => rfl
  | true => exact absurd (same_iff.1 q) h
 simp [touchesM, touches, hp, h4, this]
theorem point_on {m : Ms} {s : ByteArray} (hp : isPt m.f0 = true) (h : m.f2 = s) : touchesM m s = true := by
 have h4 := isPt_ne4 hp
 have : same m.f2 s = true := same_iff.2 h
 simp [touchesM, touches, hp, h4, this]
theorem diffM_on (x : Sd) (h1 : tidy (x.f1, x.f4)) (h2 : tidy (x.f2, x.f3)) : doAll x.f0 ((diffM x).toList) (x.f1, x.f4) = (x.f2, x.f3) := by
 obtain ⟨s, a, b, has, had⟩ := x
 unfold diffM
 cases has with
 | false =>
  have := h2 rfl
  simp only at this
  rw [if_neg (by simp)]
  show onM _ _ _ = _
  rw [onM_touch (point_on rfl rfl)]
  simp [applyV, this]
 | true =>
  cases had with
  | false =>
   rw [if_pos rfl, if_neg (by simp)]
   show onM _ _ _ = _
   rw [onM_touch (point_on rfl rfl)]
   simp [applyV]
  | true =>
   rw [if_pos rfl, if_pos rfl]
   split
   ·rename_i hs
    have := same_iff.1 hs
    simp only at this
    rw [this]; rfl
   ·show onM _ _ _ = _
    rw [onM_touch (point_on rfl rfl)]
    simp [applyV]
theorem diff_far {s : ByteArray} {L : List Sd} (h : ∀ x ∈ L, x.f0 ≠ s) {p : ByteArray × Bool} (hp : tidy p) : doAll s (L.filterMap diffM) p = p := by
 refine doAll_far hp (fun m hm => ?_)
 obtain ⟨x, hx, e⟩ := List.mem_filterMap.1 hm
 obtain ⟨h1, h2⟩ := diffM_key e
 exact point_far h2 (by rw [h1]; exact h x hx)
theorem key_split {L : List Sd} (hr : L.Pairwise (fun x y => lt x.f0 y.f0 = true)) {x : Sd} (hx : x ∈ L) : ∃ L1 L2, L = L1 ++ x :: L2 ∧ (∀ y ∈ L1, y.f0 ≠ x.f0) ∧ (∀ y ∈ L2, y.f0 ≠ x.f0) := by
 obtain ⟨L1, L2, rfl⟩ := List.append_of_mem hx
 obtain ⟨_, h2, h3⟩ := List.pairwise_append.1 hr
 obtain ⟨h4, _⟩ := List.pairwise_cons.1 h2
 exact ⟨L1, L2, rfl, fun y hy => lt_ne (h3 y hy x (by simp)), fun y hy => (lt_ne (h4 y hy)).symm⟩
theorem diff_val {a b : List En} {L : List Sd} (h : Sides a b L) (s : ByteArray) : doAll s (L.filterMap diffM) (findV a s) = findV b s := by
 by_cases hs : ∃ x ∈ L, x.f0 = s
 ·obtain ⟨x, hx, rfl⟩ := hs
  obtain ⟨v1, v2⟩ := h.val x hx
  obtain ⟨L1, L2, e, f1, f2⟩ := key_split h.rise hx
  have t1 := tidy_find a x.f0
  have t2 := tidy_find b x.f0
  rw [e, List.filterMap_append, doAll_append, diff_far f1 t1]
  have e2 : (x :: L2).filterMap diffM = (diffM x).toList ++ L2.filterMap diffM := by
   rw [List.filterMap_cons]
   cases diffM x <;> rfl
  rw [e2, doAll_append]
  rw [v1] at t1 ⊢
  rw [v2] at t2 ⊢
  rw [diffM_on x t1 t2, diff_far f2 t2]
 ·have hn : ∀ x ∈ L, x.f0 ≠ s := fun x hx e => hs ⟨x, hx, e⟩
  rw [diff_far hn (tidy_find a s)]
  have ha : (findV a s).2 = false := by
   cases q : (findV a s).2 with
   | false => rfl
   | true => exact absurd (h.all s (.inl q)) hs
  have hb : (findV b s).2 = false := by
   cases q : (findV b s).2 with
   | false => rfl
   | true => exact absurd (h.all s (.inr q)) hs
  have e1 := tidy_find a s ha
  have e2 := tidy_find b s hb
  exact Prod.ext (by rw [e1, e2]) (by rw [ha, hb])
theorem entries_of_val {l : List Ms} {a b : List En} (hb : RiseE b) (h : ∀ s, doAll s l (findV a s) = findV b s) : entriesV l a e0 e0 = b := by
 refine riseE_ext (rise_entries _ _ _ _) hb (fun x => ?_)
 rw [mem_entries, mem_find b hb x]
 unfold valO
 rw [h x.f0]
 simp [rr_all, holds_all]
open Go.Proofs.Ytebejadiaooooaa.Dl (endV stepR runsF runsV)
def runsG : List ByteArray → List Sd → List Ms
 | row, [] => endV [] row
 | row, x :: l => if x.f3 = true then endV [] row ++ ((diffM x).toList ++ runsG [] l) else runsG (row ++ [x.f0]) l
theorem endV_out (o : List Ms) (r : List ByteArray) : endV o r = o ++ endV [] r := by
 unfold endV
 split <;> simp
theorem told_same (x : Sd) (h : x.f3 = true) : (diffM x).toList = if (!x.f4 || !same x.f1 x.f2) = true then [⟨1, 0, x.f0, e0, x.f2, 0⟩] else [] := by
 unfold diffM
 rw [if_pos h]
 cases x.f4 <;> cases same x.f1 x.f2 <;> simp
theorem runsF_G : ∀ (l : List Sd) (o : List Ms) (r : List ByteArray), endV (l.foldl stepR (o, r)).1 (l.foldl stepR (o, r)).2 = o ++ runsG r l
 | [], o, r => by simp only [List.foldl_nil, runsG]; exact endV_out o r
 | x :: l, o, r => by
  rw [List.foldl_cons, runsG]
  by_cases h3 : x.f3 = true
  ·have e1 : stepR (o, r) x = (endV o r ++ (diffM x).toList, []) := by
    unfold stepR
    rw [if_pos h3, told_same x h3]
    split <;> simp
   rw [if_pos h3, e1, runsF_G l _ [], endV_out o r]
   simp
  ·have e2 : stepR (o, r) x = (o, r ++ [x.f0]) := by
    unfold stepR
    rw [if_neg h3]
   rw [if_neg h3, e2]
   exact runsF_G l o (r ++ [x.f0])
theorem runs_G (l : List Sd) : runsV l = runsG [] l := by
 have := runsF_G l [] []
 simpa [runsV, runsF] using this
abbrev RiseB (r : List ByteArray) : Prop := r.Pairwise (fun a b => lt a b = true)
theorem emp_succ (a : ByteArray) : emp (succB a) = false := lt_emp (lt_succB_self a)
theorem end_touch {r : List ByteArray} (hr : RiseB r) (s : ByteArray) : (∀ m ∈ endV [] r, m.f0 = 2 ∨ m.f0 = 4) ∧ ((∀ k ∈ r, lt s k = true) → ∀ m ∈ endV [] r, touchesM m s = false) ∧ ((∀ k ∈ r, lt k s = true) → ∀ m ∈ endV [] r, touchesM m s = false) ∧ (s ∈ r → ∃ m, endV [] r = [m] ∧ touchesM m s = true) := by
 match r, hr with
 | [], _ => exact ⟨fun m hm => by simp [endV] at hm, fun _ m hm => by simp [endV] at hm, fun _ m hm => by simp [endV] at hm, fun h => by simp at h⟩
 | [k], _ =>
  have e : endV [] [k] = [⟨2, 0, k, e0, e0, 0⟩] := rfl
  rw [e]
  refine ⟨fun m hm => ?_, fun h m hm => ?_, fun h m hm => ?_, fun h => ⟨_, rfl, point_on rfl ?_⟩⟩
  ·simp at hm; subst hm; exact .inl rfl
  ·simp at hm; subst hm; exact point_far rfl (fun q => lt_ne (h k (by simp)) q.symm)
  ·simp at hm; subst hm; exact point_far rfl (lt_ne (h k (by simp)))
  ·simp at h; exact h.symm
 | k :: t :: l, hr =>
  have e : endV [] (k :: t :: l) = [⟨4, 0, k, succB ((k :: t :: l).getLast (by simp)), e0, 0⟩] := rfl
  have hlast : ∀ x ∈ k :: t :: l, lt ((k :: t :: l).getLast (by simp)) x = false := fun x hx => by
   obtain ⟨i, hi, rfl⟩ := List.mem_iff_getElem.1 hx
   rw [List.getLast_eq_getElem]
   rcases Nat.lt_or_ge i ((k :: t :: l).length - 1) with q | q
   ·exact lt_asymm (List.pairwise_iff_getElem.1 hr i _ hi (by simp) q)
   ·have : i = (k :: t :: l).length - 1 := by omega
    subst this
    exact lt_irrefl _
  have hfirst : ∀ x ∈ k :: t :: l, lt x k = false := fun x hx => by
   rcases List.mem_cons.1 hx with rfl | hx
   ·exact lt_irrefl _
   ·exact lt_asymm ((List.pairwise_cons.1 hr).1 x hx)
  have tch : touchesM ⟨4, 0, k, succB ((k :: t :: l).getLast (by simp)), e0, 0⟩ s = (!lt s k && lt s (succB ((k :: t :: l).getLast (by simp)))) := by
   simp [touchesM, touches, isPt, holds, emp_succ]
  rw [e]
  refine ⟨fun m hm => ?_, fun h m hm => ?_, fun h m hm => ?_, fun h => ⟨_, rfl, ?_⟩⟩
  ·simp at hm; subst hm; exact .inr rfl
  ·simp only [List.mem_singleton] at hm; subst hm
   rw [tch, h k (by simp)]; rfl
  ·simp only [List.mem_singleton] at hm; subst hm
   have hl := h _ (List.getLast_mem (l := k :: t :: l) (by simp))
   have : lt s (succB ((k :: t :: l).getLast (by simp))) = false := by
    cases q : lt s (succB ((k :: t :: l).getLast (by simp))) with
    | false => rfl
    | true =>
     have := (lt_succB _ _).1 q
     rw [hl] at this; cases this
   rw [tch, this, Bool.and_false]
  ·rw [tch, hfirst s h, (lt_succB _ _).2 (hlast s h)]; rfl
theorem end_none {r : List ByteArray} (hr : RiseB r) (s : ByteArray) : doAll s (endV [] r) (e0, false) = (e0, false) := by
 obtain ⟨h1, _⟩ := end_touch hr s
 have key : ∀ l : List Ms, (∀ m ∈ l, m.f0 = 2 ∨ m.f0 = 4) → doAll s l (e0, false) = (e0, false) := fun l => by
  induction l with
  | nil => intro _; rfl
  | cons m l ih =>
   intro h
   have e : onM m s (e0, false) = (e0, false) := by
    cases ht : touchesM m s with
    | false => exact onM_far ht (by simp [tidy])
    | true =>
     rw [onM_touch ht]
     rcases h m (by simp) with q | q <;> simp [applyV, q]
   show doAll s l (onM m s (e0, false)) = _
   rw [e]
   exact ih (fun x hx => h x (List.mem_cons_of_mem _ hx))
 exact key _ h1
theorem end_gone {r : List ByteArray} (hr : RiseB r) {s : ByteArray} (hs : s ∈ r) (p : ByteArray × Bool) : doAll s (endV [] r) p = (e0, false) := by
 obtain ⟨h1, _, _, h4⟩ := end_touch hr s
 obtain ⟨m, e, ht⟩ := h4 hs
 have h2 := h1 m (by rw [e]; simp)
 rw [e]
 show onM m s p = _
 rw [onM_touch ht]
 rcases h2 with q | q <;> simp [applyV, q]
theorem told_far {x : Sd} {s : ByteArray} (h : x.f0 ≠ s) {p : ByteArray × Bool} (hp : tidy p) : doAll s ((diffM x).toList) p = p := by
 refine doAll_far hp (fun m hm => ?_)
 have e : diffM x = some m := by
  cases q : diffM x with
  | none => rw [q] at hm; simp at hm
  | some y => rw [q] at hm; simp at hm; rw [hm]
 obtain ⟨h1, h2⟩ := diffM_key e
 exact point_far h2 (by rw [h1]; exact h)
theorem runs_val : ∀ (L : List Sd) (r : List ByteArray) (s : ByteArray), RiseB (r ++ L.map (·.f0)) → (∀ x ∈ L, tidy (x.f1, x.f4)) → (∀ x ∈ L, tidy (x.f2, x.f3)) →
  ((∀ k ∈ r ++ L.map (·.f0), lt s k = true) → ∀ p, tidy p → doAll s (runsG r L) p = p) ∧
  (s ∈ r → ∀ p, tidy p → doAll s (runsG r L) p = (e0, false)) ∧
  (∀ x ∈ L, x.f0 = s → doAll s (runsG r L) (x.f1, x.f4) = (x.f2, x.f3)) ∧
  ((∀ x ∈ L, x.f0 ≠ s) → doAll s (runsG r L) (e0, false) = (e0, false))
 | [], r, s, hr, _, _ => by
  rw [List.map_nil, List.append_nil] at hr
  obtain ⟨_, h2, _, _⟩ := end_touch hr s
  simp only [runsG, List.map_nil, List.append_nil]
  exact ⟨fun h p hp => doAll_far hp (h2 h), fun h p _ => end_gone hr h p, fun x hx => by simp at hx, fun _ => end_none hr s⟩
 | x :: L, r, s, hr, t1, t2 => by
  have tn : tidy (e0, false) := by simp [tidy]
  have T1 : ∀ y ∈ L, tidy (y.f1, y.f4) := fun y hy => t1 y (List.mem_cons_of_mem _ hy)
  have T2 : ∀ y ∈ L, tidy (y.f2, y.f3) := fun y hy => t2 y (List.mem_cons_of_mem _ hy)
  rw [runsG]
  by_cases h3 : x.f3 = true
  ·rw [if_pos h3]
   obtain ⟨hr1, hr2, hr3⟩ := List.pairwise_append.1 hr
   rw [List.map_cons] at hr2 hr3
   obtain ⟨hx, hr4⟩ := List.pairwise_cons.1 hr2
   have rx : ∀ k ∈ r, lt k x.f0 = true := fun k hk => hr3 k hk _ (by simp)
   have ih := runs_val L [] s (by rw [List.nil_append]; exact hr4) T1 T2
   obtain ⟨_, q1, q2, _⟩ := end_touch hr1 s
   obtain ⟨iA, _, iC, iD⟩ := ih
   rw [List.nil_append] at iA
   have out : ∀ p, doAll s (endV [] r ++ ((diffM x).toList ++ runsG [] L)) p = doAll s (runsG [] L) (doAll s ((diffM x).toList) (doAll s (endV [] r) p)) := fun p => by rw [doAll_append, doAll_append]
   refine ⟨fun h p hp => ?_, fun h p hp => ?_, fun y hy e => ?_, fun h => ?_⟩
   ·have hs : x.f0 ≠ s := fun e => by have := h x.f0 (by simp); rw [e, lt_irrefl] at this; cases this
    rw [out, doAll_far hp (q1 (fun k hk => h k (by simp [hk]))), told_far hs hp]
    exact iA (fun k hk => h k (by rw [List.map_cons]; exact List.mem_append.2 (.inr (List.mem_cons_of_mem _ hk)))) p hp
   ·have hs : x.f0 ≠ s := fun e => by have := rx s h; rw [e, lt_irrefl] at this; cases this
    rw [out, end_gone hr1 h, told_far hs tn]
    exact iD (fun y hy e => by have := hr3 s h y.f0 (by simp; exact .inr ⟨y, hy, rfl⟩); rw [e, lt_irrefl] at this; cases this)
   ·rcases List.mem_cons.1 hy with rfl | hy
    ·subst e
     rw [out, doAll_far (t1 _ (by simp)) (q2 rx), diffM_on _ (t1 _ (by simp)) (t2 _ (by simp))]
     exact iA hx _ (t2 _ (by simp))
    ·have hxy : lt x.f0 y.f0 = true := hx y.f0 (List.mem_map.2 ⟨y, hy, rfl⟩)
     have ty := T1 y hy
     rw [out, doAll_far ty (q2 (fun k hk => by rw [← e]; exact lt_trans (rx k hk) hxy)), told_far (by rw [← e]; exact lt_ne hxy) ty]
     exact iC y hy e
   ·rw [out, end_none hr1 s, told_far (h x (by simp)) tn]
    exact iD (fun y hy => h y (List.mem_cons_of_mem _ hy))
  ·rw [if_neg h3]
   have hr' : RiseB ((r ++ [x.f0]) ++ L.map (·.f0)) := by simpa using hr
   obtain ⟨iA, iB, iC, iD⟩ := runs_val L (r ++ [x.f0]) s hr' T1 T2
   refine ⟨fun h p hp => iA (fun k hk => h k (by simpa using hk)) p hp, fun h p hp => iB (by simp [h]) p hp, fun y hy e => ?_, fun h => iD (fun y hy => h y (List.mem_cons_of_mem _ hy))⟩
   rcases List.mem_cons.1 hy with rfl | hy
   ·have f3 : y.f3 = false := by simpa using h3
    have f2 : y.f2 = e0 := t2 y (by simp) f3
    rw [iB (by simp [e]) _ (t1 y (by simp)), f2, f3]
   ·exact iC y hy e
theorem runs_of {a b : List En} {L : List Sd} (h : Sides a b L) (s : ByteArray) : doAll s (runsV L) (findV a s) = findV b s := by
 rw [runs_G]
 have t1 : ∀ x ∈ L, tidy (x.f1, x.f4) := fun x hx => by rw [← (h.val x hx).1]; exact tidy_find a _
 have t2 : ∀ x ∈ L, tidy (x.f2, x.f3) := fun x hx => by rw [← (h.val x hx).2]; exact tidy_find b _
 obtain ⟨_, _, hC, hD⟩ := runs_val L [] s (by rw [List.nil_append]; exact List.pairwise_map.2 h.rise) t1 t2
 by_cases hs : ∃ x ∈ L, x.f0 = s
 ·obtain ⟨x, hx, e⟩ := hs
  have v := h.val x hx
  rw [e] at v
  rw [v.1, v.2]
  exact hC x hx e
 ·have hn : ∀ x ∈ L, x.f0 ≠ s := fun x hx e => hs ⟨x, hx, e⟩
  have ha : (findV a s).2 = false := by
   cases q : (findV a s).2 with
   | false => rfl
   | true => exact absurd (h.all s (.inl q)) hs
  have hb : (findV b s).2 = false := by
   cases q : (findV b s).2 with
   | false => rfl
   | true => exact absurd (h.all s (.inr q)) hs
  have e1 : findV a s = (e0, false) := Prod.ext (tidy_find a s ha) ha
  have e2 : findV b s = (e0, false) := Prod.ext (tidy_find b s hb) hb
  rw [e1, e2]
  exact hD hn
theorem end_length (r : List ByteArray) : (endV [] r).length ≤ r.length := by
 unfold endV
 split <;> simp
theorem runsG_length : ∀ (L : List Sd) (r : List ByteArray), (runsG r L).length ≤ r.length + (L.filterMap diffM).length
 | [], r => by simp only [runsG, List.filterMap_nil, List.length_nil]; exact end_length r
 | x :: L, r => by
  rw [runsG, List.filterMap_cons]
  by_cases h3 : x.f3 = true
  ·have h1 : (runsG [] L).length ≤ (L.filterMap diffM).length := by simpa using runsG_length L []
   have h2 := end_length r
   rw [if_pos h3, List.length_append, List.length_append]
   cases diffM x with
   | none => simp; omega
   | some m => simp; omega
  ·have h1 := runsG_length L (r ++ [x.f0])
   have e : diffM x = some ⟨2, 0, x.f0, e0, e0, 0⟩ := by unfold diffM; rw [if_neg h3]
   rw [if_neg h3, e]
   simp only [List.length_append, List.length_cons, List.length_nil] at h1 ⊢
   omega
theorem runs_length (L : List Sd) : (runsV L).length ≤ (L.filterMap diffM).length := by
 rw [runs_G]
 have := runsG_length L []
 simpa using this
end Go.Proofs.Ytebejadiaooooaa.P
end
section
namespace Go.Proofs.Ytebejadiaooooaa.P
open Go.RowKit Go.Proofs.YtebejadiaooooaaW.PrintWords Go.Proofs.YtebejadiaooooaaW.PrintLast Go.Proofs.YtebejadiaooooaaW.PrintMore Go.Proofs.Ytebejadiaooooaa.Own Go.Proofs.Ytebejadiaooooaa
open Go.Proofs.Ytebejadiaooooaa.Dl (endV stepR runsF runsV okR okR_iff runsC)
def rightV (a : List En) : Bool := decide (a.length ≤ 40) && risesV a
theorem right_eq (k : Nat) (a : List En) (hk : 41 < k) : catchmentlaw37_right.f k a = some (rightV a) := by
 unfold catchmentlaw37_right.f rightV
 by_cases h : a.length ≤ 40
 ·rw [if_pos (by omega), Rises_eq _ _ (by omega) (by omega), Option.bind_some, decide_eq_true h, Bool.true_and]
 ·rw [if_neg (by omega), decide_eq_false h, Bool.false_and]
def keyOk (e : List En) : Prop := ∀ x ∈ e, x.f0.size ≤ 140737488351232
theorem side_size {a b : List En} {L : List Sd} (h : Sides a b L) (ha : keyOk a) (hb : keyOk b) : ∀ x ∈ L, x.f0.size ≤ 140737488351232 := by
 intro x hx
 obtain ⟨v1, v2⟩ := h.val x hx
 rcases h.some x hx with h3 | h4
 ·obtain ⟨y, hy, e⟩ := find_mem b x.f0 (by rw [v2]; exact h3)
  rw [← e]; exact hb y hy
 ·obtain ⟨y, hy, e⟩ := find_mem a x.f0 (by rw [v1]; exact h4)
  rw [← e]; exact ha y hy
theorem Runs_eq (k : Nat) (a b : List En) (ha : a.length ≤ 40) (hb : b.length ≤ 40) (hk : 300 ≤ k) (hs : ∀ x ∈ besideV a b, x.f0.size ≤ 140737488351232) : delta_Runs.f k a b = some (runsV (besideV a b)) := by
 have hl := beside_length _ a b (Nat.le_refl _)
 unfold delta_Runs.f runsC
 rw [Beside_eq k a b (by omega) (by omega) (by omega), Option.bind_some, if_pos (okR_iff.2 ⟨by omega, hs⟩)]
theorem diff_ok {L : List Sd} (hs : ∀ x ∈ L, x.f0.size ≤ 140737488351232) : ∀ m ∈ L.filterMap diffM, okD m ∧ m.f2.size ≤ 140737488351232 := by
 intro m hm
 obtain ⟨x, hx, e⟩ := List.mem_filterMap.1 hm
 refine ⟨?_, by rw [(diffM_key e).1]; exact hs x hx⟩
 unfold diffM at e
 have z : (0 : Int) ≤ 0 ∧ (0 : Int) < 18446744073709551616 := ⟨Int.le_refl _, by decide⟩
 (repeat' split at e) <;> first | (cases e; done) | (obtain rfl := Option.some.inj e; exact z)
theorem end_ok {r : List ByteArray} (hr : ∀ k ∈ r, k.size ≤ 140737488351232) : ∀ m ∈ endV [] r, okD m ∧ m.f2.size ≤ 140737488351232 := by
 intro m hm
 have z : (0 : Int) ≤ 0 ∧ (0 : Int) < 18446744073709551616 := ⟨Int.le_refl _, by decide⟩
 match r, hr, hm with
 | [], _, hm => simp [endV] at hm
 | [k], hr, hm =>
  have : m = ⟨2, 0, k, e0, e0, 0⟩ := by simpa [endV] using hm
  subst this
  exact ⟨z, hr k (by simp)⟩
 | k :: t :: l, hr, hm =>
  have : m = ⟨4, 0, k, succB ((k :: t :: l).getLast (by simp)), e0, 0⟩ := by simpa [endV] using hm
  subst this
  exact ⟨z, hr k (by simp)⟩
theorem runs_ok : ∀ (L : List Sd) (r : List ByteArray), (∀ x ∈ L, x.f0.size ≤ 140737488351232) → (∀ k ∈ r, k.size ≤ 140737488351232) → ∀ m ∈ runsG r L, okD m ∧ m.f2.size ≤ 140737488351232
 | [], r, _, hr, m, hm => by rw [runsG] at hm; exact end_ok hr m hm
 | x :: L, r, hL, hr, m, hm => by
  rw [runsG] at hm
  split at hm
  ·rw [List.mem_append, List.mem_append] at hm
   rcases hm with hm | hm | hm
   ·exact end_ok hr m hm
   ·exact diff_ok (L := [x]) (fun y hy => by simp at hy; rw [hy]; exact hL x (by simp)) m (by
     rw [List.filterMap_cons]
     cases q : diffM x with
     | none => rw [q] at hm; simp at hm
     | some y => rw [q] at hm; simpa using hm)
   ·exact runs_ok L [] (fun y hy => hL y (List.mem_cons_of_mem _ hy)) (fun k hk => by simp at hk) m hm
  ·exact runs_ok L _ (fun y hy => hL y (List.mem_cons_of_mem _ hy)) (fun k hk => by
    rcases List.mem_append.1 hk with hk | hk
    ·exact hr k hk
    ·simp at hk; rw [hk]; exact hL x (by simp)) m hm
theorem Patch_eq {a : List En} {l : List Ms} (ha : a.length ≤ 1000) (hl : l.length ≤ 1000) (h : ∀ m ∈ l, okD m ∧ m.f2.size ≤ 140737488351232) : delta_Patch.f a l = some (entriesV l a e0 e0) := by
 unfold delta_Patch.f
 rw [show fold_Entries.f l a ⟨#[]⟩ ⟨#[]⟩ = some (entriesV l a e0 e0) from entriesF_eq ⟨by omega, by omega, fun m hm => (h m hm).1, fun m hm => (h m hm).2⟩ e0 e0, Option.bind_some]
end Go.Proofs.Ytebejadiaooooaa.P
end
section
namespace Go.Proofs.Ytebejadiaooooaa.Pure
open Go.RowKit Go.Proofs.Ytebejadiaooooaa.P Go.Proofs.YtebejadiaooooaaW.PrintWords Go.Proofs.YtebejadiaooooaaW.PrintLast Go.Proofs.YtebejadiaooooaaW.PrintMore Go.Proofs.Ytebejadiaooooaa.Own Go.Proofs.Ytebejadiaooooaa
open Go.Proofs.Ytebejadiaooooaa.Dl (runsV)
theorem live37_a : catchmentlaw37_live.f 498 = some true := by kernel_rfl
theorem live37_b : catchmentlaw37_live.f 499 = some true := by kernel_rfl
theorem less_not {a b : List En} {L : List Sd} (h : Sides a b L) (k : Nat) (hk : k < (L.filterMap diffM).length) : entriesV ((L.filterMap diffM).take k ++ (L.filterMap diffM).drop (k + 1)) a e0 e0 ≠ b := by
 intro he
 have hx : (L.filterMap diffM)[k]? = some (L.filterMap diffM)[k] := List.getElem?_eq_getElem hk
 generalize hm : (L.filterMap diffM)[k] = m at hx
 have hmm := List.mem_of_getElem? hx
 obtain ⟨x, hxL, e⟩ := List.mem_filterMap.1 hmm
 obtain ⟨k1, k2⟩ := diffM_key e
 have rises : ∀ M : List Sd, M.Pairwise (fun x y => lt x.f0 y.f0 = true) → (M.filterMap diffM).Pairwise (fun x y => lt x.f2 y.f2 = true) := fun M hM => by
  refine List.Pairwise.filterMap diffM (fun x y hxy u hu v hv => ?_) hM
  rw [(diffM_key hu).1, (diffM_key hv).1]
  exact hxy
 have hr := rises L h.rise
 have far : ∀ z ∈ (L.filterMap diffM).take k ++ (L.filterMap diffM).drop (k + 1), touchesM z m.f2 = false := fun z hz => by
  have hzm : isPt z.f0 = true := by
   have : z ∈ L.filterMap diffM := by
    rcases List.mem_append.1 hz with h | h
    ·exact List.mem_of_mem_take h
    ·exact List.mem_of_mem_drop h
   obtain ⟨y, _, e2⟩ := List.mem_filterMap.1 this
   exact (diffM_key e2).2
  refine point_far hzm ?_
  rcases List.mem_append.1 hz with h | h
  ·obtain ⟨i, hi⟩ := List.getElem?_of_mem h
   rw [List.getElem?_take] at hi
   split at hi
   ·rename_i hik
    obtain ⟨hil, hiv⟩ := List.getElem?_eq_some_iff.1 hi
    have := List.pairwise_iff_getElem.1 hr i k hil hk hik
    rw [hiv, hm] at this
    exact lt_ne this
   ·cases hi
  ·obtain ⟨i, hi⟩ := List.getElem?_of_mem h
   rw [List.getElem?_drop] at hi
   obtain ⟨hil, hiv⟩ := List.getElem?_eq_some_iff.1 hi
   have := List.pairwise_iff_getElem.1 hr k (k + 1 + i) hk hil (by omega)
   rw [hiv, hm] at this
   exact (lt_ne this).symm
 have hv : findV b m.f2 = findV a m.f2 := by
  rw [← he, find_entries _ _ _ _ _ rr_all (holds_all _)]
  unfold valO
  rw [doAll_far (tidy_find a m.f2) far, ofO_toO (tidy_find a m.f2)]
 obtain ⟨v1, v2⟩ := h.val x hxL
 rw [k1, v1, v2] at hv
 have h1 := congrArg Prod.fst hv
 have h2 := congrArg Prod.snd hv
 simp only at h1 h2
 have hsome := h.some x hxL
 unfold diffM at e
 by_cases h3 : x.f3 = true
 ·rw [if_pos h3] at e
  have h4 : x.f4 = true := by rw [← h2]; exact h3
  rw [if_pos h4, if_pos (same_iff.2 h1.symm)] at e
  cases e
 ·rw [h2] at h3
  rcases hsome with q | q
  ·rw [h2] at q; exact h3 q
  ·exact h3 q
theorem back_j1 (k : Nat) (a b : List S39) (D : List S32) (at_ : Int) (i : Nat) (E : List S39) (hi : Int.tmod (wrap64 at_) (D.length : Int) = (i : Int)) (hil : i < D.length) (hD : D.length ≤ 80) (live : catchmentlaw37_live.f k = some true) (hp : delta_Patch.f a (D.take i ++ D.drop (i + 1)) = some E) (hs : catchmentref05_Same.f k E b = some false) : catchmentlaw37_DeltaBack.j1 (k + 1) a b at_ D false = some true := by
 have h0 : ¬ ((D.length : Int) = 0) := by omega
 have h1 : (0 : Int) ≤ (i : Int) := by omega
 have h2 : (i : Int) ≤ (D.length : Int) := by omega
 have h3 : (0 : Int) ≤ ((i + 1 : Nat) : Int) := by omega
 have h4 : ((i + 1 : Nat) : Int) ≤ (D.length : Int) := by omega
 have h5 : ([] : List S32).length + (D.take i).length < 1954687338268 := by rw [List.length_nil, List.length_take]; omega
 have h6 : (D.take i).length + (D.drop (i + 1)).length < 1954687338268 := by rw [List.length_take, List.length_drop]; omega
 have hw1 : wrap64 ((i : Int) + 1) = ((i + 1 : Nat) : Int) := wrap1 (by omega)
 rw [catchmentlaw37_DeltaBack.j1, if_neg (by simp), if_neg h0, Option.bind_some, hi, hw1, if_pos h1, if_pos h2, Option.bind_some, Int.toNat_natCast, if_pos h5, Option.bind_some, List.nil_append, if_pos h3, if_pos h4, Option.bind_some, Int.toNat_natCast, if_pos h6, live, Option.bind_some, if_pos rfl, hp, Option.bind_some, hs, Option.bind_some]
 rfl
theorem back_main (a b : List S39) (at_ : Int) (w0 : ∀ a_ ∈ a, wf39 a_) (w1 : ∀ a_ ∈ b, wf39 a_) (w2 : (Lit.int .u8 at_).wf = true) (hra : rightV a = true) (hrb : rightV b = true) (k : Nat) (hk : 400 ≤ k) (live : catchmentlaw37_live.f k = some true) : catchmentlaw37_DeltaBack.j0 (k + 1 + 1) a b at_ false = some true := by
 unfold rightV at hra hrb
 simp only [Bool.and_eq_true, decide_eq_true_eq] at hra hrb
 obtain ⟨la, ra⟩ := hra
 obtain ⟨lb, rb⟩ := hrb
 have ra := riseE_iff.1 ra
 have rb := riseE_iff.1 rb
 have eD : ∀ k', 300 ≤ k' → delta_Diff.f k' a b = some (diffV a b) := fun k' h => Diff_eq k' a b (by omega) (by omega) (by omega)
 have hS := sides ra rb
 have hK := side_size hS (fun x hx => (w0 x hx).1) (fun x hx => (w1 x hx).1)
 have eR : ∀ k', 300 ≤ k' → delta_Runs.f k' a b = some (runsV (besideV a b)) := fun k' h => Runs_eq k' a b la lb h hK
 have hBl : (besideV a b).length ≤ 80 := Nat.le_trans (beside_length _ a b (Nat.le_refl _)) (Nat.add_le_add la lb)
 unfold diffV at eD
 generalize besideV a b = L at hS hK eD eR hBl
 have hdl : (L.filterMap diffM).length ≤ 80 := Nat.le_trans (List.length_filterMap_le _ _) hBl
 have hrl : (runsV L).length ≤ (L.filterMap diffM).length := runs_length L
 have okd : ∀ m ∈ L.filterMap diffM, okD m ∧ m.f2.size ≤ 140737488351232 := diff_ok hK
 have okr : ∀ m ∈ runsV L, okD m ∧ m.f2.size ≤ 140737488351232 := by
  rw [runs_G]
  exact runs_ok L [] hK (fun k hk => by simp at hk)
 have pd : entriesV (L.filterMap diffM) a e0 e0 = b := entries_of_val rb (diff_val hS)
 have pr : entriesV (runsV L) a e0 e0 = b := entries_of_val rb (runs_of hS)
 rw [catchmentlaw37_DeltaBack.j0, if_neg (by simp), eD _ (by omega), Option.bind_some, eR _ (by omega), Option.bind_some, Patch_eq (by omega) (by omega) okd, Option.bind_some, pd, same_self _ _ (by omega) (by omega), Option.bind_some, if_pos rfl, Patch_eq (by omega) (by omega) okr, Option.bind_some, pr, same_self _ _ (by omega) (by omega), Option.bind_some, if_pos rfl, decide_eq_false (by omega)]
 by_cases h0 : ((L.filterMap diffM).length : Int) = 0
 ·have e0' : L.filterMap diffM = [] := List.eq_nil_of_length_eq_zero (by omega)
  have hab : a = b := by
   rw [e0'] at pd
   rw [← pd]
   symm
   exact entries_of_val ra (fun s => rfl)
  rw [catchmentlaw37_DeltaBack.j1, if_neg (by simp), if_pos h0, live, Option.bind_some, if_pos rfl, hab, same_self _ _ (by omega) (by omega), Option.bind_some]
 ·have h2 : 0 ≤ at_ ∧ at_ ≤ 255 := by
   simp [Lit.wf, IntKind.min, IntKind.max, IntKind.signed, IntKind.bits] at w2
   omega
  have hw : wrap64 at_ = at_ := IntWalk.wrap64_in _ (by omega)
  have htm : Int.tmod at_ ((L.filterMap diffM).length : Int) = at_ % ((L.filterMap diffM).length : Int) := Int.tmod_eq_emod_of_nonneg h2.1
  have hm1 := Int.emod_nonneg at_ h0
  have hm2 := Int.emod_lt_of_pos at_ (show (0 : Int) < ((L.filterMap diffM).length : Int) by omega)
  obtain ⟨i, hi⟩ : ∃ i : Nat, at_ % ((L.filterMap diffM).length : Int) = (i : Int) := ⟨(at_ % ((L.filterMap diffM).length : Int)).toNat, by omega⟩
  rw [hi] at hm1 hm2
  have hil : i < (L.filterMap diffM).length := by omega
  have hless : ((L.filterMap diffM).take i ++ (L.filterMap diffM).drop (i + 1)).length ≤ 200 := by simp; omega
  have okl : ∀ m ∈ (L.filterMap diffM).take i ++ (L.filterMap diffM).drop (i + 1), okD m ∧ m.f2.size ≤ 140737488351232 := fun m hm => by
   rcases List.mem_append.1 hm with h | h
   ·exact okd m (List.mem_of_mem_take h)
   ·exact okd m (List.mem_of_mem_drop h)
  have hnl : entriesV ((L.filterMap diffM).take i ++ (L.filterMap diffM).drop (i + 1)) a e0 e0 ≠ b := less_not hS i hil
  have hlen := entriesV_length ((L.filterMap diffM).take i ++ (L.filterMap diffM).drop (i + 1)) a e0 e0
  have hsame : sameE (entriesV ((L.filterMap diffM).take i ++ (L.filterMap diffM).drop (i + 1)) a e0 e0) b = false := by
   cases q : sameE (entriesV ((L.filterMap diffM).take i ++ (L.filterMap diffM).drop (i + 1)) a e0 e0) b with
   | false => rfl
   | true => exact absurd (sameE_iff.1 q) hnl
  exact back_j1 k a b (L.filterMap diffM) at_ i _ (by rw [hw, htm, hi]) hil hdl live (Patch_eq (by omega) (by omega) okl) (by rw [Same_eq _ _ _ (by omega) (by omega), hsame])
theorem DeltaBack : ∀ (x0 : (List S39)) (x1 : (List S39)) (x2 : Int), (x0.length * 32 ≤ 140737488351232 ∧ ∀ a_ ∈ x0, wf39 a_) → (x1.length * 32 ≤ 140737488351232 ∧ ∀ a_ ∈ x1, wf39 a_) → ((Lit.int .u8 x2).wf = true) → ∃ k, catchmentlaw37_DeltaBack.f k x0 x1 x2 = some true := by
 intro a b at_ w0 w1 w2
 refine ⟨500, ?_⟩
 unfold catchmentlaw37_DeltaBack.f
 have no : catchmentlaw37_DeltaBack.j0 500 a b at_ true = some true := by
  show catchmentlaw37_DeltaBack.j0 (499 + 1) a b at_ true = some true
  rw [catchmentlaw37_DeltaBack.j0, if_pos rfl, live37_b, Option.bind_some]
 rw [right_eq _ _ (by omega), Option.bind_some]
 cases hra : rightV a with
 | false => rw [if_neg (by simp)]; exact no
 | true =>
  rw [if_pos rfl, right_eq _ _ (by omega), Option.bind_some]
  cases hrb : rightV b with
  | false => exact no
  | true =>
   exact back_main a b at_ w0.2 w1.2 w2 hra hrb 498 (by omega) live37_a
end Go.Proofs.Ytebejadiaooooaa.Pure
end
section
namespace Go.Proofs.Ytebejadiaooooaa.deltaBack
open Go.ChangeShapes Go.WideShapes Go.ChangeAt Go.RowKit Go.Proofs.Ytebejadiaooooaa.P Go.Proofs.Ytebejadiaooooaa.Rd Go.Proofs.YtebejadiaooooaaW.PrintWords
open Go.ChangeMaps (open_string shut_string)
theorem own : ownKnob Try.prog.godebug = none := by kernel_rfl
theorem laidOut : laidOutB Try.prog = true := by kernel_rfl
set_option maxHeartbeats 2000000 in
set_option maxRecDepth 100000 in
theorem lifted (os : Os) (started : os.Started) (H : Type) (enc : TypeId × Value → H) :
  ReturnsInHanded {} Try.checked os 9 .any (Rows.deltaBackSpec.pre6 enc Try.prog Try.f9 Rows.deltaBackRow.domain false) (Rows.deltaBackSpec.post enc Try.prog Try.f9 false true false false) := by
 refine returnsInHanded_of_change_sized (C := Try.checked) own started (by kernel_rfl) Try.func9
  (ChangeSpec.witness6 (enc := enc) (C := Try.checked) false ⟨#[], #[.slice none 0 0, .slice none 0 0, .int .u8 0], []⟩ 8 (by kernel_rfl) (by kernel_rfl) (by kernel_rfl) (by kernel_rfl)) ?_
 intro W base args ds gs before hval0 hW hcnd hsz0 _
 have hsz : (DataW.weightsEach Try.prog (Try.f9.params.toList ++ Rows.deltaBackSpec.plain.varTypes Try.prog) (ds ++ gs)).all (· ≤ reachBytes) = true := hsz0
 have hval : ∀ (j : Nat) t v, Try.f9.params[j]? = some t → args[j]? = some v → Value.okWide Try.prog W .any base t v := hval0
 have hW' := hW
 obtain ⟨p, q, hA0, hV, rfl, hfz, hnd⟩ := hW
 have hA : DataW.TrodAll enc Try.prog W 0 (fun _ => true) true Try.f9.params.toList args.toList ds p := hA0
 rw [Try.params9] at hA hval hsz
 obtain ⟨v0, vs0, d0, ds0, p0, q0, hargs, rfl, rfl, h0, r0⟩ := trodAll_cons hA
 obtain ⟨v1, vs1, d1, ds1, p1, q1, rfl, rfl, rfl, h1, r1⟩ := trodAll_cons r0
 obtain ⟨v2, vs2, d2, ds2, p2, q2, rfl, rfl, rfl, h2, r2⟩ := trodAll_cons r1
 obtain ⟨rfl, rfl, rfl⟩ := trodAll_nil r2
 obtain rfl : args = #[v0, v1, v2] := by cases args; simp_all
 obtain ⟨rfl, rfl⟩ := trodVars_none hV
 have k0 := h0
 have lt0 : ∀ x ∈ p0, x.block < W.heap.size := by obtain ⟨m, hm⟩ := k0; exact DataW.trod_lt m _ _ _ hm
 have ww0 : ∀ n ∈ d0.weights Try.prog 23, n ≤ reachBytes := fun n hn => by simpa using List.all_eq_true.1 hsz n (DataW.weights_mem_each (j := 0) rfl rfl n hn)
 obtain ⟨ad0, len0, cap0, rfl⟩ := okWide_slice Try.underlying23 (hval 0 23 v0 rfl rfl)
 obtain ⟨fu0, hf0⟩ := h0
 obtain ⟨x0, kx0, w0⟩ := o23.down hf0 ww0
 obtain ⟨A0, c0, e0, hc0, hr0⟩ := kx0
 obtain ⟨rfl, rfl, rfl⟩ : ad0 = A0 ∧ len0 = x0.length ∧ cap0 = c0 := by simpa [Value.cells] using e0
 have k1 := h1
 have lt1 : ∀ x ∈ p1, x.block < W.heap.size := by obtain ⟨m, hm⟩ := k1; exact DataW.trod_lt m _ _ _ hm
 have ww1 : ∀ n ∈ d1.weights Try.prog 23, n ≤ reachBytes := fun n hn => by simpa using List.all_eq_true.1 hsz n (DataW.weights_mem_each (j := 1) rfl rfl n hn)
 obtain ⟨ad1, len1, cap1, rfl⟩ := okWide_slice Try.underlying23 (hval 1 23 v1 rfl rfl)
 obtain ⟨fu1, hf1⟩ := h1
 obtain ⟨x1, kx1, w1⟩ := o23.down hf1 ww1
 obtain ⟨A1, c1, e1, hc1, hr1⟩ := kx1
 obtain ⟨rfl, rfl, rfl⟩ : ad1 = A1 ∧ len1 = x1.length ∧ cap1 = c1 := by simpa [Value.cells] using e1
 have k2 := h2
 have lt2 : ∀ x ∈ p2, x.block < W.heap.size := by obtain ⟨m, hm⟩ := k2; exact DataW.trod_lt m _ _ _ hm
 have ww2 : ∀ n ∈ d2.weights Try.prog 5, n ≤ reachBytes := fun n hn => by simpa using List.all_eq_true.1 hsz n (DataW.weights_mem_each (j := 2) rfl rfl n hn)
 obtain ⟨y2, rfl⟩ := okWide_int Try.underlying5 (hval 2 5 v2 rfl rfl)
 obtain ⟨fu2, hf2⟩ := h2
 obtain ⟨x2, kx2, w2⟩ := o5.down hf2 ww2
 obtain rfl : x2 = y2 := Eq.symm (by simpa [Value.cells, Kd.int, Kd.scalar] using kx2)
 clear hA0 hval0 hsz0 hsz
 obtain ⟨k_, hp⟩ := Pure.DeltaBack x0 x1 x2 w0 w1 w2
 refine (catchmentlaw37_DeltaBack.calls (k := k_) (r := true) (w := W) (hr0 := hr0) (hc0 := hc0) (hr1 := hr1) (hc1 := hc1) (h := hp)).mono fun e W' ⟨he, bel0⟩ => ?_
 have bel : Below W.heap.size W W' := bel0
 subst he
 exact ⟨_, rfl, _, _, _, [], _, [], hW', trodAll_mk1 (shut_bool Try.underlying4 _), (trodAll_cons_mk (Below.trod laidOut (by kernel_rfl) (of_decide_eq_true (by kernel_rfl)) k0 bel lt0) (trodAll_cons_mk (Below.trod laidOut (by kernel_rfl) (of_decide_eq_true (by kernel_rfl)) k1 bel lt1) (trodAll_cons_mk (Below.trod laidOut (by kernel_rfl) (of_decide_eq_true (by kernel_rfl)) k2 bel lt2) trodAll_mk0))), rfl, bel.frame _, fun h => by cases h⟩
theorem over : Rows.deltaBackRow.holds Try.pinned (OpenSpec.ofChange Rows.deltaBackSpec) :=
 OpenClaim.holds_of_wide 9 Try.f9 rfl rfl rfl rfl rfl rfl rfl ⟨rfl, rfl, rfl, rfl, rfl⟩ rfl rfl rfl rfl rfl (by kernel_rfl) Try.func9 (by kernel_rfl)
  (of_decide_eq_true (by kernel_rfl)) (by unfold Func.isWrapper; first | (rw [if_pos (by decide +kernel)]; kernel_rfl) | (rw [if_neg (by decide +kernel)]; exact ⟨rfl, rfl⟩))
  (fun os started H enc _ => lifted os started H enc)
end Go.Proofs.Ytebejadiaooooaa.deltaBack
namespace Go.Proofs.Ytebejadiaooooaa
theorem deltaBack_holds : Rows.DeltaBackSaid := deltaBack.over
#print axioms deltaBack_holds
end Go.Proofs.Ytebejadiaooooaa
end
