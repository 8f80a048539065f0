/- THE ROW of DeltaOne: for every input the call returns true, and each argument reads afterwards as it read before: no condition beyond the row's own. Out of the walk (its contract over the Lean function of the same text) and the plain law (module YtebejadiaooooaaPureDeltaOne). (Laid by rowgen.py.) -/
/- Texts of one claim (laid by shake.py). -/
import Derived.Test.YtebejadiaooooaaZo30
import Derived.Test.YtebejadiaooooaaZo27
import Derived.Test.YtebejadiaooooaaZo28
import Derived.Test.YtebejadiaooooaaZo9
import Derived.Test.YtebejadiaooooaaZo29
import Derived.Test.YtebejadiaooooaaRows
import Derived.WalkKit
import Derived.ProofKit
import Derived.OpenShut
import Derived.ShutString
import Derived.ChangeOld
import Derived.Below
import Derived.SizedLaws
set_option linter.unusedVariables false
set_option linter.unusedSimpArgs false
section
namespace Go.Proofs.Ytebejadiaooooaa.P
open Go.RowKit Go.Proofs.YtebejadiaooooaaW.PrintWords Go.Proofs.YtebejadiaooooaaW.PrintLast Go.Proofs.YtebejadiaooooaaW.PrintMore Go.Proofs.Ytebejadiaooooaa.Own Go.Proofs.Ytebejadiaooooaa
open Go.Proofs.Ytebejadiaooooaa.Th (lookF threeF neB upd upd_same upd_other emptyF threeC okT okT_iff)
theorem only_key (s : ByteArray) : ∀ (L : List Sd) (p : ByteArray × Bool), tidy p → doAll s (L.filterMap diffM) p = doAll s ((L.filter (fun x => decide (x.f0 = s))).filterMap diffM) p
 | [], _, _ => rfl
 | x :: L, p, hp => by
  have e : ∀ l : List Sd, (x :: l).filterMap diffM = (diffM x).toList ++ l.filterMap diffM := fun l => by
   rw [List.filterMap_cons]
   cases diffM x <;> rfl
  rw [e, doAll_append, List.filter_cons]
  by_cases h : x.f0 = s
  ·rw [if_pos (by simpa using h), e, doAll_append]
   exact only_key s L _ (tidy_doAll _ _ _ hp)
  ·rw [if_neg (by simpa using h), told_far h hp]
   exact only_key s L p hp
theorem only_some (s : ByteArray) (q : ByteArray → Bool) (L : List Sd) (p : ByteArray × Bool) (hp : tidy p) : doAll s ((L.filter (fun x => q x.f0)).filterMap diffM) p = if q s = true then doAll s (L.filterMap diffM) p else p := by
 rw [only_key s _ p hp, List.filter_filter]
 by_cases h : q s = true
 ·rw [if_pos h, only_key s L p hp]
  have : (L.filter fun x => decide (x.f0 = s) && q x.f0) = L.filter fun x => decide (x.f0 = s) := by
   refine List.filter_congr (fun x _ => ?_)
   by_cases e : x.f0 = s
   ·rw [e, h]; simp
   ·simp [e]
  rw [this]
 ·have : (L.filter fun x => decide (x.f0 = s) && q x.f0) = [] := by
   refine List.filter_eq_nil_iff.2 (fun x _ => ?_)
   by_cases e : x.f0 = s
   ·rw [e]; simp [h]
   ·simp [e]
  rw [if_neg h, this]
  rfl
def diffAt (a b : List En) (s : ByteArray) : Option Ms :=
 if sameO (findV a s) (findV b s) = true then none else some (if (findV b s).2 = true then ⟨1, 0, s, e0, (findV b s).1, 0⟩ else ⟨2, 0, s, e0, e0, 0⟩)
theorem diffM_at {a b : List En} {L : List Sd} (h : Sides a b L) {x : Sd} (hx : x ∈ L) : diffM x = diffAt a b x.f0 := by
 obtain ⟨v1, v2⟩ := h.val x hx
 rw [told_is x (h.some x hx), diffAt, v1, v2]
theorem diffAt_key {a b : List En} {s : ByteArray} {m : Ms} (h : diffAt a b s = some m) : m.f2 = s := by
 unfold diffAt at h
 split at h
 ·cases h
 ·obtain rfl := Option.some.inj h
  split <;> rfl
theorem none_of {a b : List En} {L : List Sd} (h : Sides a b L) {s : ByteArray} (hs : ∀ x ∈ L, x.f0 ≠ s) : findV a s = (e0, false) ∧ findV b s = (e0, false) := by
 have ha : (findV a s).2 = false := by
  cases q : (findV a s).2 with
  | false => rfl
  | true => obtain ⟨x, hx, e⟩ := h.all s (.inl q); exact absurd e (hs x hx)
 have hb : (findV b s).2 = false := by
  cases q : (findV b s).2 with
  | false => rfl
  | true => obtain ⟨x, hx, e⟩ := h.all s (.inr q); exact absurd e (hs x hx)
 exact ⟨Prod.ext (tidy_find a s ha) ha, Prod.ext (tidy_find b s hb) hb⟩
theorem look_far {s : ByteArray} : ∀ (l : List Ms) (F : ByteArray → Option Ms), (∀ m ∈ l, m.f2 ≠ s) → l.foldl (fun F m => upd F m.f2 (some m)) F s = F s
 | [], _, _ => rfl
 | m :: l, F, h => by
  rw [List.foldl_cons, look_far l _ (fun x hx => h x (List.mem_cons_of_mem _ hx)), upd_other _ (fun e => h m (by simp) e.symm)]
theorem look_in {m : Ms} {l1 l2 : List Ms} (h : ∀ x ∈ l2, x.f2 ≠ m.f2) : lookF (l1 ++ m :: l2) m.f2 = some m := by
 unfold lookF
 rw [List.foldl_append, List.foldl_cons, look_far l2 _ h, upd_same]
theorem look_diff {a b : List En} {L : List Sd} (h : Sides a b L) (s : ByteArray) : lookF (L.filterMap diffM) s = diffAt a b s := by
 by_cases hs : ∃ x ∈ L, x.f0 = s
 ·obtain ⟨x, hx, rfl⟩ := hs
  rw [← diffM_at h hx]
  obtain ⟨L1, L2, e, f1, f2⟩ := key_split h.rise hx
  have far2 : ∀ m ∈ L2.filterMap diffM, m.f2 ≠ x.f0 := fun m hm => by
   obtain ⟨y, hy, e⟩ := List.mem_filterMap.1 hm
   rw [(diffM_key e).1]; exact f2 y hy
  have far1 : ∀ m ∈ L1.filterMap diffM, m.f2 ≠ x.f0 := fun m hm => by
   obtain ⟨y, hy, e⟩ := List.mem_filterMap.1 hm
   rw [(diffM_key e).1]; exact f1 y hy
  rw [e, List.filterMap_append, List.filterMap_cons]
  cases q : diffM x with
  | none =>
   simp only
   unfold lookF
   rw [List.foldl_append, look_far _ _ far2, look_far _ _ far1]
   rfl
  | some m =>
   simp only
   have hk := (diffM_key q).1
   rw [← hk]
   exact look_in (by rw [hk]; exact far2)
 ·have hn : ∀ x ∈ L, x.f0 ≠ s := fun x hx e => hs ⟨x, hx, e⟩
  obtain ⟨e1, e2⟩ := none_of h hn
  unfold lookF diffAt
  rw [look_far _ _ (fun m hm => by
   obtain ⟨y, hy, e⟩ := List.mem_filterMap.1 hm
   rw [(diffM_key e).1]; exact hn y hy), e1, e2, if_pos (sameO_iff.2 rfl)]
  rfl
def clashB (F : ByteArray → Option Ms) (m : Ms) : Bool := match F m.f2 with
 | none => false
 | some x => neB x m
theorem three_parts (F : ByteArray → Option Ms) : ∀ (t : List Ms) (p : List Ms × List ByteArray), t.foldl (Th.stepT F) p = (p.1 ++ t.filter (fun m => (F m.f2).isNone), p.2 ++ (t.filter (clashB F)).map (·.f2))
 | [], p => by simp
 | m :: t, p => by
  rw [List.foldl_cons, three_parts F t]
  unfold Th.stepT clashB
  rw [List.filter_cons, List.filter_cons]
  cases h : F m.f2 with
  | none => simp
  | some x =>
   simp only [Option.isNone_some]
   by_cases h2 : neB x m = true
   ·simp [h2]
   ·simp [h2]
theorem three_eqF (F : ByteArray → Option Ms) (t : List Ms) : threeF F t = (t.filter (fun m => (F m.f2).isNone), (t.filter (clashB F)).map (·.f2)) := by
 have := three_parts F t ([], [])
 simpa [threeF] using this
theorem filter_diff (L : List Sd) (q : ByteArray → Bool) : (L.filterMap diffM).filter (fun m => q m.f2) = (L.filter (fun x => q x.f0)).filterMap diffM := by
 induction L with
 | nil => rfl
 | cons x L ih =>
  rw [List.filterMap_cons, List.filter_cons]
  cases e : diffM x with
  | none =>
   simp only [ih]
   split
   ·rw [List.filterMap_cons, e]
   ·rfl
  | some m =>
   simp only
   rw [List.filter_cons, (diffM_key e).1, ih]
   split
   ·rw [List.filterMap_cons, e]
   ·rfl
theorem neB_iff {x m : Ms} : neB x m = true ↔ x ≠ m := by
 constructor
 ·intro h e
  subst e
  simp [neB] at h
 ·intro h
  cases q : neB x m with
  | true => rfl
  | false =>
   obtain ⟨z0, z1, z2, z3, z4, z5⟩ := Th.neB_false q
   obtain ⟨x0, x1, x2, x3, x4, x5⟩ := x
   obtain ⟨y0, y1, y2, y3, y4, y5⟩ := m
   simp only at z0 z1 z2 z3 z4 z5
   subst z0 z1 z2 z3 z4 z5
   exact absurd rfl h
theorem diffAt_inj {c a b : List En} {s : ByteArray} {x m : Ms} (hx : diffAt c a s = some x) (hm : diffAt c b s = some m) : x = m ↔ findV a s = findV b s := by
 have ta := tidy_find a s
 have tb := tidy_find b s
 unfold diffAt at hx hm
 split at hx
 ·cases hx
 ·split at hm
  ·cases hm
  ·obtain rfl := Option.some.inj hx
   obtain rfl := Option.some.inj hm
   cases qa : (findV a s).2 <;> cases qb : (findV b s).2
   ·simp only [if_neg (show ¬ (false = true) by simp), true_iff]
    exact Prod.ext (by rw [ta qa, tb qb]) (by rw [qa, qb])
   ·simp only [if_neg (show ¬ (false = true) by simp), if_pos]
    constructor
    ·intro h; have := congrArg (·.f0) h; simp at this
    ·intro h; rw [h, qb] at qa; cases qa
   ·simp only [if_neg (show ¬ (false = true) by simp), if_pos]
    constructor
    ·intro h; have := congrArg (·.f0) h; simp at this
    ·intro h; rw [h, qb] at qa; cases qa
   ·simp only [if_pos]
    constructor
    ·intro h; have := congrArg (·.f4) h; exact Prod.ext this (by rw [qa, qb])
    ·intro h; rw [h]
theorem diffAt_none {a b : List En} {s : ByteArray} : diffAt a b s = none ↔ findV a s = findV b s := by
 unfold diffAt
 rw [← sameO_iff]
 split <;> simp_all
def threeE (base a b : List En) : List En := entriesV ((besideV base b).filterMap diffM |>.filter (fun m => (diffAt base a m.f2).isNone)) a e0 e0
def threeK (base a b : List En) : List ByteArray := (((besideV base b).filterMap diffM).filter (clashB (diffAt base a))).map (·.f2)
theorem three_val {base a b : List En} (hb : RiseE base) (h1 : RiseE a) (h2 : RiseE b) (s : ByteArray) : valO ((besideV base b).filterMap diffM |>.filter (fun m => (diffAt base a m.f2).isNone)) a s = toO (if findV base s = findV a s then findV b s else findV a s) := by
 have hS := sides hb h2
 unfold valO
 rw [filter_diff _ (fun k => (diffAt base a k).isNone), only_some s (fun k => (diffAt base a k).isNone) _ _ (tidy_find a s)]
 by_cases h : findV base s = findV a s
 ·rw [if_pos (by rw [diffAt_none.2 h]; rfl), if_pos h, ← h, diff_val hS s]
 ·have : (diffAt base a s).isNone = false := by
   cases q : diffAt base a s with
   | none => exact absurd (diffAt_none.1 q) h
   | some _ => rfl
  rw [if_neg (by simp [this]), if_neg h]
theorem mem_threeE {base a b : List En} (hb : RiseE base) (h1 : RiseE a) (h2 : RiseE b) (x : En) : x ∈ threeE base a b ↔ toO (if findV base x.f0 = findV a x.f0 then findV b x.f0 else findV a x.f0) = some x.f1 := by
 unfold threeE
 rw [mem_entries, three_val hb h1 h2]
 simp [rr_all, holds_all]
theorem mem_threeK {base a b : List En} (hb : RiseE base) (h1 : RiseE a) (h2 : RiseE b) (s : ByteArray) : s ∈ threeK base a b ↔ findV base s ≠ findV a s ∧ findV base s ≠ findV b s ∧ findV a s ≠ findV b s := by
 have hS := sides hb h2
 unfold threeK
 rw [List.mem_map]
 constructor
 ·rintro ⟨m, hm, rfl⟩
  obtain ⟨hm, hc⟩ := List.mem_filter.1 hm
  obtain ⟨x, hx, e⟩ := List.mem_filterMap.1 hm
  have hk := (diffM_key e).1
  rw [diffM_at hS hx, ← hk] at e
  unfold clashB at hc
  cases q : diffAt base a m.f2 with
  | none => rw [q] at hc; cases hc
  | some y =>
   rw [q] at hc
   refine ⟨fun h => ?_, fun h => ?_, fun h => ?_⟩
   ·rw [diffAt_none.2 h] at q; cases q
   ·rw [diffAt_none.2 h] at e; cases e
   ·exact neB_iff.1 hc ((diffAt_inj q e).2 h)
 ·rintro ⟨n1, n2, n3⟩
  have hx : ∃ x ∈ besideV base b, x.f0 = s := by
   refine Classical.byContradiction (fun hn => ?_)
   obtain ⟨e1, e2⟩ := none_of hS (s := s) (fun x hx e => hn ⟨x, hx, e⟩)
   exact n2 (by rw [e1, e2])
  obtain ⟨x, hx, rfl⟩ := hx
  cases q : diffAt base a x.f0 with
  | none => exact absurd (diffAt_none.1 q) n1
  | some y =>
   cases e : diffAt base b x.f0 with
   | none => exact absurd (diffAt_none.1 e) n2
   | some m =>
    have hk := diffAt_key e
    refine ⟨m, List.mem_filter.2 ⟨List.mem_filterMap.2 ⟨x, hx, (diffM_at hS hx).trans e⟩, ?_⟩, hk⟩
    unfold clashB
    rw [hk, q]
    exact neB_iff.2 (fun h => n3 ((diffAt_inj q e).1 h))
theorem rise_threeE {base a b : List En} (hb : RiseE base) (h1 : RiseE a) (h2 : RiseE b) : RiseE (threeE base a b) := rise_entries _ _ _ _
theorem rise_threeK {base a b : List En} (hb : RiseE base) (h1 : RiseE a) (h2 : RiseE b) : RiseK (threeK base a b) := by
 have hS := sides hb h2
 unfold threeK
 have key : ∀ L : List Sd, L.Pairwise (fun x y => lt x.f0 y.f0 = true) → (L.filterMap diffM).Pairwise (fun x y => lt x.f2 y.f2 = true) := fun L hL =>
  List.Pairwise.filterMap diffM (fun x x' hxx y hy y' hy' => by rw [(diffM_key hy).1, (diffM_key hy').1]; exact hxx) hL
 exact List.pairwise_map.2 ((key _ hS.rise).filter _)
theorem three_k_length {base a b : List En} (hb : RiseE base) (h1 : RiseE a) (h2 : RiseE b) (hlb : base.length ≤ 40) (hl2 : b.length ≤ 40) : (threeK base a b).length ≤ 80 := by
 have hl := beside_length _ base b (Nat.le_refl _)
 unfold threeK
 rw [List.length_map]
 exact Nat.le_trans (List.length_filter_le _ _) (Nat.le_trans (List.length_filterMap_le _ _) (by omega))
theorem Three_eq {base a b : List En} (hb : RiseE base) (h1 : RiseE a) (h2 : RiseE b) (hlb : base.length ≤ 40) (hl1 : a.length ≤ 40) (hl2 : b.length ≤ 40) (kb : keyOk base) (k1 : keyOk a) (k2 : keyOk b) (k : Nat) (hk : 300 ≤ k) : delta_Three.f k base a b = some (threeE base a b, threeK base a b) := by
 have hS1 := sides hb h1
 have hS2 := sides hb h2
 have hK1 := side_size hS1 kb k1
 have hK2 := side_size hS2 kb k2
 have hB1 := beside_length _ base a (Nat.le_refl _)
 have hB2 := beside_length _ base b (Nat.le_refl _)
 have e1 : delta_Diff.f k base a = some (diffV base a) := Diff_eq k base a (by omega) (by omega) (by omega)
 have e2 : delta_Diff.f k base b = some (diffV base b) := Diff_eq k base b (by omega) (by omega) (by omega)
 have hlook : lookF (diffV base a) = diffAt base a := funext (look_diff hS1)
 have o1 := diff_ok hK1
 have o2 := diff_ok hK2
 have L1 : (diffV base a).length ≤ 80 := Nat.le_trans (List.length_filterMap_le _ _) (by omega)
 have L2 : (diffV base b).length ≤ 80 := Nat.le_trans (List.length_filterMap_le _ _) (by omega)
 have k1 : okT (diffV base a) = true := okT_iff.2 ⟨by omega, fun x hx => (o1 x hx).2⟩
 have k2 : okT (diffV base b) = true := okT_iff.2 ⟨by omega, fun x hx => (o2 x hx).2⟩
 have hP : delta_Patch.f base (diffV base a) = some a := by
  have e9 : delta_Patch.f base (diffV base a) = some (entriesV (diffV base a) base e0 e0) := Patch_eq (by omega) (by omega) o1
  rw [e9]
  exact congrArg some (entries_of_val h1 (fun s => diff_val hS1 s))
 unfold delta_Three.f threeC
 rw [e1, Option.bind_some, e2, Option.bind_some, k1, k2, if_pos (by rfl), hP, Option.bind_some, hlook, three_eqF]
 simp only
 have hQ : delta_Patch.f a ((diffV base b).filter (fun m => (diffAt base a m.f2).isNone)) = some (threeE base a b) :=
  Patch_eq (by omega) (Nat.le_trans (List.length_filter_le _ _) (by omega)) (fun m hm => o2 m (List.mem_filter.1 hm).1)
 rw [hQ, Option.bind_some]
 rfl
end Go.Proofs.Ytebejadiaooooaa.P
end
section
namespace Go.Proofs.Ytebejadiaooooaa.P
open Go.RowKit Go.Proofs.YtebejadiaooooaaW.PrintWords Go.Proofs.YtebejadiaooooaaW.PrintLast Go.Proofs.YtebejadiaooooaaW.PrintMore Go.Proofs.Ytebejadiaooooaa.Own Go.Proofs.Ytebejadiaooooaa
theorem threeE_mine {base a b : List En} (hb : RiseE base) (h1 : RiseE a) (h2 : RiseE b) : threeE base a base = a := by
 refine riseE_ext (rise_threeE hb h1 hb) h1 (fun x => ?_)
 rw [mem_threeE hb h1 hb, mem_find a h1 x]
 by_cases h : findV base x.f0 = findV a x.f0
 ·rw [if_pos h, h]
 ·rw [if_neg h]
theorem threeE_theirs {base a b : List En} (hb : RiseE base) (h1 : RiseE a) (h2 : RiseE b) : threeE base base b = b := by
 refine riseE_ext (rise_threeE hb hb h2) h2 (fun x => ?_)
 rw [mem_threeE hb hb h2, mem_find b h2 x, if_pos rfl]
theorem threeE_both {base a b : List En} (hb : RiseE base) (h1 : RiseE a) (h2 : RiseE b) : threeE base a a = a := by
 refine riseE_ext (rise_threeE hb h1 h1) h1 (fun x => ?_)
 rw [mem_threeE hb h1 h1, mem_find a h1 x, ite_self]
theorem threeK_mine {base a b : List En} (hb : RiseE base) (h1 : RiseE a) (h2 : RiseE b) : threeK base a base = [] := List.eq_nil_iff_forall_not_mem.2 (fun s hs => ((mem_threeK hb h1 hb s).1 hs).2.1 rfl)
theorem threeK_theirs {base a b : List En} (hb : RiseE base) (h1 : RiseE a) (h2 : RiseE b) : threeK base base b = [] := List.eq_nil_iff_forall_not_mem.2 (fun s hs => ((mem_threeK hb hb h2 s).1 hs).1 rfl)
theorem threeK_both {base a b : List En} (hb : RiseE base) (h1 : RiseE a) (h2 : RiseE b) : threeK base a a = [] := List.eq_nil_iff_forall_not_mem.2 (fun s hs => ((mem_threeK hb h1 h1 s).1 hs).2.2 rfl)
theorem threeK_comm {base a b : List En} (hb : RiseE base) (h1 : RiseE a) (h2 : RiseE b) : threeK base a b = threeK base b a := by
 refine riseK_ext (rise_threeK hb h1 h2) (rise_threeK hb h2 h1) (fun s => ?_)
 rw [mem_threeK hb h1 h2, mem_threeK hb h2 h1]
 constructor
 ·rintro ⟨p, q, r⟩; exact ⟨q, p, fun h => r h.symm⟩
 ·rintro ⟨p, q, r⟩; exact ⟨q, p, fun h => r h.symm⟩
end Go.Proofs.Ytebejadiaooooaa.P
end
section
namespace Go.Proofs.Ytebejadiaooooaa.Pure
open Go.RowKit Go.Proofs.Ytebejadiaooooaa.P Go.Proofs.YtebejadiaooooaaW.PrintWords Go.Proofs.YtebejadiaooooaaW.PrintLast Go.Proofs.YtebejadiaooooaaW.PrintMore Go.Proofs.Ytebejadiaooooaa.Own Go.Proofs.Ytebejadiaooooaa
theorem live37_c : catchmentlaw37_live.f 900 = some true := by kernel_rfl
theorem main_One (c a b : List S39) (wc : ∀ a_ ∈ c, wf39 a_) (w0 : ∀ a_ ∈ a, wf39 a_) (w1 : ∀ a_ ∈ b, wf39 a_) (hrc : rightV c = true) (hra : rightV a = true) (hrb : rightV b = true) (k : Nat) (hk : 800 ≤ k) (live : catchmentlaw37_live.f k = some true) : catchmentlaw37_DeltaOne.j0 (k + 1) c a b false = some true := by
 unfold rightV at hrc hra hrb
 simp only [Bool.and_eq_true, decide_eq_true_eq] at hrc hra hrb
 obtain ⟨lc, rc⟩ := hrc
 obtain ⟨la, ra⟩ := hra
 obtain ⟨lb, rb⟩ := hrb
 have rc := riseE_iff.1 rc
 have ra := riseE_iff.1 ra
 have rb := riseE_iff.1 rb
 have kc : keyOk c := fun x hx => (wc x hx).1
 have ka : keyOk a := fun x hx => (w0 x hx).1
 have kb : keyOk b := fun x hx => (w1 x hx).1
 have hk3 : 300 ≤ k := by omega
 have hk7 : 700 ≤ k := by omega
 have e2 := three_k_length rc rb ra lc la
 have hw0 : wrap64 0 = 0 := IntWalk.wrap64_in _ (by omega)
 have g1 : a.length ≤ 1000000 := by omega
 have g2 : a.length < k := by omega
 have g5 : b.length ≤ 1000000 := by omega
 have g6 : b.length < k := by omega
 have g3 : (threeK c b a).length ≤ 1000000 := by omega
 have g4 : (threeK c b a).length < k := by omega
 rw [catchmentlaw37_DeltaOne.j0, if_neg (by simp), Three_eq rc ra ra lc la la kc ka ka k hk3, Option.bind_some, Three_eq rc ra rc lc la lc kc ka kc k hk3, Option.bind_some, Three_eq rc rc rb lc lc lb kc kc kb k hk3, Option.bind_some, Three_eq rc ra rb lc la lb kc ka kb k hk3, Option.bind_some, Three_eq rc rb ra lc lb la kc kb ka k hk3, Option.bind_some, live, Option.bind_some, if_pos rfl,
  threeE_both rc ra rb, threeK_both rc ra rb, threeE_mine rc ra rb, threeK_mine rc ra rb, threeE_theirs rc ra rb, threeK_theirs rc ra rb, threeK_comm rc ra rb]
 simp only
 rw [same_self _ _ g1 g2, Option.bind_some, if_pos rfl, Option.bind_some, if_pos rfl, same_self _ _ g5 g6, Option.bind_some, if_pos rfl, if_pos (by simp [hw0]), Same3_refl _ _ g3 g4, Option.bind_some]
theorem DeltaOne : ∀ (x0 : (List S39)) (x1 : (List S39)) (x2 : (List S39)), (x0.length * 32 ≤ 140737488351232 ∧ ∀ a_ ∈ x0, wf39 a_) → (x1.length * 32 ≤ 140737488351232 ∧ ∀ a_ ∈ x1, wf39 a_) → (x2.length * 32 ≤ 140737488351232 ∧ ∀ a_ ∈ x2, wf39 a_) → ∃ k, catchmentlaw37_DeltaOne.f k x0 x1 x2 = some true := by
 intro c a b wc w0 w1
 refine ⟨901, ?_⟩
 unfold catchmentlaw37_DeltaOne.f
 have no : catchmentlaw37_DeltaOne.j0 901 c a b true = some true := by
  show catchmentlaw37_DeltaOne.j0 (900 + 1) c a b true = some true
  rw [catchmentlaw37_DeltaOne.j0, if_pos rfl, live37_c, Option.bind_some]
 rw [right_eq _ _ (by decide), Option.bind_some]
 cases hrc : rightV c with
 | false => rw [if_neg (by simp)]; exact no
 | true =>
  rw [if_pos rfl, right_eq _ _ (by decide), Option.bind_some]
  cases hra : rightV a with
  | false => rw [if_neg (by simp)]; exact no
  | true =>
   rw [if_pos rfl, right_eq _ _ (by decide), Option.bind_some]
   cases hrb : rightV b with
   | false => exact no
   | true => exact main_One c a b wc.2 w0.2 w1.2 hrc hra hrb 900 (by decide) live37_c
end Go.Proofs.Ytebejadiaooooaa.Pure
end
section
namespace Go.Proofs.Ytebejadiaooooaa.deltaOne
open Go.ChangeShapes Go.WideShapes Go.ChangeAt Go.RowKit Go.Proofs.Ytebejadiaooooaa.P Go.Proofs.Ytebejadiaooooaa.Rd Go.Proofs.YtebejadiaooooaaW.PrintWords
open Go.ChangeMaps (open_string shut_string)
theorem own : ownKnob Try.prog.godebug = none := by kernel_rfl
theorem laidOut : laidOutB Try.prog = true := by kernel_rfl
set_option maxHeartbeats 2000000 in
set_option maxRecDepth 100000 in
theorem lifted (os : Os) (started : os.Started) (H : Type) (enc : TypeId × Value → H) :
  ReturnsInHanded {} Try.checked os 11 .any (Rows.deltaOneSpec.pre6 enc Try.prog Try.f11 Rows.deltaOneRow.domain false) (Rows.deltaOneSpec.post enc Try.prog Try.f11 false true false false) := by
 refine returnsInHanded_of_change_sized (C := Try.checked) own started (by kernel_rfl) Try.func11
  (ChangeSpec.witness6 (enc := enc) (C := Try.checked) false ⟨#[], #[.slice none 0 0, .slice none 0 0, .slice none 0 0], []⟩ 8 (by kernel_rfl) (by kernel_rfl) (by kernel_rfl) (by kernel_rfl)) ?_
 intro W base args ds gs before hval0 hW hcnd hsz0 _
 have hsz : (DataW.weightsEach Try.prog (Try.f11.params.toList ++ Rows.deltaOneSpec.plain.varTypes Try.prog) (ds ++ gs)).all (· ≤ reachBytes) = true := hsz0
 have hval : ∀ (j : Nat) t v, Try.f11.params[j]? = some t → args[j]? = some v → Value.okWide Try.prog W .any base t v := hval0
 have hW' := hW
 obtain ⟨p, q, hA0, hV, rfl, hfz, hnd⟩ := hW
 have hA : DataW.TrodAll enc Try.prog W 0 (fun _ => true) true Try.f11.params.toList args.toList ds p := hA0
 rw [Try.params11] at hA hval hsz
 obtain ⟨v0, vs0, d0, ds0, p0, q0, hargs, rfl, rfl, h0, r0⟩ := trodAll_cons hA
 obtain ⟨v1, vs1, d1, ds1, p1, q1, rfl, rfl, rfl, h1, r1⟩ := trodAll_cons r0
 obtain ⟨v2, vs2, d2, ds2, p2, q2, rfl, rfl, rfl, h2, r2⟩ := trodAll_cons r1
 obtain ⟨rfl, rfl, rfl⟩ := trodAll_nil r2
 obtain rfl : args = #[v0, v1, v2] := by cases args; simp_all
 obtain ⟨rfl, rfl⟩ := trodVars_none hV
 have k0 := h0
 have lt0 : ∀ x ∈ p0, x.block < W.heap.size := by obtain ⟨m, hm⟩ := k0; exact DataW.trod_lt m _ _ _ hm
 have ww0 : ∀ n ∈ d0.weights Try.prog 23, n ≤ reachBytes := fun n hn => by simpa using List.all_eq_true.1 hsz n (DataW.weights_mem_each (j := 0) rfl rfl n hn)
 obtain ⟨ad0, len0, cap0, rfl⟩ := okWide_slice Try.underlying23 (hval 0 23 v0 rfl rfl)
 obtain ⟨fu0, hf0⟩ := h0
 obtain ⟨x0, kx0, w0⟩ := o23.down hf0 ww0
 obtain ⟨A0, c0, e0, hc0, hr0⟩ := kx0
 obtain ⟨rfl, rfl, rfl⟩ : ad0 = A0 ∧ len0 = x0.length ∧ cap0 = c0 := by simpa [Value.cells] using e0
 have k1 := h1
 have lt1 : ∀ x ∈ p1, x.block < W.heap.size := by obtain ⟨m, hm⟩ := k1; exact DataW.trod_lt m _ _ _ hm
 have ww1 : ∀ n ∈ d1.weights Try.prog 23, n ≤ reachBytes := fun n hn => by simpa using List.all_eq_true.1 hsz n (DataW.weights_mem_each (j := 1) rfl rfl n hn)
 obtain ⟨ad1, len1, cap1, rfl⟩ := okWide_slice Try.underlying23 (hval 1 23 v1 rfl rfl)
 obtain ⟨fu1, hf1⟩ := h1
 obtain ⟨x1, kx1, w1⟩ := o23.down hf1 ww1
 obtain ⟨A1, c1, e1, hc1, hr1⟩ := kx1
 obtain ⟨rfl, rfl, rfl⟩ : ad1 = A1 ∧ len1 = x1.length ∧ cap1 = c1 := by simpa [Value.cells] using e1
 have k2 := h2
 have lt2 : ∀ x ∈ p2, x.block < W.heap.size := by obtain ⟨m, hm⟩ := k2; exact DataW.trod_lt m _ _ _ hm
 have ww2 : ∀ n ∈ d2.weights Try.prog 23, n ≤ reachBytes := fun n hn => by simpa using List.all_eq_true.1 hsz n (DataW.weights_mem_each (j := 2) rfl rfl n hn)
 obtain ⟨ad2, len2, cap2, rfl⟩ := okWide_slice Try.underlying23 (hval 2 23 v2 rfl rfl)
 obtain ⟨fu2, hf2⟩ := h2
 obtain ⟨x2, kx2, w2⟩ := o23.down hf2 ww2
 obtain ⟨A2, c2, e2, hc2, hr2⟩ := kx2
 obtain ⟨rfl, rfl, rfl⟩ : ad2 = A2 ∧ len2 = x2.length ∧ cap2 = c2 := by simpa [Value.cells] using e2
 clear hA0 hval0 hsz0 hsz
 obtain ⟨k_, hp⟩ := Pure.DeltaOne x0 x1 x2 w0 w1 w2
 refine (catchmentlaw37_DeltaOne.calls (k := k_) (r := true) (w := W) (hr0 := hr0) (hc0 := hc0) (hr1 := hr1) (hc1 := hc1) (hr2 := hr2) (hc2 := hc2) (h := hp)).mono fun e W' ⟨he, bel0⟩ => ?_
 have bel : Below W.heap.size W W' := bel0
 subst he
 exact ⟨_, rfl, _, _, _, [], _, [], hW', trodAll_mk1 (shut_bool Try.underlying4 _), (trodAll_cons_mk (Below.trod laidOut (by kernel_rfl) (of_decide_eq_true (by kernel_rfl)) k0 bel lt0) (trodAll_cons_mk (Below.trod laidOut (by kernel_rfl) (of_decide_eq_true (by kernel_rfl)) k1 bel lt1) (trodAll_cons_mk (Below.trod laidOut (by kernel_rfl) (of_decide_eq_true (by kernel_rfl)) k2 bel lt2) trodAll_mk0))), rfl, bel.frame _, fun h => by cases h⟩
theorem over : Rows.deltaOneRow.holds Try.pinned (OpenSpec.ofChange Rows.deltaOneSpec) :=
 OpenClaim.holds_of_wide 11 Try.f11 rfl rfl rfl rfl rfl rfl rfl ⟨rfl, rfl, rfl, rfl, rfl⟩ rfl rfl rfl rfl rfl (by kernel_rfl) Try.func11 (by kernel_rfl)
  (of_decide_eq_true (by kernel_rfl)) (by unfold Func.isWrapper; first | (rw [if_pos (by decide +kernel)]; kernel_rfl) | (rw [if_neg (by decide +kernel)]; exact ⟨rfl, rfl⟩))
  (fun os started H enc _ => lifted os started H enc)
end Go.Proofs.Ytebejadiaooooaa.deltaOne
namespace Go.Proofs.Ytebejadiaooooaa
theorem deltaOne_holds : Rows.DeltaOneSaid := deltaOne.over
#print axioms deltaOne_holds
end Go.Proofs.Ytebejadiaooooaa
end
