/- THE ROW of TopUndone: for every input the call returns true, and each argument reads afterwards as it read before: no condition beyond the row's own. Out of the walk (its contract over the Lean function of the same text) and the plain law (module YtebejadiaooooaaPureTopUndone). (Laid by rowgen.py.) -/
/- Texts of one claim (laid by shake.py). -/
import Derived.Test.YtebejadiaooooaaZu29
import Derived.Test.YtebejadiaooooaaZu28
import Derived.Test.YtebejadiaooooaaRows
import Derived.WalkKit
import Derived.ProofKit
import Derived.OpenShut
import Derived.ShutString
import Derived.ChangeOld
import Derived.Below
import Derived.SizedLaws
set_option linter.unusedVariables false
set_option linter.unusedSimpArgs false
section
namespace Go.Proofs.Ytebejadiaooooaa.P
open Go.RowKit Go.Proofs.YtebejadiaooooaaW.PrintWords Go.Proofs.YtebejadiaooooaaW.PrintLast Go.Proofs.YtebejadiaooooaaW.PrintMore Go.Proofs.Ytebejadiaooooaa.Own Go.Proofs.Ytebejadiaooooaa
def invM (e : List En) (s : ByteArray) : Ms := if (findV e s).2 = true then ⟨1, 0, s, e0, (findV e s).1, 0⟩ else ⟨2, 0, s, e0, e0, 0⟩
def inverseV (l : List Ms) (e : List En) : List Ms := (changedV l e).map (invM e)
theorem changed_length (l : List Ms) (e : List En) : (changedV l e).length ≤ l.length + e.length := Nat.le_trans (List.length_filter_le _ _) (namedV_length l e)
theorem inverse_length (l : List Ms) (e : List En) : (inverseV l e).length ≤ l.length + e.length := by unfold inverseV; rw [List.length_map]; exact changed_length l e
theorem Inverse_loop (e : List En) (he : e.length ≤ 100000) (K : List ByteArray) (hK : K.length ≤ 300000) : ∀ (l : List ByteArray) (k i : Nat) (o : List Ms), K.drop i = l → i ≤ K.length → o.length + l.length ≤ 300000 → e.length + l.length + 1 < k → compact_Inverse.l0 k e o K (K.length : Int) (i : Int) = some (o ++ l.map (invM e)) := by
 intro l
 induction l with
 | nil =>
  intro k i o hd hi _ hk
  obtain ⟨k, rfl⟩ : ∃ m, k = m + 1 := ⟨k - 1, by omega⟩
  have := drop_none hd hi
  rw [compact_Inverse.l0, if_neg (by omega)]
  simp
 | cons x l ih =>
  intro k i o hd hi ho hk
  simp only [List.length_cons] at ho hk
  obtain ⟨k, rfl⟩ : ∃ m, k = m + 1 := ⟨k - 1, by omega⟩
  obtain ⟨hlt, hx, hd2, _, _⟩ := drop_any hd
  have key : ∀ y : Ms, compact_Inverse.l0 k e (o ++ [y]) K (K.length : Int) ((i + 1 : Nat) : Int) = some (o ++ y :: l.map (invM e)) := fun y => by
   rw [ih k (i + 1) (o ++ [y]) hd2 (by omega) (by simp; omega) (by omega)]; simp
  rw [compact_Inverse.l0, if_pos (by omega), if_pos (by omega), if_pos (by omega), rdS_at hx, fFind_eq _ _ _ (by omega) (by omega), Option.bind_some, wrap1 (by omega), List.map_cons]
  have hlt2 : o.length < 1954687338268 := by omega
  unfold invM at key ⊢
  split
  ·exact key _
  ·exact key _
theorem Inverse_eq {l : List Ms} {e : List En} (h : Okd 1000 l e) (k : Nat) (hk : 2 * e.length + l.length + 2 < k) : compact_Inverse.f k l e = some (inverseV l e) := by
 have hl := h.ll
 have he := h.el
 have hc := changed_length l e
 unfold compact_Inverse.f fold_Changed.f
 rw [changedF_eq (h.mono (by omega)), Option.bind_some]
 exact Inverse_loop e (by omega) (changedV l e) (by omega) (changedV l e) k 0 [] rfl (by omega) (by simp; omega) (by omega)
theorem on_inv (e : List En) (k s : ByteArray) {p : ByteArray × Bool} (hp : tidy p) : onM (invM e k) s p = if s = k then findV e s else p := by
 have hpt : isPt (invM e k).f0 = true := by unfold invM; split <;> rfl
 have hkey : (invM e k).f2 = k := by unfold invM; split <;> rfl
 have ht : touchesM (invM e k) s = same k s := by
  have h4 := isPt_ne4 hpt
  simp [touchesM, touches, hpt, h4, hkey]
 by_cases hs : s = k
 ·subst hs
  rw [if_pos rfl, onM_touch (by rw [ht]; exact same_iff.2 rfl)]
  unfold invM
  have tf := tidy_find e s
  split
  ·rename_i h
   simp [applyV]
   rw [← h]
  ·rename_i h
   have h : (findV e s).2 = false := by simpa using h
   have := tf h
   simp [applyV]
   rw [← this, ← h]
 ·rw [if_neg hs, onM_far _ hp]
  rw [ht]
  cases h : same k s with
  | false => rfl
  | true => exact absurd (same_iff.1 h).symm hs
theorem do_inv_keep (e : List En) (s : ByteArray) : ∀ (K : List ByteArray), doAll s (K.map (invM e)) (findV e s) = findV e s
 | [] => rfl
 | k :: K => by
  rw [List.map_cons]
  show doAll s (K.map (invM e)) (onM (invM e k) s (findV e s)) = _
  rw [on_inv e k s (tidy_find e s), show (if s = k then findV e s else findV e s) = findV e s from by split <;> rfl]
  exact do_inv_keep e s K
theorem do_inv (e : List En) (s : ByteArray) : ∀ (K : List ByteArray) (p : ByteArray × Bool), tidy p → (s ∈ K → doAll s (K.map (invM e)) p = findV e s) ∧ (s ∉ K → doAll s (K.map (invM e)) p = p)
 | [], p, _ => ⟨fun h => by simp at h, fun _ => rfl⟩
 | k :: K, p, hp => by
  have e1 : doAll s ((k :: K).map (invM e)) p = doAll s (K.map (invM e)) (if s = k then findV e s else p) := by
   rw [List.map_cons, ← on_inv e k s hp]; rfl
  rw [e1]
  by_cases hs : s = k
  ·rw [if_pos hs, do_inv_keep]
   exact ⟨fun _ => rfl, fun h => absurd (by simp [hs]) h⟩
  ·rw [if_neg hs]
   have ih := do_inv e s K p hp
   refine ⟨fun h => ih.1 ?_, fun h => ih.2 (fun h2 => h (List.mem_cons_of_mem _ h2))⟩
   simpa [hs] using h
theorem val_inverse (l : List Ms) (e : List En) (s : ByteArray) : valO (l ++ inverseV l e) e s = toO (findV e s) := by
 unfold valO inverseV
 rw [doAll_append]
 have h := do_inv e s (changedV l e) (doAll s l (findV e s)) (tidy_doAll s _ _ (tidy_find e s))
 by_cases hs : s ∈ changedV l e
 ·rw [h.1 hs]
 ·rw [h.2 hs]
  have := mt (mem_changed l e s).2 hs
  exact (Classical.not_not.1 this).symm
theorem mem_find : ∀ (e : List En), RiseE e → ∀ x : En, x ∈ e ↔ toO (findV e x.f0) = some x.f1
 | [], _, x => by simp [findV, toO]
 | y :: e, h, x => by
  obtain ⟨h1, h2⟩ := List.pairwise_cons.1 h
  have ih := mem_find e h2 x
  by_cases hk : same y.f0 x.f0 = true
  ·have hk2 := same_iff.1 hk
   have hn : x ∉ e := fun hx => by
    have := h1 x hx
    rw [hk2, lt_irrefl] at this; cases this
   rw [findV, if_pos hk]
   obtain ⟨x0, x1⟩ := x
   obtain ⟨y0, y1⟩ := y
   simp only at hk2 hn ⊢
   simp [hn, toO, hk2, eq_comm]
  ·have hne2 : x ≠ y := fun h => by rw [h] at hk; exact hk (same_iff.2 rfl)
   rw [findV, if_neg hk, List.mem_cons, ← ih]
   simp [hne2]
theorem inverse_okD (l : List Ms) (e : List En) : ∀ m ∈ inverseV l e, okD m := by
 intro m hm
 obtain ⟨s, _, rfl⟩ := List.mem_map.1 hm
 unfold invM
 split <;> exact ⟨Int.le_refl _, by show (0 : Int) < 18446744073709551616; decide⟩
end Go.Proofs.Ytebejadiaooooaa.P
end
section
namespace Go.Proofs.Ytebejadiaooooaa.P
open Go.RowKit Go.Proofs.YtebejadiaooooaaW.PrintWords Go.Proofs.YtebejadiaooooaaW.PrintLast Go.Proofs.YtebejadiaooooaaW.PrintMore Go.Proofs.Ytebejadiaooooaa.Own Go.Proofs.Ytebejadiaooooaa
theorem undo (l : List Ms) (e : List En) (h : RiseE e) : entriesV (inverseV l e) (entriesV l e e0 e0) e0 e0 = e := by
 refine riseE_ext (rise_entries _ _ _ _) h (fun x => ?_)
 have hv : valO (inverseV l e) (entriesV l e e0 e0) x.f0 = toO (findV e x.f0) := by
  rw [← val_inverse l e x.f0]
  unfold valO
  rw [find_entries _ _ _ _ _ rr_all (holds_all _), doAll_append]
  unfold valO
  rw [ofO_toO (tidy_doAll _ _ _ (tidy_find e _))]
 rw [mem_entries, hv, mem_find e h x]
 simp [rr_all, holds_all]
theorem entries_list {l : List Ms} (hl : ∀ m ∈ l, okD m) (e : List En) (f t : ByteArray) : entriesV (listV l) e f t = entriesV l e f t :=
 val_ext (fun s _ _ => by unfold valO; rw [list_val s l _ (tidy_find e s) hl])
theorem take_mn30 {α : Type} (l : List α) : l.take (mn (l.length : Int) 30).toNat = l.take 30 := by
 unfold mn
 split
 ·rfl
 ·rw [List.take_of_length_le (by omega), List.take_of_length_le (by omega)]
theorem mn_le30 (n : Nat) : 0 ≤ mn (n : Int) 30 ∧ mn (n : Int) 30 ≤ n := by unfold mn; split <;> omega
def live3 : List Ms := [⟨1, 0, ⟨#[97]⟩, e0, e0, 0⟩]
theorem live3_eq : ∃ x : En, fold_Entries.f live3 [] e0 e0 = some [x] := by
 have hD : Okd 100000 live3 [] := ⟨by decide, by decide, fun m hm => by simp [live3] at hm; subst hm; exact ⟨by decide, by decide⟩, fun m hm => by simp [live3] at hm; subst hm; decide⟩
 refine ⟨⟨⟨#[97]⟩, e0⟩, ?_⟩
 unfold fold_Entries.f
 rw [entriesF_eq hD]
 kernel_rfl
end Go.Proofs.Ytebejadiaooooaa.P
end
section
namespace Go.Proofs.Ytebejadiaooooaa.Pure
open Go.RowKit Go.Proofs.Ytebejadiaooooaa.P Go.Proofs.YtebejadiaooooaaW.PrintWords Go.Proofs.YtebejadiaooooaaW.PrintLast Go.Proofs.YtebejadiaooooaaW.PrintMore Go.Proofs.Ytebejadiaooooaa.Own Go.Proofs.Ytebejadiaooooaa
theorem inverse_okS {l : List Ms} {e : List En} (hl : ∀ m ∈ l, m.f2.size ≤ 140737488351232) (he : ∀ x ∈ e, x.f0.size ≤ 140737488351232) : ∀ m ∈ inverseV l e, m.f2.size ≤ 140737488351232 := by
 intro m hm
 obtain ⟨s, hs, rfl⟩ := List.mem_map.1 hm
 have hk : (invM e s).f2 = s := by unfold invM; split <;> rfl
 rw [hk]
 rcases (mem_named l e s).1 (List.mem_filter.1 hs).1 with ⟨m', hm', _, h'⟩ | ⟨x, hx, h'⟩
 ·rw [← h']; exact hl m' hm'
 ·rw [← h']; exact he x hx
theorem TopUndone : ∀ (x0 : (List S32)) (x1 : (List S39)), (x0.length * 72 ≤ 140737488351232 ∧ ∀ a_ ∈ x0, wf32 a_) → (x1.length * 32 ≤ 140737488351232 ∧ ∀ a_ ∈ x1, wf39 a_) → ∃ k, catchmenttop_TopUndone.f k x0 x1 = some true := by
 intro x0 x1 w0 w1
 refine ⟨1000, ?_⟩
 have hO : Ok6 (x0.take 30) := ok6_take w0.2
 have hE : (x1.take 40).length ≤ 40 := by simp; omega
 have hEs : ∀ x ∈ x1.take 40, x.f0.size ≤ 140737488351232 := fun x hx => (w1.2 x (List.mem_of_mem_take hx)).1
 obtain ⟨z, hz⟩ := live3_eq
 unfold catchmenttop_TopUndone.f
 rw [if_pos (mn_le30 _).1, if_pos (mn_le30 _).2, Option.bind_some, if_pos (mn_le _).1, if_pos (mn_le _).2, Option.bind_some, take_mn, take_mn30]
 generalize x0.take 30 = l at hO ⊢
 generalize x1.take 40 = e at hE hEs ⊢
 have hl := hO.ll
 rw [show fold_Entries.f [⟨1, 0, ⟨#[97]⟩, ⟨#[]⟩, ⟨#[]⟩, 0⟩] [] ⟨#[]⟩ ⟨#[]⟩ = some [z] from hz, Option.bind_some, Rises_eq _ _ (by omega) (by omega), Option.bind_some]
 cases hr : risesV e with
 | false => rw [if_neg (by simp)]; rfl
 | true =>
  have hE2 := riseE_iff.1 hr
  have hL := ok6_list hO
  have hL2 := hL.ll
  have i1 := inverse_length l e
  have d1 : Okd 1000 (listV l) e := ⟨by omega, by omega, hL.od, hL.os⟩
  have d2 : Okd 1000 l e := ⟨by omega, by omega, hO.od, hO.os⟩
  have n1 := entriesV_length l e e0 e0
  have is1 := inverse_okS hO.os hEs
  have d3 : Okd 1000 (inverseV l e) (entriesV l e e0 e0) := ⟨by omega, by omega, inverse_okD l e, is1⟩
  have i2 := inverse_length (inverseV l e) (entriesV l e e0 e0)
  have es2 : ∀ x ∈ entriesV l e e0 e0, x.f0.size ≤ 140737488351232 := fun x hx => by
   have h3 := ((mem_entries l e e0 e0 x).1 hx).2.2
   rcases (mem_named l e x.f0).1 (named_of_val h3) with ⟨m, hm, _, h⟩ | ⟨y, hy, h⟩
   ·rw [← h]; exact hO.os m hm
   ·rw [← h]; exact hEs y hy
  have d4 : Okd 1000 (inverseV (inverseV l e) (entriesV l e e0 e0)) e := ⟨by omega, by omega, inverse_okD _ _, inverse_okS is1 es2⟩
  have hE3 : RiseE (entriesV l e e0 e0) := rise_entries l e e0 e0
  have eF : ∀ {a : List Ms} {b : List En}, Okd 1000 a b → fold_Entries.f a b ⟨#[]⟩ ⟨#[]⟩ = some (entriesV a b e0 e0) := fun h => entriesF_eq (h.mono (by omega)) _ _
  rw [if_pos rfl, List_eq hO, Option.bind_some, eF d1, Option.bind_some, entries_list hO.od, Inverse_eq d2 _ (by omega), Option.bind_some, eF d3, Option.bind_some, undo l e hE2, Option.bind_some, Inverse_eq d3 _ (by omega), Option.bind_some, eF d4, Option.bind_some]
  have u2 := undo (inverseV l e) (entriesV l e e0 e0) hE3
  rw [undo l e hE2] at u2
  rw [u2, if_pos (show (([z].length : Nat) : Int) = 1 from rfl), same_self _ _ (by omega) (by omega), Option.bind_some, if_pos rfl, same_self _ _ (by omega) (by omega), Option.bind_some]
end Go.Proofs.Ytebejadiaooooaa.Pure
end
section
namespace Go.Proofs.Ytebejadiaooooaa.topUndone
open Go.ChangeShapes Go.WideShapes Go.ChangeAt Go.RowKit Go.Proofs.Ytebejadiaooooaa.P Go.Proofs.Ytebejadiaooooaa.Rd Go.Proofs.YtebejadiaooooaaW.PrintWords
open Go.ChangeMaps (open_string shut_string)
theorem own : ownKnob Try.prog.godebug = none := by kernel_rfl
theorem laidOut : laidOutB Try.prog = true := by kernel_rfl
set_option maxHeartbeats 2000000 in
set_option maxRecDepth 100000 in
theorem lifted (os : Os) (started : os.Started) (H : Type) (enc : TypeId × Value → H) :
  ReturnsInHanded {} Try.checked os 4 .any (Rows.topUndoneSpec.pre6 enc Try.prog Try.f4 Rows.topUndoneRow.domain false) (Rows.topUndoneSpec.post enc Try.prog Try.f4 false true false false) := by
 refine returnsInHanded_of_change_sized (C := Try.checked) own started (by kernel_rfl) Try.func4
  (ChangeSpec.witness6 (enc := enc) (C := Try.checked) false ⟨#[], #[.slice none 0 0, .slice none 0 0], []⟩ 8 (by kernel_rfl) (by kernel_rfl) (by kernel_rfl) (by kernel_rfl)) ?_
 intro W base args ds gs before hval0 hW hcnd hsz0 _
 have hsz : (DataW.weightsEach Try.prog (Try.f4.params.toList ++ Rows.topUndoneSpec.plain.varTypes Try.prog) (ds ++ gs)).all (· ≤ reachBytes) = true := hsz0
 have hval : ∀ (j : Nat) t v, Try.f4.params[j]? = some t → args[j]? = some v → Value.okWide Try.prog W .any base t v := hval0
 have hW' := hW
 obtain ⟨p, q, hA0, hV, rfl, hfz, hnd⟩ := hW
 have hA : DataW.TrodAll enc Try.prog W 0 (fun _ => true) true Try.f4.params.toList args.toList ds p := hA0
 rw [Try.params4] at hA hval hsz
 obtain ⟨v0, vs0, d0, ds0, p0, q0, hargs, rfl, rfl, h0, r0⟩ := trodAll_cons hA
 obtain ⟨v1, vs1, d1, ds1, p1, q1, rfl, rfl, rfl, h1, r1⟩ := trodAll_cons r0
 obtain ⟨rfl, rfl, rfl⟩ := trodAll_nil r1
 obtain rfl : args = #[v0, v1] := by cases args; simp_all
 obtain ⟨rfl, rfl⟩ := trodVars_none hV
 have k0 := h0
 have lt0 : ∀ x ∈ p0, x.block < W.heap.size := by obtain ⟨m, hm⟩ := k0; exact DataW.trod_lt m _ _ _ hm
 have ww0 : ∀ n ∈ d0.weights Try.prog 22, n ≤ reachBytes := fun n hn => by simpa using List.all_eq_true.1 hsz n (DataW.weights_mem_each (j := 0) rfl rfl n hn)
 obtain ⟨ad0, len0, cap0, rfl⟩ := okWide_slice Try.underlying22 (hval 0 22 v0 rfl rfl)
 obtain ⟨fu0, hf0⟩ := h0
 obtain ⟨x0, kx0, w0⟩ := o22.down hf0 ww0
 obtain ⟨A0, c0, e0, hc0, hr0⟩ := kx0
 obtain ⟨rfl, rfl, rfl⟩ : ad0 = A0 ∧ len0 = x0.length ∧ cap0 = c0 := by simpa [Value.cells] using e0
 have k1 := h1
 have lt1 : ∀ x ∈ p1, x.block < W.heap.size := by obtain ⟨m, hm⟩ := k1; exact DataW.trod_lt m _ _ _ hm
 have ww1 : ∀ n ∈ d1.weights Try.prog 23, n ≤ reachBytes := fun n hn => by simpa using List.all_eq_true.1 hsz n (DataW.weights_mem_each (j := 1) rfl rfl n hn)
 obtain ⟨ad1, len1, cap1, rfl⟩ := okWide_slice Try.underlying23 (hval 1 23 v1 rfl rfl)
 obtain ⟨fu1, hf1⟩ := h1
 obtain ⟨x1, kx1, w1⟩ := o23.down hf1 ww1
 obtain ⟨A1, c1, e1, hc1, hr1⟩ := kx1
 obtain ⟨rfl, rfl, rfl⟩ : ad1 = A1 ∧ len1 = x1.length ∧ cap1 = c1 := by simpa [Value.cells] using e1
 clear hA0 hval0 hsz0 hsz
 obtain ⟨k_, hp⟩ := Pure.TopUndone x0 x1 w0 w1
 refine (catchmenttop_TopUndone.calls (k := k_) (r := true) (w := W) (hr0 := hr0) (hc0 := hc0) (hr1 := hr1) (hc1 := hc1) (h := hp)).mono fun e W' ⟨he, bel0⟩ => ?_
 have bel : Below W.heap.size W W' := bel0
 subst he
 exact ⟨_, rfl, _, _, _, [], _, [], hW', trodAll_mk1 (shut_bool Try.underlying4 _), (trodAll_cons_mk (Below.trod laidOut (by kernel_rfl) (of_decide_eq_true (by kernel_rfl)) k0 bel lt0) (trodAll_cons_mk (Below.trod laidOut (by kernel_rfl) (of_decide_eq_true (by kernel_rfl)) k1 bel lt1) trodAll_mk0)), rfl, bel.frame _, fun h => by cases h⟩
theorem over : Rows.topUndoneRow.holds Try.pinned (OpenSpec.ofChange Rows.topUndoneSpec) :=
 OpenClaim.holds_of_wide 4 Try.f4 rfl rfl rfl rfl rfl rfl rfl ⟨rfl, rfl, rfl, rfl, rfl⟩ rfl rfl rfl rfl rfl (by kernel_rfl) Try.func4 (by kernel_rfl)
  (of_decide_eq_true (by kernel_rfl)) (by unfold Func.isWrapper; first | (rw [if_pos (by decide +kernel)]; kernel_rfl) | (rw [if_neg (by decide +kernel)]; exact ⟨rfl, rfl⟩))
  (fun os started H enc _ => lifted os started H enc)
end Go.Proofs.Ytebejadiaooooaa.topUndone
namespace Go.Proofs.Ytebejadiaooooaa
theorem topUndone_holds : Rows.TopUndoneSaid := topUndone.over
#print axioms topUndone_holds
end Go.Proofs.Ytebejadiaooooaa
end
