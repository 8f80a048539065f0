/- A cursor that is told the entries of its range chunk by chunk: plainly. -/
import Derived.Test.YtohipdjoeoaphaaCh
import Derived.Test.YtohipdjoeoaphaaNd
set_option linter.unusedVariables false
set_option linter.unusedSimpArgs false
namespace Go.Proofs.Ytohipdjoeoaphaa.Cur
open Go Go.RowKit Go.Maps Go.Proofs.YtohipdjoeoaphaaW.PrintWords Go.Proofs.YtohipdjoeoaphaaW.PrintLast Go.Proofs.YtohipdjoeoaphaaW.PrintMore Go.Proofs.Ytohipdjoeoaphaa.Own Go.Proofs.Ytohipdjoeoaphaa.Ord Go.Proofs.Ytohipdjoeoaphaa.P
theorem rr_P (f t : ByteArray) : P.rr f t = rrB f t := by
  unfold P.rr P.emp P.lt rrB
  by_cases h : t.toList = [] <;> simp [h]
theorem holds_P (f t s : ByteArray) : P.holds f t s = holdsB f t s := by
  unfold holdsB ltB
  rw [P.holds_def, P.ah, ← rr_P]
  rfl
theorem inc_P : ∀ l : List En, P.risesV l = incB l
  | [] => rfl
  | [_] => rfl
  | x :: y :: l => by
    show (P.lt x.f0 y.f0 && P.risesV (y :: l)) = (ltB x.f0 y.f0 && incB (y :: l))
    rw [inc_P (y :: l)]; rfl
/-- What a cursor has still to tell, and what it told, make the range's entries. -/
structure WInv (f t : ByteArray) (e : List En) (x : X) (T : List En) : Prop where
  on : x.2.2 = false → x.2.1 = t ∧ P.rr x.1 t = true ∧ T ++ P.ents x.1 t e = P.ents f t e
  off : x.2.2 = true → T = P.ents f t e
def rem (t : ByteArray) (e : List En) (x : X) : Nat := if x.2.2 = true then 0 else (P.ents x.1 t e).length + 1
theorem WInv.start (f t : ByteArray) (e : List En) (h : rrB f t = true) : WInv f t e (f, t, false) [] := ⟨fun _ => ⟨rfl, (rr_P f t).trans h, rfl⟩, fun h => by cases h⟩
theorem rem_start (f t : ByteArray) (e : List En) (h : e.length ≤ 60) : rem t e (f, t, false) ≤ 61 := by
  have : (P.ents f t e).length ≤ e.length := List.length_filter_le _ _
  show (P.ents f t e).length + 1 ≤ 61
  omega
theorem WInv.len {f t : ByteArray} {e : List En} {x : X} {T : List En} (h : WInv f t e x T) : T.length ≤ e.length := by
  have h1 : (P.ents f t e).length ≤ e.length := List.length_filter_le _ _
  cases hx : x.2.2 with
  | true => rw [h.off hx]; exact h1
  | false =>
    have := congrArg List.length (h.on hx).2.2
    rw [List.length_append] at this
    omega
theorem WInv.step {f t : ByteArray} {e : List En} {x : X} {T : List En} (h : WInv f t e x T) (he : P.risesV e = true) (hx : x.2.2 = false) (k : Int) (hk : 1 ≤ k) :
    ∃ ee x', tookV (some x) ((P.ents x.1 t e).take k.toNat) k = (ee, 0, some x') ∧ WInv f t e x' (T ++ (P.ents x.1 t e).take k.toNat) ∧ rem t e x' + 1 ≤ rem t e x := by
  obtain ⟨ht, hr, hT⟩ := h.on hx
  obtain ⟨L, hL⟩ : ∃ L, L = P.ents x.1 t e := ⟨_, rfl⟩
  have hLr : P.risesV L = true := by rw [hL]; exact P.rises_filter _ _ he
  have hin : incB (L.take k.toNat) = true := by rw [← inc_P]; exact P.rises_take _ _ hLr
  have hout : outside x.1 x.2.1 (L.take k.toNat) = false := by
    unfold outside
    rw [List.any_eq_false]
    intro y hy
    have hm : y ∈ P.ents x.1 t e := by rw [← hL]; exact List.mem_of_mem_take hy
    have := (List.mem_filter.1 hm).2
    rw [ht, ← holds_P, this]
    simp
  have hrem : rem t e x = L.length + 1 := by unfold rem; rw [hx, hL]; rfl
  rw [← hL] at hT ⊢
  have hlen : (L.take k.toNat).length = min k.toNat L.length := List.length_take
  have hend : WInv f t e (e0, e0, true) (T ++ L.take k.toNat) → rem t e (e0, e0, true) + 1 ≤ rem t e x := fun _ => by
    rw [hrem]; show 0 + 1 ≤ _; omega
  have hval : tookV (some x) (L.take k.toNat) k = if ((L.take k.toNat).length : Int) < k then ((true, 0, some (e0, e0, true)) : Bool × Int × Option X) else
      match (L.take k.toNat)[(L.take k.toNat).length - 1]? with
      | none => (true, 0, none)
      | some z => ((behV x.1 x.2.1 z.f0).2.2, 0, some (behV x.1 x.2.1 z.f0)) := by
    obtain ⟨g, u, d⟩ := x
    subst hx
    unfold tookV
    simp only []
    rw [if_neg (by simp), if_neg (by omega), if_neg (by omega), if_neg (by rw [hin]; simp), if_neg (by rw [hout]; simp)]
    by_cases hq : ((L.take k.toNat).length : Int) < k
    · rw [if_pos (.inr hq), if_pos hq]
    · rw [if_neg (by simpa using hq), if_neg hq]
      rfl
  rw [hval]
  by_cases hq : ((L.take k.toNat).length : Int) < k
  · rw [if_pos hq]
    have hall : L.take k.toNat = L := List.take_of_length_le (by omega)
    have : WInv f t e (e0, e0, true) (T ++ L.take k.toNat) := ⟨fun h => (by cases h), fun _ => by rw [hall]; exact hT⟩
    exact ⟨_, _, rfl, this, hend this⟩
  · rw [if_neg hq]
    have hlt : (L.take k.toNat).length - 1 < (L.take k.toNat).length := by omega
    have hzs := List.getElem?_eq_getElem hlt
    obtain ⟨z, hz⟩ : ∃ z, z = (L.take k.toNat)[(L.take k.toNat).length - 1] := ⟨_, rfl⟩
    rw [hzs, ← hz]
    rw [← hz] at hzs
    have hbeh := P.ents_behind x.1 t e he k.toNat z (by rw [← hL]; exact hzs)
    rw [← hL] at hbeh
    refine ⟨_, _, rfl, ?_⟩
    unfold behV
    by_cases hb : rrB (aft z.f0) x.2.1 = true
    · rw [if_pos hb]
      refine ⟨⟨fun _ => ⟨ht, by rw [rr_P, ← ht]; exact hb, ?_⟩, fun h => by cases h⟩, ?_⟩
      · show T ++ L.take k.toNat ++ P.ents (P.succB z.f0) t e = _
        rw [hbeh, List.append_assoc, List.take_append_drop]
        exact hT
      · rw [hrem]
        show (P.ents (P.succB z.f0) t e).length + 1 + 1 ≤ _
        rw [hbeh, List.length_drop]
        omega
    · rw [if_neg hb]
      have hn : P.ents (P.succB z.f0) t e = [] := P.ents_none _ _ _ (by
        rw [rr_P, ← ht]
        cases q : rrB (P.succB z.f0) x.2.1 with
        | false => rfl
        | true => exact absurd q hb)
      rw [hbeh] at hn
      have : WInv f t e (e0, e0, true) (T ++ L.take k.toNat) := ⟨fun h => (by cases h), fun _ => by
        have h2 := List.take_append_drop k.toNat L
        rw [hn, List.append_nil] at h2
        rw [h2]; exact hT⟩
      exact ⟨this, hend this⟩
end Go.Proofs.Ytohipdjoeoaphaa.Cur
