/- Entries that rise: what no messages make of them; parts of them. -/
import Derived.Test.YtohipdjoeoaphaaNc
set_option linter.unusedVariables false
set_option linter.unusedSimpArgs false
namespace Go.Proofs.Ytohipdjoeoaphaa.P
open Go.RowKit Go.Proofs.YtohipdjoeoaphaaW.PrintWords Go.Proofs.YtohipdjoeoaphaaW.PrintLast Go.Proofs.YtohipdjoeoaphaaW.PrintMore Go.Proofs.Ytohipdjoeoaphaa.Own Go.Proofs.Ytohipdjoeoaphaa

theorem rises_tail {x : En} {l : List En} (h : risesV (x :: l) = true) : risesV l = true := by
  cases l with
  | nil => rfl
  | cons y l => simp only [risesV, Bool.and_eq_true] at h; exact h.2
theorem rises_lt : ∀ (x : En) (l : List En), risesV (x :: l) = true → ∀ y ∈ l, lt x.f0 y.f0 = true
  | _, [], _, _, hy => by cases hy
  | x, z :: l, h, y, hy => by
    simp only [risesV, Bool.and_eq_true] at h
    rcases List.mem_cons.1 hy with rfl | hy
    · exact h.1
    · exact lt_trans h.1 (rises_lt z l h.2 y hy)
theorem rises_cons {x : En} {l : List En} (h : ∀ y ∈ l, lt x.f0 y.f0 = true) (hl : risesV l = true) : risesV (x :: l) = true := by
  cases l with
  | nil => rfl
  | cons y l => simp only [risesV, Bool.and_eq_true]; exact ⟨h y (by simp), hl⟩
theorem rises_append : ∀ (a b : List En), risesV a = true → risesV b = true → (∀ x ∈ a, ∀ y ∈ b, lt x.f0 y.f0 = true) → risesV (a ++ b) = true
  | [], b, _, hb, _ => hb
  | x :: a, b, ha, hb, h => by
    refine rises_cons (fun y hy => ?_) (rises_append a b (rises_tail ha) hb (fun q hq y hy => h q (List.mem_cons_of_mem _ hq) y hy))
    rcases List.mem_append.1 hy with hy | hy
    · exact rises_lt x a ha y hy
    · exact h x (by simp) y hy
theorem rises_split : ∀ (a b : List En), risesV (a ++ b) = true → risesV a = true ∧ risesV b = true ∧ ∀ x ∈ a, ∀ y ∈ b, lt x.f0 y.f0 = true
  | [], b, h => ⟨rfl, h, fun x hx => by cases hx⟩
  | x :: a, b, h => by
    have h' : risesV (x :: (a ++ b)) = true := h
    obtain ⟨h1, h2, h3⟩ := rises_split a b (rises_tail h')
    have h4 := rises_lt x (a ++ b) h'
    refine ⟨rises_cons (fun y hy => h4 y (List.mem_append_left _ hy)) h1, h2, fun q hq y hy => ?_⟩
    rcases List.mem_cons.1 hq with rfl | hq
    · exact h4 y (List.mem_append_right _ hy)
    · exact h3 q hq y hy
theorem rises_filter (p : En → Bool) : ∀ l : List En, risesV l = true → risesV (l.filter p) = true
  | [], _ => rfl
  | x :: l, h => by
    have ih := rises_filter p l (rises_tail h)
    rw [List.filter_cons]
    split
    · exact rises_cons (fun y hy => rises_lt x l h y (List.mem_filter.1 hy).1) ih
    · exact ih
theorem rises_take (n : Nat) (l : List En) (h : risesV l = true) : risesV (l.take n) = true := (rises_split (l.take n) (l.drop n) (by rw [List.take_append_drop]; exact h)).1
theorem intoV_last : ∀ (o : List ByteArray) (s : ByteArray), (∀ x ∈ o, lt x s = true) → intoV o s = o ++ [s]
  | [], _, _ => rfl
  | x :: o, s, h => by
    rw [intoV, if_pos (h x (by simp)), intoV_last o s (fun y hy => h y (List.mem_cons_of_mem _ hy))]
    rfl
theorem addKeys_rise : ∀ (e : List En) (o : List ByteArray), risesV e = true → (∀ x ∈ o, ∀ y ∈ e, lt x y.f0 = true) → addKeys o e = o ++ e.map (·.f0)
  | [], o, _, _ => by simp [addKeys]
  | x :: e, o, h, ho => by
    rw [addKeys, intoV_last o x.f0 (fun y hy => ho y hy x (by simp)), addKeys_rise e _ (rises_tail h) (fun y hy z hz => ?_)]
    · simp
    · rcases List.mem_append.1 hy with hy | hy
      · exact ho y hy z (List.mem_cons_of_mem _ hz)
      · simp at hy; subst hy; exact rises_lt x e h z hz
theorem findV_mem : ∀ (e : List En) (x : En), risesV e = true → x ∈ e → findV e x.f0 = (x.f1, true)
  | y :: e, x, h, hx => by
    rw [findV]
    rcases List.mem_cons.1 hx with rfl | hx
    · rw [if_pos (same_iff.2 rfl)]
    · rw [if_neg (fun hs => ?_), findV_mem e x (rises_tail h) hx]
      have h1 := rises_lt y e h x hx
      rw [same_iff.1 hs, lt_irrefl] at h1
      cases h1
/-- The entries of a range. -/
def ents (f t : ByteArray) (e : List En) : List En := e.filter (fun x => holds f t x.f0)
theorem filterMap_some {α β γ : Type} (g : α → β) (p : α → Bool) (h : β → Option γ) (c : α → γ) : ∀ l : List α, (∀ x ∈ l, h (g x) = if p x = true then some (c x) else none) → (l.map g).filterMap h = (l.filter p).map c
  | [], _ => rfl
  | x :: l, H => by
    have h1 := H x (by simp)
    have h2 := filterMap_some g p h c l (fun y hy => H y (List.mem_cons_of_mem _ hy))
    rw [List.map_cons, List.filterMap_cons, h1, List.filter_cons]
    cases p x
    · simp only [Bool.false_eq_true, if_false]; exact h2
    · simp only [if_true, List.map_cons, h2]
theorem entriesV_nil (e : List En) (f t : ByteArray) (h : risesV e = true) (hr : rr f t = true) : entriesV [] e f t = ents f t e := by
  unfold entriesV namedV
  rw [show keysV [] = [] from rfl, addKeys_rise e [] h (by simp), List.nil_append]
  rw [filterMap_some (·.f0) (fun x => holds f t x.f0) _ (fun x => x) e (fun x hx => ?_)]
  · rw [List.map_id']; rfl
  · unfold entryOf
    rw [findV_mem e x h hx]
    show (if (true && rr f t && holds f t x.f0) = true then some (⟨x.f0, (norm x.f1 true)⟩ : En) else none) = _
    rw [hr]
    rfl
theorem ah_trans_le {a b t : ByteArray} (h : lt b a = false) (k : ah b t = true) : ah a t = true := ah_le h k
/-- Behind a part of the entries of a range are those that lie behind its last one. -/
theorem ents_behind (f t : ByteArray) (e : List En) (he : risesV e = true) (n : Nat) (z : En) (hz : ((ents f t e).take n)[((ents f t e).take n).length - 1]? = some z) : ents (succB z.f0) t e = (ents f t e).drop n := by
  have hL : risesV (ents f t e) = true := rises_filter _ _ he
  have hzm : z ∈ (ents f t e).take n := List.mem_of_getElem? hz
  have hsp := rises_split ((ents f t e).take n) ((ents f t e).drop n) (by rw [List.take_append_drop]; exact hL)
  have hzf : holds f t z.f0 = true := (List.mem_filter.1 (List.mem_of_mem_take hzm)).2
  have hzf1 : lt z.f0 f = false := by rw [holds_def] at hzf; cases q : lt z.f0 f <;> simp [q] at hzf ⊢
  have hlast : ∀ (l : List En) (z : En), risesV l = true → l[l.length - 1]? = some z → ∀ y ∈ l, lt z.f0 y.f0 = false := by
    intro l
    induction l with
    | nil => intro z _ _ y hy; cases hy
    | cons x l ih =>
      intro z h hz y hy
      cases l with
      | nil => simp at hz hy; subst hz; subst hy; exact lt_irrefl _
      | cons u l =>
        have h2 : (u :: l)[(u :: l).length - 1]? = some z := by simpa using hz
        rcases List.mem_cons.1 hy with rfl | hy
        · exact lt_asymm (rises_lt y _ h z (List.mem_of_getElem? h2))
        · exact ih z (rises_tail h) h2 y hy
  have hb := hlast _ z hsp.1 hz
  have step1 : ents (succB z.f0) t e = (ents f t e).filter (fun x => holds (succB z.f0) t x.f0) := by
    unfold ents
    rw [List.filter_filter]
    refine List.filter_congr (fun y _ => ?_)
    rw [holds_def, holds_def]
    cases h1 : ah y.f0 t
    · simp
    · cases h2 : lt y.f0 (succB z.f0)
      · have h3 : lt z.f0 y.f0 = true := by
          cases q : lt z.f0 y.f0 with
          | true => rfl
          | false => rw [(lt_succB _ _).2 q] at h2; cases h2
        have h4 : lt y.f0 f = false := by
          cases q : lt y.f0 f with
          | false => rfl
          | true => rw [lt_trans h3 q] at hzf1; cases hzf1
        simp [h4]
      · simp
  rw [step1]
  conv => lhs; rw [← List.take_append_drop n (ents f t e)]
  rw [List.filter_append]
  have g1 : ((ents f t e).take n).filter (fun x => holds (succB z.f0) t x.f0) = [] := List.filter_eq_nil_iff.2 (fun y hy => by
    have h1 : lt y.f0 (succB z.f0) = true := (lt_succB _ _).2 (hb y hy)
    rw [holds_def, h1]; simp)
  have g2 : ((ents f t e).drop n).filter (fun x => holds (succB z.f0) t x.f0) = (ents f t e).drop n := List.filter_eq_self.2 (fun y hy => by
    have h1 := hsp.2.2 z hzm y hy
    have h2 : lt y.f0 (succB z.f0) = false := by
      cases q : lt y.f0 (succB z.f0) with
      | false => rfl
      | true => rw [(lt_succB _ _).1 q] at h1; cases h1
    have h3 : holds f t y.f0 = true := (List.mem_filter.1 (show y ∈ List.filter (fun x => holds f t x.f0) e from List.mem_of_mem_drop hy)).2
    rw [holds_def] at h3 ⊢
    rw [h2]
    simp at h3 ⊢
    exact h3.2)
  rw [g1, g2, List.nil_append]
theorem ents_none (f t : ByteArray) (e : List En) (h : rr f t = false) : ents f t e = [] := by
  unfold ents
  refine List.filter_eq_nil_iff.2 (fun y _ hy => ?_)
  rw [holds_def] at hy
  rw [rr_def] at h
  simp at hy
  rw [ah_le hy.1 hy.2] at h
  cases h
end Go.Proofs.Ytohipdjoeoaphaa.P
