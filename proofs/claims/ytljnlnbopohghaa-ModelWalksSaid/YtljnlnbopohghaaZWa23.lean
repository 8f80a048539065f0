/- Texts of one claim (laid by shake.py). -/
import Derived.Test.YtljnlnbopohghaaZWa22
import Derived.Test.YtljnlnbopohghaaZWa14
import Derived.Test.YtljnlnbopohghaaZWa20
import Derived.Test.YtljnlnbopohghaaZWa5
import Derived.Test.YtljnlnbopohghaaZWa7
import Derived.Test.YtljnlnbopohghaaZWa15
import Derived.Test.YtljnlnbopohghaaZWa8
set_option linter.unusedVariables false
set_option linter.unusedSimpArgs false
section
namespace Go.Proofs.Ytljnlnbopohghaa.Mdl
open Go.RowKit Go.Shelf Go.Proofs.YtljnlnbopohghaaW.PrintWords Go.Proofs.YtljnlnbopohghaaW.PrintLast Go.Proofs.YtljnlnbopohghaaW.PrintMore Go.Proofs.Ytljnlnbopohghaa.Own Go.Proofs.Ytljnlnbopohghaa.Ord Go.Proofs.Ytljnlnbopohghaa Go.Proofs.Ytljnlnbopohghaa.P
set_option maxHeartbeats 1000000
open Go.Proofs.Ytljnlnbopohghaa.OrdSm (Hold hold_new)
set_option maxHeartbeats 2000000
set_option maxRecDepth 100000
structure Okd (n : Int) (s : St) (who : Int) (o : Oq) (N : Nat) : Prop where
 hn : n ≤ 1000000
 k0 : 0 ≤ o.k
 k1 : o.k ≤ 255
 nw : (Lit.int .i64 o.n).wf = true
 b1 : o.b.length ≤ 100000
 b2 : ∀ x ∈ o.b, x.f2.size ≤ 140737488351232
 s0 : 0 ≤ s.s
 s1 : s.s < 1000000
 l1 : s.L.length ≤ 500000
 l2 : ∀ x ∈ s.L, x.1.size ≤ 140737488351232
 t1 : (s.T who).length < 1000000
 hN : N + 1 < 1000000
theorem ask_kind {k : Int} {y t : ByteArray} {n : Int} {b : List Ms} {c0 c1 c8 : Int} (h : Pm.askV k y t n b c0 c1 c8 = 0) : k = 1 ∨ k = 2 ∨ k = 3 ∨ k = 4 ∨ k = 5 ∨ k = 6 := by
 unfold Pm.askV at h
 split at h
 ·cases h
 omega
theorem Md.mono {G : Nat → Nat} {w w' : World} {m : Nat} {c : Cf} {n : Int} {N N' : Nat} {r : Rp} {sends : Int} {L : Row} {T : Int → List Cu} {e : Ending} (h : Md G w m c n N r sends L T e w') (hN : N ≤ N') : Md G w m c n N' r sends L T e w' := by
 obtain ⟨v, rfl, G', h1, h2, h3, h4⟩ := h
 exact ⟨v, rfl, G', h1, h2.mono hN, h3, h4⟩
theorem do_any {G : Nat → Nat} {w : World} {m : Nat} {c : Cf} {n : Int} {s : St} {N : Nat} (h : Mw G w m c n s.s s.L s.T N) (who : Int) (o : Oq) (hk : Okd n s who o N) {A : Option Addr} {cap : Nat} (hC : ∀ W, It.FrM (fun k => G k ≠ 0) w W → Kd.C P.k117 W A o.b.length o.b) (hcap : o.b.length ≤ cap) :
  Calls Try.prog 23 #[.pointer (some ⟨m, 0, none⟩), .int .i64 who, .agg #[.int .u8 o.k, .string o.y, .string o.t, .int .i64 o.n, .slice A o.b.length cap]] w (Md G w m c n (N + 2) (doV c n s who o).1 (doV c n s who o).2.s (doV c n s who o).2.L (doV c n s who o).2.T) := by
 obtain ⟨g1, g2, g3, g4, g5, g6, g7, g8, g9, g10, g11, g12⟩ := hk
 have hC0 := hC w (It.FrM.refl _ _)
 by_cases hw : who < 1 ∨ who > n
 ·have e : doV c n s who o = (⟨2, false, e0, [], 0, false⟩, s) := by unfold doV; rw [if_pos hw]
  rw [e]
  exact (do_bad h who hw o).mono (fun _ _ h => h.mono (by omega))
 have hask := Pm.Ask_eq c.f0 c.f1 c.f2 c.f3 c.f4 c.f5 c.f6 c.f7 c.f8 0 o.k o.y o.t o.n o.b g6 (by omega) g2 g3
 by_cases he : ¬ Pm.askV o.k o.y o.t o.n o.b c.f0 c.f1 c.f8 = 0
 ·have e : doV c n s who o = (⟨Pm.askV o.k o.y o.t o.n o.b c.f0 c.f1 c.f8, false, e0, [], 0, false⟩, s) := by unfold doV; rw [if_neg hw, if_pos he]
  rw [e]
  exact (do_err h who hw o hC0 hcap _ _ hask he).mono (fun _ _ h => h.mono (by omega))
 have he0 : Pm.askV o.k o.y o.t o.n o.b c.f0 c.f1 c.f8 = 0 := Decidable.not_not.1 he
 rw [he0] at hask
 have h1 : 1 ≤ who := by omega
 have h2 : who ≤ 1000000 := by omega
 have n1 : ∀ a b : Int, a ≠ b → (a = b) = False := fun a b h => eq_false h
 rcases ask_kind he0 with q | q | q | q | q | q
 ·have e : doV c n s who o = (⟨0, (gotL s.L o.y).2, (gotL s.L o.y).1, [], 0, false⟩, s) := by unfold doV; rw [if_neg hw, if_neg he, if_pos q]
  rw [e]
  exact (do_get h who hw o hC0 hcap _ _ hask q rfl).mono (fun _ _ h => h.mono (by omega))
 ·have e : doV c n s who o = (⟨0, false, e0, [], 0, false⟩, ⟨s.s + 1, o.b.foldl sendV s.L, s.T⟩) := by unfold doV; rw [if_neg hw, if_neg he, if_neg (by omega), if_pos q]
  rw [e]
  exact (do_send h who hw o hC0 hcap _ _ hask q rfl hC g7 g8 g9 g5 g6).mono (fun _ _ h => h.mono (by omega))
 ·have e : doV c n s who o = (⟨0, false, e0, (someM o.y o.t s.L o.n).map toE, 0, false⟩, s) := by unfold doV; rw [if_neg hw, if_neg he, if_neg (by omega), if_neg (by omega), if_pos q]
  rw [e]
  exact (do_look h who hw o hC0 hcap _ _ hask q rfl (by omega)).mono (fun _ _ h => h.mono (by omega))
 ·have e : doV c n s who o = (⟨(openV (s.T who) o.y o.t).2.2, false, e0, [], (openV (s.T who) o.y o.t).2.1, false⟩, ⟨s.s, s.L, setT s.T who (openV (s.T who) o.y o.t).1⟩) := by unfold doV; rw [if_neg hw, if_neg he, if_neg (by omega), if_neg (by omega), if_neg (by omega), if_pos q]
  rw [e]
  exact do_open h who hw o hC0 hcap _ _ hask q rfl h1 h2 g12 g11
 ·have e : doV c n s who o = ((nextV c.f8 s.L (s.T who) o.n).1, ⟨s.s, s.L, setT s.T who (nextV c.f8 s.L (s.T who) o.n).2⟩) := by unfold doV; rw [if_neg hw, if_neg he, if_neg (by omega), if_neg (by omega), if_neg (by omega), if_neg (by omega), if_pos q]
  rw [e]
  exact do_next h who hw o hC0 hcap _ _ hask q rfl h1 h2 g12 g4 (by omega) g10
 have e : doV c n s who o = (⟨(closeC (s.T who) o.n).2, false, e0, [], 0, false⟩, ⟨s.s, s.L, setT s.T who (closeC (s.T who) o.n).1⟩) := by unfold doV; rw [if_neg hw, if_neg he, if_neg (by omega), if_neg (by omega), if_neg (by omega), if_neg (by omega), if_neg (by omega)]
 rw [e]
 exact do_close h who hw o hC0 hcap _ _ hask q rfl h1 h2 g12 g4
section
variable {V : Type}
theorem rise_uniq {k : ByteArray} {v v' : V} : ∀ {L : List (ByteArray × V)}, Rise OrdSm.lt L → (k, v) ∈ L → (k, v') ∈ L → v = v'
 | [], _, h, _ => by cases h
 | x :: L, hr, h, h' => by
  obtain ⟨h1, h2⟩ := List.pairwise_cons.1 hr
  rcases List.mem_cons.1 h with q | q
  ·rcases List.mem_cons.1 h' with r | r
   ·exact (Prod.mk.inj (q.trans r.symm)).2
   have := h1 _ r
   rw [← q, OrdSm.lin.irr] at this; cases this
  rcases List.mem_cons.1 h' with r | r
  ·have := h1 _ q
   rw [← r, OrdSm.lin.irr] at this; cases this
  exact rise_uniq h2 q r
theorem look_iff {L : List (ByteArray × V)} (h : Rise OrdSm.lt L) (k : ByteArray) (v : V) : lookK OrdSm.lt k L = some v ↔ (k, v) ∈ L := by
 unfold lookK
 have hk : ∀ x : ByteArray × V, (!OrdSm.lt x.1 k && !OrdSm.lt k x.1) = true ↔ x.1 = k := fun x => by
  simp only [Bool.and_eq_true, Bool.not_eq_true']
  constructor
  ·rintro ⟨a, b⟩; exact OrdSm.lin.tri a b
  intro e; rw [e]; exact ⟨OrdSm.lin.irr k, OrdSm.lin.irr k⟩
 cases hf : L.find? (fun x => !OrdSm.lt x.1 k && !OrdSm.lt k x.1) with
 | none =>
  constructor
  ·intro q; cases q
  intro q
  have := List.find?_eq_none.1 hf _ q
  exact absurd ((hk _).2 rfl) this
 | some y =>
  have hy := List.mem_of_find?_eq_some hf
  have hyk := (hk y).1 (by have := List.find?_some hf; exact this)
  obtain ⟨a, b⟩ := y
  simp only at hyk
  subst hyk
  simp only [Option.map_some, Option.some.injEq]
  constructor
  ·rintro rfl; exact hy
  intro q; exact rise_uniq h hy q
theorem look_ext {L : List (ByteArray × V)} (h : Rise OrdSm.lt L) (k : ByteArray) (o : Option V) (ho : ∀ v, (k, v) ∈ L ↔ o = some v) : lookK OrdSm.lt k L = o := by
 apply Option.ext
 intro v
 rw [look_iff h, ho]
theorem mem_ins (k : ByteArray) (v : V) (L : List (ByteArray × V)) (a : ByteArray) (b : V) : (a, b) ∈ ins OrdSm.lt k v L ↔ (a = k ∧ b = v) ∨ (a ≠ k ∧ (a, b) ∈ L) := by
 unfold ins
 rw [List.mem_append, List.mem_cons, List.mem_filter, List.mem_filter]
 simp only [Prod.mk.injEq]
 have tri : a ≠ k ↔ OrdSm.lt a k = true ∨ OrdSm.lt k a = true := by
  constructor
  ·intro h
   cases q : OrdSm.lt a k with
   | true => exact .inl rfl
   | false =>
    cases r : OrdSm.lt k a with
    | true => exact .inr rfl
    | false => exact absurd (OrdSm.lin.tri q r) h
  rintro (h | h) rfl
  ·rw [OrdSm.lin.irr] at h; cases h
  rw [OrdSm.lin.irr] at h; cases h
 rw [tri]
 constructor
 ·rintro (⟨h1, h2⟩ | h | ⟨h1, h2⟩)
  ·exact .inr ⟨.inl h2, h1⟩
  ·exact .inl h
  exact .inr ⟨.inr h2, h1⟩
 rintro (h | ⟨h1 | h1, h2⟩)
 ·exact .inr (.inl h)
 ·exact .inl ⟨h2, h1⟩
 exact .inr (.inr ⟨h2, h1⟩)
theorem mem_del (k : ByteArray) (L : List (ByteArray × V)) (a : ByteArray) (b : V) : (a, b) ∈ del OrdSm.lt k L ↔ a ≠ k ∧ (a, b) ∈ L := by
 unfold del
 rw [List.mem_filter]
 simp only [Bool.or_eq_true]
 constructor
 ·rintro ⟨h1, h2⟩
  refine ⟨?_, h1⟩
  rintro rfl
  rw [OrdSm.lin.irr] at h2
  simp at h2
 rintro ⟨h1, h2⟩
 refine ⟨h2, ?_⟩
 cases q : OrdSm.lt a k with
 | true => exact .inl rfl
 | false =>
  cases r : OrdSm.lt k a with
  | true => exact .inr rfl
  | false => exact absurd (OrdSm.lin.tri q r) h1
theorem look_ins {L : List (ByteArray × V)} (h : Rise OrdSm.lt L) (k : ByteArray) (v : V) (s : ByteArray) : lookK OrdSm.lt s (ins OrdSm.lt k v L) = if s = k then some v else lookK OrdSm.lt s L := by
 refine look_ext (ins_rise OrdSm.lin k v h) s _ (fun b => ?_)
 rw [mem_ins]
 by_cases hs : s = k
 ·rw [if_pos hs]
  simp only [hs, true_and, ne_eq, not_true_eq_false, false_and, or_false, Option.some.injEq]
  exact eq_comm
 rw [if_neg hs, look_iff h]
 simp [hs]
theorem look_del {L : List (ByteArray × V)} (h : Rise OrdSm.lt L) (k s : ByteArray) : lookK OrdSm.lt s (del OrdSm.lt k L) = if s = k then none else lookK OrdSm.lt s L := by
 refine look_ext (L := del OrdSm.lt k L) (h.filter _) s _ (fun b => ?_)
 rw [mem_del]
 by_cases hs : s = k
 ·rw [if_pos hs]; simp [hs]
 rw [if_neg hs, look_iff h]; simp [hs]
end
theorem got_ofO (L : Row) (s : ByteArray) : gotL L s = ofO (lookK OrdSm.lt s L) := by
 unfold gotL
 cases lookK OrdSm.lt s L <;> rfl
theorem look_drops (s : ByteArray) : ∀ (ks : List ByteArray) (L : Row), Rise OrdSm.lt L → (s ∈ ks → lookK OrdSm.lt s (dropsV ks L) = none) ∧ (s ∉ ks → lookK OrdSm.lt s (dropsV ks L) = lookK OrdSm.lt s L)
 | [], L, _ => ⟨(fun h => nomatch h), fun _ => rfl⟩
 | k :: ks, L, h => by
  obtain ⟨i1, i2⟩ := look_drops s ks _ (del_rise k h)
  rw [look_del h] at i2
  have e : dropsV (k :: ks) L = dropsV ks (del OrdSm.lt k L) := rfl
  rw [e]
  refine ⟨fun q => ?_, fun q => ?_⟩
  ·by_cases h1 : s ∈ ks
   ·exact i1 h1
   rw [i2 h1, if_pos ((List.mem_cons.1 q).resolve_right h1)]
  rw [i2 (fun r => q (List.mem_cons_of_mem _ r)), if_neg (fun r => q (by rw [r]; exact List.mem_cons_self))]
theorem look_send {L : Row} (h : Rise OrdSm.lt L) (m : Ms) (s : ByteArray) : ofO (lookK OrdSm.lt s (sendV L m)) = onM m s (ofO (lookK OrdSm.lt s L)) := by
 have still : (touches m.f0 m.f2 m.f3 s = false) → onM m s (ofO (lookK OrdSm.lt s L)) = ofO (lookK OrdSm.lt s L) := fun ht => by
  unfold onM onV
  rw [ht]
  cases lookK OrdSm.lt s L <;> rfl
 unfold sendV
 by_cases h4 : m.f0 = 4
 ·rw [if_pos h4]
  have hd := look_drops s ((L.filter (fun x => holds m.f2 m.f3 x.1)).map (·.1)) L h
  have ht : touches m.f0 m.f2 m.f3 s = holds m.f2 m.f3 s := by unfold touches; rw [h4]; simp [isPt]
  have hmem : s ∈ ((L.filter (fun x => holds m.f2 m.f3 x.1)).map (·.1)) ↔ holds m.f2 m.f3 s = true ∧ ∃ v, lookK OrdSm.lt s L = some v := by
   rw [List.mem_map]
   constructor
   ·rintro ⟨⟨a, b⟩, hx, rfl⟩
    obtain ⟨h1, h2⟩ := List.mem_filter.1 hx
    exact ⟨h2, b, (look_iff h a b).2 h1⟩
   rintro ⟨h1, v, h2⟩
   exact ⟨(s, v), List.mem_filter.2 ⟨(look_iff h s v).1 h2, h1⟩, rfl⟩
  cases hh : holds m.f2 m.f3 s with
  | true =>
   unfold onM onV
   rw [ht, hh, h4]
   cases hl : lookK OrdSm.lt s L with
   | none =>
    rw [hd.2 (fun q => by obtain ⟨_, v, e⟩ := hmem.1 q; rw [hl] at e; cases e), hl]
    simp [applyV, ofO]
   | some v =>
    rw [hd.1 (hmem.2 ⟨hh, v, hl⟩)]
    simp [applyV, ofO]
  | false =>
   rw [hh] at ht
   rw [still ht, hd.2 (fun q => by have := (hmem.1 q).1; rw [hh] at this; cases this)]
 rw [if_neg h4]
 have ht : touches m.f0 m.f2 m.f3 s = (isPt m.f0 && same m.f2 s) := by unfold touches; simp [h4]
 rw [got_ofO]
 by_cases hs : s = m.f2
 ·have hs2 : same m.f2 s = true := same_iff.2 hs.symm
  have key : onM m s (ofO (lookK OrdSm.lt s L)) = applyV m.f0 m.f4 m.f5 (ofO (lookK OrdSm.lt s L)).1 (ofO (lookK OrdSm.lt s L)).2 := by
   unfold onM onV
   rw [ht, hs2, Bool.and_true]
   by_cases hp : isPt m.f0 = true
   ·rw [if_pos hp]
   rw [if_neg hp]
   have n1 : ¬ m.f0 = 1 := fun e => hp (by rw [e]; decide)
   have n2 : ¬ m.f0 = 2 := fun e => hp (by rw [e]; decide)
   have n3 : ¬ m.f0 = 3 := fun e => hp (by rw [e]; decide)
   unfold applyV
   simp [n1, n2, n3, h4]
  have td := tidy_apply m.f0 m.f4 m.f5 (ofO (lookK OrdSm.lt s L)).1 (ofO (lookK OrdSm.lt s L)).2
  rw [key]
  subst hs
  split
  ·rename_i q
   rw [look_ins h, if_pos rfl]
   exact Prod.ext rfl q.symm
  rename_i q
  rw [look_del h, if_pos rfl]
  have q2 : (applyV m.f0 m.f4 m.f5 (ofO (lookK OrdSm.lt m.f2 L)).1 (ofO (lookK OrdSm.lt m.f2 L)).2).2 = false := by simpa using q
  exact Prod.ext (td q2).symm q2.symm
 have hs2 : same m.f2 s = false := by cases q : same m.f2 s with | false => rfl | true => exact absurd (same_iff.1 q).symm hs
 rw [hs2, Bool.and_false] at ht
 rw [still ht]
 split
 ·rw [look_ins h, if_neg hs]
 rw [look_del h, if_neg hs]
theorem look_sends (s : ByteArray) : ∀ (l : List Ms) (L : Row), Rise OrdSm.lt L → ofO (lookK OrdSm.lt s (l.foldl sendV L)) = doAll s l (ofO (lookK OrdSm.lt s L))
 | [], L, _ => rfl
 | m :: l, L, h => by
  show ofO (lookK OrdSm.lt s (l.foldl sendV (sendV L m))) = doAll s (m :: l) _
  rw [look_sends s l _ (send_rise h m), look_send h]
  rfl
theorem ents_send (l : List Ms) {L : Row} (h : Rise OrdSm.lt L) : entriesV l (L.map toE) e0 e0 = (l.foldl sendV L).map toE := by
 have hr := (sends_rise l h).1
 refine riseE_ext (rise_entries _ _ _ _) (riseE_iff.1 (rises_map hr)) (fun x => ?_)
 rw [mem_entries]
 have e : valO l (L.map toE) x.f0 = lookK OrdSm.lt x.f0 (l.foldl sendV L) := by
  unfold valO
  rw [find_ref, got_ofO, ← look_sends x.f0 l L h, toO_ofO]
 rw [e, look_iff hr]
 constructor
 ·rintro ⟨_, _, h3⟩
  exact List.mem_map.2 ⟨_, h3, rfl⟩
 intro q
 obtain ⟨⟨a, b⟩, h1, rfl⟩ := List.mem_map.1 q
 exact ⟨rr_all, holds_all _, h1⟩
theorem some_ref2 {L : Row} (h : Rise OrdSm.lt L) (f t : ByteArray) (k : Int) : someV [] (L.map toE) f t k = (someM f t L k).map toE := by
 by_cases hr : rr f t = true
 ·exact some_ref (rises_map h) f t hr k
 have hr2 : rr f t = false := by simpa using hr
 have a : entriesV [] (L.map toE) f t = [] := by
  refine List.eq_nil_iff_forall_not_mem.2 (fun x hx => ?_)
  exact hr ((mem_entries _ _ _ _ _).1 hx).1
 have b : L.filter (fun x => holds f t x.1) = [] := by
  have := ents_none f t (L.map toE) hr2
  rw [ents_map] at this
  exact List.map_eq_nil_iff.1 this
 unfold someV someM
 rw [a, b]
 simp
theorem drops_mem {x : ByteArray × ByteArray} : ∀ (ks : List ByteArray) (L : Row), x ∈ dropsV ks L → x ∈ L
 | [], _, h => h
 | k :: ks, L, h => (List.mem_filter.1 (drops_mem ks (del OrdSm.lt k L) h)).1
theorem send_key {P : ByteArray → Prop} {L : Row} (m : Ms) (hL : ∀ x ∈ L, P x.1) (hm : P m.f2) : ∀ x ∈ sendV L m, P x.1 := by
 intro x hx
 unfold sendV at hx
 split at hx
 ·exact hL x (drops_mem _ _ hx)
 split at hx
 ·unfold ins at hx
  rcases List.mem_append.1 hx with q | q
  ·exact hL x (List.mem_filter.1 q).1
  rcases List.mem_cons.1 q with q | q
  ·rw [q]; exact hm
  exact hL x (List.mem_filter.1 q).1
 exact hL x (List.mem_filter.1 hx).1
theorem sends_key {P : ByteArray → Prop} : ∀ (l : List Ms) {L : Row}, (∀ x ∈ L, P x.1) → (∀ m ∈ l, P m.f2) → ∀ x ∈ l.foldl sendV L, P x.1
 | [], _, hL, _ => hL
 | m :: l, _, hL, hl => sends_key l (send_key m hL (hl m List.mem_cons_self)) (fun x hx => hl x (List.mem_cons_of_mem _ hx))
theorem inc_eq (l : List En) (hl : l.length ≤ 1000000) : Cur.incB l = risesV l :=
 Option.some.inj ((Cur.ref_eq 10 l (by omega)).symm.trans (Rises_eq _ l hl (by omega)))
theorem holds_cur (f t s : ByteArray) : Cur.holdsB f t s = holds f t s :=
 Option.some.inj ((Cur.holds2_eq f t s).symm.trans (ref02_Holds_eq f t s))
theorem rr_cur (f t : ByteArray) : Cur.rrB f t = rr f t :=
 Option.some.inj ((Cur.right_eq f t).symm.trans (ref02_Right_eq f t))
theorem took_ok {L : Row} (h : Rise OrdSm.lt L) (cs : List Cu) (k chunk : Int) (h1 : 1 ≤ chunk) (x : Cur.X) (hx : tabF cs k = some x) (hl : L.length ≤ 1000000) :
  (tookC cs k (if x.2.2 = true then [] else (someM x.1 x.2.1 L chunk).map toE) chunk).2.2 = 0 := by
 obtain ⟨f, t, d⟩ := x
 simp only
 unfold tookC
 rw [hx]
 simp only
 rw [tookV_end]
 have he : ∀ (l : List En), (tookEnd f t d l chunk).2.1 = 0 := fun l => by
  unfold tookEnd
  split
  ·rfl
  split <;> rfl
 cases d with
 | true =>
  simp only [if_true, List.length_nil]
  rw [if_neg (by simp), if_neg (by omega), if_neg (by simp; omega), if_neg (by simp [Cur.incB]), if_neg (by simp [Cur.outside])]
  exact he []
 | false =>
  simp only [Bool.false_eq_true, if_false, false_and]
  have hlen : (((someM f t L chunk).map toE).length : Int) ≤ chunk := by
   unfold someM
   rw [List.length_map, List.length_take]
   omega
  have hlen2 : ((someM f t L chunk).map toE).length ≤ 1000000 := by
   unfold someM
   rw [List.length_map, List.length_take]
   have := List.length_filter_le (fun x : ByteArray × ByteArray => holds f t x.1) L
   omega
  have hin : risesV ((someM f t L chunk).map toE) = true := by
   refine rises_map ?_
   exact (h.filter _).sublist (List.take_sublist _ _)
  have hout : Cur.outside f t ((someM f t L chunk).map toE) = false := by
   unfold Cur.outside
   rw [List.any_eq_false]
   intro y hy
   obtain ⟨z, hz, rfl⟩ := List.mem_map.1 hy
   have := (List.mem_filter.1 (List.mem_of_mem_take hz)).2
   rw [holds_cur]
   show ¬ (!holds f t z.1) = true
   rw [this]
   simp
  rw [if_neg (by omega), if_neg (by omega), inc_eq _ hlen2, if_neg (by rw [hin]; simp), if_neg (by rw [hout]; simp)]
  exact he _
abbrev aggC (c : Cf) : Value := .agg #[.int .i64 c.f0, .int .i64 c.f1, .int .i64 c.f2, .int .i64 c.f3, .int .i64 c.f4, .int .i64 c.f5, .int .i64 c.f6, .int .i64 c.f7, .int .i64 c.f8]
abbrev objC (c : Cf) : Obj := .cells #[.int .i64 c.f0, .int .i64 c.f1, .int .i64 c.f2, .int .i64 c.f3, .int .i64 c.f4, .int .i64 c.f5, .int .i64 c.f6, .int .i64 c.f7, .int .i64 c.f8] 47 (0, 0)
def NewV (w : World) (c : Cf) (n : Int) (e : Ending) (w' : World) : Prop := ∃ m G, e = .returned (.tuple #[.pointer (some ⟨m, 0, none⟩), .int .i64 0]) ∧ Mw G w' m c n 0 [] (fun _ => []) 0 ∧ (∀ k, k < w.heap.size → G k = 0) ∧ Below w.heap.size w w'
theorem new_bad (w : World) (c : Cf) (n : Int) (r : Int) (hc : room_Check.f c.f0 c.f1 c.f2 c.f3 c.f4 c.f5 c.f6 c.f7 c.f8 = some r) (h : ¬ r = 0 ∨ n < 1 ∨ n > 64) :
  Calls Try.prog 34 #[aggC c, .int .i64 n] w fun e w' => e = .returned (.tuple #[.pointer none, .int .i64 2]) ∧ Below w.heap.size w w' := by
 have huc := Try.underlying47
 have hB0 : Below w.heap.size w (w.alloc (objC c)) := below_alloc (Below.refl _ _) _
 have CK := room_Check.calls c.f0 c.f1 c.f2 c.f3 c.f4 c.f5 c.f6 c.f7 c.f8 r (w.alloc (objC c)) hc
 have hB := aK_ hB0
 clear hB0 hc
 go_enter Try.func34, Try.ntmps34
 by_cases h1 : r = 0
 ·subst h1
  have q0 : ((0 : Int) == 0) = true := rfl
  by_cases h2 : n < 1
  ·have d0 := decide_eq_true h2
   go_wp2_with (first | (go_at_call 67; refine CK.mono ?_; clear CK; rintro e w2 ⟨rfl, hb⟩; have hbA := aK_ hb; clear hb))
   go_ret2
   exact ⟨rfl, below_then hB.out hB.out.size hbA.out⟩
  have h3 : n > 64 := by omega
  have d0 := decide_eq_false h2
  have d1 := decide_eq_true h3
  go_wp2_with (first | (go_at_call 67; refine CK.mono ?_; clear CK; rintro e w2 ⟨rfl, hb⟩; have hbA := aK_ hb; clear hb))
  go_ret2
  exact ⟨rfl, below_then hB.out hB.out.size hbA.out⟩
 have q0 : (r == 0) = false := by simpa using h1
 go_wp2_with (first | (go_at_call 67; refine CK.mono ?_; clear CK; rintro e w2 ⟨rfl, hb⟩; have hbA := aK_ hb; clear hb))
 go_ret2
 exact ⟨rfl, below_then hB.out hB.out.size hbA.out⟩
def OK9 (c : Cf) (a : Nat) (w : World) : Prop := w.cell? ⟨a, 0, none⟩ = some (.int .i64 c.f0) ∧ w.cell? ⟨a, 1, none⟩ = some (.int .i64 c.f1) ∧ w.cell? ⟨a, 2, none⟩ = some (.int .i64 c.f2) ∧ w.cell? ⟨a, 3, none⟩ = some (.int .i64 c.f3) ∧ w.cell? ⟨a, 4, none⟩ = some (.int .i64 c.f4) ∧ w.cell? ⟨a, 5, none⟩ = some (.int .i64 c.f5) ∧ w.cell? ⟨a, 6, none⟩ = some (.int .i64 c.f6) ∧ w.cell? ⟨a, 7, none⟩ = some (.int .i64 c.f7) ∧ w.cell? ⟨a, 8, none⟩ = some (.int .i64 c.f8)
theorem cell_below {w w' : World} {n : Nat} {a : Nat} {i : Nat} {v : Value} (h : w.cell? ⟨a, i, none⟩ = some v) (hb : Below w.heap.size w w') : w'.cell? ⟨a, i, none⟩ = some v := by
 have : a < w.heap.size := by
  rcases Nat.lt_or_ge a w.heap.size with q | q
  ·exact q
  exfalso
  have e : w.heap[a]? = none := by simp; omega
  simp [World.cell?, e] at h
 rw [← h]
 simp only [World.cell?, hb.block a this]
theorem OK9.below {c : Cf} {a : Nat} {w w' : World} (h : OK9 c a w) (hb : Below w.heap.size w w') : OK9 c a w' := by
 obtain ⟨h0, h1, h2, h3, h4, h5, h6, h7, h8⟩ := h
 exact ⟨cell_below (n := 0) h0 hb, cell_below (n := 0) h1 hb, cell_below (n := 0) h2 hb, cell_below (n := 0) h3 hb, cell_below (n := 0) h4 hb, cell_below (n := 0) h5 hb, cell_below (n := 0) h6 hb, cell_below (n := 0) h7 hb, cell_below (n := 0) h8 hb⟩
theorem OK9.alloc {c : Cf} {a : Nat} {w : World} (h : OK9 c a w) (o : Obj) : OK9 c a (w.alloc o) := h.below (below_alloc (Below.refl _ _) _)
theorem new_made {w W : World} {m em cb a b : Nat} {c : Cf} {n : Int} (hm : W.heap[m]? = some (objM c n em cb 0)) (hH : Hold (fun k => a ≤ k ∧ k < b) W em []) (hT : TP W cb 0 (fun _ => none)) (h1 : w.heap.size ≤ m) (h2 : w.heap.size ≤ cb) (h3 : m ≠ cb) (h4 : w.heap.size ≤ a) (h5 : ¬ (a ≤ m ∧ m < b)) (h6 : ¬ (a ≤ cb ∧ cb < b)) (hb : b ≤ W.heap.size) (hB : Below w.heap.size w W) :
  NewV w c n (.returned (.tuple #[.pointer (some ⟨m, 0, none⟩), .int .i64 0])) W := by
 have lm := blk_lt hm
 have lc := hT.lt
 refine ⟨m, fun k => if k = m then 1 else if k = cb then 2 else if a ≤ k ∧ k < b then 3 else 0, rfl, ⟨fun k hk => ?_, em, cb, 0, fun _ => none, fun _ => 0, ⟨hm, if_pos rfl, hH.mono (fun k hk => ?_), hT, ?_, Nat.le_refl _, fun _ _ => rfl, fun v q hq => by cases hq⟩⟩, fun k hk => ?_, hB⟩
 ·simp only at hk
  by_cases e1 : k = m
  ·omega
  by_cases e2 : k = cb
  ·omega
  rw [if_neg e1, if_neg e2] at hk
  by_cases e3 : a ≤ k ∧ k < b
  ·omega
  rw [if_neg e3] at hk; exact absurd rfl hk
 ·show (if k = m then 1 else if k = cb then 2 else if a ≤ k ∧ k < b then 3 else 0) = 3
  rw [if_neg (fun e : k = m => h5 (by rw [← e]; exact hk)), if_neg (fun e : k = cb => h6 (by rw [← e]; exact hk)), if_pos hk]
 ·show (if cb = m then 1 else if cb = cb then 2 else if a ≤ cb ∧ cb < b then 3 else 0) = 2
  rw [if_neg (fun e => h3 e.symm), if_pos rfl]
 show (if k = m then 1 else if k = cb then 2 else if a ≤ k ∧ k < b then 3 else 0) = 0
 rw [if_neg (by omega), if_neg (by omega), if_neg (by omega)]
theorem new_ok (w : World) (c : Cf) (n : Int) (hc : room_Check.f c.f0 c.f1 c.f2 c.f3 c.f4 c.f5 c.f6 c.f7 c.f8 = some 0) (h1 : 1 ≤ n) (h2 : n ≤ 64) :
  Calls Try.prog 34 #[aggC c, .int .i64 n] w (NewV w c n) := by
 have huc := Try.underlying47
 have hum := Try.underlying122
 have hmm := @run_makeMap Try.prog
 have hB0 : Below w.heap.size w (w.alloc (objC c)) := below_alloc (Below.refl _ _) _
 have bC := blk_new w (objC c)
 have CK := (room_Check.calls c.f0 c.f1 c.f2 c.f3 c.f4 c.f5 c.f6 c.f7 c.f8 0 (w.alloc (objC c)) hc).mono (R' := fun e w2 => e = .returned (.int .i64 0) ∧ Aside0 (Below w.heap.size w w2 ∧ w2.heap[w.heap.size]? = some (objC c))) (by
  rintro e w2 ⟨rfl, hb⟩
  exact ⟨rfl, ⟨below_then hB0 hB0.size hb, blk_below bC hb⟩⟩)
 have d0 := decide_eq_false (show ¬ n < 1 by omega)
 have d1 := decide_eq_false (show ¬ n > 64 by omega)
 have q0 : ((0 : Int) == 0) = true := rfl
 clear hB0 hc bC
 go_enter Try.func34, Try.ntmps34
 go_wp2_with (first | (go_at_call 67; refine CK.mono ?_; clear CK; rintro e w2 ⟨rfl, hA2⟩))
 obtain ⟨hB2, bC2⟩ := hA2.out
 have bC3 : w2.drew.heap[w.heap.size]? = _ := bC2
 have u0 := blk_cell bC3 0
 have u1 := blk_cell bC3 1
 have u2 := blk_cell bC3 2
 have u3 := blk_cell bC3 3
 have u4 := blk_cell bC3 4
 have u5 := blk_cell bC3 5
 have u6 := blk_cell bC3 6
 have u7 := blk_cell bC3 7
 have u8 := blk_cell bC3 8
 simp at u0 u1 u2 u3 u4 u5 u6 u7 u8
 have hN0 : ∀ W, OK9 c w.heap.size W → Calls Try.prog 68 #[] W fun e w' => ∃ em, e = .returned (.pointer (some ⟨em, 0, none⟩)) ∧ OK9 c w.heap.size w' ∧ Aside0 (Hold (fun k => W.heap.size ≤ k) w' em [] ∧ Below W.heap.size W w') := fun W hW => (hold_new W).mono (by
  rintro e w' ⟨em, rfl, hH, hb⟩
  exact ⟨em, rfl, hW.below hb, ⟨hH, hb⟩⟩)
 clear hB2 bC2 bC3
 have hOK : OK9 c w.heap.size w2.drew := ⟨u0, u1, u2, u3, u4, u5, u6, u7, u8⟩
 go_region_held3 (fun w' => w'.cell? ⟨w.heap.size, 0, none⟩ = some (.int .i64 c.f0) ∧ w'.cell? ⟨w.heap.size, 1, none⟩ = some (.int .i64 c.f1) ∧ w'.cell? ⟨w.heap.size, 2, none⟩ = some (.int .i64 c.f2) ∧ w'.cell? ⟨w.heap.size, 3, none⟩ = some (.int .i64 c.f3) ∧ w'.cell? ⟨w.heap.size, 4, none⟩ = some (.int .i64 c.f4) ∧ w'.cell? ⟨w.heap.size, 5, none⟩ = some (.int .i64 c.f5) ∧ w'.cell? ⟨w.heap.size, 6, none⟩ = some (.int .i64 c.f6) ∧ w'.cell? ⟨w.heap.size, 7, none⟩ = some (.int .i64 c.f7) ∧ w'.cell? ⟨w.heap.size, 8, none⟩ = some (.int .i64 c.f8)) (first | exact ⟨by assumption, by assumption, by assumption, by assumption, by assumption, by assumption, by assumption, by assumption, by assumption⟩ | exact hOK | exact hOK.alloc _ | exact (OK9.alloc (by assumption) _) | exact ((hOK.alloc _).alloc _) | exact (OK9.alloc (OK9.alloc (by assumption) _) _))
   (first
    | (go_at_call 68; (first | refine (hN0 _ hOK).mono ?_ | refine (hN0 _ (hOK.alloc _)).mono ?_); rintro x w3 ⟨em, rfl, hOK3, hA3⟩; obtain ⟨y0, y1, y2, y3, y4, y5, y6, y7, y8⟩ := id hOK3))
 ·go_wp2
  go_ret2
  obtain ⟨hB2, bC2⟩ := hA2.out
  obtain ⟨hH3, hb3⟩ := hA3.out
  have hB2d := below_drew1 hB2
  have hB3 := below_then hB2d hB2d.size hb3
  have sw := hB2d.size
  have s3 := hb3.size
  have hB5 : Below w.heap.size w ((w3.alloc (.map #[] 0)).alloc (objM c n em w3.heap.size 0)) := below_alloc (below_alloc hB3 _) _
  have hm5 := blk_new (w3.alloc (.map #[] 0)) (objM c n em w3.heap.size 0)
  rw [World.size_alloc] at hm5
  have g : Below w3.heap.size w3 ((w3.alloc (.map #[] 0)).alloc (objM c n em w3.heap.size 0)) := below_alloc (below_alloc (Below.refl _ _) _) _
  exact new_made (a := w2.drew.heap.size) (b := w3.heap.size) hm5 (hH3.bound.below g) ((TP.made w3).fr ((below_alloc (Below.refl (w3.alloc (.map #[] 0)).heap.size (w3.alloc (.map #[] 0))) (objM c n em w3.heap.size 0)).block _ (by simp))) (by omega) (by omega) (by omega) (by omega) (by omega) (by omega) g.size hB5
 go_wp2
 go_ret2
 obtain ⟨hB2, bC2⟩ := hA2.out
 obtain ⟨hH3, hb3⟩ := hA3.out
 have hB2d := below_drew1 hB2
 have sw := hB2d.size
 have hBm : Below w.heap.size w (w2.drew.alloc (.map #[] 0)) := below_alloc hB2d _
 have sm := hBm.size
 have hB3 := below_then hBm hBm.size hb3
 have s3 := hb3.size
 have sd : (w2.drew.alloc (.map #[] 0)).heap.size = w2.drew.heap.size + 1 := by simp
 have hm5 := blk_new w3 (objM c n em w2.drew.heap.size 0)
 have hT3 : TP w3 w2.drew.heap.size 0 (fun _ => none) := (TP.made w2.drew).fr (hb3.block _ (by omega))
 exact new_made (a := (w2.drew.alloc (.map #[] 0)).heap.size) (b := w3.heap.size) hm5 (hH3.bound.below (below_alloc (Below.refl _ _) _)) (hT3.fr ((below_alloc (Below.refl w3.heap.size w3) (objM c n em w2.drew.heap.size 0)).block _ (by omega))) (by omega) (by omega) (by omega) (by omega) (by omega) (by omega) (by simp) (below_alloc hB3 _)
abbrev objX (c : Cf) (n : Int) (A : Option Addr) (l cp tb k : Nat) (sends : Int) : Obj := .cells #[.int .i64 c.f0, .int .i64 c.f1, .int .i64 c.f2, .int .i64 c.f3, .int .i64 c.f4, .int .i64 c.f5, .int .i64 c.f6, .int .i64 c.f7, .int .i64 c.f8, .int .i64 n, .slice A l cp, .slice (some ⟨tb, 0, none⟩) k k, .int .i64 sends] 65 (0, 0)
structure Rx (Z : Nat → Prop) (w : World) (x tb : Nat) (c : Cf) (n sends : Int) (E : List En) (R : List (List Cu)) : Prop where
 blk : ∃ A cp, w.heap[x]? = some (objX c n A E.length cp tb R.length sends) ∧ Kd.V P.k103 103 w 0 Z (.slice A E.length cp) E
 rows : ∃ vs : List Value, vs.length = R.length ∧ w.heap[tb]? = some (.cells vs.toArray 25 (0, 0)) ∧ ∀ (i : Nat) (r : List Cu), R[i]? = some r → ∃ A cp, vs[i]? = some (.slice A r.length cp) ∧ Kd.V P.k97 97 w 0 Z (.slice A r.length cp) r
 ne : x ≠ tb
 zx : ¬ Z x
 zt : ¬ Z tb
 lt : ∀ k, Z k → k < w.heap.size
theorem Rx.frm {Z : Nat → Prop} {w w' : World} {x tb : Nat} {c : Cf} {n sends : Int} {E : List En} {R : List (List Cu)} (h : Rx Z w x tb c n sends E R) {M : Nat → Prop} (f : It.FrM M w w') (hZ : ∀ k, Z k → ¬ M k) (hx : ¬ M x) (ht : ¬ M tb) : Rx Z w' x tb c n sends E R := by
 obtain ⟨A, cp, b1, b2⟩ := h.blk
 obtain ⟨vs, r1, r2, r3⟩ := h.rows
 refine ⟨⟨A, cp, f.blk b1 hx, Kd.V_step b2 (fun k hk hl => f.block k hl (hZ k hk))⟩, ⟨vs, r1, f.blk r2 ht, fun i r hr => ?_⟩, h.ne, h.zx, h.zt, fun k hk => Nat.lt_of_lt_of_le (h.lt k hk) f.size⟩
 obtain ⟨A, cp, e, v⟩ := r3 i r hr
 exact ⟨A, cp, e, Kd.V_step v (fun k hk hl => f.block k hl (hZ k hk))⟩
theorem Rx.below {Z : Nat → Prop} {w w' : World} {x tb : Nat} {c : Cf} {n sends : Int} {E : List En} {R : List (List Cu)} (h : Rx Z w x tb c n sends E R) (b : Below w.heap.size w w') : Rx Z w' x tb c n sends E R :=
 h.frm (It.FrM.of_below (M := fun _ => False) b) (fun _ _ q => q) (fun q => q) (fun q => q)
theorem Rx.ltx {Z : Nat → Prop} {w : World} {x tb : Nat} {c : Cf} {n sends : Int} {E : List En} {R : List (List Cu)} (h : Rx Z w x tb c n sends E R) : x < w.heap.size ∧ tb < w.heap.size := by
 obtain ⟨A, cp, b1, b2⟩ := h.blk
 obtain ⟨vs, r1, r2, r3⟩ := h.rows
 exact ⟨blk_lt b1, blk_lt r2⟩
theorem V_bound {α : Type} {d : Kd α} {e base : Nat} {w : World} {v : Value} {xs : List α} {Z : Nat → Prop} {a : Nat} (h : Kd.V d e w base (fun k => Z k ∨ a ≤ k) v xs) : Kd.V d e w base (fun k => Z k ∨ (a ≤ k ∧ k < w.heap.size)) v xs := by
 obtain ⟨A, c, rfl, h2, h3⟩ := h
 refine ⟨A, c, rfl, h2, fun w' hw => h3 w' (fun k hk hl => hw k (hk.elim .inl (fun q => .inr ⟨q, hl⟩)) hl)⟩
def Rd (Z : Nat → Prop) (w : World) (x tb : Nat) (c : Cf) (n : Int) (r : Rp) (sends : Int) (E : List En) (R : List (List Cu)) (e : Ending) (w' : World) : Prop :=
 ∃ v, e = .returned v ∧ ∃ Z', (∀ k, Z' k → Z k ∨ w.heap.size ≤ k) ∧ Rx Z' w' x tb c n sends E R ∧ It.FrM (fun k => k = x ∨ k = tb) w w' ∧ RepV (fun k => w.heap.size ≤ k ∧ k < w'.heap.size) w' r v
theorem rd_end {Z Z' : Nat → Prop} {w W : World} {x tb : Nat} {c : Cf} {n sends : Int} {E : List En} {R : List (List Cu)} {D : Nat} {fn : Func} {a : Act} {p : Tmp} {r : Rp} {a0 a1 a2 a3 a4 a5 v0 v1 v2 v3 v4 v5 : Value} (hZ : ∀ k, Z' k → Z k ∨ w.heap.size ≤ k) (hR : Rx Z' W x tb c n sends E R) (f : It.FrM (fun k => k = x ∨ k = tb) w W) (hD : w.heap.size ≤ D) (hD0 : ¬ Z' D) (hx : x < w.heap.size) (ht : tb < w.heap.size)
  (hfn : fn.results = #[.cell p 59]) (hp : a.tmps.getD p undef = .pointer (some ⟨D, 0, none⟩)) (hd : a.defers = []) (hb : W.heap[D]? = some (.cells #[a0, a1, a2, a3, a4, a5] 59 (0, 0)))
  (hV : ∀ W', It.FrM (fun j => j = D) W W' → W'.heap.size = W.heap.size → RepV (fun k => w.heap.size ≤ k ∧ k < W'.heap.size) W' r (.agg #[v0, v1, v2, v3, v4, v5])) :
  bodyPost Try.prog fn (Rd Z w x tb c n r sends E R) .ret a (setRep W D v0 v1 v2 v3 v4 v5) := by
 refine rep_end hfn hp hd hb (fun W' hWs hWf => ?_)
 have g := hWf (fun j => j = D) W (It.FrM.refl _ _) (.inl rfl)
 exact ⟨_, rfl, Z', hZ, hR.frm g (fun k hk e => hD0 (e ▸ hk)) (by omega) (by omega), hWf _ _ f (.inr hD), hV W' g hWs⟩
theorem rd_bad {Z : Nat → Prop} {w : World} {x tb : Nat} {c : Cf} {n sends : Int} {E : List En} {R : List (List Cu)} (h : Rx Z w x tb c n sends E R) (who : Int) (hw : who < 1 ∨ who > n) (o : Oq) {A : Option Addr} {cap : Nat} :
  Calls Try.prog 37 #[.pointer (some ⟨x, 0, none⟩), .int .i64 who, .agg #[.int .u8 o.k, .string o.y, .string o.t, .int .i64 o.n, .slice A o.b.length cap]] w (Rd Z w x tb c n ⟨2, false, e0, [], 0, false⟩ sends E R) := by
 have hup := Try.underlying59
 have huo := Try.underlying56
 have hum := Try.underlying65
 obtain ⟨AE, cE, hb, hE⟩ := h.blk
 obtain ⟨ok, oy, ot, on, ob⟩ := o
 have hB0 : Below w.heap.size w ((w.alloc (objO ⟨ok, oy, ot, on, ob⟩ A cap)).alloc rep0) := below_alloc (below_alloc (Below.refl _ _) _) _
 have x9 := blk_cell (blk_below hb hB0) 9
 simp at x9
 have hA := aK_ h
 clear h hb hE hB0
 have hE : Below w.heap.size w ((w.alloc (objO ⟨ok, oy, ot, on, ob⟩ A cap)).alloc (repE 2)) := below_alloc (below_alloc (Below.refl _ _) _) _
 have bE : ((w.alloc (objO ⟨ok, oy, ot, on, ob⟩ A cap)).alloc (repE 2)).heap[w.heap.size + 1]? = some (repE 2) := by have := blk_new (w.alloc (objO ⟨ok, oy, ot, on, ob⟩ A cap)) (repE 2); rwa [World.size_alloc] at this
 have hA2 := aK_ (And.intro hE bE)
 clear hE bE
 go_enter Try.func37, Try.ntmps37
 have fin : ∀ (a : Act) (w2 : World), Below w.heap.size w w2 → w2.heap[w.heap.size + 1]? = some (repE 2) → a.tmps.getD 6 undef = .pointer (some ⟨w.heap.size + 1, 0, none⟩) → a.defers = [] → bodyPost Try.prog Try.f37 (Rd Z w x tb c n ⟨2, false, e0, [], 0, false⟩ sends E R) .ret a w2 := by
  intro a w2 hB0 bD ha hd
  exact rep_fin rfl ha hd bD ⟨_, rfl, Z, fun k hk => .inl hk, hA.out.below hB0, .of_below hB0, RepV.bare _ _ _ _ _ _ _⟩
 by_cases hw1 : who < 1
 ·have d0 := decide_eq_true hw1
  go_wp2
  exact fin _ _ hA2.out.1 hA2.out.2 rfl rfl
 have hw2 : who > n := by omega
 have d0 := decide_eq_false (show ¬ who < 1 by omega)
 have d1 := decide_eq_true hw2
 go_wp2
 exact fin _ _ hA2.out.1 hA2.out.2 rfl rfl
theorem rd_err {Z : Nat → Prop} {w : World} {x tb : Nat} {c : Cf} {n sends : Int} {E : List En} {R : List (List Cu)} (h : Rx Z w x tb c n sends E R) (who : Int) (hw : ¬ (who < 1 ∨ who > n)) (o : Oq) {A : Option Addr} {cap : Nat} (hC : Kd.C P.k117 w A o.b.length o.b) (hcap : o.b.length ≤ cap) (ka : Nat) (e : Int) (hask : catchmentref21_Ask.f ka o.k o.y o.t o.n o.b c.f0 c.f1 c.f2 c.f3 c.f4 c.f5 c.f6 c.f7 c.f8 = some e) (he : ¬ e = 0) :
  Calls Try.prog 37 #[.pointer (some ⟨x, 0, none⟩), .int .i64 who, .agg #[.int .u8 o.k, .string o.y, .string o.t, .int .i64 o.n, .slice A o.b.length cap]] w (Rd Z w x tb c n ⟨e, false, e0, [], 0, false⟩ sends E R) := by
 have hup := Try.underlying59
 have huo := Try.underlying56
 have hum := Try.underlying65
 have huc := Try.underlying47
 have hur := Try.underlying29
 obtain ⟨AE, cE, hb, hE⟩ := h.blk
 obtain ⟨ok, oy, ot, on, ob⟩ := o
 have hB0 : Below w.heap.size w ((w.alloc (objO ⟨ok, oy, ot, on, ob⟩ A cap)).alloc rep0) := below_alloc (below_alloc (Below.refl _ _) _) _
 have bO : ((w.alloc (objO ⟨ok, oy, ot, on, ob⟩ A cap)).alloc rep0).heap[w.heap.size]? = some (objO ⟨ok, oy, ot, on, ob⟩ A cap) := blk_alloc (blk_new w _) _
 have bD : ((w.alloc (objO ⟨ok, oy, ot, on, ob⟩ A cap)).alloc rep0).heap[w.heap.size + 1]? = some rep0 := by have := blk_new (w.alloc (objO ⟨ok, oy, ot, on, ob⟩ A cap)) rep0; rwa [World.size_alloc] at this
 have hsz2 : ((w.alloc (objO ⟨ok, oy, ot, on, ob⟩ A cap)).alloc rep0).heap.size = w.heap.size + 2 := by simp
 have x9 := blk_cell (blk_below hb hB0) 9
 simp at x9
 have d0 := decide_eq_false (show ¬ who < 1 by omega)
 have d1 := decide_eq_false (show ¬ who > n by omega)
 have hA := aK_ (And.intro h (And.intro hB0 (And.intro bO (And.intro bD (And.intro hC (And.intro hcap (And.intro hsz2 hask)))))))
 have hbE := aK_ (And.intro hb hE)
 clear h hb hE hB0 bO bD hC hcap hsz2 hask
 go_enter Try.func37, Try.ntmps37
 go_wp2
 obtain ⟨h, hB0, bO, bD, hC, hcap, hsz2, hask⟩ := hA.out
 obtain ⟨hb, hE⟩ := hbE.out
 generalize (w.alloc (objO ⟨ok, oy, ot, on, ob⟩ A cap)).alloc rep0 = w2 at hB0 bO bD hsz2 ⊢
 have hB0d := below_drew1 hB0
 have hm2 : w2.drew.heap[x]? = _ := blk_below hb hB0d
 have bO2 : w2.drew.heap[w.heap.size]? = _ := bO
 have o0 := blk_cell bO2 0
 have o1 := blk_cell bO2 1
 have o2 := blk_cell bO2 2
 have o3 := blk_cell bO2 3
 have o4 := blk_cell bO2 4
 have c0 := blk_cell hm2 0
 have c1 := blk_cell hm2 1
 have c2 := blk_cell hm2 2
 have c3 := blk_cell hm2 3
 have c4 := blk_cell hm2 4
 have c5 := blk_cell hm2 5
 have c6 := blk_cell hm2 6
 have c7 := blk_cell hm2 7
 have c8 := blk_cell hm2 8
 simp at o0 o1 o2 o3 o4 c0 c1 c2 c3 c4 c5 c6 c7 c8
 have AK := catchmentref21_Ask.calls ka ok oy ot on A cap ob c.f0 c.f1 c.f2 c.f3 c.f4 c.f5 c.f6 c.f7 c.f8 e w2.drew (Kd.C_below hC hB0d) hcap hask
 have AK2 := AK.mono (R' := fun x_ w' => x_ = .returned (.int .i64 e) ∧ (w'.cell? ⟨w.heap.size, 0, none⟩ = some (.int .u8 ok) ∧ w'.cell? ⟨w.heap.size, 1, none⟩ = some (.string oy) ∧ w'.cell? ⟨w.heap.size, 2, none⟩ = some (.string ot) ∧ w'.cell? ⟨w.heap.size, 3, none⟩ = some (.int .i64 on) ∧ w'.cell? ⟨w.heap.size, 4, none⟩ = some (.slice A ob.length cap) ∧ w'.cell? ⟨x, 0, none⟩ = some (.int .i64 c.f0) ∧ w'.cell? ⟨x, 1, none⟩ = some (.int .i64 c.f1) ∧ w'.cell? ⟨x, 2, none⟩ = some (.int .i64 c.f2) ∧ w'.cell? ⟨x, 3, none⟩ = some (.int .i64 c.f3) ∧ w'.cell? ⟨x, 4, none⟩ = some (.int .i64 c.f4) ∧ w'.cell? ⟨x, 5, none⟩ = some (.int .i64 c.f5) ∧ w'.cell? ⟨x, 6, none⟩ = some (.int .i64 c.f6) ∧ w'.cell? ⟨x, 7, none⟩ = some (.int .i64 c.f7) ∧ w'.cell? ⟨x, 8, none⟩ = some (.int .i64 c.f8)) ∧ Aside0 (Below w.heap.size w w' ∧ w2.heap.size ≤ w'.heap.size ∧ w'.heap[w.heap.size + 1]? = some rep0 ∧ w'.heap[w.heap.size]? = some (objO ⟨ok, oy, ot, on, ob⟩ A cap))) (by
  rintro x_ w' ⟨rfl, hb_⟩
  have hm5 := blk_below hm2 hb_
  have bO5 := blk_below bO2 hb_
  have o0 := blk_cell bO5 0
  have o1 := blk_cell bO5 1
  have o2 := blk_cell bO5 2
  have o3 := blk_cell bO5 3
  have o4 := blk_cell bO5 4
  have c0 := blk_cell hm5 0
  have c1 := blk_cell hm5 1
  have c2 := blk_cell hm5 2
  have c3 := blk_cell hm5 3
  have c4 := blk_cell hm5 4
  have c5 := blk_cell hm5 5
  have c6 := blk_cell hm5 6
  have c7 := blk_cell hm5 7
  have c8 := blk_cell hm5 8
  simp at o0 o1 o2 o3 o4 c0 c1 c2 c3 c4 c5 c6 c7 c8
  have bD5 := blk_below (show w2.drew.heap[w.heap.size + 1]? = some rep0 from bD) hb_
  exact ⟨rfl, ⟨o0, o1, o2, o3, o4, c0, c1, c2, c3, c4, c5, c6, c7, c8⟩, ⟨below_then hB0d hB0d.size hb_, hb_.size, bD5, bO5⟩⟩)
 have hA2 := aK_ hsz2
 clear AK hB0d hm2 bO2 h hb hE hB0 bO bD hC hcap hsz2 hask
 have q0 : (e == 0) = false := by simpa using he
 have q1 : decide (e = 0) = false := decide_eq_false he
 go_region_held3 (fun w' => w'.cell? ⟨w.heap.size, 0, none⟩ = some (.int .u8 ok) ∧ w'.cell? ⟨w.heap.size, 1, none⟩ = some (.string oy) ∧ w'.cell? ⟨w.heap.size, 2, none⟩ = some (.string ot) ∧ w'.cell? ⟨w.heap.size, 3, none⟩ = some (.int .i64 on) ∧ w'.cell? ⟨w.heap.size, 4, none⟩ = some (.slice A ob.length cap) ∧ w'.cell? ⟨x, 0, none⟩ = some (.int .i64 c.f0) ∧ w'.cell? ⟨x, 1, none⟩ = some (.int .i64 c.f1) ∧ w'.cell? ⟨x, 2, none⟩ = some (.int .i64 c.f2) ∧ w'.cell? ⟨x, 3, none⟩ = some (.int .i64 c.f3) ∧ w'.cell? ⟨x, 4, none⟩ = some (.int .i64 c.f4) ∧ w'.cell? ⟨x, 5, none⟩ = some (.int .i64 c.f5) ∧ w'.cell? ⟨x, 6, none⟩ = some (.int .i64 c.f6) ∧ w'.cell? ⟨x, 7, none⟩ = some (.int .i64 c.f7) ∧ w'.cell? ⟨x, 8, none⟩ = some (.int .i64 c.f8)) (first | exact ⟨by assumption, by assumption, by assumption, by assumption, by assumption, by assumption, by assumption, by assumption, by assumption, by assumption, by assumption, by assumption, by assumption, by assumption⟩ | exact ⟨o0, o1, o2, o3, o4, c0, c1, c2, c3, c4, c5, c6, c7, c8⟩)
   (first
    | (go_at_call 24; refine AK2.mono ?_; clear AK2; rintro x_ w5 ⟨rfl, ⟨y0, y1, y2, y3, y4, y5, y6, y7, y8, y9, y10, y11, y12, y13⟩, hA5⟩))
 clear o0 o1 o2 o3 o4 c0 c1 c2 c3 c4 c5 c6 c7 c8 y0 y1 y2 y3 y4 y5 y6 y7 y8 y9 y10 y11 y12 y13
 obtain ⟨hB5, hs5, bD5, bO5⟩ := hA5.out
 have y0 := blk_cell bD5 0
 have y1 := blk_cell bD5 1
 have y2 := blk_cell bD5 2
 have y3 := blk_cell bD5 3
 have y4 := blk_cell bD5 4
 have y5 := blk_cell bD5 5
 have q0 := blk_frozen bD5 0
 have q1 := blk_frozen bD5 1
 have q2 := blk_frozen bD5 2
 have q3 := blk_frozen bD5 3
 have q4 := blk_frozen bD5 4
 have q5 := blk_frozen bD5 5
 simp at y0 y1 y2 y3 y4 y5
 clear hB5 bO5 hs5 bD5
 go_wp2
 obtain ⟨h, _, _, _, hC, hcap, _, _⟩ := hA.out
 obtain ⟨hB5, hs5, bD5, bO5⟩ := hA5.out
 exact rd_end (fun k hk => .inl hk) (h.below hB5) (.of_below hB5) (by omega) (fun hz => by have := h.lt _ hz; omega) h.ltx.1 h.ltx.2 rfl rfl rfl bD5 (fun W' _ _ => RepV.bare _ _ _ _ _ _ _)
theorem rd_next {Z : Nat → Prop} {w : World} {x tb : Nat} {c : Cf} {n sends : Int} {E : List En} {R : List (List Cu)} (h : Rx Z w x tb c n sends E R) (who : Int) (hw : ¬ (who < 1 ∨ who > n)) (o : Oq) {A : Option Addr} {cap : Nat} (hC : Kd.C P.k117 w A o.b.length o.b) (hcap : o.b.length ≤ cap) (ka : Nat) (e : Int) (hask : catchmentref21_Ask.f ka o.k o.y o.t o.n o.b c.f0 c.f1 c.f2 c.f3 c.f4 c.f5 c.f6 c.f7 c.f8 = some e) (hk : o.k = 5) (he : e = 0) (r : Rp) (R2 : List (List Cu)) (hNX : ∀ W, Rx Z W x tb c n sends E R → Calls Try.prog 71 #[.pointer (some ⟨x, 0, none⟩), .int .i64 who, .int .i64 o.n] W (Rd Z W x tb c n r sends E R2)) :
  Calls Try.prog 37 #[.pointer (some ⟨x, 0, none⟩), .int .i64 who, .agg #[.int .u8 o.k, .string o.y, .string o.t, .int .i64 o.n, .slice A o.b.length cap]] w (Rd Z w x tb c n r sends E R2) := by
 have hup := Try.underlying59
 have huo := Try.underlying56
 have hum := Try.underlying65
 have huc := Try.underlying47
 have hur := Try.underlying29
 obtain ⟨AE, cE, hb, hE⟩ := h.blk
 obtain ⟨ok, oy, ot, on, ob⟩ := o
 have hk : ok = 5 := hk
 subst hk
 subst he
 have q0 : (((0 : Int)) == 0) = true := rfl
 have hB0 : Below w.heap.size w ((w.alloc (objO ⟨5, oy, ot, on, ob⟩ A cap)).alloc rep0) := below_alloc (below_alloc (Below.refl _ _) _) _
 have bO : ((w.alloc (objO ⟨5, oy, ot, on, ob⟩ A cap)).alloc rep0).heap[w.heap.size]? = some (objO ⟨5, oy, ot, on, ob⟩ A cap) := blk_alloc (blk_new w _) _
 have bD : ((w.alloc (objO ⟨5, oy, ot, on, ob⟩ A cap)).alloc rep0).heap[w.heap.size + 1]? = some rep0 := by have := blk_new (w.alloc (objO ⟨5, oy, ot, on, ob⟩ A cap)) rep0; rwa [World.size_alloc] at this
 have hsz2 : ((w.alloc (objO ⟨5, oy, ot, on, ob⟩ A cap)).alloc rep0).heap.size = w.heap.size + 2 := by simp
 have x9 := blk_cell (blk_below hb hB0) 9
 simp at x9
 have d0 := decide_eq_false (show ¬ who < 1 by omega)
 have d1 := decide_eq_false (show ¬ who > n by omega)
 have hA := aK_ (And.intro h (And.intro hB0 (And.intro bO (And.intro bD (And.intro hC (And.intro hcap (And.intro hsz2 hask)))))))
 have hbE := aK_ (And.intro hb hE)
 clear h hb hE hB0 bO bD hC hcap hsz2 hask
 go_enter Try.func37, Try.ntmps37
 go_wp2
 obtain ⟨h, hB0, bO, bD, hC, hcap, hsz2, hask⟩ := hA.out
 obtain ⟨hb, hE⟩ := hbE.out
 generalize (w.alloc (objO ⟨5, oy, ot, on, ob⟩ A cap)).alloc rep0 = w2 at hB0 bO bD hsz2 ⊢
 have hB0d := below_drew1 hB0
 have hm2 : w2.drew.heap[x]? = _ := blk_below hb hB0d
 have bO2 : w2.drew.heap[w.heap.size]? = _ := bO
 have o0 := blk_cell bO2 0
 have o1 := blk_cell bO2 1
 have o2 := blk_cell bO2 2
 have o3 := blk_cell bO2 3
 have o4 := blk_cell bO2 4
 have c0 := blk_cell hm2 0
 have c1 := blk_cell hm2 1
 have c2 := blk_cell hm2 2
 have c3 := blk_cell hm2 3
 have c4 := blk_cell hm2 4
 have c5 := blk_cell hm2 5
 have c6 := blk_cell hm2 6
 have c7 := blk_cell hm2 7
 have c8 := blk_cell hm2 8
 simp at o0 o1 o2 o3 o4 c0 c1 c2 c3 c4 c5 c6 c7 c8
 have AK := catchmentref21_Ask.calls ka 5 oy ot on A cap ob c.f0 c.f1 c.f2 c.f3 c.f4 c.f5 c.f6 c.f7 c.f8 0 w2.drew (Kd.C_below hC hB0d) hcap hask
 have AK2 := AK.mono (R' := fun x_ w' => x_ = .returned (.int .i64 0) ∧ (w'.cell? ⟨w.heap.size, 0, none⟩ = some (.int .u8 5) ∧ w'.cell? ⟨w.heap.size, 1, none⟩ = some (.string oy) ∧ w'.cell? ⟨w.heap.size, 2, none⟩ = some (.string ot) ∧ w'.cell? ⟨w.heap.size, 3, none⟩ = some (.int .i64 on) ∧ w'.cell? ⟨w.heap.size, 4, none⟩ = some (.slice A ob.length cap) ∧ w'.cell? ⟨x, 0, none⟩ = some (.int .i64 c.f0) ∧ w'.cell? ⟨x, 1, none⟩ = some (.int .i64 c.f1) ∧ w'.cell? ⟨x, 2, none⟩ = some (.int .i64 c.f2) ∧ w'.cell? ⟨x, 3, none⟩ = some (.int .i64 c.f3) ∧ w'.cell? ⟨x, 4, none⟩ = some (.int .i64 c.f4) ∧ w'.cell? ⟨x, 5, none⟩ = some (.int .i64 c.f5) ∧ w'.cell? ⟨x, 6, none⟩ = some (.int .i64 c.f6) ∧ w'.cell? ⟨x, 7, none⟩ = some (.int .i64 c.f7) ∧ w'.cell? ⟨x, 8, none⟩ = some (.int .i64 c.f8)) ∧ Aside0 (Below w.heap.size w w' ∧ w2.heap.size ≤ w'.heap.size ∧ w'.heap[w.heap.size + 1]? = some rep0 ∧ w'.heap[w.heap.size]? = some (objO ⟨5, oy, ot, on, ob⟩ A cap))) (by
  rintro x_ w' ⟨rfl, hb_⟩
  have hm5 := blk_below hm2 hb_
  have bO5 := blk_below bO2 hb_
  have o0 := blk_cell bO5 0
  have o1 := blk_cell bO5 1
  have o2 := blk_cell bO5 2
  have o3 := blk_cell bO5 3
  have o4 := blk_cell bO5 4
  have c0 := blk_cell hm5 0
  have c1 := blk_cell hm5 1
  have c2 := blk_cell hm5 2
  have c3 := blk_cell hm5 3
  have c4 := blk_cell hm5 4
  have c5 := blk_cell hm5 5
  have c6 := blk_cell hm5 6
  have c7 := blk_cell hm5 7
  have c8 := blk_cell hm5 8
  simp at o0 o1 o2 o3 o4 c0 c1 c2 c3 c4 c5 c6 c7 c8
  have bD5 := blk_below (show w2.drew.heap[w.heap.size + 1]? = some rep0 from bD) hb_
  exact ⟨rfl, ⟨o0, o1, o2, o3, o4, c0, c1, c2, c3, c4, c5, c6, c7, c8⟩, ⟨below_then hB0d hB0d.size hb_, hb_.size, bD5, bO5⟩⟩)
 have hA2 := aK_ hsz2
 clear AK hB0d hm2 bO2 h hb hE hB0 bO bD hC hcap hsz2 hask
 go_region_held3 (fun w' => w'.cell? ⟨w.heap.size, 0, none⟩ = some (.int .u8 5) ∧ w'.cell? ⟨w.heap.size, 1, none⟩ = some (.string oy) ∧ w'.cell? ⟨w.heap.size, 2, none⟩ = some (.string ot) ∧ w'.cell? ⟨w.heap.size, 3, none⟩ = some (.int .i64 on) ∧ w'.cell? ⟨w.heap.size, 4, none⟩ = some (.slice A ob.length cap) ∧ w'.cell? ⟨x, 0, none⟩ = some (.int .i64 c.f0) ∧ w'.cell? ⟨x, 1, none⟩ = some (.int .i64 c.f1) ∧ w'.cell? ⟨x, 2, none⟩ = some (.int .i64 c.f2) ∧ w'.cell? ⟨x, 3, none⟩ = some (.int .i64 c.f3) ∧ w'.cell? ⟨x, 4, none⟩ = some (.int .i64 c.f4) ∧ w'.cell? ⟨x, 5, none⟩ = some (.int .i64 c.f5) ∧ w'.cell? ⟨x, 6, none⟩ = some (.int .i64 c.f6) ∧ w'.cell? ⟨x, 7, none⟩ = some (.int .i64 c.f7) ∧ w'.cell? ⟨x, 8, none⟩ = some (.int .i64 c.f8)) (first | exact ⟨by assumption, by assumption, by assumption, by assumption, by assumption, by assumption, by assumption, by assumption, by assumption, by assumption, by assumption, by assumption, by assumption, by assumption⟩ | exact ⟨o0, o1, o2, o3, o4, c0, c1, c2, c3, c4, c5, c6, c7, c8⟩)
   (first
    | (go_at_call 24; refine AK2.mono ?_; clear AK2; rintro x_ w5 ⟨rfl, ⟨y0, y1, y2, y3, y4, y5, y6, y7, y8, y9, y10, y11, y12, y13⟩, hA5⟩))
 clear o0 o1 o2 o3 o4 c0 c1 c2 c3 c4 c5 c6 c7 c8 y0 y1 y2 y3 y4 y5 y6 y7 y8 y9 y10 y11 y12 y13
 obtain ⟨h, _, _, _, hC, hcap, _, _⟩ := hA.out
 obtain ⟨hb, hE⟩ := hbE.out
 obtain ⟨hB5, hs5, bD5, bO5⟩ := hA5.out
 have hB6 : Below w.heap.size w (w5.alloc (.cells #[.string oy, .string ot] 29)) := below_alloc hB5 _
 have bD6 := blk_alloc bD5 (.cells #[.string oy, .string ot] 29)
 have bO6 := blk_alloc bO5 (.cells #[.string oy, .string ot] 29)
 have bR6 := blk_new w5 (.cells #[.string oy, .string ot] 29)
 have o0 := blk_cell bO6 0
 have o1 := blk_cell bO6 1
 have o2 := blk_cell bO6 2
 have o3 := blk_cell bO6 3
 have o4 := blk_cell bO6 4
 simp at o0 o1 o2 o3 o4
 have NX := hNX (w5.alloc (.cells #[.string oy, .string ot] 29)) (h.below hB6)
 have hA6 := aK_ (And.intro hB6 bD6)
 clear h hb hE hC hcap hB5 hs5 bD5 bO5 hB6 bD6 bO6 bR6 hNX
 go_wp2_with (first
  | (go_at_call 71; refine NX.mono ?_; clear NX; rintro x_ w7 ⟨v, rfl, Z7, hZ7, hX7, hf7, A7, p7, rfl, hV7⟩; have bD7 := hf7.blk hA6.out.2 (by have := hA.out.1.ltx; omega); have y0 := blk_cell bD7 0; have y1 := blk_cell bD7 1; have y2 := blk_cell bD7 2; have y3 := blk_cell bD7 3; have y4 := blk_cell bD7 4; have y5 := blk_cell bD7 5; have q0 := blk_frozen bD7 0; have q1 := blk_frozen bD7 1; have q2 := blk_frozen bD7 2; have q3 := blk_frozen bD7 3; have q4 := blk_frozen bD7 4; have q5 := blk_frozen bD7 5; simp at y0 y1 y2 y3 y4 y5; have hA7 := aK_ (And.intro hZ7 (And.intro hX7 (And.intro hf7 (And.intro bD7 hV7)))); clear hZ7 hX7 hf7 bD7 hV7))
 obtain ⟨hZ7, hX7, hf7, bD7, hV7⟩ := hA7.out
 obtain ⟨hB6, bD6⟩ := hA6.out
 have h := hA.out.1
 have hs6 := hB6.size
 have hs7 := hf7.size
 have lD := blk_lt bD6
 have lt := h.ltx
 refine rd_end (fun k hk => (hZ7 k hk).elim .inl (fun q => .inr (by omega))) hX7 ((It.FrM.of_below hB6).trans hf7 (fun i hi => .inl hi)) (by omega) (fun hz => (hZ7 _ hz).elim (fun q => by have := h.lt _ q; omega) (fun q => by omega)) lt.1 lt.2 rfl rfl rfl bD7 (fun W' f hs => ⟨_, _, rfl, ?_⟩)
 exact Kd.V_mono (Kd.V_step hV7 (fun j hj hjl => f.block j hjl (fun e => by omega))) (fun j hj => ⟨by omega, by omega⟩)
theorem rx_row {Z : Nat → Prop} {w : World} {x tb : Nat} {c : Cf} {n sends : Int} {E : List En} {R : List (List Cu)} (h : Rx Z w x tb c n sends E R) (i : Nat) (hi : i < R.length) {a : Nat} {B : Option Addr} {cp : Nat} {row : List Cu} (hV : Kd.V P.k97 97 w 0 (fun k => Z k ∨ a ≤ k) (.slice B row.length cp) row) (hx : x < a) (ht : tb < a) :
  Rx (fun k => Z k ∨ (a ≤ k ∧ k < w.heap.size)) (w.setCell ⟨tb, i, none⟩ (.slice B row.length cp)) x tb c n sends E (R.set i row) ∧ It.FrM (fun k => k = tb) w (w.setCell ⟨tb, i, none⟩ (.slice B row.length cp)) := by
 obtain ⟨A, ca, b1, b2⟩ := h.blk
 obtain ⟨vs, r1, r2, r3⟩ := h.rows
 have f := frm_set w tb i (.slice B row.length cp)
 have hsz : (w.setCell ⟨tb, i, none⟩ (.slice B row.length cp)).heap.size = w.heap.size := by simp
 have nz : ∀ k, (Z k ∨ (a ≤ k ∧ k < w.heap.size)) → ¬ k = tb := fun k hk e => hk.elim (fun q => h.zt (e ▸ q)) (fun q => by omega)
 have hV2 : Kd.V P.k97 97 w 0 (fun k => Z k ∨ (a ≤ k ∧ k < w.heap.size)) (.slice B row.length cp) row := V_bound hV
 refine ⟨⟨⟨A, ca, ?_, Kd.V_mono (Kd.V_step b2 (fun k hk hl => f.block k hl (fun e => h.zt (e ▸ hk)))) (fun k hk => .inl hk)⟩, ⟨vs.set i (.slice B row.length cp), by simp [r1], ?_, fun j r hr => ?_⟩, h.ne, fun hz => hz.elim h.zx (fun q => by omega), fun hz => nz tb hz rfl, fun k hk => ?_⟩, f⟩
 ·rw [List.length_set]; exact f.blk b1 h.ne
 ·have := blk_set r2 i (.slice B row.length cp)
  simpa using this
 ·by_cases e : j = i
  ·subst e
   rw [List.getElem?_set_self (by omega)] at hr
   cases hr
   exact ⟨B, cp, List.getElem?_set_self (by omega), Kd.V_step hV2 (fun k hk hl => f.block k hl (nz k hk))⟩
  rw [List.getElem?_set_ne (fun q => e q.symm)] at hr
  obtain ⟨A', c', e1, v⟩ := r3 j r hr
  exact ⟨A', c', by rw [List.getElem?_set_ne (fun q => e q.symm)]; exact e1, Kd.V_mono (Kd.V_step v (fun k hk hl => f.block k hl (fun q => h.zt (q ▸ hk)))) (fun k hk => .inl hk)⟩
 rw [hsz]; exact hk.elim (h.lt k) (fun q => q.2)
theorem rd_open {Z : Nat → Prop} {w : World} {x tb : Nat} {c : Cf} {n sends : Int} {E : List En} {R : List (List Cu)} (h : Rx Z w x tb c n sends E R) (who : Int) (hw : ¬ (who < 1 ∨ who > n)) (o : Oq) {A : Option Addr} {cap : Nat} (hC : Kd.C P.k117 w A o.b.length o.b) (hcap : o.b.length ≤ cap) (ka : Nat) (e : Int) (hask : catchmentref21_Ask.f ka o.k o.y o.t o.n o.b c.f0 c.f1 c.f2 c.f3 c.f4 c.f5 c.f6 c.f7 c.f8 = some e) (hk : o.k = 4) (he : e = 0) (hl : (R.length : Int) = n + 1) (hn : n ≤ 1000000) (row : List Cu) (hrow : R[who.toNat]? = some row) (row2 : List Cu) (k2 e2 : Int) (hF : catchmentref27_Open.f row o.y o.t = some (row2, k2, e2)) :
  Calls Try.prog 37 #[.pointer (some ⟨x, 0, none⟩), .int .i64 who, .agg #[.int .u8 o.k, .string o.y, .string o.t, .int .i64 o.n, .slice A o.b.length cap]] w (Rd Z w x tb c n ⟨0, false, e0, [], k2, false⟩ sends E (R.set who.toNat row2)) := by
 have hup := Try.underlying59
 have huo := Try.underlying56
 have hum := Try.underlying65
 have huc := Try.underlying47
 have hur := Try.underlying29
 obtain ⟨AE, cE, hb, hE⟩ := h.blk
 obtain ⟨ok, oy, ot, on, ob⟩ := o
 have hk : ok = 4 := hk
 subst hk
 subst he
 have q0 : (((0 : Int)) == 0) = true := rfl
 have hB0 : Below w.heap.size w ((w.alloc (objO ⟨4, oy, ot, on, ob⟩ A cap)).alloc rep0) := below_alloc (below_alloc (Below.refl _ _) _) _
 have bO : ((w.alloc (objO ⟨4, oy, ot, on, ob⟩ A cap)).alloc rep0).heap[w.heap.size]? = some (objO ⟨4, oy, ot, on, ob⟩ A cap) := blk_alloc (blk_new w _) _
 have bD : ((w.alloc (objO ⟨4, oy, ot, on, ob⟩ A cap)).alloc rep0).heap[w.heap.size + 1]? = some rep0 := by have := blk_new (w.alloc (objO ⟨4, oy, ot, on, ob⟩ A cap)) rep0; rwa [World.size_alloc] at this
 have hsz2 : ((w.alloc (objO ⟨4, oy, ot, on, ob⟩ A cap)).alloc rep0).heap.size = w.heap.size + 2 := by simp
 have x9 := blk_cell (blk_below hb hB0) 9
 simp at x9
 have d0 := decide_eq_false (show ¬ who < 1 by omega)
 have d1 := decide_eq_false (show ¬ who > n by omega)
 have hA := aK_ (And.intro h (And.intro hB0 (And.intro bO (And.intro bD (And.intro hC (And.intro hcap (And.intro hsz2 hask)))))))
 have hbE := aK_ (And.intro hb hE)
 clear h hb hE hB0 bO bD hC hcap hsz2 hask
 go_enter Try.func37, Try.ntmps37
 go_wp2
 obtain ⟨h, hB0, bO, bD, hC, hcap, hsz2, hask⟩ := hA.out
 obtain ⟨hb, hE⟩ := hbE.out
 generalize (w.alloc (objO ⟨4, oy, ot, on, ob⟩ A cap)).alloc rep0 = w2 at hB0 bO bD hsz2 ⊢
 have hB0d := below_drew1 hB0
 have hm2 : w2.drew.heap[x]? = _ := blk_below hb hB0d
 have bO2 : w2.drew.heap[w.heap.size]? = _ := bO
 have o0 := blk_cell bO2 0
 have o1 := blk_cell bO2 1
 have o2 := blk_cell bO2 2
 have o3 := blk_cell bO2 3
 have o4 := blk_cell bO2 4
 have c0 := blk_cell hm2 0
 have c1 := blk_cell hm2 1
 have c2 := blk_cell hm2 2
 have c3 := blk_cell hm2 3
 have c4 := blk_cell hm2 4
 have c5 := blk_cell hm2 5
 have c6 := blk_cell hm2 6
 have c7 := blk_cell hm2 7
 have c8 := blk_cell hm2 8
 simp at o0 o1 o2 o3 o4 c0 c1 c2 c3 c4 c5 c6 c7 c8
 have AK := catchmentref21_Ask.calls ka 4 oy ot on A cap ob c.f0 c.f1 c.f2 c.f3 c.f4 c.f5 c.f6 c.f7 c.f8 0 w2.drew (Kd.C_below hC hB0d) hcap hask
 have AK2 := AK.mono (R' := fun x_ w' => x_ = .returned (.int .i64 0) ∧ (w'.cell? ⟨w.heap.size, 0, none⟩ = some (.int .u8 4) ∧ w'.cell? ⟨w.heap.size, 1, none⟩ = some (.string oy) ∧ w'.cell? ⟨w.heap.size, 2, none⟩ = some (.string ot) ∧ w'.cell? ⟨w.heap.size, 3, none⟩ = some (.int .i64 on) ∧ w'.cell? ⟨w.heap.size, 4, none⟩ = some (.slice A ob.length cap) ∧ w'.cell? ⟨x, 0, none⟩ = some (.int .i64 c.f0) ∧ w'.cell? ⟨x, 1, none⟩ = some (.int .i64 c.f1) ∧ w'.cell? ⟨x, 2, none⟩ = some (.int .i64 c.f2) ∧ w'.cell? ⟨x, 3, none⟩ = some (.int .i64 c.f3) ∧ w'.cell? ⟨x, 4, none⟩ = some (.int .i64 c.f4) ∧ w'.cell? ⟨x, 5, none⟩ = some (.int .i64 c.f5) ∧ w'.cell? ⟨x, 6, none⟩ = some (.int .i64 c.f6) ∧ w'.cell? ⟨x, 7, none⟩ = some (.int .i64 c.f7) ∧ w'.cell? ⟨x, 8, none⟩ = some (.int .i64 c.f8)) ∧ Aside0 (Below w.heap.size w w' ∧ w2.heap.size ≤ w'.heap.size ∧ w'.heap[w.heap.size + 1]? = some rep0 ∧ w'.heap[w.heap.size]? = some (objO ⟨4, oy, ot, on, ob⟩ A cap))) (by
  rintro x_ w' ⟨rfl, hb_⟩
  have hm5 := blk_below hm2 hb_
  have bO5 := blk_below bO2 hb_
  have o0 := blk_cell bO5 0
  have o1 := blk_cell bO5 1
  have o2 := blk_cell bO5 2
  have o3 := blk_cell bO5 3
  have o4 := blk_cell bO5 4
  have c0 := blk_cell hm5 0
  have c1 := blk_cell hm5 1
  have c2 := blk_cell hm5 2
  have c3 := blk_cell hm5 3
  have c4 := blk_cell hm5 4
  have c5 := blk_cell hm5 5
  have c6 := blk_cell hm5 6
  have c7 := blk_cell hm5 7
  have c8 := blk_cell hm5 8
  simp at o0 o1 o2 o3 o4 c0 c1 c2 c3 c4 c5 c6 c7 c8
  have bD5 := blk_below (show w2.drew.heap[w.heap.size + 1]? = some rep0 from bD) hb_
  exact ⟨rfl, ⟨o0, o1, o2, o3, o4, c0, c1, c2, c3, c4, c5, c6, c7, c8⟩, ⟨below_then hB0d hB0d.size hb_, hb_.size, bD5, bO5⟩⟩)
 have hA2 := aK_ hsz2
 clear AK hB0d hm2 bO2 h hb hE hB0 bO bD hC hcap hsz2 hask
 go_region_held3 (fun w' => w'.cell? ⟨w.heap.size, 0, none⟩ = some (.int .u8 4) ∧ w'.cell? ⟨w.heap.size, 1, none⟩ = some (.string oy) ∧ w'.cell? ⟨w.heap.size, 2, none⟩ = some (.string ot) ∧ w'.cell? ⟨w.heap.size, 3, none⟩ = some (.int .i64 on) ∧ w'.cell? ⟨w.heap.size, 4, none⟩ = some (.slice A ob.length cap) ∧ w'.cell? ⟨x, 0, none⟩ = some (.int .i64 c.f0) ∧ w'.cell? ⟨x, 1, none⟩ = some (.int .i64 c.f1) ∧ w'.cell? ⟨x, 2, none⟩ = some (.int .i64 c.f2) ∧ w'.cell? ⟨x, 3, none⟩ = some (.int .i64 c.f3) ∧ w'.cell? ⟨x, 4, none⟩ = some (.int .i64 c.f4) ∧ w'.cell? ⟨x, 5, none⟩ = some (.int .i64 c.f5) ∧ w'.cell? ⟨x, 6, none⟩ = some (.int .i64 c.f6) ∧ w'.cell? ⟨x, 7, none⟩ = some (.int .i64 c.f7) ∧ w'.cell? ⟨x, 8, none⟩ = some (.int .i64 c.f8)) (first | exact ⟨by assumption, by assumption, by assumption, by assumption, by assumption, by assumption, by assumption, by assumption, by assumption, by assumption, by assumption, by assumption, by assumption, by assumption⟩ | exact ⟨o0, o1, o2, o3, o4, c0, c1, c2, c3, c4, c5, c6, c7, c8⟩)
   (first
    | (go_at_call 24; refine AK2.mono ?_; clear AK2; rintro x_ w5 ⟨rfl, ⟨y0, y1, y2, y3, y4, y5, y6, y7, y8, y9, y10, y11, y12, y13⟩, hA5⟩))
 clear o0 o1 o2 o3 o4 c0 c1 c2 c3 c4 c5 c6 c7 c8 y0 y1 y2 y3 y4 y5 y6 y7 y8 y9 y10 y11 y12 y13
 obtain ⟨h, _, _, _, hC, hcap, _, _⟩ := hA.out
 obtain ⟨hb, hE⟩ := hbE.out
 obtain ⟨hB5, hs5, bD5, bO5⟩ := hA5.out
 have hB6 : Below w.heap.size w (w5.alloc (.cells #[.string oy, .string ot] 29)) := below_alloc hB5 _
 have bD6 := blk_alloc bD5 (.cells #[.string oy, .string ot] 29)
 have bO6 := blk_alloc bO5 (.cells #[.string oy, .string ot] 29)
 have bR6 := blk_new w5 (.cells #[.string oy, .string ot] 29)
 have o0 := blk_cell bO6 0
 have o1 := blk_cell bO6 1
 have o2 := blk_cell bO6 2
 have o3 := blk_cell bO6 3
 have o4 := blk_cell bO6 4
 simp at o0 o1 o2 o3 o4
 clear h hb hE hC hcap hB5 hs5 bD5 bO5 hB6 bD6 bO6 bR6
 go_wp2
 obtain ⟨h, _, _, _, hC, hcap, _, _⟩ := hA.out
 obtain ⟨hb, hE⟩ := hbE.out
 obtain ⟨hB5, hs5, bD5, bO5⟩ := hA5.out
 have hB6 : Below w.heap.size w (w5.alloc (.cells #[.string oy, .string ot] 29)) := below_alloc hB5 _
 have bD6 := blk_alloc bD5 (.cells #[.string oy, .string ot] 29)
 have bO6 := blk_alloc bO5 (.cells #[.string oy, .string ot] 29)
 have bR6 := blk_new w5 (.cells #[.string oy, .string ot] 29)
 generalize hw6 : w5.alloc (.cells #[.string oy, .string ot] 29) = w6 at hB6 bD6 bO6 bR6 ⊢
 have ls5 : w5.heap.size + 1 = w6.heap.size := by rw [← hw6]; simp
 clear hw6 o0 o1 o2 o3 o4
 have hB6d := below_drew1 hB6
 have hm6 : w6.drew.heap[x]? = _ := blk_below hb hB6d
 have bR7 : w6.drew.heap[w5.heap.size]? = _ := bR6
 have bO7 : w6.drew.heap[w.heap.size]? = _ := bO6
 have bD7 : w6.drew.heap[w.heap.size + 1]? = some rep0 := bD6
 have lsd : w6.drew.heap.size = w6.heap.size := rfl
 have hsz := hA2.out
 obtain ⟨vs, hv1, hv2, hv3⟩ := h.rows
 obtain ⟨AR, cR, hv4, hv5⟩ := hv3 _ _ hrow
 have hT6 : w6.drew.heap[tb]? = _ := blk_below hv2 hB6d
 have u0 := blk_cell hm6 11
 have u1 : w6.drew.cell? ⟨tb, who.toNat, none⟩ = some (.slice AR row.length cR) := (blk_cell hT6 who.toNat).trans (by simpa using hv4)
 have u2 := blk_cell bR7 0
 have u3 := blk_cell bR7 1
 simp at u0 u2 u3
 have i0 : decide (0 ≤ who) = true := decide_eq_true (by omega)
 have i1 : decide (who < (R.length : Int)) = true := decide_eq_true (by omega)
 have i2 := eq_true (show 0 ≤ who by omega)
 have i3 := eq_true (show who < (R.length : Int) by omega)
 have i4 : (⟨tb, 0, none⟩ : Addr).add who.toNat = ⟨tb, who.toNat, none⟩ := by
  unfold Addr.add
  split
  ·rename_i h0; rw [h0]
  simp
 have OP := (catchmentref27_Open.calls Z AR cR row oy ot row2 k2 e2 w6.drew (Kd.V_step hv5 (fun k hk hl => hB6d.block k hl)) hF).mono (R' := fun e w' => ∃ B cp, e = .returned (.tuple #[.slice B row2.length cp, .int .i64 k2, .int .i64 e2]) ∧ (w'.cell? ⟨x, 11, none⟩ = some (.slice (some ⟨tb, 0, none⟩) R.length R.length) ∧ w'.cell? ⟨tb, who.toNat, none⟩ = some (.slice AR row.length cR) ∧ w'.cell? ⟨w5.heap.size, 0, none⟩ = some (.string oy) ∧ w'.cell? ⟨w5.heap.size, 1, none⟩ = some (.string ot)) ∧ Aside0 (w'.heap[w.heap.size + 1]? = some rep0 ∧ Kd.V P.k97 97 w' 0 (fun k => Z k ∨ w6.drew.heap.size ≤ k) (.slice B row2.length cp) row2 ∧ Below w.heap.size w w' ∧ w6.drew.heap.size ≤ w'.heap.size ∧ w'.heap[x]? = some (objX c n AE E.length cE tb R.length sends) ∧ w'.heap[tb]? = some (.cells vs.toArray 25 (0, 0)))) (by
  rintro e w' ⟨v, rfl, hV, hb_⟩
  obtain ⟨B, cp, rfl, hV2, hV3⟩ := hV
  have a0 := blk_cell (blk_below hm6 hb_) 11
  have a1 : w'.cell? ⟨tb, who.toNat, none⟩ = some (.slice AR row.length cR) := (blk_cell (blk_below hT6 hb_) who.toNat).trans (by simpa using hv4)
  have a2 := blk_cell (blk_below bR7 hb_) 0
  have a3 := blk_cell (blk_below bR7 hb_) 1
  simp at a0 a2 a3
  exact ⟨B, cp, rfl, ⟨a0, a1, a2, a3⟩, ⟨blk_below bD7 hb_, ⟨B, cp, rfl, hV2, hV3⟩, below_then hB6d hB6d.size hb_, hb_.size, blk_below hm6 hb_, blk_below hT6 hb_⟩⟩)
 have hls := aK_ (And.intro (show w.heap.size + 2 ≤ w6.drew.heap.size by omega) (And.intro hv1 hv4))
 have hxl := h.ltx
 clear h hb hE hC hcap hB5 hs5 bD5 bO5 hB6 bD6 bO6 bR6 hB6d hm6 bO7 bR7 bD7 lsd ls5 hsz hv1 hv2 hv3 hv4 hv5 hT6
 have hlA := aK_ hl
 clear hl
 go_region_held3 (fun w' => w'.cell? ⟨x, 11, none⟩ = some (.slice (some ⟨tb, 0, none⟩) R.length R.length) ∧ w'.cell? ⟨tb, who.toNat, none⟩ = some (.slice AR row.length cR) ∧ w'.cell? ⟨w5.heap.size, 0, none⟩ = some (.string oy) ∧ w'.cell? ⟨w5.heap.size, 1, none⟩ = some (.string ot)) (first | exact ⟨by assumption, by assumption, by assumption, by assumption⟩ | exact ⟨u0, u1, u2, u3⟩)
   (first
    | (go_at_call 39; refine OP.mono ?_; clear OP; rintro x_ w8 ⟨B, cp, rfl, ⟨v0, v1, v2, v3⟩, hA8⟩))
 have hl := hlA.out
 clear u0 u1 u2 u3 v2 v3
 obtain ⟨bD8, hV8, hB8, hs8, bX8, bT8⟩ := hA8.out
 have hl8 := hls.out.1
 have z11 := blk_cell bX8 11
 have pT := blk_frozen bT8 who.toNat
 simp at z11
 have bD9 := (frm_set w8 tb who.toNat (.slice B row2.length cp)).blk bD8 (by omega)
 have y0 := blk_cell bD9 0
 have y1 := blk_cell bD9 1
 have y2 := blk_cell bD9 2
 have y3 := blk_cell bD9 3
 have y4 := blk_cell bD9 4
 have y5 := blk_cell bD9 5
 have q0 := blk_frozen bD9 0
 have q1 := blk_frozen bD9 1
 have q2 := blk_frozen bD9 2
 have q3 := blk_frozen bD9 3
 have q4 := blk_frozen bD9 4
 have q5 := blk_frozen bD9 5
 simp at y0 y1 y2 y3 y4 y5
 clear bD8 hV8 hB8 hs8 bX8 bT8 bD9
 go_wp2
 obtain ⟨h, _, _, _, hC, hcap, _, _⟩ := hA.out
 obtain ⟨bD8, hV8, hB8, hs8, bX8, bT8⟩ := hA8.out
 have bD9 := (frm_set w8 tb who.toNat (.slice B row2.length cp)).blk bD8 (by omega)
 obtain ⟨hX, hf⟩ := rx_row (h.below hB8) who.toNat (by omega) hV8 (by omega) (by omega)
 exact rd_end (fun k hk => hk.elim .inl (fun q => .inr (by have := q.1; omega))) hX ((It.FrM.of_below hB8).trans hf (fun i hi => .inl (.inr hi))) (by omega) (fun hz => hz.elim (fun q => by have := h.lt _ q; omega) (fun q => by have := q.1; omega)) h.ltx.1 h.ltx.2 rfl rfl rfl bD9 (fun W' f hs => RepV.bare _ _ _ _ _ _ _)
theorem V_empty {α : Type} (d : Kd α) (e : Nat) (w : World) (Z : Nat → Prop) (A : Option Addr) : Kd.V d e w 0 Z (.slice A ([] : List α).length 0) [] :=
 ⟨A, 0, rfl, Nat.le_refl 0, fun w' _ => ⟨rfl, by simp, fun q => absurd q (Nat.lt_irrefl 0)⟩⟩
theorem rn_no {Z : Nat → Prop} {w : World} {x tb : Nat} {c : Cf} {n sends : Int} {E : List En} {R : List (List Cu)} (h : Rx Z w x tb c n sends E R) (who : Int) (h1 : 1 ≤ who) (h2 : who ≤ n) (hl : (R.length : Int) = n + 1) (row : List Cu) (hrow : R[who.toNat]? = some row) (k : Int) (hF : catchmentref27_Is.f row k = some false) :
  Calls Try.prog 71 #[.pointer (some ⟨x, 0, none⟩), .int .i64 who, .int .i64 k] w (Rd Z w x tb c n ⟨11, false, e0, [], 0, false⟩ sends E R) := by
 have hup := Try.underlying59
 have hum := Try.underlying65
 obtain ⟨AE, cE, hb, hE⟩ := h.blk
 obtain ⟨vs, hv1, hv2, hv3⟩ := h.rows
 obtain ⟨AR, cR, hv4, hv5⟩ := hv3 _ _ hrow
 have hB0 : Below w.heap.size w (w.alloc rep0) := below_alloc (Below.refl _ _) _
 have hbx := blk_below hb hB0
 have hT := blk_below hv2 hB0
 have u0 := blk_cell hbx 11
 have u1 : (w.alloc rep0).cell? ⟨tb, who.toNat, none⟩ = some (.slice AR row.length cR) := (blk_cell hT who.toNat).trans (by simpa using hv4)
 simp at u0
 have i0 : decide (0 ≤ who) = true := decide_eq_true (by omega)
 have i1 : decide (who < (R.length : Int)) = true := decide_eq_true (by omega)
 have i2 : 0 ≤ who := by omega
 have i3 : who < (R.length : Int) := by omega
 have i4 : (⟨tb, 0, none⟩ : Addr).add who.toNat = ⟨tb, who.toNat, none⟩ := by
  unfold Addr.add
  split
  ·rename_i h0; rw [h0]
  simp
 have rR := Kd.V_reads' (Kd.V_step hv5 (w1 := w.alloc rep0) (fun k hk hl => hB0.block k hl))
 have IS := (catchmentref27_Is.calls AR cR row k false (w.alloc rep0) rR.2.2 rR.2.1 hF).mono (R' := fun e w' => e = .returned (.bool false) ∧ Aside0 (Below w.heap.size w w' ∧ w'.heap[w.heap.size]? = some rep0)) (by
  rintro e w' ⟨rfl, hb_⟩
  exact ⟨rfl, ⟨below_then hB0 hB0.size hb_.below, blk_below (blk_new w rep0) hb_.below⟩⟩)
 have hA := aK_ h
 clear h hb hE hv1 hv2 hv3 hv4 hv5 hB0 hbx hT rR
 go_enter Try.func71, Try.ntmps71
 go_wp2_with (first
  | (go_at_call 42; refine IS.mono ?_; clear IS; rintro e w3 ⟨rfl, hA3⟩; obtain ⟨hB3, bD3⟩ := hA3.out; have y0 := blk_cell bD3 0; have y1 := blk_cell bD3 1; have y2 := blk_cell bD3 2; have y3 := blk_cell bD3 3; have y4 := blk_cell bD3 4; have y5 := blk_cell bD3 5; have q0 := blk_frozen bD3 0; have q1 := blk_frozen bD3 1; have q2 := blk_frozen bD3 2; have q3 := blk_frozen bD3 3; have q4 := blk_frozen bD3 4; have q5 := blk_frozen bD3 5; simp at y0 y1 y2 y3 y4 y5; clear hB3 bD3))
 obtain ⟨hB3, bD3⟩ := hA3.out
 have h := hA.out
 exact rd_end (fun k hk => .inl hk) (h.below hB3) (.of_below hB3) (Nat.le_refl _) (fun hz => by have := h.lt _ hz; omega) h.ltx.1 h.ltx.2 rfl rfl rfl bD3 (fun W' _ _ => RepV.bare _ _ _ _ _ _ _)
theorem next_mid {Z : Nat → Prop} {w w3 : World} {x tb : Nat} {c : Cf} {n sends : Int} {E : List En} {R : List (List Cu)} {AE AR : Option Addr} {cE cR : Nat} {vs : List Value} {row row2 : List Cu} {who k : Int} {ed fin : Bool} {e2 : Int} {kf : Nat} (hA : (Rx Z w x tb c n sends E R ∧ w.heap[x]? = some (objX c n AE E.length cE tb R.length sends) ∧ vs.length = R.length ∧ w.heap[tb]? = some (.cells vs.toArray 25 (0, 0)) ∧ vs[who.toNat]? = some (.slice AR row.length cR) ∧ Kd.V P.k97 97 w 0 Z (.slice AR row.length cR) row ∧ Kd.V P.k103 103 w 0 Z (.slice AE E.length cE) E ∧ (rd_T97 row (k - 1)).f1 = ed)) (hB3 : Below w.heap.size w w3) (bD3 : w3.heap[w.heap.size]? = some rep0) (hk1 : 1 ≤ k) (hk2 : k ≤ row.length) (hTk : catchmentref27_Took.f kf row k [] c.f8 = some (row2, fin, e2)) :
  (∃ ad, AR = some ad ∧ (w3.alloc (.cells #[] 103)).cell? ⟨(ad.add ((k - 1).toNat * 4)).block, (ad.add ((k - 1).toNat * 4)).off + 2, none⟩ = some (.bool ed)) ∧ (w3.alloc (.cells #[] 103)).cell? ⟨x, 8, none⟩ = some (.int .i64 c.f8) ∧
  Calls Try.prog 41 #[.slice AR row.length cR, .int .i64 k, .slice (some ⟨w3.heap.size, 0, none⟩) 0 0, .int .i64 c.f8] (w3.alloc (.cells #[] 103)) fun e w' => ∃ B cp, e = .returned (.tuple #[.slice B row2.length cp, .bool fin, .int .i64 e2]) ∧ Aside0 (w'.heap[w.heap.size]? = some rep0 ∧ Kd.V P.k97 97 w' 0 (fun k => Z k ∨ w3.heap.size + 1 ≤ k) (.slice B row2.length cp) row2 ∧ Below w.heap.size w w' ∧ w3.heap.size + 1 ≤ w'.heap.size ∧ w'.heap[x]? = some (objX c n AE E.length cE tb R.length sends) ∧ w'.heap[tb]? = some (.cells vs.toArray 25 (0, 0))) := by
 obtain ⟨h, hb, hv1, hv2, hv4, hv5, hE, he⟩ := hA
 have hB4 : Below w.heap.size w (w3.alloc (.cells #[] 103)) := below_alloc hB3 _
 have hV4 := Kd.V_step hv5 (w1 := w3.alloc (.cells #[] 103)) (fun k hk hl => hB4.block k hl)
 have hx4 := blk_below hb hB4
 have hT4 := blk_below hv2 hB4
 have bD4 := blk_alloc bD3 (.cells #[] 103)
 have sz : (w3.alloc (.cells #[] 103)).heap.size = w3.heap.size + 1 := by simp
 obtain ⟨ad, e0_, _, _, z2, _⟩ := at_T97 (Kd.V_reads' hV4).2.2 (k - 1) (by omega) (by omega)
 rw [he] at z2
 refine ⟨⟨ad, e0_, z2⟩, blk_cell hx4 8, (catchmentref27_Took.calls kf Z AR cR row k (some ⟨w3.heap.size, 0, none⟩) 0 [] c.f8 row2 fin e2 _ hV4 ⟨rfl, by simp, fun q => absurd q (Nat.lt_irrefl 0)⟩ (Nat.le_refl 0) hTk).mono ?_⟩
 rintro e w' ⟨v, rfl, ⟨B, cp, rfl, h2, h3⟩, hb_⟩
 rw [sz] at h3
 exact ⟨B, cp, rfl, ⟨blk_below bD4 hb_, ⟨B, cp, rfl, h2, h3⟩, below_then hB4 hB4.size hb_, by have := hb_.size; omega, blk_below hx4 hb_, blk_below hT4 hb_⟩⟩
theorem rn_end {Z : Nat → Prop} {w : World} {x tb : Nat} {c : Cf} {n sends : Int} {E : List En} {R : List (List Cu)} (h : Rx Z w x tb c n sends E R) (who : Int) (h1 : 1 ≤ who) (h2 : who ≤ n) (hl : (R.length : Int) = n + 1) (row : List Cu) (hrow : R[who.toNat]? = some row) (k : Int) (hF : catchmentref27_Is.f row k = some true) (hk1 : 1 ≤ k) (hk2 : k ≤ row.length) (hk3 : row.length ≤ 1000000) (hend : (rd_T97 row (k - 1)).f1 = true) (kf : Nat) (row2 : List Cu) (fin : Bool) (e2 : Int) (hTk : catchmentref27_Took.f kf row k [] c.f8 = some (row2, fin, e2)) :
  Calls Try.prog 71 #[.pointer (some ⟨x, 0, none⟩), .int .i64 who, .int .i64 k] w (Rd Z w x tb c n ⟨0, false, e0, [], 0, fin⟩ sends E (R.set who.toNat row2)) := by
 have hup := Try.underlying59
 have hum := Try.underlying65
 obtain ⟨AE, cE, hb, hE⟩ := h.blk
 obtain ⟨vs, hv1, hv2, hv3⟩ := h.rows
 obtain ⟨AR, cR, hv4, hv5⟩ := hv3 _ _ hrow
 have hB0 : Below w.heap.size w (w.alloc rep0) := below_alloc (Below.refl _ _) _
 have hbx := blk_below hb hB0
 have hT := blk_below hv2 hB0
 have u0 := blk_cell hbx 11
 have u1 : (w.alloc rep0).cell? ⟨tb, who.toNat, none⟩ = some (.slice AR row.length cR) := (blk_cell hT who.toNat).trans (by simpa using hv4)
 simp at u0
 have i0 : decide (0 ≤ who) = true := decide_eq_true (by omega)
 have i1 : decide (who < (R.length : Int)) = true := decide_eq_true (by omega)
 have i2 : 0 ≤ who := by omega
 have i3 : who < (R.length : Int) := by omega
 have i4 : (⟨tb, 0, none⟩ : Addr).add who.toNat = ⟨tb, who.toNat, none⟩ := by
  unfold Addr.add
  split
  ·rename_i h0; rw [h0]
  simp
 have rR := Kd.V_reads' (Kd.V_step hv5 (w1 := w.alloc rep0) (fun k hk hl => hB0.block k hl))
 have IS := (catchmentref27_Is.calls AR cR row k true (w.alloc rep0) rR.2.2 rR.2.1 hF).mono (R' := fun e w' => e = .returned (.bool true) ∧ Aside0 (Below w.heap.size w w' ∧ w'.heap[w.heap.size]? = some rep0)) (by
  rintro e w' ⟨rfl, hb_⟩
  exact ⟨rfl, ⟨below_then hB0 hB0.size hb_.below, blk_below (blk_new w rep0) hb_.below⟩⟩)
 have hk4 : IntKind.i64.wrap (k - 1) = k - 1 := IntWalk.i64_in _ (by omega)
 have hA := aK_ (And.intro h (And.intro hb (And.intro hv1 (And.intro hv2 (And.intro hv4 (And.intro hv5 (And.intro hE hend)))))))
 clear h hend hb hE hv1 hv2 hv3 hv4 hv5 hB0 hbx hT rR
 go_enter Try.func71, Try.ntmps71
 go_wp2_with (first
  | (go_at_call 42; refine IS.mono ?_; clear IS; rintro e w3 ⟨rfl, hA3⟩; obtain ⟨⟨ad, rfl, z2⟩, z8, TK⟩ := next_mid hA.out hA3.out.1 hA3.out.2 hk1 hk2 hTk; have hkn : (k - 1).toNat = k.toNat - 1 := (by omega); rw [hkn] at z2)
  | (go_at_call 41; refine TK.mono ?_; clear TK; rintro x_ w8 ⟨B, cp, rfl, hA8⟩; obtain ⟨bD8, hV8, hB8, hs8, bX8, bT8⟩ := hA8.out; have z11 := blk_cell bX8 11; have v1 : w8.cell? ⟨tb, who.toNat, none⟩ = some (.slice (some ad) row.length cR) := (blk_cell bT8 who.toNat).trans (by simpa using hA.out.2.2.2.2.1); have pT := blk_frozen bT8 who.toNat; simp at z11; have bD9 := (frm_set w8 tb who.toNat (.slice B row2.length cp)).blk bD8 (by have := hA.out.1.ltx; omega); have y0 := blk_cell bD9 0; have y1 := blk_cell bD9 1; have y2 := blk_cell bD9 2; have y3 := blk_cell bD9 3; have y4 := blk_cell bD9 4; have y5 := blk_cell bD9 5; have q0 := blk_frozen bD9 0; have q1 := blk_frozen bD9 1; have q2 := blk_frozen bD9 2; have q3 := blk_frozen bD9 3; have q4 := blk_frozen bD9 4; have q5 := blk_frozen bD9 5; simp at y0 y1 y2 y3 y4 y5; clear bD8 hV8 hB8 hs8 bX8 bT8 bD9))
 obtain ⟨h, hb, hv1, hv2, hv4, hv5, hE, hed⟩ := hA.out
 obtain ⟨bD8, hV8, hB8, hs8, bX8, bT8⟩ := hA8.out
 have lt := h.ltx
 have s3 := hA3.out.1.size
 have bD9 := (frm_set w8 tb who.toNat (.slice B row2.length cp)).blk bD8 (by omega)
 obtain ⟨hX, hf⟩ := rx_row (h.below hB8) who.toNat (by omega) hV8 (by omega) (by omega)
 exact rd_end (fun k hk => hk.elim .inl (fun q => .inr (by have := q.1; omega))) hX ((It.FrM.of_below hB8).trans hf (fun i hi => .inl (.inr hi))) (Nat.le_refl _) (fun hz => hz.elim (fun q => by have := h.lt _ q; omega) (fun q => by have := q.1; omega)) lt.1 lt.2 rfl rfl rfl bD9 (fun W' f hs => ⟨some ⟨w3.heap.size, 0, none⟩, 0, rfl, V_empty _ _ _ _ _⟩)
theorem cellB {w w' : World} {a : Addr} {v : Value} (h : w.cell? a = some v) (hb : Below w.heap.size w w') : w'.cell? a = some v := by
 have : a.block < w.heap.size := by
  rcases Nat.lt_or_ge a.block w.heap.size with q | q
  ·exact q
  exfalso
  have e : w.heap[a.block]? = none := by simp; omega
  simp [World.cell?, e] at h
 rw [← h]
 simp only [World.cell?, hb.block _ this]
theorem next_mid2 {Z : Nat → Prop} {w w3 : World} {x tb : Nat} {c : Cf} {n sends : Int} {E : List En} {R : List (List Cu)} {AE AR : Option Addr} {cE cR : Nat} {vs : List Value} {row row2 : List Cu} {who k : Int} {ed fin : Bool} {e2 : Int} {kf ks : Nat} {l : List En} (hA : (Rx Z w x tb c n sends E R ∧ w.heap[x]? = some (objX c n AE E.length cE tb R.length sends) ∧ vs.length = R.length ∧ w.heap[tb]? = some (.cells vs.toArray 25 (0, 0)) ∧ vs[who.toNat]? = some (.slice AR row.length cR) ∧ Kd.V P.k97 97 w 0 Z (.slice AR row.length cR) row ∧ Kd.V P.k103 103 w 0 Z (.slice AE E.length cE) E ∧ (rd_T97 row (k - 1)).f1 = ed)) (hB3 : Below w.heap.size w w3) (bD3 : w3.heap[w.heap.size]? = some rep0) (hk1 : 1 ≤ k) (hk2 : k ≤ row.length) (hTk : catchmentref27_Took.f kf row k l c.f8 = some (row2, fin, e2)) (hSm : catchmentref05_Some.f ks [] E (rd_T97 row (k - 1)).f0.f0 (rd_T97 row (k - 1)).f0.f1 c.f8 = some l) :
  ∃ ad, AR = some ad ∧ (w3.alloc (.cells #[] 103)).cell? ⟨(ad.add ((k - 1).toNat * 4)).block, (ad.add ((k - 1).toNat * 4)).off + 2, none⟩ = some (.bool ed) ∧ ((w3.alloc (.cells #[] 103)).drew.cell? ⟨x, 10, none⟩ = some (.slice AE E.length cE) ∧ (w3.alloc (.cells #[] 103)).drew.cell? (ad.add ((k - 1).toNat * 4)) = some (.string (rd_T97 row (k - 1)).f0.f0) ∧ (w3.alloc (.cells #[] 103)).drew.cell? ⟨(ad.add ((k - 1).toNat * 4)).block, (ad.add ((k - 1).toNat * 4)).off + 1, none⟩ = some (.string (rd_T97 row (k - 1)).f0.f1) ∧ (w3.alloc (.cells #[] 103)).drew.cell? ⟨x, 8, none⟩ = some (.int .i64 c.f8)) ∧
  Calls Try.prog 70 #[.slice none 0 0, .slice AE E.length cE, .agg #[.string (rd_T97 row (k - 1)).f0.f0, .string (rd_T97 row (k - 1)).f0.f1], .int .i64 c.f8] (w3.alloc (.cells #[] 103)).drew fun e w5 => ∃ Bl cpl, e = .returned (.slice Bl l.length cpl) ∧ (w5.cell? ⟨x, 10, none⟩ = some (.slice AE E.length cE) ∧ w5.cell? (ad.add ((k - 1).toNat * 4)) = some (.string (rd_T97 row (k - 1)).f0.f0) ∧ w5.cell? ⟨(ad.add ((k - 1).toNat * 4)).block, (ad.add ((k - 1).toNat * 4)).off + 1, none⟩ = some (.string (rd_T97 row (k - 1)).f0.f1) ∧ w5.cell? ⟨x, 8, none⟩ = some (.int .i64 c.f8)) ∧
   Calls Try.prog 41 #[.slice AR row.length cR, .int .i64 k, .slice Bl l.length cpl, .int .i64 c.f8] w5 fun e w' => ∃ B cp, e = .returned (.tuple #[.slice B row2.length cp, .bool fin, .int .i64 e2]) ∧ Aside0 (w'.heap[w.heap.size]? = some rep0 ∧ Kd.V P.k97 97 w' 0 (fun k => Z k ∨ w3.heap.size + 1 ≤ k) (.slice B row2.length cp) row2 ∧ Below w.heap.size w w' ∧ w3.heap.size + 1 ≤ w'.heap.size ∧ w'.heap[x]? = some (objX c n AE E.length cE tb R.length sends) ∧ w'.heap[tb]? = some (.cells vs.toArray 25 (0, 0)) ∧ Kd.V P.k103 103 w' 0 (fun k => w3.heap.size + 1 ≤ k ∧ k < w'.heap.size) (.slice Bl l.length cpl) l) := by
 obtain ⟨h, hb, hv1, hv2, hv4, hv5, hE, he⟩ := hA
 have hB4 : Below w.heap.size w (w3.alloc (.cells #[] 103)) := below_alloc hB3 _
 have hB4d := below_drew1 hB4
 have sz : (w3.alloc (.cells #[] 103)).drew.heap.size = w3.heap.size + 1 := by show (w3.alloc (.cells #[] 103)).heap.size = _; simp
 have hV4 := Kd.V_step hv5 (w1 := (w3.alloc (.cells #[] 103))) (fun k hk hl => hB4.block k hl)
 have hx4 : (w3.alloc (.cells #[] 103)).drew.heap[x]? = _ := blk_below hb hB4d
 have hT4 : (w3.alloc (.cells #[] 103)).drew.heap[tb]? = _ := blk_below hv2 hB4d
 have bD4 : (w3.alloc (.cells #[] 103)).drew.heap[w.heap.size]? = some rep0 := blk_alloc bD3 (.cells #[] 103)
 have hV4d := Kd.V_step hv5 (w1 := (w3.alloc (.cells #[] 103)).drew) (fun k hk hl => hB4d.block k hl)
 have rE := Kd.V_reads' (Kd.V_step hE (w1 := (w3.alloc (.cells #[] 103)).drew) (fun k hk hl => hB4d.block k hl))
 obtain ⟨ad, ea, _, _, z2, _⟩ := at_T97 (Kd.V_reads' hV4).2.2 (k - 1) (by omega) (by omega)
 obtain ⟨ad', ea', a0, a1, _, _⟩ := at_T97 (Kd.V_reads' hV4d).2.2 (k - 1) (by omega) (by omega)
 have : ad' = ad := by rw [ea] at ea'; cases ea'; rfl
 subst this
 rw [he] at z2
 have x8 : (w3.alloc (.cells #[] 103)).drew.cell? ⟨x, 8, none⟩ = some (.int .i64 c.f8) := blk_cell hx4 8
 have x10 : (w3.alloc (.cells #[] 103)).drew.cell? ⟨x, 10, none⟩ = some (.slice AE E.length cE) := blk_cell hx4 10
 refine ⟨ad', ea, z2, ⟨x10, a0, a1, x8⟩, (catchmentref05_Some.calls ks none 0 [] AE cE E _ _ c.f8 l (w3.alloc (.cells #[] 103)).drew (Kd.C_nil _ _) (Nat.le_refl 0) rE.2.2 rE.2.1 hSm).mono ?_⟩
 rintro e w5 ⟨v, rfl, hR, hb_⟩
 obtain ⟨Bl, cpl, rfl⟩ := Kd.R_slice hR
 have hB5 := below_then hB4d hB4d.size hb_
 have hx5 := blk_below hx4 hb_
 have hT5 := blk_below hT4 hb_
 have bD5 := blk_below bD4 hb_
 have hV5 := Kd.V_step hv5 (w1 := w5) (fun k hk hl => hB5.block k hl)
 have lE := V_of_R hR
 have s5 := hb_.size
 refine ⟨Bl, cpl, rfl, ⟨blk_cell hx5 10, cellB a0 hb_, cellB a1 hb_, blk_cell hx5 8⟩, (catchmentref27_Took.calls kf Z AR cR row k Bl cpl l c.f8 row2 fin e2 w5 hV5 (Kd.V_reads' lE).2.2 (Kd.V_reads' lE).2.1 hTk).mono ?_⟩
 rintro e w' ⟨v, rfl, ⟨B, cp, rfl, h2, h3⟩, hb2⟩
 have s6 := hb2.size
 refine ⟨B, cp, rfl, ⟨blk_below bD5 hb2, Kd.V_mono ⟨B, cp, rfl, h2, h3⟩ (fun k hk => hk.elim .inl (fun q => .inr (by omega))), below_then hB5 hB5.size hb2, by omega, blk_below hx5 hb2, blk_below hT5 hb2, Kd.V_mono (Kd.V_below lE hb2) (fun k hk => ⟨by have := hk.1; omega, by have := hk.2; omega⟩)⟩⟩
theorem rn_more {Z : Nat → Prop} {w : World} {x tb : Nat} {c : Cf} {n sends : Int} {E : List En} {R : List (List Cu)} (h : Rx Z w x tb c n sends E R) (who : Int) (h1 : 1 ≤ who) (h2 : who ≤ n) (hl : (R.length : Int) = n + 1) (row : List Cu) (hrow : R[who.toNat]? = some row) (k : Int) (hF : catchmentref27_Is.f row k = some true) (hk1 : 1 ≤ k) (hk2 : k ≤ row.length) (hk3 : row.length ≤ 1000000) (hend : (rd_T97 row (k - 1)).f1 = false) (kf ks : Nat) (l : List En) (hSm : catchmentref05_Some.f ks [] E (rd_T97 row (k - 1)).f0.f0 (rd_T97 row (k - 1)).f0.f1 c.f8 = some l) (row2 : List Cu) (fin : Bool) (e2 : Int) (hTk : catchmentref27_Took.f kf row k l c.f8 = some (row2, fin, e2)) :
  Calls Try.prog 71 #[.pointer (some ⟨x, 0, none⟩), .int .i64 who, .int .i64 k] w (Rd Z w x tb c n ⟨0, false, e0, l, 0, fin⟩ sends E (R.set who.toNat row2)) := by
 have hup := Try.underlying59
 have hum := Try.underlying65
 obtain ⟨AE, cE, hb, hE⟩ := h.blk
 obtain ⟨vs, hv1, hv2, hv3⟩ := h.rows
 obtain ⟨AR, cR, hv4, hv5⟩ := hv3 _ _ hrow
 have hB0 : Below w.heap.size w (w.alloc rep0) := below_alloc (Below.refl _ _) _
 have hbx := blk_below hb hB0
 have hT := blk_below hv2 hB0
 have u0 := blk_cell hbx 11
 have u1 : (w.alloc rep0).cell? ⟨tb, who.toNat, none⟩ = some (.slice AR row.length cR) := (blk_cell hT who.toNat).trans (by simpa using hv4)
 simp at u0
 have i0 : decide (0 ≤ who) = true := decide_eq_true (by omega)
 have i1 : decide (who < (R.length : Int)) = true := decide_eq_true (by omega)
 have i2 : 0 ≤ who := by omega
 have i3 : who < (R.length : Int) := by omega
 have i4 : (⟨tb, 0, none⟩ : Addr).add who.toNat = ⟨tb, who.toNat, none⟩ := by
  unfold Addr.add
  split
  ·rename_i h0; rw [h0]
  simp
 have rR := Kd.V_reads' (Kd.V_step hv5 (w1 := w.alloc rep0) (fun k hk hl => hB0.block k hl))
 have IS := (catchmentref27_Is.calls AR cR row k true (w.alloc rep0) rR.2.2 rR.2.1 hF).mono (R' := fun e w' => e = .returned (.bool true) ∧ Aside0 (Below w.heap.size w w' ∧ w'.heap[w.heap.size]? = some rep0)) (by
  rintro e w' ⟨rfl, hb_⟩
  exact ⟨rfl, ⟨below_then hB0 hB0.size hb_.below, blk_below (blk_new w rep0) hb_.below⟩⟩)
 have hk4 : IntKind.i64.wrap (k - 1) = k - 1 := IntWalk.i64_in _ (by omega)
 have j0 := eq_true (show 1 ≤ k by omega)
 have j1 := decide_eq_true (show 1 ≤ k by omega)
 have j2 := eq_true (show k - 1 < (row.length : Int) by omega)
 have j3 := decide_eq_true (show k - 1 < (row.length : Int) by omega)
 have j4 := eq_true (show (0 : Int) ≤ k - 1 by omega)
 have hA := aK_ (And.intro h (And.intro hb (And.intro hv1 (And.intro hv2 (And.intro hv4 (And.intro hv5 (And.intro hE hend)))))))
 clear h hend hb hE hv1 hv2 hv3 hv4 hv5 hB0 hbx hT rR
 go_enter Try.func71, Try.ntmps71
 go_wp2_with (first
  | (go_at_call 42; refine IS.mono ?_; clear IS; rintro e w3 ⟨rfl, hA3⟩; obtain ⟨ad, rfl, z2, ⟨u10, u20, u30, u40⟩, SM⟩ := next_mid2 hA.out hA3.out.1 hA3.out.2 hk1 hk2 hTk hSm; have hkn : (k - 1).toNat = k.toNat - 1 := (by omega); rw [hkn] at z2 u20 u30 SM))
 go_region_held3 (fun w' => w'.cell? ⟨x, 10, none⟩ = some (.slice AE E.length cE) ∧ w'.cell? (ad.add ((k.toNat - 1) * 4)) = some (.string (rd_T97 row (k - 1)).f0.f0) ∧ w'.cell? ⟨(ad.add ((k.toNat - 1) * 4)).block, (ad.add ((k.toNat - 1) * 4)).off + 1, none⟩ = some (.string (rd_T97 row (k - 1)).f0.f1) ∧ w'.cell? ⟨x, 8, none⟩ = some (.int .i64 c.f8)) (first | exact ⟨by assumption, by assumption, by assumption, by assumption⟩ | exact ⟨u10, u20, u30, u40⟩)
   (first
    | (go_at_call 70; refine SM.mono ?_; clear SM; rintro x_ w5 ⟨Bl, cpl, rfl, ⟨v10, v20, v30, v40⟩, TK⟩))
 clear u10 u20 u30 u40
 go_wp2_with (first
  | (go_at_call 41; refine TK.mono ?_; clear TK; rintro x_ w8 ⟨B, cp, rfl, hA8⟩; obtain ⟨bD8, hV8, hB8, hs8, bX8, bT8, hL8⟩ := hA8.out; have z11 := blk_cell bX8 11; have v1 : w8.cell? ⟨tb, who.toNat, none⟩ = some (.slice (some ad) row.length cR) := (blk_cell bT8 who.toNat).trans (by simpa using hA.out.2.2.2.2.1); have pT := blk_frozen bT8 who.toNat; simp at z11; have bD9 := (frm_set w8 tb who.toNat (.slice B row2.length cp)).blk bD8 (by have := hA.out.1.ltx; omega); have y0 := blk_cell bD9 0; have y1 := blk_cell bD9 1; have y2 := blk_cell bD9 2; have y3 := blk_cell bD9 3; have y4 := blk_cell bD9 4; have y5 := blk_cell bD9 5; have q0 := blk_frozen bD9 0; have q1 := blk_frozen bD9 1; have q2 := blk_frozen bD9 2; have q3 := blk_frozen bD9 3; have q4 := blk_frozen bD9 4; have q5 := blk_frozen bD9 5; simp at y0 y1 y2 y3 y4 y5; clear bD8 hV8 hB8 hs8 bX8 bT8 bD9 hL8))
 obtain ⟨h, hb, hv1, hv2, hv4, hv5, hE, hed⟩ := hA.out
 obtain ⟨bD8, hV8, hB8, hs8, bX8, bT8, hL8⟩ := hA8.out
 have lt := h.ltx
 have s3 := hA3.out.1.size
 have bD9 := (frm_set w8 tb who.toNat (.slice B row2.length cp)).blk bD8 (by omega)
 obtain ⟨hX, hf⟩ := rx_row (h.below hB8) who.toNat (by omega) hV8 (by omega) (by omega)
 refine rd_end (fun k hk => hk.elim .inl (fun q => .inr (by have := q.1; omega))) hX ((It.FrM.of_below hB8).trans hf (fun i hi => .inl (.inr hi))) (Nat.le_refl _) (fun hz => hz.elim (fun q => by have := h.lt _ q; omega) (fun q => by have := q.1; omega)) lt.1 lt.2 rfl rfl rfl bD9 (fun W' f hs => ⟨Bl, cpl, rfl, ?_⟩)
 have g := frm_set w8 tb who.toNat (.slice B row2.length cp)
 have sg : (w8.setCell ⟨tb, who.toNat, none⟩ (.slice B row2.length cp)).heap.size = w8.heap.size := by simp
 exact Kd.V_mono (Kd.V_step (Kd.V_step hL8 (fun j hj hjl => g.block j hjl (fun e => by have := hj.1; omega))) (fun j hj hjl => f.block j hjl (fun e => by have := hj.1; omega))) (fun j hj => ⟨by have := hj.1; omega, by have := hj.2; omega⟩)
theorem rd_close {Z : Nat → Prop} {w : World} {x tb : Nat} {c : Cf} {n sends : Int} {E : List En} {R : List (List Cu)} (h : Rx Z w x tb c n sends E R) (who : Int) (hw : ¬ (who < 1 ∨ who > n)) (o : Oq) {A : Option Addr} {cap : Nat} (hC : Kd.C P.k117 w A o.b.length o.b) (hcap : o.b.length ≤ cap) (ka : Nat) (e : Int) (hask : catchmentref21_Ask.f ka o.k o.y o.t o.n o.b c.f0 c.f1 c.f2 c.f3 c.f4 c.f5 c.f6 c.f7 c.f8 = some e) (hk : o.k = 6) (he : e = 0) (hl : (R.length : Int) = n + 1) (hn : n ≤ 1000000) (row : List Cu) (hrow : R[who.toNat]? = some row) (row2 : List Cu) (e2 : Int) (hF : catchmentref27_Close.f row o.n = some (row2, e2)) :
  Calls Try.prog 37 #[.pointer (some ⟨x, 0, none⟩), .int .i64 who, .agg #[.int .u8 o.k, .string o.y, .string o.t, .int .i64 o.n, .slice A o.b.length cap]] w (Rd Z w x tb c n ⟨e2, false, e0, [], 0, false⟩ sends E (R.set who.toNat row2)) := by
 have hup := Try.underlying59
 have huo := Try.underlying56
 have hum := Try.underlying65
 have huc := Try.underlying47
 have hur := Try.underlying29
 obtain ⟨AE, cE, hb, hE⟩ := h.blk
 obtain ⟨ok, oy, ot, on, ob⟩ := o
 have hk : ok = 6 := hk
 subst hk
 subst he
 have q0 : (((0 : Int)) == 0) = true := rfl
 have hB0 : Below w.heap.size w ((w.alloc (objO ⟨6, oy, ot, on, ob⟩ A cap)).alloc rep0) := below_alloc (below_alloc (Below.refl _ _) _) _
 have bO : ((w.alloc (objO ⟨6, oy, ot, on, ob⟩ A cap)).alloc rep0).heap[w.heap.size]? = some (objO ⟨6, oy, ot, on, ob⟩ A cap) := blk_alloc (blk_new w _) _
 have bD : ((w.alloc (objO ⟨6, oy, ot, on, ob⟩ A cap)).alloc rep0).heap[w.heap.size + 1]? = some rep0 := by have := blk_new (w.alloc (objO ⟨6, oy, ot, on, ob⟩ A cap)) rep0; rwa [World.size_alloc] at this
 have hsz2 : ((w.alloc (objO ⟨6, oy, ot, on, ob⟩ A cap)).alloc rep0).heap.size = w.heap.size + 2 := by simp
 have x9 := blk_cell (blk_below hb hB0) 9
 simp at x9
 have d0 := decide_eq_false (show ¬ who < 1 by omega)
 have d1 := decide_eq_false (show ¬ who > n by omega)
 have hA := aK_ (And.intro h (And.intro hB0 (And.intro bO (And.intro bD (And.intro hC (And.intro hcap (And.intro hsz2 hask)))))))
 have hbE := aK_ (And.intro hb hE)
 clear h hb hE hB0 bO bD hC hcap hsz2 hask
 go_enter Try.func37, Try.ntmps37
 go_wp2
 obtain ⟨h, hB0, bO, bD, hC, hcap, hsz2, hask⟩ := hA.out
 obtain ⟨hb, hE⟩ := hbE.out
 generalize (w.alloc (objO ⟨6, oy, ot, on, ob⟩ A cap)).alloc rep0 = w2 at hB0 bO bD hsz2 ⊢
 have hB0d := below_drew1 hB0
 have hm2 : w2.drew.heap[x]? = _ := blk_below hb hB0d
 have bO2 : w2.drew.heap[w.heap.size]? = _ := bO
 have o0 := blk_cell bO2 0
 have o1 := blk_cell bO2 1
 have o2 := blk_cell bO2 2
 have o3 := blk_cell bO2 3
 have o4 := blk_cell bO2 4
 have c0 := blk_cell hm2 0
 have c1 := blk_cell hm2 1
 have c2 := blk_cell hm2 2
 have c3 := blk_cell hm2 3
 have c4 := blk_cell hm2 4
 have c5 := blk_cell hm2 5
 have c6 := blk_cell hm2 6
 have c7 := blk_cell hm2 7
 have c8 := blk_cell hm2 8
 simp at o0 o1 o2 o3 o4 c0 c1 c2 c3 c4 c5 c6 c7 c8
 have AK := catchmentref21_Ask.calls ka 6 oy ot on A cap ob c.f0 c.f1 c.f2 c.f3 c.f4 c.f5 c.f6 c.f7 c.f8 0 w2.drew (Kd.C_below hC hB0d) hcap hask
 have AK2 := AK.mono (R' := fun x_ w' => x_ = .returned (.int .i64 0) ∧ (w'.cell? ⟨w.heap.size, 0, none⟩ = some (.int .u8 6) ∧ w'.cell? ⟨w.heap.size, 1, none⟩ = some (.string oy) ∧ w'.cell? ⟨w.heap.size, 2, none⟩ = some (.string ot) ∧ w'.cell? ⟨w.heap.size, 3, none⟩ = some (.int .i64 on) ∧ w'.cell? ⟨w.heap.size, 4, none⟩ = some (.slice A ob.length cap) ∧ w'.cell? ⟨x, 0, none⟩ = some (.int .i64 c.f0) ∧ w'.cell? ⟨x, 1, none⟩ = some (.int .i64 c.f1) ∧ w'.cell? ⟨x, 2, none⟩ = some (.int .i64 c.f2) ∧ w'.cell? ⟨x, 3, none⟩ = some (.int .i64 c.f3) ∧ w'.cell? ⟨x, 4, none⟩ = some (.int .i64 c.f4) ∧ w'.cell? ⟨x, 5, none⟩ = some (.int .i64 c.f5) ∧ w'.cell? ⟨x, 6, none⟩ = some (.int .i64 c.f6) ∧ w'.cell? ⟨x, 7, none⟩ = some (.int .i64 c.f7) ∧ w'.cell? ⟨x, 8, none⟩ = some (.int .i64 c.f8)) ∧ Aside0 (Below w.heap.size w w' ∧ w2.heap.size ≤ w'.heap.size ∧ w'.heap[w.heap.size + 1]? = some rep0 ∧ w'.heap[w.heap.size]? = some (objO ⟨6, oy, ot, on, ob⟩ A cap))) (by
  rintro x_ w' ⟨rfl, hb_⟩
  have hm5 := blk_below hm2 hb_
  have bO5 := blk_below bO2 hb_
  have o0 := blk_cell bO5 0
  have o1 := blk_cell bO5 1
  have o2 := blk_cell bO5 2
  have o3 := blk_cell bO5 3
  have o4 := blk_cell bO5 4
  have c0 := blk_cell hm5 0
  have c1 := blk_cell hm5 1
  have c2 := blk_cell hm5 2
  have c3 := blk_cell hm5 3
  have c4 := blk_cell hm5 4
  have c5 := blk_cell hm5 5
  have c6 := blk_cell hm5 6
  have c7 := blk_cell hm5 7
  have c8 := blk_cell hm5 8
  simp at o0 o1 o2 o3 o4 c0 c1 c2 c3 c4 c5 c6 c7 c8
  have bD5 := blk_below (show w2.drew.heap[w.heap.size + 1]? = some rep0 from bD) hb_
  exact ⟨rfl, ⟨o0, o1, o2, o3, o4, c0, c1, c2, c3, c4, c5, c6, c7, c8⟩, ⟨below_then hB0d hB0d.size hb_, hb_.size, bD5, bO5⟩⟩)
 have hA2 := aK_ hsz2
 clear AK hB0d hm2 bO2 h hb hE hB0 bO bD hC hcap hsz2 hask
 go_region_held3 (fun w' => w'.cell? ⟨w.heap.size, 0, none⟩ = some (.int .u8 6) ∧ w'.cell? ⟨w.heap.size, 1, none⟩ = some (.string oy) ∧ w'.cell? ⟨w.heap.size, 2, none⟩ = some (.string ot) ∧ w'.cell? ⟨w.heap.size, 3, none⟩ = some (.int .i64 on) ∧ w'.cell? ⟨w.heap.size, 4, none⟩ = some (.slice A ob.length cap) ∧ w'.cell? ⟨x, 0, none⟩ = some (.int .i64 c.f0) ∧ w'.cell? ⟨x, 1, none⟩ = some (.int .i64 c.f1) ∧ w'.cell? ⟨x, 2, none⟩ = some (.int .i64 c.f2) ∧ w'.cell? ⟨x, 3, none⟩ = some (.int .i64 c.f3) ∧ w'.cell? ⟨x, 4, none⟩ = some (.int .i64 c.f4) ∧ w'.cell? ⟨x, 5, none⟩ = some (.int .i64 c.f5) ∧ w'.cell? ⟨x, 6, none⟩ = some (.int .i64 c.f6) ∧ w'.cell? ⟨x, 7, none⟩ = some (.int .i64 c.f7) ∧ w'.cell? ⟨x, 8, none⟩ = some (.int .i64 c.f8)) (first | exact ⟨by assumption, by assumption, by assumption, by assumption, by assumption, by assumption, by assumption, by assumption, by assumption, by assumption, by assumption, by assumption, by assumption, by assumption⟩ | exact ⟨o0, o1, o2, o3, o4, c0, c1, c2, c3, c4, c5, c6, c7, c8⟩)
   (first
    | (go_at_call 24; refine AK2.mono ?_; clear AK2; rintro x_ w5 ⟨rfl, ⟨y0, y1, y2, y3, y4, y5, y6, y7, y8, y9, y10, y11, y12, y13⟩, hA5⟩))
 clear o0 o1 o2 o3 o4 c0 c1 c2 c3 c4 c5 c6 c7 c8 y0 y1 y2 y3 y4 y5 y6 y7 y8 y9 y10 y11 y12 y13
 obtain ⟨h, _, _, _, hC, hcap, _, _⟩ := hA.out
 obtain ⟨hb, hE⟩ := hbE.out
 obtain ⟨hB5, hs5, bD5, bO5⟩ := hA5.out
 have hB6 : Below w.heap.size w (w5.alloc (.cells #[.string oy, .string ot] 29)) := below_alloc hB5 _
 have bD6 := blk_alloc bD5 (.cells #[.string oy, .string ot] 29)
 have bO6 := blk_alloc bO5 (.cells #[.string oy, .string ot] 29)
 have bR6 := blk_new w5 (.cells #[.string oy, .string ot] 29)
 have o0 := blk_cell bO6 0
 have o1 := blk_cell bO6 1
 have o2 := blk_cell bO6 2
 have o3 := blk_cell bO6 3
 have o4 := blk_cell bO6 4
 simp at o0 o1 o2 o3 o4
 clear h hb hE hC hcap hB5 hs5 bD5 bO5 hB6 bD6 bO6 bR6
 go_wp2
 obtain ⟨h, _, _, _, hC, hcap, _, _⟩ := hA.out
 obtain ⟨hb, hE⟩ := hbE.out
 obtain ⟨hB5, hs5, bD5, bO5⟩ := hA5.out
 have hB6 : Below w.heap.size w (w5.alloc (.cells #[.string oy, .string ot] 29)) := below_alloc hB5 _
 have bD6 := blk_alloc bD5 (.cells #[.string oy, .string ot] 29)
 have bO6 := blk_alloc bO5 (.cells #[.string oy, .string ot] 29)
 have bR6 := blk_new w5 (.cells #[.string oy, .string ot] 29)
 generalize hw6 : w5.alloc (.cells #[.string oy, .string ot] 29) = w6 at hB6 bD6 bO6 bR6 ⊢
 have ls5 : w5.heap.size + 1 = w6.heap.size := by rw [← hw6]; simp
 clear hw6 o0 o1 o2 o3 o4
 have hB6d := below_drew1 hB6
 have hm6 : w6.drew.heap[x]? = _ := blk_below hb hB6d
 have bR7 : w6.drew.heap[w5.heap.size]? = _ := bR6
 have bO7 : w6.drew.heap[w.heap.size]? = _ := bO6
 have bD7 : w6.drew.heap[w.heap.size + 1]? = some rep0 := bD6
 have lsd : w6.drew.heap.size = w6.heap.size := rfl
 have hsz := hA2.out
 obtain ⟨vs, hv1, hv2, hv3⟩ := h.rows
 obtain ⟨AR, cR, hv4, hv5⟩ := hv3 _ _ hrow
 have hT6 : w6.drew.heap[tb]? = _ := blk_below hv2 hB6d
 have u0 := blk_cell hm6 11
 have u1 : w6.drew.cell? ⟨tb, who.toNat, none⟩ = some (.slice AR row.length cR) := (blk_cell hT6 who.toNat).trans (by simpa using hv4)
 have u2 := blk_cell bO7 3
 simp at u0 u2
 have i0 : decide (0 ≤ who) = true := decide_eq_true (by omega)
 have i1 : decide (who < (R.length : Int)) = true := decide_eq_true (by omega)
 have i2 := eq_true (show 0 ≤ who by omega)
 have i3 := eq_true (show who < (R.length : Int) by omega)
 have i4 : (⟨tb, 0, none⟩ : Addr).add who.toNat = ⟨tb, who.toNat, none⟩ := by
  unfold Addr.add
  split
  ·rename_i h0; rw [h0]
  simp
 have OP := (catchmentref27_Close.calls Z AR cR row on row2 e2 w6.drew (Kd.V_step hv5 (fun k hk hl => hB6d.block k hl)) hF).mono (R' := fun e w' => ∃ B cp, e = .returned (.tuple #[.slice B row2.length cp, .int .i64 e2]) ∧ (w'.cell? ⟨x, 11, none⟩ = some (.slice (some ⟨tb, 0, none⟩) R.length R.length) ∧ w'.cell? ⟨tb, who.toNat, none⟩ = some (.slice AR row.length cR) ∧ w'.cell? ⟨w.heap.size, 3, none⟩ = some (.int .i64 on)) ∧ Aside0 (w'.heap[w.heap.size + 1]? = some rep0 ∧ Kd.V P.k97 97 w' 0 (fun k => Z k ∨ w6.drew.heap.size ≤ k) (.slice B row2.length cp) row2 ∧ Below w.heap.size w w' ∧ w6.drew.heap.size ≤ w'.heap.size ∧ w'.heap[x]? = some (objX c n AE E.length cE tb R.length sends) ∧ w'.heap[tb]? = some (.cells vs.toArray 25 (0, 0)))) (by
  rintro e w' ⟨v, rfl, hV, hb_⟩
  obtain ⟨B, cp, rfl, hV2, hV3⟩ := hV
  have a0 := blk_cell (blk_below hm6 hb_) 11
  have a1 : w'.cell? ⟨tb, who.toNat, none⟩ = some (.slice AR row.length cR) := (blk_cell (blk_below hT6 hb_) who.toNat).trans (by simpa using hv4)
  have a2 := blk_cell (blk_below bO7 hb_) 3
  simp at a0 a2
  exact ⟨B, cp, rfl, ⟨a0, a1, a2⟩, ⟨blk_below bD7 hb_, ⟨B, cp, rfl, hV2, hV3⟩, below_then hB6d hB6d.size hb_, hb_.size, blk_below hm6 hb_, blk_below hT6 hb_⟩⟩)
 have hls := aK_ (And.intro (show w.heap.size + 2 ≤ w6.drew.heap.size by omega) (And.intro hv1 hv4))
 have hxl := h.ltx
 clear h hb hE hC hcap hB5 hs5 bD5 bO5 hB6 bD6 bO6 bR6 hB6d hm6 bO7 bR7 bD7 lsd ls5 hsz hv1 hv2 hv3 hv4 hv5 hT6
 have hlA := aK_ hl
 clear hl
 go_region_held3 (fun w' => w'.cell? ⟨x, 11, none⟩ = some (.slice (some ⟨tb, 0, none⟩) R.length R.length) ∧ w'.cell? ⟨tb, who.toNat, none⟩ = some (.slice AR row.length cR) ∧ w'.cell? ⟨w.heap.size, 3, none⟩ = some (.int .i64 on)) (first | exact ⟨by assumption, by assumption, by assumption⟩ | exact ⟨u0, u1, u2⟩)
   (first
    | (go_at_call 40; refine OP.mono ?_; clear OP; rintro x_ w8 ⟨B, cp, rfl, ⟨v0, v1, v2⟩, hA8⟩))
 have hl := hlA.out
 clear u0 u1 u2 v2
 obtain ⟨bD8, hV8, hB8, hs8, bX8, bT8⟩ := hA8.out
 have hl8 := hls.out.1
 have z11 := blk_cell bX8 11
 have pT := blk_frozen bT8 who.toNat
 simp at z11
 have bD9 := (frm_set w8 tb who.toNat (.slice B row2.length cp)).blk bD8 (by omega)
 have y0 := blk_cell bD9 0
 have y1 := blk_cell bD9 1
 have y2 := blk_cell bD9 2
 have y3 := blk_cell bD9 3
 have y4 := blk_cell bD9 4
 have y5 := blk_cell bD9 5
 have q0 := blk_frozen bD9 0
 have q1 := blk_frozen bD9 1
 have q2 := blk_frozen bD9 2
 have q3 := blk_frozen bD9 3
 have q4 := blk_frozen bD9 4
 have q5 := blk_frozen bD9 5
 simp at y0 y1 y2 y3 y4 y5
 clear bD8 hV8 hB8 hs8 bX8 bT8 bD9
 go_wp2
 obtain ⟨h, _, _, _, hC, hcap, _, _⟩ := hA.out
 obtain ⟨bD8, hV8, hB8, hs8, bX8, bT8⟩ := hA8.out
 have bD9 := (frm_set w8 tb who.toNat (.slice B row2.length cp)).blk bD8 (by omega)
 obtain ⟨hX, hf⟩ := rx_row (h.below hB8) who.toNat (by omega) hV8 (by omega) (by omega)
 exact rd_end (fun k hk => hk.elim .inl (fun q => .inr (by have := q.1; omega))) hX ((It.FrM.of_below hB8).trans hf (fun i hi => .inl (.inr hi))) (by omega) (fun hz => hz.elim (fun q => by have := h.lt _ q; omega) (fun q => by have := q.1; omega)) h.ltx.1 h.ltx.2 rfl rfl rfl bD9 (fun W' f hs => RepV.bare _ _ _ _ _ _ _)
end Go.Proofs.Ytljnlnbopohghaa.Mdl
end
section
namespace Go.Proofs.Ytljnlnbopohghaa.Mdl
open Go.RowKit Go.Shelf Go.Proofs.YtljnlnbopohghaaW.PrintWords Go.Proofs.YtljnlnbopohghaaW.PrintLast Go.Proofs.YtljnlnbopohghaaW.PrintMore Go.Proofs.Ytljnlnbopohghaa.Own Go.Proofs.Ytljnlnbopohghaa.Ord Go.Proofs.Ytljnlnbopohghaa Go.Proofs.Ytljnlnbopohghaa.P
open List renaming setIfInBounds_toArray → sA1, set_cons_zero → sA2, set_cons_succ → sA3, getElem_toArray → sA4, getElem_cons_zero → sA5, getElem_cons_succ → sA6
set_option maxHeartbeats 2000000
set_option maxRecDepth 100000
theorem sendT11 : rtab .any (opsOf Try.f37 11) = rtab .any (opsOf Try.f37 11) := rfl
theorem rx_send {Z Zn : Nat → Prop} {w : World} {x tb : Nat} {c : Cf} {n sends : Int} {E : List En} {R : List (List Cu)} (h : Rx Z w x tb c n sends E R) {B : Option Addr} {cp : Nat} {l : List En} (hV : Kd.V P.k103 103 w 0 Zn (.slice B l.length cp) l) (hZ : ∀ k, Zn k → k ≠ x ∧ k ≠ tb ∧ k < w.heap.size) :
  Rx (fun k => Z k ∨ Zn k) ((w.setCell ⟨x, 10, none⟩ (.slice B l.length cp)).setCell ⟨x, 12, none⟩ (.int .i64 (sends + 1))) x tb c n (sends + 1) l R ∧ It.FrM (fun k => k = x) w ((w.setCell ⟨x, 10, none⟩ (.slice B l.length cp)).setCell ⟨x, 12, none⟩ (.int .i64 (sends + 1))) := by
 obtain ⟨A, ca, b1, b2⟩ := h.blk
 obtain ⟨vs, r1, r2, r3⟩ := h.rows
 have f : It.FrM (fun k => k = x) w ((w.setCell ⟨x, 10, none⟩ (.slice B l.length cp)).setCell ⟨x, 12, none⟩ (.int .i64 (sends + 1))) := frm_setN (M := fun k => k = x) (frm_setN (M := fun k => k = x) (It.FrM.refl _ _) 10 (.inl rfl) _) 12 (.inl rfl) _
 have b3 := blk_set (blk_set b1 10 (.slice B l.length cp)) 12 (.int .i64 (sends + 1))
 refine ⟨⟨⟨B, cp, b3, Kd.V_mono (Kd.V_step hV (fun k hk hl => f.block k hl (hZ k hk).1)) (fun k hk => .inr hk)⟩, ⟨vs, r1, f.blk r2 (fun e => h.ne e.symm), fun i r hr => ?_⟩, h.ne, fun hz => hz.elim h.zx (fun q => (hZ x q).1 rfl), fun hz => hz.elim h.zt (fun q => (hZ tb q).2.1 rfl), fun k hk => ?_⟩, f⟩
 ·obtain ⟨A, cp, e, v⟩ := r3 i r hr
  exact ⟨A, cp, e, Kd.V_mono (Kd.V_step v (fun k hk hl => f.block k hl (fun e => h.zx (e ▸ hk)))) (fun k hk => .inl hk)⟩
 have := f.size
 rcases hk with q | q
 ·have := h.lt k q; omega
 have := (hZ k q).2.2; omega
theorem rd_send {Z : Nat → Prop} {w : World} {x tb : Nat} {c : Cf} {n sends : Int} {E : List En} {R : List (List Cu)} (h : Rx Z w x tb c n sends E R) (who : Int) (hw : ¬ (who < 1 ∨ who > n)) (o : Oq) {A : Option Addr} {cap : Nat} (hC : Kd.C P.k117 w A o.b.length o.b) (hcap : o.b.length ≤ cap) (ka : Nat) (e : Int) (hask : catchmentref21_Ask.f ka o.k o.y o.t o.n o.b c.f0 c.f1 c.f2 c.f3 c.f4 c.f5 c.f6 c.f7 c.f8 = some e) (hk : o.k = 2) (he : e = 0) (hs0 : 0 ≤ sends) (hs1 : sends < 1000000) (kf : Nat) (l : List En) (hF : catchmentref05_Entries.f kf o.b E ⟨#[]⟩ ⟨#[]⟩ = some l) :
  Calls Try.prog 37 #[.pointer (some ⟨x, 0, none⟩), .int .i64 who, .agg #[.int .u8 o.k, .string o.y, .string o.t, .int .i64 o.n, .slice A o.b.length cap]] w (Rd Z w x tb c n ⟨0, false, e0, [], 0, false⟩ (sends + 1) l R) := by
 have hup := Try.underlying59
 have huo := Try.underlying56
 have hum := Try.underlying65
 have huc := Try.underlying47
 have hur := Try.underlying29
 obtain ⟨AE, cE, hb, hE⟩ := h.blk
 obtain ⟨ok, oy, ot, on, ob⟩ := o
 have hk : ok = 2 := hk
 subst hk
 subst he
 have q0 : (((0 : Int)) == 0) = true := rfl
 have hB0 : Below w.heap.size w ((w.alloc (objO ⟨2, oy, ot, on, ob⟩ A cap)).alloc rep0) := below_alloc (below_alloc (Below.refl _ _) _) _
 have bO : ((w.alloc (objO ⟨2, oy, ot, on, ob⟩ A cap)).alloc rep0).heap[w.heap.size]? = some (objO ⟨2, oy, ot, on, ob⟩ A cap) := blk_alloc (blk_new w _) _
 have bD : ((w.alloc (objO ⟨2, oy, ot, on, ob⟩ A cap)).alloc rep0).heap[w.heap.size + 1]? = some rep0 := by have := blk_new (w.alloc (objO ⟨2, oy, ot, on, ob⟩ A cap)) rep0; rwa [World.size_alloc] at this
 have hsz2 : ((w.alloc (objO ⟨2, oy, ot, on, ob⟩ A cap)).alloc rep0).heap.size = w.heap.size + 2 := by simp
 have x9 := blk_cell (blk_below hb hB0) 9
 simp at x9
 have d0 := decide_eq_false (show ¬ who < 1 by omega)
 have d1 := decide_eq_false (show ¬ who > n by omega)
 have hA := aK_ (And.intro h (And.intro hB0 (And.intro bO (And.intro bD (And.intro hC (And.intro hcap (And.intro hsz2 hask)))))))
 have hbE := aK_ (And.intro hb hE)
 clear h hb hE hB0 bO bD hC hcap hsz2 hask
 go_enter Try.func37, Try.ntmps37
 go_wp2
 obtain ⟨h, hB0, bO, bD, hC, hcap, hsz2, hask⟩ := hA.out
 obtain ⟨hb, hE⟩ := hbE.out
 generalize (w.alloc (objO ⟨2, oy, ot, on, ob⟩ A cap)).alloc rep0 = w2 at hB0 bO bD hsz2 ⊢
 have hB0d := below_drew1 hB0
 have hm2 : w2.drew.heap[x]? = _ := blk_below hb hB0d
 have bO2 : w2.drew.heap[w.heap.size]? = _ := bO
 have o0 := blk_cell bO2 0
 have o1 := blk_cell bO2 1
 have o2 := blk_cell bO2 2
 have o3 := blk_cell bO2 3
 have o4 := blk_cell bO2 4
 have c0 := blk_cell hm2 0
 have c1 := blk_cell hm2 1
 have c2 := blk_cell hm2 2
 have c3 := blk_cell hm2 3
 have c4 := blk_cell hm2 4
 have c5 := blk_cell hm2 5
 have c6 := blk_cell hm2 6
 have c7 := blk_cell hm2 7
 have c8 := blk_cell hm2 8
 simp at o0 o1 o2 o3 o4 c0 c1 c2 c3 c4 c5 c6 c7 c8
 have AK := catchmentref21_Ask.calls ka 2 oy ot on A cap ob c.f0 c.f1 c.f2 c.f3 c.f4 c.f5 c.f6 c.f7 c.f8 0 w2.drew (Kd.C_below hC hB0d) hcap hask
 have AK2 := AK.mono (R' := fun x_ w' => x_ = .returned (.int .i64 0) ∧ (w'.cell? ⟨w.heap.size, 0, none⟩ = some (.int .u8 2) ∧ w'.cell? ⟨w.heap.size, 1, none⟩ = some (.string oy) ∧ w'.cell? ⟨w.heap.size, 2, none⟩ = some (.string ot) ∧ w'.cell? ⟨w.heap.size, 3, none⟩ = some (.int .i64 on) ∧ w'.cell? ⟨w.heap.size, 4, none⟩ = some (.slice A ob.length cap) ∧ w'.cell? ⟨x, 0, none⟩ = some (.int .i64 c.f0) ∧ w'.cell? ⟨x, 1, none⟩ = some (.int .i64 c.f1) ∧ w'.cell? ⟨x, 2, none⟩ = some (.int .i64 c.f2) ∧ w'.cell? ⟨x, 3, none⟩ = some (.int .i64 c.f3) ∧ w'.cell? ⟨x, 4, none⟩ = some (.int .i64 c.f4) ∧ w'.cell? ⟨x, 5, none⟩ = some (.int .i64 c.f5) ∧ w'.cell? ⟨x, 6, none⟩ = some (.int .i64 c.f6) ∧ w'.cell? ⟨x, 7, none⟩ = some (.int .i64 c.f7) ∧ w'.cell? ⟨x, 8, none⟩ = some (.int .i64 c.f8)) ∧ Aside0 (Below w.heap.size w w' ∧ w2.heap.size ≤ w'.heap.size ∧ w'.heap[w.heap.size + 1]? = some rep0 ∧ w'.heap[w.heap.size]? = some (objO ⟨2, oy, ot, on, ob⟩ A cap))) (by
  rintro x_ w' ⟨rfl, hb_⟩
  have hm5 := blk_below hm2 hb_
  have bO5 := blk_below bO2 hb_
  have o0 := blk_cell bO5 0
  have o1 := blk_cell bO5 1
  have o2 := blk_cell bO5 2
  have o3 := blk_cell bO5 3
  have o4 := blk_cell bO5 4
  have c0 := blk_cell hm5 0
  have c1 := blk_cell hm5 1
  have c2 := blk_cell hm5 2
  have c3 := blk_cell hm5 3
  have c4 := blk_cell hm5 4
  have c5 := blk_cell hm5 5
  have c6 := blk_cell hm5 6
  have c7 := blk_cell hm5 7
  have c8 := blk_cell hm5 8
  simp at o0 o1 o2 o3 o4 c0 c1 c2 c3 c4 c5 c6 c7 c8
  have bD5 := blk_below (show w2.drew.heap[w.heap.size + 1]? = some rep0 from bD) hb_
  exact ⟨rfl, ⟨o0, o1, o2, o3, o4, c0, c1, c2, c3, c4, c5, c6, c7, c8⟩, ⟨below_then hB0d hB0d.size hb_, hb_.size, bD5, bO5⟩⟩)
 have hA2 := aK_ hsz2
 clear AK hB0d hm2 bO2 h hb hE hB0 bO bD hC hcap hsz2 hask
 go_region_held3 (fun w' => w'.cell? ⟨w.heap.size, 0, none⟩ = some (.int .u8 2) ∧ w'.cell? ⟨w.heap.size, 1, none⟩ = some (.string oy) ∧ w'.cell? ⟨w.heap.size, 2, none⟩ = some (.string ot) ∧ w'.cell? ⟨w.heap.size, 3, none⟩ = some (.int .i64 on) ∧ w'.cell? ⟨w.heap.size, 4, none⟩ = some (.slice A ob.length cap) ∧ w'.cell? ⟨x, 0, none⟩ = some (.int .i64 c.f0) ∧ w'.cell? ⟨x, 1, none⟩ = some (.int .i64 c.f1) ∧ w'.cell? ⟨x, 2, none⟩ = some (.int .i64 c.f2) ∧ w'.cell? ⟨x, 3, none⟩ = some (.int .i64 c.f3) ∧ w'.cell? ⟨x, 4, none⟩ = some (.int .i64 c.f4) ∧ w'.cell? ⟨x, 5, none⟩ = some (.int .i64 c.f5) ∧ w'.cell? ⟨x, 6, none⟩ = some (.int .i64 c.f6) ∧ w'.cell? ⟨x, 7, none⟩ = some (.int .i64 c.f7) ∧ w'.cell? ⟨x, 8, none⟩ = some (.int .i64 c.f8)) (first | exact ⟨by assumption, by assumption, by assumption, by assumption, by assumption, by assumption, by assumption, by assumption, by assumption, by assumption, by assumption, by assumption, by assumption, by assumption⟩ | exact ⟨o0, o1, o2, o3, o4, c0, c1, c2, c3, c4, c5, c6, c7, c8⟩)
   (first
    | (go_at_call 24; refine AK2.mono ?_; clear AK2; rintro x_ w5 ⟨rfl, ⟨y0, y1, y2, y3, y4, y5, y6, y7, y8, y9, y10, y11, y12, y13⟩, hA5⟩))
 clear o0 o1 o2 o3 o4 c0 c1 c2 c3 c4 c5 c6 c7 c8 y0 y1 y2 y3 y4 y5 y6 y7 y8 y9 y10 y11 y12 y13
 obtain ⟨h, _, _, _, hC, hcap, _, _⟩ := hA.out
 obtain ⟨hb, hE⟩ := hbE.out
 obtain ⟨hB5, hs5, bD5, bO5⟩ := hA5.out
 have hB6 : Below w.heap.size w (w5.alloc (.cells #[.string oy, .string ot] 29)) := below_alloc hB5 _
 have bD6 := blk_alloc bD5 (.cells #[.string oy, .string ot] 29)
 have bO6 := blk_alloc bO5 (.cells #[.string oy, .string ot] 29)
 have bR6 := blk_new w5 (.cells #[.string oy, .string ot] 29)
 have o0 := blk_cell bO6 0
 have o1 := blk_cell bO6 1
 have o2 := blk_cell bO6 2
 have o3 := blk_cell bO6 3
 have o4 := blk_cell bO6 4
 simp at o0 o1 o2 o3 o4
 clear h hb hE hC hcap hB5 hs5 bD5 bO5 hB6 bD6 bO6 bR6
 go_wp2
 obtain ⟨h, _, _, _, hC, hcap, _, _⟩ := hA.out
 obtain ⟨hb, hE⟩ := hbE.out
 obtain ⟨hB5, hs5, bD5, bO5⟩ := hA5.out
 have hB6 : Below w.heap.size w (w5.alloc (.cells #[.string oy, .string ot] 29)) := below_alloc hB5 _
 have bD6 := blk_alloc bD5 (.cells #[.string oy, .string ot] 29)
 have bO6 := blk_alloc bO5 (.cells #[.string oy, .string ot] 29)
 have bR6 := blk_new w5 (.cells #[.string oy, .string ot] 29)
 generalize hw6 : w5.alloc (.cells #[.string oy, .string ot] 29) = w6 at hB6 bD6 bO6 bR6 ⊢
 have ls5 : w5.heap.size + 1 = w6.heap.size := by rw [← hw6]; simp
 clear hw6 o0 o1 o2 o3 o4
 have hB6d := below_drew1 hB6
 have hm6 : w6.drew.heap[x]? = _ := blk_below hb hB6d
 have bR7 : w6.drew.heap[w5.heap.size]? = _ := bR6
 have bO7 : w6.drew.heap[w.heap.size]? = _ := bO6
 have bD7 : w6.drew.heap[w.heap.size + 1]? = some rep0 := bD6
 have lsd : w6.drew.heap.size = w6.heap.size := rfl
 have hsz := hA2.out
 have u0 := blk_cell hm6 10
 have u1 := blk_cell bO7 4
 simp at u0 u1
 have rE := Kd.V_reads' (Kd.V_step hE (w1 := w6.drew) (fun k hk hl => hB6d.block k hl))
 have SM := (catchmentref05_Entries.calls kf A cap ob AE cE E ⟨#[]⟩ ⟨#[]⟩ l w6.drew (Kd.C_below hC hB6d) hcap rE.2.2 rE.2.1 hF).mono (R' := fun e w' => ∃ B cp, e = .returned (.slice B l.length cp) ∧ (w'.cell? ⟨x, 10, none⟩ = some (.slice AE E.length cE) ∧ w'.cell? ⟨w.heap.size, 4, none⟩ = some (.slice A ob.length cap)) ∧ Aside0 (w'.heap[w.heap.size + 1]? = some rep0 ∧ P.k103.R 103 w' w6.drew.heap.size (fun _ => True) (.slice B l.length cp) l ∧ Below w.heap.size w w' ∧ w6.drew.heap.size ≤ w'.heap.size ∧ w'.heap[x]? = some (objX c n AE E.length cE tb R.length sends))) (by
  rintro e w' ⟨v, rfl, hR, hb_⟩
  obtain ⟨B, cp, rfl⟩ := Kd.R_slice hR
  have a0 := blk_cell (blk_below hm6 hb_) 10
  have a1 := blk_cell (blk_below bO7 hb_) 4
  simp at a0 a1
  exact ⟨B, cp, rfl, ⟨a0, a1⟩, ⟨blk_below bD7 hb_, hR, below_then hB6d hB6d.size hb_, hb_.size, blk_below hm6 hb_⟩⟩)
 have hls := aK_ (show w.heap.size + 2 ≤ w6.drew.heap.size by omega)
 have hxl := h.ltx
 clear h hb hE hC hcap hB5 hs5 bD5 bO5 hB6 bD6 bO6 bR6 hB6d hm6 bO7 bR7 bD7 rE lsd ls5 hsz
 refine start_ (n := 12) (S := fun w' : World => w'.cell? ⟨x, 10, none⟩ = some (.slice AE E.length cE) ∧ w'.cell? ⟨w.heap.size, 4, none⟩ = some (.slice A ob.length cap)) (ds := [11]) #[false, false, false, false, false, false, false, false, false, false, false, false] (by kernel_rfl) rfl rfl ⟨u0, u1⟩ (fun hHeld => ?_)
 have HT_ := aK_ sendT11
 refine pU_ 0 61 #[true, false, false, false, false, false, false, false, false, false, false, false] ?_
 refine pU_ 1 62 #[true, true, false, false, false, false, false, false, false, false, false, false] ?_
 refine pU_ 3 64 #[true, true, false, true, false, false, false, false, false, false, false, false] ?_
 refine pU_ 4 65 #[true, true, false, true, true, false, false, false, false, false, false, false] ?_
 refine pU_ 5 66 #[true, true, false, true, true, true, false, false, false, false, false, false] ?_
 refine pU_ 7 68 #[true, true, false, true, true, true, false, true, false, false, false, false] ?_
 refine take_ (i := 2) (N := some 63) (v := ?_) (a' := ?_) #[true, true, true, true, true, true, false, true, false, false, false, false] rfl rfl (take_of HT_.out (by kernel_rfl)) (fun _ _ _ h => h) (Or.inl ⟨by rfl, ?_⟩) hHeld ?_ ?_
 rotate_left
 ·rintro w' ⟨s0, s1⟩
  go_simp
  with_reducible rfl
 rotate_left
 ·simp only [Act.put, sA1, sA2, sA3, i64_w, i32_w]
  rfl
 refine take_ (i := 6) (N := some 67) (v := ?_) (a' := ?_) #[true, true, true, true, true, true, true, true, false, false, false, false] rfl rfl (take_of HT_.out (by kernel_rfl)) (fun _ _ _ h => h) (Or.inl ⟨by rfl, ?_⟩) hHeld ?_ ?_
 rotate_left
 ·rintro w' ⟨s0, s1⟩
  go_simp
  with_reducible rfl
 rotate_left
 ·simp only [Act.put, sA1, sA2, sA3, i64_w, i32_w]
  rfl
 refine one_ (i := 8) (N := some 69) #[true, true, true, true, true, true, true, true, true, false, false, false] rfl rfl (one_of HT_.out (by kernel_rfl)) (by decide) (fun K hK => ?_)
 refine goes_ Try.func30 (by kernel_rfl) rfl #[.slice A ob.length cap, .slice AE E.length cE, .agg #[.string ⟨#[]⟩, .string ⟨#[]⟩]] (by rfl) rfl rfl (by (try simp only [List.map_toArray, List.map_cons, List.map_nil]); first | done | rfl) ?_
 refine (SM).mono ?_
 rintro x_ w8 ⟨B, cp, rfl, v0, hA8⟩
 refine ⟨_, rfl, ?_⟩
 clear SM
 obtain ⟨bD8, hR8, hB8, hs8, bX8⟩ := hA8.out
 have y10 := blk_cell bX8 10
 have q10 := blk_frozen bX8 10
 simp at y10
 clear bD8 hR8 hB8 hs8 bX8
 refine hK.out _ _ v0 (fun hHeld => ?_)
 clear hK K
 refine norm_ (a' := ?_) ?_ ?_
 rotate_left
 ·show Act.put _ (some 69) _ = _
  simp only [Act.put, sA1, sA2, sA3, i64_w, i32_w]
  rfl
 refine pU_ 9 70 #[true, true, true, true, true, true, true, true, true, true, false, false] ?_
 refine pU_ 10 71 #[true, true, true, true, true, true, true, true, true, true, true, false] ?_
 refine last_ (i := 11) (N := none) #[true, true, true, true, true, true, true, true, true, true, true, true] rfl rfl (one_of HT_.out (by kernel_rfl)) (by decide) (fun K hK => ?_)
 refine skip_ (w1 := (w8.setCell ⟨x, 10, none⟩ (.slice B l.length cp))) (by rfl) rfl ?_ ?_
 ·first | (go_simp; done) | (go_simp; rfl)
 refine hK.out _ _ ?_
 clear hK K
 refine done_ (done_of HT_.out (by kernel_rfl)) ?_
 clear u0 u1 v0 hHeld y10 q10
 obtain ⟨bD8, hR8, hB8, hs8, bX8⟩ := hA8.out
 have hl := hls.out
 have bX9 := blk_set bX8 10 (.slice B l.length cp)
 have bD9 := (frm_set w8 x 10 (.slice B l.length cp)).blk bD8 (by omega)
 have bD10 := (frm_set (w8.setCell ⟨x, 10, none⟩ (.slice B l.length cp)) x 12 (.int .i64 (sends + 1))).blk bD9 (by omega)
 have z12 := blk_cell bX9 12
 have p12 := blk_frozen bX9 12
 simp at z12
 have hw1 : IntKind.i64.wrap (sends + 1) = sends + 1 := IntWalk.i64_in _ (by omega)
 have y0 := blk_cell bD10 0
 have y1 := blk_cell bD10 1
 have y2 := blk_cell bD10 2
 have y3 := blk_cell bD10 3
 have y4 := blk_cell bD10 4
 have y5 := blk_cell bD10 5
 have q0 := blk_frozen bD10 0
 have q1 := blk_frozen bD10 1
 have q2 := blk_frozen bD10 2
 have q3 := blk_frozen bD10 3
 have q4 := blk_frozen bD10 4
 have q5 := blk_frozen bD10 5
 simp at y0 y1 y2 y3 y4 y5
 clear bD8 hR8 hB8 hs8 bX8 bX9 bD9 bD10
 go_wp2
 obtain ⟨h, _, _, _, hC, hcap, _, _⟩ := hA.out
 obtain ⟨bD8, hR8, hB8, hs8, bX8⟩ := hA8.out
 have bD10 := (frm_set (w8.setCell ⟨x, 10, none⟩ (.slice B l.length cp)) x 12 (.int .i64 (sends + 1))).blk ((frm_set w8 x 10 (.slice B l.length cp)).blk bD8 (by omega)) (by omega)
 obtain ⟨hX, hf⟩ := rx_send (h.below hB8) (V_of_R hR8) (fun k hk => ⟨by have := hk.1; omega, by have := hk.1; omega, hk.2⟩)
 exact rd_end (fun k hk => hk.elim .inl (fun q => .inr (by have := q.1; omega))) hX ((It.FrM.of_below hB8).trans hf (fun i hi => .inl (.inl hi))) (by omega) (fun hz => hz.elim (fun q => by have := h.lt _ q; omega) (fun q => by have := q.1; omega)) h.ltx.1 h.ltx.2 rfl rfl rfl bD10 (fun W' f hs => RepV.bare _ _ _ _ _ _ _)
end Go.Proofs.Ytljnlnbopohghaa.Mdl
end
