/- The plain law of RoomRises: sums and products of numbers that can be reckoned with rise, and so does what is asked of them; then its contract in the row's form. -/
import Derived.Test.YthofdhodgipifaaRl
import Derived.Test.YthofdhodgipifaaRr
set_option linter.unusedVariables false
set_option linter.unusedSimpArgs false
namespace Go.Proofs.Ythofdhodgipifaa.Pure
open Go.RowKit Go.Proofs.Ythofdhodgipifaa.P Go.Proofs.Ythofdhodgipifaa.Rr Go.Proofs.Ythofdhodgipifaa.Own Go.Proofs.YthofdhodgipifaaW.PrintWords Go.Proofs.YthofdhodgipifaaW.PrintLast Go.Proofs.YthofdhodgipifaaW.PrintMore
/-- One row of numbers below another one, number by number. -/
def Low : List Int → List Int → Prop
  | [], [] => True
  | x :: l, y :: m => x ≤ y ∧ Low l m
  | _, _ => False
theorem sumV_mono : ∀ (l m : List Int) (s t : Int), Low l m → s ≤ t → sumV s l ≤ sumV t m
  | [], [], s, t, _, h => h
  | x :: l, y :: m, s, t, hl, h => by
    unfold sumV
    refine sumV_mono l m _ _ hl.2 (clamp_mono ?_)
    have := clamp_mono hl.1
    omega
  | [], _ :: _, _, _, hl, _ => hl.elim
  | _ :: _, [], _, _, hl, _ => hl.elim
theorem prodV_mono : ∀ (l m : List Int) (s t : Int), Low l m → 0 ≤ s → s ≤ t → prodV s l ≤ prodV t m
  | [], [], s, t, _, _, h => h
  | x :: l, y :: m, s, t, hl, h0, h => by
    unfold prodV
    have := clamp_mono hl.1
    have hx := clamp_range x
    refine prodV_mono l m _ _ hl.2 (clamp_range _).1 (clamp_mono ?_)
    exact Int.mul_le_mul h this hx.1 (by omega)
  | [], _ :: _, _, _, hl, _, _ => hl.elim
  | _ :: _, [], _, _, hl, _, _ => hl.elim
theorem needV_mono (leaf : Int) {a b : Int} (h : a ≤ b) : needV leaf a ≤ needV leaf b := by
  unfold needV
  refine sumV_mono _ _ _ _ ⟨Int.le_refl _, prodV_mono _ _ _ _ ⟨Int.le_refl _, ?_, trivial⟩ (by omega) (Int.le_refl _), trivial⟩ (Int.le_refl _)
  have hc := clamp_mono h
  have ha := clamp_range a
  have hb := clamp_range b
  have hm : 1 ≤ mx (Int.tdiv leaf 2) 1 := by unfold mx; split <;> omega
  rw [Int.tdiv_eq_ediv_of_nonneg ha.1, Int.tdiv_eq_ediv_of_nonneg hb.1]
  exact Int.ediv_le_ediv (by omega) hc
/-- How many picks all pending work takes. -/
def waitV (b w s t : Int) : Int :=
  prodV 1 [w, sumV 0 [prodV 1 [64, sumV 0 [t, s, 2], sumV 0 [t, s, 2]], prodV 1 [4, s, sumV 0 [b, 2], sumV 0 [t, 4]]]]
theorem waitV_mono (b : Int) {w w' s s' t t' : Int} (hw : w ≤ w') (hs : s ≤ s') (ht : t ≤ t') : waitV b w s t ≤ waitV b w' s' t' := by
  unfold waitV
  have ha : sumV 0 [t, s, 2] ≤ sumV 0 [t', s', 2] := sumV_mono _ _ _ _ ⟨ht, hs, Int.le_refl _, trivial⟩ (Int.le_refl _)
  refine prodV_mono _ _ _ _ ⟨hw, sumV_mono _ _ _ _ ⟨prodV_mono _ _ _ _ ⟨Int.le_refl _, ha, ha, trivial⟩ (by omega) (Int.le_refl _), prodV_mono _ _ _ _ ⟨Int.le_refl _, hs, Int.le_refl _, sumV_mono _ _ _ _ ⟨ht, Int.le_refl _, trivial⟩ (Int.le_refl _), trivial⟩ (by omega) (Int.le_refl _), trivial⟩ (Int.le_refl _), trivial⟩ (by omega) (Int.le_refl _)
theorem sum_at (k : Nat) (l : List Int) (n : Nat) (hn : n = l.length) (hl : n ≤ 9) : room_sum.f (k + 40) l = some (sumV 0 l) := by
  subst hn
  have := sum_eq (k + 39 - l.length) l (by omega)
  rwa [show k + 39 - l.length + 1 + l.length = k + 40 by omega] at this
theorem prod_at (k : Nat) (l : List Int) (n : Nat) (hn : n = l.length) (hl : n ≤ 9) : room_product.f (k + 40) l = some (prodV 1 l) := by
  subst hn
  have := prod_eq (k + 39 - l.length) l (by omega)
  rwa [show k + 39 - l.length + 1 + l.length = k + 40 by omega] at this
theorem Wait_eq (k : Nat) (c0 c1 c2 c3 c4 c5 c6 c7 c8 w s t : Int) : room_Wait.f (k + 40) c0 c1 c2 c3 c4 c5 c6 c7 c8 w s t = some (waitV c7 w s t) := by
  unfold room_Wait.f waitV
  rw [sum_at k [t, s, 2] 3 rfl (by omega)]
  simp only [Option.bind_some]
  rw [prod_at k [64, sumV 0 [t, s, 2], sumV 0 [t, s, 2]] 3 rfl (by omega)]
  simp only [Option.bind_some]
  rw [sum_at k [c7, 2] 2 rfl (by omega)]
  simp only [Option.bind_some]
  rw [sum_at k [t, 4] 2 rfl (by omega)]
  simp only [Option.bind_some]
  rw [prod_at k [4, s, sumV 0 [c7, 2], sumV 0 [t, 4]] 4 rfl (by omega)]
  simp only [Option.bind_some]
  rw [sum_at k [prodV 1 [64, sumV 0 [t, s, 2], sumV 0 [t, s, 2]], prodV 1 [4, s, sumV 0 [c7, 2], sumV 0 [t, 4]]] 2 rfl (by omega)]
  simp only [Option.bind_some]
  rw [prod_at k _ 2 rfl (by omega)]
  simp only [Option.bind_some]
theorem up_le {l m : Int} (h0 : -9223372036854775808 ≤ l) (hm : 0 ≤ m ∧ m < 65536) : l ≤ up l m := by
  unfold Rr.up
  split
  · rw [IntWalk.wrap64_in _ (by omega)]; omega
  · omega
theorem RoomRises_calls {w : World} {c0 c1 c2 c3 c4 c5 c6 c7 c8 l0 l1 l2 l3 m0 m1 m2 m3 : Int} (hm0 : 0 ≤ m0 ∧ m0 < 65536) (hm1 : 0 ≤ m1 ∧ m1 < 65536) (hm2 : 0 ≤ m2 ∧ m2 < 65536) (hm3 : 0 ≤ m3 ∧ m3 < 65536)
    (h4 : -9223372036854775808 ≤ c4 ∧ c4 ≤ 9223372036854775807) (h0 : -9223372036854775808 ≤ l0) (h1 : -9223372036854775808 ≤ l1) (h2 : -9223372036854775808 ≤ l2) (h3 : -9223372036854775808 ≤ l3) :
    Calls Try.prog 5 #[.agg #[.int .i64 c0, .int .i64 c1, .int .i64 c2, .int .i64 c3, .int .i64 c4, .int .i64 c5, .int .i64 c6, .int .i64 c7, .int .i64 c8], .agg #[.int .i64 l0, .int .i64 l1, .int .i64 l2, .int .i64 l3], .agg #[.int .u16 m0, .int .u16 m1, .int .u16 m2, .int .u16 m3]] w fun e w' => e = .returned (.bool true) ∧ Below w.heap.size w w' :=
  rises_calls hm0 hm1 hm2 hm3 (k := 40) (live_eq 0) (Need_eq 31 _ _ _ _ _ _ _ _ _ _ h4.1 h4.2) (Need_eq 31 _ _ _ _ _ _ _ _ _ _ h4.1 h4.2) (needV_mono c4 (up_le h0 hm0))
    (Alone_eq 31 _ _ _ _ _ _ _ _ _ _) (Alone_eq 31 _ _ _ _ _ _ _ _ _ _) (sumV_mono _ _ _ _ ⟨up_le h0 hm0, Int.le_refl _, trivial⟩ (Int.le_refl _))
    (Wait_eq 0 _ _ _ _ _ _ _ _ _ _ _ _) (Wait_eq 0 _ _ _ _ _ _ _ _ _ _ _ _) (waitV_mono c7 (up_le h1 hm1) (up_le h2 hm2) (up_le h3 hm3))
theorem wf_u16 {x : Int} (h : (Lit.int .u16 x).wf = true) : 0 ≤ x ∧ x < 65536 := by
  simp [Lit.wf, IntKind.min, IntKind.max, IntKind.signed, IntKind.bits] at h
  omega
theorem wf_i64 {x : Int} (h : (Lit.int .i64 x).wf = true) : -9223372036854775808 ≤ x ∧ x ≤ 9223372036854775807 := by
  simp [Lit.wf, IntKind.min, IntKind.max, IntKind.signed, IntKind.bits] at h
  omega
end Go.Proofs.Ythofdhodgipifaa.Pure
