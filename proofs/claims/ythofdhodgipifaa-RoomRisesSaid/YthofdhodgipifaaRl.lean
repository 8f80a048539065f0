/- Room: that the set's 'live' holds: sums and products of two numbers, reckoned. -/
import Derived.Test.YthofdhodgipifaaRm
import Derived.Test.YthofdhodgipifaaP6
import Derived.KernelRfl
set_option linter.unusedVariables false
set_option linter.unusedSimpArgs false
namespace Go.Proofs.Ythofdhodgipifaa.P
open Go.RowKit Go.Proofs.YthofdhodgipifaaW.PrintWords Go.Proofs.YthofdhodgipifaaW.PrintLast Go.Proofs.YthofdhodgipifaaW.PrintMore Go.Proofs.Ythofdhodgipifaa.Own Go.Proofs.Ythofdhodgipifaa

/-- A number that can be reckoned with. -/
def clampV (n : Int) : Int := mn (mx n 0) 2147483647
theorem clamp_range (n : Int) : 0 ≤ clampV n ∧ clampV n ≤ 2147483647 := by unfold clampV mn mx; split <;> split <;> omega
theorem clamp_mono {a b : Int} (h : a ≤ b) : clampV a ≤ clampV b := by unfold clampV mn mx; (repeat' split) <;> omega
def sumV : Int → List Int → Int
  | s, [] => s
  | s, x :: l => sumV (clampV (s + clampV x)) l
def prodV : Int → List Int → Int
  | s, [] => s
  | s, x :: l => prodV (clampV (s * clampV x)) l
theorem rd_drop {L l : List Int} {i : Nat} {x : Int} (hd : L.drop i = x :: l) : i < L.length ∧ rd L (i : Int) = x ∧ L.drop (i + 1) = l := by
  have hlt : i < L.length := by
    rcases Nat.lt_or_ge i L.length with h | h
    · exact h
    · rw [List.drop_eq_nil_of_le h] at hd; cases hd
  have hx : L[i]? = some x := by
    have := congrArg (fun z => z[0]?) hd
    simpa using this
  refine ⟨hlt, ?_, ?_⟩
  · show L.getD ((i : Int).toNat) _ = x
    rw [Int.toNat_natCast, List.getD_eq_getElem?_getD, hx]
    rfl
  · have := congrArg (List.drop 1) hd
    simpa [List.drop_drop] using this
theorem sum_loop (L : List Int) (hL : L.length ≤ 1000) : ∀ (l : List Int) (i k : Nat) (s : Int), L.drop i = l → i ≤ L.length → 0 ≤ s → s ≤ 2147483647 → room_sum.l0 (k + 1 + l.length) s L L.length i = some (sumV s l) := by
  intro l
  induction l with
  | nil =>
    intro i k s hd hi h0 h1
    have hlen : L.length ≤ i := by have := congrArg List.length hd; simp at this; omega
    rw [List.length_nil, Nat.add_zero, room_sum.l0, if_neg (by omega)]
    rfl
  | cons x l ih =>
    intro i k s hd hi h0 h1
    obtain ⟨hlt, hrd, hd2⟩ := rd_drop hd
    have hc := clamp_range x
    rw [show k + 1 + (x :: l).length = (k + 1 + l.length) + 1 from by simp; omega, room_sum.l0]
    rw [if_pos (by omega), if_pos (by omega), if_pos (by omega), hrd, IntWalk.wrap64_in (i + 1) (by omega)]
    unfold room_clamp.f
    simp only [Option.bind_some]
    rw [show mn (mx x 0) 2147483647 = clampV x from rfl, IntWalk.wrap64_in (s + clampV x) (by omega)]
    rw [show mn (mx (s + clampV x) 0) 2147483647 = clampV (s + clampV x) from rfl]
    have hc2 := clamp_range (s + clampV x)
    have := ih (i + 1) k (clampV (s + clampV x)) hd2 (by omega) hc2.1 hc2.2
    rw [show ((i + 1 : Nat) : Int) = (i : Int) + 1 from by omega] at this
    exact this
theorem sum_eq (k : Nat) (l : List Int) (hL : l.length ≤ 1000) : room_sum.f (k + 1 + l.length) l = some (sumV 0 l) :=
  sum_loop l hL l 0 k 0 rfl (by omega) (by omega) (by omega)
theorem prod_bound {a b : Int} (h0 : 0 ≤ a) (h1 : a ≤ 2147483647) (h2 : 0 ≤ b) (h3 : b ≤ 2147483647) : 0 ≤ a * b ∧ a * b ≤ 4611686014132420609 :=
  ⟨Int.mul_nonneg h0 h2, Int.le_trans (Int.mul_le_mul h1 h3 h2 (by omega)) (by decide)⟩
theorem prod_loop (L : List Int) (hL : L.length ≤ 1000) : ∀ (l : List Int) (i k : Nat) (s : Int), L.drop i = l → i ≤ L.length → 0 ≤ s → s ≤ 2147483647 → room_product.l0 (k + 1 + l.length) s L L.length i = some (prodV s l) := by
  intro l
  induction l with
  | nil =>
    intro i k s hd hi h0 h1
    have hlen : L.length ≤ i := by have := congrArg List.length hd; simp at this; omega
    rw [List.length_nil, Nat.add_zero, room_product.l0, if_neg (by omega)]
    rfl
  | cons x l ih =>
    intro i k s hd hi h0 h1
    obtain ⟨hlt, hrd, hd2⟩ := rd_drop hd
    have hc := clamp_range x
    rw [show k + 1 + (x :: l).length = (k + 1 + l.length) + 1 from by simp; omega, room_product.l0]
    rw [if_pos (by omega), if_pos (by omega), if_pos (by omega), hrd, IntWalk.wrap64_in (i + 1) (by omega)]
    unfold room_clamp.f
    simp only [Option.bind_some]
    have hp := prod_bound h0 h1 hc.1 hc.2
    rw [show mn (mx x 0) 2147483647 = clampV x from rfl, IntWalk.wrap64_in (s * clampV x) (by omega)]
    rw [show mn (mx (s * clampV x) 0) 2147483647 = clampV (s * clampV x) from rfl]
    have hc2 := clamp_range (s * clampV x)
    have := ih (i + 1) k (clampV (s * clampV x)) hd2 (by omega) hc2.1 hc2.2
    rw [show ((i + 1 : Nat) : Int) = (i : Int) + 1 from by omega] at this
    exact this
theorem prod_eq (k : Nat) (l : List Int) (hL : l.length ≤ 1000) : room_product.f (k + 1 + l.length) l = some (prodV 1 l) :=
  prod_loop l hL l 0 k 1 rfl (by omega) (by omega) (by omega)
/-- How many nodes there must be. -/
def needV (leaf puts : Int) : Int := sumV 0 [2, prodV 1 [3, Int.tdiv (clampV puts) (mx (Int.tdiv leaf 2) 1)]]
theorem Need_eq (k : Nat) (c0 c1 c2 c3 leaf c5 c6 c7 c8 puts : Int) (h0 : -9223372036854775808 ≤ leaf) (h1 : leaf ≤ 9223372036854775807) : room_Need.f (k + 9) c0 c1 c2 c3 leaf c5 c6 c7 c8 puts = some (needV leaf puts) := by
  unfold room_Need.f room_clamp.f needV
  simp only [Option.bind_some]
  have e1 : wrap64 (Int.tdiv leaf 2) = Int.tdiv leaf 2 := by
    have h2 : (leaf.tdiv 2).natAbs = leaf.natAbs / 2 := Int.natAbs_tdiv leaf 2
    exact IntWalk.wrap64_in _ (by omega)
  rw [e1]
  have hm : 1 ≤ mx (Int.tdiv leaf 2) 1 := by unfold mx; split <;> omega
  rw [if_neg (by omega)]
  have hc := clamp_range puts
  have e2 : wrap64 (Int.tdiv (clampV puts) (mx (Int.tdiv leaf 2) 1)) = Int.tdiv (clampV puts) (mx (Int.tdiv leaf 2) 1) := by
    have h2 := Int.natAbs_tdiv_le_natAbs (clampV puts) (mx (Int.tdiv leaf 2) 1)
    exact IntWalk.wrap64_in _ (by omega)
  rw [show mn (mx puts 0) 2147483647 = clampV puts from rfl, e2]
  have p := prod_eq (k + 6) [3, Int.tdiv (clampV puts) (mx (Int.tdiv leaf 2) 1)] (by simp)
  rw [show k + 6 + 1 + [3, Int.tdiv (clampV puts) (mx (Int.tdiv leaf 2) 1)].length = k + 9 from rfl] at p
  rw [p]
  simp only [Option.bind_some]
  have s := sum_eq (k + 6) [2, prodV 1 [3, Int.tdiv (clampV puts) (mx (Int.tdiv leaf 2) 1)]] (by simp)
  rw [show k + 6 + 1 + [2, prodV 1 [3, Int.tdiv (clampV puts) (mx (Int.tdiv leaf 2) 1)]].length = k + 9 from rfl] at s
  rw [s]
  rfl
theorem Alone_eq (k : Nat) (c0 c1 c2 c3 c4 c5 c6 c7 c8 h : Int) : room_Alone.f (k + 9) c0 c1 c2 c3 c4 c5 c6 c7 c8 h = some (sumV 0 [h, 2]) := by
  unfold room_Alone.f
  have s := sum_eq (k + 6) [h, 2] (by simp)
  rw [show k + 6 + 1 + [h, 2].length = k + 9 from rfl] at s
  rw [s]
  rfl
theorem live_eq (k : Nat) : catchmentlaw21_live.f (k + 40) = some true := by
  unfold catchmentlaw21_live.f
  rw [Need_eq (k + 31) _ _ _ _ _ _ _ _ _ _ (by omega) (by omega), Alone_eq (k + 31)]
  simp only [Option.bind_some]
  rw [show needV 4 10 = 17 from by kernel_rfl, show sumV 0 [3, 2] = 5 from by kernel_rfl, sizes_eq, sizes_eq, show sizesOk 1 8 4 0 4 2 2 0 1 = true from by decide, show sizesOk 0 0 0 0 0 0 0 0 0 = false from by decide]
  have a := Ask_eq 1 8 4 0 4 2 2 0 1 k 1 (⟨#[]⟩ : ByteArray) (⟨#[]⟩ : ByteArray) 0 [] (by simp) (by simp) (by omega) (by omega)
  rw [show k + 40 + ([] : List M).length + ([] : List M).length = k + 40 from rfl] at a
  simp only [if_true, Option.bind_some, Bool.false_eq_true, if_false]
  rw [a]
  have e : emp (⟨#[]⟩ : ByteArray) = true := emp_e0
  have z : (⟨#[]⟩ : ByteArray).size = 0 := rfl
  simp [askV, spareBad, e, z]
end Go.Proofs.Ythofdhodgipifaa.P
