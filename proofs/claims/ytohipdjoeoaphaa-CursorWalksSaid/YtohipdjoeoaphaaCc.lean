/- Took's parts: does a range hold a key; is there an entry that it does not hold. -/
import Derived.Test.YtohipdjoeoaphaaCb
import Derived.LoopTactic
set_option linter.unusedVariables false
set_option linter.unusedSimpArgs false
namespace Go.Proofs.Ytohipdjoeoaphaa.Cur
open Go Go.RowKit Go.Maps Go.Proofs.YtohipdjoeoaphaaW.PrintWords Go.Proofs.YtohipdjoeoaphaaW.PrintLast Go.Proofs.YtohipdjoeoaphaaW.PrintMore Go.Proofs.Ytohipdjoeoaphaa.Own Go.Proofs.Ytohipdjoeoaphaa.Ord Go.Proofs.Ytohipdjoeoaphaa.P
set_option maxHeartbeats 2000000
set_option maxRecDepth 100000
abbrev En := P.S39
def ltB (a b : ByteArray) : Bool := Op.bytesLess a.toList b.toList
/-- Has a range a key? -/
def holdsB (f t s : ByteArray) : Bool := !ltB s f && rrB s t
theorem ahead_eq (a b : ByteArray) : key_ahead.f a b = some (rrB a b) := by
  unfold key_ahead.f rrB
  split <;> rfl
theorem holds_any (f t s : ByteArray) (w : World) : Calls Try.prog 23 #[.agg #[.string f, .string t], .string s] w fun e w' => e = .returned (.bool (holdsB f t s)) ∧ Below w.heap.size w w' := by
  have hur := Try.underlying23
  obtain ⟨r, hr⟩ : ∃ r, r = holdsB f t s := ⟨_, rfl⟩
  rw [← hr]
  obtain ⟨q, hq⟩ : ∃ q, q = rrB s t := ⟨_, rfl⟩
  unfold holdsB ltB at hr
  rw [← hq] at hr
  have ha : key_ahead.f s t = some q := by rw [hq]; exact ahead_eq s t
  have hB0 : Below w.heap.size w (w.alloc (.cells #[.string f, .string t] 23)) := below_alloc (Below.refl _ _) _
  clear hq
  cases hl : Op.bytesLess s.toList f.toList
  · rw [hl] at hr
    simp at hr
    subst hr
    go_enter Try.func23, Try.ntmps23
    go_wp2_with (go_at_call 28; refine (key_ahead.calls s t r _ ha).mono ?_; rintro e w1 ⟨rfl, hB1'⟩; have hB1 := hB1'.below; clear hB1')
    go_ret
    exact ⟨by simp, below_step hB0 hB1⟩
  · rw [hl] at hr
    simp at hr
    subst hr
    go_enter Try.func23, Try.ntmps23
    go_wp2
    go_ret
    exact ⟨rfl, hB0⟩
theorem closure_any {w : World} {B : Nat} {f t : ByteArray} {d : Bool} (hx : w.heap[B]? = some (.cells #[.string f, .string t, .bool d] 52 (0, 0))) (s v : ByteArray) :
    Calls Try.prog 22 #[.agg #[.string s, .string v], .pointer (some ⟨B, 0, none⟩)] w fun e w' => e = .returned (.bool !holdsB f t s) ∧ Below w.heap.size w w' := by
  have hur := Try.underlying23
  have hux := Try.underlying52
  have hue := Try.underlying39
  obtain ⟨r, hr⟩ : ∃ r, r = holdsB f t s := ⟨_, rfl⟩
  have HH := fun W => holds_any f t s W
  rw [← hr] at HH
  rw [← hr]
  clear hr
  have hB0 : Below w.heap.size w (w.alloc (.cells #[.string s, .string v] 39)) := below_alloc (Below.refl _ _) _
  have hx1 : (w.alloc (.cells #[.string s, .string v] 39)).heap[B]? = _ := blk_alloc hx _
  have c0 := blk_cell hx1 0
  have c1 := blk_cell hx1 1
  simp at c0 c1
  go_enter Try.func22, Try.ntmps22
  go_wp2_with (go_at_call 23; refine (HH _).mono ?_; clear HH; rintro e w1 ⟨rfl, hB1⟩)
  go_ret
  exact ⟨rfl, below_step hB0 hB1⟩
theorem at_E {w : World} {A : Option Addr} {n : Nat} {xs : List En} (h : Kd.C P.k39 w A n xs) (i : Int) (h0 : 0 ≤ i) (h1 : i < n) : ∃ ad, ∃ x : En, A = some ad ∧ xs[i.toNat]? = some x ∧ w.cell? (ad.add (i.toNat * 2)) = some (.string x.f0) ∧
    w.cell? ⟨(ad.add (i.toNat * 2)).block, (ad.add (i.toNat * 2)).off + 1, none⟩ = some (.string x.f1) := by
  obtain ⟨ad, c, e, _, hK, hc0⟩ := Kd.C_get h P.z39 i h0 h1
  have hc : ∀ j u, c[j]? = some u → w.cell? (ad.add (i.toNat * 2 + j)) = some u := hc0
  obtain rfl := P.k39_open hK
  have hl := h.1
  refine ⟨ad, _, e, ?_, hc 0 _ rfl, by rw [← add_field _ _ 1 (by omega)]; exact hc 1 _ rfl⟩
  rw [List.getD_eq_getElem?_getD, List.getElem?_eq_getElem (by omega)]
  rfl
theorem index_any {w : World} {B : Nat} {f t : ByteArray} {d : Bool} (hx : w.heap[B]? = some (.cells #[.string f, .string t, .bool d] 52 (0, 0))) {A : Option Addr} {c : Nat} {l : List En} (hC : Kd.C P.k39 w A l.length l) (hcap : l.length ≤ c) :
    Calls Try.prog 29 #[.slice A l.length c, .func (.func 22) #[] #[.pointer (some ⟨B, 0, none⟩)]] w fun e w' => (∃ i : Int, e = .returned (.int .i64 i) ∧ (0 ≤ i) = (l.any (fun y => !holdsB f t y.f0) = true)) ∧ Below w.heap.size w w' := by
  have hmax := Kd.C_max hC
  have hue := Try.underlying39
  go_enter Try.func29, Try.ntmps29
  go_wp2
  go_loopg [8] l.length (fun g iv wr => ∃ j : Int, iv = .int .i64 j ∧ Aside (0 ≤ j ∧ j.toNat + g = l.length ∧ (l.take j.toNat).any (fun y => !holdsB f t y.f0) = false) ∧ Below w.heap.size w wr)
  case atStart => exact ⟨0, rfl, ⟨Int.le_refl _, by simp, by simp⟩, Below.refl _ _⟩
  case round =>
    obtain ⟨j, rfl, hj, hB⟩ := hrel
    obtain ⟨h0, hg, hno⟩ := hj.out
    have hnoA := Aside0.mk hno
    clear hno hj
    cases gk with
    | zero =>
      have d0 : decide (j < (l.length : Int)) = false := decide_eq_false (by omega)
      go_wp2
      go_ret
      refine ⟨⟨-1, rfl, ?_⟩, hB⟩
      have := hnoA.out
      rw [show j.toNat = l.length by omega, List.take_length] at this
      rw [this]
      simp
    | succ g =>
      have hlt : j < (l.length : Int) := by omega
      have d0 := decide_eq_true hlt
      have d1 := decide_eq_true h0
      have p0 := eq_true h0
      have p1 := eq_true hlt
      obtain ⟨ad, x, rfl, hxj, q0, q1⟩ := at_E (Kd.C_below hC hB) j h0 hlt
      have hwi : wrap64 (j + 1) = j + 1 := IntWalk.wrap64_in _ (by omega)
      have CC := closure_any (blk_below hx hB) x.f0 x.f1
      have hsplit : (l.take (j + 1).toNat).any (fun y => !holdsB f t y.f0) = ((l.take j.toNat).any (fun y => !holdsB f t y.f0) || !holdsB f t x.f0) := by
        rw [show (j + 1).toNat = j.toNat + 1 by omega, List.take_add_one, hxj]
        simp
      cases hh : holdsB f t x.f0
      · rw [hh] at CC
        have hall : l.any (fun y => !holdsB f t y.f0) = true := List.any_eq_true.2 ⟨x, List.mem_of_getElem? hxj, by rw [hh]; rfl⟩
        have hA := Aside0.mk hall
        clear hh hsplit hxj hall hC hx
        go_wp2_with (go_at_call 22; refine CC.mono ?_; clear CC; rintro e w1 ⟨rfl, hB1⟩)
        go_ret
        exact ⟨⟨j, rfl, by rw [hA.out]; simp [h0]⟩, below_step hB hB1⟩
      · rw [hh] at CC hsplit
        have hA := Aside0.mk hsplit
        have hxA := Aside0.mk hx
        have hCA := Aside0.mk hC
        clear hh hsplit hxj hC hx
        go_wp2_with (go_at_call 22; refine CC.mono ?_; clear CC; rintro e w1 ⟨rfl, hB1⟩)
        go_roundg g
        case measure => omega
        case rel => exact ⟨j + 1, rfl, ⟨by omega, by omega, by rw [hA.out, hnoA.out]; rfl⟩, below_step hB hB1⟩
theorem contains_any {w : World} {B : Nat} {f t : ByteArray} {d : Bool} (hx : w.heap[B]? = some (.cells #[.string f, .string t, .bool d] 52 (0, 0))) {A : Option Addr} {c : Nat} {l : List En} (hC : Kd.C P.k39 w A l.length l) (hcap : l.length ≤ c) :
    Calls Try.prog 21 #[.slice A l.length c, .func (.func 22) #[] #[.pointer (some ⟨B, 0, none⟩)]] w fun e w' => e = .returned (.bool (l.any (fun y => !holdsB f t y.f0))) ∧ Below w.heap.size w w' := by
  have HI := index_any hx hC hcap
  clear hx hC
  generalize l.any (fun y => !holdsB f t y.f0) = r at HI ⊢
  go_enter Try.func21, Try.ntmps21
  go_wp2_with (go_at_call 29; refine HI.mono ?_; clear HI; rintro e w1 ⟨⟨i, rfl, hi⟩, hB1⟩; have hi2 := Aside0.mk hi; clear hi)
  go_ret
  refine ⟨?_, hB1⟩
  have h3 := hi2.out
  cases r <;> simp_all
end Go.Proofs.Ytohipdjoeoaphaa.Cur
