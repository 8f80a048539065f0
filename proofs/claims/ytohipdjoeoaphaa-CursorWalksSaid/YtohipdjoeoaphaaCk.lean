/- CursorWalks, walked. -/
import Derived.Test.YtohipdjoeoaphaaCj
import Derived.Test.YtohipdjoeoaphaaCi
import Derived.Laws.Small
set_option linter.unusedVariables false
set_option linter.unusedSimpArgs false
namespace Go.Proofs.Ytohipdjoeoaphaa.Cur
open Go Go.RowKit Go.Maps Go.Proofs.YtohipdjoeoaphaaW.PrintWords Go.Proofs.YtohipdjoeoaphaaW.PrintLast Go.Proofs.YtohipdjoeoaphaaW.PrintMore Go.Proofs.Ytohipdjoeoaphaa.Own Go.Proofs.Ytohipdjoeoaphaa.Ord Go.Proofs.Ytohipdjoeoaphaa.P
set_option maxHeartbeats 2000000
set_option maxRecDepth 100000
theorem min60 (n m : Nat) (h : m = min n 60) : ∀ (ts : Array TypeId) (t : TypeId) (w : World), (Builtin.min_ ts t #[.int .i64 (n : Int), .int .i64 60]).run Try.prog w = .ok (.int .i64 (m : Int)) w := fun ts t w => by
  rw [run_min_int2]
  congr 2
  subst h
  split <;> omega
theorem walks_no {w : World} {A : Option Addr} {c : Nat} {e : List En} (f t : ByteArray) (most : Int) (hm0 : 0 ≤ most) (hm1 : most ≤ 255) (hr : rrB f t = false) (hC : Kd.C P.k39 w A e.length e) (hcap : e.length ≤ c) :
    Calls Try.prog 4 #[.slice A e.length c, .agg #[.string f, .string t], .int .u8 most] w fun e w' => e = .returned (.bool true) ∧ Below w.heap.size w w' := by
  have hur := Try.underlying23
  have hmax := Kd.C_max hC
  have hB0 : Below w.heap.size w (w.alloc (.cells #[.string f, .string t] 23)) := below_alloc (Below.refl _ _) _
  have hx0 := blk_new w (.cells #[.string f, .string t] 23)
  have NW := new_ex (w.alloc (.cells #[.string f, .string t] 23))
  obtain ⟨m, hm⟩ : ∃ m, m = min e.length 60 := ⟨_, rfl⟩
  have hmin := min60 e.length m hm
  have hmc : (m : Int) ≤ (c : Int) := by omega
  clear hm
  go_enter Try.func4, Try.ntmps4
  go_wp2_with (first
    | (go_at_call 5; refine NW.mono ?_; clear NW; rintro e w1 ⟨p, b, rfl, hp, hb, hT1, hB1⟩; have hO := open_no (w := w1) (p := p) f t hr; have hx1 := blk_below hx0 hB1; have hB2 := below_step hB0 hB1; have c0 := blk_cell hx1 0; have c1 := blk_cell hx1 1; simp at c0 c1; clear hT1 hB0 hB1 hx0 hmin)
    | (go_at_call 6; refine hO.mono ?_; clear hO; rintro e w2 ⟨rfl, hB3⟩; have hx2 := blk_below hx1 hB3; have hB4 := below_step hB2 hB3; have LV := live_any w2; clear hB2 hB3 hx1 c0 c1)
    | (go_at_call 7; refine LV.mono ?_; clear LV; rintro e w3 ⟨rfl, hB5⟩; have hx3 := blk_below hx2 hB5; have hB6 := below_step hB4 hB5; clear hB4 hB5 hx2; have c0 := blk_cell hx3 0; have c1 := blk_cell hx3 1; simp at c0 c1)
    | (go_at_call 8; refine (catchmentref02_Right.calls f t false _ ((right_eq f t).trans (by rw [hr]))).mono ?_; rintro e w4 ⟨rfl, hB7⟩))
  go_ret
  exact ⟨rfl, below_step hB6 hB7⟩
theorem Mid.left {w W : World} {p b n : Nat} {f t : ByteArray} {x : X} {v : Value} {T : List En} (h : Mid w p b f t x v T n W) :
    Calls Try.prog 12 #[.pointer (some ⟨p, 0, none⟩), .int .i64 1] W fun e w' => e = .returned (.tuple #[.agg #[.string x.1, .string x.2.1], .bool x.2.2, .int .i64 0]) ∧ Mid w p b f t x v T n w' ∧ Below W.heap.size W w' := by
  obtain ⟨F, h1, h2⟩ := h.tab
  exact (left_some h2 1 (wf_small (by omega) (by omega)) x.1 x.2.1 x.2.2 h1).mono fun e w' q => ⟨q.1, h.below q.2, q.2⟩
theorem walks_fall {w : World} {A : Option Addr} {c : Nat} {e : List En} (f t : ByteArray) (most : Int) (hm0 : 0 ≤ most) (hm1 : most ≤ 255) (hr : rrB f t = true) (hC : Kd.C P.k39 w A e.length e) (hcap : e.length ≤ c) (hE : P.risesV (e.take 60) = false) :
    Calls Try.prog 4 #[.slice A e.length c, .agg #[.string f, .string t], .int .u8 most] w fun e w' => e = .returned (.bool true) ∧ Below w.heap.size w w' := by
  have hur := Try.underlying23
  have hmax := Kd.C_max hC
  have hB0 : Below w.heap.size w (w.alloc (.cells #[.string f, .string t] 23)) := below_alloc (Below.refl _ _) _
  have hx0 := blk_new w (.cells #[.string f, .string t] 23)
  have NW := new_ex (w.alloc (.cells #[.string f, .string t] 23))
  rw [World.size_alloc] at NW
  have hcA : Aside (1 = (if ((fun _ => none : Int → Option X) (0 + 1)).isSome then 0 else 0 + 1)) := rfl
  obtain ⟨E, hEe⟩ : ∃ E, E = e.take (min e.length 60) := ⟨_, rfl⟩
  have hEt : E = e.take 60 := by
    rw [hEe]
    rcases Nat.le_total e.length 60 with h | h
    · rw [Nat.min_eq_left h, List.take_length, List.take_of_length_le h]
    · rw [Nat.min_eq_right h]
  have hEl : E.length = min e.length 60 := by rw [hEe, List.length_take]; omega
  have hCE : Kd.C P.k39 w A E.length E := by rw [hEe]; exact Kd.C_take hC (Nat.min_le_left _ _)
  rw [← hEt] at hE
  have hmin := min60 e.length E.length hEl
  have hmc : (E.length : Int) ≤ (c : Int) := by omega
  have hcE : Aside (E.length ≤ c) := by show E.length ≤ c; omega
  have RI := P.Rises_eq 1000 E (by omega) (by omega)
  rw [hE] at RI
  clear hEt hEe hEl hE hC
  go_enter Try.func4, Try.ntmps4
  go_wp2_with (first
    | (go_at_call 5; refine NW.mono ?_; clear NW; rintro e w1 ⟨p, b, rfl, hp, hb, hT1, hB1⟩; have hO := open_yes hT1 (by omega) (by omega) (by omega) f t hr hcA; have hx1 := blk_below hx0 (by rw [World.size_alloc]; exact hB1); have hB2 := below_step hB0 (by rw [World.size_alloc]; exact hB1); have c0 := blk_cell hx1 0; have c1 := blk_cell hx1 1; simp at c0 c1; clear hT1 hB0 hB1 hx0 hmin)
    | (go_at_call 6; refine hO.mono ?_; clear hO; rintro e w2 ⟨rfl, hT2, f2⟩; have hB4 : Below w.heap.size w w2 := ((Fr.of_below (B := []) hB2).trans f2 (fun x hx => .inr (by simp at hx; omega))).below (by simp) (Nat.le_refl _); have hC2 := Kd.C_below hCE hB4; clear hx1 hB2 hT2 f2 c0 c1)
    | (go_at_call 11; refine (catchmentref05_Rises.calls _ A c E false _ hC2 hcE.out RI).mono ?_; rintro e w3 ⟨rfl, hD⟩; have hB5 := below_step hB4 hD.below; have LV := live_any w3; clear hD hB4)
    | (go_at_call 7; refine LV.mono ?_; clear LV; rintro e w4 ⟨rfl, hB6⟩; have hB7 := below_step hB5 hB6; clear hB5 hB6))
  go_ret
  exact ⟨rfl, hB7⟩
end Go.Proofs.Ytohipdjoeoaphaa.Cur
