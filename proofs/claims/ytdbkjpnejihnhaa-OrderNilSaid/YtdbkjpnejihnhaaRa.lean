/- No map; the law OrderNil, walked. -/
import Derived.Test.YtdbkjpnejihnhaaQv
set_option linter.unusedVariables false
set_option linter.unusedSimpArgs false
namespace Go.Proofs.Ytdbkjpnejihnhaa.OrdSi
open Go.RowKit Go.Shelf Go.Proofs.YtdbkjpnejihnhaaW.PrintWords Go.Proofs.YtdbkjpnejihnhaaW.PrintLast Go.Proofs.YtdbkjpnejihnhaaW.PrintMore Go.Proofs.Ytdbkjpnejihnhaa.Own Go.Proofs.Ytdbkjpnejihnhaa.Ord
attribute [local go_sem] Oper.semAt_some
set_option maxHeartbeats 4000000
set_option maxRecDepth 100000
theorem put_nil (k : ByteArray) (v : Int) (w : World) : Calls Try.prog 27 #[.pointer none, .string k, .int .i64 v] w fun e w' => e = .returned (.bool false) ∧ w' = w := by
  go_enter Try.func27, Try.ntmps27
  go_wp2
  go_ret
  exact ⟨rfl, rfl⟩
theorem drop_nil (k : ByteArray) (w : World) : Calls Try.prog 28 #[.pointer none, .string k] w fun e w' => e = .returned (.bool false) ∧ w' = w := by
  go_enter Try.func28, Try.ntmps28
  go_wp2
  go_ret
  exact ⟨rfl, rfl⟩
theorem get_nil (k : ByteArray) (w : World) : Calls Try.prog 26 #[.pointer none, .string k] w fun e w' => e = .returned (.tuple #[.int .i64 0, .bool false]) ∧ w' = w := by
  go_enter Try.func26, Try.ntmps26
  go_wp2
  go_ret2
  exact ⟨rfl, rfl⟩
theorem len_nil (w : World) : Calls Try.prog 20 #[.pointer none] w fun e w' => e = .returned (.int .i64 0) ∧ w' = w := by
  go_enter Try.func20, Try.ntmps20
  go_wp2
  go_ret
  exact ⟨rfl, rfl⟩
theorem place_nil (k : ByteArray) (w : World) : Calls Try.prog 24 #[.pointer none, .string k] w fun e w' => e = .returned (.int .i64 0) ∧ w' = w := by
  go_enter Try.func24, Try.ntmps24
  go_wp2
  go_ret
  exact ⟨rfl, rfl⟩
theorem fork_nil (w : World) : Calls Try.prog 25 #[.pointer none] w fun e w' => e = .returned (.pointer none) ∧ w' = w := by
  go_enter Try.func25, Try.ntmps25
  go_wp2
  go_ret
  exact ⟨rfl, rfl⟩
theorem at_nil (i : Int) (w : World) : Calls Try.prog 23 #[.pointer none, .int .i64 i] w fun e w' => e = .returned (.tuple #[.string ⟨#[]⟩, .int .i64 0, .bool false]) ∧ w' = w := by
  have LN := len_nil w
  by_cases h0 : 0 ≤ i
  · have d0 := decide_eq_true h0
    have d1 : decide (i < 0) = false := decide_eq_false (by omega)
    go_enter Try.func23, Try.ntmps23
    go_wp2_with (go_at_call 20; refine LN.mono ?_; clear LN; rintro e w1 ⟨rfl, hw⟩; obtain rfl := hw.symm)
    go_ret3
    exact ⟨rfl, rfl⟩
  · have d0 := decide_eq_false h0
    go_enter Try.func23, Try.ntmps23
    go_wp2
    go_ret3
    exact ⟨rfl, rfl⟩
theorem nil_any (o : Int) (key tt : ByteArray) (n : Int) (w : World) :
    Calls Try.prog 8 #[.agg #[.int .i64 o, .string key, .string tt, .int .i64 n]] w fun e w' => e = .returned (.bool true) ∧ Below w.heap.size w w' := by
  obtain ⟨D, hD⟩ : ∃ D, D = w.heap.size := ⟨_, rfl⟩
  obtain ⟨Ok, hOk⟩ : ∃ Ok : World → Prop, Ok = fun W => Below w.heap.size w W ∧ W.heap[D]? = some (.cells #[.int .i64 o, .string key, .string tt, .int .i64 n] 49 (0, 0)) := ⟨_, rfl⟩
  have okB : ∀ W W', Ok W → Below W.heap.size W W' → Ok W' := fun W W' hk hb => by
    rw [hOk] at hk ⊢
    exact ⟨hk.1.trans (hb.mono hk.1.size), (hb.block D (blk_lt hk.2)).trans hk.2⟩
  have okC : ∀ W, Ok W → W.cell? ⟨D, 1, none⟩ = some (.string key) ∧ W.cell? ⟨D, 2, none⟩ = some (.string tt) ∧ W.cell? ⟨D, 3, none⟩ = some (.int .i64 n) := fun W hk => by
    rw [hOk] at hk; exact ⟨blk_cell hk.2 1, blk_cell hk.2 2, blk_cell hk.2 3⟩
  have ok0 : Ok (w.alloc (.cells #[.int .i64 o, .string key, .string tt, .int .i64 n] 49)) := by
    rw [hOk]; exact ⟨(Below.refl _ _).alloc (Nat.le_refl _) _, by rw [hD]; exact blk_new _ _⟩
  have okE : ∀ W, Ok W → Below w.heap.size w W := fun W hk => by rw [hOk] at hk; exact hk.1
  have LV : ∀ W, Ok W → Calls Try.prog 13 #[] W fun e w' => e = .returned (.bool true) ∧ Ok w' := fun W hk => (live_any W).mono (by rintro e w' ⟨rfl, b⟩; exact ⟨rfl, okB _ _ hk b⟩)
  have CT : ∀ W, Ok W → Calls Try.prog 29 #[.pointer none, .string key, .string tt] W fun e w' => e = .returned (.int .i64 0) ∧ Ok w' := fun W hk =>
    (cut_any key tt (p := none) (T := .nil) (w := W) rfl (by simp [Kn.cnt]) (by simp [walkB, Kn.cnt])).mono (by
      rintro e w' ⟨rfl, _, fr⟩
      exact ⟨rfl, okB _ _ hk (fr.below (by simp [mb, Kn.bs]) (Nat.le_refl _))⟩)
  have AL : ∀ W, Ok W → Calls Try.prog 22 #[.pointer none] W fun e w' => ∃ A c, e = .returned (.slice A 0 c) ∧ Ok w' := fun W hk =>
    (lawall_any (p := none) (T := .nil) (w := W) rfl (by simp [walkA])).mono (by
      rintro e w' ⟨v, rfl, hR, b⟩
      obtain ⟨A, c, rfl⟩ := Kd.R_slice hR
      exact ⟨A, c, rfl, okB _ _ hk b⟩)
  have FR : ∀ W, Ok W → Calls Try.prog 16 #[.pointer none, .string key] W fun e w' => ∃ A c, e = .returned (.slice A 0 c) ∧ Ok w' := fun W hk =>
    (lawfrom_any (p := none) key (T := .nil) (w := W) rfl (by simp [walkB])).mono (by
      rintro e w' ⟨v, rfl, hR, b⟩
      obtain ⟨A, c, rfl⟩ := Kd.R_slice hR
      exact ⟨A, c, rfl, okB _ _ hk b⟩)
  clear hOk okB
  subst hD
  go_enter Try.func8, Try.ntmps8
  go_wp2_with (first
    | (go_at_call 26; refine (get_nil key _).mono ?_; rintro e w1 ⟨rfl, hw⟩; obtain rfl := hw.symm)
    | (go_at_call 23; refine (at_nil n _).mono ?_; rintro e w1 ⟨rfl, hw⟩; obtain rfl := hw.symm)
    | (go_at_call 13; refine (LV _ ok0).mono ?_; rintro e W1 ⟨rfl, ok1⟩; obtain ⟨e1, e2, e3⟩ := okC _ ok1)
    | (go_at_call 27; refine (put_nil key n _).mono ?_; rintro e w1 ⟨rfl, hw⟩; obtain rfl := hw.symm)
    | (go_at_call 28; refine (drop_nil key _).mono ?_; rintro e w1 ⟨rfl, hw⟩; obtain rfl := hw.symm)
    | (go_at_call 29; refine (CT _ ok1).mono ?_; rintro e W2 ⟨rfl, ok2⟩; obtain ⟨f1, f2, f3⟩ := okC _ ok2)
    | (go_at_call 20; refine (len_nil _).mono ?_; rintro e w1 ⟨rfl, hw⟩; obtain rfl := hw.symm)
    | (go_at_call 24; refine (place_nil key _).mono ?_; rintro e w1 ⟨rfl, hw⟩; obtain rfl := hw.symm)
    | (go_at_call 22; refine (AL _ ok2).mono ?_; rintro e W3 ⟨A3, c3, rfl, ok3⟩; obtain ⟨g1, g2, g3⟩ := okC _ ok3)
    | (go_at_call 16; refine (FR _ ok3).mono ?_; rintro e W4 ⟨A4, c4, rfl, ok4⟩; obtain ⟨h1, h2, h3⟩ := okC _ ok4)
    | (go_at_call 25; refine (fork_nil _).mono ?_; rintro e w1 ⟨rfl, hw⟩; obtain rfl := hw.symm))
  go_ret
  exact ⟨rfl, okE _ ok4⟩
end Go.Proofs.Ytdbkjpnejihnhaa.OrdSi
