/- One deed on a map and on the reference's row: looking; all deeds. -/
import Derived.Test.YtdbkjpnejihnhaaQt
set_option linter.unusedVariables false
set_option linter.unusedSimpArgs false
namespace Go.Proofs.Ytdbkjpnejihnhaa.OrdSi
open Go.RowKit Go.Shelf Go.Proofs.YtdbkjpnejihnhaaW.PrintWords Go.Proofs.YtdbkjpnejihnhaaW.PrintLast Go.Proofs.YtdbkjpnejihnhaaW.PrintMore Go.Proofs.Ytdbkjpnejihnhaa.Own Go.Proofs.Ytdbkjpnejihnhaa.Ord
attribute [local go_sem] Oper.semAt_some
set_option maxHeartbeats 4000000
set_option maxRecDepth 100000
theorem step_look {w : World} {m : Nat} {T : Kn ByteArray Int} {v : Value} (h : Mp w m T) (hr : Rise lt T.toL) (hc : T.cnt < 1000000) (hv : Row w v T.toL) (o : Int) (o0 : (o == 0) = false) (o1 : (o == 1) = false) (o2 : (o == 2) = false) (key tt : ByteArray) (n : Int) :
    Calls Try.prog 19 #[.pointer (some ⟨m, 0, none⟩), v, .agg #[.int .i64 o, .string key, .string tt, .int .i64 n]] w (StepR o key tt n m T w) := by
  have hlen := Kn.cnt_len T
  obtain ⟨X, hX⟩ : ∃ X, X = T.toL.map toS := ⟨_, rfl⟩
  have hXl : X.length = T.toL.length := by rw [hX, List.length_map]
  have hRow := hv
  obtain ⟨base, hR⟩ := hv
  obtain ⟨A, c, rfl, hcap, hC⟩ := Kd.R_reads hR
  rw [← hX] at hcap hC hR ⊢
  rw [show (T.toL.map toS).length = X.length by rw [hX]] at hRow
  obtain ⟨g1, g2, hg⟩ : ∃ (g1 : Int) (g2 : Bool), (g1, g2) = (match lookK lt key T.toL with | some v => (v, true) | none => (0, false)) := ⟨_, _, rfl⟩
  have hG : P.catchmentref01_Get.f (X.length + 1) X key = some (g1, g2) := by rw [hg, hX]; exact Get_eq _ _ _ (by omega) (by rw [hX] at hXl; omega)
  have hgot : got key T = (g1, g2) := by rw [hg]; exact got_look key T hr
  obtain ⟨a1, a2, a3, hat⟩ : ∃ (a1 : ByteArray) (a2 : Int) (a3 : Bool), atL n T.toL = (a1, a2, a3) := ⟨_, _, _, rfl⟩
  obtain ⟨D, hD⟩ : ∃ D, D = w.heap.size := ⟨_, rfl⟩
  have hPl : P.catchmentref01_Place.f (X.length + 1) X key = some (Kn.place lt key T) := by rw [hX, place_len lin key T hr]; exact Place_eq _ _ _ (by omega) (by rw [hX] at hXl; omega)
  have hFr : P.catchmentref01_From.f (X.length + 1) X key = some ((walkB key T).map toS) := by rw [hX, walkB_toL key T hr]; exact From_eq _ _ _ (by omega) (by rw [hX] at hXl; omega)
  have hwl := walkB_len key T hr
  have hStep : stepM o key tt n T.toL = T.toL := by unfold stepM; rw [if_neg (by simpa using o0), if_neg (by simpa using o1), if_neg (by simpa using o2)]
  obtain ⟨pl, hpl⟩ : ∃ pl, pl = Kn.place lt key T := ⟨_, rfl⟩
  obtain ⟨Y, hY⟩ : ∃ Y, Y = (walkB key T).map toS := ⟨_, rfl⟩
  have hYl : Y.length = (walkB key T).length := by rw [hY, List.length_map]
  rw [← hpl] at hPl
  rw [← hY] at hFr
  have hSm := Same_refl Y (Y.length + 1) (by omega) (by omega)
  -- what is known of a world behind the box
  obtain ⟨Ok, hOk⟩ : ∃ Ok : World → Prop, Ok = fun W => Below w.heap.size w W ∧ W.heap[D]? = some (.cells #[.int .i64 o, .string key, .string tt, .int .i64 n] 49 (0, 0)) := ⟨_, rfl⟩
  have okB : ∀ W W', Ok W → Below W.heap.size W W' → Ok W' := fun W W' hk hb => by
    rw [hOk] at hk ⊢
    exact ⟨hk.1.trans (hb.mono hk.1.size), (hb.block D (blk_lt hk.2)).trans hk.2⟩
  have okC : ∀ W, Ok W → W.cell? ⟨D, 1, none⟩ = some (.string key) ∧ W.cell? ⟨D, 3, none⟩ = some (.int .i64 n) ∧ W.cell? ⟨D, 0, none⟩ = some (.int .i64 o) := fun W hk => by
    rw [hOk] at hk; exact ⟨blk_cell hk.2 1, blk_cell hk.2 3, blk_cell hk.2 0⟩
  have okM : ∀ W, Ok W → Mp W m T ∧ P.k43.C W A X.length X := fun W hk => by
    rw [hOk] at hk; exact ⟨Mp.below h hk.1, Kd.C_below hC hk.1⟩
  have okD : ∀ W nd, Ok W → Ok (W.drewN nd) := fun W nd hk => okB W _ hk (pw_below_drewN (Below.refl _ _) nd)
  have ok0 : Ok (w.alloc (.cells #[.int .i64 o, .string key, .string tt, .int .i64 n] 49)) := by
    rw [hOk]; exact ⟨(Below.refl _ _).alloc (Nat.le_refl _) _, by rw [hD]; exact blk_new _ _⟩
  have okE : ∀ W, Ok W → StepR o key tt n m T w (.returned (.tuple #[.slice A X.length c, .bool true])) W := fun W hk => by
    rw [hOk] at hk
    exact ⟨_, T, rfl, hStep.symm, hr, by omega, Mp.below h hk.1, hRow.below hk.1, Fr.of_below (B := m :: T.bs) hk.1, fun x hx => .inl hx⟩
  -- each call's word, with the next one's laid beside it
  have GC : ∀ W, Ok W → Calls Try.prog 37 #[.slice A X.length c, .string key] W fun e w' => e = .returned (.tuple #[.int .i64 g1, .bool g2]) ∧ Ok w' := fun W hk =>
    (P.catchmentref01_Get.calls (X.length + 1) A c X key g1 g2 W (okM W hk).2 hcap hG).mono (by rintro e w' ⟨rfl, nd, rfl⟩; exact ⟨rfl, okD _ nd hk⟩)
  have MG : ∀ W, Ok W → Calls Try.prog 26 #[.pointer (some ⟨m, 0, none⟩), .string key] W fun e w' => e = .returned (.tuple #[.int .i64 g1, .bool g2]) ∧ Ok w' := fun W hk =>
    (get_any key (okM W hk).1).mono (by rintro e w' ⟨rfl, rfl⟩; rw [hgot]; exact ⟨rfl, hk⟩)
  have MA : ∀ W, Ok W → Calls Try.prog 23 #[.pointer (some ⟨m, 0, none⟩), .int .i64 n] W fun e w' => e = .returned (.tuple #[.string a1, .int .i64 a2, .bool a3]) ∧ Ok w' := fun W hk =>
    (at_any n (okM W hk).1 (by omega)).mono (by rintro e w' ⟨rfl, nd, rfl⟩; rw [hat]; exact ⟨rfl, okD _ nd hk⟩)
  have MP : ∀ W, Ok W → Calls Try.prog 24 #[.pointer (some ⟨m, 0, none⟩), .string key] W fun e w' => e = .returned (.int .i64 pl) ∧ Ok w' := fun W hk =>
    (place_any key (okM W hk).1 (by omega)).mono (by rintro e w' ⟨rfl, rfl⟩; rw [hpl]; exact ⟨rfl, hk⟩)
  have RP : ∀ W, Ok W → Calls Try.prog 41 #[.slice A X.length c, .string key] W fun e w' => e = .returned (.int .i64 pl) ∧ Ok w' := fun W hk =>
    (P.catchmentref01_Place.calls (X.length + 1) A c X key pl W (okM W hk).2 hcap hPl).mono (by rintro e w' ⟨rfl, nd, rfl⟩; exact ⟨rfl, okD _ nd hk⟩)
  have LF : ∀ W, Ok W → Calls Try.prog 16 #[.pointer (some ⟨m, 0, none⟩), .string key] W fun e w3 => ∃ A3 c3, e = .returned (.slice A3 Y.length c3) ∧ Ok w3 ∧
      Calls Try.prog 42 #[.slice A X.length c, .string key] w3 fun e w4 => ∃ A4 c4, e = .returned (.slice A4 Y.length c4) ∧ Ok w4 ∧
        Calls Try.prog 21 #[.slice A3 Y.length c3, .slice A4 Y.length c4] w4 fun e w5 => e = .returned (.bool true) ∧ Ok w5 := fun W hk => by
    refine (lawfrom_any (p := some ⟨m, 0, none⟩) key ⟨rfl, (okM W hk).1⟩ (by omega)).mono ?_
    rintro e w3 ⟨v3, rfl, hR3, b3⟩
    rw [← hY] at hR3
    obtain ⟨A3, c3, rfl, hl3, hC3⟩ := Kd.R_reads hR3
    have hk3 := okB _ _ hk b3
    refine ⟨A3, c3, rfl, hk3, (P.catchmentref01_From.calls (X.length + 1) A c X key _ w3 (okM w3 hk3).2 hcap hFr).mono ?_⟩
    rintro e w4 ⟨v4, rfl, hR4, b4⟩
    obtain ⟨A4, c4, rfl, hl4, hC4⟩ := Kd.R_reads hR4
    have hk4 := okB _ _ hk3 b4
    refine ⟨A4, c4, rfl, hk4, (P.catchmentref01_Same.calls (Y.length + 1) A3 c3 Y A4 c4 Y true w4 (Kd.C_below hC3 b4) hl3 hC4 hl4 hSm).mono ?_⟩
    rintro e w5 ⟨rfl, nd, rfl⟩
    exact ⟨rfl, okD _ nd hk4⟩
  have hN : (0 ≤ n ∧ n < X.length → ∀ W, Ok W → ∃ ad, A = some ad ∧ a3 = true ∧ W.cell? (ad.add (n.toNat * 2)) = some (.string a1) ∧ W.cell? ⟨(ad.add (n.toNat * 2)).block, (ad.add (n.toNat * 2)).off + 1, none⟩ = some (.int .i64 a2)) ∧
      (¬ (0 ≤ n ∧ n < X.length) → a1 = ByteArray.empty ∧ a2 = 0 ∧ a3 = false) := by
    constructor
    · rintro ⟨h0, h1⟩ W hk
      obtain ⟨ad, e, q1, q2⟩ := P.at_T43 (okM W hk).2 n h0 h1
      have e1 : P.rd_T43 X n = ⟨a1, a2⟩ ∧ a3 = true := by
        unfold atL at hat
        rw [if_pos h0, List.getElem?_eq_getElem (by omega)] at hat
        dsimp only at hat
        have hn : n.toNat < X.length := by omega
        have := rd_at X n.toNat hn
        rw [show ((n.toNat : Nat) : Int) = n by omega] at this
        rw [this]
        obtain ⟨q1, q2⟩ := Prod.mk.inj hat
        obtain ⟨q2, q3⟩ := Prod.mk.inj q2
        subst hX
        rw [List.getElem_map, ← q1, ← q2]
        exact ⟨rfl, q3.symm⟩
      rw [e1.1] at q1 q2
      exact ⟨ad, e, e1.2, q1, q2⟩
    · intro hn
      unfold atL at hat
      by_cases h0 : 0 ≤ n
      · rw [if_pos h0, List.getElem?_eq_none (by have : ¬ n < X.length := fun h => hn ⟨h0, h⟩; omega)] at hat
        obtain ⟨q1, q2⟩ := Prod.mk.inj hat
        obtain ⟨q2, q3⟩ := Prod.mk.inj q2
        exact ⟨q1.symm, q2.symm, q3.symm⟩
      · rw [if_neg h0] at hat
        obtain ⟨q1, q2⟩ := Prod.mk.inj hat
        obtain ⟨q2, q3⟩ := Prod.mk.inj q2
        exact ⟨q1.symm, q2.symm, q3.symm⟩
  have hNA := fun h W hk => hN.1 h W hk
  have hNB := hN.2
  have hXb : X.length < 1000000 := by omega
  subst hD
  clear h hr hc hRow hR hC hlen hX hXl hg hG hgot hat hPl hFr hwl hStep hpl hY hYl hSm hOk okB okM hN
  go_enter Try.func19, Try.ntmps19
  go_wp2_with (first
    | (go_at_call 37; refine (GC _ ok0).mono ?_; rintro e W1 ⟨rfl, ok1⟩; obtain ⟨e11, e13, e10⟩ := okC _ ok1)
    | (go_at_call 26; refine (MG _ ok1).mono ?_; rintro e W2 ⟨rfl, ok2⟩; obtain ⟨e21, e23, _⟩ := okC _ ok2)
    | (go_at_call 23; refine (MA _ ok2).mono ?_; rintro e W3 ⟨rfl, ok3⟩; obtain ⟨e31, e33, _⟩ := okC _ ok3))
  have ok3' : Ok W3.drew := okD _ 1 ok3
  clear GC MG MA ok0 ok1 ok2 e11 e13 e10 e21 e23 e33
  go_region_held3 (fun w' => w'.cell? ⟨w.heap.size, 1, none⟩ = some (.string key)) (first | assumption | exact (okC _ (by assumption)).1)
    (first
      | (go_at_call 24; refine (MP _ ok3').mono ?_; rintro e W4 ⟨rfl, ok4⟩)
      | (go_at_call 41; refine (RP _ ok4).mono ?_; rintro e W5 ⟨rfl, ok5⟩)
      | (go_at_call 16; refine (LF _ ok5).mono ?_; rintro e W6 ⟨A3, c3, rfl, ok6, RF⟩)
      | (go_at_call 42; refine RF.mono ?_; clear RF; rintro e W7 ⟨A4, c4, rfl, ok7, SM⟩)
      | (go_at_call 21; refine SM.mono ?_; clear SM; rintro e W8 ⟨rfl, ok8⟩))
  obtain ⟨e81, e83, _⟩ := okC _ ok8
  by_cases hin : 0 ≤ n ∧ n < X.length
  · obtain ⟨ad, rfl, rfl, q1, q2⟩ := hNA hin W8.drew (okD _ 1 ok8)
    have f83 : W8.drew.cell? ⟨w.heap.size, 3, none⟩ = some (.int .i64 n) := e83
    have okF := okE W8.drew (okD _ 1 ok8)
    have d1 : decide (n < 0) = false := decide_eq_false (by omega)
    have d2 : decide ((X.length : Int) ≤ n) = false := decide_eq_false (by omega)
    have d3 := eq_true hin.1
    have d4 := eq_true hin.2
    have d5 := decide_eq_true hin.1
    have d6 := decide_eq_true hin.2
    clear hin hNA hNB okC okE okD ok3 ok3' ok4 ok5 ok6 ok7 ok8 MP RP LF e31
    go_wp2
    refine still_all (by kernel_rfl) (by kernel_rfl) (fun W hW => ?_)
    rw [← hW] at q1 q2 f83 okF
    clear hW e81 e83
    repeat still_step
    refine wpStill_nil ?_
    go_wp2
    go_ret2
    exact okF
  · obtain ⟨rfl, rfl, rfl⟩ := hNB hin
    have okF := okE _ ok8
    clear hNA hNB okC okE okD ok3 ok3' ok4 ok5 ok6 ok7 ok8 MP RP LF e31
    by_cases h0 : n < 0
    · have d1 : decide (n < 0) = true := decide_eq_true h0
      clear hin h0
      go_wp2
      go_ret2
      exact okF
    · have d1 : decide (n < 0) = false := decide_eq_false h0
      have d2 : decide ((X.length : Int) ≤ n) = true := decide_eq_true (by omega)
      clear hin h0
      go_wp2
      go_ret2
      exact okF
theorem step_any {w : World} {m : Nat} {T : Kn ByteArray Int} {v : Value} (h : Mp w m T) (hr : Rise lt T.toL) (hc : T.cnt < 1000000) (hv : Row w v T.toL) (o : Int) (key tt : ByteArray) (n : Int) :
    Calls Try.prog 19 #[.pointer (some ⟨m, 0, none⟩), v, .agg #[.int .i64 o, .string key, .string tt, .int .i64 n]] w (StepR o key tt n m T w) := by
  by_cases h0 : o = 0
  · subst h0; exact step_put h hr hc hv key tt n
  · by_cases h1 : o = 1
    · subst h1; exact step_drop h hr hc hv key tt n
    · by_cases h2 : o = 2
      · subst h2; exact step_cut h hr hc hv key tt n
      · exact step_look h hr hc hv o (by simpa using h0) (by simpa using h1) (by simpa using h2) key tt n
end Go.Proofs.Ytdbkjpnejihnhaa.OrdSi
