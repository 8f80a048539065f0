/- The law OrderPlays, walked. -/
import Derived.Test.YtdbkjpnejihnhaaQv
set_option linter.unusedVariables false
set_option linter.unusedSimpArgs false
namespace Go.Proofs.Ytdbkjpnejihnhaa.OrdSi
open Go.RowKit Go.Shelf Go.Proofs.YtdbkjpnejihnhaaW.PrintWords Go.Proofs.YtdbkjpnejihnhaaW.PrintLast Go.Proofs.YtdbkjpnejihnhaaW.PrintMore Go.Proofs.Ytdbkjpnejihnhaa.Own Go.Proofs.Ytdbkjpnejihnhaa.Ord
attribute [local go_sem] Oper.semAt_some
set_option maxHeartbeats 4000000
set_option maxRecDepth 100000
theorem Row.slice {w : World} {v : Value} {L : List (ByteArray × Int)} (h : Row w v L) : ∃ A c, v = .slice A L.length c := by
  obtain ⟨_, h⟩ := h
  obtain ⟨A, c, e⟩ := Kd.R_slice h
  rw [List.length_map] at e
  exact ⟨A, c, e⟩
theorem same_any {w : World} {A1 A2 : Option Addr} {n1 n2 c1 c2 : Nat} {L : List (ByteArray × Int)} (h1 : Row w (.slice A1 n1 c1) L) (h2 : Row w (.slice A2 n2 c2) L) (hl : L.length < 1000000) :
    Calls Try.prog 21 #[.slice A1 n1 c1, .slice A2 n2 c2] w fun e w' => e = .returned (.bool true) ∧ ∃ nd, w' = w.drewN nd := by
  obtain ⟨_, h1⟩ := h1
  obtain ⟨_, h2⟩ := h2
  obtain ⟨e1, q1, r1⟩ := Kd.R_reads' h1
  obtain ⟨e2, q2, r2⟩ := Kd.R_reads' h2
  subst e1; subst e2
  refine (P.catchmentref01_Same.calls ((L.map toS).length + 1) A1 c1 (L.map toS) A2 c2 (L.map toS) true w r1 q1 r2 q2 (Same_refl _ _ (by rw [List.length_map]; omega) (by omega))).mono ?_
  rintro e w' ⟨rfl, nd, rfl⟩
  exact ⟨rfl, nd, rfl⟩
abbrev Dd := P.S49
/-- A deed in a row. -/
theorem at_D {w : World} {A : Option Addr} {n : Nat} {xs : List Dd} (h : Kd.C P.k49 w A n xs) (i : Int) (h0 : 0 ≤ i) (h1 : i < n) : ∃ ad, ∃ x : Dd, A = some ad ∧ w.cell? (ad.add (i.toNat * 4)) = some (.int .i64 x.f0) ∧
    w.cell? ⟨(ad.add (i.toNat * 4)).block, (ad.add (i.toNat * 4)).off + 1, none⟩ = some (.string x.f1) ∧ w.cell? ⟨(ad.add (i.toNat * 4)).block, (ad.add (i.toNat * 4)).off + 2, none⟩ = some (.string x.f2) ∧ w.cell? ⟨(ad.add (i.toNat * 4)).block, (ad.add (i.toNat * 4)).off + 3, none⟩ = some (.int .i64 x.f3) := by
  obtain ⟨ad, c, e, _, hK, hc0⟩ := Kd.C_get h P.z49 i h0 h1
  have hc : ∀ j u, c[j]? = some u → w.cell? (ad.add (i.toNat * 4 + j)) = some u := hc0
  obtain rfl := P.k49_open hK
  exact ⟨ad, _, e, hc 0 _ rfl, by rw [← add_field _ _ 1 (by omega)]; exact hc 1 _ rfl, by rw [← add_field _ _ 2 (by omega)]; exact hc 2 _ rfl, by rw [← add_field _ _ 3 (by omega)]; exact hc 3 _ rfl⟩
theorem plays_any {w : World} {A : Option Addr} {c : Nat} {l : List Dd} (hC : Kd.C P.k49 w A l.length l) (hcap : l.length ≤ c) :
    Calls Try.prog 5 #[.slice A l.length c] w fun e w' => e = .returned (.bool true) ∧ Below w.heap.size w w' := by
  have NW := hold_new w
  go_enter Try.func5, Try.ntmps5
  go_wp2_with (go_at_call 18; refine NW.mono ?_; clear NW; rintro e w1 ⟨m, rfl, h1, b1⟩)
  go_loopg [4, 5] 80 (fun g xv iv wr => ∃ (i : Int) (L : List (ByteArray × Int)) (A' : Option Addr) (c' : Nat), iv = .int .i64 i ∧ xv = .slice A' L.length c' ∧ Aside (0 ≤ i ∧ i.toNat + g = 80 ∧ L.length ≤ i.toNat) ∧ Hold w.heap.size wr m L ∧ Row wr (.slice A' L.length c') L ∧ Below w.heap.size w wr)
  case atStart => exact ⟨0, [], none, 0, rfl, rfl, ⟨Int.le_refl _, rfl, by simp⟩, h1, Row.nil _, b1⟩
  case round =>
    clear h1 b1
    obtain ⟨i, L, A', c', rfl, rfl, hi, hH, hR, hB⟩ := hrel
    obtain ⟨hi0, hig, hiL⟩ := hi.out
    by_cases hA : i < l.length
    · by_cases hB8 : i < 80
      · cases gk with
        | zero => omega
        | succ g =>
          obtain ⟨ad, x, rfl, q0, q1, q2, q3⟩ := at_D (Kd.C_below hC hB) i hi0 hA
          have SC := hold_step hH hB.size (by omega) hR x.f0 x.f1 x.f2 x.f3
          have dA := decide_eq_true hA
          have dB := decide_eq_true hB8
          have d0 := decide_eq_true hi0
          have p0 := eq_true hi0
          have pA := eq_true hA
          have hwi : wrap64 (i + 1) = i + 1 := IntWalk.wrap64_in _ (by omega)
          clear hC hcap hi0 hig hiL hA hB8 hH hR
          go_wp2_with (first
            | (go_at_call 19; refine SC.mono ?_; clear SC; rintro e w2 ⟨v', rfl, h2, r2, len2, b2⟩; obtain ⟨A2, c2, rfl⟩ := r2.slice; have LC := hold_len h2)
            | (go_at_call 20; refine LC.mono ?_; clear LC; rintro e w3 ⟨rfl, hw⟩; obtain rfl := hw.symm))
          go_roundg g
          case measure => omega
          case rel => exact ⟨i + 1, _, A2, c2, by rw [hwi], rfl, ⟨by have := hi.out.1; omega, by have := hi.out; omega, by have := hi.out; omega⟩, h2, r2, hB.trans b2⟩
      · have LV := (live_any wr).mono (R' := fun e w2 => e = .returned (.bool true) ∧ Calls Try.prog 22 #[.pointer (some ⟨m, 0, none⟩)] w2 fun e w3 => ∃ A2 c2, e = .returned (.slice A2 L.length c2) ∧
            Calls Try.prog 21 #[.slice A2 L.length c2, .slice A' L.length c'] w3 fun e w4 => e = .returned (.bool true) ∧ Below w.heap.size w w4) (by
          rintro e w2 ⟨rfl, b2⟩
          have bb2 := hB.trans (b2.mono hB.size)
          refine ⟨rfl, (hold_all (hH.below b2) (by omega)).mono ?_⟩
          rintro e w3 ⟨v3, rfl, r3, b3⟩
          obtain ⟨A2, c2, rfl⟩ := r3.slice
          refine ⟨A2, c2, rfl, (same_any r3 ((hR.below b2).below b3) (by omega)).mono ?_⟩
          rintro e w4 ⟨rfl, nd, rfl⟩
          exact ⟨rfl, pw_below_drewN (bb2.trans (b3.mono bb2.size)) nd⟩)
        have dA := decide_eq_true hA
        have dB := decide_eq_false hB8
        clear hC hcap hi0 hig hiL hA hH hR hi
        go_wp2_with (first
          | (go_at_call 13; refine LV.mono ?_; clear LV; rintro e w2 ⟨rfl, AL⟩)
          | (go_at_call 22; refine AL.mono ?_; clear AL; rintro e w3 ⟨A2, c2, rfl, SM⟩)
          | (go_at_call 21; refine SM.mono ?_; clear SM; rintro e w4 ⟨rfl, b4⟩))
        go_ret
        exact ⟨rfl, b4⟩
    · have LV := (live_any wr).mono (R' := fun e w2 => e = .returned (.bool true) ∧ Calls Try.prog 22 #[.pointer (some ⟨m, 0, none⟩)] w2 fun e w3 => ∃ A2 c2, e = .returned (.slice A2 L.length c2) ∧
          Calls Try.prog 21 #[.slice A2 L.length c2, .slice A' L.length c'] w3 fun e w4 => e = .returned (.bool true) ∧ Below w.heap.size w w4) (by
        rintro e w2 ⟨rfl, b2⟩
        have bb2 := hB.trans (b2.mono hB.size)
        refine ⟨rfl, (hold_all (hH.below b2) (by omega)).mono ?_⟩
        rintro e w3 ⟨v3, rfl, r3, b3⟩
        obtain ⟨A2, c2, rfl⟩ := r3.slice
        refine ⟨A2, c2, rfl, (same_any r3 ((hR.below b2).below b3) (by omega)).mono ?_⟩
        rintro e w4 ⟨rfl, nd, rfl⟩
        exact ⟨rfl, pw_below_drewN (bb2.trans (b3.mono bb2.size)) nd⟩)
      have dA := decide_eq_false hA
      clear hC hcap hi0 hig hiL hA hH hR hi
      go_wp2_with (first
        | (go_at_call 13; refine LV.mono ?_; clear LV; rintro e w2 ⟨rfl, AL⟩)
        | (go_at_call 22; refine AL.mono ?_; clear AL; rintro e w3 ⟨A2, c2, rfl, SM⟩)
        | (go_at_call 21; refine SM.mono ?_; clear SM; rintro e w4 ⟨rfl, b4⟩))
      go_ret
      exact ⟨rfl, b4⟩
end Go.Proofs.Ytdbkjpnejihnhaa.OrdSi
