/- Two maps apart; the law OrderForks, walked. -/
import Derived.Test.YtdbkjpnejihnhaaQy
set_option linter.unusedVariables false
set_option linter.unusedSimpArgs false
namespace Go.Proofs.Ytdbkjpnejihnhaa.OrdSi
open Go.RowKit Go.Shelf Go.Proofs.YtdbkjpnejihnhaaW.PrintWords Go.Proofs.YtdbkjpnejihnhaaW.PrintLast Go.Proofs.YtdbkjpnejihnhaaW.PrintMore Go.Proofs.Ytdbkjpnejihnhaa.Own Go.Proofs.Ytdbkjpnejihnhaa.Ord
attribute [local go_sem] Oper.semAt_some
set_option maxHeartbeats 8000000
set_option maxRecDepth 100000
def Two (base : Nat) (w : World) (m : Nat) (L : List (ByteArray × Int)) (f : Nat) (L2 : List (ByteArray × Int)) : Prop :=
  ∃ T T2, Mp w m T ∧ T.toL = L ∧ Rise lt L ∧ Mp w f T2 ∧ T2.toL = L2 ∧ Rise lt L2 ∧ (∀ x ∈ m :: T.bs, base ≤ x ∧ x ∉ f :: T2.bs) ∧ (∀ x ∈ f :: T2.bs, base ≤ x)
theorem Two.comm {base : Nat} {w : World} {m f : Nat} {L L2 : List (ByteArray × Int)} (h : Two base w m L f L2) : Two base w f L2 m L := by
  obtain ⟨T, T2, a, b, c, d, e, g, p, q⟩ := h
  exact ⟨T2, T, d, e, g, a, b, c, fun x hx => ⟨q x hx, fun h => (p x h).2 hx⟩, fun x hx => (p x hx).1⟩
theorem Two.hold {base : Nat} {w : World} {m f : Nat} {L L2 : List (ByteArray × Int)} (h : Two base w m L f L2) : Hold base w m L := by
  obtain ⟨T, T2, a, b, c, d, e, g, p, q⟩ := h
  exact ⟨T, a, b, c, fun x hx => (p x hx).1⟩
theorem Two.below {base : Nat} {w w' : World} {m f : Nat} {L L2 : List (ByteArray × Int)} (h : Two base w m L f L2) (b : Below w.heap.size w w') : Two base w' m L f L2 := by
  obtain ⟨T, T2, a, r⟩ := h
  exact ⟨T, T2, a.below b, r.1, r.2.1, r.2.2.1.below b, r.2.2.2⟩
theorem two_step {base : Nat} {w : World} {m f : Nat} {L L2 : List (ByteArray × Int)} {v : Value} (h : Two base w m L f L2) (hb : base ≤ w.heap.size) (hl : L.length < 999999) (hv : Row w v L) (o : Int) (key tt : ByteArray) (n : Int) :
    Calls Try.prog 19 #[.pointer (some ⟨m, 0, none⟩), v, .agg #[.int .i64 o, .string key, .string tt, .int .i64 n]] w fun e w' =>
      ∃ v', e = .returned (.tuple #[v', .bool true]) ∧ Two base w' m (stepM o key tt n L) f L2 ∧ Row w' v' (stepM o key tt n L) ∧ (∀ u X, Row w u X → Row w' u X) ∧ (stepM o key tt n L).length ≤ L.length + 1 ∧ Below base w w' := by
  obtain ⟨T, T2, hM, rfl, hr, hM2, rfl, hr2, p, q⟩ := h
  have hc := Kn.cnt_len T
  have lt2 := Mp.lt hM2
  refine (step_any hM hr (by omega) hv o key tt n).mono ?_
  rintro e w' ⟨v', T', rfl, hT, hr', hc', hM', hv', fr, hn⟩
  rw [← hT]
  have hf : ∀ x ∈ f :: T2.bs, x ∉ m :: T.bs := fun x hx h => (p x h).2 hx
  refine ⟨v', rfl, ⟨T', T2, hM', rfl, hr', hM2.fr fr (hf f List.mem_cons_self) (fun x hx => hf x (List.mem_cons_of_mem _ hx)), rfl, hr2, fun x hx => ?_, q⟩, hv', fun u X hu => hu.fr fr (Mp.typed hM), by have := Kn.cnt_len T'; omega, fr.below (fun x hx => (p x hx).1) hb⟩
  rcases List.mem_cons.1 hx with rfl | hx
  · exact p _ List.mem_cons_self
  · rcases hn x hx with e | e
    · exact p _ (List.mem_cons_of_mem _ e)
    · exact ⟨by omega, fun h => by have := lt2 x h; omega⟩
theorem hold_fork {base : Nat} {w : World} {m : Nat} {L : List (ByteArray × Int)} (h : Hold base w m L) (hb : base ≤ w.heap.size) :
    Calls Try.prog 25 #[.pointer (some ⟨m, 0, none⟩)] w fun e w' => ∃ f, e = .returned (.pointer (some ⟨f, 0, none⟩)) ∧ Two base w' f L m L ∧ Below w.heap.size w w' := by
  obtain ⟨T, hM, rfl, hr, hB⟩ := h
  refine (fork_any hM).mono ?_
  rintro e w' ⟨f, T2, rfl, hl, hM2, hf, hT2, b⟩
  obtain ⟨_, _, e2⟩ := Kn.like_num hl
  have lt1 := Mp.lt hM
  refine ⟨f, rfl, ⟨T2, T, hM2, e2, hr, hM.below b, rfl, hr, fun x hx => ?_, hB⟩, b⟩
  have hx' : w.heap.size ≤ x := by
    rcases List.mem_cons.1 hx with rfl | hx
    · exact hf
    · exact hT2 x hx
  exact ⟨by omega, fun h => by have := lt1 x h; omega⟩
theorem forks_any {w : World} {A B : Option Addr} {c cb : Nat} {l more : List Dd} (hC : Kd.C P.k49 w A l.length l) (hcap : l.length ≤ c)
    (hC2 : Kd.C P.k49 w B more.length more) (hcap2 : more.length ≤ cb) :
    Calls Try.prog 7 #[.slice A l.length c, .slice B more.length cb] w fun e w' => e = .returned (.bool true) ∧ Below w.heap.size w w' := by
  have PC := (played_any hC hcap).mono (R' := fun e w1 => ∃ m L, e = .returned (.pointer (some ⟨m, 0, none⟩)) ∧ L.length ≤ 80 ∧ Calls Try.prog 22 #[.pointer (some ⟨m, 0, none⟩)] w1 fun e w2 =>
      ∃ A2 c2, e = .returned (.slice A2 L.length c2) ∧ Calls Try.prog 25 #[.pointer (some ⟨m, 0, none⟩)] w2 fun e w3 => ∃ f, e = .returned (.pointer (some ⟨f, 0, none⟩)) ∧ Two w.heap.size w3 f L m L ∧ Row w3 (.slice A2 L.length c2) L ∧ Below w.heap.size w w3) (by
    rintro e w1 ⟨m, L, rfl, hH, hL, b1⟩
    refine ⟨m, L, rfl, hL, (hold_all hH (by omega)).mono ?_⟩
    rintro e w2 ⟨v, rfl, r2, b2⟩
    obtain ⟨A2, c2, rfl⟩ := r2.slice
    have b12 := b1.trans (b2.mono b1.size)
    refine ⟨A2, c2, rfl, (hold_fork (hH.below b2) b12.size).mono ?_⟩
    rintro e w3 ⟨f, rfl, h3, b3⟩
    exact ⟨f, rfl, h3, r2.below b3, b12.trans (b3.mono b12.size)⟩)
  clear hC hcap
  go_enter Try.func7, Try.ntmps7
  go_wp2_with (first
    | (go_at_call 15; refine PC.mono ?_; clear PC; rintro e w1 ⟨m, L, rfl, hL0, AC⟩)
    | (go_at_call 22; refine AC.mono ?_; clear AC; rintro e w2 ⟨A2, c2, rfl, FC⟩)
    | (go_at_call 25; refine FC.mono ?_; clear FC; rintro e w3 ⟨f, rfl, h3, r3, b3⟩))
  have hL : Aside (L.length ≤ 80) := hL0
  clear hL0
  go_loopg [8, 9] 80 (fun g xv iv wr => ∃ (i : Int) (Lf : List (ByteArray × Int)) (A' : Option Addr) (c' : Nat), iv = .int .i64 i ∧ xv = .slice A' Lf.length c' ∧ Aside (0 ≤ i ∧ i.toNat + g = 80 ∧ Lf.length ≤ 80 + i.toNat) ∧ Two w.heap.size wr f Lf m L ∧ Row wr (.slice A' Lf.length c') Lf ∧ Row wr (.slice A2 L.length c2) L ∧ Below w.heap.size w wr)
  case atStart => exact ⟨0, L, A2, c2, rfl, rfl, ⟨Int.le_refl _, rfl, by have := hL.out; omega⟩, h3, r3, r3, b3⟩
  case round =>
    clear h3 r3 b3
    obtain ⟨i, Lf, A', c', rfl, rfl, hi, hH, hR, hRw, hB⟩ := hrel
    obtain ⟨hi0, hig, hiL⟩ := hi.out
    have hLo := hL.out
    by_cases hAB : i < more.length ∧ i < 80
    · cases gk with
      | zero => omega
      | succ g =>
        obtain ⟨ad, x, rfl, q0, q1, q2, q3⟩ := at_D (Kd.C_below hC2 hB) i hi0 hAB.1
        have SC := two_step hH hB.size (by omega) hR x.f0 x.f1 x.f2 x.f3
        have dA := decide_eq_true hAB.1
        have dB := decide_eq_true hAB.2
        have d0 := decide_eq_true hi0
        have p0 := eq_true hi0
        have pA := eq_true hAB.1
        have hwi : wrap64 (i + 1) = i + 1 := IntWalk.wrap64_in _ (by omega)
        clear hC2 hcap2 hi0 hig hiL hAB hH hR hLo
        go_wp2_with (go_at_call 19; refine SC.mono ?_; clear SC; rintro e w2 ⟨v', rfl, h2, r2, keep, len2, b2⟩; obtain ⟨A2', c2', rfl⟩ := r2.slice)
        go_roundg g
        case measure => omega
        case rel => exact ⟨i + 1, _, A2', c2', by rw [hwi], rfl, ⟨by have := hi.out.1; omega, by have := hi.out; omega, by have := hi.out; omega⟩, h2, r2, keep _ _ hRw, hB.trans b2⟩
    · have S1 := (hold_all hH.comm.hold (by omega)).mono (R' := fun e w3 => ∃ A3 c3, e = .returned (.slice A3 L.length c3) ∧
          Calls Try.prog 21 #[.slice A3 L.length c3, .slice A2 L.length c2] w3 fun e w4 => e = .returned (.bool true) ∧
          Calls Try.prog 22 #[.pointer (some ⟨f, 0, none⟩)] w4 fun e w5 => ∃ A5 c5, e = .returned (.slice A5 Lf.length c5) ∧
          Calls Try.prog 21 #[.slice A5 Lf.length c5, .slice A' Lf.length c'] w5 fun e w6 => e = .returned (.bool true) ∧
          Calls Try.prog 22 #[.pointer (some ⟨f, 0, none⟩)] w6 fun e w7 => ∃ A7 c7, e = .returned (.slice A7 Lf.length c7) ∧
            Two w.heap.size w7 m L f Lf ∧ Row w7 (.slice A2 L.length c2) L ∧ Row w7 (.slice A7 Lf.length c7) Lf ∧ Below w.heap.size w w7) (by
        rintro e w3 ⟨v3, rfl, r3, b3⟩
        obtain ⟨A3, c3, rfl⟩ := r3.slice
        have bb3 := hB.trans (b3.mono hB.size)
        refine ⟨A3, c3, rfl, (same_any r3 (hRw.below b3) (by omega)).mono ?_⟩
        rintro e w4 ⟨rfl, nd, rfl⟩
        have z4 := pw_below_drewN (Below.refl w3.heap.size w3) nd
        have bb4 := pw_below_drewN bb3 nd
        have h4 := (hH.below b3).below z4
        refine ⟨rfl, (hold_all h4.hold (by omega)).mono ?_⟩
        rintro e w5 ⟨v5, rfl, r5, b5⟩
        obtain ⟨A5, c5, rfl⟩ := r5.slice
        have bb5 := bb4.trans (b5.mono bb4.size)
        refine ⟨A5, c5, rfl, (same_any r5 (((hR.below b3).below z4).below b5) (by omega)).mono ?_⟩
        rintro e w6 ⟨rfl, nd', rfl⟩
        have z6 := pw_below_drewN (Below.refl w5.heap.size w5) nd'
        have bb6 := pw_below_drewN bb5 nd'
        have h6 := (h4.below b5).below z6
        refine ⟨rfl, (hold_all h6.hold (by omega)).mono ?_⟩
        rintro e w7 ⟨v7, rfl, r7, b7⟩
        obtain ⟨A7, c7, rfl⟩ := r7.slice
        exact ⟨A7, c7, rfl, (h6.below b7).comm, ((((hRw.below b3).below z4).below b5).below z6).below b7, r7, bb6.trans (b7.mono bb6.size)⟩)
      have hLf : Aside (Lf.length ≤ 160) := by show Lf.length ≤ 160; omega
      have hex : decide (i < (more.length : Int)) = false ∨ (decide (i < (more.length : Int)) = true ∧ decide (i < 80) = false) := by
        by_cases hA : i < (more.length : Int)
        · exact .inr ⟨decide_eq_true hA, decide_eq_false (fun h => hAB ⟨hA, h⟩)⟩
        · exact .inl (decide_eq_false hA)
      clear hi0 hig hiL hAB hH hR hRw hB hLo hi
      rcases hex with dA | ⟨dA, dB⟩ <;> (
        go_wp2_with (first
          | (go_at_call 22; refine S1.mono ?_; clear S1; rintro e w3 ⟨A3, c3, rfl, S2⟩)
          | (go_at_call 21; refine S2.mono ?_; clear S2; rintro e w4 ⟨rfl, S3⟩)
          | (go_at_call 22; refine S3.mono ?_; clear S3; rintro e w5 ⟨A5, c5, rfl, S4⟩)
          | (go_at_call 21; refine S4.mono ?_; clear S4; rintro e w6 ⟨rfl, S5⟩)
          | (go_at_call 22; refine S5.mono ?_; clear S5; rintro e w7 ⟨A7, c7, rfl, h7, r7, rn7, b7⟩))
        go_loopg [6, 11] 80 (fun g xv iv wr2 => ∃ (i : Int) (L' : List (ByteArray × Int)) (A' : Option Addr) (c' : Nat), iv = .int .i64 i ∧ xv = .slice A' L'.length c' ∧ Aside (0 ≤ i ∧ i.toNat + g = 80 ∧ L'.length ≤ 80 + i.toNat) ∧ Two w.heap.size wr2 m L' f Lf ∧ Row wr2 (.slice A' L'.length c') L' ∧ Row wr2 (.slice A7 Lf.length c7) Lf ∧ Below w.heap.size w wr2)
        case atStart => exact ⟨0, L, A2, c2, rfl, rfl, ⟨Int.le_refl _, rfl, by have := hL.out; omega⟩, h7, r7, rn7, b7⟩
        case round =>
          clear h7 r7 rn7 b7
          obtain ⟨i2, L', A8, c8, rfl, rfl, hi, hH, hR, hRn, hB⟩ := hrel
          obtain ⟨hi0, hig, hiL⟩ := hi.out
          have hLo := hLf.out
          by_cases hAB : i2 < more.length ∧ i2 < 80
          · cases gk with
            | zero => omega
            | succ g =>
              obtain ⟨ad, x, rfl, q0, q1, q2, q3⟩ := at_D (Kd.C_below hC2 hB) i2 hi0 hAB.1
              have SC := two_step hH hB.size (by omega) hR x.f0 x.f1 x.f2 x.f3
              have eA := decide_eq_true hAB.1
              have eB := decide_eq_true hAB.2
              have e0 := decide_eq_true hi0
              have p0 := eq_true hi0
              have pA := eq_true hAB.1
              have hwi : wrap64 (i2 + 1) = i2 + 1 := IntWalk.wrap64_in _ (by omega)
              clear hC2 hcap2 hi0 hig hiL hAB hH hR hLo
              go_wp2_with (go_at_call 19; refine SC.mono ?_; clear SC; rintro e w2 ⟨v', rfl, h2, r2, keep, len2, b2⟩; obtain ⟨A2', c2', rfl⟩ := r2.slice)
              go_roundg g
              case measure => omega
              case rel => exact ⟨i2 + 1, _, A2', c2', by rw [hwi], rfl, ⟨by have := hi.out.1; omega, by have := hi.out; omega, by have := hi.out; omega⟩, h2, r2, keep _ _ hRn, hB.trans b2⟩
          · have LV := (live_any wr).mono (R' := fun e w2 => e = .returned (.bool true) ∧ Calls Try.prog 22 #[.pointer (some ⟨f, 0, none⟩)] w2 fun e w3 => ∃ A3 c3, e = .returned (.slice A3 Lf.length c3) ∧
                Calls Try.prog 21 #[.slice A3 Lf.length c3, .slice A7 Lf.length c7] w3 fun e w4 => e = .returned (.bool true) ∧ Below w.heap.size w w4) (by
              rintro e w2 ⟨rfl, b2⟩
              have bb2 := hB.trans (b2.mono hB.size)
              refine ⟨rfl, (hold_all (hH.comm.hold.below b2) (by omega)).mono ?_⟩
              rintro e w3 ⟨v3, rfl, r3, b3⟩
              obtain ⟨A3, c3, rfl⟩ := r3.slice
              refine ⟨A3, c3, rfl, (same_any r3 ((hRn.below b2).below b3) (by omega)).mono ?_⟩
              rintro e w4 ⟨rfl, nd, rfl⟩
              exact ⟨rfl, pw_below_drewN (bb2.trans (b3.mono bb2.size)) nd⟩)
            have hex2 : decide (i2 < (more.length : Int)) = false ∨ (decide (i2 < (more.length : Int)) = true ∧ decide (i2 < 80) = false) := by
              by_cases hA : i2 < (more.length : Int)
              · exact .inr ⟨decide_eq_true hA, decide_eq_false (fun h => hAB ⟨hA, h⟩)⟩
              · exact .inl (decide_eq_false hA)
            clear hi0 hig hiL hAB hH hR hRn hB hLo hi
            rcases hex2 with eA | ⟨eA, eB⟩ <;> (
              go_wp2_with (first
                | (go_at_call 13; refine LV.mono ?_; clear LV; rintro e w2 ⟨rfl, AL⟩)
                | (go_at_call 22; refine AL.mono ?_; clear AL; rintro e w3 ⟨A3', c3', rfl, SM⟩)
                | (go_at_call 21; refine SM.mono ?_; clear SM; rintro e w4 ⟨rfl, b4⟩))
              go_ret
              exact ⟨rfl, b4⟩))
end Go.Proofs.Ytdbkjpnejihnhaa.OrdSi
