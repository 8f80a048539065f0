/- 'played'; the law OrderRises, walked. -/
import Derived.Test.YtdbkjpnejihnhaaQw
set_option linter.unusedVariables false
set_option linter.unusedSimpArgs false
namespace Go.Proofs.Ytdbkjpnejihnhaa.OrdSi
open Go.RowKit Go.Shelf Go.Proofs.YtdbkjpnejihnhaaW.PrintWords Go.Proofs.YtdbkjpnejihnhaaW.PrintLast Go.Proofs.YtdbkjpnejihnhaaW.PrintMore Go.Proofs.Ytdbkjpnejihnhaa.Own Go.Proofs.Ytdbkjpnejihnhaa.Ord
attribute [local go_sem] Oper.semAt_some
set_option maxHeartbeats 4000000
set_option maxRecDepth 100000
theorem played_any {w : World} {A : Option Addr} {c : Nat} {l : List Dd} (hC : Kd.C P.k49 w A l.length l) (hcap : l.length ≤ c) :
    Calls Try.prog 15 #[.slice A l.length c] w fun e w' => ∃ m L, e = .returned (.pointer (some ⟨m, 0, none⟩)) ∧ Hold w.heap.size w' m L ∧ L.length ≤ 80 ∧ Below w.heap.size w w' := by
  have NW := hold_new w
  go_enter Try.func15, Try.ntmps15
  go_wp2_with (go_at_call 18; refine NW.mono ?_; clear NW; rintro e w1 ⟨m, rfl, h1, b1⟩)
  go_loopg [4, 5] 80 (fun g xv iv wr => ∃ (i : Int) (L : List (ByteArray × Int)) (A' : Option Addr) (c' : Nat), iv = .int .i64 i ∧ xv = .slice A' L.length c' ∧ Aside (0 ≤ i ∧ i.toNat + g = 80 ∧ L.length ≤ i.toNat) ∧ Hold w.heap.size wr m L ∧ Row wr (.slice A' L.length c') L ∧ Below w.heap.size w wr)
  case atStart => exact ⟨0, [], none, 0, rfl, rfl, ⟨Int.le_refl _, rfl, by simp⟩, h1, Row.nil _, b1⟩
  case round =>
    clear h1 b1
    obtain ⟨i, L, A', c', rfl, rfl, hi, hH, hR, hB⟩ := hrel
    obtain ⟨hi0, hig, hiL⟩ := hi.out
    by_cases hA : i < l.length
    · by_cases hB8 : i < 80
      · cases gk with
        | zero => omega
        | succ g =>
          obtain ⟨ad, x, rfl, q0, q1, q2, q3⟩ := at_D (Kd.C_below hC hB) i hi0 hA
          have SC := hold_step hH hB.size (by omega) hR x.f0 x.f1 x.f2 x.f3
          have dA := decide_eq_true hA
          have dB := decide_eq_true hB8
          have d0 := decide_eq_true hi0
          have p0 := eq_true hi0
          have pA := eq_true hA
          have hwi : wrap64 (i + 1) = i + 1 := IntWalk.wrap64_in _ (by omega)
          clear hC hcap hi0 hig hiL hA hB8 hH hR
          go_wp2_with (go_at_call 19; refine SC.mono ?_; clear SC; rintro e w2 ⟨v', rfl, h2, r2, len2, b2⟩; obtain ⟨A2, c2, rfl⟩ := r2.slice)
          go_roundg g
          case measure => omega
          case rel => exact ⟨i + 1, _, A2, c2, by rw [hwi], rfl, ⟨by have := hi.out.1; omega, by have := hi.out; omega, by have := hi.out; omega⟩, h2, r2, hB.trans b2⟩
      · have dA := decide_eq_true hA
        have dB := decide_eq_false hB8
        have hL : Aside (L.length ≤ 80) := by have := hi.out; show L.length ≤ 80; omega
        clear hC hcap hi0 hig hiL hA hi
        go_wp2
        go_ret
        first | exact ⟨m, L, rfl, hH, hL.out, hB⟩ | exact ⟨m, rfl, L, hH, hL.out, hB⟩
    · have dA := decide_eq_false hA
      have hL : Aside (L.length ≤ 80) := by have := hi.out; show L.length ≤ 80; omega
      clear hC hcap hi0 hig hiL hA hi
      go_wp2
      go_ret
      first | exact ⟨m, L, rfl, hH, hL.out, hB⟩ | exact ⟨m, rfl, L, hH, hL.out, hB⟩
/-- A pair in a row. -/
theorem Row.at {w : World} {A : Option Addr} {n c : Nat} {L : List (ByteArray × Int)} (h : Row w (.slice A n c) L) (i : Int) (h0 : 0 ≤ i) (h1 : i < n) : ∃ ad k v, A = some ad ∧ L[i.toNat]? = some (k, v) ∧ w.cell? (ad.add (i.toNat * 2)) = some (.string k) ∧
    w.cell? ⟨(ad.add (i.toNat * 2)).block, (ad.add (i.toNat * 2)).off + 1, none⟩ = some (.int .i64 v) := by
  obtain ⟨_, h⟩ := h
  obtain ⟨e1, q1, r1⟩ := Kd.R_reads' h
  subst e1
  obtain ⟨ad, e, c1, c2⟩ := P.at_T43 r1 i h0 h1
  have hn : i.toNat < (L.map toS).length := by omega
  have := rd_at (L.map toS) i.toNat hn
  rw [show ((i.toNat : Nat) : Int) = i by omega] at this
  rw [this, List.getElem_map] at c1 c2
  have hn' : i.toNat < L.length := by simpa using hn
  exact ⟨ad, _, _, e, List.getElem?_eq_getElem hn', c1, c2⟩
theorem place_at {L : List (ByteArray × Int)} (h : Rise lt L) : ∀ {j : Nat} {x : ByteArray × Int}, L[j]? = some x → (L.filter (fun y => lt y.1 x.1)).length = j := by
  induction L with
  | nil => intro j x hx; simp at hx
  | cons y l ih =>
    intro j x hx
    rw [Rise, List.pairwise_cons] at h
    cases j with
    | zero =>
      simp only [List.getElem?_cons_zero, Option.some.injEq] at hx
      subst hx
      rw [List.filter_cons, lin.irr, fil_none (fun z hz => lin.asym (h.1 z hz))]
      rfl
    | succ j =>
      rw [List.getElem?_cons_succ] at hx
      have hm := List.mem_of_getElem? hx
      rw [List.filter_cons, h.1 x hm, if_pos rfl, List.length_cons, ih h.2 hx]
theorem rise_at {L : List (ByteArray × Int)} (h : Rise lt L) {i j : Nat} {x y : ByteArray × Int} (hx : L[i]? = some x) (hy : L[j]? = some y) (hij : i < j) : lt x.1 y.1 = true := by
  obtain ⟨h1, rfl⟩ := List.getElem?_eq_some_iff.1 hx
  obtain ⟨h2, rfl⟩ := List.getElem?_eq_some_iff.1 hy
  exact List.pairwise_iff_getElem.1 h i j h1 h2 hij
theorem Hold.rise {base : Nat} {w : World} {m : Nat} {L : List (ByteArray × Int)} (h : Hold base w m L) : Rise lt L := by obtain ⟨_, _, _, h, _⟩ := h; exact h
theorem rises_any {w : World} {A : Option Addr} {c : Nat} {l : List Dd} (hC : Kd.C P.k49 w A l.length l) (hcap : l.length ≤ c) :
    Calls Try.prog 6 #[.slice A l.length c] w fun e w' => e = .returned (.bool true) ∧ Below w.heap.size w w' := by
  have PC := (played_any hC hcap).mono (R' := fun e w1 => ∃ m L, e = .returned (.pointer (some ⟨m, 0, none⟩)) ∧ L.length ≤ 80 ∧ Calls Try.prog 22 #[.pointer (some ⟨m, 0, none⟩)] w1 fun e w2 =>
      ∃ A2 c2, e = .returned (.slice A2 L.length c2) ∧ Row w2 (.slice A2 L.length c2) L ∧ Hold w.heap.size w2 m L ∧ Below w.heap.size w w2) (by
    rintro e w1 ⟨m, L, rfl, hH, hL, b1⟩
    refine ⟨m, L, rfl, hL, (hold_all hH (by omega)).mono ?_⟩
    rintro e w2 ⟨v, rfl, r2, b2⟩
    obtain ⟨A2, c2, rfl⟩ := r2.slice
    exact ⟨A2, c2, rfl, r2, hH.below b2, b1.trans (b2.mono b1.size)⟩)
  clear hC hcap
  go_enter Try.func6, Try.ntmps6
  go_wp2_with (first
    | (go_at_call 15; refine PC.mono ?_; clear PC; rintro e w1 ⟨m, L, rfl, hL0, AC⟩)
    | (go_at_call 22; refine AC.mono ?_; clear AC; rintro e w2 ⟨A2, c2, rfl, hR2, hH2, b2⟩))
  have hL : Aside (L.length ≤ 80) := hL0
  clear hL0
  go_loopg [5] L.length (fun g iv wr => ∃ (i : Int), iv = .int .i64 i ∧ Aside (0 ≤ i ∧ i.toNat + g = L.length) ∧ Row wr (.slice A2 L.length c2) L ∧ Hold w.heap.size wr m L ∧ Below w.heap.size w wr)
  case atStart => exact ⟨0, rfl, ⟨Int.le_refl _, by simp⟩, hR2, hH2, b2⟩
  case round =>
    clear hR2 hH2 b2
    obtain ⟨i, rfl, hi, hR, hH, hB⟩ := hrel
    obtain ⟨hi0, hig⟩ := hi.out
    have hLo := hL.out
    cases gk with
    | zero =>
      have dA : decide (i < (L.length : Int)) = false := decide_eq_false (by omega)
      have LV := (live_any wr).mono (R' := fun e w3 => e = .returned (.bool true) ∧ Calls Try.prog 20 #[.pointer (some ⟨m, 0, none⟩)] w3 fun e w4 => e = .returned (.int .i64 L.length) ∧ Below w.heap.size w w4) (by
        rintro e w3 ⟨rfl, b3⟩
        refine ⟨rfl, (hold_len (hH.below b3)).mono ?_⟩
        rintro e w4 ⟨rfl, rfl⟩
        exact ⟨rfl, hB.trans (b3.mono hB.size)⟩)
      clear hi0 hig hi hR hH hB hL hLo
      go_wp2_with (first
        | (go_at_call 13; refine LV.mono ?_; clear LV; rintro e w3 ⟨rfl, LC⟩)
        | (go_at_call 20; refine LC.mono ?_; clear LC; rintro e w4 ⟨rfl, b4⟩))
      go_ret
      exact ⟨rfl, b4⟩
    | succ g =>
      have hA : i < (L.length : Int) := by omega
      obtain ⟨ad, k, v, rfl, hk, c1, c2'⟩ := hR.at i hi0 hA
      have hpl := place_at hH.rise hk
      have AC := (hold_at hH (by omega) i).mono (R' := fun e w3 => e = .returned (.tuple #[.string k, .int .i64 v, .bool true]) ∧ w3.cell? (ad.add (i.toNat * 2)) = some (.string k) ∧ w3.cell? ⟨(ad.add (i.toNat * 2)).block, (ad.add (i.toNat * 2)).off + 1, none⟩ = some (.int .i64 v) ∧
          (∀ a u, wr.cell? a = some u → w3.cell? a = some u) ∧ Row w3 (.slice (some ad) L.length c2) L ∧ Hold w.heap.size w3 m L ∧ Below w.heap.size w w3 ∧ Calls Try.prog 24 #[.pointer (some ⟨m, 0, none⟩), .string k] w3 fun e w4 => e = .returned (.int .i64 i) ∧ w4 = w3) (by
        rintro e w3 ⟨rfl, nd, rfl⟩
        have hat : atL i L = (k, v, true) := by unfold atL; rw [if_pos hi0, hk]
        have h3 := hH.below (pw_below_drewN (Below.refl _ _) nd)
        refine ⟨by rw [hat], c1, c2', fun a u h => h, hR.below (pw_below_drewN (Below.refl _ _) nd), h3, pw_below_drewN hB nd, (hold_place h3 (by omega) k).mono ?_⟩
        rintro e w4 ⟨rfl, rfl⟩
        exact ⟨by rw [hpl]; congr 2; omega, rfl⟩)
      have dA := decide_eq_true hA
      have d0 := decide_eq_true hi0
      have p0 := eq_true hi0
      have pA := eq_true hA
      have hwi : wrap64 (i + 1) = i + 1 := IntWalk.wrap64_in _ (by omega)
      by_cases hz : i = 0
      · have dz : decide (0 < i) = false := decide_eq_false (by omega)
        clear hi0 hig hA hR hH hk hpl c1 c2' hB hLo hz
        go_wp2_with (first
          | (go_at_call 23; refine AC.mono ?_; clear AC; rintro e w3 ⟨rfl, c1, c2', hkeep, hR, hH, hB, PL⟩)
          | (go_at_call 24; refine PL.mono ?_; clear PL; rintro e w4 ⟨rfl, hw⟩; obtain rfl := hw.symm))
        go_roundg g
        case measure => omega
        case rel => exact ⟨i + 1, by rw [hwi], ⟨by have := hi.out.1; omega, by have := hi.out; omega⟩, hR, hH, hB⟩
      · have dz : decide (0 < i) = true := decide_eq_true (by omega)
        obtain ⟨ad', k0, v0, e0, hk0, c01, c02⟩ := hR.at (i - 1) (by omega) (by omega)
        cases e0
        rw [show (i - 1).toNat = i.toNat - 1 by omega] at c01 hk0
        have hlt : Op.bytesLess k0.toList k.toList = true := rise_at hH.rise hk0 hk (by omega)
        have hwm : wrap64 (i - 1) = i - 1 := IntWalk.wrap64_in _ (by omega)
        have dm0 := decide_eq_true (show 0 ≤ i - 1 by omega)
        have pm0 := eq_true (show 0 ≤ i - 1 by omega)
        have pm2 := eq_true (show 1 ≤ i by omega)
        have dm2 := decide_eq_true (show 1 ≤ i by omega)
        have dm1 := decide_eq_true (show i - 1 < (L.length : Int) by omega)
        have pm1 := eq_true (show i - 1 < (L.length : Int) by omega)
        clear hi0 hig hA hR hH hk hpl c1 c2' hB hLo hz hk0 c02
        go_wp2_with (first
          | (go_at_call 23; refine AC.mono ?_; clear AC; rintro e w3 ⟨rfl, c1, c2', hkeep, hR, hH, hB, PL⟩; have c03 := hkeep _ _ c01; clear hkeep)
          | (go_at_call 24; refine PL.mono ?_; clear PL; rintro e w4 ⟨rfl, hw⟩; obtain rfl := hw.symm))
        go_roundg g
        case measure => omega
        case rel => exact ⟨i + 1, by rw [hwi], ⟨by have := hi.out.1; omega, by have := hi.out; omega⟩, hR, hH, hB⟩
end Go.Proofs.Ytdbkjpnejihnhaa.OrdSi
