/- The walks over a map [string, int]: Place, At. (Laid by inst.py out of inst/XOj.) -/
import Derived.Test.YtdbkjpnejihnhaaOiSi
import Derived.Test.YtdbkjpnejihnhaaOu
set_option linter.unusedVariables false
set_option linter.unusedSimpArgs false
namespace Go.Proofs.Ytdbkjpnejihnhaa.OrdSi
open Go.RowKit Go.Shelf Go.Proofs.YtdbkjpnejihnhaaW.PrintWords Go.Proofs.YtdbkjpnejihnhaaW.PrintLast Go.Proofs.YtdbkjpnejihnhaaW.PrintMore Go.Proofs.Ytdbkjpnejihnhaa.Own Go.Proofs.Ytdbkjpnejihnhaa.Ord
attribute [local go_sem] Oper.semAt_some
set_option maxHeartbeats 2000000
set_option maxRecDepth 100000
theorem place_any (key : ByteArray) {w : World} {m : Nat} {T : Kn ByteArray Int} (h : Mp w m T) (hc : T.cnt < 4611686018427387904) :
    Calls Try.prog 24 #[.pointer (some ⟨m, 0, none⟩), .string key] w fun e w' => e = .returned (.int .i64 (Kn.place lt key T)) ∧ w' = w := by
  have c0 : w.cell? ⟨m, 0, none⟩ = some (.pointer T.adr) := blk_cell h.blk 0
  have hin := h.inn
  clear h
  go_enter Try.func24, Try.ntmps24
  go_wp2
  go_loopg [5, 6] T.bs.length (fun g n p wr => ∃ (T' : Kn ByteArray Int) (n' : Int), n = .int .i64 n' ∧ p = .pointer T'.adr ∧ T'.bs.length = g ∧ In w T' ∧ Aside (0 ≤ n' ∧ n' + T'.cnt ≤ T.cnt ∧ n' + Kn.place lt key T' = Kn.place lt key T) ∧ wr = w)
  case atStart => exact ⟨T, 0, rfl, rfl, rfl, hin, ⟨Int.le_refl _, by omega, by omega⟩, rfl⟩
  case round =>
    obtain ⟨T', n', rfl, rfl, hn, hi, hf, hw⟩ := hrel
    subst hw
    cases T' with
    | nil =>
      simp only [show (Kn.nil : Kn ByteArray Int).adr = none from rfl]
      go_wp2
      go_ret
      have := hf.out.2.2
      simp only [Kn.place, Int.add_zero] at this
      exact ⟨by rw [← this]; rfl, rfl⟩
    | node b k v l r =>
      have h1 := Top.of_in hi
      have hil := hi.2.1
      have hir := hi.2.2
      obtain ⟨c10, c11, c12, c13, f11, f12, f13⟩ := h1.cells
      simp only [show (Kn.node b k v l r).adr = some ⟨b, 0, none⟩ from rfl]
      have hbl := Kn.bounds l
      have hbr := Kn.bounds r
      have hf1 := hf.out
      clear hf
      simp only [Kn.cnt, Kn.place] at hf1
      by_cases hA : lt k key = true
      · rw [if_pos hA] at hf1
        have hl : ∀ W, Calls Try.prog 45 #[.string k, .string key] W fun e w' => e = .returned (.bool true) ∧ w' = W := fun W => by
          have := less_any k key W; rw [hA] at this; exact this
        have hsz := size_any l wr hil
        have hw1 : IntKind.i64.wrap (l.cnt + 1) = l.cnt + 1 := IntWalk.i64_in _ (by omega)
        have hw2 : IntKind.i64.wrap (n' + (l.cnt + 1)) = n' + (l.cnt + 1) := IntWalk.i64_in _ (by omega)
        have hf2 : Aside (0 ≤ n' + (l.cnt + 1) ∧ n' + (l.cnt + 1) + r.cnt ≤ T.cnt ∧ n' + (l.cnt + 1) + Kn.place lt key r = Kn.place lt key T) := ⟨by omega, by omega, by omega⟩
        clear hf1 hi h1 hil
        go_wp2_with (first
          | (go_at_call 45; refine (hl _).mono ?_; rintro e w1 ⟨rfl, hw⟩; obtain rfl := hw.symm)
          | (go_at_call 43; refine hsz.mono ?_; clear hsz; rintro e w1 ⟨rfl, hw⟩; obtain rfl := hw.symm; simp only [hw1, hw2]))
        go_roundg r.bs.length
        case measure => simp [Kn.bs] at hn; omega
        case rel => exact ⟨r, n' + (l.cnt + 1), rfl, rfl, rfl, hir, hf2, rfl⟩
      · rw [if_neg hA] at hf1
        have hl : ∀ W, Calls Try.prog 45 #[.string k, .string key] W fun e w' => e = .returned (.bool false) ∧ w' = W := fun W => by
          have := less_any k key W; rw [show lt k key = false by simpa using hA] at this; exact this
        have hf2 : Aside (0 ≤ n' ∧ n' + l.cnt ≤ T.cnt ∧ n' + Kn.place lt key l = Kn.place lt key T) := ⟨by omega, by omega, by omega⟩
        clear hf1 hi h1 hir
        go_wp2_with (go_at_call 45; refine (hl _).mono ?_; rintro e w1 ⟨rfl, hw⟩; obtain rfl := hw.symm)
        go_roundg l.bs.length
        case measure => simp [Kn.bs] at hn; omega
        case rel => exact ⟨l, n', rfl, rfl, rfl, hil, hf2, rfl⟩
/-- The key that has so many below it. -/
def atL (i : Int) (l : List (ByteArray × Int)) : ByteArray × Int × Bool := if 0 ≤ i then match l[i.toNat]? with | some x => (x.1, x.2, true) | none => (ByteArray.empty, 0, false) else (ByteArray.empty, 0, false)
theorem at_any (i : Int) {w : World} {m : Nat} {T : Kn ByteArray Int} (h : Mp w m T) (hc : T.cnt < 4611686018427387904) :
    Calls Try.prog 23 #[.pointer (some ⟨m, 0, none⟩), .int .i64 i] w fun e w' => e = .returned (.tuple #[.string (atL i T.toL).1, .int .i64 (atL i T.toL).2.1, .bool (atL i T.toL).2.2]) ∧ ∃ nd, w' = w.drewN nd := by
  have c0 : w.cell? ⟨m, 0, none⟩ = some (.pointer T.adr) := blk_cell h.blk 0
  have hin := h.inn
  have hL := len_any h
  clear h
  have hlenA : Aside (T.cnt = T.toL.length) := Kn.cnt_len T
  unfold atL
  by_cases hi0 : 0 ≤ i
  · rw [if_pos hi0]
    by_cases hi1 : i < T.cnt
    · obtain ⟨x, hx⟩ : ∃ x, T.toL[i.toNat]? = some x := ⟨_, List.getElem?_eq_getElem (by have := hlenA.out; omega)⟩
      rw [hx]
      dsimp only
      have hxA : Aside (T.toL[i.toNat]? = some x) := hx
      clear hx
      have d0 := decide_eq_true hi0
      have d1 := decide_eq_true hi1
      go_enter Try.func23, Try.ntmps23
      go_wp2_with (go_at_call 20; refine hL.mono ?_; clear hL; rintro e w1 ⟨rfl, hw⟩; obtain rfl := hw.symm)
      try simp only [d1]
      go_loopg [1, 7] T.bs.length (fun g n p wr => ∃ (T' : Kn ByteArray Int) (n' : Int), n = .int .i64 n' ∧ p = .pointer T'.adr ∧ T'.bs.length = g ∧ In w T' ∧ Aside (0 ≤ n' ∧ n' < T'.cnt ∧ T'.cnt ≤ T.cnt ∧ T'.toL[n'.toNat]? = some x) ∧ wr = w)
      case atStart => exact ⟨T, i, rfl, rfl, rfl, hin, ⟨hi0, hi1, by omega, hxA.out⟩, rfl⟩
      case round =>
        obtain ⟨T', n', rfl, rfl, hn, hi, hf, hw⟩ := hrel
        subst hw
        cases T' with
        | nil => have := hf.out; simp only [Kn.cnt] at this; omega
        | node b k v l r =>
          have h1 := Top.of_in hi
          have hil := hi.2.1
          have hir := hi.2.2
          obtain ⟨c10, c11, c12, c13, f11, f12, f13⟩ := h1.cells
          simp only [show (Kn.node b k v l r).adr = some ⟨b, 0, none⟩ from rfl]
          have hbl := Kn.bounds l
          have hbr := Kn.bounds r
          have hllA : Aside (l.cnt = l.toL.length) := Kn.cnt_len l
          have hf1 := hf.out
          clear hf
          simp only [Kn.cnt, Kn.toL] at hf1
          have hsz := size_any l wr hil
          by_cases hA : n' = l.cnt
          · have hx : x = (k, v) := by
              have := hf1.2.2.2
              rw [hA, hllA.out, List.getElem?_append_right (by simp)] at this
              simpa using this.symm
            subst hx
            subst hA
            clear hf1 hi h1 hil hir
            go_wp2_with (go_at_call 43; refine hsz.mono ?_; rintro e w1 ⟨rfl, hw⟩; obtain rfl := hw.symm)
            refine still_all (by kernel_rfl) (by kernel_rfl) (fun W hW => ?_)
            have d10 : W.cell? ⟨b, 0, none⟩ = some (.string k) := by rw [hW]; exact c10
            have d11 : W.cell? ⟨b, 1, none⟩ = some (.int .i64 v) := by rw [hW]; exact c11
            have hWA : Aside (W = wr.drew) := hW
            clear c10 c11 hW
            repeat still_step
            refine wpStill_nil ?_
            go_wp2
            go_ret3
            exact ⟨rfl, 1, hWA.out⟩
          · have e1 : decide (n' = l.cnt) = false := decide_eq_false hA
            by_cases hB : n' < l.cnt
            · have e2 := decide_eq_true hB
              have hf2 : Aside (0 ≤ n' ∧ n' < l.cnt ∧ l.cnt ≤ T.cnt ∧ l.toL[n'.toNat]? = some x) := ⟨by omega, by omega, by omega, by
                have := hf1.2.2.2
                rwa [List.getElem?_append_left (by have := hllA.out; omega)] at this⟩
              clear hf1 hi h1 hir
              go_wp2_with (go_at_call 43; refine hsz.mono ?_; rintro e w1 ⟨rfl, hw⟩; obtain rfl := hw.symm)
              go_roundg l.bs.length
              case measure => simp [Kn.bs] at hn; omega
              case rel => exact ⟨l, n', rfl, rfl, rfl, hil, hf2, rfl⟩
            · have e2 := decide_eq_false hB
              have hf2 : Aside (0 ≤ n' - (l.cnt + 1) ∧ n' - (l.cnt + 1) < r.cnt ∧ r.cnt ≤ T.cnt ∧ r.toL[(n' - (l.cnt + 1)).toNat]? = some x) := ⟨by omega, by omega, by omega, by
                have := hf1.2.2.2
                have hll := hllA.out; rw [List.getElem?_append_right (by omega)] at this
                rwa [show n'.toNat - l.toL.length = (n' - (l.cnt + 1)).toNat + 1 by omega, List.getElem?_cons_succ] at this⟩
              have hw1 : wrap64 (l.cnt + 1) = l.cnt + 1 := IntWalk.wrap64_in _ (by omega)
              have hw2 : wrap64 (n' - (l.cnt + 1)) = n' - (l.cnt + 1) := IntWalk.wrap64_in _ (by omega)
              clear hf1 hi h1 hil
              go_wp2_with (go_at_call 43; refine hsz.mono ?_; rintro e w1 ⟨rfl, hw⟩; obtain rfl := hw.symm)
              go_roundg r.bs.length
              case measure => simp [Kn.bs] at hn; omega
              case rel => exact ⟨r, n' - (l.cnt + 1), by first | rw [hw1, hw2] | rw [hw2], rfl, rfl, hir, hf2, rfl⟩
    · have hx : T.toL[i.toNat]? = none := List.getElem?_eq_none (by have := hlenA.out; omega)
      rw [hx]
      dsimp only
      clear hx
      have d0 := decide_eq_true hi0
      have d1 := decide_eq_false hi1
      go_enter Try.func23, Try.ntmps23
      go_wp2_with (go_at_call 20; refine hL.mono ?_; clear hL; rintro e w1 ⟨rfl, hw⟩; obtain rfl := hw.symm)
      go_ret3
      exact ⟨rfl, 0, rfl⟩
  · rw [if_neg hi0]
    have d0 := decide_eq_false hi0
    go_enter Try.func23, Try.ntmps23
    go_wp2
    go_ret3
    exact ⟨rfl, 0, rfl⟩
end Go.Proofs.Ytdbkjpnejihnhaa.OrdSi
