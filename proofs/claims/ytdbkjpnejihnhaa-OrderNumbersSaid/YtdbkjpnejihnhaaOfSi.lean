/- The walks over knots [string, int]: find, least, drop. (Laid by inst.py out of inst/XOf.) -/
import Derived.Test.YtdbkjpnejihnhaaOzSi
set_option linter.unusedVariables false
set_option linter.unusedSimpArgs false
namespace Go.Proofs.Ytdbkjpnejihnhaa.OrdSi
open Go.RowKit Go.Proofs.YtdbkjpnejihnhaaW.PrintWords Go.Proofs.YtdbkjpnejihnhaaW.PrintLast Go.Proofs.YtdbkjpnejihnhaaW.PrintMore Go.Proofs.Ytdbkjpnejihnhaa.Own Go.Proofs.Ytdbkjpnejihnhaa.Ord
set_option maxHeartbeats 2000000
set_option maxRecDepth 100000
theorem find_any (key : ByteArray) (T : Kn ByteArray Int) (w : World) (hin : In w T) :
    Calls Try.prog 47 #[.pointer T.adr, .string key] w fun e w' => e = .returned (.pointer (Kn.find lt key T).adr) ∧ w' = w := by
  go_enter Try.func47, Try.ntmps47
  go_wp2
  go_loopg [0] T.bs.length (fun n p wr => ∃ T' : Kn ByteArray Int, p = .pointer T'.adr ∧ T'.bs.length = n ∧ In w T' ∧ Aside (Kn.find lt key T' = Kn.find lt key T) ∧ wr = w)
  case atStart => exact ⟨T, rfl, rfl, hin, rfl, rfl⟩
  case round =>
    obtain ⟨T', rfl, hn, hi, hf, hw⟩ := hrel
    subst hw
    cases T' with
    | nil =>
      simp only [show (Kn.nil : Kn ByteArray Int).adr = none from rfl]
      go_wp2
      go_ret
      exact ⟨by rw [← hf.out]; rfl, rfl⟩
    | node b k v l r =>
      have h1 := Top.of_in hi
      obtain ⟨c10, c11, c12, c13, f11, f12, f13⟩ := h1.cells
      simp only [show (Kn.node b k v l r).adr = some ⟨b, 0, none⟩ from rfl]
      by_cases hA : lt key k = true
      · have hcmp : ∀ W, Calls Try.prog 56 #[.string key, .string k] W fun e w' => e = .returned (.int .i64 (-1)) ∧ w' = W := fun W => by
          have := cmp_any key k W; unfold Kn.cmpK at this; rw [if_pos hA] at this; exact this
        have hf2 : Aside (Kn.find lt key l = Kn.find lt key T) := (show Kn.find lt key (Kn.node b k v l r) = Kn.find lt key l from by simp only [Kn.find]; rw [if_pos hA]).symm.trans hf.out
        go_wp2_with (go_at_call 56; refine (hcmp _).mono ?_; rintro e w1 ⟨rfl, hw⟩; obtain rfl := hw.symm)
        go_roundg l.bs.length
        case measure => simp [Kn.bs] at hn; omega
        case rel => exact ⟨l, rfl, rfl, hi.2.1, hf2, rfl⟩
      · by_cases hB : lt k key = true
        · have hcmp : ∀ W, Calls Try.prog 56 #[.string key, .string k] W fun e w' => e = .returned (.int .i64 1) ∧ w' = W := fun W => by
            have := cmp_any key k W; unfold Kn.cmpK at this; rw [if_neg hA, if_pos hB] at this; exact this
          have hf2 : Aside (Kn.find lt key r = Kn.find lt key T) := (show Kn.find lt key (Kn.node b k v l r) = Kn.find lt key r from by simp only [Kn.find]; rw [if_neg hA, if_pos hB]).symm.trans hf.out
          go_wp2_with (go_at_call 56; refine (hcmp _).mono ?_; rintro e w1 ⟨rfl, hw⟩; obtain rfl := hw.symm)
          go_roundg r.bs.length
          case measure => simp [Kn.bs] at hn; omega
          case rel => exact ⟨r, rfl, rfl, hi.2.2, hf2, rfl⟩
        · have hcmp : ∀ W, Calls Try.prog 56 #[.string key, .string k] W fun e w' => e = .returned (.int .i64 0) ∧ w' = W := fun W => by
            have := cmp_any key k W; unfold Kn.cmpK at this; rw [if_neg hA, if_neg hB] at this; exact this
          have hf2 : Aside (Kn.node b k v l r = Kn.find lt key T) := (show Kn.find lt key (Kn.node b k v l r) = Kn.node b k v l r from by simp only [Kn.find]; rw [if_neg hA, if_neg hB]).symm.trans hf.out
          go_wp2_with (go_at_call 56; refine (hcmp _).mono ?_; rintro e w1 ⟨rfl, hw⟩; obtain rfl := hw.symm)
          go_ret
          exact ⟨by rw [← hf2.out]; rfl, rfl⟩
end Go.Proofs.Ytdbkjpnejihnhaa.OrdSi
