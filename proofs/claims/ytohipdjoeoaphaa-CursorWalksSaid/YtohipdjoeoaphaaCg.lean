/- live: one cursor, opened, told a chunk, asked. -/
import Derived.Test.YtohipdjoeoaphaaCf
import Derived.Test.YtohipdjoeoaphaaMz
set_option linter.unusedVariables false
set_option linter.unusedSimpArgs false
namespace Go.Proofs.Ytohipdjoeoaphaa.Cur
open Go Go.RowKit Go.Maps Go.Proofs.YtohipdjoeoaphaaW.PrintWords Go.Proofs.YtohipdjoeoaphaaW.PrintLast Go.Proofs.YtohipdjoeoaphaaW.PrintMore Go.Proofs.Ytohipdjoeoaphaa.Own Go.Proofs.Ytohipdjoeoaphaa.Ord Go.Proofs.Ytohipdjoeoaphaa.P
set_option maxHeartbeats 2000000
set_option maxRecDepth 100000
theorem eqA_range (d : Nat) (w : World) (x0 y0 : BA) (x1 y1 : BA) :
  (Op.equalIn (d + 2) 23 (.agg #[.string x0, .string x1]) (.agg #[.string y0, .string y1])).run Try.prog w = .ok (x0.toList == y0.toList && (x1.toList == y1.toList)) w := by
 refine eqA_of Try.underlying23 (by kernel_rfl) ?_
 refine eqf_cons (by rfl) (by go_simp; rfl) (by go_simp; rfl) (by go_simp) ?_
 exact eqf_last (by rfl) (by go_simp; rfl) (by go_simp; rfl) (by go_simp)
theorem C_two {W : World} {g : Nat} {a b c d : ByteArray} (h : W.heap[g]? = some (.cells #[.string a, .string b, .string c, .string d] 39 (0, 0))) : Kd.C P.k39 W (some ⟨g, 0, none⟩) 2 [⟨a, b⟩, ⟨c, d⟩] := by
  refine ⟨rfl, by omega, fun _ => ⟨_, rfl, fun j p hj => ?_⟩⟩
  match j, hj with
  | 0, hj =>
    cases hj
    refine ⟨[.string a, .string b], rfl, ⟨[.string a], [.string b], rfl, rfl, rfl⟩, fun i u hu => ?_⟩
    match i, hu with
    | 0, hu => cases hu; exact blk_cell h 0
    | 1, hu => cases hu; exact blk_cell h 1
    | _ + 2, hu => simp at hu
  | 1, hj =>
    cases hj
    refine ⟨[.string c, .string d], rfl, ⟨[.string c], [.string d], rfl, rfl, rfl⟩, fun i u hu => ?_⟩
    match i, hu with
    | 0, hu => cases hu; exact blk_cell h 2
    | 1, hu => cases hu; exact blk_cell h 3
    | _ + 2, hu => simp at hu
  | _ + 2, hj => simp at hj
attribute [local go_sem high] eqA_range
def bA : ByteArray := ⟨#[97]⟩
def bZ : ByteArray := ⟨#[122]⟩
theorem rr_az : rrB ⟨#[97]⟩ ⟨#[122]⟩ = true := by simp [rrB, ba_mk]; decide
theorem aft_c : aft ⟨#[99]⟩ = ⟨#[99, 0]⟩ := by rfl
theorem took_live : tookV (some (⟨#[97]⟩, ⟨#[122]⟩, false)) [⟨⟨#[98]⟩, ⟨#[]⟩⟩, ⟨⟨#[99]⟩, ⟨#[]⟩⟩] 2 = (false, 0, some (⟨#[99, 0]⟩, ⟨#[122]⟩, false)) := by
  have h1 : incB [(⟨⟨#[98]⟩, ⟨#[]⟩⟩ : En), ⟨⟨#[99]⟩, ⟨#[]⟩⟩] = true := by simp [incB, ltB, ba_mk]; decide
  have h2 : outside ⟨#[97]⟩ ⟨#[122]⟩ [(⟨⟨#[98]⟩, ⟨#[]⟩⟩ : En), ⟨⟨#[99]⟩, ⟨#[]⟩⟩] = false := by simp [outside, holdsB, rrB, ltB, ba_mk]; decide
  have h3 : rrB (⟨#[99, 0]⟩ : ByteArray) ⟨#[122]⟩ = true := by simp [rrB, ba_mk]; decide
  unfold tookV
  simp [h1, h2, behV, aft_c, h3]
theorem live_took {w : World} {p b : Nat} (h : Tb w p b (0 + 1) (0 + 1) (upd (fun x => none) (0 + 1) (some (⟨#[97]⟩, ⟨#[122]⟩, false))) 1) :
    Calls Try.prog 9 #[.pointer (some ⟨p, 0, none⟩), .int .i64 1, .slice (some ⟨w.heap.size, 0, none⟩) 2 2, .int .i64 2] (w.alloc (.cells #[.string ⟨#[98]⟩, .string ⟨#[]⟩, .string ⟨#[99]⟩, .string ⟨#[]⟩] 39)) fun e w' =>
      e = .returned (.tuple #[.bool false, .int .i64 0]) ∧ Tb w' p b (0 + 1) (0 + 1 + 1) (upd (upd (fun x => none) (0 + 1) (some (⟨#[97]⟩, ⟨#[122]⟩, false))) 1 (some (⟨#[99, 0]⟩, ⟨#[122]⟩, false))) 1 ∧ Fr [b] (w.alloc (.cells #[.string ⟨#[98]⟩, .string ⟨#[]⟩, .string ⟨#[99]⟩, .string ⟨#[]⟩] 39)) w' := by
  have hTk := took_any (h.fr (B := []) ((Fr.refl [] _).alloc (.cells #[.string ⟨#[98]⟩, .string ⟨#[]⟩, .string ⟨#[99]⟩, .string ⟨#[]⟩] 39)) (by simp) (by simp)) 1 (wf_small (by omega) (by omega)) (C_two (blk_new w _)) (cl := 2) (by simp) 2 (by omega) (by intro x hx; simp at hx; rcases hx with rfl | rfl <;> simp [ba_size, ba_mk]) (by simp)
  rw [show upd (fun x => none) (0 + 1) (some (⟨#[97]⟩, ⟨#[122]⟩, false)) (1 : Int) = (some (⟨#[97]⟩, ⟨#[122]⟩, false) : Option X) from rfl, took_live] at hTk
  exact hTk
theorem live_any (w : World) : Calls Try.prog 7 #[] w fun e w' => e = .returned (.bool true) ∧ Below w.heap.size w w' := by
  have hur := Try.underlying23
  have hue := Try.underlying39
  have NW := new_any w
  have hcA : Aside (1 = (if ((fun _ => none : Int → Option X) (0 + 1)).isSome then 0 else 0 + 1)) := rfl
  go_enter Try.func7, Try.ntmps7
  go_wp2_with (first
    | (go_at_call 5; refine NW.mono ?_; clear NW; rintro e w1 ⟨rfl, hT1, hB1⟩; have hO := open_yes hT1 (by omega) (by omega) (by omega) _ _ rr_az hcA; clear hT1)
    | (go_at_call 6; refine hO.mono ?_; clear hO hcA; rintro e w2 ⟨rfl, hT2, f2⟩; have hTk := live_took hT2; have hB2 : Below w.heap.size w (w2.alloc (.cells #[.string ⟨#[98]⟩, .string ⟨#[]⟩, .string ⟨#[99]⟩, .string ⟨#[]⟩] 39)) := below_alloc (((Fr.of_below (B := []) hB1).trans f2 (fun x hx => .inr (by simp at hx; omega))).below (by simp) (Nat.le_refl _)) _; clear hT2 f2 hB1)
    | (go_at_call 9; refine hTk.mono ?_; clear hTk; rintro e w3 ⟨rfl, hT3, f3⟩; have hL := left_some hT3 1 (wf_small (by omega) (by omega)) _ _ _ (upd_same _ _ _); have hB3 : Below w.heap.size w w3 := ((Fr.of_below (B := []) hB2).trans f3 (fun x hx => .inr (by simp at hx; omega))).below (by simp) (Nat.le_refl _); clear f3 hB2)
    | (go_at_call 12; refine hL.mono ?_; clear hL; rintro e w4 ⟨rfl, hB4⟩; have hT4 := (hT3.fr (B := []) (Fr.of_below hB4) (by simp) (by simp)).fr (B := []) ((Fr.refl [] w4).alloc (.cells #[.string ⟨#[99, 0]⟩, .string ⟨#[122]⟩] 23)) (by simp) (by simp); have hN := len_any hT4; have hX := close_none hT4 2 (wf_small (by omega) (by omega)) rfl; have hB5 := below_alloc (below_step hB3 hB4) (.cells #[.string ⟨#[99, 0]⟩, .string ⟨#[122]⟩] 23); clear hT3 hT4 hB4 hB3)
    | (go_at_call 17; refine hN.mono ?_; clear hN; rintro e w5 ⟨rfl, hw⟩; obtain rfl := hw.symm)
    | (go_at_call 18; refine hX.mono ?_; clear hX; rintro e w6 ⟨rfl, hB6⟩))
  go_ret
  exact ⟨rfl, below_step hB5 hB6⟩
end Go.Proofs.Ytohipdjoeoaphaa.Cur
