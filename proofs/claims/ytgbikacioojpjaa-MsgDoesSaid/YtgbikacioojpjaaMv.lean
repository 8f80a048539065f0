/- Messages: that the set's 'live' holds. -/
import Derived.Test.YtgbikacioojpjaaMl
import Derived.KernelRfl
import Derived.Test.YtgbikacioojpjaaP8
set_option linter.unusedVariables false
set_option linter.unusedSimpArgs false
namespace Go.Proofs.Ytgbikacioojpjaa.P
open Go.RowKit Go.Proofs.YtgbikacioojpjaaW.PrintWords Go.Proofs.YtgbikacioojpjaaW.PrintLast Go.Proofs.YtgbikacioojpjaaW.PrintMore Go.Proofs.Ytgbikacioojpjaa.Own Go.Proofs.Ytgbikacioojpjaa

theorem lt_mk (a b : Array UInt8) : lt ⟨a⟩ ⟨b⟩ = Op.bytesLess a.toList b.toList := by simp [lt, ba_mk]
theorem emp_mk (a : Array UInt8) : emp ⟨a⟩ = decide (a.toList = []) := by simp [emp, ba_mk]
theorem same_mk (a b : Array UInt8) : same ⟨a⟩ ⟨b⟩ = decide (a.toList = b.toList) := by simp [same, ba_mk]
theorem mxs_lt (a b : ByteArray) : mxs a b = if lt a b = true then b else a := rfl
theorem live_clip : clip 4 0 (⟨#[97]⟩ : ByteArray) (⟨#[122]⟩ : ByteArray) (⟨#[]⟩ : ByteArray) 0 (⟨#[99]⟩ : ByteArray) (⟨#[102]⟩ : ByteArray) = (4, 0, ⟨#[99]⟩, ⟨#[102]⟩, ⟨#[]⟩, 0, true) := by
  have a1 : first (⟨#[122]⟩ : ByteArray) ⟨#[102]⟩ = ⟨#[102]⟩ := by simp [first, before, lt_mk, emp_mk, Op.bytesLess]
  have a2 : mxs (⟨#[97]⟩ : ByteArray) ⟨#[99]⟩ = ⟨#[99]⟩ := by simp [mxs_lt, lt_mk, Op.bytesLess]
  have a3 : meet (⟨#[97]⟩ : ByteArray) ⟨#[122]⟩ ⟨#[99]⟩ ⟨#[102]⟩ = (⟨#[99]⟩, ⟨#[102]⟩, true) := by
    unfold meet
    rw [a1, a2]
    simp [rr, lt_mk, emp_mk, Op.bytesLess]
  unfold clip
  rw [a3]
  simp [isPt]
theorem live_rest : (rest 4 0 (⟨#[97]⟩ : ByteArray) (⟨#[122]⟩ : ByteArray) (⟨#[]⟩ : ByteArray) 0 (⟨#[99]⟩ : ByteArray) (⟨#[102]⟩ : ByteArray)).length = 2 := by
  unfold rest
  rw [live_clip]
  simp [lt_mk, before, emp_mk, Op.bytesLess]
theorem live_on : onV 1 (⟨#[107]⟩ : ByteArray) (⟨#[]⟩ : ByteArray) (⟨#[118]⟩ : ByteArray) 0 (⟨#[107]⟩ : ByteArray) (⟨#[]⟩ : ByteArray) false = (⟨#[118]⟩, true) := by
  simp [onV, touches, isPt, same, applyV]
theorem live_size : msg_Size.f 4 0 (⟨#[97]⟩ : ByteArray) (⟨#[122]⟩ : ByteArray) (⟨#[]⟩ : ByteArray) 0 = some 18 := by kernel_rfl
theorem live_eq (n : Nat) : catchmentlaw04_live.f (n + 39) = some true := by
  unfold catchmentlaw04_live.f
  rw [Clip_eq (n + 20) _ _ _ _ _ _ _ _ (by decide), On_eq (n + 30) _ _ _ _ _ _ _ _ _ (by decide), Rest_eq (n + 10) _ _ _ _ _ _ _ _ (by decide), live_clip, live_on]
  simp only [Option.bind_some, if_true, live_rest, ba_mk]
  rw [live_size]
  simp
end Go.Proofs.Ytgbikacioojpjaa.P
