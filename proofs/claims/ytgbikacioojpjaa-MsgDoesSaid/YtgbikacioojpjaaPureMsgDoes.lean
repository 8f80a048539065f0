/- The plain law of MsgDoes: how many bytes a message counts, what it touches, and what becomes of values: the Lean function of the same text answers true at every message, key, value. -/
import Derived.Test.YtgbikacioojpjaaMv
import Derived.Test.YtgbikacioojpjaaP9
import Derived.Test.YtgbikacioojpjaaKd
namespace Go.Proofs.Ytgbikacioojpjaa.Pure
open Go.RowKit Go.Proofs.Ytgbikacioojpjaa.P Go.Proofs.YtgbikacioojpjaaW.PrintWords Go.Proofs.YtgbikacioojpjaaW.PrintLast Go.Proofs.YtgbikacioojpjaaW.PrintMore
theorem wf_u64 {x : Int} (h : (Lit.int .u64 x).wf = true) : 0 ≤ x ∧ x < 18446744073709551616 := by
  simp [Lit.wf, IntKind.min, IntKind.max, IntKind.signed, IntKind.bits] at h
  omega
theorem apply_touched {k : Int} {y t vv : ByteArray} {d : Int} {s v : ByteArray} {is : Bool} (h : touches k y t s = true) : onV k y t vv d s v is = applyV k vv d v is := by
  unfold onV; rw [if_pos h]
theorem apply_not {k : Int} {y t vv : ByteArray} {d : Int} {s v : ByteArray} {is : Bool} (h : touches k y t s = false) : onV k y t vv d s v is = applyV 0 e0 0 v is := by
  unfold onV applyV; simp [h]

theorem MsgDoes : ∀ (x0 : S25) (x1 : ByteArray) (x2 : ByteArray) (x3 : Bool), (wf25 x0) → (x1.size ≤ 140737488351232) → (x2.size ≤ 140737488351232) → ∃ k, catchmentlaw04_MsgDoes.f k x0.f0 x0.f1 x0.f2 x0.f3 x0.f4 x0.f5 x1 x2 x3 = some true := by
  intro m s v is hm _ _
  obtain ⟨_, _, hy, ht, hv, hd⟩ := hm
  have hd := wf_u64 hd
  refine ⟨50, ?_⟩
  unfold catchmentlaw04_MsgDoes.f
  rw [On_eq 41 _ _ _ _ _ _ _ _ _ hy, ref04_On_eq 40 _ _ _ _ _ _ _ _ _ hd.1 hd.2, IsPoint_eq, Point_eq, Span_eq _ _ _ _ _ _ hy, ref04_Span_eq _ _ _ _ _ _ hy, Touches_eq _ _ _ _ _ _ _ hy, ref04_Touches_eq, size_eq]
  simp only [Option.bind_some, bne_self_eq_false, Bool.false_eq_true, if_false, if_true, beq_self_eq_true, Bool.not_true, Bool.or_self]
  obtain ⟨z, hz⟩ : ∃ z, catchmentref04_Size.f m.f0 m.f1 m.f2 m.f3 m.f4 m.f5 = some z := ⟨_, rfl⟩
  rw [hz]
  simp only [Option.bind_some, if_true]
  simp only [catchmentlaw04_MsgDoes.j0, Bool.false_eq_true, if_false]
  rw [Apply_eq 40, Apply_eq 40, ref04_Touches_eq, live_eq 10]
  simp only [Option.bind_some, if_true]
  cases ht : touches m.f0 m.f2 m.f3 s
  · rw [apply_not ht]
    simp
  · rw [apply_touched ht]
    simp
end Go.Proofs.Ytgbikacioojpjaa.Pure
