/- THE ROW of RoomRises: for every input the call returns true, and each argument reads afterwards as it read before: no condition beyond the row's own. Out of the walk (module YthofdhodgipifaaRr) and the plain law (module YthofdhodgipifaaPureRoomRises). (Turned from the text that rowgen.py lays, for parameters that are arrays.) -/
import Derived.Test.YthofdhodgipifaaRows
import Derived.Test.YthofdhodgipifaaKd
import Derived.Test.YthofdhodgipifaaPureRoomRises
import Derived.WalkKit
import Derived.ProofKit
import Derived.OpenShut
import Derived.ShutString
import Derived.ChangeOld
import Derived.Below
import Derived.SizedLaws
namespace Go.Proofs.Ythofdhodgipifaa.roomRises
open Go.ChangeShapes Go.WideShapes Go.ChangeAt Go.RowKit Go.Proofs.Ythofdhodgipifaa.P Go.Proofs.Ythofdhodgipifaa.Rd Go.Proofs.YthofdhodgipifaaW.PrintWords
open Go.ChangeMaps (open_string shut_string)
set_option linter.unusedVariables false
theorem own : ownKnob Try.prog.godebug = none := by kernel_rfl
theorem laidOut : laidOutB Try.prog = true := by kernel_rfl
theorem okWide_array {P : Program} {w : World} {r : Reach} {base n : Nat} {e t : TypeId} {v : Value} (ht : P.underlying t = some (.array n e)) (h : Value.okWide P w r base t v) : ∃ cs : Array Value, v = .agg cs := by
  simp only [Value.okWide, ht] at h
  obtain ⟨cs, h1, _⟩ := h
  exact ⟨cs, h1⟩
/-- An array of four numbers, read. -/
theorem open4 {H : Type} {enc : TypeId × Value → H} {P : Program} {w : World} {base : Nat} {spare : Nat → Bool} {held : Bool} {fuel : Nat} {t e : TypeId} {k : IntKind} {cs : List Value} {x : DataW H × List MemPlace}
    (ht : P.underlying t = some (.array 4 e)) (hc : P.cellsOf t = 4) (he : P.underlying e = some (.int k)) (hce : P.cellsOf e = 1) (h : DataW.trod enc P w base spare held fuel t cs = some x) :
    ∃ a b c d : Int, cs = [.int k a, .int k b, .int k c, .int k d] ∧ (Lit.int k a).wf = true ∧ (Lit.int k b).wf = true ∧ (Lit.int k c).wf = true ∧ (Lit.int k d).wf = true := by
  obtain ⟨xs, m, _, _, hl, hx, hf⟩ := DataW.trod_array ht h
  rw [hc] at hl
  rw [hce] at hf
  match cs, hl with
  | [v0, v1, v2, v3], _ =>
    match xs, hx with
    | [y0, y1, y2, y3], _ =>
      obtain ⟨a, ea, _, wa⟩ := DataW.trod_int he (hf 0 (by omega))
      obtain ⟨b, eb, _, wb⟩ := DataW.trod_int he (hf 1 (by omega))
      obtain ⟨c, ec, _, wc⟩ := DataW.trod_int he (hf 2 (by omega))
      obtain ⟨d, ed, _, wd⟩ := DataW.trod_int he (hf 3 (by omega))
      simp at ea eb ec ed
      subst ea eb ec ed
      exact ⟨a, b, c, d, rfl, wa, wb, wc, wd⟩
set_option maxHeartbeats 2000000 in
set_option maxRecDepth 100000 in
theorem lifted (os : Os) (started : os.Started) (H : Type) (enc : TypeId × Value → H) :
    ReturnsInHanded {} Try.checked os 5 .any (Rows.roomRisesSpec.pre6 enc Try.prog Try.f5 Rows.roomRisesRow.domain false) (Rows.roomRisesSpec.post enc Try.prog Try.f5 false true false false) := by
  refine returnsInHanded_of_change_sized (C := Try.checked) own started (by kernel_rfl) Try.func5
    (ChangeSpec.witness6 (enc := enc) (C := Try.checked) false ⟨#[], #[.agg #[.int .i64 0, .int .i64 0, .int .i64 0, .int .i64 0, .int .i64 0, .int .i64 0, .int .i64 0, .int .i64 0, .int .i64 0], .agg #[.int .i64 0, .int .i64 0, .int .i64 0, .int .i64 0], .agg #[.int .u16 0, .int .u16 0, .int .u16 0, .int .u16 0]], []⟩ 8 (by kernel_rfl) (by kernel_rfl) (by kernel_rfl) (by kernel_rfl)) ?_
  intro W base args ds gs before hval0 hW hcnd hsz0 _
  have hsz : (DataW.weightsEach Try.prog (Try.f5.params.toList ++ Rows.roomRisesSpec.plain.varTypes Try.prog) (ds ++ gs)).all (· ≤ reachBytes) = true := hsz0
  have hval : ∀ (j : Nat) t v, Try.f5.params[j]? = some t → args[j]? = some v → Value.okWide Try.prog W .any base t v := hval0
  have hW' := hW
  obtain ⟨p, q, hA0, hV, rfl, hfz, hnd⟩ := hW
  have hA : DataW.TrodAll enc Try.prog W 0 (fun _ => true) true Try.f5.params.toList args.toList ds p := hA0
  rw [Try.params5] at hA hval hsz
  obtain ⟨v0, vs0, d0, ds0, p0, q0, hargs, rfl, rfl, h0, r0⟩ := trodAll_cons hA
  obtain ⟨v1, vs1, d1, ds1, p1, q1, rfl, rfl, rfl, h1, r1⟩ := trodAll_cons r0
  obtain ⟨v2, vs2, d2, ds2, p2, q2, rfl, rfl, rfl, h2, r2⟩ := trodAll_cons r1
  obtain ⟨rfl, rfl, rfl⟩ := trodAll_nil r2
  obtain rfl : args = #[v0, v1, v2] := by cases args; simp_all
  obtain ⟨rfl, rfl⟩ := trodVars_none hV
  have k0 := h0
  have lt0 : ∀ x ∈ p0, x.block < W.heap.size := by obtain ⟨m, hm⟩ := k0; exact DataW.trod_lt m _ _ _ hm
  have ww0 : ∀ n ∈ d0.weights Try.prog 23, n ≤ reachBytes := fun n hn => by simpa using List.all_eq_true.1 hsz n (DataW.weights_mem_each (j := 0) rfl rfl n hn)
  obtain ⟨cs0, rfl, _⟩ := okWide_struct Try.underlying23 (hval 0 23 v0 rfl rfl)
  obtain ⟨fu0, hf0⟩ := h0
  obtain ⟨x0, kx0, w0⟩ := o23.down hf0 ww0
  have e0 := k23_open kx0
  obtain rfl : cs0 = #[.int .i64 x0.f0, .int .i64 x0.f1, .int .i64 x0.f2, .int .i64 x0.f3, .int .i64 x0.f4, .int .i64 x0.f5, .int .i64 x0.f6, .int .i64 x0.f7, .int .i64 x0.f8] := Array.toList_inj.1 (show cs0.toList = (#[.int .i64 x0.f0, .int .i64 x0.f1, .int .i64 x0.f2, .int .i64 x0.f3, .int .i64 x0.f4, .int .i64 x0.f5, .int .i64 x0.f6, .int .i64 x0.f7, .int .i64 x0.f8] : Array Value).toList from e0)
  have k1 := h1
  have lt1 : ∀ x ∈ p1, x.block < W.heap.size := by obtain ⟨m, hm⟩ := k1; exact DataW.trod_lt m _ _ _ hm
  obtain ⟨cs1, rfl⟩ := okWide_array Try.underlying34 (hval 1 34 v1 rfl rfl)
  obtain ⟨fu1, hf1⟩ := h1
  obtain ⟨l0, l1, l2, l3, e1, wl0, wl1, wl2, wl3⟩ := open4 Try.underlying34 (by kernel_rfl) Try.underlying3 (by kernel_rfl) hf1
  obtain rfl : cs1 = #[.int .i64 l0, .int .i64 l1, .int .i64 l2, .int .i64 l3] := Array.toList_inj.1 (show cs1.toList = (#[.int .i64 l0, .int .i64 l1, .int .i64 l2, .int .i64 l3] : Array Value).toList from e1)
  have k2 := h2
  have lt2 : ∀ x ∈ p2, x.block < W.heap.size := by obtain ⟨m, hm⟩ := k2; exact DataW.trod_lt m _ _ _ hm
  obtain ⟨cs2, rfl⟩ := okWide_array Try.underlying36 (hval 2 36 v2 rfl rfl)
  obtain ⟨fu2, hf2⟩ := h2
  obtain ⟨m0, m1, m2, m3, e2, wm0, wm1, wm2, wm3⟩ := open4 Try.underlying36 (by kernel_rfl) Try.underlying35 (by kernel_rfl) hf2
  obtain rfl : cs2 = #[.int .u16 m0, .int .u16 m1, .int .u16 m2, .int .u16 m3] := Array.toList_inj.1 (show cs2.toList = (#[.int .u16 m0, .int .u16 m1, .int .u16 m2, .int .u16 m3] : Array Value).toList from e2)
  clear hA0 hval0 hsz0 hsz
  have w4 := Pure.wf_i64 w0.2.2.2.2.1
  refine (Pure.RoomRises_calls (w := W) (c0 := x0.f0) (c1 := x0.f1) (c2 := x0.f2) (c3 := x0.f3) (c4 := x0.f4) (c5 := x0.f5) (c6 := x0.f6) (c7 := x0.f7) (c8 := x0.f8) (Pure.wf_u16 wm0) (Pure.wf_u16 wm1) (Pure.wf_u16 wm2) (Pure.wf_u16 wm3) w4 (Pure.wf_i64 wl0).1 (Pure.wf_i64 wl1).1 (Pure.wf_i64 wl2).1 (Pure.wf_i64 wl3).1).mono fun e W' ⟨he, bel0⟩ => ?_
  have bel : Below W.heap.size W W' := bel0
  subst he
  exact ⟨_, rfl, _, _, _, [], _, [], hW', trodAll_mk1 (shut_bool Try.underlying4 _), (trodAll_cons_mk (Below.trod laidOut (by kernel_rfl) (of_decide_eq_true (by kernel_rfl)) k0 bel lt0) (trodAll_cons_mk (Below.trod laidOut (by kernel_rfl) (of_decide_eq_true (by kernel_rfl)) k1 bel lt1) (trodAll_cons_mk (Below.trod laidOut (by kernel_rfl) (of_decide_eq_true (by kernel_rfl)) k2 bel lt2) trodAll_mk0))), rfl, bel.frame _, fun h => by cases h⟩
theorem over : Rows.roomRisesRow.holds Try.pinned (OpenSpec.ofChange Rows.roomRisesSpec) :=
  OpenClaim.holds_of_wide 5 Try.f5 rfl rfl rfl rfl rfl rfl rfl ⟨rfl, rfl, rfl, rfl, rfl⟩ rfl rfl rfl rfl rfl (by kernel_rfl) Try.func5 (by kernel_rfl)
    (of_decide_eq_true (by kernel_rfl)) (by unfold Func.isWrapper; first | (rw [if_pos (by decide +kernel)]; kernel_rfl) | (rw [if_neg (by decide +kernel)]; exact ⟨rfl, rfl⟩))
    (fun os started H enc _ => lifted os started H enc)
end Go.Proofs.Ythofdhodgipifaa.roomRises
namespace Go.Proofs.Ythofdhodgipifaa
/-- The row, under a short name, for the claim. -/
theorem roomRises_holds : Rows.RoomRisesSaid := roomRises.over
#print axioms roomRises_holds
end Go.Proofs.Ythofdhodgipifaa
