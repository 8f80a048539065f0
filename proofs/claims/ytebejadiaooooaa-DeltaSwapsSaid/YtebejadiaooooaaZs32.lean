/- Texts of one claim (laid by shake.py). -/
import Derived.Test.YtebejadiaooooaaZs25
import Derived.Test.YtebejadiaooooaaZs1
set_option linter.unusedVariables false
set_option linter.unusedSimpArgs false
section
namespace Go.Proofs.Ytebejadiaooooaa.Sw
open Go.RowKit Go.Shelf Go.Proofs.Ytebejadiaooooaa.Cp Go.Proofs.YtebejadiaooooaaW.PrintWords Go.Proofs.YtebejadiaooooaaW.PrintLast Go.Proofs.YtebejadiaooooaaW.PrintMore Go.Proofs.Ytebejadiaooooaa.Own Go.Proofs.Ytebejadiaooooaa
set_option maxHeartbeats 8000000
set_option maxRecDepth 100000
abbrev Ms := P.S32
theorem zM_M (W : World) (base : Nat) (ok : Nat → Prop) : P.k32.M W base ok (⟨0, 0, P.e0, P.e0, P.e0, 0⟩ : Ms) zM.cells.toList := P.k32_mkM W base ok (⟨0, 0, P.e0, P.e0, P.e0, 0⟩ : Ms)
theorem grow_any (n : Nat) (hn : n ≤ 100000) (w : World) : Calls Try.prog 113 #[.slice none 0 0, .int .i64 (n : Int)] w fun e w' => ∃ v, e = .returned v ∧ Rw w' w.heap.size v [] ∧ Below w.heap.size w w' := by
 have hum := Try.underlying32
 have hB0 := Below.refl w.heap.size w
 have c0 : decide ((n : Int) < 0) = false := decide_eq_false (by omega)
 have hw0 : wrap64 (n : Int) = (n : Int) := IntWalk.wrap64_in _ (by omega)
 by_cases h : n = 0
 ·subst h
  go_enter Try.func113, Try.ntmps113
  go_wp2
  go_ret
  exact ⟨_, rfl, World.ownsRow_nil _ _ _ _, hB0⟩
 ·have c1 : decide ((n : Int) > 0) = true := decide_eq_true (by omega)
  have c2 : decide (0 < (n : Int)) = true := decide_eq_true (by omega)
  go_enter Try.func113, Try.ntmps113
  go_wp2_with (at_builtin; refine Kd.R_append_zeros (w0 := w) P.k32 w.heap.size rfl _ _ 22 3 32 zM 72 rfl Try.underlying22 Try.underlying3 P.info32 rfl (by decide) (by decide) (.slice none 0 0) [] (⟨0, 0, P.e0, P.e0, P.e0, 0⟩ : Ms) (n : Int) (fun _ => True) rfl rfl (zM_M _ _ _) (fun _ _ => trivial) (Kd.R_nil _ _ _ _ _) (by omega) hB0 (Nat.le_refl _) (by simp; omega) ?_; intro v1 w1 hr1 hb1 hg1 hat1; obtain ⟨_, inner, hown, _⟩ := hr1; obtain ⟨g, cap, cur, rfl, hbg, hh, hc, hm2, hs, ht⟩ := hown.2.resolve_left (fun h' => by have := h'.2; simp at this; omega))
  go_ret
  exact ⟨_, rfl, ⟨by simp [flat_nil], .inr ⟨g, cap, cur, rfl, hbg, hh, Nat.zero_le _, hm2, hs, by simp [flat_nil]⟩⟩, hb1⟩
end Go.Proofs.Ytebejadiaooooaa.Sw
end
section
namespace Go.Proofs.Ytebejadiaooooaa.Sw
open Go.RowKit Go.Shelf Go.Proofs.Ytebejadiaooooaa.Cp Go.Proofs.YtebejadiaooooaaW.PrintWords Go.Proofs.YtebejadiaooooaaW.PrintLast Go.Proofs.YtebejadiaooooaaW.PrintMore Go.Proofs.Ytebejadiaooooaa.Own Go.Proofs.Ytebejadiaooooaa
set_option maxHeartbeats 8000000
set_option maxRecDepth 100000
def rdL (ls : List (List Ms)) (i : Int) : List Ms := ls.getD i.toNat []
def tot (ls : List (List Ms)) (i : Int) : List Ms := (ls.take i.toNat).flatten
def szC (ls : List (List Ms)) (i : Int) : Int := ((tot ls i).length : Int)
theorem tot_succ {ls : List (List Ms)} {i : Int} (h0 : 0 ≤ i) (h1 : i < (ls.length : Int)) : tot ls (i + 1) = tot ls i ++ rdL ls i := by
 have e : (i + 1).toNat = i.toNat + 1 := by omega
 have h : i.toNat < ls.length := by omega
 unfold tot rdL
 rw [e, List.take_add_one, List.flatten_append, List.getElem?_eq_getElem h]
 simp [List.getD, List.getElem?_eq_getElem h]
theorem tot_all {ls : List (List Ms)} {i : Int} (h : i = (ls.length : Int)) : tot ls i = ls.flatten := by
 subst h; unfold tot; simp
theorem tot_le (ls : List (List Ms)) (i : Int) : (tot ls i).length ≤ ls.flatten.length := by
 unfold tot
 have h : (ls.take i.toNat).flatten ++ (ls.drop i.toNat).flatten = ls.flatten := by rw [← List.flatten_append, List.take_append_drop]
 rw [← h, List.length_append]; omega
theorem at_R {w : World} {A : Option Addr} {n : Nat} {ls : List (List Ms)} (h : Kd.C (Kd.slice 32 P.k32) w A n ls) (i : Int) (h0 : 0 ≤ i) (h1 : i < n) : ∃ ad A0 c0, A = some ad ∧ w.cell? (ad.add i.toNat) = some (.slice A0 (rdL ls i).length c0) ∧ (rdL ls i).length ≤ c0 ∧ Kd.C P.k32 w A0 (rdL ls i).length (rdL ls i) := by
 obtain ⟨ad, c, e, _, hK, hc0⟩ := Kd.C_get h ([] : List Ms) i h0 h1
 have hc : ∀ j u, c[j]? = some u → w.cell? (ad.add (i.toNat * 1 + j)) = some u := hc0
 obtain ⟨A0, c0, rfl, l0, g0⟩ := hK
 exact ⟨ad, A0, c0, e, by have hq := hc 0 _ rfl; rwa [Nat.mul_one, Nat.add_zero] at hq, l0, g0⟩
theorem step_facts {ls : List (List Ms)} {i : Int} (h0 : 0 ≤ i) (h1 : i < (ls.length : Int)) (hm : ls.flatten.length ≤ 20000) (hn : ls.length ≤ 1000) : wrap64 (szC ls i + ((rdL ls i).length : Int)) = szC ls (i + 1) ∧ decide (szC ls (i + 1) < 0) = false ∧ wrap64 (i + 1) = i + 1 := by
 have e : szC ls (i + 1) = szC ls i + ((rdL ls i).length : Int) := by
  unfold szC; rw [tot_succ h0 h1, List.length_append]; omega
 have b := tot_le ls (i + 1)
 have b0 : szC ls (i + 1) = ((tot ls (i + 1)).length : Int) := rfl
 have b1 : 0 ≤ szC ls (i + 1) ∧ szC ls (i + 1) ≤ 20000 := by omega
 refine ⟨?_, decide_eq_false (by omega), IntWalk.wrap64_in _ (by omega)⟩
 rw [← e]; exact IntWalk.wrap64_in _ (by omega)
theorem concat_rows {w : World} {A0 : Option Addr} {c0 : Nat} {ls : List (List Ms)} (hA : Kd.C (Kd.slice 32 P.k32) w A0 ls.length ls) (hc : ls.length ≤ c0) (hn : ls.length ≤ 1000) (hm : ls.flatten.length ≤ 20000) :
  Calls Try.prog 84 #[.slice A0 ls.length c0] w fun e w' => ∃ v, e = .returned v ∧ Kd.R P.k32 32 w' w.heap.size (fun _ => True) v ls.flatten ∧ Below w.heap.size w w' := by
 have hB0 := Below.refl w.heap.size w
 have hAA := Aside0.mk hA
 have hLM := Aside0.mk hm
 have hLN := Aside0.mk hn
 obtain ⟨N, hN⟩ : ∃ N : Nat, N = ls.flatten.length := ⟨_, rfl⟩
 have hN2 : N ≤ 20000 := hN ▸ hm
 have GA := grow_any N (by omega)
 have e3 : decide ((N : Int) < 0) = false := decide_eq_false (by omega)
 have hNN := Aside0.mk hN
 clear hN hN2
 have s0 : szC ls 0 = 0 := rfl
 have hS0 := Aside0.mk s0
 have hL : ∀ i, (tot ls i).length = (tot ls i).length := fun _ => rfl
 clear hA hn hm hc s0 hL
 go_enter Try.func84, Try.ntmps84
 go_wp2
 go_loopg [3, 11] ls.length (fun n sv iv wr => ∃ i : Int, iv = .int .i64 i ∧ sv = .int .i64 (szC ls i) ∧ Aside0 (0 ≤ i ∧ i.toNat + n = ls.length) ∧ Aside0 (Below w.heap.size w wr))
 case atStart => exact ⟨0, rfl, by rw [hS0.out], ⟨Int.le_refl _, by simp⟩, ⟨hB0⟩⟩
 case round =>
  clear hB0
  obtain ⟨i, rfl, rfl, hI, hBr⟩ := hrel
  cases gk with
  | zero =>
   have hi : i = (ls.length : Int) := by have := hI.out; omega
   have c1 : decide (i < (ls.length : Int)) = false := decide_eq_false (by omega)
   have e2 : szC ls i = (N : Int) := by unfold szC; rw [tot_all hi, hNN.out]
   rw [e2]
   clear e2 hI hi
   go_wp2_with (go_at_call 113; refine (GA _).mono ?_; clear GA; rintro e w3 ⟨v3, rfl, hr3, hb3⟩)
   have hR3 := R_of_Rw hr3
   have hR4 : Aside0 (Kd.R P.k32 32 w3 w.heap.size (fun _ => True) v3 (tot ls 0)) := ⟨Kd.R_lower hR3 hBr.out.size⟩
   have hB3 := Aside0.mk (below_step hBr.out hb3)
   clear hR3 hr3 hb3 hBr c1
   go_loopg [6, 27] ls.length (fun n v iv wr2 => ∃ j : Int, iv = .int .i64 j ∧ Aside0 (0 ≤ j ∧ j.toNat + n = ls.length) ∧ Aside0 (Kd.R P.k32 32 wr2 w.heap.size (fun _ => True) v (tot ls j)) ∧ Aside0 (Below w.heap.size w wr2))
   case atStart => exact ⟨0, rfl, ⟨Int.le_refl _, by simp⟩, hR4, hB3⟩
   case round =>
    clear hR4 hB3
    obtain ⟨j, rfl, hJ, hR, hBj⟩ := hrel
    cases gk with
    | zero =>
     have hj : j = (ls.length : Int) := by have := hJ.out; omega
     have c1 : decide (j < (ls.length : Int)) = false := decide_eq_false (by omega)
     have hR2 := hR.out
     rw [tot_all hj] at hR2
     have hR5 := Aside0.mk hR2
     clear hJ hj hR hR2
     go_wp2
     go_ret
     exact ⟨_, rfl, hR5.out, hBj.out⟩
    | succ n =>
     have j0 : 0 ≤ j := hJ.out.1
     have j1 : j < (ls.length : Int) := by have := hJ.out; omega
     obtain ⟨ad, A1, d1, e1, hx, hd, hC⟩ := at_R hAA.out j j0 j1
     cases e1
     replace hx := (hBj.out.cell (World.block_lt_of_cell? w _ hx)).trans hx
     obtain ⟨-, -, hwi⟩ := step_facts j0 j1 hLM.out hLN.out
     have hlen : ((tot ls j).length + (rdL ls j).length) * 72 ≤ 140737488355328 := by
      have := tot_le ls (j + 1); rw [tot_succ j0 j1, List.length_append] at this
      have := hLM.out; clear hwi; omega
     have hTS := Aside0.mk (tot_succ j0 j1)
     have hLE := Aside0.mk hlen
     have hDD := Aside0.mk hd
     have hCC := Aside0.mk hC
     have c1 : decide (j < (ls.length : Int)) = true := decide_eq_true j1
     have c0' : decide (0 ≤ j) = true := decide_eq_true j0
     replace j0 := eq_true j0
     replace j1 := eq_true j1
     clear hlen hC hd
     go_wp2_with (at_builtin; refine Kd.R_append_rows P.k32 (w0 := w) w.heap.size rfl _ _ 22 32 zM 72 rfl Try.underlying22 P.info32 rfl (by decide) (by decide) _ (tot ls j) (rdL ls j) _ _ _ (fun _ => True) (fun _ => False) rfl rfl hR.out (Kd.C_below hCC.out hBj.out) (fun _ _ h => h) (fun _ h => h.elim) (fun _ _ => trivial) hBj.out hBj.out.size hLE.out ?_; intro v4 w4 hr4 hb4 hg4 hat4)
     go_roundg n
     case measure => have := hJ.out; clear hwi; omega
     case rel => exact ⟨j + 1, congrArg (Value.int .i64) hwi, ⟨by have := hJ.out; clear hwi; omega, by have := hJ.out; clear hwi; omega⟩, ⟨by rw [hTS.out]; exact hr4⟩, ⟨hb4⟩⟩
  | succ n =>
   clear GA
   have j0 : 0 ≤ i := hI.out.1
   have j1 : i < (ls.length : Int) := by have := hI.out; omega
   obtain ⟨ad, A1, d1, e1, hx, hd, hC⟩ := at_R hAA.out i j0 j1
   cases e1
   replace hx := (hBr.out.cell (World.block_lt_of_cell? w _ hx)).trans hx
   obtain ⟨hw1, hw2, hwi⟩ := step_facts j0 j1 hLM.out hLN.out
   have c1 : decide (i < (ls.length : Int)) = true := decide_eq_true j1
   have c0' : decide (0 ≤ i) = true := decide_eq_true j0
   replace j0 := eq_true j0
   replace j1 := eq_true j1
   clear hC hd
   go_wp2
   go_roundg n
   case measure => have := hI.out; clear hwi hw1 hw2; omega
   case rel => exact ⟨i + 1, congrArg (Value.int .i64) hwi, congrArg (Value.int .i64) hw1, ⟨by have := hI.out; clear hwi hw1 hw2; omega, by have := hI.out; clear hwi hw1 hw2; omega⟩, hBr⟩
end Go.Proofs.Ytebejadiaooooaa.Sw
end
section
namespace Go.Proofs.Ytebejadiaooooaa.Sw
open Go.RowKit Go.Proofs.Ytebejadiaooooaa.Cp Go.Proofs.YtebejadiaooooaaW.PrintWords Go.Proofs.YtebejadiaooooaaW.PrintLast Go.Proofs.YtebejadiaooooaaW.PrintMore Go.Proofs.Ytebejadiaooooaa.Own Go.Proofs.Ytebejadiaooooaa
def concatF (ls : List (List Ms)) : Option (List Ms) := if ls.length ≤ 1000 ∧ ls.flatten.length ≤ 20000 then some ls.flatten else none
theorem concatF_calls {w : World} {A0 : Option Addr} {c0 : Nat} {l0 : List (List Ms)} {r : List Ms} (hr0 : Kd.C (Kd.slice 32 P.k32) w A0 l0.length l0) (hc0 : l0.length ≤ c0) (h : concatF l0 = some r) :
  Calls Try.prog 84 #[.slice A0 l0.length c0] w fun e w' => ∃ v0_ : Value, e = .returned (v0_) ∧ Kd.R P.k32 32 w' w.heap.size (fun _ => True) v0_ r ∧ Below w.heap.size w w' := by
 unfold concatF at h
 split at h
 ·rename_i hk
  have := Option.some.inj h
  subst this
  exact concat_rows hr0 hc0 hk.1 hk.2
 ·cases h
end Go.Proofs.Ytebejadiaooooaa.Sw
end
