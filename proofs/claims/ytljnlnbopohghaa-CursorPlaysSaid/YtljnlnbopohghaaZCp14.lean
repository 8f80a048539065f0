/- THE ROW of CursorPlays: for every input the call returns true, and each argument reads afterwards as it read before: no condition beyond the row's own. Out of the walk (its contract over the Lean function of the same text) and the plain law (module YtljnlnbopohghaaPureCursorPlays). (Laid by rowgen.py.) -/
/- Texts of one claim (laid by shake.py). -/
import Derived.Test.YtljnlnbopohghaaZCp13
import Derived.Test.YtljnlnbopohghaaZCp11
import Derived.Test.YtljnlnbopohghaaRows
import Derived.WalkKit
import Derived.ProofKit
import Derived.OpenShut
import Derived.ShutString
import Derived.ChangeOld
import Derived.Below
import Derived.SizedLaws
set_option linter.unusedVariables false
set_option linter.unusedSimpArgs false
section
namespace Go.Proofs.Ytljnlnbopohghaa.Mdl
open Go.RowKit Go.Shelf Go.Proofs.YtljnlnbopohghaaW.PrintWords Go.Proofs.YtljnlnbopohghaaW.PrintLast Go.Proofs.YtljnlnbopohghaaW.PrintMore Go.Proofs.Ytljnlnbopohghaa.Own Go.Proofs.Ytljnlnbopohghaa.Ord Go.Proofs.Ytljnlnbopohghaa Go.Proofs.Ytljnlnbopohghaa.P
open Go.Proofs.Ytljnlnbopohghaa.Cur (upd tookV now rrB)
set_option maxRecDepth 100000
set_option maxHeartbeats 4000000
theorem at_D27 {w : World} {A : Option Addr} {n : Nat} {xs : List Dd27} (h : Kd.C P.k32 w A n xs) (i : Int) (h0 : 0 ≤ i) (h1 : i < n) : ∃ ad, ∃ x : Dd27, ∃ A5 c5, A = some ad ∧ xs[i.toNat]? = some x ∧ (w.cell? (ad.add (i.toNat * 6)) = some (.int .i64 x.f0) ∧
  w.cell? ⟨(ad.add (i.toNat * 6)).block, (ad.add (i.toNat * 6)).off + 1, none⟩ = some (.int .i64 x.f1) ∧ w.cell? ⟨(ad.add (i.toNat * 6)).block, (ad.add (i.toNat * 6)).off + 2, none⟩ = some (.int .i64 x.f2) ∧ w.cell? ⟨(ad.add (i.toNat * 6)).block, (ad.add (i.toNat * 6)).off + 3, none⟩ = some (.string x.f3.f0) ∧
  w.cell? ⟨(ad.add (i.toNat * 6)).block, (ad.add (i.toNat * 6)).off + 4, none⟩ = some (.string x.f3.f1) ∧ w.cell? ⟨(ad.add (i.toNat * 6)).block, (ad.add (i.toNat * 6)).off + 5, none⟩ = some (.slice A5 x.f4.length c5)) ∧ x.f4.length ≤ c5 ∧ Kd.C P.k103 w A5 x.f4.length x.f4 := by
 obtain ⟨ad, c, e, _, hK, hc0⟩ := Kd.C_get h P.z32 i h0 h1
 have hc : ∀ j u, c[j]? = some u → w.cell? (ad.add (i.toNat * 6 + j)) = some u := hc0
 obtain ⟨A5, c5, rfl, q, r⟩ := P.k32_open hK
 have hl := h.1
 refine ⟨ad, _, A5, c5, e, ?_, ⟨hc 0 _ rfl, by rw [← add_field _ _ 1 (by omega)]; exact hc 1 _ rfl, by rw [← add_field _ _ 2 (by omega)]; exact hc 2 _ rfl, by rw [← add_field _ _ 3 (by omega)]; exact hc 3 _ rfl, by rw [← add_field _ _ 4 (by omega)]; exact hc 4 _ rfl, by rw [← add_field _ _ 5 (by omega)]; exact hc 5 _ rfl⟩, q, r⟩
 rw [List.getD_eq_getElem?_getD, List.getElem?_eq_getElem (by omega)]
 rfl
theorem cell_b27 {w W : World} (hb : Below w.heap.size w W) {a : Addr} {v : Value} (h : w.cell? a = some v) : W.cell? a = some v := (World.cell?_of_block (hb.block a.block (World.block_lt_of_cell? w a h))).trans h
theorem new_ex27 (w : World) : Calls Try.prog 10 #[] w fun e w' => ∃ p b, e = .returned (.pointer (some ⟨p, 0, none⟩)) ∧ w.heap.size ≤ p ∧ w.heap.size ≤ b ∧ Cur.Tb w' p b 0 0 (fun _ => none) 0 ∧ Below w.heap.size w w' :=
 (Cur.new_any w).mono fun e w' q => ⟨_, _, q.1, by omega, by omega, q.2.1, q.2.2⟩
def St27 (w0 : World) (p b : Nat) (i : Int) (cs : List Cu) (A : Option Addr) (cp : Nat) (w : World) : Prop := ∃ m, Sx (fun k => k ≠ p ∧ k ≠ b) w p b m cs A cp ∧ cs.length ≤ i.toNat ∧ m ≤ i.toNat ∧ Below w0.heap.size w0 w ∧ w0.heap.size ≤ p ∧ w0.heap.size ≤ b
theorem fr_old {w0 w w' : World} {p b : Nat} (h : Below w0.heap.size w0 w) (hp : w0.heap.size ≤ p) (hb : w0.heap.size ≤ b) (f : Fr [p, b] w w') : Below w0.heap.size w0 w' :=
 ⟨f.os.trans h.os, f.tape.trans h.tape, f.output.trans h.output, Nat.le_trans h.size f.size, fun k hk => (f.block k (Nat.lt_of_lt_of_le hk h.size) (by simp; omega)).trans (h.block k hk)⟩
theorem St27.below {w0 w w' : World} {p b : Nat} {i : Int} {cs : List Cu} {A : Option Addr} {cp : Nat} (h : St27 w0 p b i cs A cp w) (hb : Below w.heap.size w w') : St27 w0 p b i cs A cp w' := by
 obtain ⟨m, h1, h2, h3, h4, h5, h6⟩ := h
 exact ⟨m, h1.fr (B := []) (Fr.of_below hb) (by simp) (by simp) (by simp), h2, h3, below_then h4 h4.size hb, h5, h6⟩
theorem St27.old {w0 w : World} {p b : Nat} {i : Int} {cs : List Cu} {A : Option Addr} {cp : Nat} (h : St27 w0 p b i cs A cp w) : Below w0.heap.size w0 w := by
 obtain ⟨m, h1, h2, h3, h4, h5, h6⟩ := h
 exact h4
theorem St27.step {w0 w : World} {p b : Nat} {i : Int} {cs : List Cu} {A : Option Addr} {cp : Nat} (h : St27 w0 p b i cs A cp w) (hi0 : 0 ≤ i) (hi : i ≤ 1000) (d : Dd27) (hd : okd27 d = true) {A5 : Option Addr} {c5 : Nat} (hC : Kd.C P.k103 w0 A5 d.f4.length d.f4) (hc5 : d.f4.length ≤ c5) :
  Calls Try.prog 11 #[.pointer (some ⟨p, 0, none⟩), .slice A cs.length cp, .agg #[.int .i64 d.f0, .int .i64 d.f1, .int .i64 d.f2, .string d.f3.f0, .string d.f3.f1, .slice A5 d.f4.length c5]] w fun e w' => ∃ B cp', e = .returned (.tuple #[.slice B (stepC cs d).length cp', .bool true]) ∧ St27 w0 p b (i + 1) (stepC cs d) B cp' w' := by
 obtain ⟨m, h1, h2, h3, h4, h5, h6⟩ := h
 have hpl := blk_lt h1.tb.blk
 have hbl := h1.tb.map.lt
 refine (step_any h1 (fun k hk => hk) (fun k hk => ⟨by omega, by omega⟩) (by omega) (by omega) d hd A5 c5 (fun W hW => ?_) hc5).mono ?_
 ·rcases hW with q | q
  ·exact Kd.C_below hC (below_then h4 h4.size q)
  exact Kd.C_below hC (fr_old h4 h5 h6 q)
 rintro e w' ⟨B, cp', m', rfl, e1, e2, e3⟩
 have := stepC_len cs d
 exact ⟨B, cp', rfl, m', e1, by omega, by omega, fr_old h4 h5 h6 e3, h5, h6⟩
theorem St27.alike {w0 w : World} {p b : Nat} {i : Int} {cs : List Cu} {A : Option Addr} {cp : Nat} (h : St27 w0 p b i cs A cp w) (hi : i ≤ 1000) :
  Calls Try.prog 12 #[.pointer (some ⟨p, 0, none⟩), .slice A cs.length cp] w fun e w' => e = .returned (.bool true) ∧ St27 w0 p b i cs A cp w' := by
 have h' := h
 obtain ⟨m, h1, h2, h3, h4, h5, h6⟩ := h
 refine (alike27 h1.tb h1.row (by omega)).mono ?_
 rintro e w' ⟨rfl, hb_⟩
 exact ⟨rfl, h'.below hb_⟩
theorem St27.start {w w1 : World} {p b : Nat} (hp : w.heap.size ≤ p) (hb : w.heap.size ≤ b) (hT : Cur.Tb w1 p b 0 0 (fun _ => none) 0) (hB : Below w.heap.size w w1) : St27 w p b 0 [] none 0 w1 :=
 ⟨0, ⟨by rw [tabF_nil]; exact hT, Kd.V_nil _ _ _ _ _⟩, Nat.le_refl _, Nat.le_refl _, hB, hp, hb⟩
theorem plays27 {w : World} {A : Option Addr} {cap : Nat} {l : List Dd27} (hC : Kd.C P.k32 w A l.length l) (hcap : l.length ≤ cap) (hwf : ∀ d ∈ l, okd27 d = true) :
  Calls Try.prog 3 #[.slice A l.length cap] w fun e w' => e = .returned (.bool true) ∧ Below w.heap.size w w' := by
 have hud := Try.underlying32
 have NW := new_ex27 w
 have hA0 := aK_ (And.intro hC hwf)
 clear hC hwf
 go_enter Try.func3, Try.ntmps3
 go_wp2_with (go_at_call 10; refine NW.mono ?_; clear NW; rintro e w1 ⟨p, b, rfl, hp, hb, hT1, hB1⟩; have hS : Aside0 (St27 w p b 0 [] none 0 w1) := ⟨St27.start hp hb hT1 hB1⟩; clear hp hb hT1 hB1)
 go_loopg [4, 5] 60 (fun g xv iv wr => ∃ (i : Int) (cs : List Cu) (B : Option Addr) (cp : Nat), xv = .slice B cs.length cp ∧ iv = .int .i64 i ∧ Aside0 (0 ≤ i ∧ i.toNat + g = 60) ∧ Aside0 (St27 w p b i cs B cp wr))
 case atStart => exact ⟨0, [], none, 0, rfl, rfl, ⟨Int.le_refl _, rfl⟩, hS⟩
 clear hS
 obtain ⟨i, cs, B, cp, rfl, rfl, hiA, hS⟩ := hrel
 obtain ⟨hi0, hig⟩ := hiA.out
 by_cases hA : i < l.length
 ·by_cases hB6 : i < 60
  ·cases gk with
   | zero => omega
   | succ g => ?_
   obtain ⟨ad, d, A5, c5, rfl, hdj, hcs, hc5, hC5⟩ := at_D27 hA0.out.1 i hi0 hA
   have hwd := hA0.out.2 d (List.mem_of_getElem? hdj)
   have hold := hS.out.old
   obtain ⟨q0, q1, q2, q3, q4, q5⟩ := hcs
   replace q0 := cell_b27 hold q0
   replace q1 := cell_b27 hold q1
   replace q2 := cell_b27 hold q2
   replace q3 := cell_b27 hold q3
   replace q4 := cell_b27 hold q4
   replace q5 := cell_b27 hold q5
   have SP := (hS.out.step hi0 (by omega) d hwd hC5 hc5).mono (R' := fun e w2 => ∃ B' cp', e = .returned (.tuple #[.slice B' (stepC cs d).length cp', .bool true]) ∧ Calls Try.prog 12 #[.pointer (some ⟨p, 0, none⟩), .slice B' (stepC cs d).length cp'] w2 fun e w3 => e = .returned (.bool true) ∧ Aside0 (St27 w p b (i + 1) (stepC cs d) B' cp' w3)) (by
    rintro e w2 ⟨B', cp', rfl, h2⟩
    refine ⟨B', cp', rfl, (h2.alike (by omega)).mono ?_⟩
    rintro e w3 ⟨rfl, h3⟩
    exact ⟨rfl, ⟨h3⟩⟩)
   have d0 := decide_eq_true hi0
   have d1 := decide_eq_true hA
   have d2 := decide_eq_true hB6
   have p0 := eq_true hi0
   have p1 := eq_true hA
   have hwi : wrap64 (i + 1) = i + 1 := IntWalk.wrap64_in _ (by omega)
   clear hi0 hig hA hB6 hdj hC5 hwd hold hc5 hS hcap
   go_wp2_with (first
    | (go_at_call 11; refine SP.mono ?_; clear SP; rintro e w2 ⟨B', cp', rfl, AL⟩)
    | (go_at_call 12; refine AL.mono ?_; clear AL; rintro e w3 ⟨rfl, hS⟩))
   go_roundg g
   case measure => omega
   case rel => exact ⟨i + 1, stepC cs d, B', cp', rfl, by rw [hwi], ⟨by have := hiA.out; omega, by have := hiA.out; omega⟩, hS⟩
  have d1 := decide_eq_true hA
  have d2 := decide_eq_false hB6
  clear hA hB6 hcap
  have LV := Cur.live_any wr
  go_wp2_with (go_at_call 13; refine LV.mono ?_; clear LV; rintro e w3 ⟨rfl, hB3⟩)
  go_ret
  exact ⟨rfl, below_then hS.out.old hS.out.old.size hB3⟩
 have d1 := decide_eq_false hA
 clear hA hcap
 have LV := Cur.live_any wr
 go_wp2_with (go_at_call 13; refine LV.mono ?_; clear LV; rintro e w3 ⟨rfl, hB3⟩)
 go_ret
 exact ⟨rfl, below_then hS.out.old hS.out.old.size hB3⟩
end Go.Proofs.Ytljnlnbopohghaa.Mdl
end
section
namespace Go.Proofs.Ytljnlnbopohghaa.P
open Go.RowKit Go.Proofs.YtljnlnbopohghaaW.PrintWords
def catchmentlaw27_CursorPlays.f (k : Nat) (l0 : List S32) : Option Bool := if l0.all Mdl.okd27 = true then some true else none
theorem catchmentlaw27_CursorPlays.calls (k : Nat) (A0 : Option Addr) (c0 : Nat) (l0 : List S32) (r : Bool) (w : World) (hr0 : Kd.C k32 w A0 l0.length l0) (hc0 : l0.length ≤ c0) (h : catchmentlaw27_CursorPlays.f k l0 = some r) :
  Calls Try.prog 3 #[.slice A0 l0.length c0] w fun e w' => e = .returned (.bool r) ∧ Below w.heap.size w w' := by
 unfold catchmentlaw27_CursorPlays.f at h
 split at h
 ·rename_i hq
  cases h
  exact Mdl.plays27 hr0 hc0 (List.all_eq_true.1 hq)
 cases h
theorem catchmentlaw27_CursorPlays.yes (l0 : List S32) (h : ∀ a ∈ l0, wf32 a) : catchmentlaw27_CursorPlays.f 0 l0 = some true :=
 if_pos (List.all_eq_true.2 fun d hd => Mdl.okd27_wf (h d hd))
end Go.Proofs.Ytljnlnbopohghaa.P
end
section
namespace Go.Proofs.Ytljnlnbopohghaa.Pure
open Go.RowKit Go.Proofs.Ytljnlnbopohghaa.P Go.Proofs.YtljnlnbopohghaaW.PrintWords Go.Proofs.YtljnlnbopohghaaW.PrintLast Go.Proofs.YtljnlnbopohghaaW.PrintMore
theorem CursorPlays : ∀ (x0 : (List S32)), (x0.length * 80 ≤ 140737488351232 ∧ ∀ a_ ∈ x0, wf32 a_) → ∃ k, catchmentlaw27_CursorPlays.f k x0 = some true := by
 intro x0 h0; exact ⟨0, catchmentlaw27_CursorPlays.yes _ h0.2⟩
end Go.Proofs.Ytljnlnbopohghaa.Pure
end
section
namespace Go.Proofs.Ytljnlnbopohghaa.cursorPlays
open Go.ChangeShapes Go.WideShapes Go.ChangeAt Go.RowKit Go.Proofs.Ytljnlnbopohghaa.P Go.Proofs.Ytljnlnbopohghaa.Rd Go.Proofs.YtljnlnbopohghaaW.PrintWords
open Go.ChangeMaps (open_string shut_string)
theorem own : ownKnob Try.prog.godebug = none := by kernel_rfl
theorem laidOut : laidOutB Try.prog = true := by kernel_rfl
set_option maxHeartbeats 2000000 in
set_option maxRecDepth 100000 in
theorem lifted (os : Os) (started : os.Started) (H : Type) (enc : TypeId × Value → H) :
  ReturnsInHanded {} Try.checked os 3 .any (Rows.cursorPlaysSpec.pre6 enc Try.prog Try.f3 Rows.cursorPlaysRow.domain false) (Rows.cursorPlaysSpec.post enc Try.prog Try.f3 false true false false) := by
 refine returnsInHanded_of_change_sized (C := Try.checked) own started (by kernel_rfl) Try.func3
  (ChangeSpec.witness6 (enc := enc) (C := Try.checked) false ⟨#[], #[.slice none 0 0], []⟩ 8 (by kernel_rfl) (by kernel_rfl) (by kernel_rfl) (by kernel_rfl)) ?_
 intro W base args ds gs before hval0 hW hcnd hsz0 _
 have hsz : (DataW.weightsEach Try.prog (Try.f3.params.toList ++ Rows.cursorPlaysSpec.plain.varTypes Try.prog) (ds ++ gs)).all (· ≤ reachBytes) = true := hsz0
 have hval : ∀ (j : Nat) t v, Try.f3.params[j]? = some t → args[j]? = some v → Value.okWide Try.prog W .any base t v := hval0
 have hW' := hW
 obtain ⟨p, q, hA0, hV, rfl, hfz, hnd⟩ := hW
 have hA : DataW.TrodAll enc Try.prog W 0 (fun _ => true) true Try.f3.params.toList args.toList ds p := hA0
 rw [Try.params3] at hA hval hsz
 obtain ⟨v0, vs0, d0, ds0, p0, q0, hargs, rfl, rfl, h0, r0⟩ := trodAll_cons hA
 obtain ⟨rfl, rfl, rfl⟩ := trodAll_nil r0
 obtain rfl : args = #[v0] := by cases args; simp_all
 obtain ⟨rfl, rfl⟩ := trodVars_none hV
 have k0 := h0
 have lt0 : ∀ x ∈ p0, x.block < W.heap.size := by obtain ⟨m, hm⟩ := k0; exact DataW.trod_lt m _ _ _ hm
 have ww0 : ∀ n ∈ d0.weights Try.prog 22, n ≤ reachBytes := fun n hn => by simpa using List.all_eq_true.1 hsz n (DataW.weights_mem_each (j := 0) rfl rfl n hn)
 obtain ⟨ad0, len0, cap0, rfl⟩ := okWide_slice Try.underlying22 (hval 0 22 v0 rfl rfl)
 obtain ⟨fu0, hf0⟩ := h0
 obtain ⟨x0, kx0, w0⟩ := o22.down hf0 ww0
 obtain ⟨A0, c0, e0, hc0, hr0⟩ := kx0
 obtain ⟨rfl, rfl, rfl⟩ : ad0 = A0 ∧ len0 = x0.length ∧ cap0 = c0 := by simpa [Value.cells] using e0
 clear hA0 hval0 hsz0 hsz
 obtain ⟨k_, hp⟩ := Pure.CursorPlays x0 w0
 refine (catchmentlaw27_CursorPlays.calls (k := k_) (r := true) (w := W) (hr0 := hr0) (hc0 := hc0) (h := hp)).mono fun e W' ⟨he, bel0⟩ => ?_
 have bel : Below W.heap.size W W' := bel0
 subst he
 exact ⟨_, rfl, _, _, _, [], _, [], hW', trodAll_mk1 (shut_bool Try.underlying4 _), (trodAll_cons_mk (Below.trod laidOut (by kernel_rfl) (of_decide_eq_true (by kernel_rfl)) k0 bel lt0) trodAll_mk0), rfl, bel.frame _, fun h => by cases h⟩
theorem over : Rows.cursorPlaysRow.holds Try.pinned (OpenSpec.ofChange Rows.cursorPlaysSpec) :=
 OpenClaim.holds_of_wide 3 Try.f3 rfl rfl rfl rfl rfl rfl rfl ⟨rfl, rfl, rfl, rfl, rfl⟩ rfl rfl rfl rfl rfl (by kernel_rfl) Try.func3 (by kernel_rfl)
  (of_decide_eq_true (by kernel_rfl)) (by unfold Func.isWrapper; first | (rw [if_pos (by decide +kernel)]; kernel_rfl) | (rw [if_neg (by decide +kernel)]; exact ⟨rfl, rfl⟩))
  (fun os started H enc _ => lifted os started H enc)
end Go.Proofs.Ytljnlnbopohghaa.cursorPlays
namespace Go.Proofs.Ytljnlnbopohghaa
theorem cursorPlays_holds : Rows.CursorPlaysSaid := cursorPlays.over
#print axioms cursorPlays_holds
end Go.Proofs.Ytljnlnbopohghaa
end
