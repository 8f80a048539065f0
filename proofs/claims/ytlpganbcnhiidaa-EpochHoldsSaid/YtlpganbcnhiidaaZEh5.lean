/- Texts of one claim (laid by shake.py). -/
import Derived.Test.YtlpganbcnhiidaaZEh1
import Derived.Test.YtlpganbcnhiidaaZEh4
import Derived.Deep.MidRow
import Derived.Deep.WholeRow
import Derived.Deep.RegionHeld3
import Derived.WalkArith
import Derived.Deep.RegionLaw
import Derived.RangeFuncNested
import Derived.RangeFuncCalls
import Derived.RangeFuncLeaves
import Derived.Below
import Derived.Deep.Draws
import Derived.Maps.OwnSet
import Derived.Maps.OwnIn
import Derived.Maps.RangeWalk
import Derived.Lib.JoinLaws
set_option linter.unusedVariables false
set_option linter.unusedSimpArgs false
section
namespace Go.Proofs.Ytlpganbcnhiidaa.P
open Go.RowKit Go.Proofs.Ytlpganbcnhiidaa.Rd Go.Proofs.YtlpganbcnhiidaaW.PrintWords
theorem o3 : Opens Try.prog 3 (Kd.int .i64) (fun n => (Lit.int .i64 n).wf = true) := Opens.int Try.underlying3 (by kernel_rfl)
def wf36 (x : S36) : Prop := ((Lit.int .i64 x.f0).wf = true) ∧ ((Lit.int .i64 x.f1).wf = true) ∧ ((Lit.int .i64 x.f2).wf = true)
theorem o36 : Opens Try.prog 36 k36 wf36 := Opens.iso (g := fun p_ => (⟨p_.1, p_.2.1, p_.2.2⟩ : S36)) (fun _ => rfl) (Opens.struct Try.underlying36 (by kernel_rfl) (OpensFs.cons rfl o3 rfl (OpensFs.cons rfl o3 rfl (OpensFs.one rfl o3))))
theorem o22 : Opens Try.prog 22 (Kd.slice 36 k36) (fun x_ => x_.length * 24 ≤ 140737488351232 ∧ ∀ a_ ∈ x_, wf36 a_) := Opens.slice Try.underlying22 (by kernel_rfl) (by kernel_rfl) o36
theorem o5 : Opens Try.prog 5 (Kd.int .u8) (fun n => (Lit.int .u8 n).wf = true) := Opens.int Try.underlying5 (by kernel_rfl)
end Go.Proofs.Ytlpganbcnhiidaa.P
end
section
namespace Go.Proofs.Ytlpganbcnhiidaa.Ep
open Go Go.RowKit Go.Proofs.YtlpganbcnhiidaaW.PrintWords Go.Proofs.YtlpganbcnhiidaaW.PrintLast Go.Proofs.YtlpganbcnhiidaaW.PrintMore Go.Proofs.Ytlpganbcnhiidaa.Own Go.Proofs.Ytlpganbcnhiidaa.Ord Go.Proofs.Ytlpganbcnhiidaa.P
structure RB where
  s : Int
  now : Int
  I : Nat → Bool
  S : Nat → Int
  ws : List Int
  ats : List Int
def cellAt (b : RB) (A : Option Addr) (ca : Nat) (B : Option Addr) (cb : Nat) (j : Nat) : Value :=
  if j = 0 then .int .i64 b.s else if j = 1 then .int .i64 b.now else if j < 67 then .bool (b.I (j - 2)) else if j < 132 then .int .i64 (b.S (j - 67)) else if j = 132 then .slice A b.ws.length ca else .slice B b.ats.length cb
def cellsB (b : RB) (A : Option Addr) (ca : Nat) (B : Option Addr) (cb : Nat) : List Value := (List.range 134).map (cellAt b A ca B cb)
theorem cellsB_len (b : RB) (A : Option Addr) (ca : Nat) (B : Option Addr) (cb : Nat) : (cellsB b A ca B cb).length = 134 := by simp [cellsB]
theorem cellsB_at (b : RB) (A : Option Addr) (ca : Nat) (B : Option Addr) (cb : Nat) {j : Nat} (h : j < 134) : (cellsB b A ca B cb)[j]? = some (cellAt b A ca B cb j) := by
  unfold cellsB
  rw [List.getElem?_map, List.getElem?_range h]
  rfl
theorem cellsB_one (b : RB) (A : Option Addr) (ca : Nat) (B : Option Addr) (cb : Nat) : ∀ v ∈ cellsB b A ca B cb, v.oneCell' = true := by
  intro v hv
  obtain ⟨j, _, rfl⟩ := List.mem_map.1 hv
  unfold cellAt
  repeat' split
  all_goals rfl
theorem cellsB_set (b b' : RB) (A A' : Option Addr) (ca ca' : Nat) (B B' : Option Addr) (cb cb' : Nat) (i : Nat) (v : Value) (hi : i < 134) (h1 : cellAt b' A' ca' B' cb' i = v) (h2 : ∀ j, j < 134 → j ≠ i → cellAt b' A' ca' B' cb' j = cellAt b A ca B cb j) : (cellsB b A ca B cb).set i v = cellsB b' A' ca' B' cb' := by
  apply List.ext_getElem?
  intro j
  rw [List.getElem?_set]
  by_cases hj : j < 134
  · rw [cellsB_at b' A' ca' B' cb' hj]
    by_cases e : i = j
    · subst e
      rw [if_pos rfl, if_pos (by rw [cellsB_len]; exact hj), h1]
    · rw [if_neg e, cellsB_at b A ca B cb hj, h2 j hj (fun q => e q.symm)]
  · rw [if_neg (by omega), List.getElem?_eq_none (by rw [cellsB_len]; omega), List.getElem?_eq_none (by rw [cellsB_len]; omega)]
def updN {α : Type} (f : Nat → α) (i : Nat) (x : α) : Nat → α := fun j => if j = i then x else f j
theorem set_in (b : RB) (A : Option Addr) (ca : Nat) (B : Option Addr) (cb : Nat) (i : Nat) (hi : i < 65) (v : Bool) : (cellsB b A ca B cb).set (2 + i) (.bool v) = cellsB { b with I := updN b.I i v } A ca B cb := by
  refine cellsB_set _ _ _ _ _ _ _ _ _ _ _ _ (by omega) ?_ (fun j hj hne => ?_)
  · simp [cellAt, updN, show 2 + i ≠ 0 by omega, show 2 + i ≠ 1 by omega, show 2 + i < 67 by omega]
  · have : j - 2 = i → ¬ (j ≠ 0 ∧ j ≠ 1 ∧ j < 67) := by omega
    unfold cellAt updN
    dsimp only
    repeat' split
    all_goals (first | rfl | omega)
theorem set_said (b : RB) (A : Option Addr) (ca : Nat) (B : Option Addr) (cb : Nat) (i : Nat) (hi : i < 65) (v : Int) : (cellsB b A ca B cb).set (67 + i) (.int .i64 v) = cellsB { b with S := updN b.S i v } A ca B cb := by
  refine cellsB_set _ _ _ _ _ _ _ _ _ _ _ _ (by omega) ?_ (fun j hj hne => ?_)
  · simp [cellAt, updN, show 67 + i ≠ 0 by omega, show 67 + i ≠ 1 by omega, show ¬ 67 + i < 67 by omega, show 67 + i < 132 by omega]
  · unfold cellAt updN
    dsimp only
    repeat' split
    all_goals (first | rfl | omega)
theorem set_now (b : RB) (A : Option Addr) (ca : Nat) (B : Option Addr) (cb : Nat) (v : Int) : (cellsB b A ca B cb).set 1 (.int .i64 v) = cellsB { b with now := v } A ca B cb := by
  refine cellsB_set _ _ _ _ _ _ _ _ _ _ _ _ (by omega) ?_ (fun j hj hne => ?_)
  · simp [cellAt]
  · unfold cellAt
    dsimp only
    repeat' split
    all_goals (first | rfl | omega)
theorem set_ws (b : RB) (A A' : Option Addr) (ca ca' : Nat) (B : Option Addr) (cb : Nat) (l : List Int) : (cellsB b A ca B cb).set 132 (.slice A' l.length ca') = cellsB { b with ws := l } A' ca' B cb := by
  refine cellsB_set _ _ _ _ _ _ _ _ _ _ _ _ (by omega) ?_ (fun j hj hne => ?_)
  · simp [cellAt]
  · unfold cellAt
    dsimp only
    repeat' split
    all_goals (first | rfl | omega)
theorem set_ats (b : RB) (A : Option Addr) (ca : Nat) (B B' : Option Addr) (cb cb' : Nat) (l : List Int) : (cellsB b A ca B cb).set 133 (.slice B' l.length cb') = cellsB { b with ats := l } A ca B' cb' := by
  refine cellsB_set _ _ _ _ _ _ _ _ _ _ _ _ (by omega) ?_ (fun j hj hne => ?_)
  · simp [cellAt]
  · unfold cellAt
    dsimp only
    repeat' split
    all_goals (first | rfl | omega)
def objB (cs : List Value) : Obj := .cells cs.toArray 32
theorem infoB : (Try.prog.info? 32).map (·.size) = some 134 := by kernel_rfl
section
variable {w : World} {ops : Array Oper} {rest : List Oper} {o : Oper} {a : Act} {Q : Exit → Act → World → Prop}
theorem loadB (hg : o.guard = none) (x : Operand) (ho : o.op = .load 32 x) (g : Nat) (hx : a.eval x = .pointer (some ⟨g, 0, none⟩)) (cs : List Value) (hb : w.heap[g]? = some (objB cs)) (hl : cs.length = 134)
    (h : wpList Try.prog ops Q rest (a.put o.dst (.agg cs.toArray)) w) : wpList Try.prog ops Q (o :: rest) a w :=
  wpList_load_row hg _ x ho g hx 32 cs.toArray (0, 0) _ hb Try.underlying32 rfl (by rw [infoB, List.size_toArray, hl]) h
theorem storeB (hg : o.guard = none) (x y : Operand) (ho : o.op = .store 32 x y) (g : Nat) (hx : a.eval x = .pointer (some ⟨g, 0, none⟩)) (cs ds : List Value) (hy : a.eval y = .agg cs.toArray) (hb : w.heap[g]? = some (objB ds)) (hd : ds.length = 134) (hl : cs.length = 134) (h1 : ∀ v ∈ cs, v.oneCell' = true)
    (h : ∀ w', w'.heap[g]? = some (objB cs) → Fr [g] w w' → wpList Try.prog ops Q rest (a.put o.dst undef) w') : wpList Try.prog ops Q (o :: rest) a w := by
  refine wpList_store_row hg _ x y ho g cs.toArray hx hy 32 ds.toArray hb (by rw [infoB, List.size_toArray, hl]) (by rw [List.size_toArray, List.size_toArray, hd, hl]) (all_oneCell_toArray h1) (h _ ?_ ?_)
  · simp only [World.setRow, Array.getElem?_modify, if_true, hb, Option.map_some, objB]
  · refine ⟨rfl, rfl, rfl, by simp [World.setRow], fun k hk hn => ?_⟩
    have : g ≠ k := fun e => hn (by simp [e])
    simp only [World.setRow, Array.getElem?_modify, if_neg this]
theorem boxB (hg : o.guard = none) (x : Operand) (ho : o.op = .box 32 x) (cs : List Value) (hx : a.eval x = .agg cs.toArray)
    (h : wpList Try.prog ops Q rest (a.put o.dst (.pointer (some ⟨w.heap.size, 0, none⟩))) (w.alloc (objB cs))) : wpList Try.prog ops Q (o :: rest) a w := by
  refine wpList_plain hg fun K hK => ?_
  unfold Oper.wp execOp
  simp only [ho, hx, Sem.run_bind, Instr.box, newVar, newRow, run_newObj_alloc, Sem.run_pure, Result.andThen_ok, Value.cells]
  exact hK _ _ h
def zb : RB := ⟨0, 0, fun _ => false, fun _ => 0, [], []⟩
theorem zeroB : ∀ w, (zeroValue 32).run Try.prog w = .ok (.agg (cellsB zb none 0 none 0).toArray) w :=
  (zero_of_info (n := 134) (by kernel_rfl)).1
theorem allocB (hg : o.guard = none) (ho : o.op = .alloc 32)
    (h : wpList Try.prog ops Q rest (a.put o.dst (.pointer (some ⟨w.heap.size, 0, none⟩))) (w.alloc (objB (cellsB zb none 0 none 0)))) : wpList Try.prog ops Q (o :: rest) a w := by
  refine wpList_plain hg fun K hK => ?_
  unfold Oper.wp execOp
  simp only [ho, Sem.run_bind, Instr.alloc, zeroB, newVar, newRow, run_newObj_alloc, Sem.run_pure, Result.andThen_ok, Value.cells]
  exact hK _ _ h
theorem buildB (hg : o.guard = none) (x : Operand) (ho : o.op = .build 32 #[(0, x)]) (s : Int) (hx : a.eval x = .int .i64 s)
    (h : wpList Try.prog ops Q rest (a.put o.dst (.agg (cellsB { zb with s := s } none 0 none 0).toArray)) w) : wpList Try.prog ops Q (o :: rest) a w := by
  have hbu : Try.prog.built 32 [(0, .int .i64 s)] = some (cellsB { zb with s := s } none 0 none 0).toArray := by kernel_rfl
  have e : (#[(0, x)].map fun (i, x) => (i, a.eval x)).toList = [(0, .int .i64 s)] := by simp [hx]
  refine wpList_build hg _ #[(0, x)] ho (by rw [e, hbu]; rfl) ?_
  rw [e, hbu]
  exact h
end
end Go.Proofs.Ytlpganbcnhiidaa.Ep
end
section
namespace Go.Proofs.Ytlpganbcnhiidaa.Ep
open Go Go.RowKit Go.Proofs.YtlpganbcnhiidaaW.PrintWords Go.Proofs.YtlpganbcnhiidaaW.PrintLast Go.Proofs.YtlpganbcnhiidaaW.PrintMore Go.Proofs.Ytlpganbcnhiidaa.Own Go.Proofs.Ytlpganbcnhiidaa.Ord Go.Proofs.Ytlpganbcnhiidaa.P
set_option maxHeartbeats 2000000
set_option maxRecDepth 100000
theorem cellB {w : World} {g : Nat} {cs : List Value} (h : w.heap[g]? = some (objB cs)) (j : Nat) : w.cell? ⟨g, j, none⟩ = cs[j]? := by
  rw [cell_of_row w g j cs.toArray _ (0, 0) h, List.getElem?_toArray]
theorem frozB {w : World} {g : Nat} {cs : List Value} (h : w.heap[g]? = some (objB cs)) (j : Nat) : w.frozen? ⟨g, j, none⟩ = false := blk_frozen (cs := cs.toArray) h j
def askR (b : RB) (who : Int) (inn : Bool) : Int := if who < 1 ∨ who > b.s then 2 else if b.I who.toNat ≠ inn then 15 else 0
theorem at_in (b : RB) (A : Option Addr) (ca : Nat) (B : Option Addr) (cb : Nat) (i : Nat) (hi : i < 65) : (cellsB b A ca B cb)[2 + i]? = some (.bool (b.I i)) := by
  rw [cellsB_at _ _ _ _ _ (by omega)]
  simp [cellAt, show 2 + i ≠ 0 by omega, show 2 + i ≠ 1 by omega, show 2 + i < 67 by omega]
theorem at_said (b : RB) (A : Option Addr) (ca : Nat) (B : Option Addr) (cb : Nat) (i : Nat) (hi : i < 65) : (cellsB b A ca B cb)[67 + i]? = some (.int .i64 (b.S i)) := by
  rw [cellsB_at _ _ _ _ _ (by omega)]
  simp [cellAt, show 67 + i ≠ 0 by omega, show 67 + i ≠ 1 by omega, show ¬ 67 + i < 67 by omega, show 67 + i < 132 by omega]
theorem ask_ref {w : World} (b : RB) (A : Option Addr) (ca : Nat) (B : Option Addr) (cb : Nat) (who : Int) (inn : Bool) (hs : b.s ≤ 64) :
    Calls Try.prog 30 #[.agg (cellsB b A ca B cb).toArray, .int .i64 who, .bool inn] w fun e w' => e = .returned (.int .i64 (askR b who inn)) ∧ Below w.heap.size w w' := by
  have hub := Try.underlying32
  have hui := Try.underlying28
  have hb := blk_new w (objB (cellsB b A ca B cb))
  have hB := below_alloc (Below.refl w.heap.size w) (objB (cellsB b A ca B cb))
  have c0 : (w.alloc (objB (cellsB b A ca B cb))).cell? ⟨w.heap.size, 0, none⟩ = some (.int .i64 b.s) := (cellB hb 0).trans (cellsB_at _ _ _ _ _ (by omega))
  unfold askR
  by_cases h1 : who < 1
  · rw [if_pos (.inl h1)]
    have d1 := decide_eq_true h1
    go_enter Try.func30, Try.ntmps30
    go_wp2_with (refine boxB rfl _ rfl _ rfl ?_)
    go_ret
    exact ⟨rfl, hB⟩
  · have d1 := decide_eq_false h1
    by_cases h2 : who > b.s
    · rw [if_pos (.inr h2)]
      have d2 := decide_eq_true (show b.s < who by omega)
      go_enter Try.func30, Try.ntmps30
      go_wp2_with (refine boxB rfl _ rfl _ rfl ?_)
      go_ret
      exact ⟨rfl, hB⟩
    · rw [if_neg (by omega)]
      have d2 := decide_eq_false (show ¬ b.s < who by omega)
      have c1 : (w.alloc (objB (cellsB b A ca B cb))).cell? ⟨w.heap.size, 2 + who.toNat, none⟩ = some (.bool (b.I who.toNat)) := (cellB hb _).trans (at_in _ _ _ _ _ _ (by omega))
      have i0 := decide_eq_true (show 0 ≤ who by omega)
      have i1 := decide_eq_true (show who < 65 by omega)
      have i2 := eq_true (show 0 ≤ who by omega)
      have i3 := eq_true (show who < 65 by omega)
      by_cases h3 : b.I who.toNat = inn
      · rw [if_neg (by simp [h3])]
        have q : (!(b.I who.toNat == inn)) = false := by simp [h3]
        go_enter Try.func30, Try.ntmps30
        go_wp2_with (refine boxB rfl _ rfl _ rfl ?_)
        go_ret
        exact ⟨rfl, hB⟩
      · rw [if_pos h3]
        have q : (!(b.I who.toNat == inn)) = true := by simp [h3]
        go_enter Try.func30, Try.ntmps30
        go_wp2_with (refine boxB rfl _ rfl _ rfl ?_)
        go_ret
        exact ⟨rfl, hB⟩
def inR (b : RB) (who : Int) : Bool := decide (1 ≤ who) && (decide (who ≤ 64) && b.I who.toNat)
theorem in_ref {w : World} (b : RB) (A : Option Addr) (ca : Nat) (B : Option Addr) (cb : Nat) (who : Int) :
    Calls Try.prog 27 #[.agg (cellsB b A ca B cb).toArray, .int .i64 who] w fun e w' => e = .returned (.bool (inR b who)) ∧ Below w.heap.size w w' := by
  have hub := Try.underlying32
  have hui := Try.underlying28
  have hb := blk_new w (objB (cellsB b A ca B cb))
  have hB := below_alloc (Below.refl w.heap.size w) (objB (cellsB b A ca B cb))
  unfold inR
  by_cases h1 : 1 ≤ who
  · have d1 := decide_eq_true h1
    by_cases h2 : who ≤ 64
    · have d2 := decide_eq_true h2
      have c1 : (w.alloc (objB (cellsB b A ca B cb))).cell? ⟨w.heap.size, 2 + who.toNat, none⟩ = some (.bool (b.I who.toNat)) := (cellB hb _).trans (at_in _ _ _ _ _ _ (by omega))
      have i0 := decide_eq_true (show 0 ≤ who by omega)
      have i1 := decide_eq_true (show who < 65 by omega)
      have i2 := eq_true (show 0 ≤ who by omega)
      have i3 := eq_true (show who < 65 by omega)
      rw [d1, d2]
      go_enter Try.func27, Try.ntmps27
      go_wp2_with (refine boxB rfl _ rfl _ rfl ?_)
      go_ret
      exact ⟨rfl, hB⟩
    · have d2 := decide_eq_false h2
      rw [d1, d2]
      go_enter Try.func27, Try.ntmps27
      go_wp2_with (refine boxB rfl _ rfl _ rfl ?_)
      go_ret
      exact ⟨rfl, hB⟩
  · have d1 := decide_eq_false h1
    rw [d1]
    go_enter Try.func27, Try.ntmps27
    go_wp2_with (refine boxB rfl _ rfl _ rfl ?_)
    go_ret
    exact ⟨rfl, hB⟩
def enterR (b : RB) (who : Int) : RB := if askR b who false = 0 then { b with I := updN b.I who.toNat true, S := updN b.S who.toNat b.now } else b
def leaveR (b : RB) (who : Int) : RB := if askR b who true = 0 then { b with I := updN b.I who.toNat false } else b
theorem askR_ok {b : RB} {who : Int} {inn : Bool} (h : askR b who inn = 0) : 1 ≤ who ∧ who ≤ b.s ∧ b.I who.toNat = inn := by
  unfold askR at h
  split at h
  · omega
  split at h
  · omega
  · rename_i h1 h2
    exact ⟨by omega, by omega, Decidable.not_not.1 h2⟩
theorem at_now (b : RB) (A : Option Addr) (ca : Nat) (B : Option Addr) (cb : Nat) : (cellsB b A ca B cb)[1]? = some (.int .i64 b.now) := cellsB_at _ _ _ _ _ (by omega)
theorem objB_set {w : World} {g : Nat} {cs : List Value} (h : w.heap[g]? = some (objB cs)) (i : Nat) (u : Value) : (w.setCell ⟨g, i, none⟩ u).heap[g]? = some (objB (cs.set i u)) := by
  have := blk_set (cs := cs.toArray) h i u
  rw [List.setIfInBounds_toArray] at this
  exact this
theorem resB {fn : Func} {p u : Tmp} (h : fn.results = #[.cell p 32, .tmp u]) (tmps : Array Value) {w : World} {g : Nat} {cs : List Value} (hp : tmps.getD p undef = .pointer (some ⟨g, 0, none⟩)) (hg : w.heap[g]? = some (objB cs)) (hl : cs.length = 134) :
    (results fn tmps).run Try.prog w = .ok (.tuple #[.agg cs.toArray, tmps.getD u undef]) w :=
  results_ct h tmps w g 32 cs.toArray (0, 0) _ hp hg Try.underlying32 rfl (by rw [infoB, List.size_toArray, hl])
theorem bel_fr {w w1 w2 : World} {g : Nat} (h : Below w.heap.size w w1) (f : Fr [g] w1 w2) (hg : w.heap.size ≤ g) : Below w.heap.size w w2 :=
  ⟨f.os.trans h.os, f.tape.trans h.tape, f.output.trans h.output, Nat.le_trans h.size f.size, fun k hk => (f.block k (Nat.lt_of_lt_of_le hk h.size) (by simp; omega)).trans (h.block k hk)⟩
theorem enter_ref {w : World} (b : RB) (A : Option Addr) (ca : Nat) (B : Option Addr) (cb : Nat) (who : Int) (hs : b.s ≤ 64) :
    Calls Try.prog 13 #[.agg (cellsB b A ca B cb).toArray, .int .i64 who] w fun e w' => e = .returned (.tuple #[.agg (cellsB (enterR b who) A ca B cb).toArray, .int .i64 (askR b who false)]) ∧ Below w.heap.size w w' := by
  have hub := Try.underlying32
  have hui := Try.underlying28
  have huj := Try.underlying29
  have hb := blk_alloc (blk_new w (objB (cellsB b A ca B cb))) (objB (cellsB zb none 0 none 0))
  have hr := blk_new (w.alloc (objB (cellsB b A ca B cb))) (objB (cellsB zb none 0 none 0))
  have hB := below_alloc (below_alloc (Below.refl w.heap.size w) (objB (cellsB b A ca B cb))) (objB (cellsB zb none 0 none 0))
  rw [World.size_alloc] at hr
  have AK := (ask_ref (w := (w.alloc (objB (cellsB b A ca B cb))).alloc (objB (cellsB zb none 0 none 0))) b A ca B cb who false hs).mono (R' := fun e w' => e = .returned (.int .i64 (askR b who false)) ∧ w'.heap[w.heap.size]? = some (objB (cellsB b A ca B cb)) ∧ w'.heap[w.heap.size + 1]? = some (objB (cellsB zb none 0 none 0)) ∧ Aside0 (Below w.heap.size w w')) (by
    rintro e w' ⟨rfl, hb_⟩
    exact ⟨rfl, blk_below hb hb_, blk_below hr hb_, ⟨below_then hB hB.size hb_⟩⟩)
  clear hr hB
  unfold enterR
  generalize hk : askR b who false = k at AK ⊢
  by_cases h0 : k = 0
  · subst h0
    rw [if_pos rfl]
    obtain ⟨h1, h2, _⟩ := askR_ok hk
    have q0 : ((0 : Int) == 0) = true := rfl
    have i0 := decide_eq_true (show 0 ≤ who by omega)
    have i1 := decide_eq_true (show who < 65 by omega)
    have i2 := eq_true (show 0 ≤ who by omega)
    have i3 := eq_true (show who < 65 by omega)
    have hlt : who.toNat < 65 := by omega
    have hlA := Aside0.mk hlt
    clear hk h1 h2 hlt
    go_enter Try.func13, Try.ntmps13
    go_wp2_with (first
      | (refine boxB rfl _ rfl _ rfl ?_)
      | (refine allocB rfl rfl ?_)
      | (refine loadB rfl _ rfl _ rfl _ (by assumption) (cellsB_len _ _ _ _ _) ?_)
      | (go_at_call 30; refine AK.mono ?_; clear AK hb; rintro e w3 ⟨rfl, hb3, hr3, hB3⟩; have c1 := (cellB hb3 1).trans (at_now _ _ _ _ _); have c2 := (cellB hb3 (2 + who.toNat)).trans (at_in _ _ _ _ _ _ hlA.out); have c3 := (cellB hb3 (67 + who.toNat)).trans (at_said _ _ _ _ _ _ hlA.out); have f2 := frozB hb3 (2 + who.toNat); have f3 := frozB hb3 (67 + who.toNat); have hb4 := objB_set (objB_set hb3 (2 + who.toNat) (.bool true)) (67 + who.toNat) (.int .i64 b.now); have hr4 : ((w3.setCell ⟨w.heap.size, 2 + who.toNat, none⟩ (.bool true)).setCell ⟨w.heap.size, 67 + who.toNat, none⟩ (.int .i64 b.now)).heap[w.heap.size + 1]? = some (objB (cellsB zb none 0 none 0)) := (by rw [Below.heap_setCell _ _ _ _ (by simp), Below.heap_setCell _ _ _ _ (by simp)]; exact hr3); rw [set_in _ _ _ _ _ _ hlA.out, set_said _ _ _ _ _ _ hlA.out] at hb4)
      | (refine storeB rfl _ _ rfl _ rfl _ _ rfl (by assumption) (cellsB_len _ _ _ _ _) (cellsB_len _ _ _ _ _) (cellsB_one _ _ _ _ _) ?_; rintro w9 hb9 hF9))
    refine bodyPost_ret (resB rfl _ rfl hb9 (cellsB_len _ _ _ _ _)) rfl ?_
    exact ⟨rfl, bel_fr (below_set (below_set hB3.out (Nat.le_refl _)) (Nat.le_refl _)) hF9 (by omega)⟩
  · rw [if_neg h0]
    have q0 : (k == 0) = false := beq_eq_false_iff_ne.2 h0
    clear hk h0
    go_enter Try.func13, Try.ntmps13
    go_wp2_with (first
      | (refine boxB rfl _ rfl _ rfl ?_)
      | (refine allocB rfl rfl ?_)
      | (refine loadB rfl _ rfl _ rfl _ (by assumption) (cellsB_len _ _ _ _ _) ?_)
      | (go_at_call 30; refine AK.mono ?_; clear AK hb; rintro e w3 ⟨rfl, hb3, hr3, hB3⟩)
      | (refine storeB rfl _ _ rfl _ rfl _ _ rfl (by assumption) (cellsB_len _ _ _ _ _) (cellsB_len _ _ _ _ _) (cellsB_one _ _ _ _ _) ?_; rintro w9 hb9 hF9))
    refine bodyPost_ret (resB rfl _ rfl hb9 (cellsB_len _ _ _ _ _)) rfl ?_
    exact ⟨rfl, bel_fr hB3.out hF9 (by omega)⟩
theorem leave_ref {w : World} (b : RB) (A : Option Addr) (ca : Nat) (B : Option Addr) (cb : Nat) (who : Int) (hs : b.s ≤ 64) :
    Calls Try.prog 26 #[.agg (cellsB b A ca B cb).toArray, .int .i64 who] w fun e w' => e = .returned (.tuple #[.agg (cellsB (leaveR b who) A ca B cb).toArray, .int .i64 (askR b who true)]) ∧ Below w.heap.size w w' := by
  have hub := Try.underlying32
  have hui := Try.underlying28
  have huj := Try.underlying29
  have hb := blk_alloc (blk_new w (objB (cellsB b A ca B cb))) (objB (cellsB zb none 0 none 0))
  have hr := blk_new (w.alloc (objB (cellsB b A ca B cb))) (objB (cellsB zb none 0 none 0))
  have hB := below_alloc (below_alloc (Below.refl w.heap.size w) (objB (cellsB b A ca B cb))) (objB (cellsB zb none 0 none 0))
  rw [World.size_alloc] at hr
  have AK := (ask_ref (w := (w.alloc (objB (cellsB b A ca B cb))).alloc (objB (cellsB zb none 0 none 0))) b A ca B cb who true hs).mono (R' := fun e w' => e = .returned (.int .i64 (askR b who true)) ∧ w'.heap[w.heap.size]? = some (objB (cellsB b A ca B cb)) ∧ w'.heap[w.heap.size + 1]? = some (objB (cellsB zb none 0 none 0)) ∧ Aside0 (Below w.heap.size w w')) (by
    rintro e w' ⟨rfl, hb_⟩
    exact ⟨rfl, blk_below hb hb_, blk_below hr hb_, ⟨below_then hB hB.size hb_⟩⟩)
  clear hr hB
  unfold leaveR
  generalize hk : askR b who true = k at AK ⊢
  by_cases h0 : k = 0
  · subst h0
    rw [if_pos rfl]
    obtain ⟨h1, h2, _⟩ := askR_ok hk
    have q0 : ((0 : Int) == 0) = true := rfl
    have i0 := decide_eq_true (show 0 ≤ who by omega)
    have i1 := decide_eq_true (show who < 65 by omega)
    have i2 := eq_true (show 0 ≤ who by omega)
    have i3 := eq_true (show who < 65 by omega)
    have hlt : who.toNat < 65 := by omega
    have hlA := Aside0.mk hlt
    clear hk h1 h2 hlt
    go_enter Try.func26, Try.ntmps26
    go_wp2_with (first
      | (refine boxB rfl _ rfl _ rfl ?_)
      | (refine allocB rfl rfl ?_)
      | (refine loadB rfl _ rfl _ rfl _ (by assumption) (cellsB_len _ _ _ _ _) ?_)
      | (go_at_call 30; refine AK.mono ?_; clear AK hb; rintro e w3 ⟨rfl, hb3, hr3, hB3⟩; have c2 := (cellB hb3 (2 + who.toNat)).trans (at_in _ _ _ _ _ _ hlA.out); have f2 := frozB hb3 (2 + who.toNat); have hb4 := objB_set hb3 (2 + who.toNat) (.bool false); have hr4 : (w3.setCell ⟨w.heap.size, 2 + who.toNat, none⟩ (.bool false)).heap[w.heap.size + 1]? = some (objB (cellsB zb none 0 none 0)) := (by rw [Below.heap_setCell _ _ _ _ (by simp)]; exact hr3); rw [set_in _ _ _ _ _ _ hlA.out] at hb4)
      | (refine storeB rfl _ _ rfl _ rfl _ _ rfl (by assumption) (cellsB_len _ _ _ _ _) (cellsB_len _ _ _ _ _) (cellsB_one _ _ _ _ _) ?_; rintro w9 hb9 hF9))
    refine bodyPost_ret (resB rfl _ rfl hb9 (cellsB_len _ _ _ _ _)) rfl ?_
    exact ⟨rfl, bel_fr (below_set hB3.out (Nat.le_refl _)) hF9 (by omega)⟩
  · rw [if_neg h0]
    have q0 : (k == 0) = false := beq_eq_false_iff_ne.2 h0
    clear hk h0
    go_enter Try.func26, Try.ntmps26
    go_wp2_with (first
      | (refine boxB rfl _ rfl _ rfl ?_)
      | (refine allocB rfl rfl ?_)
      | (refine loadB rfl _ rfl _ rfl _ (by assumption) (cellsB_len _ _ _ _ _) ?_)
      | (go_at_call 30; refine AK.mono ?_; clear AK hb; rintro e w3 ⟨rfl, hb3, hr3, hB3⟩)
      | (refine storeB rfl _ _ rfl _ rfl _ _ rfl (by assumption) (cellsB_len _ _ _ _ _) (cellsB_len _ _ _ _ _) (cellsB_one _ _ _ _ _) ?_; rintro w9 hb9 hF9))
    refine bodyPost_ret (resB rfl _ rfl hb9 (cellsB_len _ _ _ _ _)) rfl ?_
    exact ⟨rfl, bel_fr hB3.out hF9 (by omega)⟩
end Go.Proofs.Ytlpganbcnhiidaa.Ep
end
section
namespace Go.Proofs.Ytlpganbcnhiidaa.Ep
open Go Go.RowKit Go.Proofs.YtlpganbcnhiidaaW.PrintWords Go.Proofs.YtlpganbcnhiidaaW.PrintLast Go.Proofs.YtlpganbcnhiidaaW.PrintMore Go.Proofs.Ytlpganbcnhiidaa.Own Go.Proofs.Ytlpganbcnhiidaa.Ord Go.Proofs.Ytlpganbcnhiidaa.P
set_option maxHeartbeats 2000000
set_option maxRecDepth 100000
def lst (b : RB) : Nat → Int
  | 0 => b.now
  | n + 1 => if (b.I (n + 1) && decide (b.S (n + 1) < lst b n)) = true then b.S (n + 1) else lst b n
theorem least_ref {w : World} (b : RB) (A : Option Addr) (ca : Nat) (B : Option Addr) (cb : Nat) :
    Calls Try.prog 28 #[.agg (cellsB b A ca B cb).toArray] w fun e w' => e = .returned (.int .i64 (lst b 64)) ∧ Below w.heap.size w w' := by
  have hub := Try.underlying32
  have hui := Try.underlying28
  have huj := Try.underlying29
  have hb := blk_new w (objB (cellsB b A ca B cb))
  have hB := below_alloc (Below.refl w.heap.size w) (objB (cellsB b A ca B cb))
  have c0 := (cellB hb 1).trans (at_now _ _ _ _ _)
  go_enter Try.func28, Try.ntmps28
  go_wp2_with (refine boxB rfl _ rfl _ rfl ?_)
  generalize w.alloc (objB (cellsB b A ca B cb)) = W at hb hB c0 ⊢
  go_loopg [3, 4] 64 (fun g ov iv wr => ∃ i : Int, ov = .int .i64 (lst b (i.toNat - 1)) ∧ iv = .int .i64 i ∧ Aside0 (1 ≤ i ∧ i.toNat + g = 65) ∧ Aside0 (wr = W))
  case atStart => exact ⟨1, rfl, rfl, ⟨by omega, rfl⟩, ⟨rfl⟩⟩
  case round =>
    obtain ⟨i, rfl, rfl, hiA, hW⟩ := hrel
    obtain rfl := hW.out
    obtain ⟨hi0, hig⟩ := hiA.out
    by_cases h64 : i ≤ 64
    · cases gk with
      | zero => omega
      | succ g =>
        have d1 := decide_eq_true h64
        have c1 := (cellB hb (2 + i.toNat)).trans (at_in b A ca B cb i.toNat (by omega))
        have c2 := (cellB hb (67 + i.toNat)).trans (at_said b A ca B cb i.toNat (by omega))
        have i0 := decide_eq_true (show 0 ≤ i by omega)
        have i1 := decide_eq_true (show i < 65 by omega)
        have i2 := eq_true (show 0 ≤ i by omega)
        have i3 := eq_true (show i < 65 by omega)
        have hwi : wrap64 (i + 1) = i + 1 := IntWalk.wrap64_in _ (by omega)
        have hn : lst b ((i + 1).toNat - 1) = if (b.I i.toNat && decide (b.S i.toNat < lst b (i.toNat - 1))) = true then b.S i.toNat else lst b (i.toNat - 1) := by
          rw [show (i + 1).toNat - 1 = (i.toNat - 1) + 1 by omega, lst, show i.toNat - 1 + 1 = i.toNat by omega]
        have hnA := Aside0.mk hn
        clear hn hi0 hig h64
        cases hI : b.I i.toNat with
        | false =>
          rw [hI] at c1
          go_wp2
          go_roundg g
          case measure => omega
          case rel => exact ⟨i + 1, by rw [hnA.out, hI]; rfl, by first | rw [hwi] | rfl, ⟨by have := hiA.out; omega, by have := hiA.out; omega⟩, ⟨rfl⟩⟩
        | true =>
          rw [hI] at c1
          cases hS : decide (b.S i.toNat < lst b (i.toNat - 1)) with
          | false =>
            go_wp2
            go_roundg g
            case measure => omega
            case rel => exact ⟨i + 1, by rw [hnA.out, hI, hS]; rfl, by first | rw [hwi] | rfl, ⟨by have := hiA.out; omega, by have := hiA.out; omega⟩, ⟨rfl⟩⟩
          | true =>
            go_wp2
            go_roundg g
            case measure => omega
            case rel => exact ⟨i + 1, by rw [hnA.out, hI, hS]; rfl, by first | rw [hwi] | rfl, ⟨by have := hiA.out; omega, by have := hiA.out; omega⟩, ⟨rfl⟩⟩
    · have d1 := decide_eq_false h64
      have e : i.toNat - 1 = 64 := by omega
      go_wp2
      go_ret
      exact ⟨by first | rfl | rw [e], hB⟩
end Go.Proofs.Ytlpganbcnhiidaa.Ep
end
section
namespace Go.Proofs.Ytlpganbcnhiidaa.Ep
open Go Go.RowKit Go.Proofs.YtlpganbcnhiidaaW.PrintWords Go.Proofs.YtlpganbcnhiidaaW.PrintLast Go.Proofs.YtlpganbcnhiidaaW.PrintMore Go.Proofs.Ytlpganbcnhiidaa.Own Go.Proofs.Ytlpganbcnhiidaa.Ord Go.Proofs.Ytlpganbcnhiidaa.P
set_option maxHeartbeats 2000000
set_option maxRecDepth 100000
theorem app_run {W : World} (base : Nat) (t ty e : TypeId) (i : TypeInfo) (z : Value) (size bytes : Nat) (ht : Try.prog.underlying t = some (.slice e)) (hi : Try.prog.info? e = some i) (hz : i.zero = some z) (hsize : i.size = size) (hby : i.bytes = bytes) (hzs : z.cells.size = size) (hsz : 0 < size)
    (v : Value) (n : Nat) (xs : List Value) (HO : W.ownsRow base e size v n xs) (A : Option Addr) (m c : Nat) (news : List Value) (hl : news.length = m * size) (hn : 0 < m → ∃ ad, A = some ad ∧ ∀ j u, news[j]? = some u → W.cell? (ad.add j) = some u) (h1 : ∀ u ∈ news, u.oneCell' = true)
    (h63 : n + m ≤ maxLen) (hbytes : (n + m) * bytes ≤ 140737488355328) (hbase : base ≤ W.heap.size) :
    ∃ v1 w1, (Builtin.append_ #[t, t] ty #[v, .slice A m c]).run Try.prog W = .ok v1 w1 ∧ w1.ownsRow base e size v1 (n + m) (xs ++ news) ∧ W.grownBy w1 v.ownBlock ∧ (v1.ownBlock = v.ownBlock ∨ ∃ b, v1.ownBlock = some b ∧ W.heap.size ≤ b) := by
  rcases A with _ | ad
  · have h0 : m = 0 := by
      rcases Nat.eq_zero_or_pos m with h0 | h0
      · exact h0
      · obtain ⟨ad, h, _⟩ := hn h0
        cases h
    subst h0
    obtain rfl : news = [] := List.eq_nil_of_length_eq_zero (by omega)
    refine ⟨v, W, ?_, by simpa using HO, World.grownBy.refl W _, .inl rfl⟩
    rcases HO.2 with ⟨rfl, hn⟩ | ⟨g, cap, cur, rfl, _, _, hnc, _⟩
    · simp [Builtin.append_, run_underlying ht, sizeOf, typeInfo, hi, Builtin.lenOf, Builtin.firstCells]
    · simp [Builtin.append_, run_underlying ht, sizeOf, typeInfo, hi, Builtin.lenOf, Builtin.firstCells, hnc, storeCells]
  · have hcells : ∀ j u, news[j]? = some u → W.cell? (ad.add j) = some u := by
      intro j u hu
      have hm : 0 < m := by
        rcases Nat.eq_zero_or_pos m with h0 | h0
        · subst h0
          obtain rfl : news = [] := List.eq_nil_of_length_eq_zero (by omega)
          simp at hu
        · exact h0
      obtain ⟨ad', h', hc⟩ := hn hm
      cases h'
      exact hc j u hu
    obtain ⟨v1, w1, hr, h2, h3, _, h5⟩ := run_append_own_at (P := Try.prog) W base t ty e i z size bytes ht hi hz hsize hby hzs hsz v n xs HO ad m c news hl hcells h1 h63 hbytes hbase
    refine ⟨v1, w1, hr, h2, h3, ?_⟩
    rcases h5 with q | q
    · exact .inl q
    · exact .inr ⟨_, q, Nat.le_refl _⟩
def OI (W : World) (base : Nat) (v : Value) (xs : List Int) : Prop := W.ownsRow base 3 1 v xs.length (nums .i64 xs)
theorem infoI : ∃ i, Try.prog.info? 3 = some i ∧ i.zero = some (.int .i64 0) ∧ i.size = 1 ∧ i.bytes = 8 := by
  have h : (Try.prog.info? 3).map (fun i => (i.zero, i.size, i.bytes)) = some (some (.int .i64 0), 1, 8) := by kernel_rfl
  cases hi : Try.prog.info? 3 with
  | none => rw [hi] at h; simp at h
  | some i =>
    rw [hi] at h
    simp only [Option.map_some, Option.some.injEq, Prod.mk.injEq] at h
    exact ⟨i, rfl, h.1, h.2.1, h.2.2⟩
theorem appI_run {W : World} (base : Nat) (ty : TypeId) (v : Value) (xs ys : List Int) (HO : OI W base v xs) (A : Option Addr) (c : Nat) (hR : ReadsInt W .i64 A ys.length ys) (hlen : xs.length + ys.length ≤ 1000000) (hbase : base ≤ W.heap.size) :
    ∃ v1 w1, (Builtin.append_ #[30, 30] ty #[v, .slice A ys.length c]).run Try.prog W = .ok v1 w1 ∧ OI w1 base v1 (xs ++ ys) ∧ W.grownBy w1 v.ownBlock ∧ (v1.ownBlock = v.ownBlock ∨ ∃ b, v1.ownBlock = some b ∧ W.heap.size ≤ b) := by
  obtain ⟨i, hi, hz, hs, hb⟩ := infoI
  obtain ⟨v1, w1, e1, e2, e3, e4⟩ := app_run base 30 ty 3 i (.int .i64 0) 1 8 Try.underlying30 hi hz hs hb rfl (by omega) v xs.length (nums .i64 xs) HO A ys.length c (nums .i64 ys) (by simp [nums]) (fun h0 => by
    obtain ⟨ad, h', hc⟩ := hR.2.2 h0
    refine ⟨ad, h', fun j u hu => ?_⟩
    have hj : j < ys.length := by
      have := (List.getElem?_eq_some_iff.1 hu).1
      simpa [nums] using this
    have := hc j hj
    rw [this]
    simp only [nums, List.getElem?_map, List.getElem?_eq_getElem hj, Option.map_some, Option.some.injEq] at hu
    rw [← hu, List.getD_eq_getElem?_getD, List.getElem?_eq_getElem hj]
    rfl) (by intro u hu; simp only [nums, List.mem_map] at hu; obtain ⟨q, _, rfl⟩ := hu; rfl) (by simp only [maxLen]; omega) (by omega) hbase
  exact ⟨v1, w1, e1, by unfold OI; rw [List.length_append, nums_append]; exact e2, e3, e4⟩
section
variable {W : World} {ops : Array Oper} {rest : List Oper} {o : Oper} {a : Act} {Q : Exit → Act → World → Prop} {K : Act → World → Prop} {E : Prop}
theorem wp_appI (s x : Operand) (ho : o.op = .call { callee := .builtin .append, args := #[s, x], argTypes := #[30, 30] }) (v : Value) (hs : a.eval s = v) (A : Option Addr) (c : Nat) (ys : List Int) (hx : a.eval x = .slice A ys.length c) (base : Nat) (xs : List Int) (HO : OI W base v xs) (hR : ReadsInt W .i64 A ys.length ys) (hlen : xs.length + ys.length ≤ 1000000) (hbase : base ≤ W.heap.size)
    (h : ∀ v1 w1, OI w1 base v1 (xs ++ ys) → W.grownBy w1 v.ownBlock → (v1.ownBlock = v.ownBlock ∨ ∃ b, v1.ownBlock = some b ∧ W.heap.size ≤ b) → K (a.put o.dst v1) w1) : o.wp Try.prog a W K Q := by
  obtain ⟨v1, w1, e1, e2, e3, e4⟩ := appI_run base o.type v xs ys HO A c hR hlen hbase
  unfold Oper.wp execOp
  simp only [ho, resolve, invoke, builtin, Sem.run_bind, Sem.run_pure, Result.andThen_ok, List.map_toArray, List.map_cons, List.map_nil, hs, hx, e1]
  exact h v1 w1 e2 e3 e4
theorem list_appI (hg : o.guard = none) (s x : Operand) (ho : o.op = .call { callee := .builtin .append, args := #[s, x], argTypes := #[30, 30] }) (v : Value) (hs : a.eval s = v) (A : Option Addr) (c : Nat) (ys : List Int) (hx : a.eval x = .slice A ys.length c) (base : Nat) (xs : List Int) (HO : OI W base v xs) (hR : ReadsInt W .i64 A ys.length ys) (hlen : xs.length + ys.length ≤ 1000000) (hbase : base ≤ W.heap.size)
    (h : ∀ v1 w1, OI w1 base v1 (xs ++ ys) → W.grownBy w1 v.ownBlock → (v1.ownBlock = v.ownBlock ∨ ∃ b, v1.ownBlock = some b ∧ W.heap.size ≤ b) → wpList Try.prog ops Q rest (a.put o.dst v1) w1) : wpList Try.prog ops Q (o :: rest) a W :=
  wpList_plain hg fun K hK => wp_appI s x ho v hs A c ys hx base xs HO hR hlen hbase (fun v1 w1 e1 e2 e3 => hK _ _ (h v1 w1 e1 e2 e3))
theorem step_appI (hg : o.guard = none) (s x : Operand) (ho : o.op = .call { callee := .builtin .append, args := #[s, x], argTypes := #[30, 30] }) (v : Value) (hs : a.eval s = v) (A : Option Addr) (c : Nat) (ys : List Int) (hx : a.eval x = .slice A ys.length c) (base : Nat) (xs : List Int) (HO : OI W base v xs) (hR : ReadsInt W .i64 A ys.length ys) (hlen : xs.length + ys.length ≤ 1000000) (hbase : base ≤ W.heap.size)
    (h : ∀ v1 w1, OI w1 base v1 (xs ++ ys) → W.grownBy w1 v.ownBlock → (v1.ownBlock = v.ownBlock ∨ ∃ b, v1.ownBlock = some b ∧ W.heap.size ≤ b) → K (a.put o.dst v1) w1) :
    if Region.wanted o (yielded ops a.tmps) = true then Oper.wp Try.prog o a W K Q else E := by
  have hw : Region.wanted o (yielded ops a.tmps) = true := by simp [Region.wanted, hg]
  rw [if_pos hw]
  exact wp_appI s x ho v hs A c ys hx base xs HO hR hlen hbase h
end
def RI (Z : Nat → Prop) (W : World) (A : Option Addr) (c : Nat) (xs : List Int) : Prop := Kd.V (Kd.int .i64) 3 W 0 Z (.slice A xs.length c) xs
theorem RI.reads {Z : Nat → Prop} {W : World} {A : Option Addr} {c : Nat} {xs : List Int} (h : RI Z W A c xs) : ReadsInt W .i64 A xs.length xs := Kd.reads_of_C (d := (0 : Int)) (Kd.V_reads' h).2.2
theorem RI.C {Z : Nat → Prop} {W : World} {A : Option Addr} {c : Nat} {xs : List Int} (h : RI Z W A c xs) : xs.length ≤ c ∧ Kd.C (Kd.int .i64) W A xs.length xs := (Kd.V_reads' h).2
theorem RI.step {Z : Nat → Prop} {W W' : World} {A : Option Addr} {c : Nat} {xs : List Int} (h : RI Z W A c xs) (hm : ∀ k, Z k → k < W.heap.size → W'.heap[k]? = W.heap[k]?) : RI Z W' A c xs := Kd.V_step h hm
theorem RI.below {Z : Nat → Prop} {W W' : World} {A : Option Addr} {c : Nat} {xs : List Int} (h : RI Z W A c xs) (hb : Below W.heap.size W W') : RI Z W' A c xs := Kd.V_below h hb
theorem RI.nil (Z : Nat → Prop) (W : World) : RI Z W none 0 [] := Kd.V_nil _ _ _ _ _
theorem OI.stands {Z : Nat → Prop} {W : World} {base : Nat} {v : Value} {xs : List Int} (h : OI W base v xs) (hz : ∀ k, base ≤ k → Z k) : ∃ A c, v = .slice A xs.length c ∧ RI Z W A c xs := by
  have h' := h
  obtain ⟨A, c, rfl, hr⟩ := own_reads h
  refine ⟨A, c, rfl, ?_⟩
  rcases h.2 with ⟨e, h0⟩ | ⟨g, cap, cur, e, hg, hh, hnc, hm, hcs, htk⟩
  · obtain rfl : xs = [] := List.eq_nil_of_length_eq_zero h0
    have e' : Value.slice A 0 c = Value.slice none 0 0 := e
    injection e' with e1 e2 e3
    rw [e1, e3]
    exact RI.nil Z W
  · have e' := e
    injection e' with e1 e2 e3
    subst e1
    subst e3
    refine ⟨_, _, rfl, hnc, fun W' hW => ?_⟩
    have hk := hW g (hz g hg) (Array.getElem?_eq_some_iff.1 hh).1
    have h2 : OI W' base (.slice (some ⟨g, 0, none⟩) xs.length c) xs := ⟨h.1, .inr ⟨g, c, cur, rfl, hg, hk.trans hh, hnc, hm, hcs, htk⟩⟩
    exact Kd.C_of_reads (own_reads' h2)
theorem OI.new {W : World} {base : Nat} {v : Value} {xs : List Int} (h : OI W base v xs) : ∀ j, v.ownBlock = some j → base ≤ j := own_base h
theorem grown_blk {W w1 : World} {v : Value} {k base : Nat} {ob : Obj} (hn : ∀ j, v.ownBlock = some j → base ≤ j) (hk : k < base) (hg : W.grownBy w1 v.ownBlock) (h : W.heap[k]? = some ob) : w1.heap[k]? = some ob :=
  (hg.block k (blk_lt h) (fun e => by have := hn k e.symm; omega)).trans h
theorem grown_bel {w W w1 : World} {v : Value} {base : Nat} (hn : ∀ j, v.ownBlock = some j → base ≤ j) (hb : w.heap.size ≤ base) (hB : Below w.heap.size w W) (hg : W.grownBy w1 v.ownBlock) : Below w.heap.size w w1 :=
  ⟨hg.os.trans hB.os, hg.tape.trans hB.tape, hg.output.trans hB.output, Nat.le_trans hB.size hg.size, fun k hk => (hg.block k (Nat.lt_of_lt_of_le hk hB.size) (fun e => by have := hn k e.symm; omega)).trans (hB.block k hk)⟩
theorem RI.narrow {Z Z' : Nat → Prop} {W : World} {A : Option Addr} {c : Nat} {xs : List Int} (h : RI Z W A c xs) (hz : ∀ k, Z k → k < W.heap.size → Z' k) : RI Z' W A c xs := Kd.V_mono (Kd.V_bound h) (fun k hk => hz k hk.1 hk.2)
theorem RI.set {Z : Nat → Prop} {W : World} {A : Option Addr} {c : Nat} {xs : List Int} (h : RI Z W A c xs) {g : Nat} (hg : ¬ Z g) (i : Nat) (u : Value) : RI Z (W.setCell ⟨g, i, none⟩ u) A c xs :=
  h.step (fun k hk hl => Below.heap_setCell _ _ _ _ (fun e => hg (by subst e; exact hk)))
theorem OI.alloc {W : World} {base : Nat} {v : Value} {xs : List Int} (h : OI W base v xs) (o : Obj) : OI (W.alloc o) base v xs := own_alloc h o
theorem OI.lit (W : World) (base : Nat) (hb : base ≤ W.heap.size) : OI (W.alloc (.cells #[] 3)) base (.slice (some ⟨W.heap.size, 0, none⟩) 0 0) [] := own_lit W base 3 .i64 [] hb (by simp)
theorem OI.lit' (W : World) (base n : Nat) (hn : W.heap.size = n) (hb : base ≤ n) : OI (W.alloc (.cells #[] 3)) base (.slice (some ⟨n, 0, none⟩) 0 0) [] := by
  subst hn
  exact OI.lit W base hb
theorem reads_cell {W : World} {g : Nat} {y : Int} (h : W.cell? ⟨g, 0, none⟩ = some (.int .i64 y)) : ReadsInt W .i64 (some ⟨g, 0, none⟩) [y].length [y] :=
  ⟨rfl, by simp, fun _ => ⟨_, rfl, fun j hj => by
    have : j = 0 := by simpa using hj
    subst this
    exact h⟩⟩
theorem cell_grown {W w1 : World} {v : Value} {g : Nat} {u : Value} (hg : W.grownBy w1 v.ownBlock) (h : W.cell? ⟨g, 0, none⟩ = some u) (hne : v.ownBlock ≠ some g) : w1.cell? ⟨g, 0, none⟩ = some u :=
  (World.cell?_of_block (hg.block g (World.block_lt_of_cell? W ⟨g, 0, none⟩ h) (fun e => hne e.symm))).trans h
theorem cell_al {w : World} (o : Obj) {a : Addr} {v : Value} (h : w.cell? a = some v) : (w.alloc o).cell? a = some v := (World.cell?_of_block ((below_alloc (Below.refl w.heap.size w) o).block a.block (World.block_lt_of_cell? w a h))).trans h
theorem reads_one (W : World) (y : Int) : ReadsInt (W.alloc (.cells #[.int .i64 y] 3)) .i64 (some ⟨W.heap.size, 0, none⟩) [y].length [y] := own_reads' (own_lit W 0 3 .i64 [y] (by omega) (by simp))
section
variable {w6 W : World} {ops : Array Oper} {o : Oper} {a : Act} {Q : Exit → Act → World → Prop} {K : Act → World → Prop} {E : Prop} {Z : Nat → Prop}
theorem step_app_row (hBW : Below w6.heap.size w6 W) (hg : o.guard = none) (s x : Operand) (ho : o.op = .call { callee := .builtin .append, args := #[s, x], argTypes := #[30, 30] }) (v : Value) (hs : a.eval s = v) (A : Option Addr) (c : Nat) (ys : List Int) (hx : a.eval x = .slice A ys.length c) (xs : List Int) (HO : OI W w6.heap.size v xs) (hR : RI Z w6 A c ys) (hlen : xs.length + ys.length ≤ 1000000)
    (h : ∀ v1 w1, OI w1 w6.heap.size v1 (xs ++ ys) → Below w6.heap.size w6 w1 → (∀ g u, W.cell? ⟨g, 0, none⟩ = some u → v.ownBlock ≠ some g → w1.cell? ⟨g, 0, none⟩ = some u) → K (a.put o.dst v1) w1) :
    if Region.wanted o (yielded ops a.tmps) = true then Oper.wp Try.prog o a W K Q else E :=
  step_appI hg s x ho v hs A c ys hx w6.heap.size xs HO (hR.below hBW).reads hlen hBW.size (fun v1 w1 e1 e2 _ => h v1 w1 e1 (grown_bel HO.new (Nat.le_refl _) hBW e2) (fun g u h1 h2 => cell_grown e2 h1 h2))
theorem step_app_one (hBW : Below w6.heap.size w6 W) (hg : o.guard = none) (s x : Operand) (ho : o.op = .call { callee := .builtin .append, args := #[s, x], argTypes := #[30, 30] }) (v : Value) (hs : a.eval s = v) (A : Option Addr) (c : Nat) (y : Int) (hx : a.eval x = .slice A 1 c) (xs : List Int) (HO : OI W w6.heap.size v xs) (hR : ReadsInt W .i64 A [y].length [y]) (hlen : xs.length + 1 ≤ 1000000) (hz : ∀ k, w6.heap.size ≤ k → Z k)
    (h : ∀ A1 c1 w1, RI Z w1 A1 c1 (xs ++ [y]) → Below w6.heap.size w6 w1 → K (a.put o.dst (.slice A1 (xs ++ [y]).length c1)) w1) :
    if Region.wanted o (yielded ops a.tmps) = true then Oper.wp Try.prog o a W K Q else E :=
  step_appI hg s x ho v hs A c [y] hx w6.heap.size xs HO hR hlen hBW.size (fun v1 w1 e1 e2 _ => by
    have hB := grown_bel HO.new (Nat.le_refl _) hBW e2
    obtain ⟨A1, c1, rfl, h1⟩ := e1.stands hz
    exact h A1 c1 w1 h1 hB)
end
end Go.Proofs.Ytlpganbcnhiidaa.Ep
end
section
namespace Go.Proofs.Ytlpganbcnhiidaa.Ep
open Go Go.RowKit Go.Proofs.YtlpganbcnhiidaaW.PrintWords Go.Proofs.YtlpganbcnhiidaaW.PrintLast Go.Proofs.YtlpganbcnhiidaaW.PrintMore Go.Proofs.Ytlpganbcnhiidaa.Own Go.Proofs.Ytlpganbcnhiidaa.Ord Go.Proofs.Ytlpganbcnhiidaa.P
set_option maxHeartbeats 4000000
set_option maxRecDepth 100000
def retireR (b : RB) (x : Int) : RB := { b with ws := b.ws ++ [x], ats := b.ats ++ [b.now], now := b.now + 1 }
theorem at_ws (b : RB) (A : Option Addr) (ca : Nat) (B : Option Addr) (cb : Nat) : (cellsB b A ca B cb)[132]? = some (.slice A b.ws.length ca) := cellsB_at _ _ _ _ _ (by omega)
theorem at_ats (b : RB) (A : Option Addr) (ca : Nat) (B : Option Addr) (cb : Nat) : (cellsB b A ca B cb)[133]? = some (.slice B b.ats.length cb) := cellsB_at _ _ _ _ _ (by omega)
theorem res1B {fn : Func} {p : Tmp} (h : fn.results = #[.cell p 32]) (tmps : Array Value) {w : World} {g : Nat} {cs : List Value} (hp : tmps.getD p undef = .pointer (some ⟨g, 0, none⟩)) (hg : w.heap[g]? = some (objB cs)) (hl : cs.length = 134) :
    (results fn tmps).run Try.prog w = .ok (.agg cs.toArray) w :=
  results_cell_row h tmps w g 32 cs.toArray (0, 0) _ hp hg Try.underlying32 rfl (by rw [infoB, List.size_toArray, hl])
theorem retire_ref {Z : Nat → Prop} {w : World} (hz : ∀ k, w.heap.size ≤ k → Z k) (b : RB) (A : Option Addr) (ca : Nat) (B : Option Addr) (cb : Nat) (hw : RI Z w A ca b.ws) (ha : RI Z w B cb b.ats) (hl1 : b.ws.length ≤ 100000) (hl2 : b.ats.length ≤ 100000) (x : Int) (hn : b.now + 1 ≤ 9223372036854775807) (hn0 : 0 ≤ b.now) :
    Calls Try.prog 15 #[.agg (cellsB b A ca B cb).toArray, .int .i64 x] w fun e w' => ∃ A' ca' B' cb', e = .returned (.agg (cellsB (retireR b x) A' ca' B' cb').toArray) ∧ RI Z w' A' ca' (b.ws ++ [x]) ∧ RI Z w' B' cb' (b.ats ++ [b.now]) ∧ Below w.heap.size w w' := by
  have hub := Try.underlying32
  have hb := blk_alloc (blk_new w (objB (cellsB b A ca B cb))) (objB (cellsB zb none 0 none 0))
  have hr := blk_new (w.alloc (objB (cellsB b A ca B cb))) (objB (cellsB zb none 0 none 0))
  have hB := below_alloc (below_alloc (Below.refl w.heap.size w) (objB (cellsB b A ca B cb))) (objB (cellsB zb none 0 none 0))
  rw [World.size_alloc] at hr
  have hs2 : ((w.alloc (objB (cellsB b A ca B cb))).alloc (objB (cellsB zb none 0 none 0))).heap.size = w.heap.size + 2 := by simp
  have hwi : wrap64 (b.now + 1) = b.now + 1 := IntWalk.wrap64_in _ (by omega)
  have hZ : ∀ k, (Z k ∧ k ≠ w.heap.size ∧ k ≠ w.heap.size + 1) → Z k := fun k hk => hk.1
  have hZn : ∀ k, w.heap.size + 2 ≤ k → (Z k ∧ k ≠ w.heap.size ∧ k ≠ w.heap.size + 1) := fun k hk => ⟨hz k (by omega), by omega, by omega⟩
  have hZg : ¬ (Z w.heap.size ∧ w.heap.size ≠ w.heap.size ∧ w.heap.size ≠ w.heap.size + 1) := fun q => q.2.1 rfl
  replace hw := hw.narrow (Z' := fun k => Z k ∧ k ≠ w.heap.size ∧ k ≠ w.heap.size + 1) (fun k h1 h2 => ⟨h1, by omega, by omega⟩)
  replace ha := ha.narrow (Z' := fun k => Z k ∧ k ≠ w.heap.size ∧ k ≠ w.heap.size + 1) (fun k h1 h2 => ⟨h1, by omega, by omega⟩)
  go_enter Try.func15, Try.ntmps15
  go_wp2_with (first
    | (refine boxB rfl _ rfl _ rfl ?_)
    | (refine allocB rfl rfl ?_; generalize (w.alloc (objB (cellsB b A ca B cb))).alloc (objB (cellsB zb none 0 none 0)) = w2 at hb hr hB hs2 ⊢; have c4 := (cellB hb 132).trans (at_ws _ _ _ _ _); have O1 := OI.lit w2 (w.heap.size + 2) (by omega); rw [hs2] at O1; have R1 := (hw.below hB).reads.below (below_alloc (Below.refl _ _) (.cells #[] 3)))
    | (at_builtin; refine list_appI rfl _ _ rfl _ rfl _ _ b.ws rfl _ [] O1 R1 (by simp; omega) (by simp; omega) ?_; intro v3 w3 O3 G3 A3; have hb3 := grown_blk O1.new (by omega) G3 (blk_alloc hb (.cells #[] 3)); have hr3 := grown_blk O1.new (by omega) G3 (blk_alloc hr (.cells #[] 3)); have hB3 := grown_bel O1.new (by omega) (below_alloc hB (.cells #[] 3)) G3; have O4 := O3.alloc (.cells #[.int .i64 x] 3); have hs3 := G3.size; simp [hs2] at hs3; clear O1 R1 G3 A3 hb hr hB)
    | (at_builtin; refine list_appI rfl _ _ rfl _ rfl _ _ [x] rfl _ _ O4 (reads_one _ _) (by simp; omega) (by simp; omega) ?_; intro v5 w5 O5 G5 _; rw [List.nil_append] at O5; obtain ⟨A5, c5, rfl, R5⟩ := O5.stands hZn; have hb5 := grown_blk O4.new (by omega) G5 (blk_alloc hb3 (.cells #[.int .i64 x] 3)); have hr5 := grown_blk O4.new (by omega) G5 (blk_alloc hr3 (.cells #[.int .i64 x] 3)); have hB5 := grown_bel O4.new (by omega) (below_alloc hB3 (.cells #[.int .i64 x] 3)) G5; have c5_ := (cellB hb5 132).trans (at_ws _ _ _ _ _); have f5_ := frozB hb5 132; clear O4 G5 hb3 hr3 hB3))
  have ha5 := ha.below hB5
  have eL : (b.ws ++ [x]).length = b.ws.length + 1 := by simp
  have R6 := R5.set hZg 132 (.slice A5 (b.ws.length + 1) c5)
  have ha6 := ha5.set hZg 132 (.slice A5 (b.ws.length + 1) c5)
  have hb6 : (w5.setCell ⟨w.heap.size, 132, none⟩ (.slice A5 (b.ws.length + 1) c5)).heap[w.heap.size]? = some (objB (cellsB { b with ws := b.ws ++ [x] } A5 c5 B cb)) := by
    have := objB_set hb5 132 (.slice A5 (b.ws.length + 1) c5)
    rw [← eL] at this ⊢
    rwa [set_ws] at this
  have hr6 : (w5.setCell ⟨w.heap.size, 132, none⟩ (.slice A5 (b.ws.length + 1) c5)).heap[w.heap.size + 1]? = some (objB (cellsB zb none 0 none 0)) := by rw [Below.heap_setCell _ _ _ _ (by simp)]; exact hr5
  have hB6 := below_set hB5 (Nat.le_refl _) (j := 132) (v := .slice A5 (b.ws.length + 1) c5)
  have hs6 : w.heap.size + 2 ≤ (w5.setCell ⟨w.heap.size, 132, none⟩ (.slice A5 (b.ws.length + 1) c5)).heap.size := by simp; have := hB5.size; have := (blk_lt hr5); omega
  generalize w5.setCell ⟨w.heap.size, 132, none⟩ (.slice A5 (b.ws.length + 1) c5) = w6 at R6 ha6 hb6 hr6 hB6 hs6 ⊢
  clear ha5 R5 hb5 hr5 hB5 c5_ f5_ hw ha
  have d1 := (cellB hb6 1).trans (at_now _ _ _ _ _)
  have d2 := (cellB hb6 133).trans (at_ats _ _ _ _ _)
  have d3 := frozB hb6 133
  have e1 : ∀ o, (w6.alloc o).cell? ⟨w.heap.size, 1, none⟩ = some (.int .i64 b.now) := fun o => cell_al o d1
  have e2 : ∀ o, (w6.alloc o).cell? ⟨w.heap.size, 133, none⟩ = some (.slice B b.ats.length cb) := fun o => cell_al o d2
  have e3 : ∀ o o', ((w6.alloc o).alloc o').cell? ⟨w.heap.size, 1, none⟩ = some (.int .i64 b.now) := fun o o' => cell_al o' (e1 o)
  have e4 : ∀ o o', ((w6.alloc o).alloc o').cell? ⟨w.heap.size, 133, none⟩ = some (.slice B b.ats.length cb) := fun o o' => cell_al o' (e2 o)
  have hZ6 : ∀ k, w6.heap.size ≤ k → (Z k ∧ k ≠ w.heap.size ∧ k ≠ w.heap.size + 1) := fun k hk => hZn k (by omega)
  replace R6 := R6.narrow (Z' := fun k => Z k ∧ k ≠ w.heap.size ∧ k ≠ w.heap.size + 1) (fun k h _ => h)
  have eM : (b.ats ++ [b.now]).length = b.ats.length + 1 := by simp
  have hLa : ([] : List Int).length + b.ats.length ≤ 1000000 := by simp; omega
  refine Code.wp_mono (Q := NoPanic (fun e a W => ∃ t13 t16 t19 A8 c8 w8, e = .normal ∧ a = { tmps := #[.agg (cellsB b A ca B cb).toArray, .int .i64 x, .pointer (some ⟨w.heap.size, 0, none⟩), undef, .pointer (some ⟨w.heap.size + 1, 0, none⟩), .slice (some ⟨w.heap.size + 2, 0, none⟩) 0 0, .pointer (some ⟨w.heap.size, 132, none⟩), .slice A b.ws.length ca, v3, .int .i64 x, .slice (some ⟨w3.heap.size, 0, none⟩) 1 1, .slice A5 (b.ws.length + 1) c5, .pointer (some ⟨w.heap.size, 132, none⟩), t13, .pointer (some ⟨w.heap.size, 133, none⟩), .slice B b.ats.length cb, t16, .pointer (some ⟨w.heap.size, 1, none⟩), .int .i64 b.now, t19, .slice A8 (b.ats.length + 1) c8, .pointer (some ⟨w.heap.size, 133, none⟩), undef, undef, undef, undef, undef], defers := [] } ∧ W = w8.setCell ⟨w.heap.size, 133, none⟩ (.slice A8 (b.ats.length + 1) c8) ∧ RI (fun k => Z k ∧ k ≠ w.heap.size ∧ k ≠ w.heap.size + 1) w8 A8 c8 (b.ats ++ [b.now]) ∧ Below w6.heap.size w6 w8)) ?q2 ?q1
  case q1 =>
    go_region_law (first
      | (refine step_app_one (w6 := w6) (by first | exact B7 | exact below_alloc B7 _) rfl _ _ rfl _ rfl _ _ b.now rfl b.ats (by first | exact O7 | exact O7.alloc _) (by first | exact reads_one _ _ | exact reads_cell (H7 _ _ (by simp) (by simp [Value.ownBlock]))) (by omega) hZ6 ?_; intro A8 c8 w8 R8 B8; have c8_ := (cellB (blk_below hb6 B8) 133).trans (at_ats _ _ _ _ _); have f8_ := frozB (blk_below hb6 B8) 133)
      | (refine step_app_row (w6 := w6) (by first | exact below_drew1 (below_alloc (Below.refl _ _) _) | exact below_drew1 (below_alloc (below_alloc (Below.refl _ _) _) _)) rfl _ _ rfl (.slice (some ⟨_, 0, none⟩) 0 0) rfl _ _ b.ats rfl [] (by first | exact OI.lit' _ _ _ rfl (Nat.le_refl _) | exact OI.lit' _ _ _ (World.size_alloc _ _) (Nat.le_succ _) | exact (OI.lit' _ _ _ rfl (Nat.le_refl _)).alloc _) ha6 hLa ?_; intro v7 w7 O7 B7 H7; rw [List.nil_append] at O7; have d7 := (cellB (blk_below hb6 B7) 1).trans (at_now _ _ _ _ _)))
    all_goals exact ⟨_, _, _, _, _, _, rfl, rfl, rfl, R8, B8⟩
  case q2 =>
    intro e_ a_ W_ h_
    obtain ⟨t13, t16, t19, A8, c8, w8, rfl, rfl, rfl, R8, B8⟩ := NoPanic.imp _ _ _ h_
    have hb8 := blk_below hb6 B8
    have hb9 : (w8.setCell ⟨w.heap.size, 133, none⟩ (.slice A8 (b.ats.length + 1) c8)).heap[w.heap.size]? = some (objB (cellsB { b with ws := b.ws ++ [x], ats := b.ats ++ [b.now] } A5 c5 A8 c8)) := by
      have := objB_set hb8 133 (.slice A8 (b.ats.length + 1) c8)
      rw [← eM] at this ⊢
      rwa [set_ats] at this
    have hr9 : (w8.setCell ⟨w.heap.size, 133, none⟩ (.slice A8 (b.ats.length + 1) c8)).heap[w.heap.size + 1]? = some (objB (cellsB zb none 0 none 0)) := by rw [Below.heap_setCell _ _ _ _ (by simp)]; exact blk_below hr6 B8
    have hB9 := below_set (below_then hB6 hB6.size B8) (Nat.le_refl _) (j := 133) (v := .slice A8 (b.ats.length + 1) c8)
    have R9 := (R6.below B8).set hZg 133 (.slice A8 (b.ats.length + 1) c8)
    have T9 := R8.set hZg 133 (.slice A8 (b.ats.length + 1) c8)
    generalize w8.setCell ⟨w.heap.size, 133, none⟩ (.slice A8 (b.ats.length + 1) c8) = w9 at hb9 hr9 hB9 R9 T9 ⊢
    have n1 := (cellB hb9 1).trans (at_now _ _ _ _ _)
    have n2 := frozB hb9 1
    have hb10 := objB_set hb9 1 (.int .i64 (b.now + 1))
    rw [set_now] at hb10
    have hr10 : (w9.setCell ⟨w.heap.size, 1, none⟩ (.int .i64 (b.now + 1))).heap[w.heap.size + 1]? = some (objB (cellsB zb none 0 none 0)) := by rw [Below.heap_setCell _ _ _ _ (by simp)]; exact hr9
    have hB10 := below_set hB9 (Nat.le_refl _) (j := 1) (v := .int .i64 (b.now + 1))
    have R10 := R9.set hZg 1 (.int .i64 (b.now + 1))
    have T10 := T9.set hZg 1 (.int .i64 (b.now + 1))
    clear R6 ha6 hb6 hr6 hB6 d1 d2 d3 e1 e2 e3 e4 R8 B8 hb8 h_
    go_wp2_with (first
      | (refine loadB rfl _ rfl _ rfl _ (by assumption) (cellsB_len _ _ _ _ _) ?_)
      | (refine storeB rfl _ _ rfl _ rfl _ _ rfl (by assumption) (cellsB_len _ _ _ _ _) (cellsB_len _ _ _ _ _) (cellsB_one _ _ _ _ _) ?_; rintro w11 hb11 hF11))
    refine bodyPost_ret (res1B rfl _ rfl hb11 (cellsB_len _ _ _ _ _)) rfl ?_
    have hZh : ¬ (Z (w.heap.size + 1) ∧ w.heap.size + 1 ≠ w.heap.size ∧ w.heap.size + 1 ≠ w.heap.size + 1) := fun q => q.2.2 rfl
    have st : ∀ k, (Z k ∧ k ≠ w.heap.size ∧ k ≠ w.heap.size + 1) → k < (w9.setCell ⟨w.heap.size, 1, none⟩ (.int .i64 (b.now + 1))).heap.size → w11.heap[k]? = (w9.setCell ⟨w.heap.size, 1, none⟩ (.int .i64 (b.now + 1))).heap[k]? := fun k h1 h2 => hF11.block k h2 (by simp; omega)
    exact ⟨A5, c5, A8, c8, rfl, (R10.step st).narrow (fun k h _ => h.1), (T10.step st).narrow (fun k h _ => h.1), bel_fr hB10 hF11 (by omega)⟩
end Go.Proofs.Ytlpganbcnhiidaa.Ep
end
section
namespace Go.Proofs.Ytlpganbcnhiidaa.Ep
open Go Go.RowKit Go.Proofs.YtlpganbcnhiidaaW.PrintWords Go.Proofs.YtlpganbcnhiidaaW.PrintLast Go.Proofs.YtlpganbcnhiidaaW.PrintMore Go.Proofs.Ytlpganbcnhiidaa.Own Go.Proofs.Ytlpganbcnhiidaa.Ord Go.Proofs.Ytlpganbcnhiidaa.P
set_option maxHeartbeats 4000000
set_option maxRecDepth 100000
structure T3 (W : World) (n : Nat) (u v x : Value) (lu lv lx : List Int) : Prop where
  o1 : OI W n u lu
  o2 : OI W n v lv
  o3 : OI W n x lx
  uv : NeRow u v
  vx : NeRow v x
  xu : NeRow x u
theorem T3.rot {W : World} {n : Nat} {u v x : Value} {lu lv lx : List Int} (h : T3 W n u v x lu lv lx) : T3 W n v x u lv lx lu := ⟨h.o2, h.o3, h.o1, h.vx, h.xu, h.uv⟩
theorem OI.below {W W' : World} {n : Nat} {v : Value} {xs : List Int} (h : OI W n v xs) (hb : Below W.heap.size W W') : OI W' n v xs :=
  own_other h (row := none) ⟨hb.os, hb.tape, hb.output, hb.size, fun k hk _ => hb.block k hk⟩ (by cases v.ownBlock <;> simp)
theorem T3.below {W W' : World} {n : Nat} {u v x : Value} {lu lv lx : List Int} (h : T3 W n u v x lu lv lx) (hb : Below W.heap.size W W') : T3 W' n u v x lu lv lx := ⟨h.o1.below hb, h.o2.below hb, h.o3.below hb, h.uv, h.vx, h.xu⟩
section
variable {w2 W : World} {ops : Array Oper} {rest : List Oper} {o : Oper} {a : Act} {Q : Exit → Act → World → Prop}
theorem list_app3 {u v x : Value} {lu lv lx : List Int} (hBW : Below w2.heap.size w2 W) (T : T3 W w2.heap.size u v x lu lv lx) (hg : o.guard = none) (s y : Operand) (ho : o.op = .call { callee := .builtin .append, args := #[s, y], argTypes := #[30, 30] }) (hs : a.eval s = u) (hx : a.eval y = .slice (some ⟨W.heap.size, 0, none⟩) 1 1) (z : Int) (hlen : lu.length + 1 ≤ 1000000)
    (h : ∀ u1 w1, T3 w1 w2.heap.size u1 v x (lu ++ [z]) lv lx → Below w2.heap.size w2 w1 → wpList Try.prog ops Q rest (a.put o.dst u1) w1) : wpList Try.prog ops Q (o :: rest) a (W.alloc (.cells #[.int .i64 z] 3)) := by
  have hB1 := below_alloc hBW (.cells #[.int .i64 z] 3)
  refine list_appI hg s y ho u hs _ _ [z] hx w2.heap.size lu (T.o1.alloc _) (reads_one W z) hlen hB1.size ?_
  intro u1 w1 O1 G1 A1
  refine h u1 w1 ⟨O1, own_other (T.o2.alloc _) G1 (ne_other T.uv), own_other (T.o3.alloc _) G1 (ne_other (ne_symm T.xu)), ?_, T.vx, ?_⟩ (grown_bel T.o1.new (Nat.le_refl _) hB1 G1)
  · exact ne_append T.uv A1 (T.o2.alloc _)
  · exact ne_append' T.xu A1 (T.o3.alloc _)
end
def outL (b : RB) (m : Int) (i : Nat) : List Int := (((b.ws.zip b.ats).take i).filter (fun p => decide (p.2 < m))).map (·.1)
def wtL (b : RB) (m : Int) (i : Nat) : List Int := (((b.ws.zip b.ats).take i).filter (fun p => !decide (p.2 < m))).map (·.1)
def atL (b : RB) (m : Int) (i : Nat) : List Int := (((b.ws.zip b.ats).take i).filter (fun p => !decide (p.2 < m))).map (·.2)
def readyR (b : RB) : RB := { b with ws := wtL b (lst b 64) b.ws.length, ats := atL b (lst b 64) b.ws.length }
def readyL (b : RB) : List Int := outL b (lst b 64) b.ws.length
theorem take_next (b : RB) (hl : b.ws.length = b.ats.length) (i : Nat) (hi : i < b.ws.length) : (b.ws.zip b.ats).take (i + 1) = (b.ws.zip b.ats).take i ++ [(b.ws.getD i 0, b.ats.getD i 0)] := by
  rw [List.take_add_one]
  have h1 : b.ws[i]? = some (b.ws.getD i 0) := by rw [List.getD_eq_getElem?_getD, List.getElem?_eq_getElem hi]; rfl
  have h2 : b.ats[i]? = some (b.ats.getD i 0) := by rw [List.getD_eq_getElem?_getD, List.getElem?_eq_getElem (by omega)]; rfl
  have : (b.ws.zip b.ats)[i]? = some (b.ws.getD i 0, b.ats.getD i 0) := by
    rw [List.getElem?_zip_eq_some]
    exact ⟨h1, h2⟩
  rw [this]
  rfl
theorem filter_one {α : Type} (p : α → Bool) (x : α) : [x].filter p = if p x = true then [x] else [] := by cases h : p x <;> simp [h]
theorem next_yes (b : RB) (hl : b.ws.length = b.ats.length) (m : Int) (i : Nat) (hi : i < b.ws.length) (h : b.ats.getD i 0 < m) : outL b m (i + 1) = outL b m i ++ [b.ws.getD i 0] ∧ wtL b m (i + 1) = wtL b m i ∧ atL b m (i + 1) = atL b m i := by
  unfold outL wtL atL
  rw [take_next b hl i hi, List.filter_append, List.filter_append, filter_one, filter_one]
  simp only [decide_eq_true h, Bool.not_true, Bool.not_false, if_true, Bool.false_eq_true, if_false, List.map_append, List.append_nil, List.map_cons, List.map_nil, and_self]
theorem next_no (b : RB) (hl : b.ws.length = b.ats.length) (m : Int) (i : Nat) (hi : i < b.ws.length) (h : ¬ b.ats.getD i 0 < m) : outL b m (i + 1) = outL b m i ∧ wtL b m (i + 1) = wtL b m i ++ [b.ws.getD i 0] ∧ atL b m (i + 1) = atL b m i ++ [b.ats.getD i 0] := by
  unfold outL wtL atL
  rw [take_next b hl i hi, List.filter_append, List.filter_append, filter_one, filter_one]
  simp only [decide_eq_false h, Bool.not_true, Bool.not_false, if_true, Bool.false_eq_true, if_false, List.map_append, List.append_nil, List.map_cons, List.map_nil, and_self]
theorem outL_len (b : RB) (m : Int) (i : Nat) : (outL b m i).length ≤ i ∧ (wtL b m i).length ≤ i ∧ (atL b m i).length ≤ i := by
  unfold outL wtL atL
  refine ⟨?_, ?_, ?_⟩ <;> (rw [List.length_map]; refine Nat.le_trans (List.length_filter_le _ _) ?_; rw [List.length_take]; exact Nat.min_le_left _ _)
theorem ready_ref {Z : Nat → Prop} {w : World} (hz : ∀ k, w.heap.size ≤ k → Z k) (b : RB) (A : Option Addr) (ca : Nat) (B : Option Addr) (cb : Nat) (hw : RI Z w A ca b.ws) (ha : RI Z w B cb b.ats) (hl1 : b.ws.length ≤ 100000) (hl : b.ws.length = b.ats.length) :
    Calls Try.prog 18 #[.agg (cellsB b A ca B cb).toArray] w fun e w' => ∃ A' ca' B' cb' C cc, e = .returned (.tuple #[.agg (cellsB (readyR b) A' ca' B' cb').toArray, .slice C (readyL b).length cc]) ∧ RI Z w' A' ca' (readyR b).ws ∧ RI Z w' B' cb' (readyR b).ats ∧ RI Z w' C cc (readyL b) ∧ Below w.heap.size w w' := by
  have hub := Try.underlying32
  have hb := blk_alloc (blk_new w (objB (cellsB b A ca B cb))) (objB (cellsB zb none 0 none 0))
  have hr := blk_new (w.alloc (objB (cellsB b A ca B cb))) (objB (cellsB zb none 0 none 0))
  have hB := below_alloc (below_alloc (Below.refl w.heap.size w) (objB (cellsB b A ca B cb))) (objB (cellsB zb none 0 none 0))
  rw [World.size_alloc] at hr
  have hs2 : ((w.alloc (objB (cellsB b A ca B cb))).alloc (objB (cellsB zb none 0 none 0))).heap.size = w.heap.size + 2 := by simp
  replace hw := (hw.narrow (Z' := fun k => Z k ∧ k ≠ w.heap.size ∧ k ≠ w.heap.size + 1) (fun k h1 h2 => ⟨h1, by omega, by omega⟩)).below hB
  replace ha := (ha.narrow (Z' := fun k => Z k ∧ k ≠ w.heap.size ∧ k ≠ w.heap.size + 1) (fun k h1 h2 => ⟨h1, by omega, by omega⟩)).below hB
  go_enter Try.func18, Try.ntmps18
  go_wp2_with (first
    | (refine boxB rfl _ rfl _ rfl ?_)
    | (refine allocB rfl rfl ?_; generalize (w.alloc (objB (cellsB b A ca B cb))).alloc (objB (cellsB zb none 0 none 0)) = w2 at hb hr hB hs2 hw ha ⊢; have O1 := OI.lit' w2 w2.heap.size (w.heap.size + 2) hs2 (by omega); have O2 := OI.lit' (w2.alloc (.cells #[] 3)) w2.heap.size (w.heap.size + 2 + 1) (by simp [hs2]) (by omega); have O3 := OI.lit' ((w2.alloc (.cells #[] 3)).alloc (.cells #[] 3)) w2.heap.size (w.heap.size + 2 + 1 + 1) (by simp [hs2]) (by omega); have T : T3 (((w2.alloc (.cells #[] 3)).alloc (.cells #[] 3)).alloc (.cells #[] 3)) w2.heap.size _ _ _ [] [] [] := ⟨(O1.alloc _).alloc _, O2.alloc _, O3, by intro k h1 h2; simp [Value.ownBlock] at h1 h2; omega, by intro k h1 h2; simp [Value.ownBlock] at h1 h2; omega, by intro k h1 h2; simp [Value.ownBlock] at h1 h2; omega⟩; have B3 := below_alloc (below_alloc (below_alloc (Below.refl w2.heap.size w2) (.cells #[] 3)) (.cells #[] 3)) (.cells #[] 3); have hb3 := blk_below hb B3; have LS := least_ref (w := ((w2.alloc (.cells #[] 3)).alloc (.cells #[] 3)).alloc (.cells #[] 3)) b A ca B cb; clear O1 O2 O3)
    | (refine loadB rfl _ rfl _ rfl _ (by assumption) (cellsB_len _ _ _ _ _) ?_)
    | (go_at_call 28; refine LS.mono ?_; clear LS; rintro e w4 ⟨rfl, hB4⟩; have T4 := Aside0.mk (T.below hB4); have B4 := Aside0.mk (below_then B3 B3.size hB4); clear T B3 hb3 hB4))
  go_loopg [4, 5, 6, 8] b.ws.length (fun g vo vw va iv wr => ∃ i : Int, iv = .int .i64 i ∧ Aside0 (0 ≤ i ∧ i.toNat + g = b.ws.length) ∧ Aside0 (T3 wr w2.heap.size vo vw va (outL b (lst b 64) i.toNat) (wtL b (lst b 64) i.toNat) (atL b (lst b 64) i.toNat)) ∧ Aside0 (Below w2.heap.size w2 wr))
  case atStart => exact ⟨0, rfl, ⟨Int.le_refl _, by simp⟩, T4, B4⟩
  case round =>
    clear T4 B4
    obtain ⟨i, rfl, hiA, hT, hBr⟩ := hrel
    obtain ⟨hi0, hig⟩ := hiA.out
    have hbr := blk_below hb hBr.out
    have c132 := (cellB hbr 132).trans (at_ws _ _ _ _ _)
    have c133 := (cellB hbr 133).trans (at_ats _ _ _ _ _)
    by_cases hA : i < (b.ws.length : Int)
    · cases gk with
      | zero => omega
      | succ g =>
        have hA2 : i < (b.ats.length : Int) := by omega
        obtain ⟨ad, rfl, hx⟩ := (hw.below hBr.out).reads.at_ i hi0 hA
        obtain ⟨bd, rfl, hy⟩ := (ha.below hBr.out).reads.at_ i hi0 hA2
        have d0 := decide_eq_true hi0
        have d1 := decide_eq_true hA
        have d2 := decide_eq_true hA2
        have p0 := eq_true hi0
        have p1 := eq_true hA
        have p2 := eq_true hA2
        have hwi : wrap64 (i + 1) = i + 1 := IntWalk.wrap64_in _ (by omega)
        have hlen := outL_len b (lst b 64) i.toNat
        have hbd : i.toNat ≤ 100000 := by omega
        have hA2A := Aside0.mk hA2
        by_cases hlt : b.ats.getD i.toNat 0 < lst b 64
        · have dl : decide (rd b.ats i < lst b 64) = true := decide_eq_true hlt
          have hnx := Aside0.mk (next_yes b hl (lst b 64) i.toNat (by omega) hlt)
          clear hlt hi0 hig hA hA2 hl1 hl hr
          go_wp2_with (at_builtin; refine list_app3 (w2 := w2) hBr.out hT.out rfl _ _ rfl rfl rfl _ (by have := hiA.out; omega) ?_; intro u1 w5 T5 B5)
          go_roundg g
          case measure => omega
          case rel => exact ⟨i + 1, by first | rfl | rw [hwi], ⟨by have := hiA.out; omega, by have := hiA.out; omega⟩, ⟨by rw [show (i + 1).toNat = i.toNat + 1 by have := hiA.out; omega, hnx.out.1, hnx.out.2.1, hnx.out.2.2]; exact T5⟩, ⟨B5⟩⟩
        · have dl : decide (rd b.ats i < lst b 64) = false := decide_eq_false hlt
          have hnx := Aside0.mk (next_no b hl (lst b 64) i.toNat (by omega) hlt)
          clear hlt hi0 hig hA hA2 hl1 hl hr
          go_wp2_with (first
            | (at_builtin; refine list_app3 (w2 := w2) hBr.out hT.out.rot rfl _ _ rfl rfl rfl _ (by have := hiA.out; omega) ?_; intro u1 w5 T5 B5; clear hT hBr c132 c133 hx hy hbr; have hbr := blk_below hb B5; have c133 := (cellB hbr 133).trans (at_ats _ _ _ _ _); obtain ⟨bd', hbd', hy⟩ := (ha.below B5).reads.at_ i hiA.out.1 hA2A.out; cases hbd')
            | (at_builtin; refine list_app3 (w2 := w2) B5 T5.rot rfl _ _ rfl rfl rfl _ (by have := hiA.out; omega) ?_; intro u2 w6 T6 B6))
          go_roundg g
          case measure => omega
          case rel => exact ⟨i + 1, by first | rfl | rw [hwi], ⟨by have := hiA.out; omega, by have := hiA.out; omega⟩, ⟨by rw [show (i + 1).toNat = i.toNat + 1 by have := hiA.out; omega, hnx.out.1, hnx.out.2.1, hnx.out.2.2]; exact T6.rot⟩, ⟨B6⟩⟩
    · have d1 := decide_eq_false hA
      have ei : i.toNat = b.ws.length := by omega
      rw [ei] at hT
      have hZn : ∀ k, w2.heap.size ≤ k → (Z k ∧ k ≠ w.heap.size ∧ k ≠ w.heap.size + 1) := fun k hk => ⟨hz k (by omega), by omega, by omega⟩
      have hZg : ¬ (Z w.heap.size ∧ w.heap.size ≠ w.heap.size ∧ w.heap.size ≠ w.heap.size + 1) := fun q => q.2.1 rfl
      obtain ⟨C, cc, rfl, Ro⟩ := hT.out.o1.stands hZn
      obtain ⟨A', ca', rfl, Rw⟩ := hT.out.o2.stands hZn
      obtain ⟨B', cb', rfl, Ra⟩ := hT.out.o3.stands hZn
      have f132 := frozB hbr 132
      have f133 := frozB hbr 133
      have hb5 := objB_set (objB_set hbr 132 (.slice A' (wtL b (lst b 64) b.ws.length).length ca')) 133 (.slice B' (atL b (lst b 64) b.ws.length).length cb')
      rw [set_ws, set_ats] at hb5
      have hrr := blk_below hr hBr.out
      have hr5 : ((wr.setCell ⟨w.heap.size, 132, none⟩ (.slice A' (wtL b (lst b 64) b.ws.length).length ca')).setCell ⟨w.heap.size, 133, none⟩ (.slice B' (atL b (lst b 64) b.ws.length).length cb')).heap[w.heap.size + 1]? = some (objB (cellsB zb none 0 none 0)) := by rw [Below.heap_setCell _ _ _ _ (by simp), Below.heap_setCell _ _ _ _ (by simp)]; exact hrr
      have hB5 := below_set (below_set (below_then hB hB.size hBr.out) (Nat.le_refl _) (j := 132) (v := .slice A' (wtL b (lst b 64) b.ws.length).length ca')) (Nat.le_refl _) (j := 133) (v := .slice B' (atL b (lst b 64) b.ws.length).length cb')
      have Ro5 := (Ro.set hZg 132 (.slice A' (wtL b (lst b 64) b.ws.length).length ca')).set hZg 133 (.slice B' (atL b (lst b 64) b.ws.length).length cb')
      have Rw5 := (Rw.set hZg 132 (.slice A' (wtL b (lst b 64) b.ws.length).length ca')).set hZg 133 (.slice B' (atL b (lst b 64) b.ws.length).length cb')
      have Ra5 := (Ra.set hZg 132 (.slice A' (wtL b (lst b 64) b.ws.length).length ca')).set hZg 133 (.slice B' (atL b (lst b 64) b.ws.length).length cb')
      clear hT hBr hrr hA hig hi0 hl1 hl ei
      go_wp2_with (first
        | (refine loadB rfl _ rfl _ rfl _ (by assumption) (cellsB_len _ _ _ _ _) ?_)
        | (refine storeB rfl _ _ rfl _ rfl _ _ rfl (by assumption) (cellsB_len _ _ _ _ _) (cellsB_len _ _ _ _ _) (cellsB_one _ _ _ _ _) ?_; rintro w11 hb11 hF11))
      refine bodyPost_ret (resB rfl _ rfl hb11 (cellsB_len _ _ _ _ _)) rfl ?_
      have st : ∀ k, (Z k ∧ k ≠ w.heap.size ∧ k ≠ w.heap.size + 1) → k < ((wr.setCell ⟨w.heap.size, 132, none⟩ (.slice A' (wtL b (lst b 64) b.ws.length).length ca')).setCell ⟨w.heap.size, 133, none⟩ (.slice B' (atL b (lst b 64) b.ws.length).length cb')).heap.size → w11.heap[k]? = _ := fun k h1 h2 => hF11.block k h2 (by simp; omega)
      exact ⟨A', ca', B', cb', C, cc, rfl, (Rw5.step st).narrow (fun k h _ => h.1), (Ra5.step st).narrow (fun k h _ => h.1), (Ro5.step st).narrow (fun k h _ => h.1), bel_fr hB5 hF11 (by omega)⟩
end Go.Proofs.Ytlpganbcnhiidaa.Ep
end
section
namespace Go.Proofs.Ytlpganbcnhiidaa.It
open Go Go.RowKit
structure FrM (M : Nat → Prop) (w w' : World) : Prop where
  os : w'.os = w.os
  tape : w'.tape = w.tape
  output : w'.output = w.output
  size : w.heap.size ≤ w'.heap.size
  block : ∀ k, k < w.heap.size → ¬ M k → w'.heap[k]? = w.heap[k]?
namespace FrM
variable {M M' : Nat → Prop} {w w1 w2 : World}
theorem refl (M : Nat → Prop) (w : World) : FrM M w w := ⟨rfl, rfl, rfl, Nat.le_refl _, fun _ _ _ => rfl⟩
theorem trans (h : FrM M w w1) (k : FrM M' w1 w2) (hM : ∀ i, M' i → M i ∨ w.heap.size ≤ i) : FrM M w w2 :=
  ⟨k.os.trans h.os, k.tape.trans h.tape, k.output.trans h.output, Nat.le_trans h.size k.size, fun i hi hn =>
    (k.block i (Nat.lt_of_lt_of_le hi h.size) (fun hc => by rcases hM i hc with q | q; exact hn q; omega)).trans (h.block i hi hn)⟩
theorem mono (h : FrM M w w1) (hM : ∀ i, M i → M' i ∨ w.heap.size ≤ i) : FrM M' w w1 :=
  ⟨h.os, h.tape, h.output, h.size, fun i hi hn => h.block i hi (fun hc => by rcases hM i hc with q | q; exact hn q; omega)⟩
theorem of_below (h : Below w.heap.size w w1) : FrM M w w1 := ⟨h.os, h.tape, h.output, h.size, fun k hk _ => h.block k hk⟩
theorem below (h : FrM M w w1) {base : Nat} (hM : ∀ k, M k → base ≤ k) (hb : base ≤ w.heap.size) : Below base w w1 :=
  ⟨h.os, h.tape, h.output, h.size, fun k hk => h.block k (by omega) (fun hm => by have := hM k hm; omega)⟩
theorem blk (h : FrM M w w1) {g : Nat} {o : Obj} (hg : w.heap[g]? = some o) (hn : ¬ M g) : w1.heap[g]? = some o := (h.block g (Array.getElem?_eq_some_iff.1 hg).1 hn).trans hg
theorem drewN (h : FrM M w w1) (n : Nat) : FrM M w (w1.drewN n) := ⟨h.os, h.tape, h.output, h.size, h.block⟩
theorem alloc (h : FrM M w w1) (o : Obj) : FrM M w (w1.alloc o) := h.trans (of_below (M := fun _ => False) ((Below.refl _ w1).alloc (Nat.le_refl _) o)) (fun _ q => q.elim)
theorem grown {row : Option Nat} (hg : w.grownBy w1 row) (hr : ∀ r, row = some r → M r ∨ w.heap.size ≤ r) : FrM M w w1 :=
  ⟨hg.os, hg.tape, hg.output, hg.size, fun k hk hn => hg.block k hk (fun e => by rcases hr k e.symm with q | q; exact hn q; omega)⟩
end FrM
variable {F : Fence} {n : Nat} {P : Program}
end Go.Proofs.Ytlpganbcnhiidaa.It
end
section
namespace Go.Proofs.Ytlpganbcnhiidaa.Ep
open Go Go.RowKit Go.Maps Go.Proofs.YtlpganbcnhiidaaW.PrintWords Go.Proofs.YtlpganbcnhiidaaW.PrintLast Go.Proofs.YtlpganbcnhiidaaW.PrintMore Go.Proofs.Ytlpganbcnhiidaa.Own Go.Proofs.Ytlpganbcnhiidaa.Ord
abbrev X := Int
def x0 : X := 0
def restV (x : X) : Value := .int .i64 x
def restD (x : X) : DataW Unit := .lit (.int .i64 x)
def restR (v : Value) : Option (DataW Unit × List MemPlace) :=
  match v with
  | .int .i64 z => some (restD z, [])
  | _ => none
theorem restR_mk (x : X) : restR (restV x) = some (restD x, []) := rfl
theorem restD_inj {x y : X} (h : restD x = restD y) : x = y := by
  simp only [restD, DataW.lit.injEq, Lit.int.injEq] at h
  exact h.2
theorem restR_inv {v : Value} {d : DataW Unit} {ps : List MemPlace} (h : restR v = some (d, ps)) : ∃ x, v = restV x ∧ d = restD x := by
  unfold restR at h
  split at h
  · rename_i z
    cases h
    exact ⟨z, rfl, rfl⟩
  · cases h
def key (k : Int) : Lit := .int .i64 k
theorem key_inj {a b : Int} (h : key a = key b) : a = b := by cases h; rfl
def Fits (D : DataW Unit) (F : Int → Option X) : Prop := ∀ k, has D (key k) = (F k).isSome ∧ ∀ x, F k = some x → ∀ z, D.atKey (key k) z = restD x
def upd (F : Int → Option X) (n : Int) (x : Option X) : Int → Option X := fun k => if k = n then x else F k
theorem upd_same (F : Int → Option X) (n : Int) (x : Option X) : upd F n x n = x := if_pos rfl
theorem upd_other (F : Int → Option X) {n k : Int} (h : k ≠ n) (x : Option X) : upd F n x k = F k := if_neg h
theorem Fits.empty : Fits (.map []) (fun _ => none) := fun k => ⟨rfl, fun x h => by cases h⟩
theorem Fits.put {D : DataW Unit} {F : Int → Option X} (h : Fits D F) (hD : IsMap D) (n : Int) (x : X) : Fits (D.put (key n) (restD x)) (upd F n (some x)) := fun k => by
  by_cases hk : k = n
  · subst hk
    rw [upd_same]
    exact ⟨has_put_same hD (by simp [key, WideAt.IsKeyLit]) _, fun y hy z => by cases hy; exact atKey_put_same hD (by simp [key, WideAt.IsKeyLit]) _ _⟩
  · have hne : key k ≠ key n := fun e => hk (key_inj e)
    rw [upd_other F hk]
    exact ⟨by rw [has_put_other hne]; exact (h k).1, fun y hy z => by rw [atKey_put_other hne]; exact (h k).2 y hy z⟩
theorem Fits.del {D : DataW Unit} {F : Int → Option X} (h : Fits D F) (n : Int) : Fits (D.del (key n)) (upd F n none) := fun k => by
  by_cases hk : k = n
  · subst hk
    rw [upd_same]
    exact ⟨has_del_same, fun y hy => by cases hy⟩
  · have hne : key k ≠ key n := fun e => hk (key_inj e)
    rw [upd_other F hk]
    exact ⟨by rw [has_del_other hne]; exact (h k).1, fun y hy z => by rw [atKey_del_other hne]; exact (h k).2 y hy z⟩
def TM (w : World) (b n : Nat) (F : Int → Option X) (c : Nat) : Prop := ∃ D, w.ownsMap Try.prog 3 restR b n D ∧ Fits D F ∧ size D = c
theorem law : Keyed Try.prog 3 := int_keyed Try.underlying3
theorem wf_key {k : Int} (h : (Lit.int .i64 k).wf = true) : keyOf Try.prog 3 (.int .i64 k) = some (key k) := keyOf_int_mk Try.underlying3 h
theorem zeroE (w : World) : (zeroValue 3).run Try.prog w = .ok (restV x0) w := by kernel_rfl
theorem TM.lt {w : World} {b n : Nat} {F : Int → Option X} {c : Nat} (h : TM w b n F c) : b < w.heap.size := by obtain ⟨D, h1, _⟩ := h; exact h1.lt
theorem TM.fr {w w' : World} {b n : Nat} {F : Int → Option X} {c : Nat} (h : TM w b n F c) {B : List Nat} (f : Fr B w w') (hb : b ∉ B) : TM w' b n F c := by
  obtain ⟨D, h1, h2, h3⟩ := h
  have hl := h1.lt
  obtain ⟨es, clock, hb1, r⟩ := h1
  exact ⟨D, ⟨es, clock, (f.block b hl hb).trans hb1, r⟩, h2, h3⟩
theorem TM.mono {w : World} {b n n' : Nat} {F : Int → Option X} {c : Nat} (h : TM w b n F c) (hn : n ≤ n') : TM w b n' F c := by
  obtain ⟨D, h1, h2, h3⟩ := h
  exact ⟨D, h1.mono hn, h2, h3⟩
theorem TM.made (w : World) : TM (w.alloc (.map #[] 0)) w.heap.size 0 (fun _ => none) 0 := ⟨_, World.ownsMap_made w _ _ _, Fits.empty, rfl⟩
theorem Fr.of_turned {w w' : World} {b : Nat} (h : w.mapTurned w' b) : Fr [b] w w' := by
  have g := h.grown
  exact ⟨g.os, g.tape, g.output, g.size, fun k hk hn => g.block k hk (fun e => hn (by cases e; simp))⟩
section
variable (w : World) {ops : Array Oper} {rest : List Oper} {o : Oper} {a : Act} {Q : Exit → Act → World → Prop}
theorem look (hg : o.guard = none) (m x : Operand) (hop : o.op = Op.lookup 56 m x true) (b n : Nat) (F : Int → Option X) (c : Nat)
    (hm : a.eval m = .map (some b)) (hT : TM w b n F c) (k : Int) (hx : a.eval x = .int .i64 k) (hk : (Lit.int .i64 k).wf = true)
    (hK : wpList Try.prog ops Q rest (a.put o.dst (.tuple #[restV ((F k).getD x0), .bool (F k).isSome])) w) : wpList Try.prog ops Q (o :: rest) a w := by
  obtain ⟨D, h1, h2, _⟩ := hT
  refine wpList_lookup_own_ok w hg m x _ hop _ _ law Try.underlying56 restR (zeroE w) (restD x0) [] (restR_mk x0) b n D hm h1 _ _ hx (wf_key hk) (fun v ps hv => ?_)
  rw [(h2 k).1]
  obtain ⟨y, rfl, hy⟩ := restR_inv hv
  have e : y = (F k).getD x0 := by
    cases hF : F k with
    | none =>
      have h3 := (h2 k).1
      rw [hF] at h3
      rw [atKey_of_not_has h3] at hy
      exact (restD_inj hy).symm
    | some z =>
      rw [(h2 k).2 z hF] at hy
      exact (restD_inj hy).symm
  rw [e]
  exact hK
theorem store (hg : o.guard = none) (m x v : Operand) (hop : o.op = Op.mapUpdate 56 m x v) (b n : Nat) (F : Int → Option X) (c : Nat)
    (hm : a.eval m = .map (some b)) (hT : TM w b n F c) (hn : n < 1000000) (k : Int) (hx : a.eval x = .int .i64 k) (hk : (Lit.int .i64 k).wf = true) (y : X) (hv : a.eval v = restV y)
    (hK : ∀ w', TM w' b (n + 1) (upd F k (some y)) (if (F k).isSome then c else c + 1) → Fr [b] w w' → wpList Try.prog ops Q rest (a.put o.dst undef) w') : wpList Try.prog ops Q (o :: rest) a w := by
  obtain ⟨D, h1, h2, h3⟩ := hT
  refine wpList_mapUpdate_in w hg m x v _ hop _ _ law Try.underlying56 restR b n D hm h1 (by unfold maxLen; omega) _ _ _ hx hv (wf_key hk) (restD y) [] (restR_mk y) (fun w' r1 r2 => ?_)
  refine hK w' ⟨_, r1, h2.put h1.isMap k y, ?_⟩ (Fr.of_turned r2)
  rw [size_put (h1.tidy law), (h2 k).1, h3]
theorem drop (hg : o.guard = none) (m x : Operand) (hop : o.op = Op.call { callee := Callee.builtin Builtin.delete, args := #[m, x], argTypes := #[56, 3] }) (b n : Nat) (F : Int → Option X) (c : Nat)
    (hm : a.eval m = .map (some b)) (hT : TM w b n F c) (k : Int) (hx : a.eval x = .int .i64 k) (hk : (Lit.int .i64 k).wf = true)
    (hK : ∀ w', (∀ d, d + (if (F k).isSome then 1 else 0) = c → TM w' b n (upd F k none) d) → Fr [b] w w' → wpList Try.prog ops Q rest (a.put o.dst (.tuple #[])) w') : wpList Try.prog ops Q (o :: rest) a w := by
  obtain ⟨D, h1, h2, h3⟩ := hT
  refine wpList_delete_own w hg m x _ _ hop _ law Try.underlying56 restR b n D hm h1 _ _ hx (wf_key hk) (fun w' r1 r2 => ?_)
  refine hK w' (fun d hd => ⟨_, r1, h2.del k, ?_⟩) (Fr.of_turned r2)
  have := size_del (k := key k) (h1.tidy law)
  rw [(h2 k).1, h3] at this
  omega
theorem lenOf (hg : o.guard = none) (m : Operand) (hop : o.op = Op.call { callee := Callee.builtin Builtin.len, args := #[m], argTypes := #[56] }) (b n : Nat) (F : Int → Option X) (c : Nat)
    (hm : a.eval m = .map (some b)) (hT : TM w b n F c) (hK : wpList Try.prog ops Q rest (a.put o.dst (.int .i64 c)) w) : wpList Try.prog ops Q (o :: rest) a w := by
  obtain ⟨D, h1, h2, h3⟩ := hT
  refine wpList_len_own w hg m _ hop _ _ Try.underlying56 restR b n D hm h1 ?_
  rw [h3]
  exact hK
end
end Go.Proofs.Ytlpganbcnhiidaa.Ep
end
section
namespace Go.Proofs.Ytlpganbcnhiidaa.Ep
open Go Go.RowKit Go.Maps Go.Proofs.YtlpganbcnhiidaaW.PrintWords Go.Proofs.YtlpganbcnhiidaaW.PrintLast Go.Proofs.YtlpganbcnhiidaaW.PrintMore Go.Proofs.Ytlpganbcnhiidaa.Own Go.Proofs.Ytlpganbcnhiidaa.Ord Go.Proofs.Ytlpganbcnhiidaa.P
set_option maxHeartbeats 2000000
set_option maxRecDepth 100000
def inF (b : RB) (k : Int) : Option Int := if 1 ≤ k ∧ k ≤ b.s ∧ b.I k.toNat = true then some (b.S k.toNat) else none
def cellsT (ts : List (Int × Int)) : List Value := ts.flatMap fun p => [.int .i64 p.1, .int .i64 p.2]
def OT (w : World) (v : Value) (ts : List (Int × Int)) : Prop := w.ownsRow 0 65 2 v ts.length (cellsT ts)
structure Bk (M : Nat → Prop) (w : World) (p m : Nat) (v : Value) (b : RB) (n : Nat) : Prop where
  blk : w.heap[p]? = some (.cells #[.int .i64 b.s, .int .i64 b.now, .map (some m), v] 59 (0, 0))
  map : ∃ c, TM w m n (inF b) c
  row : OT w v (b.ws.zip b.ats)
  mp : M p
  mm : M m
  mv : ∀ k, v.ownBlock = some k → M k
theorem OT.frm {w w' : World} {v : Value} {ts : List (Int × Int)} (h : OT w v ts) {M : Nat → Prop} (f : It.FrM M w w') (hv : ∀ k, v.ownBlock = some k → ¬ M k) : OT w' v ts := by
  rcases h.2 with ⟨e, h0⟩ | ⟨g, cap, cur, e, hg, hh, hnc, hm, hcs, htk⟩
  · exact ⟨h.1, .inl ⟨e, h0⟩⟩
  · exact ⟨h.1, .inr ⟨g, cap, cur, e, hg, f.blk hh (hv g (by rw [e]; rfl)), hnc, hm, hcs, htk⟩⟩
theorem TM.frm {w w' : World} {m n c : Nat} {F : Int → Option X} (h : TM w m n F c) {M : Nat → Prop} (f : It.FrM M w w') (hm : ¬ M m) : TM w' m n F c := by
  obtain ⟨D, h1, h2, h3⟩ := h
  have hl := h1.lt
  obtain ⟨es, clock, hb1, r⟩ := h1
  exact ⟨D, ⟨es, clock, f.blk hb1 hm, r⟩, h2, h3⟩
theorem Bk.frm {M M2 : Nat → Prop} {w w' : World} {p m n : Nat} {v : Value} {b : RB} (h : Bk M w p m v b n) (f : It.FrM M2 w w') (hd : ∀ k, M k → ¬ M2 k) : Bk M w' p m v b n :=
  ⟨f.blk h.blk (hd p h.mp), h.map.elim (fun c q => ⟨c, q.frm f (hd m h.mm)⟩), h.row.frm f (fun k hk => hd k (h.mv k hk)), h.mp, h.mm, h.mv⟩
theorem Bk.below {M : Nat → Prop} {w w' : World} {p m n : Nat} {v : Value} {b : RB} (h : Bk M w p m v b n) (hb : Below w.heap.size w w') : Bk M w' p m v b n :=
  h.frm (M2 := fun _ => False) (It.FrM.of_below hb) (fun _ _ q => q)
theorem Bk.ne {M : Nat → Prop} {w : World} {p m n : Nat} {v : Value} {b : RB} (h : Bk M w p m v b n) : p ≠ m := by
  rintro rfl
  obtain ⟨c, D, ⟨es, clock, hb, _⟩, _⟩ := h.map
  rw [h.blk] at hb
  cases hb
theorem Bk.lt {M : Nat → Prop} {w : World} {p m n : Nat} {v : Value} {b : RB} (h : Bk M w p m v b n) : p < w.heap.size ∧ m < w.heap.size := ⟨blk_lt h.blk, h.map.elim (fun c q => q.lt)⟩
theorem Bk.vp {M : Nat → Prop} {w : World} {p m n : Nat} {v : Value} {b : RB} (h : Bk M w p m v b n) : v.ownBlock ≠ some p := by
  intro e
  rcases h.row.2 with ⟨rfl, _⟩ | ⟨g, cap, cur, rfl, _, hh, _⟩
  · cases e
  · have : g = p := by simpa [Value.ownBlock] using e
    subst this
    rw [h.blk] at hh
    injection hh with hh
    injection hh with _ ht
    exact absurd ht (by decide)
theorem Bk.vm {M : Nat → Prop} {w : World} {p m n : Nat} {v : Value} {b : RB} (h : Bk M w p m v b n) : v.ownBlock ≠ some m := by
  intro e
  obtain ⟨c, D, ⟨es, clock, hb, _⟩, _⟩ := h.map
  rcases h.row.2 with ⟨rfl, _⟩ | ⟨g, cap, cur, rfl, _, hh, _⟩
  · cases e
  · have : g = m := by simpa [Value.ownBlock] using e
    subst this
    rw [hb] at hh
    cases hh
theorem inF_zero (s : Int) : inF { zb with s := s } = fun _ => none := by
  funext k
  unfold inF
  rw [if_neg]
  rintro ⟨_, _, q⟩
  cases q
theorem new_any (w : World) (s : Int) (h : 1 ≤ s ∧ s ≤ 64) : Calls Try.prog 7 #[.int .i64 s] w fun e w' => ∃ p m, e = .returned (.tuple #[.pointer (some ⟨p, 0, none⟩), .int .i64 0]) ∧ Bk (fun k => w.heap.size ≤ k ∧ k < w'.heap.size) w' p m (.slice none 0 0) { zb with s := s } 0 ∧ Below w.heap.size w w' := by
  have hus := Try.underlying59
  have hum := Try.underlying56
  have hmm := @run_makeMap Try.prog
  have d1 := decide_eq_false (show ¬ s < 1 by omega)
  have d2 := decide_eq_false (show ¬ 64 < s by omega)
  have hT := TM.made w
  have hB := below_alloc (below_alloc (Below.refl w.heap.size w) (.map #[] 0)) (.cells #[.int .i64 s, .int .i64 0, .map (some w.heap.size), .slice none 0 0] 59)
  have hb := blk_new (w.alloc (.map #[] 0)) (.cells #[.int .i64 s, .int .i64 0, .map (some w.heap.size), .slice none 0 0] 59)
  clear h
  go_enter Try.func7, Try.ntmps7
  go_wp2
  go_ret2
  rw [World.size_alloc] at hb
  refine ⟨_, _, rfl, ⟨hb, ⟨0, ?_⟩, ⟨rfl, .inl ⟨rfl, rfl⟩⟩, ⟨by omega, by simp⟩, ⟨by omega, by simp; omega⟩, fun k hk => by cases hk⟩, hB⟩
  rw [inF_zero]
  exact hT.fr (B := []) ((Fr.refl _ _).alloc _) (by simp)
theorem now_any {M : Nat → Prop} {w : World} {p m n : Nat} {v : Value} {b : RB} (h : Bk M w p m v b n) : Calls Try.prog 24 #[.pointer (some ⟨p, 0, none⟩)] w fun e w' => e = .returned (.int .i64 b.now) ∧ w' = w := by
  have hus := Try.underlying59
  have c1 := blk_cell h.blk 1
  simp at c1
  clear h
  go_enter Try.func24, Try.ntmps24
  go_wp2
  go_ret
  exact ⟨rfl, rfl⟩
theorem in_any {M : Nat → Prop} {w : World} {p m n : Nat} {v : Value} {b : RB} (h : Bk M w p m v b n) (who : Int) (hk : (Lit.int .i64 who).wf = true) : Calls Try.prog 19 #[.pointer (some ⟨p, 0, none⟩), .int .i64 who] w fun e w' => e = .returned (.bool (inF b who).isSome) ∧ w' = w := by
  have hus := Try.underlying59
  have c2 := blk_cell h.blk 2
  simp at c2
  obtain ⟨c, hT⟩ := h.map
  clear h
  go_enter Try.func19, Try.ntmps19
  go_wp2_with (refine look w rfl _ _ rfl m n (inF b) c rfl hT who rfl hk ?_; simp only [restV])
  go_ret
  exact ⟨rfl, rfl⟩
theorem inF_at {b : RB} {who : Int} (h1 : 1 ≤ who) (h2 : who ≤ b.s) : (inF b who).isSome = b.I who.toNat := by
  unfold inF
  cases hI : b.I who.toNat with
  | true => rw [if_pos ⟨h1, h2, rfl⟩]; rfl
  | false => rw [if_neg (by simp)]; rfl
theorem ask_any {M : Nat → Prop} {w : World} {p m n : Nat} {v : Value} {b : RB} (h : Bk M w p m v b n) (who : Int) (hk : (Lit.int .i64 who).wf = true) (inn : Bool) : Calls Try.prog 29 #[.pointer (some ⟨p, 0, none⟩), .int .i64 who, .bool inn] w fun e w' => e = .returned (.int .i64 (askR b who inn)) ∧ w' = w := by
  have hus := Try.underlying59
  have c0 := blk_cell h.blk 0
  simp at c0
  have IN := in_any h who hk
  clear h
  unfold askR
  by_cases h1 : who < 1
  · rw [if_pos (.inl h1)]
    have d1 := decide_eq_true h1
    go_enter Try.func29, Try.ntmps29
    go_wp2
    go_ret
    exact ⟨rfl, rfl⟩
  · have d1 := decide_eq_false h1
    by_cases h2 : who > b.s
    · rw [if_pos (.inr h2)]
      have d2 := decide_eq_true (show b.s < who by omega)
      go_enter Try.func29, Try.ntmps29
      go_wp2
      go_ret
      exact ⟨rfl, rfl⟩
    · rw [if_neg (by omega)]
      have d2 := decide_eq_false (show ¬ b.s < who by omega)
      rw [inF_at (by omega) (by omega)] at IN
      generalize b.I who.toNat = bi at IN ⊢
      have IN2 := IN.mono (R' := fun e w' => e = .returned (.bool bi) ∧ Aside0 (w' = w)) (fun e w' q => ⟨q.1, ⟨q.2⟩⟩)
      clear h1 h2 IN
      cases bi <;> cases inn <;> (
        go_enter Try.func29, Try.ntmps29
        go_wp2_with (go_at_call 19; refine IN2.mono ?_; clear IN2; rintro e w1 ⟨rfl, hw1⟩)
        go_ret
        exact ⟨rfl, hw1.out⟩)
end Go.Proofs.Ytlpganbcnhiidaa.Ep
end
section
namespace Go.Proofs.Ytlpganbcnhiidaa.Ep
open Go Go.RowKit Go.Maps Go.Proofs.YtlpganbcnhiidaaW.PrintWords Go.Proofs.YtlpganbcnhiidaaW.PrintLast Go.Proofs.YtlpganbcnhiidaaW.PrintMore Go.Proofs.Ytlpganbcnhiidaa.Own Go.Proofs.Ytlpganbcnhiidaa.Ord Go.Proofs.Ytlpganbcnhiidaa.P
set_option maxHeartbeats 2000000
set_option maxRecDepth 100000
theorem inF_enter {b : RB} {who : Int} (h : askR b who false = 0) : upd (inF b) who (some b.now) = inF (enterR b who) := by
  obtain ⟨h1, h2, _⟩ := askR_ok h
  funext k
  unfold upd enterR
  rw [if_pos h]
  unfold inF updN
  dsimp only
  by_cases e : k = who
  · subst e
    rw [if_pos rfl, if_pos ⟨h1, h2, by rw [if_pos rfl]⟩, if_pos rfl]
  · rw [if_neg e]
    by_cases hk : 1 ≤ k ∧ k ≤ b.s
    · have e2 : ¬ k.toNat = who.toNat := by omega
      simp [e2]
    · rw [if_neg (fun q => hk ⟨q.1, q.2.1⟩), if_neg (fun q => hk ⟨q.1, q.2.1⟩)]
theorem inF_leave {b : RB} {who : Int} (h : askR b who true = 0) : upd (inF b) who none = inF (leaveR b who) := by
  obtain ⟨h1, h2, _⟩ := askR_ok h
  funext k
  unfold upd leaveR
  rw [if_pos h]
  unfold inF updN
  dsimp only
  by_cases e : k = who
  · subst e
    rw [if_pos rfl, if_neg (by rintro ⟨_, _, q⟩; rw [if_pos rfl] at q; cases q)]
  · rw [if_neg e]
    by_cases hk : 1 ≤ k ∧ k ≤ b.s
    · have e2 : ¬ k.toNat = who.toNat := by omega
      simp [e2]
    · rw [if_neg (fun q => hk ⟨q.1, q.2.1⟩), if_neg (fun q => hk ⟨q.1, q.2.1⟩)]
theorem frm_fr {M : Nat → Prop} {w w' : World} {B : List Nat} (f : Fr B w w') (h : ∀ k ∈ B, M k) : It.FrM M w w' := ⟨f.os, f.tape, f.output, f.size, fun k hk hn => f.block k hk (fun q => hn (h k q))⟩
theorem row_fr {w w' : World} {v : Value} {ts : List (Int × Int)} (h : OT w v ts) {m : Nat} (f : Fr [m] w w') (hv : v.ownBlock ≠ some m) : OT w' v ts :=
  h.frm (M := fun k => k = m) (frm_fr f (by simp)) (fun k hk e => hv (by rw [hk, e]))
theorem enter_same {b : RB} {who : Int} (h : ¬ askR b who false = 0) : enterR b who = b := if_neg h
theorem leave_same {b : RB} {who : Int} (h : ¬ askR b who true = 0) : leaveR b who = b := if_neg h
theorem enter_any {M : Nat → Prop} {w : World} {p m n : Nat} {v : Value} {b : RB} (h : Bk M w p m v b n) (hn : n < 1000000) (who : Int) (hk : (Lit.int .i64 who).wf = true) : Calls Try.prog 12 #[.pointer (some ⟨p, 0, none⟩), .int .i64 who] w fun e w' => e = .returned (.int .i64 (askR b who false)) ∧ Bk M w' p m v (enterR b who) (n + 1) ∧ It.FrM M w w' := by
  have hus := Try.underlying59
  have AK := (ask_any h who hk false).mono (R' := fun e w' => e = .returned (.int .i64 (askR b who false)) ∧ Aside0 (w' = w)) (fun e w' q => ⟨q.1, ⟨q.2⟩⟩)
  have hA := Aside0.mk h
  by_cases h0 : askR b who false = 0
  · have hE := Aside0.mk (inF_enter h0)
    have hEr : Aside0 (enterR b who = { b with I := updN b.I who.toNat true, S := updN b.S who.toNat b.now }) := ⟨if_pos h0⟩
    rw [h0] at AK ⊢
    have q0 : ((0 : Int) == 0) = true := rfl
    have hd := h.frm (M2 := fun _ => False) (w' := w.drew) ⟨rfl, rfl, rfl, Nat.le_refl _, fun _ _ _ => rfl⟩ (fun _ _ q => q)
    clear h h0
    go_enter Try.func12, Try.ntmps12
    go_wp2_with (go_at_call 29; refine AK.mono ?_; clear AK; rintro e w1 ⟨rfl, hw1⟩; obtain rfl := hw1.out)
    refine still_tail 9 (by kernel_rfl) (by kernel_rfl) (fun W hW => ?_)
    simp only [List.take_succ_cons, List.take_zero, List.drop_succ_cons, List.drop_zero]
    obtain rfl := hW
    have c1 := blk_cell hd.blk 1
    have c2 := blk_cell hd.blk 2
    simp at c1 c2
    have hdA := Aside0.mk hd
    obtain ⟨c, hT⟩ := hd.map
    clear hd
    iterate 9 still_step
    refine wpStill_nil ?_
    refine store _ rfl _ _ _ rfl m n (inF b) c rfl hT hn who rfl hk b.now rfl (fun w4 hT4 f4 => ?_)
    rw [hE.out] at hT4
    have hB4 : Aside0 (Bk M w4 p m v (enterR b who) (n + 1)) := ⟨⟨by rw [hEr.out]; exact f4.blk hdA.out.blk (by simpa using hdA.out.ne), ⟨_, hT4⟩, by rw [hEr.out]; exact row_fr hdA.out.row f4 hdA.out.vm, hdA.out.mp, hdA.out.mm, hdA.out.mv⟩⟩
    have hF4 := Aside0.mk (frm_fr f4 (M := M) (by simpa using hdA.out.mm))
    clear hT hT4 f4 c1 c2
    go_wp2
    go_ret
    exact ⟨rfl, hB4.out, ⟨hF4.out.os, hF4.out.tape, hF4.out.output, hF4.out.size, hF4.out.block⟩⟩
  · rw [enter_same h0]
    generalize askR b who false = k at AK h0 ⊢
    have q0 : (k == 0) = false := beq_eq_false_iff_ne.2 h0
    clear h h0
    go_enter Try.func12, Try.ntmps12
    go_wp2_with (go_at_call 29; refine AK.mono ?_; clear AK; rintro e w1 ⟨rfl, hw1⟩)
    go_ret
    obtain rfl := hw1.out
    exact ⟨rfl, ⟨hA.out.blk, hA.out.map.elim (fun c q => ⟨c, q.mono (by omega)⟩), hA.out.row, hA.out.mp, hA.out.mm, hA.out.mv⟩, It.FrM.refl _ _⟩
theorem leave_any {M : Nat → Prop} {w : World} {p m n : Nat} {v : Value} {b : RB} (h : Bk M w p m v b n) (who : Int) (hk : (Lit.int .i64 who).wf = true) : Calls Try.prog 20 #[.pointer (some ⟨p, 0, none⟩), .int .i64 who] w fun e w' => e = .returned (.int .i64 (askR b who true)) ∧ Bk M w' p m v (leaveR b who) n ∧ It.FrM M w w' := by
  have hus := Try.underlying59
  have AK := (ask_any h who hk true).mono (R' := fun e w' => e = .returned (.int .i64 (askR b who true)) ∧ Aside0 (w' = w)) (fun e w' q => ⟨q.1, ⟨q.2⟩⟩)
  have hA := Aside0.mk h
  by_cases h0 : askR b who true = 0
  · have hE := Aside0.mk (inF_leave h0)
    have hEr : Aside0 (leaveR b who = { b with I := updN b.I who.toNat false }) := ⟨if_pos h0⟩
    obtain ⟨a1, a2, a3⟩ := askR_ok h0
    have hsm := (inF_at a1 a2).trans a3
    rw [h0] at AK ⊢
    have q0 : ((0 : Int) == 0) = true := rfl
    have c2 := blk_cell h.blk 2
    simp at c2
    obtain ⟨c, hT⟩ := h.map
    have hc : Aside0 (0 < c) := ⟨by
      obtain ⟨D, h1, h2, h3⟩ := hT
      have := size_del (k := key who) (h1.tidy law)
      rw [(h2 who).1, hsm] at this
      simp at this
      omega⟩
    clear h h0 a1 a2 a3
    go_enter Try.func20, Try.ntmps20
    go_wp2_with (first
      | (go_at_call 29; refine AK.mono ?_; clear AK; rintro e w1 ⟨rfl, hw1⟩; obtain rfl := hw1.out)
      | (refine drop _ rfl _ _ rfl m n (inF b) c rfl hT who rfl hk ?_; intro w4 hT4 f4; have hT5 := hT4 (c - 1) (by rw [hsm]; have := hc.out; simp; omega); rw [hE.out] at hT5; have hB4 : Aside0 (Bk M w4 p m v (leaveR b who) n) := ⟨⟨by rw [hEr.out]; exact f4.blk hA.out.blk (by simpa using hA.out.ne), ⟨_, hT5⟩, by rw [hEr.out]; exact row_fr hA.out.row f4 hA.out.vm, hA.out.mp, hA.out.mm, hA.out.mv⟩⟩; have hF4 := Aside0.mk (frm_fr f4 (M := M) (by simpa using hA.out.mm)); clear hT hT4 hT5 f4 c2))
    go_ret
    exact ⟨rfl, hB4.out, hF4.out⟩
  · rw [leave_same h0]
    generalize askR b who true = k at AK h0 ⊢
    have q0 : (k == 0) = false := beq_eq_false_iff_ne.2 h0
    clear h h0
    go_enter Try.func20, Try.ntmps20
    go_wp2_with (go_at_call 29; refine AK.mono ?_; clear AK; rintro e w1 ⟨rfl, hw1⟩)
    go_ret
    obtain rfl := hw1.out
    exact ⟨rfl, hA.out, It.FrM.refl _ _⟩
end Go.Proofs.Ytlpganbcnhiidaa.Ep
end
section
namespace Go.Proofs.Ytlpganbcnhiidaa.Ep
open Go Go.RowKit Go.Maps Go.Proofs.YtlpganbcnhiidaaW.PrintWords Go.Proofs.YtlpganbcnhiidaaW.PrintLast Go.Proofs.YtlpganbcnhiidaaW.PrintMore Go.Proofs.Ytlpganbcnhiidaa.Own Go.Proofs.Ytlpganbcnhiidaa.Ord Go.Proofs.Ytlpganbcnhiidaa.P
set_option maxHeartbeats 2000000
set_option maxRecDepth 100000
theorem infoT : ∃ i, Try.prog.info? 65 = some i ∧ i.zero = some (.agg #[.int .i64 0, .int .i64 0]) ∧ i.size = 2 ∧ i.bytes = 16 := by
  have h : (Try.prog.info? 65).map (fun i => (i.zero, i.size, i.bytes)) = some (some (.agg #[.int .i64 0, .int .i64 0]), 2, 16) := by kernel_rfl
  cases hi : Try.prog.info? 65 with
  | none => rw [hi] at h; simp at h
  | some i =>
    rw [hi] at h
    simp only [Option.map_some, Option.some.injEq, Prod.mk.injEq] at h
    exact ⟨i, rfl, h.1, h.2.1, h.2.2⟩
theorem cellsT_len : ∀ (ts : List (Int × Int)), (cellsT ts).length = ts.length * 2
  | [] => rfl
  | p :: ts => by
    have := cellsT_len ts
    unfold cellsT at this ⊢
    rw [List.flatMap_cons, List.length_append, this, List.length_cons]
    simp
    omega
theorem cellsT_at : ∀ (ts : List (Int × Int)) (j : Nat) (p : Int × Int), ts[j]? = some p → (cellsT ts)[j * 2]? = some (.int .i64 p.1) ∧ (cellsT ts)[j * 2 + 1]? = some (.int .i64 p.2)
  | [], j, p, h => by simp at h
  | q :: ts, 0, p, h => by
    have : q = p := by simpa using h
    subst this
    unfold cellsT
    rw [List.flatMap_cons]
    exact ⟨rfl, rfl⟩
  | q :: ts, j + 1, p, h => by
    have ih := cellsT_at ts j p (by simpa using h)
    unfold cellsT at ih ⊢
    rw [List.flatMap_cons, show (j + 1) * 2 = j * 2 + 2 by omega]
    exact ih
theorem cellsT_one (ts : List (Int × Int)) : ∀ u ∈ cellsT ts, u.oneCell' = true := by
  intro u hu
  unfold cellsT at hu
  obtain ⟨p, _, hp⟩ := List.mem_flatMap.1 hu
  simp at hp
  rcases hp with rfl | rfl <;> rfl
theorem cellsT_app (ts us : List (Int × Int)) : cellsT (ts ++ us) = cellsT ts ++ cellsT us := by simp [cellsT]
section
variable {W : World} {ops : Array Oper} {rest : List Oper} {o : Oper} {a : Act} {Q : Exit → Act → World → Prop} {K : Act → World → Prop} {E : Prop}
theorem wp_appT (s x : Operand) (ho : o.op = .call { callee := .builtin .append, args := #[s, x], argTypes := #[57, 57] }) (v : Value) (hs : a.eval s = v) (A : Option Addr) (c : Nat) (us : List (Int × Int)) (hx : a.eval x = .slice A us.length c) (ts : List (Int × Int)) (HO : OT W v ts) (hn : 0 < us.length → ∃ ad, A = some ad ∧ ∀ j u, (cellsT us)[j]? = some u → W.cell? (ad.add j) = some u) (hlen : ts.length + us.length ≤ 1000000)
    (h : ∀ v1 w1, OT w1 v1 (ts ++ us) → W.grownBy w1 v.ownBlock → (v1.ownBlock = v.ownBlock ∨ ∃ b, v1.ownBlock = some b ∧ W.heap.size ≤ b) → K (a.put o.dst v1) w1) : o.wp Try.prog a W K Q := by
  obtain ⟨i, hi, hz, hsz, hb⟩ := infoT
  obtain ⟨v1, w1, e1, e2, e3, e4⟩ := app_run 0 57 o.type 65 i _ 2 16 Try.underlying57 hi hz hsz hb rfl (by omega) v ts.length (cellsT ts) HO A us.length c (cellsT us) (cellsT_len us) hn (cellsT_one us) (by simp only [maxLen]; omega) (by omega) (Nat.zero_le _)
  unfold Oper.wp execOp
  simp only [ho, resolve, invoke, builtin, Sem.run_bind, Sem.run_pure, Result.andThen_ok, List.map_toArray, List.map_cons, List.map_nil, hs, hx, e1]
  exact h v1 w1 (by unfold OT; rw [List.length_append, cellsT_app]; exact e2) e3 e4
theorem list_appT (hg : o.guard = none) (s x : Operand) (ho : o.op = .call { callee := .builtin .append, args := #[s, x], argTypes := #[57, 57] }) (v : Value) (hs : a.eval s = v) (A : Option Addr) (c : Nat) (us : List (Int × Int)) (hx : a.eval x = .slice A us.length c) (ts : List (Int × Int)) (HO : OT W v ts) (hn : 0 < us.length → ∃ ad, A = some ad ∧ ∀ j u, (cellsT us)[j]? = some u → W.cell? (ad.add j) = some u) (hlen : ts.length + us.length ≤ 1000000)
    (h : ∀ v1 w1, OT w1 v1 (ts ++ us) → W.grownBy w1 v.ownBlock → (v1.ownBlock = v.ownBlock ∨ ∃ b, v1.ownBlock = some b ∧ W.heap.size ≤ b) → wpList Try.prog ops Q rest (a.put o.dst v1) w1) : wpList Try.prog ops Q (o :: rest) a W :=
  wpList_plain hg fun K hK => wp_appT s x ho v hs A c us hx ts HO hn hlen (fun v1 w1 e1 e2 e3 => hK _ _ (h v1 w1 e1 e2 e3))
theorem step_appT (hg : o.guard = none) (s x : Operand) (ho : o.op = .call { callee := .builtin .append, args := #[s, x], argTypes := #[57, 57] }) (v : Value) (hs : a.eval s = v) (A : Option Addr) (c : Nat) (us : List (Int × Int)) (hx : a.eval x = .slice A us.length c) (ts : List (Int × Int)) (HO : OT W v ts) (hn : 0 < us.length → ∃ ad, A = some ad ∧ ∀ j u, (cellsT us)[j]? = some u → W.cell? (ad.add j) = some u) (hlen : ts.length + us.length ≤ 1000000)
    (h : ∀ v1 w1, OT w1 v1 (ts ++ us) → W.grownBy w1 v.ownBlock → (v1.ownBlock = v.ownBlock ∨ ∃ b, v1.ownBlock = some b ∧ W.heap.size ≤ b) → K (a.put o.dst v1) w1) : if Region.wanted o (yielded ops a.tmps) = true then Oper.wp Try.prog o a W K Q else E := by
  have hw : Region.wanted o (yielded ops a.tmps) = true := by simp [Region.wanted, hg]
  rw [if_pos hw]
  exact wp_appT s x ho v hs A c us hx ts HO hn hlen h
end
theorem OT.alloc {W : World} {v : Value} {ts : List (Int × Int)} (h : OT W v ts) (o : Obj) : OT (W.alloc o) v ts := own_alloc h o
theorem OT.form {W : World} {v : Value} {ts : List (Int × Int)} (h : OT W v ts) : ∃ A n c, v = .slice A n c := by
  rcases h.2 with ⟨e, _⟩ | ⟨g, cap, cur, e, _⟩
  · exact ⟨_, _, _, e⟩
  · exact ⟨_, _, _, e⟩
theorem one_thing (W : World) (x y : Int) : 0 < [(x, y)].length → ∃ ad, (some ⟨W.heap.size, 0, none⟩ : Option Addr) = some ad ∧ ∀ j u, (cellsT [(x, y)])[j]? = some u → (W.alloc (.cells #[.int .i64 x, .int .i64 y] 65)).cell? (ad.add j) = some u := fun _ => ⟨_, rfl, fun j u hu => by
  rw [Addr.add_mid, Nat.zero_add, cell_of_row _ _ j _ _ (0, 0) (blk_new W (.cells #[.int .i64 x, .int .i64 y] 65))]
  have e : cellsT [(x, y)] = [.int .i64 x, .int .i64 y] := rfl
  rw [e] at hu
  rw [← hu, List.getElem?_toArray]⟩
theorem zip_retire {b : RB} (hl : b.ws.length = b.ats.length) (x : Int) : (retireR b x).ws.zip (retireR b x).ats = b.ws.zip b.ats ++ [(x, b.now)] := by
  unfold retireR
  show (b.ws ++ [x]).zip (b.ats ++ [b.now]) = _
  rw [List.zip_append hl]
  rfl
theorem retire_any {M : Nat → Prop} {w : World} {p m n : Nat} {v : Value} {b : RB} (h : Bk M w p m v b n) (hl : b.ws.length = b.ats.length) (hlen : b.ws.length ≤ 100000) (hn : b.now + 1 ≤ 9223372036854775807) (hn0 : 0 ≤ b.now) (x : Int) : Calls Try.prog 14 #[.pointer (some ⟨p, 0, none⟩), .int .i64 x] w fun e w' => ∃ v', e = .returned (.int .i64 0) ∧ Bk (fun k => M k ∨ (w.heap.size ≤ k ∧ k < w'.heap.size)) w' p m v' (retireR b x) n ∧ It.FrM M w w' := by
  have hus := Try.underlying59
  have hut := Try.underlying65
  have hwi : wrap64 (b.now + 1) = b.now + 1 := IntWalk.wrap64_in _ (by omega)
  have hd := h.frm (M2 := fun _ => False) (w' := w.drew) ⟨rfl, rfl, rfl, Nat.le_refl _, fun _ _ _ => rfl⟩ (fun _ _ q => q)
  have hz := Aside0.mk (zip_retire hl x)
  have hlz : Aside0 ((b.ws.zip b.ats).length ≤ 100000) := ⟨by rw [List.length_zip]; omega⟩
  clear h hl hlen
  go_enter Try.func14, Try.ntmps14
  go_wp2
  have c1 := blk_cell hd.blk 1
  have c3 := blk_cell hd.blk 3
  simp at c1 c3
  have e1 : ∀ o, (w.alloc o).cell? ⟨p, 1, none⟩ = some (.int .i64 b.now) := fun o => cell_al o c1
  have e3 : ∀ o, (w.alloc o).cell? ⟨p, 3, none⟩ = some v := fun o => cell_al o c3
  have hdA := Aside0.mk hd
  have hO := hd.row.alloc (.cells #[.int .i64 x, .int .i64 b.now] 65)
  have hvp := hd.vp
  have hvm := hd.vm
  clear hd
  have FIN : ∀ v7 w7, OT w7 v7 (b.ws.zip b.ats ++ [(x, b.now)]) → (w.alloc (.cells #[.int .i64 x, .int .i64 b.now] 65)).grownBy w7 v.ownBlock → (v7.ownBlock = v.ownBlock ∨ ∃ b_, v7.ownBlock = some b_ ∧ w.heap.size ≤ b_) → (w7.cell? ⟨p, 3, none⟩ = some v ∧ w7.frozen? ⟨p, 3, none⟩ = false) ∧ ((w7.setCell ⟨p, 3, none⟩ v7).cell? ⟨p, 1, none⟩ = some (.int .i64 b.now) ∧ (w7.setCell ⟨p, 3, none⟩ v7).frozen? ⟨p, 1, none⟩ = false) ∧ Aside0 (Bk (fun k => M k ∨ (w.heap.size ≤ k ∧ k < ((w7.setCell ⟨p, 3, none⟩ v7).setCell ⟨p, 1, none⟩ (.int .i64 (b.now + 1))).heap.size)) ((w7.setCell ⟨p, 3, none⟩ v7).setCell ⟨p, 1, none⟩ (.int .i64 (b.now + 1))) p m v7 (retireR b x) n ∧ It.FrM M w ((w7.setCell ⟨p, 3, none⟩ v7).setCell ⟨p, 1, none⟩ (.int .i64 (b.now + 1)))) := by
    intro v7 w7 O7 G7 A7
    obtain ⟨hp, hm⟩ := hdA.out.lt
    have hpl : p < w.heap.size := hp
    have hml : m < w.heap.size := hm
    have b7 : w7.heap[p]? = some (.cells #[.int .i64 b.s, .int .i64 b.now, .map (some m), v] 59 (0, 0)) := (G7.block p (by simp; omega) (fun e => hvp e.symm)).trans (blk_alloc (by exact hdA.out.blk) _)
    have b8 := blk_set b7 3 v7
    have b9 := blk_set b8 1 (.int .i64 (b.now + 1))
    have f7 : It.FrM M w w7 := (It.FrM.refl M w).alloc (.cells #[.int .i64 x, .int .i64 b.now] 65) |>.trans (M' := M) (It.FrM.grown G7 (fun r hr => .inl (hdA.out.mv r hr))) (fun i q => .inl q)
    have fp : ∀ (u : World) (i : Nat) (y : Value), It.FrM M u (u.setCell ⟨p, i, none⟩ y) := fun u i y => frm_fr ((Fr.refl [p] u).set (.inl (by simp)) y) (by simpa using hdA.out.mp)
    have f9 : It.FrM M w ((w7.setCell ⟨p, 3, none⟩ v7).setCell ⟨p, 1, none⟩ (.int .i64 (b.now + 1))) := (f7.trans (fp _ _ _) (fun i q => .inl q)).trans (fp _ _ _) (fun i q => .inl q)
    have hs7 := G7.size
    simp at hs7
    have nv : ∀ k, v7.ownBlock = some k → k ≠ p := by
      intro k hk e
      rcases A7 with q | ⟨k2, q, q2⟩
      · rw [hk] at q; exact hvp (by rw [← q, e])
      · rw [hk] at q; cases q; omega
    refine ⟨⟨by have := blk_cell b7 3; simpa using this, blk_frozen b7 3⟩, ⟨by have := blk_cell b8 1; simpa using this, blk_frozen b8 1⟩, ⟨⟨?_, ?_, ?_, .inl hdA.out.mp, .inl hdA.out.mm, ?_⟩, f9⟩⟩
    · have e : (retireR b x).s = b.s ∧ (retireR b x).now = b.now + 1 := ⟨rfl, rfl⟩
      rw [e.1, e.2]
      simpa using b9
    · obtain ⟨c, q⟩ := hdA.out.map
      refine ⟨c, q.frm (M := fun k => k ≠ m) ⟨f9.os, f9.tape, f9.output, f9.size, fun k hk hn => ?_⟩ (by simp)⟩
      have : k = m := Decidable.not_not.1 hn
      subst this
      have hne := hdA.out.ne
      have hne' : ∀ i, (⟨p, i, none⟩ : Addr).block ≠ k := fun i => hne
      have hk0 : w.heap[k]? = some w.heap[k] := Array.getElem?_eq_getElem hml
      exact (Below.heap_setCell _ _ _ _ (fun e => hne e.symm)).trans ((Below.heap_setCell _ _ _ _ (fun e => hne e.symm)).trans ((G7.block k (by simp; omega) (fun e => hvm e.symm)).trans ((blk_alloc hk0 _).trans hk0.symm)))
    · rw [hz.out]
      exact O7.frm (M := fun k => k = p) (frm_fr (((Fr.refl [p] w7).set (.inl (by simp)) v7).set (.inl (by simp)) _) (by simp)) nv
    · intro k hk
      rcases A7 with q | ⟨k2, q, q2⟩
      · exact .inl (hdA.out.mv k (by rw [← q]; exact hk))
      · rw [hk] at q
        cases q
        refine .inr ⟨q2, ?_⟩
        rcases O7.2 with ⟨e, _⟩ | ⟨g, cap, cur, e, _, hh, _⟩
        · rw [e] at hk; cases hk
        · rw [e] at hk
          have : g = k := by simpa [Value.ownBlock] using hk
          subst this
          have := blk_lt hh
          simp
          omega
  have FA := Aside0.mk FIN
  clear FIN hvp hvm
  go_region_law (first
    | (refine step_appT rfl _ _ rfl v rfl _ _ [(x, b.now)] rfl (b.ws.zip b.ats) (by exact hO) (one_thing w x b.now) (by have := hlz.out; simp only [List.length_singleton]; omega) ?_; intro v7 w7 O7 G7 A7; obtain ⟨A_, n_, c_, rfl⟩ := O7.form; obtain ⟨⟨k3, z3⟩, ⟨k1, z1⟩, hE⟩ := FA.out _ w7 O7 ⟨G7.os, G7.tape, G7.output, G7.size, G7.block⟩ (A7.imp id (fun ⟨k, h1, h2⟩ => ⟨k, h1, Nat.le_trans (by simp) h2⟩))))
  all_goals (
    go_wp2
    go_ret
    exact ⟨_, rfl, hE.out.1, hE.out.2⟩)
end Go.Proofs.Ytlpganbcnhiidaa.Ep
end
section
namespace Go.Proofs.Ytlpganbcnhiidaa.Ep
open Go Go.RowKit Go.Maps Go.Proofs.YtlpganbcnhiidaaW.PrintWords Go.Proofs.YtlpganbcnhiidaaW.PrintLast Go.Proofs.YtlpganbcnhiidaaW.PrintMore Go.Proofs.Ytlpganbcnhiidaa.Own Go.Proofs.Ytlpganbcnhiidaa.Ord Go.Proofs.Ytlpganbcnhiidaa.P
set_option maxHeartbeats 2000000
set_option maxRecDepth 100000
def RT (W : World) (A : Option Addr) (ts : List (Int × Int)) : Prop := 0 < ts.length → ∃ g, A = some ⟨g, 0, none⟩ ∧ ∀ j p, ts[j]? = some p → W.cell? ⟨g, j * 2, none⟩ = some (.int .i64 p.1) ∧ W.cell? ⟨g, j * 2 + 1, none⟩ = some (.int .i64 p.2)
theorem cell_bel {w W : World} (hb : Below w.heap.size w W) {a : Addr} {v : Value} (h : w.cell? a = some v) : W.cell? a = some v := (World.cell?_of_block (hb.block a.block (World.block_lt_of_cell? w a h))).trans h
theorem RT.below {w W : World} {A : Option Addr} {ts : List (Int × Int)} (h : RT w A ts) (hb : Below w.heap.size w W) : RT W A ts := fun h0 => by
  obtain ⟨g, e, hc⟩ := h h0
  exact ⟨g, e, fun j p hj => ⟨cell_bel hb (hc j p hj).1, cell_bel hb (hc j p hj).2⟩⟩
theorem OT.reads {W : World} {A : Option Addr} {n c : Nat} {ts : List (Int × Int)} (h : OT W (.slice A n c) ts) (k : Nat) (hk : k ≤ ts.length) : RT W A (ts.take k) := fun h0 => by
  rcases h.2 with ⟨e, h1⟩ | ⟨g, cap, cur, e, _, hh, hnc, _, hcs, htk⟩
  · rw [List.length_take] at h0
    omega
  · injection e with e1 e2 e3
    refine ⟨g, e1, fun j p hj => ?_⟩
    have hj2 : ts[j]? = some p := by
      rw [List.getElem?_take] at hj
      split at hj
      · exact hj
      · cases hj
    have hjl := (List.getElem?_eq_some_iff.1 hj2).1
    obtain ⟨c1, c2⟩ := cellsT_at ts j p hj2
    rw [← htk] at c1 c2
    rw [List.getElem?_take] at c1 c2
    rw [if_pos (by omega)] at c1 c2
    rw [cell_of_row _ _ _ _ _ _ hh, cell_of_row _ _ _ _ _ _ hh]
    exact ⟨by simpa using c1, by simpa using c2⟩
theorem OI.made (W : World) (c : Nat) (hc : c ≤ 1000000) : OI (W.alloc (.cells (madeCells #[.int .i64 0] c) 3)) W.heap.size (.slice (some ⟨W.heap.size, 0, none⟩) 0 c) [] :=
  ⟨rfl, .inr ⟨W.heap.size, c, _, rfl, Nat.le_refl _, blk_new W _, Nat.zero_le _, by simp only [maxLen]; omega, by simp [size_madeCells], by simp [nums]⟩⟩
theorem told_any {w : World} {A : Option Addr} {c : Nat} {ts : List (Int × Int)} (hR : RT w A ts) (hlen : ts.length ≤ 100000) :
    Calls Try.prog 33 #[.slice A ts.length c] w fun e w' => ∃ C cc, e = .returned (.slice C ts.length cc) ∧ OI w' w.heap.size (.slice C ts.length cc) (ts.map (·.1)) ∧ Below w.heap.size w w' := by
  have hut := Try.underlying65
  have hmk := run_make_room (P := Try.prog) 30 3 (.int .i64 0) 8 Try.underlying30 (by kernel_rfl) rfl .i64 .i64 ts.length (by omega) (by omega)
  have O0 := OI.made w ts.length (by omega)
  have B0 := below_alloc (Below.refl w.heap.size w) (.cells (madeCells #[.int .i64 0] ts.length) 3)
  go_enter Try.func33, Try.ntmps33
  go_wp2
  go_loopg [3, 11] ts.length (fun g ov iv wr => ∃ i : Int, iv = .int .i64 i ∧ Aside0 (0 ≤ i ∧ i.toNat + g = ts.length) ∧ Aside0 (OI wr w.heap.size ov ((ts.take i.toNat).map (·.1))) ∧ Aside0 (Below w.heap.size w wr))
  case atStart => exact ⟨0, rfl, ⟨Int.le_refl _, by simp⟩, ⟨O0⟩, ⟨B0⟩⟩
  case round =>
    clear O0 B0
    obtain ⟨i, rfl, hiA, hO, hBr⟩ := hrel
    obtain ⟨hi0, hig⟩ := hiA.out
    by_cases hA : i < (ts.length : Int)
    · cases gk with
      | zero => omega
      | succ g =>
        obtain ⟨g0, rfl, hcs⟩ := (hR.below hBr.out) (by omega)
        have hx : ts[i.toNat]? = some ts[i.toNat] := List.getElem?_eq_getElem (by omega)
        obtain ⟨c1, c2⟩ := hcs _ _ hx
        have ht := Aside0.mk (show (ts.take (i.toNat + 1)).map (·.1) = (ts.take i.toNat).map (·.1) ++ [ts[i.toNat].1] by rw [List.take_add_one, hx, List.map_append]; rfl)
        generalize ts[i.toNat] = q at c1 c2 ht
        have d0 := decide_eq_true hi0
        have d1 := decide_eq_true hA
        have p0 := eq_true hi0
        have p1 := eq_true hA
        have hwi : wrap64 (i + 1) = i + 1 := IntWalk.wrap64_in _ (by omega)
        have hbd : ((ts.take i.toNat).map (·.1)).length + [q.1].length ≤ 1000000 := by simp; omega
        have hO2 := Aside0.mk ((hO.out.alloc (.cells #[.int .i64 q.1, .int .i64 q.2] 65)).alloc (.cells #[.int .i64 q.1] 3))
        have hB2 := Aside0.mk (below_alloc (below_alloc hBr.out (.cells #[.int .i64 q.1, .int .i64 q.2] 65)) (.cells #[.int .i64 q.1] 3))
        clear hi0 hig hA hx hcs hlen
        go_wp2_with (at_builtin; refine list_appI rfl _ _ rfl _ rfl _ _ [q.1] rfl w.heap.size _ hO2.out (by rw [← World.size_alloc wr (.cells #[.int .i64 q.1, .int .i64 q.2] 65)]; exact reads_one _ _) hbd hB2.out.size ?_; intro v5 w5 O5 G5 _; have B5 := Aside0.mk (grown_bel hO2.out.new (Nat.le_refl _) hB2.out G5))
        go_roundg g
        case measure => omega
        case rel => exact ⟨i + 1, by first | rfl | rw [hwi], ⟨by have := hiA.out; omega, by have := hiA.out; omega⟩, ⟨by rw [show (i + 1).toNat = i.toNat + 1 by have := hiA.out; omega, ht.out]; exact O5⟩, B5⟩
    · have d1 := decide_eq_false hA
      have ei : i.toNat = ts.length := by omega
      rw [ei, List.take_length] at hO
      obtain ⟨C, cc, e, _⟩ := hO.out.stands (Z := fun _ => True) (fun _ _ => trivial)
      rw [List.length_map] at e
      subst e
      clear hA hig hi0
      go_wp2
      go_ret
      exact ⟨C, cc, rfl, hO.out, hBr.out⟩
theorem waits_any {M : Nat → Prop} {w : World} {p m n : Nat} {v : Value} {b : RB} (h : Bk M w p m v b n) (hl : b.ws.length = b.ats.length) (hlen : b.ws.length ≤ 100000) : Calls Try.prog 21 #[.pointer (some ⟨p, 0, none⟩)] w fun e w' => ∃ C cc, e = .returned (.slice C b.ws.length cc) ∧ OI w' w.heap.size (.slice C b.ws.length cc) b.ws ∧ Below w.heap.size w w' := by
  have hus := Try.underlying59
  have c3 := blk_cell h.blk 3
  simp at c3
  have hz : (b.ws.zip b.ats).length = b.ws.length := by rw [List.length_zip]; omega
  have hm : (b.ws.zip b.ats).map (·.1) = b.ws := by rw [List.map_fst_zip (by omega)]
  have hform : ∃ A c, v = .slice A b.ws.length c := by
    rw [← hz]
    rcases h.row.2 with ⟨e, e2⟩ | ⟨g, cap, cur, e, _⟩
    · exact ⟨none, 0, by rw [e, e2]⟩
    · exact ⟨_, _, e⟩
  obtain ⟨A, c, rfl⟩ := hform
  have TD := told_any (w := w) (A := A) (c := c) (ts := b.ws.zip b.ats) (by have := h.row.reads (b.ws.zip b.ats).length (Nat.le_refl _); rwa [List.take_length] at this) (by omega)
  rw [hz, hm] at TD
  clear h hz hm hl hlen
  go_enter Try.func21, Try.ntmps21
  go_wp2_with (go_at_call 33; refine TD.mono ?_; clear TD; rintro e w1 ⟨C, cc, rfl, hO, hB⟩)
  go_ret
  exact ⟨C, cc, rfl, hO, hB⟩
end Go.Proofs.Ytlpganbcnhiidaa.Ep
end
section
namespace Go.Proofs.Ytlpganbcnhiidaa.Ep
open Go Go.RowKit Go.Maps Go.Proofs.YtlpganbcnhiidaaW.PrintWords Go.Proofs.YtlpganbcnhiidaaW.PrintLast Go.Proofs.YtlpganbcnhiidaaW.PrintMore Go.Proofs.Ytlpganbcnhiidaa.Own Go.Proofs.Ytlpganbcnhiidaa.Ord Go.Proofs.Ytlpganbcnhiidaa.P
set_option maxHeartbeats 2000000
set_option maxRecDepth 100000
theorem lst_le (b : RB) : ∀ n, lst b n ≤ b.now ∧ (∀ i, 1 ≤ i → i ≤ n → b.I i = true → lst b n ≤ b.S i) ∧ (lst b n = b.now ∨ ∃ i, 1 ≤ i ∧ i ≤ n ∧ b.I i = true ∧ lst b n = b.S i)
  | 0 => ⟨Int.le_refl _, fun i h1 h2 => by omega, .inl rfl⟩
  | n + 1 => by
    obtain ⟨a1, a2, a3⟩ := lst_le b n
    rw [lst]
    by_cases h : (b.I (n + 1) && decide (b.S (n + 1) < lst b n)) = true
    · rw [if_pos h]
      rw [Bool.and_eq_true, decide_eq_true_eq] at h
      refine ⟨by omega, fun i h1 h2 h3 => ?_, .inr ⟨n + 1, by omega, Nat.le_refl _, h.1, rfl⟩⟩
      rcases Nat.lt_or_ge n i with q | q
      · have : i = n + 1 := by omega
        subst this
        exact Int.le_refl _
      · have := a2 i h1 q h3
        omega
    · rw [if_neg h]
      refine ⟨a1, fun i h1 h2 h3 => ?_, a3.imp id (fun ⟨i, q1, q2, q3⟩ => ⟨i, q1, by omega, q3⟩)⟩
      rcases Nat.lt_or_ge n i with q | q
      · have : i = n + 1 := by omega
        subst this
        rw [Bool.and_eq_true, decide_eq_true_eq] at h
        exact Int.not_lt.1 (fun z => h ⟨h3, z⟩)
      · exact a2 i h1 q h3
def Mn (b : RB) (left : Lit → Bool) (o : Int) : Prop := o ≤ b.now ∧ (∀ k x, inF b k = some x → left (key k) = false → o ≤ x) ∧ (o = b.now ∨ ∃ k x, inF b k = some x ∧ o = x)
theorem Mn.done {b : RB} {left : Lit → Bool} {o : Int} (h : Mn b left o) (hl : ∀ kl, left kl = false) (hI : ∀ i, b.I i = true → 1 ≤ (i : Int) ∧ (i : Int) ≤ b.s) (hs : b.s ≤ 64) : o = lst b 64 := by
  obtain ⟨h1, h2, h3⟩ := h
  obtain ⟨a1, a2, a3⟩ := lst_le b 64
  have u : o ≤ lst b 64 := by
    rcases a3 with q | ⟨i, q1, q2, q3, q4⟩
    · omega
    · have := hI i q3
      have := h2 (i : Int) (b.S i) (by unfold inF; rw [if_pos ⟨this.1, this.2, by rw [Int.toNat_natCast]; exact q3⟩, Int.toNat_natCast]) (hl _)
      omega
  have v : lst b 64 ≤ o := by
    rcases h3 with q | ⟨k, x, q1, q2⟩
    · omega
    · unfold inF at q1
      split at q1
      · rename_i hk
        cases q1
        have := a2 k.toNat (by omega) (by omega) hk.2.2
        omega
      · cases q1
  omega
def x0d : DataW Unit := restD 0
theorem key_same {k k' : Int} (h : (key k).sameKey (key k') = true) : k = k' := by
  unfold key at h
  simpa [Lit.sameKey] using h
theorem Mn.step {b : RB} {left : Lit → Bool} {o : Int} (h : Mn b left o) (k c : Int) (hk : inF b k = some c) : Mn b (fun z => left z && !z.sameKey (key k)) (min o c) := by
  obtain ⟨h1, h2, h3⟩ := h
  refine ⟨by omega, fun k' x hx hl => ?_, ?_⟩
  · rw [Bool.and_eq_false_iff] at hl
    rcases hl with q | q
    · have := h2 k' x hx q
      omega
    · have : k' = k := key_same (by simpa using q)
      subst this
      rw [hk] at hx
      cases hx
      omega
  · rcases Int.le_total o c with q | q
    · rw [Int.min_eq_left q]; exact h3
    · rw [Int.min_eq_right q]; exact .inr ⟨k, c, hk, rfl⟩
theorem least_any {M : Nat → Prop} {w : World} {p m n : Nat} {v : Value} {b : RB} (h : Bk M w p m v b n) (hI : ∀ i, b.I i = true → 1 ≤ (i : Int) ∧ (i : Int) ≤ b.s) (hs : b.s ≤ 64) : Calls Try.prog 23 #[.pointer (some ⟨p, 0, none⟩)] w fun e w' => e = .returned (.int .i64 (lst b 64)) ∧ Below w.heap.size w w' := by
  have hus := Try.underlying59
  have NW := (now_any h).mono (R' := fun e w' => e = .returned (.int .i64 b.now) ∧ Aside0 (w' = w)) (fun e w' q => ⟨q.1, ⟨q.2⟩⟩)
  have c2 := blk_cell h.blk 2
  simp at c2
  obtain ⟨c, D, hown, hF, hsz⟩ := h.map
  have hFA := Aside0.mk hF
  have hIA := Aside0.mk (And.intro hI hs)
  clear h hI hs hF
  go_enter Try.func23, Try.ntmps23
  go_wp2_with (first
    | (go_at_call 24; refine NW.mono ?_; clear NW; rintro e w1 ⟨rfl, hw1⟩; obtain rfl := hw1.out.symm)
    | (at_range; refine wpList_range_own _ rfl _ 56 rfl 3 3 law Try.underlying56 restR m n D rfl hown ?_; intro w0 hrg0 hg0 hs0; have hB0 := Aside0.mk (⟨hg0.os, hg0.tape, hg0.output, hg0.size, fun k hk => hg0.block k hk (by simp)⟩ : Below w.heap.size w w0))
    | go_in)
  go_frame
  have hM0 : Mn b (has D) b.now := ⟨Int.le_refl _, (fun k x hk hl => by
    have := (hFA.out k).1
    rw [hl, hk] at this
    cases this), .inl rfl⟩
  go_loopg [3] (size D) (fun g ov wr => ∃ (left : Lit → Bool) (cnt : Nat) (o : Int), ov = .int .i64 o ∧ wr.ranges Try.prog 3 restR m w.heap.size n D left cnt ∧ Aside0 (cnt ≤ g ∧ (∀ kl, left kl = true → has D kl = true) ∧ Mn b left o) ∧ Aside0 (Below w.heap.size w wr))
  case atStart => exact ⟨has D, size D, b.now, rfl, hrg0, ⟨Nat.le_refl _, fun _ q => q, hM0⟩, hB0⟩
  case round =>
    clear hM0 hrg0 hB0
    obtain ⟨left, cnt, o, rfl, hrg, hA, hBr⟩ := hrel
    go_wp2_with (at_next; refine wpList_next_ranges _ rfl _ rfl 3 law restR (Value.int .i64) restV (fun key kl hkey => by obtain ⟨x, rfl, _⟩ := Maps.keyOf_int_inv Try.underlying3 hkey; exact ⟨x, rfl⟩) (fun v y hv => by obtain ⟨d, ps⟩ := y; obtain ⟨c, rfl, _⟩ := restR_inv hv; exact ⟨c, rfl⟩) m w.heap.size n D left cnt rfl hrg ?done ?more)
    · intro hc0 hl0
      have e := hA.out.2.2.done hl0 hIA.out.1 hIA.out.2
      subst e
      clear hl0 hrg hA hc0
      go_wp2
      go_ret
      exact ⟨rfl, hBr.out⟩
    · intro x c kl y1 y2 w' cnt' hkey hlk hy hat hrg1 hlt hg1 hs1 hen
      obtain ⟨x', ex, rfl, hwx⟩ := Maps.keyOf_int_inv Try.underlying3 hkey
      cases ex
      rw [restR_mk] at hy
      cases hy
      have hin : inF b x = some c := by
        obtain ⟨f1, f2⟩ := hFA.out x
        have hh := hA.out.2.1 _ hlk
        rw [show Lit.int .i64 x = key x from rfl] at hh
        rw [f1] at hh
        obtain ⟨c', hc'⟩ := Option.isSome_iff_exists.1 hh
        have := (f2 c' hc' x0d).symm.trans (hat x0d)
        rw [hc', restD_inj this]
      have hMn := Aside0.mk (hA.out.2.2.step x c hin)
      have hlk2 : Aside0 (∀ kl, (left kl && !kl.sameKey (key x)) = true → has D kl = true) := ⟨fun kl hh => hA.out.2.1 kl (by rw [Bool.and_eq_true] at hh; exact hh.1)⟩
      have hcl : Aside0 (cnt' < cnt ∧ cnt ≤ gk) := ⟨⟨hlt, hA.out.1⟩⟩
      have hB1 := Aside0.mk (⟨hg1.os.trans hBr.out.os, hg1.tape.trans hBr.out.tape, hg1.output.trans hBr.out.output, Nat.le_trans hBr.out.size hg1.size, fun k hk => (hg1.block k (Nat.lt_of_lt_of_le hk hBr.out.size) (by intro e; cases e; omega)).trans (hBr.out.block k hk)⟩ : Below w.heap.size w w')
      simp only [restV] at hen ⊢
      clear hin hat hlk hkey hA hBr hrg hlt hg1 hs1 hwx
      cases gk with
      | zero => have := hcl.out; omega
      | succ g =>
        rcases Int.lt_or_le c o with q | q
        · have em : min o c = c := Int.min_eq_right (Int.le_of_lt q)
          rw [em] at hMn
          clear em
          go_wp2
          go_roundg g
          case measure => omega
          case rel => exact ⟨_, cnt', c, rfl, hrg1, ⟨by have := hcl.out; omega, hlk2.out, hMn.out⟩, hB1⟩
        · have em : min o c = o := Int.min_eq_left q
          rw [em] at hMn
          clear em
          have q2 : ¬ c < o := Int.not_lt.2 q
          go_wp2
          go_roundg g
          case measure => omega
          case rel => exact ⟨_, cnt', o, rfl, hrg1, ⟨by have := hcl.out; omega, hlk2.out, hMn.out⟩, hB1⟩
end Go.Proofs.Ytlpganbcnhiidaa.Ep
end
