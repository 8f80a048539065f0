/- Texts of one claim (laid by shake.py). -/
import Derived.Test.YtidaiafmhidooaaZa27
import Derived.Test.YtidaiafmhidooaaZa25
import Derived.Test.YtidaiafmhidooaaZa2
import Derived.Lib.Strings
import Derived.LoopTactic
import Derived.RangeFuncBox
import Derived.Maps.OwnIn
import Derived.Test.YtidaiafmhidooaaZa0
import Derived.Test.YtidaiafmhidooaaZa11
import Derived.Deep.RegionHeld3
import Derived.Test.YtidaiafmhidooaaZa20
import Derived.Test.YtidaiafmhidooaaZa5
import Derived.Test.YtidaiafmhidooaaZa4
import Derived.Test.YtidaiafmhidooaaZa6
set_option linter.unusedVariables false
set_option linter.unusedSimpArgs false
section
namespace Go.Proofs.Ytidaiafmhidooaa.OrdSb
open Go.RowKit Go.Shelf Go.Proofs.YtidaiafmhidooaaW.PrintWords Go.Proofs.YtidaiafmhidooaaW.PrintLast Go.Proofs.YtidaiafmhidooaaW.PrintMore Go.Proofs.Ytidaiafmhidooaa.Own Go.Proofs.Ytidaiafmhidooaa.Ord
theorem ba_ext {a b : ByteArray} (h : a.toList = b.toList) : a = b := by
 cases a; cases b
 rw [Lib.toList_data, Lib.toList_data] at h
 congr 1
 exact Array.toList_inj.1 h
theorem lin : Lin (K := ByteArray) lt := ⟨fun a => Bo.irrefl _, fun h k => Bo.trans h k, fun h k => ba_ext (Bo.tri h k)⟩
theorem walkA_toL : ∀ T : Kn ByteArray Bool, walkA T = T.toL
 | .nil => rfl
 | .node _ _ _ l r => by rw [walkA, Kn.toL, walkA_toL l, walkA_toL r]
theorem walkB_toL (s : ByteArray) : ∀ T : Kn ByteArray Bool, Rise lt T.toL → walkB s T = T.toL.filter (fun x => !lt x.1 s)
 | .nil, _ => rfl
 | .node b k v l r, h => by
  obtain ⟨hl, hr, h1, h2⟩ := rise_node h
  unfold walkB
  by_cases hA : lt k s = true
  ·rw [if_pos hA, walkB_toL s r hr]
   have e1 : l.toL.filter (fun x => !lt x.1 s) = [] := fil_none fun x hx => by rw [lin.tr (h1 x hx) hA]; rfl
   simp only [Kn.toL, List.filter_append, List.filter_cons, e1, hA]
   simp
  ·rw [if_neg hA, walkB_toL s l hl, walkA_toL]
   have hA' : lt k s = false := by simpa using hA
   have e2 : r.toL.filter (fun x => !lt x.1 s) = r.toL := fil_all fun x hx => by
    cases q : lt x.1 s with
    | false => rfl
    | true => rw [lin.tr (h2 x hx) q] at hA'; cases hA'
   simp only [Kn.toL, List.filter_append, List.filter_cons, e2, hA']
   simp
theorem takeWhile_rise (b : ByteArray) : ∀ l : List (ByteArray × Bool), Rise lt l → l.takeWhile (fun x => lt x.1 b) = l.filter (fun x => lt x.1 b)
 | [], _ => rfl
 | x :: l, h => by
  rw [Rise, List.pairwise_cons] at h
  rw [List.takeWhile_cons, List.filter_cons]
  cases hx : lt x.1 b with
  | true => simp only [if_true]; rw [takeWhile_rise b l h.2]
  | false =>
   simp only [Bool.false_eq_true, if_false]
   rw [fil_none]
   intro y hy
   cases q : lt y.1 b with
   | false => rfl
   | true => rw [lin.tr (h.1 y hy) q] at hx; cases hx
def Hold (U : Nat → Prop) (w : World) (m : Nat) (L : List (ByteArray × Bool)) : Prop := ∃ T, Mp w m T ∧ T.toL = L ∧ Rise lt L ∧ ∀ x ∈ m :: T.bs, U x
theorem Hold.mono {U U' : Nat → Prop} {w : World} {m : Nat} {L : List (ByteArray × Bool)} (h : Hold U w m L) (hU : ∀ k, U k → U' k) : Hold U' w m L := by
 obtain ⟨T, h1, h2, h3, h4⟩ := h
 exact ⟨T, h1, h2, h3, fun x hx => hU x (h4 x hx)⟩
theorem Hold.bound {U : Nat → Prop} {w : World} {m : Nat} {L : List (ByteArray × Bool)} (h : Hold U w m L) : Hold (fun k => U k ∧ k < w.heap.size) w m L := by
 obtain ⟨T, h1, h2, h3, h4⟩ := h
 refine ⟨T, h1, h2, h3, fun x hx => ⟨h4 x hx, ?_⟩⟩
 rcases List.mem_cons.1 hx with rfl | hx
 ·exact blk_lt h1.blk
 ·exact in_lt h1.inn x hx
theorem Hold.frm {U : Nat → Prop} {w w' : World} {m : Nat} {L : List (ByteArray × Bool)} (h : Hold U w m L) {M : Nat → Prop} (f : It.FrM M w w') (hM : ∀ k, U k → k < w.heap.size → ¬ M k) : Hold U w' m L := by
 obtain ⟨T, hT, h2, h3, h4⟩ := h
 have f' : Fr ((List.range w.heap.size).filter (fun k => decide (k ∉ m :: T.bs))) w w' := ⟨f.os, f.tape, f.output, f.size, fun k hk hn => f.block k hk (hM k (by
  refine h4 k ?_
  by_cases q : k ∈ m :: T.bs
  ·exact q
  ·exact absurd (List.mem_filter.2 ⟨List.mem_range.2 hk, by simpa using q⟩) hn) hk)⟩
 refine ⟨T, hT.fr f' (fun hm => ?_) (fun x hx hm => ?_), h2, h3, h4⟩
 ·have := (List.mem_filter.1 hm).2
  simp at this
 ·have := (List.mem_filter.1 hm).2
  simp only [decide_eq_true_eq] at this
  exact this (List.mem_cons_of_mem _ hx)
theorem Hold.below {U : Nat → Prop} {w w' : World} {m : Nat} {L : List (ByteArray × Bool)} (h : Hold U w m L) (b : Below w.heap.size w w') : Hold U w' m L :=
 h.frm (It.FrM.of_below (M := fun _ => False) b) (fun _ _ _ q => q)
theorem Hold.putObj {U : Nat → Prop} {w : World} {m : Nat} {L : List (ByteArray × Bool)} (h : Hold U w m L) {D : Nat} {o : Obj} (o' : Obj) (hD : w.heap[D]? = some o) (ho : o.isCells = false) : Hold U (w.putObj D o') m L := by
 obtain ⟨T, hM, h2, h3, h4⟩ := h
 refine ⟨T, hM.fr (B := [D]) ⟨rfl, rfl, rfl, by simp, fun k _ hn => World.putObj_heap_other (by simp at hn; omega)⟩ (fun hm => ?_) (fun x hx hm => ?_), h2, h3, h4⟩
 ·obtain rfl : m = D := by simpa using hm
  rw [hM.blk] at hD; cases hD; cases ho
 ·obtain rfl : x = D := by simpa using hm
  obtain ⟨cells, hc⟩ := in_typed hM.inn x hx
  rw [hc] at hD; cases hD; cases ho
theorem frm_of_fr {B : List Nat} {U : Nat → Prop} {w w' : World} (f : Fr B w w') (hB : ∀ k ∈ B, U k) : It.FrM U w w' := ⟨f.os, f.tape, f.output, f.size, fun k hk hn => f.block k hk (fun hm => hn (hB k hm))⟩
theorem hold_new (w : World) : Calls Try.prog 65 #[] w fun e w' => ∃ m, e = .returned (.pointer (some ⟨m, 0, none⟩)) ∧ Hold (fun k => w.heap.size ≤ k) w' m [] ∧ Below w.heap.size w w' :=
 (new_any w).mono (by
  rintro e w' ⟨m, hm, rfl, hM, fr⟩
  exact ⟨m, rfl, ⟨.nil, hM, rfl, List.Pairwise.nil, by simp [Kn.bs]; exact hm⟩, fr.below (by simp) (Nat.le_refl _)⟩)
theorem hold_put {U : Nat → Prop} {w : World} {m : Nat} {L : List (ByteArray × Bool)} (h : Hold U w m L) (hU : ∀ k, w.heap.size ≤ k → U k) (hl : L.length < 1000000) (k : ByteArray) (v : Bool) :
  Calls Try.prog 67 #[.pointer (some ⟨m, 0, none⟩), .string k, .bool v] w fun e w' => (∃ b, e = .returned (.bool b)) ∧ Hold U w' m (ins lt k v L) ∧ It.FrM U w w' := by
 obtain ⟨T, hM, rfl, hr, hB⟩ := h
 have hc := Kn.cnt_len T
 refine (mput_any k v hM (by omega)).mono ?_
 rintro e w' ⟨nb, hnb, rfl, hM', fr⟩
 have ht := put_toL lin nb k v T hr
 refine ⟨⟨_, rfl⟩, ⟨_, hM', ht, ins_rise lin k v hr, fun x hx => ?_⟩, frm_of_fr fr hB⟩
 rcases List.mem_cons.1 hx with rfl | hx
 ·exact hB _ List.mem_cons_self
 ·rcases Kn.put_mem hx with e | e
  ·exact hU _ (by omega)
  ·exact hB _ (List.mem_cons_of_mem _ e)
theorem hold_all_iter (n Bb : Nat) {U : Nat → Prop} {w0 w : World} {m : Nat} {L : List (ByteArray × Bool)} (h : Hold U w0 m L) (hw : Below w0.heap.size w0 w) (hBb : Bb < w.heap.size) (hc : w.cell? ⟨Bb, 0, none⟩ = some (.pointer (some ⟨m, 0, none⟩))) :
  ∃ S : Nat → Prop, (∀ k, S k → (k = Bb ∨ (U k ∧ k < w0.heap.size)) ∧ k < w.heap.size) ∧ It.Iter Fence.wide n Try.prog 97 #[.pointer (some ⟨Bb, 0, none⟩)] (fun x : ByteArray × Bool => #[.string x.1, .bool x.2]) (fun ys => ys = L) (fun pre => pre <+: L) L.length S w := by
 obtain ⟨T, hM, rfl, hr, hB⟩ := h
 have hlt := in_lt hM.inn
 have hml := blk_lt hM.blk
 have hM' := hM.below hw
 have hsz := hw.size
 refine ⟨fun k => k = Bb ∨ k ∈ m :: T.bs, ?_, ?_⟩
 ·rintro k (rfl | hk)
  ·exact ⟨.inl rfl, hBb⟩
  ·have h1 : k < w0.heap.size := by
    rcases List.mem_cons.1 hk with rfl | hk
    ·exact hml
    ·exact hlt k hk
   exact ⟨.inr ⟨hB k hk, h1⟩, by omega⟩
 ·have := all_iter n Bb (fun k => k = Bb ∨ k ∈ m :: T.bs) (some ⟨m, 0, none⟩) T w ?_ (.inl rfl) hc ⟨.inr List.mem_cons_self, blk_cell hM'.blk 0, hM'.inn, fun x hx => .inr (List.mem_cons_of_mem _ hx)⟩
  ·rw [walkA_toL] at this
   exact this
  ·rintro k (rfl | hk)
   ·exact hBb
   ·rcases List.mem_cons.1 hk with rfl | hk
    ·omega
    ·have := hlt k hk; omega
end Go.Proofs.Ytidaiafmhidooaa.OrdSb
end
section
namespace Go.Proofs.Ytidaiafmhidooaa.Fo
open Go.RowKit Go.Shelf Go.Proofs.YtidaiafmhidooaaW.PrintWords Go.Proofs.YtidaiafmhidooaaW.PrintLast Go.Proofs.YtidaiafmhidooaaW.PrintMore Go.Proofs.Ytidaiafmhidooaa.Own Go.Proofs.Ytidaiafmhidooaa.Ord Go.Proofs.Ytidaiafmhidooaa
open Go.Proofs.Ytidaiafmhidooaa.OrdSs (lt Hold hold_new hold_get hold_put hold_drop hold_cut)
set_option maxHeartbeats 2000000
set_option maxRecDepth 100000
theorem cell_below {w W : World} (hb : Below w.heap.size w W) {a : Addr} {v : Value} (h : w.cell? a = some v) : W.cell? a = some v := (World.cell?_of_block (hb.block a.block (World.block_lt_of_cell? w a h))).trans h
end Go.Proofs.Ytidaiafmhidooaa.Fo
end
section
namespace Go.Proofs.Ytidaiafmhidooaa.Fo
open Go.RowKit Go.Shelf Go.Proofs.YtidaiafmhidooaaW.PrintWords Go.Proofs.YtidaiafmhidooaaW.PrintLast Go.Proofs.YtidaiafmhidooaaW.PrintMore Go.Proofs.Ytidaiafmhidooaa.Own Go.Proofs.Ytidaiafmhidooaa.Ord Go.Proofs.Ytidaiafmhidooaa
open Go.Proofs.Ytidaiafmhidooaa.OrdSs (lt Hold hold_new hold_get hold_put hold_drop hold_cut hold_from_iter from_in lin cutM infoStr underS row_open)
attribute [local go_sem] Oper.semAt_some
set_option maxHeartbeats 2000000
set_option maxRecDepth 100000
end Go.Proofs.Ytidaiafmhidooaa.Fo
end
section
namespace Go.Proofs.Ytidaiafmhidooaa.Fo
open Go.RowKit Go.Shelf Go.Proofs.YtidaiafmhidooaaW.PrintWords Go.Proofs.YtidaiafmhidooaaW.PrintLast Go.Proofs.YtidaiafmhidooaaW.PrintMore Go.Proofs.Ytidaiafmhidooaa.Own Go.Proofs.Ytidaiafmhidooaa.Ord Go.Proofs.Ytidaiafmhidooaa Go.Proofs.Ytidaiafmhidooaa.P
open Go.Proofs.Ytidaiafmhidooaa.OrdSs (Hold hold_new hold_get hold_put hold_drop)
set_option maxHeartbeats 2000000
set_option maxRecDepth 100000
theorem at_M {w : World} {A : Option Addr} {n : Nat} {xs : List Ms} (h : Kd.C P.k33 w A n xs) (i : Int) (h0 : 0 ≤ i) (h1 : i < n) : ∃ ad, ∃ x : Ms, A = some ad ∧ xs[i.toNat]? = some x ∧ w.cell? (ad.add (i.toNat * 6)) = some (.int .u8 x.f0) ∧
  w.cell? ⟨(ad.add (i.toNat * 6)).block, (ad.add (i.toNat * 6)).off + 1, none⟩ = some (.int .i64 x.f1) ∧ w.cell? ⟨(ad.add (i.toNat * 6)).block, (ad.add (i.toNat * 6)).off + 2, none⟩ = some (.string x.f2) ∧ w.cell? ⟨(ad.add (i.toNat * 6)).block, (ad.add (i.toNat * 6)).off + 3, none⟩ = some (.string x.f3) ∧
  w.cell? ⟨(ad.add (i.toNat * 6)).block, (ad.add (i.toNat * 6)).off + 4, none⟩ = some (.string x.f4) ∧ w.cell? ⟨(ad.add (i.toNat * 6)).block, (ad.add (i.toNat * 6)).off + 5, none⟩ = some (.int .u64 x.f5) := by
 obtain ⟨ad, c, e, _, hK, hc0⟩ := Kd.C_get h P.z33 i h0 h1
 have hc : ∀ j u, c[j]? = some u → w.cell? (ad.add (i.toNat * 6 + j)) = some u := hc0
 obtain rfl := P.k33_open hK
 have hl := h.1
 refine ⟨ad, _, e, ?_, hc 0 _ rfl, by rw [← add_field _ _ 1 (by omega)]; exact hc 1 _ rfl, by rw [← add_field _ _ 2 (by omega)]; exact hc 2 _ rfl, by rw [← add_field _ _ 3 (by omega)]; exact hc 3 _ rfl, by rw [← add_field _ _ 4 (by omega)]; exact hc 4 _ rfl, by rw [← add_field _ _ 5 (by omega)]; exact hc 5 _ rfl⟩
 rw [List.getD_eq_getElem?_getD, List.getElem?_eq_getElem (by omega)]
 rfl
end Go.Proofs.Ytidaiafmhidooaa.Fo
end
section
namespace Go.Proofs.Ytidaiafmhidooaa.Fo
open Go.RowKit Go.Shelf Go.Proofs.YtidaiafmhidooaaW.PrintWords Go.Proofs.YtidaiafmhidooaaW.PrintLast Go.Proofs.YtidaiafmhidooaaW.PrintMore Go.Proofs.Ytidaiafmhidooaa.Own Go.Proofs.Ytidaiafmhidooaa.Ord Go.Proofs.Ytidaiafmhidooaa Go.Proofs.Ytidaiafmhidooaa.P
open Go.Proofs.Ytidaiafmhidooaa.OrdSs (Hold hold_from_iter from_in lin)
attribute [local go_sem] Oper.semAt_some
set_option maxHeartbeats 2000000
set_option maxRecDepth 100000
end Go.Proofs.Ytidaiafmhidooaa.Fo
end
section
namespace Go.Proofs.Ytidaiafmhidooaa.Fo
open Go.RowKit Go.Shelf Go.Proofs.YtidaiafmhidooaaW.PrintWords Go.Proofs.YtidaiafmhidooaaW.PrintLast Go.Proofs.YtidaiafmhidooaaW.PrintMore Go.Proofs.Ytidaiafmhidooaa.Own Go.Proofs.Ytidaiafmhidooaa.Ord Go.Proofs.Ytidaiafmhidooaa Go.Proofs.Ytidaiafmhidooaa.P
open Go.Proofs.Ytidaiafmhidooaa.OrdSs (cell_two_new)
attribute [local go_sem] Oper.semAt_some
set_option maxHeartbeats 2000000
set_option maxRecDepth 100000
end Go.Proofs.Ytidaiafmhidooaa.Fo
end
section
namespace Go.Proofs.Ytidaiafmhidooaa.Fo
open Go.RowKit Go.Shelf Go.Proofs.YtidaiafmhidooaaW.PrintWords Go.Proofs.YtidaiafmhidooaaW.PrintLast Go.Proofs.YtidaiafmhidooaaW.PrintMore Go.Proofs.Ytidaiafmhidooaa.Own Go.Proofs.Ytidaiafmhidooaa.Ord Go.Proofs.Ytidaiafmhidooaa Go.Proofs.Ytidaiafmhidooaa.P
open Go.Proofs.Ytidaiafmhidooaa.OrdSs (cell_two_new)
attribute [local go_sem] Oper.semAt_some
set_option maxHeartbeats 2000000
set_option maxRecDepth 100000
end Go.Proofs.Ytidaiafmhidooaa.Fo
end
section
namespace Go.Proofs.Ytidaiafmhidooaa.Fo
open Go.RowKit Go.Shelf Go.Proofs.YtidaiafmhidooaaW.PrintWords Go.Proofs.YtidaiafmhidooaaW.PrintLast Go.Proofs.YtidaiafmhidooaaW.PrintMore Go.Proofs.Ytidaiafmhidooaa.Own Go.Proofs.Ytidaiafmhidooaa.Ord Go.Proofs.Ytidaiafmhidooaa Go.Proofs.Ytidaiafmhidooaa.P
open Go.Proofs.Ytidaiafmhidooaa.OrdSb (Hold hold_new hold_put hold_all_iter all_in)
open Go.Proofs.Ytidaiafmhidooaa.OrdSs (infoStr underS)
attribute [local go_sem] Oper.semAt_some
set_option maxHeartbeats 2000000
set_option maxRecDepth 100000
end Go.Proofs.Ytidaiafmhidooaa.Fo
end
section
namespace Go.Proofs.Ytidaiafmhidooaa.Fo
open Go.RowKit Go.Shelf Go.Proofs.YtidaiafmhidooaaW.PrintWords Go.Proofs.YtidaiafmhidooaaW.PrintLast Go.Proofs.YtidaiafmhidooaaW.PrintMore Go.Proofs.Ytidaiafmhidooaa.Own Go.Proofs.Ytidaiafmhidooaa.Ord Go.Proofs.Ytidaiafmhidooaa Go.Proofs.Ytidaiafmhidooaa.P
open Go.Proofs.Ytidaiafmhidooaa.OrdSs (infoStr underS)
attribute [local go_sem] Oper.semAt_some
set_option maxHeartbeats 2000000
set_option maxRecDepth 100000
end Go.Proofs.Ytidaiafmhidooaa.Fo
end
section
namespace Go.Proofs.Ytidaiafmhidooaa.Fo
open Go.RowKit Go.Shelf Go.Proofs.YtidaiafmhidooaaW.PrintWords Go.Proofs.YtidaiafmhidooaaW.PrintLast Go.Proofs.YtidaiafmhidooaaW.PrintMore Go.Proofs.Ytidaiafmhidooaa.Own Go.Proofs.Ytidaiafmhidooaa.Ord Go.Proofs.Ytidaiafmhidooaa Go.Proofs.Ytidaiafmhidooaa.P
open Go.Proofs.Ytidaiafmhidooaa.OrdSs (cell_two_new own_empty run_eql_func_nil)
attribute [local go_sem] Oper.semAt_some
set_option maxHeartbeats 2000000
set_option maxRecDepth 100000
end Go.Proofs.Ytidaiafmhidooaa.Fo
end
section
namespace Go.Proofs.Ytidaiafmhidooaa.Cp
open Go.RowKit Go.Shelf Go.Proofs.YtidaiafmhidooaaW.PrintWords Go.Proofs.YtidaiafmhidooaaW.PrintLast Go.Proofs.YtidaiafmhidooaaW.PrintMore Go.Proofs.Ytidaiafmhidooaa.Own Go.Proofs.Ytidaiafmhidooaa
set_option maxHeartbeats 8000000
set_option maxRecDepth 100000
def keysM (m : Ms) : List ByteArray := [m.f2, P.succB m.f2, m.f3, P.succB m.f3]
def keys0 : List ByteArray := [P.e0, P.succB P.e0]
def vals0 : List ByteArray := [P.e0, strOfNums (Wp.eight 0), strOfNums (Wp.eight 1)]
def valM (m : Ms) : List ByteArray := if m.f0 = 1 then [m.f4] else []
def marksK (l : List Ms) : List ByteArray := keys0 ++ l.flatMap keysM
def marksV (l : List Ms) : List ByteArray := vals0 ++ l.flatMap valM
theorem keysM_length : ∀ l : List Ms, (l.flatMap keysM).length = 4 * l.length
  | [] => rfl
  | m :: l => by rw [List.flatMap_cons, List.length_append, keysM_length l, List.length_cons]; simp [keysM]; omega
theorem marksK_length (l : List Ms) : (marksK l).length = 2 + 4 * l.length := by unfold marksK; rw [List.length_append, keysM_length]; rfl
theorem valM_length : ∀ l : List Ms, (l.flatMap valM).length ≤ l.length
  | [] => Nat.le_refl _
  | m :: l => by
    rw [List.flatMap_cons, List.length_append, List.length_cons]
    have := valM_length l
    have : (valM m).length ≤ 1 := by unfold valM; split <;> simp
    omega
theorem marksV_length (l : List Ms) : (marksV l).length ≤ 3 + l.length := by unfold marksV; rw [List.length_append]; have := valM_length l; show 3 + _ ≤ _; omega
abbrev Sw (W : World) (base : Nat) (v : Value) (l : List ByteArray) : Prop := W.ownsRow base 9 1 v l.length (l.map Value.string)
structure TwoR (W : World) (base : Nat) (kv vv : Value) (K V : List ByteArray) : Prop where
  k : Sw W base kv K
  v : Sw W base vv V
  ne : kv.ownBlock ≠ vv.ownBlock
theorem Sw.below {w W : World} {base : Nat} {v : Value} {xs : List ByteArray} (ho : Sw w base v xs) (hb : Below w.heap.size w W) : Sw W base v xs :=
  own_move ho (fun k hk => hb.block k (own_lt ho k hk))
theorem TwoR.below {w W : World} {base : Nat} {kv vv : Value} {K V : List ByteArray} (h : TwoR w base kv vv K V) (hb : Below w.heap.size w W) : TwoR W base kv vv K V := ⟨h.k.below hb, h.v.below hb, h.ne⟩
theorem Sw.some {W : World} {base : Nat} {v : Value} {l : List ByteArray} (h : Sw W base v l) (hl : 0 < l.length) : ∃ b, v.ownBlock = some b := by
  rcases h.2 with ⟨h', _⟩ | ⟨g, cap, cur, h', _⟩
  · omega
  · exact ⟨g, by rw [h']; rfl⟩
theorem cell_lit {W : World} {D e : Nat} {cs : Array Value} (h : W.heap[D]? = some (.cells cs e (0, 0))) : ∀ j u, cs.toList[j]? = some u → W.cell? ((⟨D, 0, none⟩ : Addr).add j) = some u := by
  intro j u hj
  have : (⟨D, 0, none⟩ : Addr).add j = ⟨D, j, none⟩ := by unfold Addr.add; split <;> simp_all
  rw [this, cell_of_row W D j cs e (0, 0) h]
  simpa using hj
theorem TwoR.moreK {w w' : World} {base : Nat} {kv kv' vv : Value} {K V l : List ByteArray} (h : TwoR w base kv vv K V) (hV : 0 < V.length) (ho : w'.ownsRow base 9 1 kv' (K.length + l.length) (K.map Value.string ++ l.map Value.string)) (hg : w.grownBy w' kv.ownBlock) (hat : kv'.ownBlock = kv.ownBlock ∨ kv'.ownBlock = some w.heap.size) : TwoR w' base kv' vv (K ++ l) V := by
  refine ⟨by unfold Sw; rw [List.length_append, List.map_append]; exact ho, h.v.kept hg (.inr (fun e => h.ne e.symm)), ?_⟩
  rcases hat with e | e
  · rw [e]; exact h.ne
  · rw [e]
    intro e2
    have := own_lt h.v _ e2.symm
    omega
theorem TwoR.moreV {w w' : World} {base : Nat} {kv vv vv' : Value} {K V l : List ByteArray} (h : TwoR w base kv vv K V) (hK : 0 < K.length) (ho : w'.ownsRow base 9 1 vv' (V.length + l.length) (V.map Value.string ++ l.map Value.string)) (hg : w.grownBy w' vv.ownBlock) (hat : vv'.ownBlock = vv.ownBlock ∨ vv'.ownBlock = some w.heap.size) : TwoR w' base kv vv' K (V ++ l) := by
  refine ⟨h.k.kept hg (.inr h.ne), by unfold Sw; rw [List.length_append, List.map_append]; exact ho, ?_⟩
  rcases hat with e | e
  · rw [e]; exact h.ne
  · rw [e]
    intro e2
    have := own_lt h.k _ e2
    omega
theorem TwoR.alloc {w : World} {base : Nat} {kv vv : Value} {K V : List ByteArray} (h : TwoR w base kv vv K V) (o : Obj) : TwoR (w.alloc o) base kv vv K V := ⟨World.ownsRow.alloc h.k o, World.ownsRow.alloc h.v o, h.ne⟩
theorem infoS : (Try.prog.info? 9).map (fun i => (i.zero, i.size, i.bytes)) = some (some (.string ⟨#[]⟩), 1, 16) := by kernel_rfl
theorem info_parts2 {P : Program} {t : TypeId} {z : Option Value} {a b : Nat} (h : (P.info? t).map (fun i => (i.zero, i.size, i.bytes)) = some (z, a, b)) : ∃ i, P.info? t = some i ∧ i.zero = z ∧ i.size = a ∧ i.bytes = b := by
  cases hi : P.info? t with
  | none => rw [hi] at h; cases h
  | some i =>
    rw [hi] at h
    simp only [Option.map_some, Option.some.injEq, Prod.mk.injEq] at h
    exact ⟨i, rfl, h.1, h.2.1, h.2.2⟩
theorem after_any (s : ByteArray) (hs : s.size ≤ 140737488351232) (W : World) : Calls Try.prog 84 #[.string s] W fun e w' => e = .returned (.string (P.succB s)) ∧ Below W.heap.size W w' :=
  (P.key_After.calls _ _ _ (P.After_eq _ hs)).mono (by rintro e w' ⟨h, ⟨n, rfl⟩⟩; exact ⟨h, pw_below_drewN (Below.refl _ _) n⟩)
theorem le_max4 {n k : Nat} (h : n ≤ 1000000) (hk : k ≤ 10) : n + k ≤ maxLen := Nat.le_trans (Nat.add_le_add h hk) (by unfold maxLen; decide)
def doneJ (a b : List Ms) (j : Int) : List Ms := if j = 0 then [] else if j = 1 then a else a ++ b
def okS2 (m : Ms) : Prop := m.f2.size ≤ 140737488351232 ∧ m.f3.size ≤ 140737488351232
theorem marks_any {w : World} {A B : Option Addr} {c d : Nat} {a b : List Ms} (hA : Kd.C P.k33 w A a.length a) (hB : Kd.C P.k33 w B b.length b) (hca : a.length ≤ c) (hcb : b.length ≤ d) (hla : a.length ≤ 50000) (hlb : b.length ≤ 50000) (hsa : ∀ x ∈ a, okS2 x) (hsb : ∀ x ∈ b, okS2 x) :
    Calls Try.prog 56 #[.slice A a.length c, .slice B b.length d] w fun e w' => ∃ kv vv, e = .returned (.tuple #[kv, vv]) ∧ TwoR w' w.heap.size kv vv (marksK (a ++ b)) (marksV (a ++ b)) ∧ Below w.heap.size w w' := by
  have hmaxa := Kd.C_max hA
  have hmaxb := Kd.C_max hB
  have hum := Try.underlying33
  obtain ⟨iS, hi, hz0, hz1, hz2⟩ := info_parts2 infoS
  have hB0 := Below.refl w.heap.size w
  have hx0 : ∀ (x y : Value) (w : World), (Instr.index 99 (.agg #[x, y]) (.int .i64 0)).run Try.prog w = .ok x w := fun x y w => by rfl
  have hx1 : ∀ (x y : Value) (w : World), (Instr.index 99 (.agg #[x, y]) (.int .i64 1)).run Try.prog w = .ok y w := fun x y w => by rfl
  have hy0 : ∀ (x y : Value) (w : World), (Instr.index 100 (.agg #[x, y]) (.int .i64 0)).run Try.prog w = .ok x w := fun x y w => by rfl
  have hy1 : ∀ (x y : Value) (w : World), (Instr.index 100 (.agg #[x, y]) (.int .i64 1)).run Try.prog w = .ok y w := fun x y w => by rfl
  have AF := after_any P.e0 (by decide)
  have W0 := Wp.put_any 0
  have W1 := Wp.put_any 1
  generalize hp0 : strOfNums (Wp.eight 0) = p0 at W0
  generalize hp1 : strOfNums (Wp.eight 1) = p1 at W1
  go_enter Try.func56, Try.ntmps56
  go_wp2_with (first
    | (go_at_call 84; refine (AF _).mono ?_; clear AF; rintro e w1 ⟨rfl, hb1⟩)
    | (go_at_call 79; refine (W0 _).mono ?_; clear W0; rintro e w2 ⟨rfl, hb2⟩)
    | (go_at_call 79; refine (W1 _).mono ?_; clear W1; rintro e w3 ⟨rfl, hb3⟩))
  have t1 : TwoR (w3.alloc (.cells #[.string P.e0, .string p0, .string p1] 9)) w.heap.size (.slice (some ⟨w1.heap.size, 0, none⟩) 2 2) (.slice (some ⟨w3.heap.size, 0, none⟩) 3 3) keys0 vals0 := by
    have k0 : Sw (w1.alloc (.cells #[.string P.e0, .string (P.succB P.e0)] 9)) w.heap.size (.slice (some ⟨w1.heap.size, 0, none⟩) 2 2) keys0 := World.ownsRow_lit w1 #[.string P.e0, .string (P.succB P.e0)] 2 hb1.size (by unfold maxLen; decide) rfl
    have v0 : Sw (w3.alloc (.cells #[.string P.e0, .string p0, .string p1] 9)) w.heap.size (.slice (some ⟨w3.heap.size, 0, none⟩) 3 3) vals0 := by
      unfold vals0
      rw [hp0, hp1]
      exact World.ownsRow_lit w3 #[.string P.e0, .string p0, .string p1] 3 (by have := hb1.size; have := hb2.size; have := hb3.size; simp at *; omega) (by unfold maxLen; decide) rfl
    refine ⟨World.ownsRow.alloc ((k0.below hb2).below hb3) _, v0, ?_⟩
    intro e
    have e : some w1.heap.size = some w3.heap.size := e
    injection e with e
    have := hb2.size
    have := hb3.size
    simp at *
    omega
  have hB1 : Below w.heap.size w (w3.alloc (.cells #[.string P.e0, .string p0, .string p1] 9)) := below_alloc (below_step (below_step (below_alloc hb1 _) hb2) hb3) _
  have hK1 : marksK (doneJ a b 0) = keys0 := by simp [doneJ, marksK]
  have hV1 : marksV (doneJ a b 0) = vals0 := by simp [doneJ, marksV]
  rw [← hK1, ← hV1] at t1
  clear hK1 hV1 hb1 hb2 hb3 hp0 hp1 hB0
  go_loopg [6, 7, 22] 2 (fun n kv vv jv wr => ∃ j : Int, jv = .int .i64 j ∧ Aside (0 ≤ j ∧ j.toNat + n = 2) ∧ Aside (TwoR wr w.heap.size kv vv (marksK (doneJ a b j)) (marksV (doneJ a b j))) ∧ Aside (Below w.heap.size w wr))
  case atStart => exact ⟨0, rfl, ⟨Int.le_refl _, by simp⟩, t1, hB1⟩
  case round =>
    clear hB1 t1
    obtain ⟨j, rfl, hJ, hT, hBr⟩ := hrel
    obtain ⟨hj0, hj2⟩ := hJ.out
    cases gk with
    | zero =>
      have d0 : decide (j < 2) = false := decide_eq_false (by omega)
      have hTF := hT.out
      have hdn : doneJ a b j = a ++ b := by unfold doneJ; rw [if_neg (by omega), if_neg (by omega)]
      rw [hdn] at hTF
      clear hA hB hJ hj0 hj2 hT
      go_wp2
      refine bodyPost_ret (results_tmp2 rfl _ _ _) rfl ?_
      exact ⟨_, _, rfl, hTF, hBr.out⟩
    | succ n =>
      obtain rfl | rfl : j = 0 ∨ j = 1 := by omega
      · have hpre : doneJ a b 0 = [] := by simp [doneJ]
        have hpost : doneJ a b (0 + 1) = [] ++ a := by simp [doneJ]
        have d00 : decide ((0 : Int) < 2) = true := rfl
        rw [hpre] at hT
        have hJ2 := Aside0.mk (And.intro hj2 hpost)
        clear hj2 hpost hpre hj0 hJ
        go_wp2
        go_loopg [6, 7, 27] a.length (fun n2 kv2 vv2 iv wi => ∃ i : Int, iv = .int .i64 i ∧ Aside (0 ≤ i ∧ i.toNat + n2 = a.length) ∧ Aside (TwoR wi w.heap.size kv2 vv2 (marksK ([] ++ a.take i.toNat)) (marksV ([] ++ a.take i.toNat))) ∧ Aside (Below w.heap.size w wi))
        case atStart => exact ⟨0, rfl, ⟨Int.le_refl _, by simp⟩, by show TwoR _ _ _ _ _ _; simpa using hT.out, hBr.out⟩
        case round =>
          clear hT hBr
          obtain ⟨i, rfl, hI, hT, hBi⟩ := hrel
          obtain ⟨hi0, hi2⟩ := hI.out
          cases gk with
          | zero =>
            have d0 : decide (i < (a.length : Int)) = false := decide_eq_false (by omega)
            have hTF := hT.out
            rw [List.take_of_length_le (by omega)] at hTF
            clear hi0 hi2 hI hT
            go_wp2
            go_roundg n
            case measure => omega
            case rel =>
              obtain ⟨hj2, hpost⟩ := hJ2.out
              exact ⟨0 + 1, rfl, ⟨by decide, by omega⟩, by rw [hpost]; exact hTF, hBi.out⟩
          | succ n2 =>
            have hlt : i < (a.length : Int) := by omega
            obtain ⟨ad, x, hadA, hx, q0, q1, q2, q3, q4, q5⟩ := at_M hA i hi0 hlt
            subst hadA
            have e0 := cell_below hBi.out q0
            have e1 := cell_below hBi.out q1
            have e2 := cell_below hBi.out q2
            have e3 := cell_below hBi.out q3
            have e4 := cell_below hBi.out q4
            have e5 := cell_below hBi.out q5
            have d0 := decide_eq_true hlt
            have d1 := decide_eq_true hi0
            have d2 := eq_true hi0
            have d3 := eq_true hlt
            have hwi : wrap64 (i + 1) = i + 1 := IntWalk.wrap64_in _ (by omega)
            have hxs := hsa x (List.mem_of_getElem? hx)
            have htk : Aside ([] ++ a.take (i + 1).toNat = ([] ++ a.take i.toNat) ++ [x]) := by
              show _ = _
              rw [show (i + 1).toNat = i.toNat + 1 by omega, List.take_add_one, hx, Option.toList_some, List.append_assoc]
            have hln : ([] ++ a.take i.toNat).length ≤ 100000 := by simp only [List.length_append, List.length_nil, List.length_take]; omega
            generalize [] ++ a.take i.toNat = dn at hT htk hln
            have hiA := Aside0.mk (And.intro hi0 (And.intro hlt hi2))
            have hCA := Aside0.mk hA
            have hBs := hBi.out.size
            have AF1 := after_any x.f2 hxs.1
            have AF2 := after_any x.f3 hxs.2
            have hkl := marksK_length dn
            have hvl := marksV_length dn
            clear hx q0 q1 q2 q3 q4 q5 hlt hi0 hi2 hI hxs hA
            go_wp2
            clear e0 e1 e2 e3 e4 e5
            have hTm := hT.out.alloc (objM x)
            have hDm := blk_new wr (objM x)
            have hBm := below_alloc hBi.out (objM x)
            have hnk : u6.ownBlock ≠ some wr.heap.size := fun e => by have := own_lt hT.out.k _ e; omega
            clear hT hBi
            go_loopg [6, 36] 2 (fun n3 kv3 hv w3 => ∃ h : Int, hv = .int .i64 h ∧ Aside (0 ≤ h ∧ h.toNat + n3 = 2) ∧ Aside (TwoR w3 w.heap.size kv3 u7 (marksK dn ++ (keysM x).take (2 * h.toNat)) (marksV dn)) ∧ Aside (w3.heap[wr.heap.size]? = some (objM x)) ∧ Aside (kv3.ownBlock ≠ some wr.heap.size) ∧ Aside (Below w.heap.size w w3))
            case atStart => exact ⟨0, rfl, ⟨Int.le_refl _, by simp⟩, by show TwoR _ _ _ _ _ _; simpa using hTm, hDm, hnk, hBm⟩
            case round =>
             clear hTm hDm hBm hnk
             obtain ⟨h, rfl, hH, hT, hD, hN, hB3⟩ := hrel
             obtain ⟨hh0, hh2⟩ := hH.out
             cases gk with
             | zero =>
              have d5 : decide (h < 2) = false := decide_eq_false (by omega)
              have hTF := hT.out
              rw [show 2 * h.toNat = 4 by omega] at hTF
              obtain ⟨y0, y1, y2, y3, y4, y5⟩ := cellsM hD.out
              clear hh0 hh2 hH hT
              by_cases h1 : x.f0 = 1
              · have hk1 : (x.f0 == 1) = true := by simpa using h1
                have hvx : valM x = [x.f4] := by unfold valM; rw [if_pos h1]
                have hvA := Aside0.mk hvx
                clear h1 hvx
                go_wp2_with (at_builtin; refine wpList_append_own_at _ rfl _ _ 48 rfl w.heap.size 9 iS (.string ⟨#[]⟩) 1 16 Try.underlying48 hi hz0 hz1 hz2 rfl (by decide) _ _ _ rfl (hTF.alloc (.cells #[.string x.f4] 9)).v ⟨_, 0, none⟩ 1 1 [.string x.f4] rfl rfl (cell_lit (blk_new _ (.cells #[.string x.f4] 9))) (by simp [Value.oneCell']) (le_max4 (by omega) (by decide)) (by omega) (below_alloc hB3.out _).size ?_; intro v5 w5 hown5 hg5 hnil5 hat5)
                go_roundg n2
                case measure => omega
                case rel =>
                  obtain ⟨hi0, hlt, hi2⟩ := hiA.out
                  have hT5 := (hTF.alloc (.cells #[.string x.f4] 9)).moreV (l := [x.f4]) (by unfold marksK keys0; simp) hown5 hg5 hat5
                  refine ⟨i + 1, by rw [hwi], ⟨by omega, by omega⟩, ?_, Below.grown (below_alloc hB3.out _) hg5 (below_alloc hB3.out _).size (fun k hk => own_base hTF.v k hk)⟩
                  show TwoR _ _ _ _ _ _
                  rw [htk.out]
                  simpa [marksK, marksV, keysM, hvA.out] using hT5
              · have hk1 : (x.f0 == 1) = false := by simpa using h1
                have hvx : valM x = [] := by unfold valM; rw [if_neg h1]
                have hvA := Aside0.mk hvx
                clear h1 hvx
                go_wp2
                go_roundg n2
                case measure => omega
                case rel =>
                  obtain ⟨hi0, hlt, hi2⟩ := hiA.out
                  refine ⟨i + 1, by rw [hwi], ⟨by omega, by omega⟩, ?_, hB3.out⟩
                  show TwoR _ _ _ _ _ _
                  rw [htk.out]
                  simpa [marksK, marksV, keysM, hvA.out] using hTF
             | succ n3 =>
              obtain rfl | rfl : h = 0 ∨ h = 1 := by omega
              · go_wp2_with (first
                  | (go_at_call 84; refine (AF1 _).mono ?_; rintro e w4 ⟨rfl, hb4⟩; have hT4 := (hT.out.below hb4).alloc (.cells #[.string x.f2, .string (P.succB x.f2)] 9); have hD4 := blk_alloc (blk_below hD.out hb4) (.cells #[.string x.f2, .string (P.succB x.f2)] 9); have hB4 := below_alloc (below_step hB3.out hb4) (.cells #[.string x.f2, .string (P.succB x.f2)] 9))
                  | (at_builtin; refine wpList_append_own_at _ rfl _ _ 48 rfl w.heap.size 9 iS (.string ⟨#[]⟩) 1 16 Try.underlying48 hi hz0 hz1 hz2 rfl (by decide) _ _ _ rfl hT4.k ⟨w4.heap.size, 0, none⟩ 2 2 [.string x.f2, .string (P.succB x.f2)] rfl rfl (cell_lit (blk_new w4 (.cells #[.string x.f2, .string (P.succB x.f2)] 9))) (by simp [Value.oneCell']) (le_max4 (by simp [keysM]; omega) (by decide)) (by simp [keysM]; omega) hB4.size ?_; intro v5 w5 hown5 hg5 hnil5 hat5))
                go_roundg n3
                case measure => omega
                case rel =>
                  have hT5 := hT4.moreK (l := [x.f2, P.succB x.f2]) (by unfold marksV vals0; simp) hown5 hg5 hat5
                  refine ⟨0 + 1, rfl, ⟨by decide, by omega⟩, by show TwoR _ _ _ _ _ _; simpa [keysM] using hT5, blk_grown hD4 hg5 (fun e => hN.out e.symm), ?_, Below.grown hB4 hg5 hB4.size (fun k hk => own_base hT4.k k hk)⟩
                  rcases hat5 with e | e
                  · show v5.ownBlock ≠ _
                    rw [e]; exact hN.out
                  · show v5.ownBlock ≠ _
                    rw [e]
                    intro e2
                    injection e2 with e2
                    have := blk_lt hD4
                    omega
              · go_wp2_with (first
                  | (go_at_call 84; refine (AF2 _).mono ?_; rintro e w4 ⟨rfl, hb4⟩; have hT4 := (hT.out.below hb4).alloc (.cells #[.string x.f3, .string (P.succB x.f3)] 9); have hD4 := blk_alloc (blk_below hD.out hb4) (.cells #[.string x.f3, .string (P.succB x.f3)] 9); have hB4 := below_alloc (below_step hB3.out hb4) (.cells #[.string x.f3, .string (P.succB x.f3)] 9))
                  | (at_builtin; refine wpList_append_own_at _ rfl _ _ 48 rfl w.heap.size 9 iS (.string ⟨#[]⟩) 1 16 Try.underlying48 hi hz0 hz1 hz2 rfl (by decide) _ _ _ rfl hT4.k ⟨w4.heap.size, 0, none⟩ 2 2 [.string x.f3, .string (P.succB x.f3)] rfl rfl (cell_lit (blk_new w4 (.cells #[.string x.f3, .string (P.succB x.f3)] 9))) (by simp [Value.oneCell']) (le_max4 (by simp [keysM]; omega) (by decide)) (by simp [keysM]; omega) hB4.size ?_; intro v5 w5 hown5 hg5 hnil5 hat5))
                go_roundg n3
                case measure => omega
                case rel =>
                  have hT5 := hT4.moreK (l := [x.f3, P.succB x.f3]) (by unfold marksV vals0; simp) hown5 hg5 hat5
                  refine ⟨1 + 1, rfl, ⟨by decide, by omega⟩, by show TwoR _ _ _ _ _ _; simpa [keysM] using hT5, blk_grown hD4 hg5 (fun e => hN.out e.symm), ?_, Below.grown hB4 hg5 hB4.size (fun k hk => own_base hT4.k k hk)⟩
                  rcases hat5 with e | e
                  · show v5.ownBlock ≠ _
                    rw [e]; exact hN.out
                  · show v5.ownBlock ≠ _
                    rw [e]
                    intro e2
                    injection e2 with e2
                    have := blk_lt hD4
                    omega
      · have hpre : doneJ a b 1 = a := by simp [doneJ]
        have hpost : doneJ a b (1 + 1) = a ++ b := by simp [doneJ]
        have d00 : decide ((1 : Int) < 2) = true := rfl
        rw [hpre] at hT
        have hJ2 := Aside0.mk (And.intro hj2 hpost)
        clear hj2 hpost hpre hj0 hJ
        go_wp2
        go_loopg [6, 7, 27] b.length (fun n2 kv2 vv2 iv wi => ∃ i : Int, iv = .int .i64 i ∧ Aside (0 ≤ i ∧ i.toNat + n2 = b.length) ∧ Aside (TwoR wi w.heap.size kv2 vv2 (marksK (a ++ b.take i.toNat)) (marksV (a ++ b.take i.toNat))) ∧ Aside (Below w.heap.size w wi))
        case atStart => exact ⟨0, rfl, ⟨Int.le_refl _, by simp⟩, by show TwoR _ _ _ _ _ _; simpa using hT.out, hBr.out⟩
        case round =>
          clear hT hBr
          obtain ⟨i, rfl, hI, hT, hBi⟩ := hrel
          obtain ⟨hi0, hi2⟩ := hI.out
          cases gk with
          | zero =>
            have d0 : decide (i < (b.length : Int)) = false := decide_eq_false (by omega)
            have hTF := hT.out
            rw [List.take_of_length_le (by omega)] at hTF
            clear hi0 hi2 hI hT
            go_wp2
            go_roundg n
            case measure => omega
            case rel =>
              obtain ⟨hj2, hpost⟩ := hJ2.out
              exact ⟨1 + 1, rfl, ⟨by decide, by omega⟩, by rw [hpost]; exact hTF, hBi.out⟩
          | succ n2 =>
            have hlt : i < (b.length : Int) := by omega
            obtain ⟨ad, x, hadA, hx, q0, q1, q2, q3, q4, q5⟩ := at_M hB i hi0 hlt
            subst hadA
            have e0 := cell_below hBi.out q0
            have e1 := cell_below hBi.out q1
            have e2 := cell_below hBi.out q2
            have e3 := cell_below hBi.out q3
            have e4 := cell_below hBi.out q4
            have e5 := cell_below hBi.out q5
            have d0 := decide_eq_true hlt
            have d1 := decide_eq_true hi0
            have d2 := eq_true hi0
            have d3 := eq_true hlt
            have hwi : wrap64 (i + 1) = i + 1 := IntWalk.wrap64_in _ (by omega)
            have hxs := hsb x (List.mem_of_getElem? hx)
            have htk : Aside (a ++ b.take (i + 1).toNat = (a ++ b.take i.toNat) ++ [x]) := by
              show _ = _
              rw [show (i + 1).toNat = i.toNat + 1 by omega, List.take_add_one, hx, Option.toList_some, List.append_assoc]
            have hln : (a ++ b.take i.toNat).length ≤ 100000 := by simp only [List.length_append, List.length_nil, List.length_take]; omega
            generalize a ++ b.take i.toNat = dn at hT htk hln
            have hiA := Aside0.mk (And.intro hi0 (And.intro hlt hi2))
            have hCA := Aside0.mk hB
            have hBs := hBi.out.size
            have AF1 := after_any x.f2 hxs.1
            have AF2 := after_any x.f3 hxs.2
            have hkl := marksK_length dn
            have hvl := marksV_length dn
            clear hx q0 q1 q2 q3 q4 q5 hlt hi0 hi2 hI hxs hB
            go_wp2
            clear e0 e1 e2 e3 e4 e5
            have hTm := hT.out.alloc (objM x)
            have hDm := blk_new wr (objM x)
            have hBm := below_alloc hBi.out (objM x)
            have hnk : u6.ownBlock ≠ some wr.heap.size := fun e => by have := own_lt hT.out.k _ e; omega
            clear hT hBi
            go_loopg [6, 36] 2 (fun n3 kv3 hv w3 => ∃ h : Int, hv = .int .i64 h ∧ Aside (0 ≤ h ∧ h.toNat + n3 = 2) ∧ Aside (TwoR w3 w.heap.size kv3 u7 (marksK dn ++ (keysM x).take (2 * h.toNat)) (marksV dn)) ∧ Aside (w3.heap[wr.heap.size]? = some (objM x)) ∧ Aside (kv3.ownBlock ≠ some wr.heap.size) ∧ Aside (Below w.heap.size w w3))
            case atStart => exact ⟨0, rfl, ⟨Int.le_refl _, by simp⟩, by show TwoR _ _ _ _ _ _; simpa using hTm, hDm, hnk, hBm⟩
            case round =>
             clear hTm hDm hBm hnk
             obtain ⟨h, rfl, hH, hT, hD, hN, hB3⟩ := hrel
             obtain ⟨hh0, hh2⟩ := hH.out
             cases gk with
             | zero =>
              have d5 : decide (h < 2) = false := decide_eq_false (by omega)
              have hTF := hT.out
              rw [show 2 * h.toNat = 4 by omega] at hTF
              obtain ⟨y0, y1, y2, y3, y4, y5⟩ := cellsM hD.out
              clear hh0 hh2 hH hT
              by_cases h1 : x.f0 = 1
              · have hk1 : (x.f0 == 1) = true := by simpa using h1
                have hvx : valM x = [x.f4] := by unfold valM; rw [if_pos h1]
                have hvA := Aside0.mk hvx
                clear h1 hvx
                go_wp2_with (at_builtin; refine wpList_append_own_at _ rfl _ _ 48 rfl w.heap.size 9 iS (.string ⟨#[]⟩) 1 16 Try.underlying48 hi hz0 hz1 hz2 rfl (by decide) _ _ _ rfl (hTF.alloc (.cells #[.string x.f4] 9)).v ⟨_, 0, none⟩ 1 1 [.string x.f4] rfl rfl (cell_lit (blk_new _ (.cells #[.string x.f4] 9))) (by simp [Value.oneCell']) (le_max4 (by omega) (by decide)) (by omega) (below_alloc hB3.out _).size ?_; intro v5 w5 hown5 hg5 hnil5 hat5)
                go_roundg n2
                case measure => omega
                case rel =>
                  obtain ⟨hi0, hlt, hi2⟩ := hiA.out
                  have hT5 := (hTF.alloc (.cells #[.string x.f4] 9)).moreV (l := [x.f4]) (by unfold marksK keys0; simp) hown5 hg5 hat5
                  refine ⟨i + 1, by rw [hwi], ⟨by omega, by omega⟩, ?_, Below.grown (below_alloc hB3.out _) hg5 (below_alloc hB3.out _).size (fun k hk => own_base hTF.v k hk)⟩
                  show TwoR _ _ _ _ _ _
                  rw [htk.out]
                  simpa [marksK, marksV, keysM, hvA.out] using hT5
              · have hk1 : (x.f0 == 1) = false := by simpa using h1
                have hvx : valM x = [] := by unfold valM; rw [if_neg h1]
                have hvA := Aside0.mk hvx
                clear h1 hvx
                go_wp2
                go_roundg n2
                case measure => omega
                case rel =>
                  obtain ⟨hi0, hlt, hi2⟩ := hiA.out
                  refine ⟨i + 1, by rw [hwi], ⟨by omega, by omega⟩, ?_, hB3.out⟩
                  show TwoR _ _ _ _ _ _
                  rw [htk.out]
                  simpa [marksK, marksV, keysM, hvA.out] using hTF
             | succ n3 =>
              obtain rfl | rfl : h = 0 ∨ h = 1 := by omega
              · go_wp2_with (first
                  | (go_at_call 84; refine (AF1 _).mono ?_; rintro e w4 ⟨rfl, hb4⟩; have hT4 := (hT.out.below hb4).alloc (.cells #[.string x.f2, .string (P.succB x.f2)] 9); have hD4 := blk_alloc (blk_below hD.out hb4) (.cells #[.string x.f2, .string (P.succB x.f2)] 9); have hB4 := below_alloc (below_step hB3.out hb4) (.cells #[.string x.f2, .string (P.succB x.f2)] 9))
                  | (at_builtin; refine wpList_append_own_at _ rfl _ _ 48 rfl w.heap.size 9 iS (.string ⟨#[]⟩) 1 16 Try.underlying48 hi hz0 hz1 hz2 rfl (by decide) _ _ _ rfl hT4.k ⟨w4.heap.size, 0, none⟩ 2 2 [.string x.f2, .string (P.succB x.f2)] rfl rfl (cell_lit (blk_new w4 (.cells #[.string x.f2, .string (P.succB x.f2)] 9))) (by simp [Value.oneCell']) (le_max4 (by simp [keysM]; omega) (by decide)) (by simp [keysM]; omega) hB4.size ?_; intro v5 w5 hown5 hg5 hnil5 hat5))
                go_roundg n3
                case measure => omega
                case rel =>
                  have hT5 := hT4.moreK (l := [x.f2, P.succB x.f2]) (by unfold marksV vals0; simp) hown5 hg5 hat5
                  refine ⟨0 + 1, rfl, ⟨by decide, by omega⟩, by show TwoR _ _ _ _ _ _; simpa [keysM] using hT5, blk_grown hD4 hg5 (fun e => hN.out e.symm), ?_, Below.grown hB4 hg5 hB4.size (fun k hk => own_base hT4.k k hk)⟩
                  rcases hat5 with e | e
                  · show v5.ownBlock ≠ _
                    rw [e]; exact hN.out
                  · show v5.ownBlock ≠ _
                    rw [e]
                    intro e2
                    injection e2 with e2
                    have := blk_lt hD4
                    omega
              · go_wp2_with (first
                  | (go_at_call 84; refine (AF2 _).mono ?_; rintro e w4 ⟨rfl, hb4⟩; have hT4 := (hT.out.below hb4).alloc (.cells #[.string x.f3, .string (P.succB x.f3)] 9); have hD4 := blk_alloc (blk_below hD.out hb4) (.cells #[.string x.f3, .string (P.succB x.f3)] 9); have hB4 := below_alloc (below_step hB3.out hb4) (.cells #[.string x.f3, .string (P.succB x.f3)] 9))
                  | (at_builtin; refine wpList_append_own_at _ rfl _ _ 48 rfl w.heap.size 9 iS (.string ⟨#[]⟩) 1 16 Try.underlying48 hi hz0 hz1 hz2 rfl (by decide) _ _ _ rfl hT4.k ⟨w4.heap.size, 0, none⟩ 2 2 [.string x.f3, .string (P.succB x.f3)] rfl rfl (cell_lit (blk_new w4 (.cells #[.string x.f3, .string (P.succB x.f3)] 9))) (by simp [Value.oneCell']) (le_max4 (by simp [keysM]; omega) (by decide)) (by simp [keysM]; omega) hB4.size ?_; intro v5 w5 hown5 hg5 hnil5 hat5))
                go_roundg n3
                case measure => omega
                case rel =>
                  have hT5 := hT4.moreK (l := [x.f3, P.succB x.f3]) (by unfold marksV vals0; simp) hown5 hg5 hat5
                  refine ⟨1 + 1, rfl, ⟨by decide, by omega⟩, by show TwoR _ _ _ _ _ _; simpa [keysM] using hT5, blk_grown hD4 hg5 (fun e => hN.out e.symm), ?_, Below.grown hB4 hg5 hB4.size (fun k hk => own_base hT4.k k hk)⟩
                  rcases hat5 with e | e
                  · show v5.ownBlock ≠ _
                    rw [e]; exact hN.out
                  · show v5.ownBlock ≠ _
                    rw [e]
                    intro e2
                    injection e2 with e2
                    have := blk_lt hD4
                    omega
end Go.Proofs.Ytidaiafmhidooaa.Cp
end
section
namespace Go.Proofs.Ytidaiafmhidooaa.Am
open Go.Proofs.Ytidaiafmhidooaa.Cp Go.RowKit Go.Proofs.YtidaiafmhidooaaW.PrintWords Go.Proofs.YtidaiafmhidooaaW.PrintLast Go.Proofs.YtidaiafmhidooaaW.PrintMore Go.Proofs.Ytidaiafmhidooaa.Own Go.Proofs.Ytidaiafmhidooaa
def okMk (l : List Ms) : Bool := decide (l.length ≤ 50000) && l.all (fun x => decide (x.f2.size ≤ 140737488351232) && decide (x.f3.size ≤ 140737488351232))
theorem okMk_iff {l : List Ms} : okMk l = true ↔ l.length ≤ 50000 ∧ ∀ x ∈ l, okS2 x := by
 simp [okMk, okS2]
def marksF (l m : List Ms) : Option (List ByteArray × List ByteArray) := if (okMk l && okMk m) = true then some (marksK (l ++ m), marksV (l ++ m)) else none
theorem marksF_calls {w : World} {A0 A1 : Option Addr} {c0 c1 : Nat} {l0 l1 : List Ms} {r1 r2 : List ByteArray} (hr0 : Kd.C P.k33 w A0 l0.length l0) (hc0 : l0.length ≤ c0) (hr1 : Kd.C P.k33 w A1 l1.length l1) (hc1 : l1.length ≤ c1) (h : marksF l0 l1 = some (r1, r2)) :
  Calls Try.prog 56 #[.slice A0 l0.length c0, .slice A1 l1.length c1] w fun e w' => ∃ v0_ v1_ : Value, e = .returned (.tuple #[v0_, v1_]) ∧ Kd.R Kd.string 9 w' w.heap.size (fun k_ => some k_ ≠ (v1_ : Value).ownBlock) v0_ r1 ∧ Kd.R Kd.string 9 w' w.heap.size (fun k_ => some k_ ≠ (v0_ : Value).ownBlock) v1_ r2 ∧ Below w.heap.size w w' := by
 unfold marksF at h
 split at h
 ·rename_i hk
  rw [Bool.and_eq_true] at hk
  obtain ⟨hl, hs⟩ := okMk_iff.1 hk.1
  obtain ⟨hm, ht⟩ := okMk_iff.1 hk.2
  have := Option.some.inj h
  simp only [Prod.mk.injEq] at this
  obtain ⟨rfl, rfl⟩ := this
  refine (marks_any hr0 hr1 hc0 hc1 hl hm hs ht).mono ?_
  rintro e w' ⟨kv, vv, rfl, hT, hb⟩
  exact ⟨kv, vv, rfl, Kd.R_of_own hT.k (fun k hk => by rw [← hk]; exact hT.ne), Kd.R_of_own hT.v (fun k hk => by rw [← hk]; exact fun e => hT.ne e.symm), hb⟩
 ·cases h
end Go.Proofs.Ytidaiafmhidooaa.Am
end
