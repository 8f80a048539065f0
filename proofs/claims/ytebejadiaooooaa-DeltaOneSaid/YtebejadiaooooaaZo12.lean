/- Texts of one claim (laid by shake.py). -/
import Derived.RangeFuncNested
import Derived.RangeFuncBound
import Derived.RangeFuncCalls
import Derived.RangeFuncLeaves
import Derived.RangeFuncKeeps
import Derived.Shelf.RegionOpen
import Derived.Sort.QuietIn
import Derived.Shelf.Abstract
import Derived.WalkKit
import Derived.OwnWalkIn
import Derived.TacticsInMore
import Derived.Test.YtebejadiaooooaaZo11
import Derived.Maps.AppendAt
set_option linter.unusedVariables false
set_option linter.unusedSimpArgs false
section
namespace Go.Proofs.Ytebejadiaooooaa.OrdSs
open Go.RowKit Go.Shelf Go.Proofs.YtebejadiaooooaaW.PrintWords Go.Proofs.YtebejadiaooooaaW.PrintLast Go.Proofs.YtebejadiaooooaaW.PrintMore Go.Proofs.Ytebejadiaooooaa.Own Go.Proofs.Ytebejadiaooooaa.Ord
open List renaming setIfInBounds_toArray → sA1, set_cons_zero → sA2, set_cons_succ → sA3, getElem_toArray → sA4, getElem_cons_zero → sA5, getElem_cons_succ → sA6
attribute [local go_sem] Oper.semAt_some
set_option maxHeartbeats 2000000
set_option maxRecDepth 100000
theorem tkI_ {F : Fence} {n : Nat} {P : Program} {ops : Array Oper} {Q : Exit → Act → World → Prop} {md : Region.Mode} (i : Nat) {oi : Oper} {v : Value} {fuel : Nat} {listed : Array Bool} {a : Act} {w : World} (hi : ops[i]? = some oi) (hw : ∀ w, (execOp a.eval oi).run P w = .ok (.value v) w) (h : wpAnyIn F n P md ops Q fuel (listed.setIfInBounds i true) (a.put oi.dst v) w)
 (hro : F.round = none := by rfl) (hs : Region.noSelect ops = true := by kernel_rfl) (hf : Region.free md ops listed i = true := by kernel_rfl) (hr : (Region.ready md ops listed).contains i = true := by kernel_rfl) (hQ : ∀ c a w, Q (.panic c) (a.put oi.dst v) w → Q (.panic c) a w := by exact fun _ _ _ h => h) (h1 : Region.wanted oi (yielded ops a.tmps) = true := by rfl) (h2 : ∀ w, oi.about P w a.eval = none := by exact fun _ => rfl) : wpAnyIn F n P md ops Q (fuel + 1) listed a w := wpAnyIn_take hro hi hs hf hr hQ ⟨Or.inl ⟨h1, hw⟩, h2⟩ h
theorem tkJ_ {F : Fence} {n : Nat} {P : Program} {ops : Array Oper} {Q : Exit → Act → World → Prop} {md : Region.Mode} (i : Nat) {N : Tmp} {oi : Oper} {v : Value} {fuel : Nat} {listed : Array Bool} {a a' : Act} {w : World} (hi : ops[i]? = some oi) (h : wpAnyIn F n P md ops Q fuel (listed.setIfInBounds i true) a' w)
 (hro : F.round = none := by rfl) (hs : Region.noSelect ops = true := by kernel_rfl) (hf : Region.free md ops listed i = true := by kernel_rfl) (hr : (Region.ready md ops listed).contains i = true := by kernel_rfl) (hQ : ∀ c a w, Q (.panic c) (a.put oi.dst v) w → Q (.panic c) a w := by exact fun _ _ _ h => h) (h1 : Region.wanted oi (yielded ops a.tmps) = true := by rfl) (h2 : ∀ w, oi.about P w a.eval = none := by exact fun _ => rfl) (hw : ∀ w, (execOp a.eval oi).run P w = .ok (.value v) w := by (intro w; go_simp; first | done | with_reducible rfl)) (hN : oi.dst = some N := by rfl) (ha : a.put (some N) v = a' := by (simp only [Act.put, sA1, sA2, sA3, sA4, sA5, sA6]; rfl)) : wpAnyIn F n P md ops Q (fuel + 1) listed a w := by
 subst ha
 rw [← hN] at h
 exact wpAnyIn_take hro hi hs hf hr hQ ⟨Or.inl ⟨h1, hw⟩, h2⟩ h
theorem tkU_ {F : Fence} {n : Nat} {P : Program} {ops : Array Oper} {Q : Exit → Act → World → Prop} {md : Region.Mode} (i : Nat) {N : Tmp} {oi : Oper} {fuel : Nat} {listed : Array Bool} {a a' : Act} {w : World} (hi : ops[i]? = some oi) (h : wpAnyIn F n P md ops Q fuel (listed.setIfInBounds i true) a' w)
 (hro : F.round = none := by rfl) (hs : Region.noSelect ops = true := by kernel_rfl) (hf : Region.free md ops listed i = true := by kernel_rfl) (hr : (Region.ready md ops listed).contains i = true := by kernel_rfl) (hQ : ∀ c a w, Q (.panic c) (a.put oi.dst undef) w → Q (.panic c) a w := by exact fun _ _ _ h => h) (hy : YieldsFenced P ops oi undef a := by exact ⟨Or.inr ⟨by rfl, rfl⟩, fun _ => rfl⟩) (hN : oi.dst = some N := by rfl) (ha : a.put (some N) undef = a' := by (simp only [Act.put, sA1, sA2, sA3, sA4, sA5, sA6]; rfl)) : wpAnyIn F n P md ops Q (fuel + 1) listed a w := by
 subst ha
 rw [← hN] at h
 exact wpAnyIn_take hro hi hs hf hr hQ hy h
theorem RoundIn.anyDepth {F : Fence} (hd : F.depth = none) {m m' : Nat} {P : Program} {l : Nat} {f : FuncId} {tmps : Array Value} {assign body : Code} {w : World} {R : Ending → World → Prop}
  (h : RoundIn F m P l f tmps assign body w R) : RoundIn F m' P l f tmps assign body w R := ⟨h.1, fun c cs _ => h.2 c cs (fun d h => by rw [hd] at h; cases h)⟩
theorem YieldAt.anyDepth {F : Fence} (hd : F.depth = none) {m : Nat} (m' : Nat) {P : Program} {l : Nat} {args : Array Value} {W : World} {R : Ending → World → Prop} (h : YieldAt F m P l args W R) : YieldAt F m' P l args W R := by
 obtain ⟨fn, tmps, assign, body, hy, hR⟩ := h
 exact ⟨fn, tmps, assign, body, hy, RoundIn.anyDepth hd hR⟩
theorem less_any (x y : ByteArray) (w : World) : Calls Try.prog 122 #[.string x, .string y] w fun e w' => e = .returned (.bool (lt x y)) ∧ w' = w := by
 by_cases h1 : lt x y = true
 ·rw [h1]
  go_enter Try.func122, Try.ntmps122
  go_wp2_with (go_at_call 134; refine (nan_any _ _).mono ?_; rintro e w1 ⟨rfl, rfl⟩)
  go_ret
  simp
 ·have h2 : lt x y = false := by cases h : lt x y <;> simp_all
  rw [h2]
  go_enter Try.func122, Try.ntmps122
  go_wp2_with (go_at_call 134; refine (nan_any _ _).mono ?_; rintro e w1 ⟨rfl, rfl⟩)
  go_ret
  simp
structure Kee (S : Nat → Prop) (W W' : World) : Prop where
 size : W.heap.size ≤ W'.heap.size
 block : ∀ k, S k → W'.heap[k]? = W.heap[k]?
namespace Kee
variable {S : Nat → Prop} {A B C : World}
theorem refl (S : Nat → Prop) (W : World) : Kee S W W := ⟨Nat.le_refl _, fun _ _ => rfl⟩
theorem trans (h : Kee S A B) (k : Kee S B C) : Kee S A C := ⟨Nat.le_trans h.size k.size, fun i hi => (k.block i hi).trans (h.block i hi)⟩
theorem cell (h : Kee S A B) {p : Addr} (hp : S p.block) : B.cell? p = A.cell? p := by unfold World.cell?; rw [h.block _ hp]
theorem drewN (h : Kee S A B) (n : Nat) : Kee S A (B.drewN n) := ⟨h.size, h.block⟩
theorem drew (h : Kee S A B) : Kee S A B.drew := ⟨h.size, h.block⟩
end Kee
theorem in_kee {S : Nat → Prop} {A B : World} (h : Kee S A B) : ∀ {T : Kn ByteArray ByteArray}, In A T → (∀ x ∈ T.bs, S x) → In B T
 | .nil, _, _ => trivial
 | .node b k v l r, hi, hn => ⟨(h.block b (hn b (by simp [Kn.bs]))).trans hi.1, in_kee h hi.2.1 (fun x hx => hn x (by simp [Kn.bs, hx])), in_kee h hi.2.2 (fun x hx => hn x (by simp [Kn.bs, hx]))⟩
def walkA : Kn ByteArray ByteArray → List (ByteArray × ByteArray)
 | .nil => []
 | .node b k v l r => walkA l ++ (k, v) :: walkA r
def walkB (s : ByteArray) : Kn ByteArray ByteArray → List (ByteArray × ByteArray)
 | .nil => []
 | .node b k v l r => if lt k s = true then walkB s r else walkB s l ++ (k, v) :: walkA r
theorem calls_wide {n : Nat} {f : FuncId} {args : Array Value} {w : World} {R : Ending → World → Prop} (h : Calls Try.prog f args w R) : CallsIn Fence.wide n Try.prog f args w R := callsIn_wide.2 h
theorem cut2 {G C : Prop} (h : G → C) (g : G) : C := h g
theorem walk_none (l N : Nat) (S : Nat → Prop) (J Jx : List (ByteArray × ByteArray) → World → Prop) (hJd : ∀ pre W n, J pre W → J pre (W.drewN n))
  (hY : ∀ m pre x W, J pre W → pre.length < N → YieldAt Fence.wide m Try.prog l #[.string x.1, .string x.2] W fun e W' =>
   (e = .returned (.bool true) ∧ J (pre ++ [x]) W' ∧ Kee S W W') ∨ (e = .returned (.bool false) ∧ Jx (pre ++ [x]) W')) (T : Kn ByteArray ByteArray) :
  ∀ (n : Nat) (pre : List (ByteArray × ByteArray)) (W : World), In W T → (∀ x ∈ T.bs, S x) → J pre W → pre.length + (walkA T).length ≤ N →
   CallsIn Fence.wide n Try.prog 102 #[.pointer T.adr, .pointer none, .func (.yield l) #[] #[]] W fun e W' =>
    (e = .returned (.bool true) ∧ J (pre ++ walkA T) W' ∧ Kee S W W') ∨ (e = .returned (.bool false) ∧ ∃ q, q <+: walkA T ∧ Jx (pre ++ q) W') := by
 induction T with
 | nil =>
  intro n pre W _ _ hJ _
  show CallsIn Fence.wide n Try.prog 102 #[.pointer none, .pointer none, .func (.yield l) #[] #[]] W _
  refine callsIn_of_wp Try.func102 rfl trivial ?_ rfl
  simp only [Try.ntmps102, List.size_toArray, List.length_cons, List.length_nil, Nat.reduceAdd, Nat.reduceSub, Array.replicate_succ, Array.replicate_zero, List.push_toArray, List.append_toArray, List.nil_append, List.cons_append]
  gi_wp2
  go_ret
  exact .inl ⟨rfl, by simpa [walkA] using hJ, Kee.refl _ _⟩
 | node b k v tl tr ihl ihr =>
  intro n pre W hin hlt hJ hN
  have hdd : ∀ k : Nat, (Fence.wide.depth.isSome = true → 1 ≤ k) := fun k h => by cases h
  have hb : S b := hlt b (by simp [Kn.bs])
  have hltl : ∀ x ∈ tl.bs, S x := fun x hx => hlt x (by simp [Kn.bs, hx])
  have hltr : ∀ x ∈ tr.bs, S x := fun x hx => hlt x (by simp [Kn.bs, hx])
  obtain ⟨c10, c11, c12, c13, _, _, _⟩ := (Top.of_in hin).cells
  simp only [walkA] at hN ⊢
  show CallsIn Fence.wide n Try.prog 102 #[.pointer (some ⟨b, 0, none⟩), .pointer none, .func (.yield l) #[] #[]] W _
  refine callsIn_of_wp Try.func102 rfl trivial ?_ rfl
  simp only [Try.ntmps102, List.size_toArray, List.length_cons, List.length_nil, Nat.reduceAdd, Nat.reduceSub, Array.replicate_succ, Array.replicate_zero, List.push_toArray, List.append_toArray, List.nil_append, List.cons_append]
  gi_wp2
  refine wpIn_region_quiet_lit rfl (by kernel_rfl) (by kernel_rfl) ?_
  repeat (refine wpQuietIn_step (fun _ _ _ _ => trivial) (fun K hK => ?_); go_simp; first | (refine hK _ ?_; clear hK K) | (refine ⟨_, fun _ => rfl, hK _ ?_⟩; clear hK K))
  refine wpQuietIn_nil ?_
  intro _ hw'
  obtain ⟨nq, hw''⟩ := hw'
  subst hw''
  obtain ⟨W0, hW⟩ : ∃ W0, W0 = W.drewN nq := ⟨_, rfl⟩
  rw [← hW]
  have hin : In W0 (.node b k v tl tr) := by rw [hW]; exact in_drewN _ hin
  have bl : Kee S W W0 := by rw [hW]; exact (Kee.refl _ _).drewN _
  have hJ : J pre W0 := by rw [hW]; exact hJd _ _ _ hJ
  clear hW c10 c11 c12 c13
  obtain ⟨c10, c11, c12, c13, _, _, _⟩ := (Top.of_in hin).cells
  simp only [List.length_append, List.length_cons] at hN
  have hy2 : ∀ W1, J (pre ++ walkA tl) W1 → Kee S W0 W1 → YieldAt Fence.wide (n - 1) Try.prog l #[.string k, .string v] W1 fun e W2 =>
    (e = .returned (.bool true) ∧ J (pre ++ walkA tl ++ [(k, v)]) W2 ∧ Kee S W0 W2 ∧ W2.cell? ⟨b, 3, none⟩ = some (.pointer tr.adr) ∧ In W2 tr) ∨ (e = .returned (.bool false) ∧ Jx (pre ++ walkA tl ++ [(k, v)]) W2) := fun W1 hJ1 hb1 =>
   YieldAt.mono (hY (n - 1) _ (k, v) W1 hJ1 (by simp; omega)) fun e W2 h => h.elim
    (fun ⟨he, hj, hb2⟩ => .inl ⟨he, hj, hb1.trans hb2, ((hb1.trans hb2).cell (p := ⟨b, 3, none⟩) hb).trans c13, in_kee (hb1.trans hb2) hin.2.2 hltr⟩) .inr
  have ih1 := (ihl (n - 1) pre W0.drew (in_drewN 1 hin.2.1) hltl (hJd _ _ 1 hJ) (by omega)).mono (R' := fun e W1 =>
    (e = .returned (.bool true) ∧ W1.cell? ⟨b, 0, none⟩ = some (.string k) ∧ W1.cell? ⟨b, 1, none⟩ = some (.string v) ∧ YieldAt Fence.wide (n - 1) Try.prog l #[.string k, .string v] W1 fun e W2 =>
     (e = .returned (.bool true) ∧ J (pre ++ walkA tl ++ [(k, v)]) W2 ∧ Kee S W0 W2 ∧ W2.cell? ⟨b, 3, none⟩ = some (.pointer tr.adr) ∧ In W2 tr) ∨ (e = .returned (.bool false) ∧ Jx (pre ++ walkA tl ++ [(k, v)]) W2)) ∨
    (e = .returned (.bool false) ∧ ∃ q, q <+: walkA tl ∧ Jx (pre ++ q) W1))
   (fun e W1 h => h.elim (fun ⟨he, hj, hb0⟩ => have hb1 := (Kee.refl S W0).drew.trans hb0; .inl ⟨he, (hb1.cell (p := ⟨b, 0, none⟩) hb).trans c10, (hb1.cell (p := ⟨b, 1, none⟩) hb).trans c11, hy2 W1 hj hb1⟩) .inr)
  clear hy2 ihl
  gi_wp2
  refine wpIn_region_any (by kernel_rfl) ?_
  change wpAnyIn _ _ _ _ _ _ _ _ _ (World.drew _)
  refine tkJ_ 0 rfl ?_
  refine tkJ_ 1 rfl ?_
  refine tkJ_ 2 rfl ?_
  refine tkJ_ 4 rfl ?_
  refine tkJ_ 5 rfl ?_
  refine wpAnyIn_ready (rs := [3]) (by kernel_rfl) (by simp) ?_
  refine AllReadyIn.cons rfl (fun K hK => ?_) ?_
  ·go_simp
   refine hK _ _ ?_
   clear hK K
   refine wpAnyIn_ready (rs := [6]) (by kernel_rfl) (by simp) ?_
   refine AllReadyIn.cons rfl (fun K hK => ?_) ?_
   ·go_simp
    refine ⟨trivial, hdd _, ih1.mono ?_⟩
    clear ih1
    rintro e W1 (⟨rfl, c10', c11', fn, tmps, assign, body, hy, hR⟩ | ⟨rfl, q, hq, hx1⟩)
    ·refine hK _ _ ?_
     clear hK K
     refine tkJ_ 7 rfl ?_
     refine tkJ_ 8 rfl ?_
     refine tkJ_ 9 rfl ?_
     refine tkJ_ 10 rfl ?_
     refine tkJ_ 11 rfl ?_
     refine tkJ_ 13 rfl ?_
     refine tkJ_ 14 rfl ?_
     refine tkJ_ 15 rfl ?_
     apply cut2
     ·intro hcont
      refine wpAnyIn_ready (rs := [12, 16]) (by kernel_rfl) (by simp) ?_
      refine AllReadyIn.cons rfl (fun K hK => ?_) ?_
      ·go_simp
       refine hK _ _ ?_
       clear hK K
       refine wpAnyIn_ready (rs := [16]) (by kernel_rfl) (by simp) ?_
       refine AllReadyIn.cons rfl (fun K hK => ?_) ?_
       ·go_simp
        refine hK _ _ ?_
        clear hK K
        exact hcont
       exact AllReadyIn.nil
      refine AllReadyIn.cons rfl (fun K hK => ?_) ?_
      ·go_simp
       refine hK _ _ ?_
       clear hK K
       refine wpAnyIn_ready (rs := [12]) (by kernel_rfl) (by simp) ?_
       refine AllReadyIn.cons rfl (fun K hK => ?_) ?_
       ·go_simp
        refine hK _ _ ?_
        clear hK K
        exact hcont
       exact AllReadyIn.nil
      exact AllReadyIn.nil
     refine wpAnyIn_ready (rs := [17]) (by kernel_rfl) (by simp) ?_
     refine AllReadyIn.cons rfl (fun K hK => ?_) ?_
     ·go_simp
      refine ⟨hdd _, hR.mono ?_⟩
      clear hR
      rintro e W2 (⟨rfl, hJ2, hb2, c13', hr2⟩ | ⟨rfl, hx2⟩)
      ·refine hK _ _ ?_
       clear hK K
       refine tkJ_ 18 rfl ?_
       refine tkJ_ 19 rfl ?_
       refine tkJ_ 20 rfl ?_
       refine tkJ_ 21 rfl ?_
       refine tkJ_ 22 rfl ?_
       refine tkJ_ 24 rfl ?_
       refine wpAnyIn_ready (rs := [23]) (by kernel_rfl) (by simp) ?_
       refine AllReadyIn.cons rfl (fun K hK => ?_) ?_
       ·go_simp
        refine hK _ _ ?_
        clear hK K
        refine wpAnyIn_ready (rs := [25]) (by kernel_rfl) (by simp) ?_
        refine AllReadyIn.cons rfl (fun K hK => ?_) ?_
        ·go_simp
         refine ⟨trivial, hdd _, (ihr (n - 1) _ _ hr2 hltr hJ2 (by simp; omega)).mono ?_⟩
         rintro e W3 (⟨rfl, hJ3, hb3⟩ | ⟨rfl, q, hq, hx3⟩)
         ·refine hK _ _ ?_
          clear hK K
          refine tkJ_ 26 rfl ?_
          refine tkJ_ 27 rfl ?_
          refine wpAnyIn_done (by kernel_rfl) ?_ _
          gi_wp2
          go_ret
          exact .inl ⟨rfl, by simpa [List.append_assoc] using hJ3, bl.trans (hb2.trans hb3)⟩
         ·refine hK _ _ ?_
          clear hK K
          refine tkJ_ 26 rfl ?_
          refine tkJ_ 27 rfl ?_
          refine wpAnyIn_done (by kernel_rfl) ?_ _
          gi_wp2
          go_ret
          obtain ⟨r, hr'⟩ := hq
          exact .inr ⟨rfl, walkA tl ++ (k, v) :: q, ⟨r, by rw [← hr']; simp⟩, by simpa [List.append_assoc] using hx3⟩
        exact AllReadyIn.nil
       exact AllReadyIn.nil
      ·refine hK _ _ ?_
       clear hK K
       refine tkJ_ 18 rfl ?_
       refine tkJ_ 19 rfl ?_
       refine tkU_ 20 rfl ?_
       refine tkU_ 21 rfl ?_
       refine tkU_ 22 rfl ?_
       refine tkU_ 23 rfl ?_
       refine tkU_ 24 rfl ?_
       refine wpAnyIn_ready (rs := [25]) (by kernel_rfl) (by simp) ?_
       refine AllReadyIn.cons rfl (fun K hK => ?_) ?_
       ·go_simp
        refine ⟨trivial, ?_⟩
        refine hK _ _ ?_
        clear hK K
        refine tkJ_ 26 rfl ?_
        refine tkJ_ 27 rfl ?_
        refine wpAnyIn_done (by kernel_rfl) ?_ _
        gi_wp2
        go_ret
        exact .inr ⟨rfl, walkA tl ++ [(k, v)], ⟨walkA tr, by simp⟩, by simpa [List.append_assoc] using hx2⟩
       exact AllReadyIn.nil
     exact AllReadyIn.nil
    ·refine hK _ _ ?_
     clear hK K
     refine tkJ_ 7 rfl ?_
     refine tkU_ 8 rfl ?_
     refine tkU_ 9 rfl ?_
     refine tkU_ 10 rfl ?_
     refine tkU_ 11 rfl ?_
     refine tkU_ 12 rfl ?_
     refine tkU_ 13 rfl ?_
     refine tkU_ 14 rfl ?_
     refine tkU_ 15 rfl ?_
     refine tkU_ 16 rfl ?_
     refine wpAnyIn_ready (rs := [17]) (by kernel_rfl) (by simp) ?_
     refine AllReadyIn.cons rfl (fun K hK => ?_) ?_
     ·go_simp
      refine ⟨fun _ _ => trivial, ?_⟩
      refine hK _ _ ?_
      clear hK K
      refine tkJ_ 18 rfl ?_
      refine tkJ_ 19 rfl ?_
      refine tkU_ 20 rfl ?_
      refine tkU_ 21 rfl ?_
      refine tkU_ 22 rfl ?_
      refine tkU_ 23 rfl ?_
      refine tkU_ 24 rfl ?_
      refine wpAnyIn_ready (rs := [25]) (by kernel_rfl) (by simp) ?_
      refine AllReadyIn.cons rfl (fun K hK => ?_) ?_
      ·go_simp
       refine ⟨trivial, ?_⟩
       refine hK _ _ ?_
       clear hK K
       refine tkJ_ 26 rfl ?_
       refine tkJ_ 27 rfl ?_
       refine wpAnyIn_done (by kernel_rfl) ?_ _
       gi_wp2
       go_ret
       exact .inr ⟨rfl, q, hq.trans (List.prefix_append _ _), hx1⟩
      exact AllReadyIn.nil
     exact AllReadyIn.nil
   exact AllReadyIn.nil
  exact AllReadyIn.nil
theorem walk_some (l N : Nat) (S : Nat → Prop) (J Jx : List (ByteArray × ByteArray) → World → Prop) (hJd : ∀ pre W n, J pre W → J pre (W.drewN n))
  (hY : ∀ m pre x W, J pre W → pre.length < N → YieldAt Fence.wide m Try.prog l #[.string x.1, .string x.2] W fun e W' =>
   (e = .returned (.bool true) ∧ J (pre ++ [x]) W' ∧ Kee S W W') ∨ (e = .returned (.bool false) ∧ Jx (pre ++ [x]) W')) (a : Addr) (s : ByteArray) (ha : S a.block) (T : Kn ByteArray ByteArray) :
  ∀ (n : Nat) (pre : List (ByteArray × ByteArray)) (W : World), In W T → (∀ x ∈ T.bs, S x) → W.cell? a = some (.string s) → J pre W → pre.length + (walkB s T).length ≤ N →
   CallsIn Fence.wide n Try.prog 102 #[.pointer T.adr, .pointer (some a), .func (.yield l) #[] #[]] W fun e W' =>
    (e = .returned (.bool true) ∧ J (pre ++ walkB s T) W' ∧ Kee S W W') ∨ (e = .returned (.bool false) ∧ ∃ q, q <+: walkB s T ∧ Jx (pre ++ q) W') := by
 induction T with
 | nil =>
  intro n pre W _ _ _ hJ _
  show CallsIn Fence.wide n Try.prog 102 #[.pointer none, .pointer (some a), .func (.yield l) #[] #[]] W _
  refine callsIn_of_wp Try.func102 rfl trivial ?_ rfl
  simp only [Try.ntmps102, List.size_toArray, List.length_cons, List.length_nil, Nat.reduceAdd, Nat.reduceSub, Array.replicate_succ, Array.replicate_zero, List.push_toArray, List.append_toArray, List.nil_append, List.cons_append]
  gi_wp2
  go_ret
  exact .inl ⟨rfl, by simpa [walkB] using hJ, Kee.refl _ _⟩
 | node b k v tl tr ihl ihb =>
  intro n pre W hin hlt cs hJ hN
  have hdd : ∀ k : Nat, (Fence.wide.depth.isSome = true → 1 ≤ k) := fun k h => by cases h
  have hb : S b := hlt b (by simp [Kn.bs])
  have hltl : ∀ x ∈ tl.bs, S x := fun x hx => hlt x (by simp [Kn.bs, hx])
  have hltr : ∀ x ∈ tr.bs, S x := fun x hx => hlt x (by simp [Kn.bs, hx])
  obtain ⟨c10, c11, c12, c13, _, _, _⟩ := (Top.of_in hin).cells
  have ihr := walk_none l N S J Jx hJd hY tr
  by_cases hs : lt k s = true
  ·simp only [walkB, if_pos hs] at hN ⊢
   show CallsIn Fence.wide n Try.prog 102 #[.pointer (some ⟨b, 0, none⟩), .pointer (some a), .func (.yield l) #[] #[]] W _
   refine callsIn_of_wp Try.func102 rfl trivial ?_ rfl
   simp only [Try.ntmps102, List.size_toArray, List.length_cons, List.length_nil, Nat.reduceAdd, Nat.reduceSub, Array.replicate_succ, Array.replicate_zero, List.push_toArray, List.append_toArray, List.nil_append, List.cons_append]
   gi_wp2
   refine wpIn_region_any (by kernel_rfl) ?_
   change wpAnyIn _ _ _ _ _ _ _ _ _ (World.drew _)
   obtain ⟨W0, hW⟩ : ∃ W0, W0 = W.drewN 1 := ⟨_, rfl⟩
   have nq := 1
   change wpAnyIn _ _ _ _ _ _ _ _ _ (W.drewN 1)
   rw [← hW]
   have hin : In W0 (.node b k v tl tr) := by rw [hW]; exact in_drewN _ hin
   have bl : Kee S W W0 := by rw [hW]; exact (Kee.refl _ _).drewN _
   have hJ : J pre W0 := by rw [hW]; exact hJd _ _ _ hJ
   have cs := (bl.cell ha).trans cs
   clear hW c10 c11 c12 c13
   obtain ⟨c10, c11, c12, c13, _, _, _⟩ := (Top.of_in hin).cells
   refine tkJ_ 0 rfl ?_
   refine tkJ_ 1 rfl ?_
   refine tkJ_ 2 rfl ?_
   refine tkJ_ 3 rfl ?_
   refine tkJ_ 4 rfl ?_
   refine tkJ_ 5 rfl ?_
   refine tkJ_ 7 rfl ?_
   refine tkJ_ 8 rfl ?_
   apply cut2
   ·intro hcont
    refine wpAnyIn_ready (rs := [6, 9]) (by kernel_rfl) (by simp) ?_
    refine AllReadyIn.cons rfl (fun K hK => ?_) ?_
    ·go_simp
     refine hK _ _ ?_
     clear hK K
     refine wpAnyIn_ready (rs := [9]) (by kernel_rfl) (by simp) ?_
     refine AllReadyIn.cons rfl (fun K hK => ?_) ?_
     ·go_simp
      refine hK _ _ ?_
      clear hK K
      exact hcont
     exact AllReadyIn.nil
    refine AllReadyIn.cons rfl (fun K hK => ?_) ?_
    ·go_simp
     refine hK _ _ ?_
     clear hK K
     refine wpAnyIn_ready (rs := [6]) (by kernel_rfl) (by simp) ?_
     refine AllReadyIn.cons rfl (fun K hK => ?_) ?_
     ·go_simp
      refine hK _ _ ?_
      clear hK K
      exact hcont
     exact AllReadyIn.nil
    exact AllReadyIn.nil
   refine wpAnyIn_ready (rs := [10]) (by kernel_rfl) (by simp) ?_
   refine AllReadyIn.cons rfl (fun K hK => ?_) ?_
   ·go_simp
    refine ⟨trivial, hdd _, (calls_wide (less_any k s W0)).mono ?_⟩
    rintro e W1 ⟨rfl, hw⟩
    obtain rfl := hw.symm
    rw [hs]
    refine hK _ _ ?_
    clear hK K
    refine tkJ_ 11 rfl ?_
    refine wpAnyIn_done (by kernel_rfl) ?_ _
    gi_wp2_with (refine ⟨trivial, hdd _, (ihb (n - 1) pre _ (by first | exact hin.2.2 | exact in_drewN 1 hin.2.2) hltr (by first | exact cs | (rw [World.cell?_drew]; exact cs)) (by first | exact hJ | exact hJd _ _ 1 hJ) (by omega)).mono ?_⟩; rintro e W2 (⟨rfl, hJ2, hb2⟩ | ⟨rfl, hx2⟩))
    ·go_ret
     exact .inl ⟨rfl, hJ2, bl.trans hb2⟩
    ·go_ret
     exact .inr ⟨rfl, hx2⟩
   exact AllReadyIn.nil
  ·simp only [walkB, if_neg hs] at hN ⊢
   show CallsIn Fence.wide n Try.prog 102 #[.pointer (some ⟨b, 0, none⟩), .pointer (some a), .func (.yield l) #[] #[]] W _
   refine callsIn_of_wp Try.func102 rfl trivial ?_ rfl
   simp only [Try.ntmps102, List.size_toArray, List.length_cons, List.length_nil, Nat.reduceAdd, Nat.reduceSub, Array.replicate_succ, Array.replicate_zero, List.push_toArray, List.append_toArray, List.nil_append, List.cons_append]
   gi_wp2
   refine wpIn_region_any (by kernel_rfl) ?_
   change wpAnyIn _ _ _ _ _ _ _ _ _ (World.drew _)
   obtain ⟨W0, hW⟩ : ∃ W0, W0 = W.drewN 1 := ⟨_, rfl⟩
   have nq := 1
   change wpAnyIn _ _ _ _ _ _ _ _ _ (W.drewN 1)
   rw [← hW]
   have hin : In W0 (.node b k v tl tr) := by rw [hW]; exact in_drewN _ hin
   have bl : Kee S W W0 := by rw [hW]; exact (Kee.refl _ _).drewN _
   have hJ : J pre W0 := by rw [hW]; exact hJd _ _ _ hJ
   have cs := (bl.cell ha).trans cs
   clear hW c10 c11 c12 c13
   obtain ⟨c10, c11, c12, c13, _, _, _⟩ := (Top.of_in hin).cells
   refine tkJ_ 0 rfl ?_
   refine tkJ_ 1 rfl ?_
   refine tkJ_ 2 rfl ?_
   refine tkJ_ 3 rfl ?_
   refine tkJ_ 4 rfl ?_
   refine tkJ_ 5 rfl ?_
   refine tkJ_ 7 rfl ?_
   refine tkJ_ 8 rfl ?_
   apply cut2
   ·intro hcont
    refine wpAnyIn_ready (rs := [6, 9]) (by kernel_rfl) (by simp) ?_
    refine AllReadyIn.cons rfl (fun K hK => ?_) ?_
    ·go_simp
     refine hK _ _ ?_
     clear hK K
     refine wpAnyIn_ready (rs := [9]) (by kernel_rfl) (by simp) ?_
     refine AllReadyIn.cons rfl (fun K hK => ?_) ?_
     ·go_simp
      refine hK _ _ ?_
      clear hK K
      exact hcont
     exact AllReadyIn.nil
    refine AllReadyIn.cons rfl (fun K hK => ?_) ?_
    ·go_simp
     refine hK _ _ ?_
     clear hK K
     refine wpAnyIn_ready (rs := [6]) (by kernel_rfl) (by simp) ?_
     refine AllReadyIn.cons rfl (fun K hK => ?_) ?_
     ·go_simp
      refine hK _ _ ?_
      clear hK K
      exact hcont
     exact AllReadyIn.nil
    exact AllReadyIn.nil
   refine wpAnyIn_ready (rs := [10]) (by kernel_rfl) (by simp) ?_
   refine AllReadyIn.cons rfl (fun K hK => ?_) ?_
   ·go_simp
    refine ⟨trivial, hdd _, (calls_wide (less_any k s W0)).mono ?_⟩
    rintro e W1 ⟨rfl, hw⟩
    obtain rfl := hw.symm
    rw [(by simpa using hs : lt k s = false)]
    refine hK _ _ ?_
    clear hK K
    refine tkJ_ 11 rfl ?_
    refine wpAnyIn_done (by kernel_rfl) ?_ _
    simp only [List.length_append, List.length_cons] at hN
    have hy2 : ∀ W1, J (pre ++ walkB s tl) W1 → Kee S W0 W1 → YieldAt Fence.wide (n - 1) Try.prog l #[.string k, .string v] W1 fun e W2 =>
      (e = .returned (.bool true) ∧ J (pre ++ walkB s tl ++ [(k, v)]) W2 ∧ Kee S W0 W2 ∧ W2.cell? ⟨b, 3, none⟩ = some (.pointer tr.adr) ∧ In W2 tr) ∨ (e = .returned (.bool false) ∧ Jx (pre ++ walkB s tl ++ [(k, v)]) W2) := fun W1 hJ1 hb1 =>
     YieldAt.mono (hY (n - 1) _ (k, v) W1 hJ1 (by simp; omega)) fun e W2 h => h.elim
      (fun ⟨he, hj, hb2⟩ => .inl ⟨he, hj, hb1.trans hb2, ((hb1.trans hb2).cell (p := ⟨b, 3, none⟩) hb).trans c13, in_kee (hb1.trans hb2) hin.2.2 hltr⟩) .inr
    have ih1 := (ihl (n - 1) pre W0.drew (in_drewN 1 hin.2.1) hltl (((Kee.refl S W0).drew.cell ha).trans cs) (hJd _ _ 1 hJ) (by omega)).mono (R' := fun e W1 =>
      (e = .returned (.bool true) ∧ W1.cell? ⟨b, 0, none⟩ = some (.string k) ∧ W1.cell? ⟨b, 1, none⟩ = some (.string v) ∧ YieldAt Fence.wide (n - 1) Try.prog l #[.string k, .string v] W1 fun e W2 =>
       (e = .returned (.bool true) ∧ J (pre ++ walkB s tl ++ [(k, v)]) W2 ∧ Kee S W0 W2 ∧ W2.cell? ⟨b, 3, none⟩ = some (.pointer tr.adr) ∧ In W2 tr) ∨ (e = .returned (.bool false) ∧ Jx (pre ++ walkB s tl ++ [(k, v)]) W2)) ∨
      (e = .returned (.bool false) ∧ ∃ q, q <+: walkB s tl ∧ Jx (pre ++ q) W1))
     (fun e W1 h => h.elim (fun ⟨he, hj, hb0⟩ => have hb1 := (Kee.refl S W0).drew.trans hb0; .inl ⟨he, (hb1.cell (p := ⟨b, 0, none⟩) hb).trans c10, (hb1.cell (p := ⟨b, 1, none⟩) hb).trans c11, hy2 W1 hj hb1⟩) .inr)
    clear hy2 ihl
    gi_wp2
    refine wpIn_region_any (by kernel_rfl) ?_
    change wpAnyIn _ _ _ _ _ _ _ _ _ (World.drew _)
    refine tkJ_ 0 rfl ?_
    refine tkJ_ 1 rfl ?_
    refine tkJ_ 2 rfl ?_
    refine tkJ_ 4 rfl ?_
    refine tkJ_ 5 rfl ?_
    refine wpAnyIn_ready (rs := [3]) (by kernel_rfl) (by simp) ?_
    refine AllReadyIn.cons rfl (fun K hK => ?_) ?_
    ·go_simp
     refine hK _ _ ?_
     clear hK K
     refine wpAnyIn_ready (rs := [6]) (by kernel_rfl) (by simp) ?_
     refine AllReadyIn.cons rfl (fun K hK => ?_) ?_
     ·go_simp
      refine ⟨trivial, hdd _, ih1.mono ?_⟩
      clear ih1
      rintro e W1 (⟨rfl, c10', c11', fn, tmps, assign, body, hy, hR⟩ | ⟨rfl, q, hq, hx1⟩)
      ·refine hK _ _ ?_
       clear hK K
       refine tkJ_ 7 rfl ?_
       refine tkJ_ 8 rfl ?_
       refine tkJ_ 9 rfl ?_
       refine tkJ_ 10 rfl ?_
       refine tkJ_ 11 rfl ?_
       refine tkJ_ 13 rfl ?_
       refine tkJ_ 14 rfl ?_
       refine tkJ_ 15 rfl ?_
       apply cut2
       ·intro hcont
        refine wpAnyIn_ready (rs := [12, 16]) (by kernel_rfl) (by simp) ?_
        refine AllReadyIn.cons rfl (fun K hK => ?_) ?_
        ·go_simp
         refine hK _ _ ?_
         clear hK K
         refine wpAnyIn_ready (rs := [16]) (by kernel_rfl) (by simp) ?_
         refine AllReadyIn.cons rfl (fun K hK => ?_) ?_
         ·go_simp
          refine hK _ _ ?_
          clear hK K
          exact hcont
         exact AllReadyIn.nil
        refine AllReadyIn.cons rfl (fun K hK => ?_) ?_
        ·go_simp
         refine hK _ _ ?_
         clear hK K
         refine wpAnyIn_ready (rs := [12]) (by kernel_rfl) (by simp) ?_
         refine AllReadyIn.cons rfl (fun K hK => ?_) ?_
         ·go_simp
          refine hK _ _ ?_
          clear hK K
          exact hcont
         exact AllReadyIn.nil
        exact AllReadyIn.nil
       refine wpAnyIn_ready (rs := [17]) (by kernel_rfl) (by simp) ?_
       refine AllReadyIn.cons rfl (fun K hK => ?_) ?_
       ·go_simp
        refine ⟨hdd _, hR.mono ?_⟩
        clear hR
        rintro e W2 (⟨rfl, hJ2, hb2, c13', hr2⟩ | ⟨rfl, hx2⟩)
        ·refine hK _ _ ?_
         clear hK K
         refine tkJ_ 18 rfl ?_
         refine tkJ_ 19 rfl ?_
         refine tkJ_ 20 rfl ?_
         refine tkJ_ 21 rfl ?_
         refine tkJ_ 22 rfl ?_
         refine tkJ_ 24 rfl ?_
         refine wpAnyIn_ready (rs := [23]) (by kernel_rfl) (by simp) ?_
         refine AllReadyIn.cons rfl (fun K hK => ?_) ?_
         ·go_simp
          refine hK _ _ ?_
          clear hK K
          refine wpAnyIn_ready (rs := [25]) (by kernel_rfl) (by simp) ?_
          refine AllReadyIn.cons rfl (fun K hK => ?_) ?_
          ·go_simp
           refine ⟨trivial, hdd _, (ihr (n - 1) _ _ hr2 hltr hJ2 (by simp; omega)).mono ?_⟩
           rintro e W3 (⟨rfl, hJ3, hb3⟩ | ⟨rfl, q, hq, hx3⟩)
           ·refine hK _ _ ?_
            clear hK K
            refine tkJ_ 26 rfl ?_
            refine tkJ_ 27 rfl ?_
            refine wpAnyIn_done (by kernel_rfl) ?_ _
            gi_wp2
            go_ret
            exact .inl ⟨rfl, by simpa [List.append_assoc] using hJ3, bl.trans (hb2.trans hb3)⟩
           ·refine hK _ _ ?_
            clear hK K
            refine tkJ_ 26 rfl ?_
            refine tkJ_ 27 rfl ?_
            refine wpAnyIn_done (by kernel_rfl) ?_ _
            gi_wp2
            go_ret
            obtain ⟨r, hr'⟩ := hq
            exact .inr ⟨rfl, walkB s tl ++ (k, v) :: q, ⟨r, by rw [← hr']; simp⟩, by simpa [List.append_assoc] using hx3⟩
          exact AllReadyIn.nil
         exact AllReadyIn.nil
        ·refine hK _ _ ?_
         clear hK K
         refine tkJ_ 18 rfl ?_
         refine tkJ_ 19 rfl ?_
         refine tkU_ 20 rfl ?_
         refine tkU_ 21 rfl ?_
         refine tkU_ 22 rfl ?_
         refine tkU_ 23 rfl ?_
         refine tkU_ 24 rfl ?_
         refine wpAnyIn_ready (rs := [25]) (by kernel_rfl) (by simp) ?_
         refine AllReadyIn.cons rfl (fun K hK => ?_) ?_
         ·go_simp
          refine ⟨trivial, ?_⟩
          refine hK _ _ ?_
          clear hK K
          refine tkJ_ 26 rfl ?_
          refine tkJ_ 27 rfl ?_
          refine wpAnyIn_done (by kernel_rfl) ?_ _
          gi_wp2
          go_ret
          exact .inr ⟨rfl, walkB s tl ++ [(k, v)], ⟨walkA tr, by simp⟩, by simpa [List.append_assoc] using hx2⟩
         exact AllReadyIn.nil
       exact AllReadyIn.nil
      ·refine hK _ _ ?_
       clear hK K
       refine tkJ_ 7 rfl ?_
       refine tkU_ 8 rfl ?_
       refine tkU_ 9 rfl ?_
       refine tkU_ 10 rfl ?_
       refine tkU_ 11 rfl ?_
       refine tkU_ 12 rfl ?_
       refine tkU_ 13 rfl ?_
       refine tkU_ 14 rfl ?_
       refine tkU_ 15 rfl ?_
       refine tkU_ 16 rfl ?_
       refine wpAnyIn_ready (rs := [17]) (by kernel_rfl) (by simp) ?_
       refine AllReadyIn.cons rfl (fun K hK => ?_) ?_
       ·go_simp
        refine ⟨fun _ _ => trivial, ?_⟩
        refine hK _ _ ?_
        clear hK K
        refine tkJ_ 18 rfl ?_
        refine tkJ_ 19 rfl ?_
        refine tkU_ 20 rfl ?_
        refine tkU_ 21 rfl ?_
        refine tkU_ 22 rfl ?_
        refine tkU_ 23 rfl ?_
        refine tkU_ 24 rfl ?_
        refine wpAnyIn_ready (rs := [25]) (by kernel_rfl) (by simp) ?_
        refine AllReadyIn.cons rfl (fun K hK => ?_) ?_
        ·go_simp
         refine ⟨trivial, ?_⟩
         refine hK _ _ ?_
         clear hK K
         refine tkJ_ 26 rfl ?_
         refine tkJ_ 27 rfl ?_
         refine wpAnyIn_done (by kernel_rfl) ?_ _
         gi_wp2
         go_ret
         exact .inr ⟨rfl, q, hq.trans (List.prefix_append _ _), hx1⟩
        exact AllReadyIn.nil
       exact AllReadyIn.nil
     exact AllReadyIn.nil
    exact AllReadyIn.nil
   exact AllReadyIn.nil
end Go.Proofs.Ytebejadiaooooaa.OrdSs
end
section
namespace Go.Proofs.Ytebejadiaooooaa.OrdSs
open Go.RowKit Go.Shelf Go.Proofs.YtebejadiaooooaaW.PrintWords Go.Proofs.YtebejadiaooooaaW.PrintLast Go.Proofs.YtebejadiaooooaaW.PrintMore Go.Proofs.Ytebejadiaooooaa.Own Go.Proofs.Ytebejadiaooooaa.Ord
attribute [local go_sem] Oper.semAt_some
set_option maxHeartbeats 2000000
set_option maxRecDepth 100000
theorem drewN_of_abides {β : Type} {B : Nat} {J : β → World → Prop} (h : AbidesFrom B J) (s : β) (W : World) (n : Nat) (hj : J s W) : J s (W.drewN n) :=
 h s W (W.drewN n) none hj ⟨rfl, rfl, rfl, Nat.le_refl _, fun _ _ _ => rfl⟩ (fun r e => by cases e)
def MpI (S : Nat → Prop) (W : World) : Option Addr → Kn ByteArray ByteArray → Prop
 | none, T => T = .nil
 | some a, T => S a.block ∧ W.cell? a = some (.pointer T.adr) ∧ In W T ∧ ∀ x ∈ T.bs, S x
theorem MpI.kee {S : Nat → Prop} {A B : World} (h : Kee S A B) : ∀ {p : Option Addr} {T : Kn ByteArray ByteArray}, MpI S A p T → MpI S B p T
 | none, _, hm => hm
 | some a, _, ⟨h1, h2, h3, h4⟩ => ⟨h1, (h.cell h1).trans h2, in_kee h h3 h4, h4⟩
theorem all1_in (n : Nat) (l Bb : Nat) (S : Nat → Prop) (p : Option Addr) (T : Kn ByteArray ByteArray) (J Jx : List (ByteArray × ByteArray) → World → Prop) (hJd : ∀ pre W n, J pre W → J pre (W.drewN n))
  (hY : ∀ pre x W, J pre W → pre.length < (walkA T).length → YieldAt Fence.wide (n - 1) Try.prog l #[.string x.1, .string x.2] W fun e W' =>
   (e = .returned (.bool true) ∧ J (pre ++ [x]) W' ∧ Kee S W W') ∨ (e = .returned (.bool false) ∧ Jx (pre ++ [x]) W'))
  (W : World) (hB : W.cell? ⟨Bb, 0, none⟩ = some (.pointer p)) (hT : MpI S W p T) (h0 : J [] W) :
  CallsIn Fence.wide n Try.prog 101 #[.func (.yield l) #[] #[], .pointer (some ⟨Bb, 0, none⟩)] W fun e W' => (∃ v, e = .returned v) ∧
   ((∃ ys, ys = walkA T ∧ J ys W') ∨ (∃ pre, pre <+: walkA T ∧ Jx pre W')) := by
 have hdd : ∀ k : Nat, (Fence.wide.depth.isSome = true → 1 ≤ k) := fun k h => by cases h
 cases p with
 | none =>
  obtain rfl : T = .nil := hT
  refine callsIn_of_wp Try.func101 rfl trivial ?_ rfl
  simp only [Try.ntmps101, List.size_toArray, List.length_cons, List.length_nil, Nat.reduceAdd, Nat.reduceSub, Array.replicate_succ, Array.replicate_zero, List.push_toArray, List.append_toArray, List.nil_append, List.cons_append]
  gi_wp2
  go_end0
  exact ⟨⟨_, rfl⟩, .inl ⟨[], rfl, h0⟩⟩
 | some a =>
  obtain ⟨_, hc, hin, hS⟩ := hT
  have hp := walk_none l (walkA T).length S J Jx hJd (fun m pre x W hj hl => YieldAt.anyDepth rfl m (hY pre x W hj hl)) T (n - 1) [] W hin hS h0 (by simp)
  clear hY hin hS
  refine callsIn_of_wp Try.func101 rfl trivial ?_ rfl
  simp only [Try.ntmps101, List.size_toArray, List.length_cons, List.length_nil, Nat.reduceAdd, Nat.reduceSub, Array.replicate_succ, Array.replicate_zero, List.push_toArray, List.append_toArray, List.nil_append, List.cons_append]
  gi_wp2_with (refine ⟨trivial, hdd _, hp.mono ?_⟩; clear hp; rintro e W1 (⟨rfl, hJ1, _⟩ | ⟨rfl, q, hq, hx⟩))
  ·go_end0
   exact ⟨⟨_, rfl⟩, .inl ⟨_, rfl, by simpa using hJ1⟩⟩
  ·go_end0
   exact ⟨⟨_, rfl⟩, .inr ⟨q, hq, by simpa using hx⟩⟩
theorem all_in (n : Nat) (p : Option Addr) (w : World) :
  CallsIn Fence.wide n Try.prog 69 #[.pointer p] w fun e w' => e = .returned (.func (.func 101) #[] #[.pointer (some ⟨w.heap.size, 0, none⟩)]) ∧ ∃ t, w' = w.alloc (.cells #[.pointer p] t) := by
 refine callsIn_of_wp Try.func69 rfl trivial ?_ rfl
 simp only [Try.ntmps69, List.size_toArray, List.length_cons, List.length_nil, Nat.reduceAdd, Nat.reduceSub, Array.replicate_succ, Array.replicate_zero, List.push_toArray, List.append_toArray, List.nil_append, List.cons_append]
 gi_wp2
 go_ret
 exact ⟨rfl, _, rfl⟩
end Go.Proofs.Ytebejadiaooooaa.OrdSs
end
section
namespace Go.Proofs.Ytebejadiaooooaa.OrdSs
open Go.RowKit Go.Shelf Go.Proofs.YtebejadiaooooaaW.PrintWords Go.Proofs.YtebejadiaooooaaW.PrintLast Go.Proofs.YtebejadiaooooaaW.PrintMore Go.Proofs.Ytebejadiaooooaa.Own Go.Proofs.Ytebejadiaooooaa.Ord
attribute [local go_sem] Oper.semAt_some
set_option maxHeartbeats 2000000
set_option maxRecDepth 100000
def MpN (w : World) : Option Addr → Kn ByteArray ByteArray → Prop
 | none, T => T = .nil
 | some a, T => a = ⟨a.block, 0, none⟩ ∧ Mp w a.block T
theorem MpN.mpI {w : World} {p : Option Addr} {T : Kn ByteArray ByteArray} (h : MpN w p T) : MpI (fun k => k < w.heap.size) w p T := by
 cases p with
 | none => exact h
 | some a =>
  obtain ⟨h1, h2⟩ := h
  exact ⟨blk_lt h2.blk, by rw [h1]; exact blk_cell h2.blk 0, h2.inn, in_lt h2.inn⟩
theorem MpI.wide {S S' : Nat → Prop} {w : World} (hS : ∀ k, S k → S' k) : ∀ {p : Option Addr} {T : Kn ByteArray ByteArray}, MpI S w p T → MpI S' w p T
 | none, _, h => h
 | some _, _, ⟨h1, h2, h3, h4⟩ => ⟨hS _ h1, h2, h3, fun x hx => hS _ (h4 x hx)⟩
theorem run_eql_func_nil (t : TypeId) (ps rs : Array TypeId) (vd : Bool) (f : Fn) (x y : Array Value) (w : World) (h : Try.prog.underlying t = some (.func ps rs vd)) :
  (binOp .eql t (.func f x y) .nilFunc).run Try.prog w = .ok (.bool false) w := by
 have h1 : ∀ d, (Op.equalIn (d + 1) t (.func f x y) .nilFunc).run Try.prog w = .ok false w := fun d => by simp [Op.equalIn, run_underlying h]
 simp only [binOp]
 simp [Op.equal, Op.maxDepth, h1 9999]
theorem own_empty {w : World} {g base e size : Nat} (h : w.heap[g]? = some (.cells #[] e (0, 0))) (hb : base ≤ g) : w.ownsRow base e size (.slice (some ⟨g, 0, none⟩) 0 0) 0 [] :=
 ⟨by simp, .inr ⟨g, 0, #[], rfl, hb, h, Nat.le_refl _, Nat.zero_le _, by simp, by simp⟩⟩
theorem cell_two_new (w : World) (x y : Value) (t : TypeId) : ∀ j u, [x, y][j]? = some u → (w.alloc (.cells #[x, y] t)).cell? ((⟨w.heap.size, 0, none⟩ : Addr).add j) = some u := by
 intro j u hj
 match j, hj with
 | 0, hj => simp at hj; subst hj; simp [Addr.add]
 | 1, hj => simp at hj; subst hj; simp [Addr.add]
 | _ + 2, hj => simp at hj
end Go.Proofs.Ytebejadiaooooaa.OrdSs
end
section
namespace Go.Proofs.Ytebejadiaooooaa.OrdSs
open Go.RowKit Go.Shelf Go.Proofs.YtebejadiaooooaaW.PrintWords Go.Proofs.YtebejadiaooooaaW.PrintLast Go.Proofs.YtebejadiaooooaaW.PrintMore Go.Proofs.Ytebejadiaooooaa.Own Go.Proofs.Ytebejadiaooooaa.Ord
attribute [local go_sem] Oper.semAt_some
set_option maxHeartbeats 2000000
set_option maxRecDepth 100000
theorem from1_in (n : Nat) (l Bb Bk : Nat) (S : Nat → Prop) (p : Option Addr) (s : ByteArray) (T : Kn ByteArray ByteArray) (J Jx : List (ByteArray × ByteArray) → World → Prop) (hJd : ∀ pre W n, J pre W → J pre (W.drewN n))
  (hY : ∀ pre x W, J pre W → pre.length < (walkB s T).length → YieldAt Fence.wide (n - 1) Try.prog l #[.string x.1, .string x.2] W fun e W' =>
   (e = .returned (.bool true) ∧ J (pre ++ [x]) W' ∧ Kee S W W') ∨ (e = .returned (.bool false) ∧ Jx (pre ++ [x]) W'))
  (W : World) (hB : W.cell? ⟨Bb, 0, none⟩ = some (.pointer p)) (hk : W.cell? ⟨Bk, 0, none⟩ = some (.string s)) (hkS : S Bk) (hT : MpI S W p T) (h0 : J [] W) :
  CallsIn Fence.wide n Try.prog 117 #[.func (.yield l) #[] #[], .pointer (some ⟨Bb, 0, none⟩), .pointer (some ⟨Bk, 0, none⟩)] W fun e W' => (∃ v, e = .returned v) ∧
   ((∃ ys, ys = walkB s T ∧ J ys W') ∨ (∃ pre, pre <+: walkB s T ∧ Jx pre W')) := by
 have hdd : ∀ k : Nat, (Fence.wide.depth.isSome = true → 1 ≤ k) := fun k h => by cases h
 cases p with
 | none =>
  obtain rfl : T = .nil := hT
  refine callsIn_of_wp Try.func117 rfl trivial ?_ rfl
  simp only [Try.ntmps117, List.size_toArray, List.length_cons, List.length_nil, Nat.reduceAdd, Nat.reduceSub, Array.replicate_succ, Array.replicate_zero, List.push_toArray, List.append_toArray, List.nil_append, List.cons_append]
  gi_wp2
  go_end0
  exact ⟨⟨_, rfl⟩, .inl ⟨[], rfl, h0⟩⟩
 | some a =>
  obtain ⟨_, hc, hin, hS⟩ := hT
  have hp := walk_some l (walkB s T).length S J Jx hJd (fun m pre x W hj hl => YieldAt.anyDepth rfl m (hY pre x W hj hl)) ⟨Bk, 0, none⟩ s hkS T (n - 1) [] W hin hS hk h0 (by simp)
  clear hY hin hS hk
  refine callsIn_of_wp Try.func117 rfl trivial ?_ rfl
  simp only [Try.ntmps117, List.size_toArray, List.length_cons, List.length_nil, Nat.reduceAdd, Nat.reduceSub, Array.replicate_succ, Array.replicate_zero, List.push_toArray, List.append_toArray, List.nil_append, List.cons_append]
  gi_wp2_with (refine ⟨trivial, hdd _, hp.mono ?_⟩; clear hp; rintro e W1 (⟨rfl, hJ1, _⟩ | ⟨rfl, q, hq, hx⟩))
  ·go_end0
   exact ⟨⟨_, rfl⟩, .inl ⟨_, rfl, by simpa using hJ1⟩⟩
  ·go_end0
   exact ⟨⟨_, rfl⟩, .inr ⟨q, hq, by simpa using hx⟩⟩
theorem from_in (n : Nat) (p : Option Addr) (s : ByteArray) (w : World) :
  CallsIn Fence.wide n Try.prog 91 #[.pointer p, .string s] w fun e w' => e = .returned (.func (.func 117) #[] #[.pointer (some ⟨w.heap.size, 0, none⟩), .pointer (some ⟨w.heap.size + 1, 0, none⟩)]) ∧ ∃ t, w' = (w.alloc (.cells #[.pointer p] t)).alloc (.cells #[.string s] 9) := by
 refine callsIn_of_wp Try.func91 rfl trivial ?_ rfl
 simp only [Try.ntmps91, List.size_toArray, List.length_cons, List.length_nil, Nat.reduceAdd, Nat.reduceSub, Array.replicate_succ, Array.replicate_zero, List.push_toArray, List.append_toArray, List.nil_append, List.cons_append]
 gi_wp2
 go_ret
 exact ⟨rfl, _, rfl⟩
theorem from_stops (n Bb Bk : Nat) (S : Nat → Prop) (p : Option Addr) (s : ByteArray) (T : Kn ByteArray ByteArray) (w : World) (hS : ∀ k, S k → k < w.heap.size) (hBb : Bb < w.heap.size) (hc : w.cell? ⟨Bb, 0, none⟩ = some (.pointer p)) (hk : w.cell? ⟨Bk, 0, none⟩ = some (.string s)) (hkS : S Bk) (hT : MpI S w p T) :
  SeqStopsK Fence.wide n Try.prog 117 #[.pointer (some ⟨Bb, 0, none⟩), .pointer (some ⟨Bk, 0, none⟩)] (fun x : ByteArray × ByteArray => #[.string x.1, .string x.2]) (Kee S) (fun ys => ys = walkB s T) (fun pre => pre <+: walkB s T) (walkB s T).length w := fun l J Jx W hW hJ _ hY h0 =>
 from1_in n l Bb Bk S p s T J Jx (fun pre W n hj => drewN_of_abides hJ pre W n hj) hY W ((hW.cell (p := ⟨Bb, 0, none⟩) hBb).trans hc) ((hW.cell (p := ⟨Bk, 0, none⟩) (hS _ hkS)).trans hk) hkS (hT.kee ⟨hW.size, fun k hk => hW.block k (hS k hk)⟩) h0
end Go.Proofs.Ytebejadiaooooaa.OrdSs
end
