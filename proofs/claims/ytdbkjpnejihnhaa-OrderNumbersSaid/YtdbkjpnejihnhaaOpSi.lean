/- The iterators of a map [string, int]: All, From; Fork; Len .. of no map. (Laid by inst.py out of inst/XOp.) -/
import Derived.Test.YtdbkjpnejihnhaaOkSi
set_option linter.unusedVariables false
set_option linter.unusedSimpArgs false
namespace Go.Proofs.Ytdbkjpnejihnhaa.OrdSi
open Go.RowKit Go.Shelf Go.Proofs.YtdbkjpnejihnhaaW.PrintWords Go.Proofs.YtdbkjpnejihnhaaW.PrintLast Go.Proofs.YtdbkjpnejihnhaaW.PrintMore Go.Proofs.Ytdbkjpnejihnhaa.Own Go.Proofs.Ytdbkjpnejihnhaa.Ord
attribute [local go_sem] Oper.semAt_some
set_option maxHeartbeats 2000000
set_option maxRecDepth 100000
theorem drewN_of_abides {β : Type} {B : Nat} {J : β → World → Prop} (h : AbidesFrom B J) (s : β) (W : World) (n : Nat) (hj : J s W) : J s (W.drewN n) :=
  h s W (W.drewN n) none hj ⟨rfl, rfl, rfl, Nat.le_refl _, fun _ _ _ => rfl⟩ (fun r e => by cases e)
/-- A map's pointer: none, or a map's block; what is read there lies in S. -/
def MpI (S : Nat → Prop) (W : World) : Option Addr → Kn ByteArray Int → Prop
  | none, T => T = .nil
  | some a, T => S a.block ∧ W.cell? a = some (.pointer T.adr) ∧ In W T ∧ ∀ x ∈ T.bs, S x
theorem MpI.kee {S : Nat → Prop} {A B : World} (h : Kee S A B) : ∀ {p : Option Addr} {T : Kn ByteArray Int}, MpI S A p T → MpI S B p T
  | none, _, hm => hm
  | some a, _, ⟨h1, h2, h3, h4⟩ => ⟨h1, (h.cell h1).trans h2, in_kee h h3 h4, h4⟩
theorem all1_in (n : Nat) (l Bb : Nat) (S : Nat → Prop) (p : Option Addr) (T : Kn ByteArray Int) (J Jx : List (ByteArray × Int) → World → Prop) (hJd : ∀ pre W n, J pre W → J pre (W.drewN n))
    (hY : ∀ pre x W, J pre W → pre.length < (walkA T).length → YieldAt Fence.wide (n - 1) Try.prog l #[.string x.1, .int .i64 x.2] W fun e W' =>
      (e = .returned (.bool true) ∧ J (pre ++ [x]) W' ∧ Kee S W W') ∨ (e = .returned (.bool false) ∧ Jx (pre ++ [x]) W'))
    (W : World) (hB : W.cell? ⟨Bb, 0, none⟩ = some (.pointer p)) (hT : MpI S W p T) (h0 : J [] W) :
    CallsIn Fence.wide n Try.prog 54 #[.func (.yield l) #[] #[], .pointer (some ⟨Bb, 0, none⟩)] W fun e W' => (∃ v, e = .returned v) ∧
      ((∃ ys, ys = walkA T ∧ J ys W') ∨ (∃ pre, pre <+: walkA T ∧ Jx pre W')) := by
  have hdd : ∀ k : Nat, (Fence.wide.depth.isSome = true → 1 ≤ k) := fun k h => by cases h
  cases p with
  | none =>
    obtain rfl : T = .nil := hT
    refine callsIn_of_wp Try.func54 rfl trivial ?_ rfl
    simp only [Try.ntmps54, List.size_toArray, List.length_cons, List.length_nil, Nat.reduceAdd, Nat.reduceSub, Array.replicate_succ, Array.replicate_zero, List.push_toArray, List.append_toArray, List.nil_append, List.cons_append]
    gi_wp2
    go_end0
    exact ⟨⟨_, rfl⟩, .inl ⟨[], rfl, h0⟩⟩
  | some a =>
    obtain ⟨_, hc, hin, hS⟩ := hT
    have hp := walk_none l (walkA T).length S J Jx hJd (fun m pre x W hj hl => YieldAt.anyDepth rfl m (hY pre x W hj hl)) T (n - 1) [] W hin hS h0 (by simp)
    clear hY hin hS
    refine callsIn_of_wp Try.func54 rfl trivial ?_ rfl
    simp only [Try.ntmps54, List.size_toArray, List.length_cons, List.length_nil, Nat.reduceAdd, Nat.reduceSub, Array.replicate_succ, Array.replicate_zero, List.push_toArray, List.append_toArray, List.nil_append, List.cons_append]
    gi_wp2_with (refine ⟨trivial, hdd _, hp.mono ?_⟩; clear hp; rintro e W1 (⟨rfl, hJ1, _⟩ | ⟨rfl, q, hq, hx⟩))
    · go_end0
      exact ⟨⟨_, rfl⟩, .inl ⟨_, rfl, by simpa using hJ1⟩⟩
    · go_end0
      exact ⟨⟨_, rfl⟩, .inr ⟨q, hq, by simpa using hx⟩⟩
theorem all_in (n : Nat) (p : Option Addr) (w : World) :
    CallsIn Fence.wide n Try.prog 44 #[.pointer p] w fun e w' => e = .returned (.func (.func 54) #[] #[.pointer (some ⟨w.heap.size, 0, none⟩)]) ∧ ∃ t, w' = w.alloc (.cells #[.pointer p] t) := by
  refine callsIn_of_wp Try.func44 rfl trivial ?_ rfl
  simp only [Try.ntmps44, List.size_toArray, List.length_cons, List.length_nil, Nat.reduceAdd, Nat.reduceSub, Array.replicate_succ, Array.replicate_zero, List.push_toArray, List.append_toArray, List.nil_append, List.cons_append]
  gi_wp2
  go_ret
  exact ⟨rfl, _, rfl⟩
theorem all_stops (n Bb : Nat) (S : Nat → Prop) (p : Option Addr) (T : Kn ByteArray Int) (w : World) (hS : ∀ k, S k → k < w.heap.size) (hBb : Bb < w.heap.size) (hc : w.cell? ⟨Bb, 0, none⟩ = some (.pointer p)) (hT : MpI S w p T) :
    SeqStopsK Fence.wide n Try.prog 54 #[.pointer (some ⟨Bb, 0, none⟩)] (fun x : ByteArray × Int => #[.string x.1, .int .i64 x.2]) (Kee S) (fun ys => ys = walkA T) (fun pre => pre <+: walkA T) (walkA T).length w := fun l J Jx W hW hJ _ hY h0 =>
  all1_in n l Bb S p T J Jx (fun pre W n hj => drewN_of_abides hJ pre W n hj) hY W ((hW.cell (p := ⟨Bb, 0, none⟩) hBb).trans hc) (hT.kee ⟨hW.size, fun k hk => hW.block k (hS k hk)⟩) h0
theorem from1_in (n : Nat) (l Bb Bk : Nat) (S : Nat → Prop) (p : Option Addr) (s : ByteArray) (T : Kn ByteArray Int) (J Jx : List (ByteArray × Int) → World → Prop) (hJd : ∀ pre W n, J pre W → J pre (W.drewN n))
    (hY : ∀ pre x W, J pre W → pre.length < (walkB s T).length → YieldAt Fence.wide (n - 1) Try.prog l #[.string x.1, .int .i64 x.2] W fun e W' =>
      (e = .returned (.bool true) ∧ J (pre ++ [x]) W' ∧ Kee S W W') ∨ (e = .returned (.bool false) ∧ Jx (pre ++ [x]) W'))
    (W : World) (hB : W.cell? ⟨Bb, 0, none⟩ = some (.pointer p)) (hk : W.cell? ⟨Bk, 0, none⟩ = some (.string s)) (hkS : S Bk) (hT : MpI S W p T) (h0 : J [] W) :
    CallsIn Fence.wide n Try.prog 35 #[.func (.yield l) #[] #[], .pointer (some ⟨Bb, 0, none⟩), .pointer (some ⟨Bk, 0, none⟩)] W fun e W' => (∃ v, e = .returned v) ∧
      ((∃ ys, ys = walkB s T ∧ J ys W') ∨ (∃ pre, pre <+: walkB s T ∧ Jx pre W')) := by
  have hdd : ∀ k : Nat, (Fence.wide.depth.isSome = true → 1 ≤ k) := fun k h => by cases h
  cases p with
  | none =>
    obtain rfl : T = .nil := hT
    refine callsIn_of_wp Try.func35 rfl trivial ?_ rfl
    simp only [Try.ntmps35, List.size_toArray, List.length_cons, List.length_nil, Nat.reduceAdd, Nat.reduceSub, Array.replicate_succ, Array.replicate_zero, List.push_toArray, List.append_toArray, List.nil_append, List.cons_append]
    gi_wp2
    go_end0
    exact ⟨⟨_, rfl⟩, .inl ⟨[], rfl, h0⟩⟩
  | some a =>
    obtain ⟨_, hc, hin, hS⟩ := hT
    have hp := walk_some l (walkB s T).length S J Jx hJd (fun m pre x W hj hl => YieldAt.anyDepth rfl m (hY pre x W hj hl)) ⟨Bk, 0, none⟩ s hkS T (n - 1) [] W hin hS hk h0 (by simp)
    clear hY hin hS hk
    refine callsIn_of_wp Try.func35 rfl trivial ?_ rfl
    simp only [Try.ntmps35, List.size_toArray, List.length_cons, List.length_nil, Nat.reduceAdd, Nat.reduceSub, Array.replicate_succ, Array.replicate_zero, List.push_toArray, List.append_toArray, List.nil_append, List.cons_append]
    gi_wp2_with (refine ⟨trivial, hdd _, hp.mono ?_⟩; clear hp; rintro e W1 (⟨rfl, hJ1, _⟩ | ⟨rfl, q, hq, hx⟩))
    · go_end0
      exact ⟨⟨_, rfl⟩, .inl ⟨_, rfl, by simpa using hJ1⟩⟩
    · go_end0
      exact ⟨⟨_, rfl⟩, .inr ⟨q, hq, by simpa using hx⟩⟩
theorem from_in (n : Nat) (p : Option Addr) (s : ByteArray) (w : World) :
    CallsIn Fence.wide n Try.prog 17 #[.pointer p, .string s] w fun e w' => e = .returned (.func (.func 35) #[] #[.pointer (some ⟨w.heap.size, 0, none⟩), .pointer (some ⟨w.heap.size + 1, 0, none⟩)]) ∧ ∃ t, w' = (w.alloc (.cells #[.pointer p] t)).alloc (.cells #[.string s] 9) := by
  refine callsIn_of_wp Try.func17 rfl trivial ?_ rfl
  simp only [Try.ntmps17, List.size_toArray, List.length_cons, List.length_nil, Nat.reduceAdd, Nat.reduceSub, Array.replicate_succ, Array.replicate_zero, List.push_toArray, List.append_toArray, List.nil_append, List.cons_append]
  gi_wp2
  go_ret
  exact ⟨rfl, _, rfl⟩
theorem from_stops (n Bb Bk : Nat) (S : Nat → Prop) (p : Option Addr) (s : ByteArray) (T : Kn ByteArray Int) (w : World) (hS : ∀ k, S k → k < w.heap.size) (hBb : Bb < w.heap.size) (hc : w.cell? ⟨Bb, 0, none⟩ = some (.pointer p)) (hk : w.cell? ⟨Bk, 0, none⟩ = some (.string s)) (hkS : S Bk) (hT : MpI S w p T) :
    SeqStopsK Fence.wide n Try.prog 35 #[.pointer (some ⟨Bb, 0, none⟩), .pointer (some ⟨Bk, 0, none⟩)] (fun x : ByteArray × Int => #[.string x.1, .int .i64 x.2]) (Kee S) (fun ys => ys = walkB s T) (fun pre => pre <+: walkB s T) (walkB s T).length w := fun l J Jx W hW hJ _ hY h0 =>
  from1_in n l Bb Bk S p s T J Jx (fun pre W n hj => drewN_of_abides hJ pre W n hj) hY W ((hW.cell (p := ⟨Bb, 0, none⟩) hBb).trans hc) ((hW.cell (p := ⟨Bk, 0, none⟩) (hS _ hkS)).trans hk) hkS (hT.kee ⟨hW.size, fun k hk => hW.block k (hS k hk)⟩) h0
theorem fork_any {w : World} {m : Nat} {T : Kn ByteArray Int} (h : Mp w m T) :
    Calls Try.prog 25 #[.pointer (some ⟨m, 0, none⟩)] w fun e w' => ∃ m' T', e = .returned (.pointer (some ⟨m', 0, none⟩)) ∧ Kn.like T T' ∧ Mp w' m' T' ∧ w.heap.size ≤ m' ∧ (∀ x ∈ T'.bs, w.heap.size ≤ x) ∧ Below w.heap.size w w' := by
  have c0 : w.cell? ⟨m, 0, none⟩ = some (.pointer T.adr) := blk_cell h.blk 0
  have W1 := callsIn_wide.1 (copied_in T 0 w h.inn)
  clear h
  go_enter Try.func25, Try.ntmps25
  go_wp2_with (go_at_call 46; refine W1.mono ?_; clear W1; rintro e w1 ⟨T', hl, rfl, hi, hnd, hg, hb⟩)
  go_ret
  have ba := (Below.refl _ w1).alloc (Nat.le_refl _) (.cells #[.pointer T'.adr] 73)
  exact ⟨w1.heap.size, T', rfl, hl, ⟨blk_new _ _, in_below ba hi, hnd⟩, hb.size, hg, hb.alloc hb.size _⟩
end Go.Proofs.Ytdbkjpnejihnhaa.OrdSi
