/- The iterators of a map [int, string]: All, From; Fork; Len .. of no map. (Laid by inst.py out of inst/XOp.) -/
import Derived.Test.YtdbkjpnejihnhaaOiIs
set_option linter.unusedVariables false
set_option linter.unusedSimpArgs false
namespace Go.Proofs.Ytdbkjpnejihnhaa.OrdIs
open Go.RowKit Go.Shelf Go.Proofs.YtdbkjpnejihnhaaW.PrintWords Go.Proofs.YtdbkjpnejihnhaaW.PrintLast Go.Proofs.YtdbkjpnejihnhaaW.PrintMore Go.Proofs.Ytdbkjpnejihnhaa.Own Go.Proofs.Ytdbkjpnejihnhaa.Ord
attribute [local go_sem] Oper.semAt_some
set_option maxHeartbeats 2000000
set_option maxRecDepth 100000
theorem drewN_of_abides {β : Type} {B : Nat} {J : β → World → Prop} (h : AbidesFrom B J) (s : β) (W : World) (n : Nat) (hj : J s W) : J s (W.drewN n) :=
  h s W (W.drewN n) none hj ⟨rfl, rfl, rfl, Nat.le_refl _, fun _ _ _ => rfl⟩ (fun r e => by cases e)
/-- A map's pointer: none, or a map's block; what is read there lies in S. -/
def MpI (S : Nat → Prop) (W : World) : Option Addr → Kn Int ByteArray → Prop
  | none, T => T = .nil
  | some a, T => S a.block ∧ W.cell? a = some (.pointer T.adr) ∧ In W T ∧ ∀ x ∈ T.bs, S x
theorem MpI.kee {S : Nat → Prop} {A B : World} (h : Kee S A B) : ∀ {p : Option Addr} {T : Kn Int ByteArray}, MpI S A p T → MpI S B p T
  | none, _, hm => hm
  | some a, _, ⟨h1, h2, h3, h4⟩ => ⟨h1, (h.cell h1).trans h2, in_kee h h3 h4, h4⟩
theorem all1_in (n : Nat) (l Bb : Nat) (S : Nat → Prop) (p : Option Addr) (T : Kn Int ByteArray) (J Jx : List (Int × ByteArray) → World → Prop) (hJd : ∀ pre W n, J pre W → J pre (W.drewN n))
    (hY : ∀ pre x W, J pre W → pre.length < (walkA T).length → YieldAt Fence.wide (n - 1) Try.prog l #[.int .i64 x.1, .string x.2] W fun e W' =>
      (e = .returned (.bool true) ∧ J (pre ++ [x]) W' ∧ Kee S W W') ∨ (e = .returned (.bool false) ∧ Jx (pre ++ [x]) W'))
    (W : World) (hB : W.cell? ⟨Bb, 0, none⟩ = some (.pointer p)) (hT : MpI S W p T) (h0 : J [] W) :
    CallsIn Fence.wide n Try.prog 31 #[.func (.yield l) #[] #[], .pointer (some ⟨Bb, 0, none⟩)] W fun e W' => (∃ v, e = .returned v) ∧
      ((∃ ys, ys = walkA T ∧ J ys W') ∨ (∃ pre, pre <+: walkA T ∧ Jx pre W')) := by
  have hdd : ∀ k : Nat, (Fence.wide.depth.isSome = true → 1 ≤ k) := fun k h => by cases h
  cases p with
  | none =>
    obtain rfl : T = .nil := hT
    refine callsIn_of_wp Try.func31 rfl trivial ?_ rfl
    simp only [Try.ntmps31, List.size_toArray, List.length_cons, List.length_nil, Nat.reduceAdd, Nat.reduceSub, Array.replicate_succ, Array.replicate_zero, List.push_toArray, List.append_toArray, List.nil_append, List.cons_append]
    gi_wp2
    go_end0
    exact ⟨⟨_, rfl⟩, .inl ⟨[], rfl, h0⟩⟩
  | some a =>
    obtain ⟨_, hc, hin, hS⟩ := hT
    have hp := walk_none l (walkA T).length S J Jx hJd (fun m pre x W hj hl => YieldAt.anyDepth rfl m (hY pre x W hj hl)) T (n - 1) [] W hin hS h0 (by simp)
    clear hY hin hS
    refine callsIn_of_wp Try.func31 rfl trivial ?_ rfl
    simp only [Try.ntmps31, List.size_toArray, List.length_cons, List.length_nil, Nat.reduceAdd, Nat.reduceSub, Array.replicate_succ, Array.replicate_zero, List.push_toArray, List.append_toArray, List.nil_append, List.cons_append]
    gi_wp2_with (refine ⟨trivial, hdd _, hp.mono ?_⟩; clear hp; rintro e W1 (⟨rfl, hJ1, _⟩ | ⟨rfl, q, hq, hx⟩))
    · go_end0
      exact ⟨⟨_, rfl⟩, .inl ⟨_, rfl, by simpa using hJ1⟩⟩
    · go_end0
      exact ⟨⟨_, rfl⟩, .inr ⟨q, hq, by simpa using hx⟩⟩
theorem all_in (n : Nat) (p : Option Addr) (w : World) :
    CallsIn Fence.wide n Try.prog 11 #[.pointer p] w fun e w' => e = .returned (.func (.func 31) #[] #[.pointer (some ⟨w.heap.size, 0, none⟩)]) ∧ ∃ t, w' = w.alloc (.cells #[.pointer p] t) := by
  refine callsIn_of_wp Try.func11 rfl trivial ?_ rfl
  simp only [Try.ntmps11, List.size_toArray, List.length_cons, List.length_nil, Nat.reduceAdd, Nat.reduceSub, Array.replicate_succ, Array.replicate_zero, List.push_toArray, List.append_toArray, List.nil_append, List.cons_append]
  gi_wp2
  go_ret
  exact ⟨rfl, _, rfl⟩
theorem all_stops (n Bb : Nat) (S : Nat → Prop) (p : Option Addr) (T : Kn Int ByteArray) (w : World) (hS : ∀ k, S k → k < w.heap.size) (hBb : Bb < w.heap.size) (hc : w.cell? ⟨Bb, 0, none⟩ = some (.pointer p)) (hT : MpI S w p T) :
    SeqStopsK Fence.wide n Try.prog 31 #[.pointer (some ⟨Bb, 0, none⟩)] (fun x : Int × ByteArray => #[.int .i64 x.1, .string x.2]) (Kee S) (fun ys => ys = walkA T) (fun pre => pre <+: walkA T) (walkA T).length w := fun l J Jx W hW hJ _ hY h0 =>
  all1_in n l Bb S p T J Jx (fun pre W n hj => drewN_of_abides hJ pre W n hj) hY W ((hW.cell (p := ⟨Bb, 0, none⟩) hBb).trans hc) (hT.kee ⟨hW.size, fun k hk => hW.block k (hS k hk)⟩) h0
end Go.Proofs.Ytdbkjpnejihnhaa.OrdIs
