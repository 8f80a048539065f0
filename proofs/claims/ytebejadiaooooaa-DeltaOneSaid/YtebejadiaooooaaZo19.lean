/- Texts of one claim (laid by shake.py). -/
import Derived.Test.YtebejadiaooooaaZo3
import Derived.Test.YtebejadiaooooaaZo10
import Derived.Test.YtebejadiaooooaaZo1
import Derived.Test.YtebejadiaooooaaZo2
import Derived.WalkKit
import Derived.Below
import Derived.Maps.AppendAt
import Derived.Lib.SliceRun
import Derived.Shelf.RegionOpenPlain
import Derived.Deep.RegionLaw
set_option linter.unusedVariables false
set_option linter.unusedSimpArgs false
section
namespace Go.Proofs.Ytebejadiaooooaa.Cp
open Go.RowKit Go.Proofs.YtebejadiaooooaaW.PrintWords Go.Proofs.YtebejadiaooooaaW.PrintLast Go.Proofs.YtebejadiaooooaaW.PrintMore Go.Proofs.Ytebejadiaooooaa.Own Go.Proofs.Ytebejadiaooooaa
abbrev Ms := P.S32
def enc (m : Ms) : List Value := [.int .u8 m.f0, .int .i64 m.f1, .string m.f2, .string m.f3, .string m.f4, .int .u64 m.f5]
def flat (l : List Ms) : List Value := l.flatMap enc
theorem enc_length (m : Ms) : (enc m).length = 6 := rfl
theorem flat_nil : flat [] = [] := rfl
theorem flat_cons (m : Ms) (l : List Ms) : flat (m :: l) = enc m ++ flat l := rfl
theorem flat_append (a b : List Ms) : flat (a ++ b) = flat a ++ flat b := by simp [flat]
theorem flat_snoc (l : List Ms) (m : Ms) : flat (l ++ [m]) = flat l ++ enc m := by rw [flat_append, flat_cons, flat_nil, List.append_nil]
theorem flat_length : ∀ l : List Ms, (flat l).length = l.length * 6
 | [] => rfl
 | m :: l => by rw [flat_cons, List.length_append, enc_length, flat_length l, List.length_cons]; omega
theorem flat_one {u : Value} : ∀ {l : List Ms}, u ∈ flat l → u.oneCell' = true
 | [], h => by simp [flat_nil] at h
 | m :: l, h => by
  rw [flat_cons, List.mem_append] at h
  rcases h with h | h
  ·simp only [enc, List.mem_cons, List.not_mem_nil, or_false] at h
   rcases h with rfl | rfl | rfl | rfl | rfl | rfl <;> rfl
  ·exact flat_one h
abbrev Rw (W : World) (base : Nat) (v : Value) (l : List Ms) : Prop := W.ownsRow base 32 6 v l.length (flat l)
theorem reps_flat (w : World) (base : Nat) (ok : Nat → Prop) (xs : List Ms) : Reps (P.k32.M w base ok) 6 xs (flat xs) := by
 have key : ∀ l : List Ms, Reps (P.k32.M w base ok) 6 l.reverse (flat l.reverse) := fun l => by
  induction l with
  | nil => exact Reps.none _ _
  | cons x l ih =>
   rw [List.reverse_cons, flat_snoc]
   exact Reps.snoc ih (P.k32_mkM w base ok x) rfl
 simpa using key xs.reverse
theorem R_of_Rw {w : World} {base : Nat} {v : Value} {xs : List Ms} (ho : Rw w base v xs) : P.k32.R 32 w base (fun _ => True) v xs :=
 ⟨fun _ _ => trivial, flat xs, ho, reps_flat _ _ _ _⟩
theorem C_of_Rw {w : World} {base : Nat} {A : Option Addr} {n c : Nat} {xs : List Ms} (ho : Rw w base (.slice A n c) xs) : n = xs.length ∧ n ≤ c ∧ P.k32.C w A xs.length xs := Kd.R_reads' (R_of_Rw ho)
theorem Rw.slice {w : World} {base : Nat} {v : Value} {xs : List Ms} (ho : Rw w base v xs) : ∃ A c, v = .slice A xs.length c := Kd.R_slice (R_of_Rw ho)
theorem Rw.block {w : World} {base : Nat} {v : Value} {xs : List Ms} (ho : Rw w base v xs) (hn : 0 < xs.length) :
  ∃ g cap cur, v = .slice (some ⟨g, 0, none⟩) xs.length cap ∧ base ≤ g ∧ w.heap[g]? = some (.cells cur 32 (0, 0)) ∧ xs.length ≤ cap ∧ cap ≤ maxLen ∧ cur.size = cap * 6 ∧ cur.toList.take (xs.length * 6) = flat xs := by
 rcases ho.2 with ⟨_, h⟩ | h
 ·omega
 ·exact h
theorem Rw.mk {w : World} {base g cap : Nat} {cur : Array Value} {xs : List Ms} (hb : base ≤ g) (hh : w.heap[g]? = some (.cells cur 32 (0, 0))) (hc : xs.length ≤ cap) (hm : cap ≤ maxLen) (hs : cur.size = cap * 6) (ht : cur.toList.take (xs.length * 6) = flat xs) : Rw w base (.slice (some ⟨g, 0, none⟩) xs.length cap) xs :=
 ⟨flat_length xs, .inr ⟨g, cap, cur, rfl, hb, hh, hc, hm, hs, ht⟩⟩
theorem Rw.below {w W : World} {base : Nat} {v : Value} {xs : List Ms} (ho : Rw w base v xs) (hb : Below w.heap.size w W) : Rw W base v xs :=
 own_move ho (fun k hk => hb.block k (own_lt ho k hk))
end Go.Proofs.Ytebejadiaooooaa.Cp
end
