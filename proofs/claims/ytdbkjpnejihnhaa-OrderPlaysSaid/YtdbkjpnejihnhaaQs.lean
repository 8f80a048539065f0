/- One deed on a map and on the reference's row: they answer alike. -/
import Derived.Test.YtdbkjpnejihnhaaQr
import Derived.Deep.RegionHeld3
set_option linter.unusedVariables false
set_option linter.unusedSimpArgs false
namespace Go.Proofs.Ytdbkjpnejihnhaa.OrdSi
open Go.RowKit Go.Shelf Go.Proofs.YtdbkjpnejihnhaaW.PrintWords Go.Proofs.YtdbkjpnejihnhaaW.PrintLast Go.Proofs.YtdbkjpnejihnhaaW.PrintMore Go.Proofs.Ytdbkjpnejihnhaa.Own Go.Proofs.Ytdbkjpnejihnhaa.Ord
attribute [local go_sem] Oper.semAt_some
set_option maxHeartbeats 2000000
set_option maxRecDepth 100000
/-- A slice of the document's pairs. -/
def Row (w : World) (v : Value) (xs : List (ByteArray × Int)) : Prop := ∃ base, P.k43.R 43 w base (fun _ => True) v (xs.map toS)
theorem Row.fr {w w' : World} {v : Value} {xs : List (ByteArray × Int)} {B : List Nat} (h : Row w v xs) (f : Fr B w w')
    (hB : ∀ b ∈ B, b < w.heap.size → ∃ cells t, w.heap[b]? = some (.cells cells t (0, 0)) ∧ t ≠ 43) : Row w' v xs := by
  obtain ⟨base, h⟩ := h
  refine ⟨base, Kd.R_mono (Kd.R_step (Kd.R_bound h) (fun k hk hlt => f.block k hlt (fun hm => ?_))) (fun _ _ => trivial)⟩
  obtain ⟨cells, t, h1, h2⟩ := hB k hm hlt
  obtain ⟨_, _, _, q, hq, cells', h3⟩ := hk
  rw [h1] at h3
  injection h3 with h3
  injection h3 with _ h3
  subst h3
  exact h2 (by simpa [P.k43, Kd.iso, Kd.pair, Kd.string, Kd.int, Kd.scalar] using hq)
theorem Row.below {w w' : World} {v : Value} {xs : List (ByteArray × Int)} (h : Row w v xs) (f : Below w.heap.size w w') : Row w' v xs := h.fr (B := []) (Fr.of_below f) (by simp)
theorem Row.nil (w : World) : Row w (.slice none 0 0) [] := ⟨0, Kd.R_nil _ _ _ _ _⟩
theorem Mp.typed {w : World} {m : Nat} {T : Kn ByteArray Int} (h : Mp w m T) : ∀ b ∈ m :: T.bs, b < w.heap.size → ∃ cells t, w.heap[b]? = some (.cells cells t (0, 0)) ∧ t ≠ 43 := by
  intro b hb _
  rcases List.mem_cons.1 hb with rfl | hb
  · exact ⟨_, _, h.blk, by decide⟩
  · obtain ⟨cells, hc⟩ := in_typed h.inn b hb
    exact ⟨_, _, hc, by decide⟩
theorem Mp.lt {w : World} {m : Nat} {T : Kn ByteArray Int} (h : Mp w m T) : ∀ b ∈ m :: T.bs, b < w.heap.size := by
  intro b hb
  rcases List.mem_cons.1 hb with rfl | hb
  · exact blk_lt h.blk
  · exact in_lt h.inn b hb
def stepM (o : Int) (key tt : ByteArray) (n : Int) (l : List (ByteArray × Int)) : List (ByteArray × Int) :=
  if o = 0 then ins lt key n l else if o = 1 then del lt key l else if o = 2 then cutM key tt l else l
theorem del_cons (key : ByteArray) (x : ByteArray × Int) (l : List (ByteArray × Int)) : del lt key (x :: l) = if (lt x.1 key || lt key x.1) = true then x :: del lt key l else del lt key l := by
  unfold del; rw [List.filter_cons]
theorem lookK_cons (key : ByteArray) (x : ByteArray × Int) (l : List (ByteArray × Int)) : lookK lt key (x :: l) = if (!lt x.1 key && !lt key x.1) = true then some x.2 else lookK lt key l := by
  unfold lookK; rw [List.find?_cons]
  cases (!lt x.1 key && !lt key x.1) <;> rfl
/-- How long the rows become. -/
theorem ins_len (key : ByteArray) (n : Int) (l : List (ByteArray × Int)) (h : Rise lt l) : (ins lt key n l).length = l.length + (if (lookK lt key l).isSome then 0 else 1) ∧ (del lt key l).length + (if (lookK lt key l).isSome then 1 else 0) = l.length := by
  have key2 : (ins lt key n l).length = (del lt key l).length + 1 := by
    rw [del_split key l h, ins]; simp; omega
  have key3 : (del lt key l).length + (if (lookK lt key l).isSome then 1 else 0) = l.length := by
    clear key2
    induction l with
    | nil => rfl
    | cons x l ih =>
      rw [Rise, List.pairwise_cons] at h
      have ih := ih h.2
      rw [del_cons, lookK_cons, List.length_cons]
      rcases Bool.eq_false_or_eq_true (lt x.1 key) with q1 | q1
      · simp only [q1, Bool.true_or, if_true, Bool.not_true, Bool.false_and, Bool.false_eq_true, if_false, List.length_cons]; omega
      · rcases Bool.eq_false_or_eq_true (lt key x.1) with q2 | q2
        · simp only [q1, q2, Bool.false_or, if_true, Bool.not_true, Bool.and_false, Bool.false_eq_true, if_false, List.length_cons]; omega
        · have : del lt key l = l := fil_all fun y hy => by
            have e := lin.tri q1 q2
            have := h.1 y hy
            rw [e] at this; rw [this]; simp
          simp [q1, q2, this]
  refine ⟨?_, key3⟩
  split at key3 <;> simp_all <;> omega
end Go.Proofs.Ytdbkjpnejihnhaa.OrdSi
