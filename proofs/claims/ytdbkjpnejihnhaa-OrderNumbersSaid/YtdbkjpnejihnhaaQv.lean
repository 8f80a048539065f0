/- A map that holds a row; the law's own 'live' and 'played'; OrderPlays. -/
import Derived.Test.YtdbkjpnejihnhaaQu
import Derived.Test.YtdbkjpnejihnhaaKd
set_option linter.unusedVariables false
set_option linter.unusedSimpArgs false
namespace Go.Proofs.Ytdbkjpnejihnhaa.OrdSi
open Go.RowKit Go.Shelf Go.Proofs.YtdbkjpnejihnhaaW.PrintWords Go.Proofs.YtdbkjpnejihnhaaW.PrintLast Go.Proofs.YtdbkjpnejihnhaaW.PrintMore Go.Proofs.Ytdbkjpnejihnhaa.Own Go.Proofs.Ytdbkjpnejihnhaa.Ord
attribute [local go_sem] Oper.semAt_some
set_option maxHeartbeats 4000000
set_option maxRecDepth 100000
/-- The map at block m holds the row L, in blocks from base on. -/
def Hold (base : Nat) (w : World) (m : Nat) (L : List (ByteArray × Int)) : Prop := ∃ T, Mp w m T ∧ T.toL = L ∧ Rise lt L ∧ ∀ x ∈ m :: T.bs, base ≤ x
theorem Hold.below {base : Nat} {w w' : World} {m : Nat} {L : List (ByteArray × Int)} (h : Hold base w m L) (b : Below w.heap.size w w') : Hold base w' m L := by
  obtain ⟨T, h1, h2⟩ := h
  exact ⟨T, h1.below b, h2⟩
theorem hold_new (w : World) : Calls Try.prog 18 #[] w fun e w' => ∃ m, e = .returned (.pointer (some ⟨m, 0, none⟩)) ∧ Hold w.heap.size w' m [] ∧ Below w.heap.size w w' :=
  (new_any w).mono (by
    rintro e w' ⟨m, hm, rfl, hM, fr⟩
    exact ⟨m, rfl, ⟨.nil, hM, rfl, List.Pairwise.nil, by simp [Kn.bs]; exact hm⟩, fr.below (by simp) (Nat.le_refl _)⟩)
theorem hold_put {base : Nat} {w : World} {m : Nat} {L : List (ByteArray × Int)} (h : Hold base w m L) (hb : base ≤ w.heap.size) (hl : L.length < 1000000) (k : ByteArray) (v : Int) :
    Calls Try.prog 27 #[.pointer (some ⟨m, 0, none⟩), .string k, .int .i64 v] w fun e w' => e = .returned (.bool (decide (L.length < (ins lt k v L).length))) ∧ Hold base w' m (ins lt k v L) ∧ Below base w w' := by
  obtain ⟨T, hM, rfl, hr, hB⟩ := h
  have hc := Kn.cnt_len T
  refine (mput_any k v hM (by omega)).mono ?_
  rintro e w' ⟨nb, hnb, rfl, hM', fr⟩
  have ht := put_toL lin nb k v T hr
  refine ⟨?_, ⟨_, hM', ht, ins_rise lin k v hr, fun x hx => ?_⟩, fr.below hB hb⟩
  · rw [Kn.cnt_len, Kn.cnt_len, ht]
    congr 3
    apply propext
    constructor <;> intro h <;> omega
  · rcases List.mem_cons.1 hx with rfl | hx
    · exact hB _ List.mem_cons_self
    · rcases Kn.put_mem hx with e | e
      · omega
      · exact hB _ (List.mem_cons_of_mem _ e)
theorem hold_at {base : Nat} {w : World} {m : Nat} {L : List (ByteArray × Int)} (h : Hold base w m L) (hl : L.length < 1000000) (i : Int) :
    Calls Try.prog 23 #[.pointer (some ⟨m, 0, none⟩), .int .i64 i] w fun e w' => e = .returned (.tuple #[.string (atL i L).1, .int .i64 (atL i L).2.1, .bool (atL i L).2.2]) ∧ ∃ nd, w' = w.drewN nd := by
  obtain ⟨T, hM, rfl, hr, hB⟩ := h
  have hc := Kn.cnt_len T
  exact at_any i hM (by omega)
theorem hold_len {base : Nat} {w : World} {m : Nat} {L : List (ByteArray × Int)} (h : Hold base w m L) :
    Calls Try.prog 20 #[.pointer (some ⟨m, 0, none⟩)] w fun e w' => e = .returned (.int .i64 L.length) ∧ w' = w := by
  obtain ⟨T, hM, rfl, hr, hB⟩ := h
  have := len_any hM
  rw [Kn.cnt_len] at this
  exact this
theorem hold_place {base : Nat} {w : World} {m : Nat} {L : List (ByteArray × Int)} (h : Hold base w m L) (hl : L.length < 1000000) (k : ByteArray) :
    Calls Try.prog 24 #[.pointer (some ⟨m, 0, none⟩), .string k] w fun e w' => e = .returned (.int .i64 ((L.filter (fun x => lt x.1 k)).length : Nat)) ∧ w' = w := by
  obtain ⟨T, hM, rfl, hr, hB⟩ := h
  have hc := Kn.cnt_len T
  have := place_any k hM (by omega)
  rw [place_len lin k T hr] at this
  exact this
theorem hold_all {base : Nat} {w : World} {m : Nat} {L : List (ByteArray × Int)} (h : Hold base w m L) (hl : L.length < 1000000) :
    Calls Try.prog 22 #[.pointer (some ⟨m, 0, none⟩)] w fun e w' => ∃ v, e = .returned v ∧ Row w' v L ∧ Below w.heap.size w w' := by
  obtain ⟨T, hM, rfl, hr, hB⟩ := h
  refine (lawall_any (p := some ⟨m, 0, none⟩) ⟨rfl, hM⟩ (by rw [walkA_toL]; omega)).mono ?_
  rintro e w' ⟨v, rfl, hR, b⟩
  rw [walkA_toL] at hR
  exact ⟨v, rfl, ⟨_, hR⟩, b⟩
theorem hold_from {base : Nat} {w : World} {m : Nat} {L : List (ByteArray × Int)} (h : Hold base w m L) (hl : L.length < 1000000) (k : ByteArray) :
    Calls Try.prog 16 #[.pointer (some ⟨m, 0, none⟩), .string k] w fun e w' => ∃ v, e = .returned v ∧ Row w' v (L.filter (fun x => !lt x.1 k)) ∧ Below w.heap.size w w' := by
  obtain ⟨T, hM, rfl, hr, hB⟩ := h
  have := List.length_filter_le (fun x : ByteArray × Int => !lt x.1 k) T.toL
  refine (lawfrom_any (p := some ⟨m, 0, none⟩) k ⟨rfl, hM⟩ (by rw [walkB_toL k T hr]; omega)).mono ?_
  rintro e w' ⟨v, rfl, hR, b⟩
  rw [walkB_toL k T hr] at hR
  exact ⟨v, rfl, ⟨_, hR⟩, b⟩
theorem stepM_len (o : Int) (key tt : ByteArray) (n : Int) (L : List (ByteArray × Int)) (h : Rise lt L) : (stepM o key tt n L).length ≤ L.length + 1 := by
  unfold stepM
  split
  · have := (ins_len key n L h).1; split at this <;> omega
  · split
    · have := List.length_filter_le (fun x : ByteArray × Int => lt x.1 key || lt key x.1) L; unfold del; omega
    · split
      · have := List.length_filter_le (fun x : ByteArray × Int => lt x.1 key || !lt x.1 tt) L; unfold cutM; omega
      · omega
theorem hold_step {base : Nat} {w : World} {m : Nat} {L : List (ByteArray × Int)} {v : Value} (h : Hold base w m L) (hb : base ≤ w.heap.size) (hl : L.length < 999999) (hv : Row w v L) (o : Int) (key tt : ByteArray) (n : Int) :
    Calls Try.prog 19 #[.pointer (some ⟨m, 0, none⟩), v, .agg #[.int .i64 o, .string key, .string tt, .int .i64 n]] w fun e w' =>
      ∃ v', e = .returned (.tuple #[v', .bool true]) ∧ Hold base w' m (stepM o key tt n L) ∧ Row w' v' (stepM o key tt n L) ∧ (stepM o key tt n L).length ≤ L.length + 1 ∧ Below base w w' := by
  obtain ⟨T, hM, rfl, hr, hB⟩ := h
  have hc := Kn.cnt_len T
  refine (step_any hM hr (by omega) hv o key tt n).mono ?_
  rintro e w' ⟨v', T', rfl, hT, hr', hc', hM', hv', fr, hn⟩
  rw [← hT]
  refine ⟨v', rfl, ⟨T', hM', rfl, hr', fun x hx => ?_⟩, hv', by have := Kn.cnt_len T'; omega, fr.below hB hb⟩
  rcases List.mem_cons.1 hx with rfl | hx
  · exact hB _ List.mem_cons_self
  · rcases hn x hx with e | e
    · exact hB _ (List.mem_cons_of_mem _ e)
    · omega
abbrev sA : ByteArray := ⟨#[97]⟩
abbrev sB : ByteArray := ⟨#[98]⟩
theorem lt_AB : lt sA sB = true := by unfold lt; rw [Lib.toList_data, Lib.toList_data]; rfl
theorem live_any (w : World) : Calls Try.prog 13 #[] w fun e w' => e = .returned (.bool true) ∧ Below w.heap.size w w' := by
  have l1 : ins lt sB (1 : Int) [] = [(sB, 1)] := by simp [ins]
  have l2 : ins lt sA (2 : Int) [(sB, 1)] = [(sA, 2), (sB, 1)] := by simp only [ins, List.filter_cons, List.filter_nil, lt_AB, lin.asym lt_AB]; rfl
  have l3 : ins lt sB (3 : Int) [(sA, 2), (sB, 1)] = [(sA, 2), (sB, 3)] := by simp only [ins, List.filter_cons, List.filter_nil, lt_AB, lin.asym lt_AB, lin.irr]; rfl
  have NW := (hold_new w).mono (R' := fun e w1 => ∃ m, e = .returned (.pointer (some ⟨m, 0, none⟩)) ∧
      Calls Try.prog 27 #[.pointer (some ⟨m, 0, none⟩), .string sB, .int .i64 1] w1 fun e w2 => e = .returned (.bool true) ∧
      Calls Try.prog 27 #[.pointer (some ⟨m, 0, none⟩), .string sA, .int .i64 2] w2 fun e w3 => e = .returned (.bool true) ∧
      Calls Try.prog 27 #[.pointer (some ⟨m, 0, none⟩), .string sB, .int .i64 3] w3 fun e w4 => e = .returned (.bool false) ∧
      Calls Try.prog 23 #[.pointer (some ⟨m, 0, none⟩), .int .i64 1] w4 fun e w5 => e = .returned (.tuple #[.string sB, .int .i64 3, .bool true]) ∧
      Calls Try.prog 20 #[.pointer (some ⟨m, 0, none⟩)] w5 fun e w6 => e = .returned (.int .i64 2) ∧
      Calls Try.prog 24 #[.pointer (some ⟨m, 0, none⟩), .string sB] w6 fun e w7 => e = .returned (.int .i64 1) ∧ Below w.heap.size w w7) (by
    rintro e w1 ⟨m, rfl, h1, b1⟩
    refine ⟨m, rfl, (hold_put h1 b1.size (by simp) sB 1).mono ?_⟩
    rintro e w2 ⟨rfl, h2, b2⟩
    rw [l1] at h2 ⊢
    refine ⟨rfl, (hold_put h2 (Nat.le_trans b1.size b2.size) (by simp) sA 2).mono ?_⟩
    rintro e w3 ⟨rfl, h3, b3⟩
    rw [l2] at h3 ⊢
    have b123 := (b1.trans b2).trans b3
    refine ⟨rfl, (hold_put h3 b123.size (by simp) sB 3).mono ?_⟩
    rintro e w4 ⟨rfl, h4, b4⟩
    rw [l3] at h4 ⊢
    have b4 := b123.trans b4
    refine ⟨rfl, (hold_at h4 (by simp) 1).mono ?_⟩
    rintro e w5 ⟨rfl, nd, rfl⟩
    have b5 := pw_below_drewN b4 nd
    have h5 := h4.below (pw_below_drewN (Below.refl _ _) nd)
    refine ⟨rfl, (hold_len h5).mono ?_⟩
    rintro e w6 ⟨rfl, rfl⟩
    refine ⟨rfl, (hold_place h5 (by simp) sB).mono ?_⟩
    rintro e w7 ⟨rfl, rfl⟩
    refine ⟨?_, b5⟩
    simp only [List.filter_cons, List.filter_nil, lt_AB, lin.irr]; rfl)
  clear l1 l2 l3
  go_enter Try.func13, Try.ntmps13
  go_wp2_with (first
    | (go_at_call 18; refine NW.mono ?_; clear NW; rintro e w1 ⟨m, rfl, P1⟩)
    | (go_at_call 27; refine P1.mono ?_; clear P1; rintro e w2 ⟨rfl, P2⟩)
    | (go_at_call 27; refine P2.mono ?_; clear P2; rintro e w3 ⟨rfl, P3⟩)
    | (go_at_call 27; refine P3.mono ?_; clear P3; rintro e w4 ⟨rfl, P4⟩)
    | (go_at_call 23; refine P4.mono ?_; clear P4; rintro e w5 ⟨rfl, P5⟩)
    | (go_at_call 20; refine P5.mono ?_; clear P5; rintro e w6 ⟨rfl, P6⟩)
    | (go_at_call 24; refine P6.mono ?_; clear P6; rintro e w7 ⟨rfl, b7⟩))
  go_ret
  exact ⟨rfl, b7⟩
end Go.Proofs.Ytdbkjpnejihnhaa.OrdSi
