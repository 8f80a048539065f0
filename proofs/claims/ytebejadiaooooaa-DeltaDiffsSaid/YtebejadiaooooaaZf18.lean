/- Texts of one claim (laid by shake.py). -/
import Derived.Test.YtebejadiaooooaaZf17
set_option linter.unusedVariables false
set_option linter.unusedSimpArgs false
section
namespace Go.Proofs.Ytebejadiaooooaa.OrdSb
open Go.RowKit Go.Proofs.YtebejadiaooooaaW.PrintWords Go.Proofs.YtebejadiaooooaaW.PrintLast Go.Proofs.YtebejadiaooooaaW.PrintMore Go.Proofs.Ytebejadiaooooaa.Own Go.Proofs.Ytebejadiaooooaa.Ord
abbrev lt (a b : ByteArray) : Bool := Op.bytesLess a.toList b.toList
set_option maxHeartbeats 2000000
set_option maxRecDepth 100000
theorem nan_any (x : ByteArray) (w : World) : Calls Try.prog 134 #[.string x] w fun e w' => e = .returned (.bool false) ∧ w' = w := by
  go_enter Try.func134, Try.ntmps134
  go_wp2
  go_ret
  simp
theorem cmp_any (x y : ByteArray) (w : World) : Calls Try.prog 125 #[.string x, .string y] w fun e w' => e = .returned (.int .i64 (Kn.cmpK lt x y)) ∧ w' = w := by
  unfold Kn.cmpK
  by_cases h1 : lt x y = true
  · rw [if_pos h1]
    go_enter Try.func125, Try.ntmps125
    go_wp2_with (go_at_call 134; refine (nan_any _ _).mono ?_; rintro e w1 ⟨rfl, rfl⟩)
    go_ret
    simp
  · rw [if_neg h1]
    by_cases h2 : lt y x = true
    · rw [if_pos h2]
      go_enter Try.func125, Try.ntmps125
      go_wp2_with (go_at_call 134; refine (nan_any _ _).mono ?_; rintro e w1 ⟨rfl, rfl⟩)
      go_ret
      simp
    · rw [if_neg h2]
      go_enter Try.func125, Try.ntmps125
      go_wp2_with (go_at_call 134; refine (nan_any _ _).mono ?_; rintro e w1 ⟨rfl, rfl⟩)
      go_ret
      simp
theorem put_any (key : ByteArray) (val : Bool) (T : Kn ByteArray Bool) : ∀ w : World, In w T → T.bs.Nodup → T.cnt + 1 < 4611686018427387904 →
    Calls Try.prog 104 #[.pointer T.adr, .string key, .bool val] w fun e w' => ∃ nb, w.heap.size ≤ nb ∧ e = .returned (.pointer (Kn.put lt nb key val T).adr) ∧ In w' (Kn.put lt nb key val T) ∧ Fr T.bs w w' := by
  induction T with
  | nil =>
    intro w _ _ _
    show Calls Try.prog 104 #[.pointer none, .string key, .bool val] w _
    have W1 := fresh_top (l := .nil) (r := .nil) (w := w.alloc (.cells #[.string key, .bool val, .pointer none, .pointer none, .int .i64 0, .int .i64 0] 139)) (b := w.heap.size) (k := key) (v := val) ⟨0, 0, blk_new _ _⟩ trivial trivial (by simp [Kn.bs]) (by simp [Kn.bs]) (by simp [Kn.cnt])
    go_enter Try.func104, Try.ntmps104
    go_wp2_with (go_at_call 124; refine W1.mono ?_; clear W1; rintro e w1 ⟨rfl, hi, fr⟩)
    go_ret
    exact ⟨w.heap.size, Nat.le_refl _, rfl, hi, ((Fr.refl _ _).alloc _).trans fr (fun x hx => .inr (by simp at hx; omega))⟩
  | node b k v l r ihl ihr =>
    intro w hin hnd hc
    have nbl : b ∉ l.bs := by simp only [Kn.bs, List.nodup_cons, List.mem_append, not_or] at hnd; exact hnd.1.1
    have nbr : b ∉ r.bs := by simp only [Kn.bs, List.nodup_cons, List.mem_append, not_or] at hnd; exact hnd.1.2
    have ndl : l.bs.Nodup := by simp only [Kn.bs, List.nodup_cons, List.nodup_append] at hnd; exact hnd.2.1
    have ndr : r.bs.Nodup := by simp only [Kn.bs, List.nodup_cons, List.nodup_append] at hnd; exact hnd.2.2.1
    have dj : ∀ x ∈ l.bs, x ∉ r.bs := fun x hx hr => by simp only [Kn.bs, List.nodup_cons, List.nodup_append] at hnd; exact hnd.2.2.2 x hx x hr rfl
    have hcl := Kn.bounds l
    have hcr := Kn.bounds r
    simp only [Kn.cnt] at hc
    have h1 := Top.of_in hin
    have ltw := in_lt hin
    have il := hin.2.1
    have ir := hin.2.2
    obtain ⟨c10, c11, c12, c13, f11, f12, f13⟩ := h1.cells
    show Calls Try.prog 104 #[.pointer (some ⟨b, 0, none⟩), .string key, .bool val] w _
    by_cases hA : lt key k = true
    · have hcmp : ∀ W, Calls Try.prog 125 #[.string key, .string k] W fun e w' => e = .returned (.int .i64 (-1)) ∧ w' = W := fun W => by
        have := cmp_any key k W; unfold Kn.cmpK at this; rw [if_pos hA] at this; exact this
      clear hin
      go_enter Try.func104, Try.ntmps104
      go_wp2_with (first
        | (go_at_call 125; refine (hcmp _).mono ?_; rintro e w1 ⟨rfl, hw⟩; obtain rfl := hw.symm)
        | (go_at_call 104
           refine (ihl _ il ndl (by omega)).mono ?_
           rintro e w2 ⟨nb, hnb, rfl, hi, fr⟩
           have h2 := h1.fr fr nbl
           have io2 := in_fr fr ir (fun x hx hm => dj x hm hx)
           obtain ⟨c20, c21, c22, c23, f21, f22, f23⟩ := h2.cells
           have bP : b ∉ (Kn.put lt nb key val l).bs := fun h => by
             rcases Kn.put_mem h with e | e
             · have := ltw b (by simp [Kn.bs]); omega
             · exact nbl e
           have nP : nb ∉ (Kn.node b k v l r).bs := fun h => by have := ltw nb h; omega
           have W3 := even_any (h2.low (Kn.put lt nb key val l).adr) (set_in hi bP 2 _) (set_in io2 nbr 2 _) (Kn.put_left_nodup hnd nP) (by have := Kn.put_cnt lt nb key val l; simp only [Kn.cnt]; omega)
           have fr2 : Fr (Kn.node b k v l r).bs w (w2.setCell ⟨b, 2, none⟩ (.pointer (Kn.put lt nb key val l).adr)) :=
             (fr.wide (fun x hx => .inl (List.mem_cons_of_mem _ (List.mem_append_left _ hx)))).set (.inl (by simp [Kn.bs])) _
           clear hi io2)
        | (go_at_call 126
           refine W3.mono ?_
           clear W3
           rintro e w4 ⟨rfl, hi4, fr4⟩))
      go_ret
      have e : Kn.put lt nb key val (.node b k v l r) = Kn.even b k v (Kn.put lt nb key val l) r := by simp only [Kn.put]; rw [if_pos hA]
      refine ⟨nb, ?_⟩
      rw [e]
      exact ⟨hnb, rfl, hi4, fr2.trans fr4 (fun x hx => by
        simp only [Kn.bs, List.mem_cons, List.mem_append] at hx ⊢
        rcases hx with hx | hx | hx
        · exact .inl (.inl hx)
        · rcases Kn.put_mem hx with e | e; exact .inr (by omega); exact .inl (.inr (.inl e))
        · exact .inl (.inr (.inr hx)))⟩
    · by_cases hB : lt k key = true
      · have hcmp : ∀ W, Calls Try.prog 125 #[.string key, .string k] W fun e w' => e = .returned (.int .i64 1) ∧ w' = W := fun W => by
          have := cmp_any key k W; unfold Kn.cmpK at this; rw [if_neg hA, if_pos hB] at this; exact this
        clear hin
        go_enter Try.func104, Try.ntmps104
        go_wp2_with (first
          | (go_at_call 125; refine (hcmp _).mono ?_; rintro e w1 ⟨rfl, hw⟩; obtain rfl := hw.symm)
          | (go_at_call 104
             refine (ihr _ ir ndr (by omega)).mono ?_
             rintro e w2 ⟨nb, hnb, rfl, hi, fr⟩
             have h2 := h1.fr fr nbr
             have io2 := in_fr fr il (fun x hx hm => dj x hx hm)
             obtain ⟨c20, c21, c22, c23, f21, f22, f23⟩ := h2.cells
             have bP : b ∉ (Kn.put lt nb key val r).bs := fun h => by
               rcases Kn.put_mem h with e | e
               · have := ltw b (by simp [Kn.bs]); omega
               · exact nbr e
             have nP : nb ∉ (Kn.node b k v l r).bs := fun h => by have := ltw nb h; omega
             have W3 := even_any (h2.high (Kn.put lt nb key val r).adr) (set_in io2 nbl 3 _) (set_in hi bP 3 _) (Kn.put_right_nodup hnd nP) (by have := Kn.put_cnt lt nb key val r; simp only [Kn.cnt]; omega)
             have fr2 : Fr (Kn.node b k v l r).bs w (w2.setCell ⟨b, 3, none⟩ (.pointer (Kn.put lt nb key val r).adr)) :=
               (fr.wide (fun x hx => .inl (List.mem_cons_of_mem _ (List.mem_append_right _ hx)))).set (.inl (by simp [Kn.bs])) _
             clear hi io2)
          | (go_at_call 126
             refine W3.mono ?_
             clear W3
             rintro e w4 ⟨rfl, hi4, fr4⟩))
        go_ret
        have e : Kn.put lt nb key val (.node b k v l r) = Kn.even b k v l (Kn.put lt nb key val r) := by simp only [Kn.put]; rw [if_neg hA, if_pos hB]
        refine ⟨nb, ?_⟩
        rw [e]
        exact ⟨hnb, rfl, hi4, fr2.trans fr4 (fun x hx => by
          simp only [Kn.bs, List.mem_cons, List.mem_append] at hx ⊢
          rcases hx with hx | hx | hx
          · exact .inl (.inl hx)
          · exact .inl (.inr (.inl hx))
          · rcases Kn.put_mem hx with e | e; exact .inr (by omega); exact .inl (.inr (.inr e)))⟩
      · have hcmp : ∀ W, Calls Try.prog 125 #[.string key, .string k] W fun e w' => e = .returned (.int .i64 0) ∧ w' = W := fun W => by
          have := cmp_any key k W; unfold Kn.cmpK at this; rw [if_neg hA, if_neg hB] at this; exact this
        have hbl := hin.1
        clear ihl ihr h1 hin
        go_enter Try.func104, Try.ntmps104
        go_wp2_with (go_at_call 125; refine (hcmp _).mono ?_; rintro e w1 ⟨rfl, hw⟩; obtain rfl := hw.symm)
        go_ret
        have e : Kn.put lt w.heap.size key val (.node b k v l r) = .node b k val l r := by simp only [Kn.put]; rw [if_neg hA, if_neg hB]
        have f0 : ∀ u, Fr [b] w (w.setCell ⟨b, 1, none⟩ u) := fun u => (Fr.refl _ _).set (.inl (by simp)) u
        refine ⟨w.heap.size, Nat.le_refl _, ?_⟩
        rw [e]
        exact ⟨rfl, ⟨blk_put hbl 1 _ rfl, in_fr (f0 _) il (fun x hx => by simp; rintro rfl; exact nbl hx), in_fr (f0 _) ir (fun x hx => by simp; rintro rfl; exact nbr hx)⟩, (f0 _).wide (fun x hx => .inl (by simp at hx; simp [Kn.bs, hx]))⟩
end Go.Proofs.Ytebejadiaooooaa.OrdSb
end
section
namespace Go.Proofs.Ytebejadiaooooaa.OrdSb
open Go.RowKit Go.Proofs.YtebejadiaooooaaW.PrintWords Go.Proofs.YtebejadiaooooaaW.PrintLast Go.Proofs.YtebejadiaooooaaW.PrintMore Go.Proofs.Ytebejadiaooooaa.Own Go.Proofs.Ytebejadiaooooaa.Ord
set_option maxHeartbeats 2000000
set_option maxRecDepth 100000
structure Mp (w : World) (m : Nat) (T : Kn ByteArray Bool) : Prop where
  blk : w.heap[m]? = some (.cells #[.pointer T.adr] 116 (0, 0))
  inn : In w T
  nd : T.bs.Nodup
theorem Mp.ne {w : World} {m : Nat} {T : Kn ByteArray Bool} (h : Mp w m T) : m ∉ T.bs := fun hm => by
  obtain ⟨cells, hc⟩ := in_typed h.inn m hm
  rw [h.blk] at hc
  injection hc with hc
  injection hc with _ hc
  exact absurd hc (by decide)
theorem Mp.fr {w w' : World} {m : Nat} {T : Kn ByteArray Bool} {B : List Nat} (h : Mp w m T) (f : Fr B w w') (hm : m ∉ B) (hn : ∀ x ∈ T.bs, x ∉ B) : Mp w' m T := ⟨f.blk h.blk hm, in_fr f h.inn hn, h.nd⟩
theorem Mp.below {w w' : World} {m : Nat} {T : Kn ByteArray Bool} (h : Mp w m T) (f : Below w.heap.size w w') : Mp w' m T := h.fr (B := []) (Fr.of_below f) (by simp) (by simp)
theorem new_any (w : World) : Calls Try.prog 68 #[] w fun e w' => ∃ m, w.heap.size ≤ m ∧ e = .returned (.pointer (some ⟨m, 0, none⟩)) ∧ Mp w' m .nil ∧ Fr [] w w' := by
  go_enter Try.func68, Try.ntmps68
  go_wp2
  go_ret
  exact ⟨w.heap.size, Nat.le_refl _, rfl, ⟨blk_new _ _, trivial, by simp [Kn.bs]⟩, (Fr.refl _ _).alloc _⟩
theorem len_any {w : World} {m : Nat} {T : Kn ByteArray Bool} (h : Mp w m T) : Calls Try.prog 103 #[.pointer (some ⟨m, 0, none⟩)] w fun e w' => e = .returned (.int .i64 T.cnt) ∧ w' = w := by
  have c0 : w.cell? ⟨m, 0, none⟩ = some (.pointer T.adr) := blk_cell h.blk 0
  have W1 := size_any T w h.inn
  go_enter Try.func103, Try.ntmps103
  go_wp2_with (go_at_call 123; refine W1.mono ?_; clear W1; rintro e w1 ⟨rfl, rfl⟩)
  go_ret
  exact ⟨rfl, rfl⟩
theorem mput_any (key : ByteArray) (val : Bool) {w : World} {m : Nat} {T : Kn ByteArray Bool} (h : Mp w m T) (hc : T.cnt + 1 < 4611686018427387904) :
    Calls Try.prog 70 #[.pointer (some ⟨m, 0, none⟩), .string key, .bool val] w fun e w' => ∃ nb, w.heap.size ≤ nb ∧ e = .returned (.bool (decide (T.cnt < (Kn.put lt nb key val T).cnt))) ∧ Mp w' m (Kn.put lt nb key val T) ∧ Fr (m :: T.bs) w w' := by
  have c0 : w.cell? ⟨m, 0, none⟩ = some (.pointer T.adr) := blk_cell h.blk 0
  have f0 := blk_frozen h.blk 0
  have L0 := len_any h
  have hlt := in_lt h.inn
  have hmlt := blk_lt h.blk
  have W1 := (put_any key val T w h.inn h.nd hc).mono (R' := fun e w2 => ∃ nb, w.heap.size ≤ nb ∧ e = .returned (.pointer (Kn.put lt nb key val T).adr) ∧ w2.cell? ⟨m, 0, none⟩ = some (.pointer T.adr) ∧ w2.frozen? ⟨m, 0, none⟩ = false ∧ Mp (w2.setCell ⟨m, 0, none⟩ (.pointer (Kn.put lt nb key val T).adr)) m (Kn.put lt nb key val T) ∧ Fr (m :: T.bs) w (w2.setCell ⟨m, 0, none⟩ (.pointer (Kn.put lt nb key val T).adr))) (by
    rintro e w2 ⟨nb, hnb, rfl, hi, fr⟩
    have hb := fr.blk h.blk h.ne
    have mP : m ∉ (Kn.put lt nb key val T).bs := fun hm => by rcases Kn.put_mem hm with e | e; omega; exact h.ne e
    refine ⟨nb, hnb, rfl, blk_cell hb 0, blk_frozen hb 0, ⟨blk_put hb 0 _ rfl, set_in hi mP 0 _, Kn.put_nodup h.nd (fun hm => by have := hlt nb hm; omega)⟩, ?_⟩
    exact (fr.wide (fun x hx => .inl (List.mem_cons_of_mem _ hx))).set (.inl List.mem_cons_self) _)
  clear h
  go_enter Try.func70, Try.ntmps70
  go_wp2_with (first
    | (go_at_call 103; refine L0.mono ?_; clear L0; rintro e w1 ⟨rfl, hw⟩; obtain rfl := hw.symm)
    | (go_at_call 104
       refine W1.mono ?_
       clear W1
       rintro e w2 ⟨nb, hnb, rfl, c2, f2, hm2, fr2⟩
       have L2 := len_any hm2)
    | (go_at_call 103; refine L2.mono ?_; clear L2; rintro e w3 ⟨rfl, hw⟩; obtain rfl := hw.symm))
  go_ret
  exact ⟨nb, hnb, rfl, hm2, fr2⟩
end Go.Proofs.Ytebejadiaooooaa.OrdSb
end
