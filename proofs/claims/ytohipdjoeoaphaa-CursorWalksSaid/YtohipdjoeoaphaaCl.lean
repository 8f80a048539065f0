/- CursorWalks, its loop walked. -/
import Derived.Test.YtohipdjoeoaphaaCk
set_option linter.unusedVariables false
set_option linter.unusedSimpArgs false
namespace Go.Proofs.Ytohipdjoeoaphaa.Cur
open Go Go.RowKit Go.Maps Go.Proofs.YtohipdjoeoaphaaW.PrintWords Go.Proofs.YtohipdjoeoaphaaW.PrintLast Go.Proofs.YtohipdjoeoaphaaW.PrintMore Go.Proofs.Ytohipdjoeoaphaa.Own Go.Proofs.Ytohipdjoeoaphaa.Ord Go.Proofs.Ytohipdjoeoaphaa.P
set_option maxHeartbeats 4000000
set_option maxRecDepth 100000
theorem walks_rise {w : World} {A : Option Addr} {c : Nat} {e : List En} (f t : ByteArray) (most : Int) (hm0 : 0 ≤ most) (hm1 : most ≤ 255) (hr : rrB f t = true) (hC : Kd.C P.k39 w A e.length e) (hcap : e.length ≤ c) (hsz : ∀ x ∈ e, x.f0.size ≤ 140737488351232) (hE : P.risesV (e.take 60) = true) :
    Calls Try.prog 4 #[.slice A e.length c, .agg #[.string f, .string t], .int .u8 most] w fun e w' => e = .returned (.bool true) ∧ Below w.heap.size w w' := by
  have hur := Try.underlying23
  have hmax := Kd.C_max hC
  have hB0 : Below w.heap.size w (w.alloc (.cells #[.string f, .string t] 23)) := below_alloc (Below.refl _ _) _
  have hx0 := blk_new w (.cells #[.string f, .string t] 23)
  have NW := new_ex (w.alloc (.cells #[.string f, .string t] 23))
  rw [World.size_alloc] at NW
  have hcA : Aside (1 = (if ((fun _ => none : Int → Option X) (0 + 1)).isSome then 0 else 0 + 1)) := rfl
  obtain ⟨E, hEe⟩ : ∃ E, E = e.take (min e.length 60) := ⟨_, rfl⟩
  have hEt : E = e.take 60 := by
    rw [hEe]
    rcases Nat.le_total e.length 60 with h | h
    · rw [Nat.min_eq_left h, List.take_length, List.take_of_length_le h]
    · rw [Nat.min_eq_right h]
  have hEl : E.length = min e.length 60 := by rw [hEe, List.length_take]; omega
  have hCE : Kd.C P.k39 w A E.length E := by rw [hEe]; exact Kd.C_take hC (Nat.min_le_left _ _)
  have hszE : Aside (∀ x ∈ E, x.f0.size ≤ 140737488351232) := fun x hx => hsz x (by rw [hEt] at hx; exact List.mem_of_mem_take hx)
  rw [← hEt] at hE
  have hmin := min60 e.length E.length hEl
  have hmc : (E.length : Int) ≤ (c : Int) := by omega
  have hcE : Aside (E.length ≤ c ∧ E.length ≤ 60) := by show _ ∧ _; omega
  have RI := P.Rises_eq 1000 E (by omega) (by omega)
  rw [hE] at RI
  have hst : Aside (WInv f t E (f, t, false) [] ∧ rem t E (f, t, false) ≤ 61) := ⟨WInv.start f t E hr, rem_start f t E (by omega)⟩
  have hEA : Aside (P.risesV E = true) := hE
  have hrA : Aside (rrB f t = true) := hr
  clear hEt hEe hEl hE hC hsz
  go_enter Try.func4, Try.ntmps4
  go_wp2_with (first
    | (go_at_call 5; refine NW.mono ?_; clear NW; rintro e w1 ⟨p, b, rfl, hp, hb, hT1, hB1⟩; have hO := open_yes hT1 (by omega) (by omega) (by omega) f t hr hcA; have hx1 := blk_below hx0 (by rw [World.size_alloc]; exact hB1); have hB2 := below_step hB0 (by rw [World.size_alloc]; exact hB1); have c0 := blk_cell hx1 0; have c1 := blk_cell hx1 1; simp at c0 c1; clear hT1 hB0 hB1 hx0 hmin hr)
    | (go_at_call 6; refine hO.mono ?_; clear hO; rintro e w2 ⟨rfl, hT2, f2⟩; have hM : Mid w p b f t (f, t, false) (.slice none 0 0) [] 1 w2 := ⟨f2.blk hx1 (by simp; omega), ⟨_, upd_same _ _ _, hT2⟩, Kd.R_nil _ _ _ _ _, ((Fr.of_below (B := []) hB2).trans f2 (fun x hx => .inr (by simp at hx; omega))).below (by simp) (Nat.le_refl _), by omega⟩; have hC2 := Kd.C_below hCE hM.bel; clear hx1 hB2 hT2 f2 c0 c1)
    | (go_at_call 11; refine (catchmentref05_Rises.calls _ A c E true _ hC2 hcE.out.1 RI).mono ?_; rintro e w3 ⟨rfl, hD⟩; have hM3 := hM.below hD.below; clear hD hM hC2))
  clear hcA RI hmc hp hb
  go_loopg [11, 12] 70 (fun g tv iv wr => ∃ (i : Int) (T : List En) (x : X) (n : Nat), iv = .int .i64 i ∧ Aside (0 ≤ i ∧ i.toNat + g = 70 ∧ n ≤ i.toNat + 1 ∧ i.toNat + rem t E x ≤ 61 ∧ WInv f t E x T) ∧ Mid w p b f t x tv T n wr)
  case atStart => exact ⟨0, [], _, 1, rfl, ⟨Int.le_refl _, rfl, by simp, by simpa using hst.out.2, hst.out.1⟩, hM3⟩
  case round =>
    clear hM3 hst
    obtain ⟨i, T, x, n, rfl, hA, hM⟩ := hrel
    obtain ⟨h0, hg, hn, hf, hI⟩ := hA.out
    obtain ⟨A8, c8, rfl⟩ := Kd.R_slice hM.row
    have hTl := hI.len
    cases gk with
    | zero => omega
    | succ g =>
      have h70 : i < 70 := by omega
      have d0 := decide_eq_true h0
      have d1 := decide_eq_true h70
      have hwi : wrap64 (i + 1) = i + 1 := IntWalk.wrap64_in _ (by omega)
      have hEl := hcE.out.2
      obtain ⟨gx, tx, dx⟩ := x
      have hLf := hM.left
      cases dx with
      | true =>
        obtain rfl : T = P.ents f t E := hI.off rfl
        have EN : catchmentref05_Entries.f 1000 [] E f t = some (P.ents f t E) := (P.Entries_eq 1000 [] E f t (by simp) (by omega) (by simp) (by simp; omega)).trans (by rw [P.entriesV_nil E f t hEA.out ((rr_P f t).trans hrA.out)])
        have SM : catchmentref05_Same.f 1000 (P.ents f t E) (P.ents f t E) = some true := (P.Same_eq 1000 _ _ (by omega) (by omega)).trans (by rw [P.sameE_iff.2 rfl])
        have hCEA := Aside0.mk hCE
        have LV := fun W => live_any W
        clear hg hn hf hI hA hM hTl hEl h0 h70 hcap hwi hCE
        go_wp2_with (first
          | (go_at_call 12; refine hLf.mono ?_; clear hLf; rintro e w3 ⟨rfl, hM3, hB3⟩; have hM4 := Aside0.mk (hM3.below (below_alloc (Below.refl _ _) (.cells #[.string gx, .string tx] 23))); clear hM3 hB3)
          | (go_at_call 7; refine (LV _).mono ?_; clear LV; rintro e w5 ⟨rfl, hB5⟩; have hM5 := Aside0.mk (hM4.out.below hB5); have hbx := hM5.out.box; have b0 := blk_cell hbx 0; have b1 := blk_cell hbx 1; simp at b0 b1; clear hB5 hM4)
          | (go_at_call 14; refine (catchmentref05_Entries.calls 1000 none 0 [] A c E f t (P.ents f t E) _ (Kd.C_nil _ _) (Nat.le_refl _) (Kd.C_below hCEA.out hM5.out.bel) hcE.out.1 EN).mono ?_; clear EN; rintro e w6 ⟨v6, rfl, hR6, hB6⟩; obtain ⟨A6, c6, rfl⟩ := Kd.R_slice hR6; have hM6 := Aside0.mk (hM5.out.below hB6); have hR6A := Aside0.mk hR6; clear hB6 hR6)
          | (go_at_call 13; refine (catchmentref05_Same.calls 1000 A8 c8 (P.ents f t E) A6 c6 (P.ents f t E) true _ (Kd.R_reads' hM6.out.row).2.2 (Kd.R_reads' hM6.out.row).2.1 (Kd.R_reads' hR6A.out).2.2 (Kd.R_reads' hR6A.out).2.1 SM).mono ?_; clear SM; rintro e w7 ⟨rfl, hD7⟩; have hB7 := below_step hM6.out.bel hD7.below; clear hD7))
        go_ret
        exact ⟨rfl, hB7⟩
      | false =>
        have hon := hI.on rfl
        have hkk : 1 ≤ most % 9 + 1 ∧ most % 9 + 1 ≤ 9 := by omega
        obtain ⟨ee, x', htk, hI', hrem⟩ := hI.step hEA.out rfl (most % 9 + 1) hkk.1
        obtain ⟨L, hL⟩ : ∃ L, L = (P.ents gx t E).take (most % 9 + 1).toNat := ⟨_, rfl⟩
        have SO : catchmentref05_Some.f 1000 [] E gx tx (most % 9 + 1) = some L := (P.Some_eq 1000 [] E gx tx _ (by simp) (by omega) (by simp) (by simp; omega)).trans (by
          obtain rfl : tx = t := hon.1
          unfold P.someV
          rw [P.entriesV_nil E gx tx hEA.out hon.2.1, ← hL])
        have hLE : ∀ y ∈ L, y ∈ E := fun y hy => by rw [hL] at hy; exact (List.mem_filter.1 (show y ∈ List.filter (fun x => P.holds gx t x.f0) E from List.mem_of_mem_take hy)).1
        have hLl : L.length ≤ 9 := by rw [hL, List.length_take]; omega
        have htk' : tookV (some (gx, tx, false)) L (most % 9 + 1) = (ee, 0, some x') := by rw [hL]; exact htk
        have hI2 : WInv f t E x' (T ++ L) := by rw [hL]; exact hI'
        have hszL : ∀ y ∈ L, y.f0.size ≤ 140737488351232 := fun y hy => hszE.out y (hLE y hy)
        have hgA := Aside0.mk (And.intro (And.intro h0 hg) (And.intro (And.intro hn hTl) (And.intro (And.intro hf hrem) (And.intro hLl (And.intro hI2 (And.intro hszL htk'))))))
        have hCEA := Aside0.mk hCE
        have hcapA := Aside0.mk hcap
        clear hg hn hf hI hA hM hTl hEl h0 h70 hCE hon hI' hrem hL htk htk' hLE hLl hI2 hszL hcap
        go_wp2_with (first
          | (go_at_call 12; refine hLf.mono ?_; clear hLf; rintro e w3 ⟨rfl, hM3, hB3⟩; have hM4 := Aside0.mk (hM3.below (below_alloc (Below.refl _ _) (.cells #[.string gx, .string tx] 23))); have hbx := blk_new w3 (.cells #[.string gx, .string tx] 23); have b0 := blk_cell hbx 0; have b1 := blk_cell hbx 1; simp at b0 b1; clear hM3 hB3)
          | (go_at_call 15; refine (catchmentref05_Some.calls 1000 none 0 [] A c E gx tx _ L _ (Kd.C_nil _ _) (Nat.le_refl _) (Kd.C_below hCEA.out hM4.out.bel) hcE.out.1 SO).mono ?_; clear SO; rintro e w6 ⟨v6, rfl, hR6, hB6⟩; obtain ⟨A6, c6, rfl⟩ := Kd.R_slice hR6; have hM6 := Aside0.mk (hM4.out.below hB6); have hfr6 := hM4.out.fresh; have hR6A := Aside0.mk (Kd.R_mono (Kd.R_bound hR6) (fun k hk => hfr6 k hk.2.1)); clear hB6 hR6 hfr6 hM4)
          | (go_at_call 9; refine (hM6.out.took (by have := hgA.out; omega) (Kd.R_reads' hR6A.out).2.2 (Kd.R_reads' hR6A.out).2.1 (most % 9 + 1) hgA.out.2.2.2.2.2.1 (by have := hgA.out; omega)).mono ?_; rw [hgA.out.2.2.2.2.2.2]; rintro e w7 ⟨rfl, hM7, f7⟩; have hC7 := (Kd.R_reads' (Kd.R_step hR6A.out (fun k hk hlt => f7.block k hlt (by simpa using hk.2.1)))).2.2; have hc67 := Aside0.mk (Kd.R_reads' hR6A.out).2.1; have hro := hM7.row; clear f7 hR6A hM6)
          | (at_builtin; refine Kd.R_append_rows P.k39 (w0 := w) w.heap.size rfl _ _ 32 39 (.agg #[(.string ⟨#[]⟩), (.string ⟨#[]⟩)]) 32 rfl Try.underlying32 P.info39 rfl (by decide) (by omega) _ T L A6 L.length c6 (fun k => k ≠ p ∧ k ≠ b ∧ k ≠ w.heap.size) (fun _ => False) rfl rfl hro hC7 (fun y cs hy => by obtain rfl := P.k39_open hy; exact P.k39_mkM _ _ _ _) (fun _ hk => hk.elim) ?aF hM7.bel ?aS ?aL ?_; (case aL => have e1 := hgA.out; have e2 := hcE.out; omega); (case aS => exact hM7.bel.size); (case aF => exact hM7.fresh); intro v9 w9 ho9 hB9 hg9 hat9; have hM9 := hM7.grown hg9 ho9 hB9; clear hC7 hro hM7 ho9 hB9 hg9 hat9))
        go_roundg g
        case measure => omega
        case rel =>
          obtain ⟨⟨e0, eg⟩, ⟨en, eT⟩, ⟨ef, er⟩, el, eI, _⟩ := hgA.out
          exact ⟨i + 1, T ++ L, x', n + 1, by rw [hwi], ⟨by omega, by omega, by omega, by omega, eI⟩, hM9⟩
end Go.Proofs.Ytohipdjoeoaphaa.Cur
