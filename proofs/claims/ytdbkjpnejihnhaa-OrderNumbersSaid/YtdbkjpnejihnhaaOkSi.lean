/- The walks over a map [string, int]: copied, Fork. (Laid by inst.py out of inst/XOk.) -/
import Derived.Test.YtdbkjpnejihnhaaOjSi
set_option linter.unusedVariables false
set_option linter.unusedSimpArgs false
namespace Go.Proofs.Ytdbkjpnejihnhaa.OrdSi
open Go.RowKit Go.Shelf Go.Proofs.YtdbkjpnejihnhaaW.PrintWords Go.Proofs.YtdbkjpnejihnhaaW.PrintLast Go.Proofs.YtdbkjpnejihnhaaW.PrintMore Go.Proofs.Ytdbkjpnejihnhaa.Own Go.Proofs.Ytdbkjpnejihnhaa.Ord
attribute [local go_sem] Oper.semAt_some
set_option maxHeartbeats 2000000
set_option maxRecDepth 100000
-- COPY BEGIN
theorem copied_in (T : Kn ByteArray Int) : ∀ (n : Nat) (w : World), In w T →
    CallsIn Fence.wide n Try.prog 46 #[.pointer T.adr] w fun e w' => ∃ T', Kn.like T T' ∧ e = .returned (.pointer T'.adr) ∧ In w' T' ∧ T'.bs.Nodup ∧ (∀ x ∈ T'.bs, w.heap.size ≤ x) ∧ Below w.heap.size w w' := by
  induction T with
  | nil =>
    intro n w _
    show CallsIn Fence.wide n Try.prog 46 #[.pointer none] w _
    refine callsIn_of_wp Try.func46 rfl trivial ?_ rfl
    simp only [Try.ntmps46, List.size_toArray, List.length_cons, List.length_nil, Nat.reduceAdd, Nat.reduceSub, Array.replicate_succ, Array.replicate_zero, List.push_toArray, List.append_toArray, List.nil_append, List.cons_append]
    gi_wp2
    go_ret
    exact ⟨.nil, trivial, rfl, trivial, by simp [Kn.bs], by simp [Kn.bs], Below.refl _ _⟩
  | node b k v l r ihl ihr =>
    intro n w hin
    have hdd : ∀ k : Nat, (Fence.wide.depth.isSome = true → 1 ≤ k) := fun k h => by cases h
    have hbk := hin.1
    obtain ⟨c10, c11, c12, c13, _, _, _⟩ := (Top.of_in hin).cells
    have c14 : w.cell? ⟨b, 4, none⟩ = some (.int .i64 (Kn.node b k v l r).hgt) := blk_cell hin.1 4
    have c15 : w.cell? ⟨b, 5, none⟩ = some (.int .i64 (Kn.node b k v l r).cnt) := blk_cell hin.1 5
    show CallsIn Fence.wide n Try.prog 46 #[.pointer (some ⟨b, 0, none⟩)] w _
    refine callsIn_of_wp Try.func46 rfl trivial ?_ rfl
    simp only [Try.ntmps46, List.size_toArray, List.length_cons, List.length_nil, Nat.reduceAdd, Nat.reduceSub, Array.replicate_succ, Array.replicate_zero, List.push_toArray, List.append_toArray, List.nil_append, List.cons_append]
    gi_wp2
    obtain ⟨nb, hnb⟩ : ∃ nb, nb = w.heap.size := ⟨_, rfl⟩
    rw [← hnb]
    refine wpIn_region_any (by kernel_rfl) ?_
    change wpAnyIn _ _ _ _ _ _ _ _ _ (World.drew _)
    obtain ⟨W0, hW⟩ : ∃ W0, W0 = (w.alloc (.cells #[.string k, .int .i64 v, .pointer l.adr, .pointer r.adr, .int .i64 (Kn.node b k v l r).hgt, .int .i64 (Kn.node b k v l r).cnt] 83)).drew := ⟨_, rfl⟩
    rw [← hW]
    have b0 : Below w.heap.size w W0 := by rw [hW]; exact ((Below.refl _ _).alloc (Nat.le_refl _) _).drew
    have hn0 : W0.heap[nb]? = some (.cells #[.string k, .int .i64 v, .pointer l.adr, .pointer r.adr, .int .i64 (Kn.node b k v l r).hgt, .int .i64 (Kn.node b k v l r).cnt] 83 (0, 0)) := by rw [hW, hnb]; exact blk_new _ _
    have hin0 := in_below b0 hin
    have hlt0 := blk_lt hn0
    clear hW hbk c10 c11 c12 c13 c14 c15 hin
    obtain ⟨c10, c11, c12, c13, _, _, _⟩ := (Top.of_in hin0).cells
    have hbl := (in_lt hin0) b (by simp [Kn.bs])
    have ih1 := (ihl (n - 1) W0 hin0.2.1).mono (R' := fun e w1 => ∃ T1 : Kn ByteArray Int, e = .returned (.pointer T1.adr) ∧ w1.cell? ⟨b, 3, none⟩ = some (.pointer r.adr) ∧
        CallsIn Fence.wide (n - 1) Try.prog 46 #[.pointer r.adr] w1 fun e w2 => ∃ T2 : Kn ByteArray Int, e = .returned (.pointer T2.adr) ∧ w2.cell? ⟨nb, 2, none⟩ = some (.pointer l.adr) ∧ w2.cell? ⟨nb, 3, none⟩ = some (.pointer r.adr) ∧ w2.frozen? ⟨nb, 2, none⟩ = false ∧ w2.frozen? ⟨nb, 3, none⟩ = false ∧
          ∃ T', Kn.like (Kn.node b k v l r) T' ∧ Ending.returned (.pointer (some ⟨nb, 0, none⟩)) = .returned (.pointer T'.adr) ∧ In ((w2.setCell ⟨nb, 2, none⟩ (.pointer T1.adr)).setCell ⟨nb, 3, none⟩ (.pointer T2.adr)) T' ∧ T'.bs.Nodup ∧ (∀ x ∈ T'.bs, w.heap.size ≤ x) ∧ Below w.heap.size w ((w2.setCell ⟨nb, 2, none⟩ (.pointer T1.adr)).setCell ⟨nb, 3, none⟩ (.pointer T2.adr))) (by
      rintro e w1 ⟨T1, l1, rfl, i1, n1, g1, b1⟩
      refine ⟨T1, rfl, (b1.cell (p := ⟨b, 3, none⟩) hbl).trans c13, ?_⟩
      refine (ihr (n - 1) w1 (in_below b1 hin0.2.2)).mono ?_
      rintro e w2 ⟨T2, l2, rfl, i2, n2, g2, b2⟩
      have hn2 : w2.heap[nb]? = some (.cells #[.string k, .int .i64 v, .pointer l.adr, .pointer r.adr, .int .i64 (Kn.node b k v l r).hgt, .int .i64 (Kn.node b k v l r).cnt] 83 (0, 0)) := (b2.block nb (Nat.lt_of_lt_of_le hlt0 b1.size)).trans ((b1.block nb hlt0).trans hn0)
      have i1' := in_below b2 i1
      have lt1 := in_lt i1
      have hs1 := b1.size
      have x1 : nb ∉ T1.bs := fun h => by have := g1 nb h; omega
      have x2 : nb ∉ T2.bs := fun h => by have := g2 nb h; omega
      obtain ⟨e1, e2, _⟩ := Kn.like_num l1
      obtain ⟨e3, e4, _⟩ := Kn.like_num l2
      refine ⟨T2, rfl, blk_cell hn2 2, blk_cell hn2 3, blk_frozen hn2 2, blk_frozen hn2 3, .node nb k v T1 T2, ⟨rfl, rfl, l1, l2⟩, rfl, ⟨?_, set_in (set_in i1' x1 2 _) x1 3 _, set_in (set_in i2 x2 2 _) x2 3 _⟩, ?_, ?_, ?_⟩
      · have := blk_put (blk_put hn2 2 (.pointer T1.adr) rfl) 3 (.pointer T2.adr) rfl
        simp only [Kn.hgt, Kn.cnt, e1, e2, e3, e4]
        exact this
      · simp only [Kn.bs, List.nodup_cons, List.nodup_append, List.mem_append, not_or]
        exact ⟨⟨x1, x2⟩, n1, n2, fun x hx y hy e => by subst e; have := lt1 x hx; have := g2 x hy; omega⟩
      · intro x hx
        simp only [Kn.bs, List.mem_cons, List.mem_append] at hx
        have := b0.size
        rcases hx with rfl | hx | hx
        · omega
        · have := g1 x hx; omega
        · have := g2 x hx; omega
      · have bb : Below w.heap.size w w2 := (b0.trans (b1.mono b0.size)).trans (b2.mono (Nat.le_trans b0.size b1.size))
        exact (bb.setCell (p := ⟨nb, 2, none⟩) (by simp; omega) _).setCell (p := ⟨nb, 3, none⟩) (by simp; omega) _)
    clear ihl ihr hn0 b0 hin0 hlt0 hnb
-- REGION BEGIN
    refine wpAnyIn_take (i := 0) (v := ?_) rfl rfl (by kernel_rfl) (by kernel_rfl) (by kernel_rfl) (fun _ _ _ h => h) ⟨Or.inl ⟨by rfl, ?_⟩, fun _ => rfl⟩ ?_
    rotate_left
    · (intro w; go_simp; first | done | with_reducible rfl)
    simp only [Act.put, List.setIfInBounds_toArray, List.set_cons_zero, List.set_cons_succ, List.getElem_toArray, List.getElem_cons_zero, List.getElem_cons_succ]
    refine wpAnyIn_take (i := 1) (v := ?_) rfl rfl (by kernel_rfl) (by kernel_rfl) (by kernel_rfl) (fun _ _ _ h => h) ⟨Or.inl ⟨by rfl, ?_⟩, fun _ => rfl⟩ ?_
    rotate_left
    · (intro w; go_simp; first | done | with_reducible rfl)
    simp only [Act.put, List.setIfInBounds_toArray, List.set_cons_zero, List.set_cons_succ, List.getElem_toArray, List.getElem_cons_zero, List.getElem_cons_succ]
    refine wpAnyIn_take (i := 2) (v := ?_) rfl rfl (by kernel_rfl) (by kernel_rfl) (by kernel_rfl) (fun _ _ _ h => h) ⟨Or.inl ⟨by rfl, ?_⟩, fun _ => rfl⟩ ?_
    rotate_left
    · (intro w; go_simp; first | done | with_reducible rfl)
    simp only [Act.put, List.setIfInBounds_toArray, List.set_cons_zero, List.set_cons_succ, List.getElem_toArray, List.getElem_cons_zero, List.getElem_cons_succ]
    refine wpAnyIn_take (i := 5) (v := ?_) rfl rfl (by kernel_rfl) (by kernel_rfl) (by kernel_rfl) (fun _ _ _ h => h) ⟨Or.inl ⟨by rfl, ?_⟩, fun _ => rfl⟩ ?_
    rotate_left
    · (intro w; go_simp; first | done | with_reducible rfl)
    simp only [Act.put, List.setIfInBounds_toArray, List.set_cons_zero, List.set_cons_succ, List.getElem_toArray, List.getElem_cons_zero, List.getElem_cons_succ]
    refine wpAnyIn_take (i := 6) (v := ?_) rfl rfl (by kernel_rfl) (by kernel_rfl) (by kernel_rfl) (fun _ _ _ h => h) ⟨Or.inl ⟨by rfl, ?_⟩, fun _ => rfl⟩ ?_
    rotate_left
    · (intro w; go_simp; first | done | with_reducible rfl)
    simp only [Act.put, List.setIfInBounds_toArray, List.set_cons_zero, List.set_cons_succ, List.getElem_toArray, List.getElem_cons_zero, List.getElem_cons_succ]
    refine wpAnyIn_take (i := 7) (v := ?_) rfl rfl (by kernel_rfl) (by kernel_rfl) (by kernel_rfl) (fun _ _ _ h => h) ⟨Or.inl ⟨by rfl, ?_⟩, fun _ => rfl⟩ ?_
    rotate_left
    · (intro w; go_simp; first | done | with_reducible rfl)
    simp only [Act.put, List.setIfInBounds_toArray, List.set_cons_zero, List.set_cons_succ, List.getElem_toArray, List.getElem_cons_zero, List.getElem_cons_succ]
    apply cut2
    · intro hcont
      refine wpAnyIn_ready (rs := [3, 8]) (by kernel_rfl) (by simp) ?_
      refine AllReadyIn.cons rfl (fun K hK => ?_) ?_
      · go_simp
        refine hK _ _ ?_
        clear hK K
        refine wpAnyIn_ready (rs := [4, 8]) (by kernel_rfl) (by simp) ?_
        refine AllReadyIn.cons rfl (fun K hK => ?_) ?_
        · go_simp
          refine ⟨trivial, hdd _, ih1.mono ?_⟩
          try clear ih1
          rintro e w1 ⟨T1, rfl, c13', ih2⟩
          refine hK _ _ ?_
          clear hK K
          refine wpAnyIn_ready (rs := [8]) (by kernel_rfl) (by simp) ?_
          refine AllReadyIn.cons rfl (fun K hK => ?_) ?_
          · go_simp
            refine hK _ _ ?_
            clear hK K
            refine wpAnyIn_ready (rs := [9]) (by kernel_rfl) (by simp) ?_
            refine AllReadyIn.cons rfl (fun K hK => ?_) ?_
            · go_simp
              refine ⟨trivial, hdd _, ih2.mono ?_⟩
              clear ih2
              rintro e w2 ⟨T2, rfl, d12, d13, g12, g13, fin⟩
              refine hK _ _ ?_
              clear hK K
              refine wpAnyIn_take (i := 10) (v := ?_) rfl rfl (by kernel_rfl) (by kernel_rfl) (by kernel_rfl) (fun _ _ _ h => h) ⟨Or.inl ⟨by rfl, ?_⟩, fun _ => rfl⟩ ?_
              rotate_left
              · (intro w; go_simp; first | done | with_reducible rfl)
              simp only [Act.put, List.setIfInBounds_toArray, List.set_cons_zero, List.set_cons_succ, List.getElem_toArray, List.getElem_cons_zero, List.getElem_cons_succ]
              refine wpAnyIn_ready (rs := [11]) (by kernel_rfl) (by simp) ?_
              refine AllReadyIn.cons rfl (fun K hK => ?_) ?_
              · go_simp
                refine hK _ _ ?_
                clear hK K
                refine wpAnyIn_take (i := 12) (v := ?_) rfl rfl (by kernel_rfl) (by kernel_rfl) (by kernel_rfl) (fun _ _ _ h => h) ⟨Or.inl ⟨by rfl, ?_⟩, fun _ => rfl⟩ ?_
                rotate_left
                · (intro w; go_simp; first | done | with_reducible rfl)
                simp only [Act.put, List.setIfInBounds_toArray, List.set_cons_zero, List.set_cons_succ, List.getElem_toArray, List.getElem_cons_zero, List.getElem_cons_succ]
                refine wpAnyIn_ready (rs := [13]) (by kernel_rfl) (by simp) ?_
                refine AllReadyIn.cons rfl (fun K hK => ?_) ?_
                · go_simp
                  refine hK _ _ ?_
                  clear hK K
                  refine wpAnyIn_done (by kernel_rfl) ?_ _
                  gi_wp2
                  go_ret
                  exact fin
                exact AllReadyIn.nil
              exact AllReadyIn.nil
            exact AllReadyIn.nil
          exact AllReadyIn.nil
        refine AllReadyIn.cons rfl (fun K hK => ?_) ?_
        · go_simp
          refine hK _ _ ?_
          clear hK K
          exact hcont
        exact AllReadyIn.nil
      refine AllReadyIn.cons rfl (fun K hK => ?_) ?_
      · go_simp
        refine hK _ _ ?_
        clear hK K
        refine wpAnyIn_ready (rs := [3]) (by kernel_rfl) (by simp) ?_
        refine AllReadyIn.cons rfl (fun K hK => ?_) ?_
        · go_simp
          refine hK _ _ ?_
          clear hK K
          exact hcont
        exact AllReadyIn.nil
      exact AllReadyIn.nil
    refine wpAnyIn_ready (rs := [4]) (by kernel_rfl) (by simp) ?_
    refine AllReadyIn.cons rfl (fun K hK => ?_) ?_
    · go_simp
      refine ⟨trivial, hdd _, ih1.mono ?_⟩
      try clear ih1
      rintro e w1 ⟨T1, rfl, c13', ih2⟩
      refine hK _ _ ?_
      clear hK K
      refine wpAnyIn_ready (rs := [9]) (by kernel_rfl) (by simp) ?_
      refine AllReadyIn.cons rfl (fun K hK => ?_) ?_
      · go_simp
        refine ⟨trivial, hdd _, ih2.mono ?_⟩
        clear ih2
        rintro e w2 ⟨T2, rfl, d12, d13, g12, g13, fin⟩
        refine hK _ _ ?_
        clear hK K
        refine wpAnyIn_take (i := 10) (v := ?_) rfl rfl (by kernel_rfl) (by kernel_rfl) (by kernel_rfl) (fun _ _ _ h => h) ⟨Or.inl ⟨by rfl, ?_⟩, fun _ => rfl⟩ ?_
        rotate_left
        · (intro w; go_simp; first | done | with_reducible rfl)
        simp only [Act.put, List.setIfInBounds_toArray, List.set_cons_zero, List.set_cons_succ, List.getElem_toArray, List.getElem_cons_zero, List.getElem_cons_succ]
        refine wpAnyIn_ready (rs := [11]) (by kernel_rfl) (by simp) ?_
        refine AllReadyIn.cons rfl (fun K hK => ?_) ?_
        · go_simp
          refine hK _ _ ?_
          clear hK K
          refine wpAnyIn_take (i := 12) (v := ?_) rfl rfl (by kernel_rfl) (by kernel_rfl) (by kernel_rfl) (fun _ _ _ h => h) ⟨Or.inl ⟨by rfl, ?_⟩, fun _ => rfl⟩ ?_
          rotate_left
          · (intro w; go_simp; first | done | with_reducible rfl)
          simp only [Act.put, List.setIfInBounds_toArray, List.set_cons_zero, List.set_cons_succ, List.getElem_toArray, List.getElem_cons_zero, List.getElem_cons_succ]
          refine wpAnyIn_ready (rs := [13]) (by kernel_rfl) (by simp) ?_
          refine AllReadyIn.cons rfl (fun K hK => ?_) ?_
          · go_simp
            refine hK _ _ ?_
            clear hK K
            refine wpAnyIn_done (by kernel_rfl) ?_ _
            gi_wp2
            go_ret
            exact fin
          exact AllReadyIn.nil
        exact AllReadyIn.nil
      exact AllReadyIn.nil
    exact AllReadyIn.nil
-- REGION END
-- COPY END
end Go.Proofs.Ytdbkjpnejihnhaa.OrdSi
