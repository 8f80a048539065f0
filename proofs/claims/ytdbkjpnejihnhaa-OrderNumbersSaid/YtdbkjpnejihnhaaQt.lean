/- One deed on a map and on the reference's row: the walk. -/
import Derived.Test.YtdbkjpnejihnhaaQr
set_option linter.unusedVariables false
set_option linter.unusedSimpArgs false
namespace Go.Proofs.Ytdbkjpnejihnhaa.OrdSi
open Go.RowKit Go.Shelf Go.Proofs.YtdbkjpnejihnhaaW.PrintWords Go.Proofs.YtdbkjpnejihnhaaW.PrintLast Go.Proofs.YtdbkjpnejihnhaaW.PrintMore Go.Proofs.Ytdbkjpnejihnhaa.Own Go.Proofs.Ytdbkjpnejihnhaa.Ord
attribute [local go_sem] Oper.semAt_some
set_option maxHeartbeats 4000000
set_option maxRecDepth 100000
/-- What a deed leaves. -/
def StepR (o : Int) (key tt : ByteArray) (n : Int) (m : Nat) (T : Kn ByteArray Int) (w : World) : Ending → World → Prop := fun e w' =>
  ∃ v' T', e = .returned (.tuple #[v', .bool true]) ∧ T'.toL = stepM o key tt n T.toL ∧ Rise lt T'.toL ∧ T'.cnt ≤ T.cnt + 1 ∧ Mp w' m T' ∧ Row w' v' T'.toL ∧ Fr (m :: T.bs) w w' ∧ (∀ x ∈ T'.bs, x ∈ T.bs ∨ w.heap.size ≤ x)
theorem step_put {w : World} {m : Nat} {T : Kn ByteArray Int} {v : Value} (h : Mp w m T) (hr : Rise lt T.toL) (hc : T.cnt < 1000000) (hv : Row w v T.toL) (key tt : ByteArray) (n : Int) :
    Calls Try.prog 19 #[.pointer (some ⟨m, 0, none⟩), v, .agg #[.int .i64 0, .string key, .string tt, .int .i64 n]] w (StepR 0 key tt n m T w) := by
  have hlen := Kn.cnt_len T
  obtain ⟨X, hX⟩ : ∃ X, X = T.toL.map toS := ⟨_, rfl⟩
  have hXl : X.length = T.toL.length := by rw [hX, List.length_map]
  obtain ⟨base, hR⟩ := hv
  obtain ⟨A, c, rfl, hcap, hC⟩ := Kd.R_reads hR
  rw [← hX] at hcap hC hR ⊢
  obtain ⟨g1, g2, hg⟩ : ∃ (g1 : Int) (g2 : Bool), (g1, g2) = (match lookK lt key T.toL with | some v => (v, true) | none => (0, false)) := ⟨_, _, rfl⟩
  have hG : P.catchmentref01_Get.f (X.length + 1) X key = some (g1, g2) := by rw [hg, hX]; exact Get_eq _ _ _ (by omega) (by rw [hX] at hXl; omega)
  have bW : Below w.heap.size w (w.alloc (.cells #[.int .i64 0, .string key, .string tt, .int .i64 n] 49)) := (Below.refl _ _).alloc (Nat.le_refl _) _
  have GC := P.catchmentref01_Get.calls (X.length + 1) A c X key g1 g2 _ (Kd.C_below hC bW) hcap hG
  have hP : P.catchmentref01_Put.f (X.length + 1) X key n = some ((ins lt key n T.toL).map toS) := by rw [hX]; exact Put_eq _ _ _ _ hr (by omega) (by rw [hX] at hXl; omega)
  have hlenA : Aside (T.cnt = T.toL.length ∧ X.length = T.toL.length ∧ X = T.toL.map toS) := ⟨hlen, hXl, hX⟩
  have hgA : Aside ((g1, g2) = (match lookK lt key T.toL with | some v => (v, true) | none => (0, false))) := hg
  clear hlen hXl hX hg hG
  go_enter Try.func19, Try.ntmps19
  go_wp2_with (go_at_call 37; refine GC.mono ?_; clear GC; rintro e w1 ⟨rfl, nd, rfl⟩)
  obtain ⟨D, hD⟩ : ∃ D, D = w.heap.size := ⟨_, rfl⟩
  rw [← hD]
  obtain ⟨W, hW⟩ : ∃ W, W = (w.alloc (.cells #[.int .i64 0, .string key, .string tt, .int .i64 n] 49)).drewN nd := ⟨_, rfl⟩
  rw [← hW]
  have bx : W.heap[D]? = some (.cells #[.int .i64 0, .string key, .string tt, .int .i64 n] 49 (0, 0)) := by rw [hW, hD]; exact blk_new _ _
  have b1 : Below w.heap.size w W := by rw [hW]; exact pw_below_drewN bW nd
  have hDm : D ∉ m :: T.bs := fun hm => by have := Mp.lt h _ hm; omega
  clear hW bW hD
  have b2 : Below w.heap.size w W.drew := b1.drew
  have hM1 : Mp W.drew m T := Mp.below h b2
  have hC1 := Kd.C_below hC b2
  have c1 : W.cell? ⟨D, 1, none⟩ = some (.string key) := blk_cell bx 1
  have c3 : W.cell? ⟨D, 3, none⟩ = some (.int .i64 n) := blk_cell bx 3
  have bx0 : W.drew.heap[D]? = some (.cells #[.int .i64 0, .string key, .string tt, .int .i64 n] 49 (0, 0)) := bx
  have PC := (P.catchmentref01_Put.calls (X.length + 1) A c X key n _ W.drew hC1 hcap hP).mono (R' := fun e w2 => ∃ v0, e = .returned v0 ∧ w2.cell? ⟨D, 1, none⟩ = some (.string key) ∧ w2.cell? ⟨D, 3, none⟩ = some (.int .i64 n) ∧
      Calls Try.prog 27 #[.pointer (some ⟨m, 0, none⟩), .string key, .int .i64 n] w2 fun e w3 => e = .returned (.bool (!g2)) ∧ w3.cell? ⟨D, 1, none⟩ = some (.string key) ∧ w3.cell? ⟨D, 3, none⟩ = some (.int .i64 n) ∧ StepR 0 key tt n m T w (.returned (.tuple #[v0, .bool true])) w3) (by
    rintro e w2 ⟨v0, rfl, hR2, b3⟩
    have hx2 := (b3.block D (blk_lt bx0)).trans bx0
    have hM2 := Mp.below hM1 b3
    refine ⟨v0, rfl, blk_cell hx2 1, blk_cell hx2 3, (mput_any key n hM2 (by omega)).mono ?_⟩
    rintro e w3 ⟨nb, hnb, rfl, hM3, fr⟩
    have hx3 := (fr.block D (blk_lt hx2) hDm).trans hx2
    have ht := put_toL lin nb key n T hr
    have hb2 := b2.size
    have hb3 := b3.size
    have hil := ins_len key n T.toL hr
    have e1 : (Kn.put lt nb key n T).cnt = (ins lt key n T.toL).length := by rw [Kn.cnt_len, ht]
    refine ⟨?_, blk_cell hx3 1, blk_cell hx3 3, v0, Kn.put lt nb key n T, rfl, by rw [ht]; rfl, by rw [ht]; exact ins_rise lin key n hr, Kn.put_cnt _ _ _ _ _, hM3, ?_, (Fr.of_below (b2.trans (b3.mono hb2))).trans fr (fun x hx => .inl hx), fun x hx => ?_⟩
    · have : decide (T.cnt < (Kn.put lt nb key n T).cnt) = !g2 := by
        rw [e1, hlenA.out.1]
        have hg := hgA.out
        cases hk : lookK lt key T.toL with
        | none => rw [hk] at hg hil; obtain ⟨_, rfl⟩ := Prod.mk.inj hg; simp at hil; simp; omega
        | some q => rw [hk] at hg hil; obtain ⟨_, rfl⟩ := Prod.mk.inj hg; simp at hil; simp; omega
      rw [this]
    · rw [ht]; exact Row.fr ⟨_, hR2⟩ fr (Mp.typed hM2)
    · rcases Kn.put_mem hx with e | e
      · exact .inr (by omega)
      · exact .inl e)
  clear h hr hc hR hC hP hlenA hgA bx b1 hDm b2 hM1 hC1 bx0
  go_region_held3 (fun w' => w'.cell? ⟨D, 1, none⟩ = some (.string key) ∧ w'.cell? ⟨D, 3, none⟩ = some (.int .i64 n)) (first | exact ⟨by assumption, by assumption⟩ | exact ⟨c1, c3⟩)
    (first
      | (go_at_call 38; refine PC.mono ?_; clear PC; rintro e w2 ⟨v0, rfl, d1, d3, PC2⟩)
      | (go_at_call 27; refine PC2.mono ?_; clear PC2; rintro e w3 ⟨rfl, d1, d3, fin⟩))
  go_wp2
  go_ret2
  exact fin
theorem step_drop {w : World} {m : Nat} {T : Kn ByteArray Int} {v : Value} (h : Mp w m T) (hr : Rise lt T.toL) (hc : T.cnt < 1000000) (hv : Row w v T.toL) (key tt : ByteArray) (n : Int) :
    Calls Try.prog 19 #[.pointer (some ⟨m, 0, none⟩), v, .agg #[.int .i64 1, .string key, .string tt, .int .i64 n]] w (StepR 1 key tt n m T w) := by
  have hlen := Kn.cnt_len T
  obtain ⟨X, hX⟩ : ∃ X, X = T.toL.map toS := ⟨_, rfl⟩
  have hXl : X.length = T.toL.length := by rw [hX, List.length_map]
  obtain ⟨base, hR⟩ := hv
  obtain ⟨A, c, rfl, hcap, hC⟩ := Kd.R_reads hR
  rw [← hX] at hcap hC hR ⊢
  obtain ⟨g1, g2, hg⟩ : ∃ (g1 : Int) (g2 : Bool), (g1, g2) = (match lookK lt key T.toL with | some v => (v, true) | none => (0, false)) := ⟨_, _, rfl⟩
  have hG : P.catchmentref01_Get.f (X.length + 1) X key = some (g1, g2) := by rw [hg, hX]; exact Get_eq _ _ _ (by omega) (by rw [hX] at hXl; omega)
  have bW : Below w.heap.size w (w.alloc (.cells #[.int .i64 1, .string key, .string tt, .int .i64 n] 49)) := (Below.refl _ _).alloc (Nat.le_refl _) _
  have GC := P.catchmentref01_Get.calls (X.length + 1) A c X key g1 g2 _ (Kd.C_below hC bW) hcap hG
  have hP : P.catchmentref01_Drop.f (X.length + 1) X key = some ((del lt key T.toL).map toS) := by rw [hX]; exact Drop_eq _ _ _ (by omega) (by rw [hX] at hXl; omega)
  have hlenA : Aside (T.cnt = T.toL.length ∧ X.length = T.toL.length ∧ X = T.toL.map toS) := ⟨hlen, hXl, hX⟩
  have hgA : Aside ((g1, g2) = (match lookK lt key T.toL with | some v => (v, true) | none => (0, false))) := hg
  clear hlen hXl hX hg hG
  go_enter Try.func19, Try.ntmps19
  go_wp2_with (go_at_call 37; refine GC.mono ?_; clear GC; rintro e w1 ⟨rfl, nd, rfl⟩)
  obtain ⟨D, hD⟩ : ∃ D, D = w.heap.size := ⟨_, rfl⟩
  rw [← hD]
  obtain ⟨W, hW⟩ : ∃ W, W = (w.alloc (.cells #[.int .i64 1, .string key, .string tt, .int .i64 n] 49)).drewN nd := ⟨_, rfl⟩
  rw [← hW]
  have bx : W.heap[D]? = some (.cells #[.int .i64 1, .string key, .string tt, .int .i64 n] 49 (0, 0)) := by rw [hW, hD]; exact blk_new _ _
  have b1 : Below w.heap.size w W := by rw [hW]; exact pw_below_drewN bW nd
  have hDm : D ∉ m :: T.bs := fun hm => by have := Mp.lt h _ hm; omega
  clear hW bW hD
  have b2 : Below w.heap.size w W.drew := b1.drew
  have hM1 : Mp W.drew m T := Mp.below h b2
  have hC1 := Kd.C_below hC b2
  have c1 : W.cell? ⟨D, 1, none⟩ = some (.string key) := blk_cell bx 1
  have c3 : W.cell? ⟨D, 3, none⟩ = some (.int .i64 n) := blk_cell bx 3
  have bx0 : W.drew.heap[D]? = some (.cells #[.int .i64 1, .string key, .string tt, .int .i64 n] 49 (0, 0)) := bx
  have PC := (P.catchmentref01_Drop.calls (X.length + 1) A c X key _ W.drew hC1 hcap hP).mono (R' := fun e w2 => ∃ v0, e = .returned v0 ∧ w2.cell? ⟨D, 1, none⟩ = some (.string key) ∧ w2.cell? ⟨D, 3, none⟩ = some (.int .i64 n) ∧
      Calls Try.prog 28 #[.pointer (some ⟨m, 0, none⟩), .string key] w2 fun e w3 => e = .returned (.bool g2) ∧ w3.cell? ⟨D, 1, none⟩ = some (.string key) ∧ w3.cell? ⟨D, 3, none⟩ = some (.int .i64 n) ∧ StepR 1 key tt n m T w (.returned (.tuple #[v0, .bool true])) w3) (by
    rintro e w2 ⟨v0, rfl, hR2, b3⟩
    have hx2 := (b3.block D (blk_lt bx0)).trans bx0
    have hM2 := Mp.below hM1 b3
    refine ⟨v0, rfl, blk_cell hx2 1, blk_cell hx2 3, (mdrop_any key hM2 (by omega)).mono ?_⟩
    rintro e w3 ⟨rfl, hM3, fr⟩
    have hx3 := (fr.block D (blk_lt hx2) hDm).trans hx2
    have ht := drop_toL lin key T hr
    have hb2 := b2.size
    have hb3 := b3.size
    have hil := ins_len key n T.toL hr
    have e1 : (Kn.drop lt key T).cnt = (del lt key T.toL).length := by rw [Kn.cnt_len, ht]
    refine ⟨?_, blk_cell hx3 1, blk_cell hx3 3, v0, Kn.drop lt key T, rfl, by rw [ht]; rfl, by rw [ht]; exact del_rise key hr, Int.le_trans (Kn.drop_cnt lt key T) (by omega), hM3, ?_, (Fr.of_below (b2.trans (b3.mono hb2))).trans fr (fun x hx => .inl hx), fun x hx => ?_⟩
    · have : decide ((Kn.drop lt key T).cnt < T.cnt) = g2 := by
        rw [e1, hlenA.out.1]
        have hg := hgA.out
        cases hk : lookK lt key T.toL with
        | none => rw [hk] at hg hil; obtain ⟨_, rfl⟩ := Prod.mk.inj hg; simp at hil; simp; omega
        | some q => rw [hk] at hg hil; obtain ⟨_, rfl⟩ := Prod.mk.inj hg; simp at hil; simp; omega
      rw [this]
    · rw [ht]; exact Row.fr ⟨_, hR2⟩ fr (Mp.typed hM2)
    · exact .inl (Kn.drop_mem hx))
  clear h hr hc hR hC hP hlenA hgA bx b1 hDm b2 hM1 hC1 bx0
  go_region_held3 (fun w' => w'.cell? ⟨D, 1, none⟩ = some (.string key) ∧ w'.cell? ⟨D, 3, none⟩ = some (.int .i64 n)) (first | exact ⟨by assumption, by assumption⟩ | exact ⟨c1, c3⟩)
    (first
      | (go_at_call 39; refine PC.mono ?_; clear PC; rintro e w2 ⟨v0, rfl, d1, d3, PC2⟩)
      | (go_at_call 28; refine PC2.mono ?_; clear PC2; rintro e w3 ⟨rfl, d1, d3, fin⟩))
  go_wp2
  go_ret2
  exact fin
theorem step_cut {w : World} {m : Nat} {T : Kn ByteArray Int} {v : Value} (h : Mp w m T) (hr : Rise lt T.toL) (hc : T.cnt < 1000000) (hv : Row w v T.toL) (key tt : ByteArray) (n : Int) :
    Calls Try.prog 19 #[.pointer (some ⟨m, 0, none⟩), v, .agg #[.int .i64 2, .string key, .string tt, .int .i64 n]] w (StepR 2 key tt n m T w) := by
  have hlen := Kn.cnt_len T
  obtain ⟨X, hX⟩ : ∃ X, X = T.toL.map toS := ⟨_, rfl⟩
  have hXl : X.length = T.toL.length := by rw [hX, List.length_map]
  obtain ⟨base, hR⟩ := hv
  obtain ⟨A, c, rfl, hcap, hC⟩ := Kd.R_reads hR
  rw [← hX] at hcap hC hR ⊢
  obtain ⟨g1, g2, hg⟩ : ∃ (g1 : Int) (g2 : Bool), (g1, g2) = (match lookK lt key T.toL with | some v => (v, true) | none => (0, false)) := ⟨_, _, rfl⟩
  have hG : P.catchmentref01_Get.f (X.length + 1) X key = some (g1, g2) := by rw [hg, hX]; exact Get_eq _ _ _ (by omega) (by rw [hX] at hXl; omega)
  have bW : Below w.heap.size w (w.alloc (.cells #[.int .i64 2, .string key, .string tt, .int .i64 n] 49)) := (Below.refl _ _).alloc (Nat.le_refl _) _
  have GC := P.catchmentref01_Get.calls (X.length + 1) A c X key g1 g2 _ (Kd.C_below hC bW) hcap hG
  have hP : P.catchmentref01_Cut.f (X.length + 1) X key tt = some ((cutM key tt T.toL).map toS) := by rw [hX]; exact Cut_eq _ _ _ _ (by omega) (by rw [hX] at hXl; omega)
  have hlenA : Aside (T.cnt = T.toL.length ∧ X.length = T.toL.length ∧ X = T.toL.map toS) := ⟨hlen, hXl, hX⟩
  have hgA : Aside ((g1, g2) = (match lookK lt key T.toL with | some v => (v, true) | none => (0, false))) := hg
  clear hlen hXl hX hg hG
  obtain ⟨Y, hY⟩ : ∃ Y, Y = (cutM key tt T.toL).map toS := ⟨_, rfl⟩
  rw [← hY] at hP
  have hYl : Y.length = (cutM key tt T.toL).length := by rw [hY, List.length_map]
  have hcl := cut_len key tt T hr
  have hcm := cut_toL key tt T hr
  have hXl := hlenA.out
  have hw : wrap64 ((X.length : Int) - (Y.length : Int)) = (X.length : Int) - (Y.length : Int) := IntWalk.wrap64_in _ (by omega)
  have hYA : Aside (Y = (cutM key tt T.toL).map toS ∧ Y.length + (cutL key tt T).length = X.length) := ⟨hY, by omega⟩
  have hwl := walkB_len key T hr
  obtain ⟨D, hD⟩ : ∃ D, D = w.heap.size := ⟨_, rfl⟩
  have hDm : D ∉ m :: T.bs := fun hm => by have := Mp.lt h _ hm; omega
  have CC : ∀ W : World, W.heap[D]? = some (.cells #[.int .i64 2, .string key, .string tt, .int .i64 n] 49 (0, 0)) → Below w.heap.size w W →
      Calls Try.prog 40 #[.slice A X.length c, .string key, .string tt] W fun e w2 => ∃ A0 c0, e = .returned (.slice A0 Y.length c0) ∧ w2.cell? ⟨D, 1, none⟩ = some (.string key) ∧ w2.cell? ⟨D, 2, none⟩ = some (.string tt) ∧
        Calls Try.prog 29 #[.pointer (some ⟨m, 0, none⟩), .string key, .string tt] w2 fun e w3 => e = .returned (.int .i64 ((X.length : Int) - (Y.length : Int))) ∧ StepR 2 key tt n m T w (.returned (.tuple #[.slice A0 Y.length c0, .bool true])) w3 := by
    intro W bx b2
    have hM1 := Mp.below h b2
    refine (P.catchmentref01_Cut.calls (X.length + 1) A c X key tt _ W (Kd.C_below hC b2) hcap hP).mono ?_
    rintro e w2 ⟨v0, rfl, hR2, b3⟩
    obtain ⟨A0, c0, rfl, _, _⟩ := Kd.R_reads hR2
    have hx2 := (b3.block D (blk_lt bx)).trans bx
    have hM2 := Mp.below hM1 b3
    refine ⟨A0, c0, rfl, blk_cell hx2 1, blk_cell hx2 2, (cut_any key tt (p := some ⟨m, 0, none⟩) ⟨rfl, hM2⟩ (by omega) hwl).mono ?_⟩
    rintro e w3 ⟨rfl, ⟨_, hM3⟩, fr⟩
    have hb2 := b2.size
    refine ⟨by rw [show ((cutL key tt T).length : Int) = (X.length : Int) - (Y.length : Int) by have := hYA.out.2; omega], _, dropAll (cutL key tt T) T, rfl, by rw [hcm.1]; rfl, by rw [hcm.1]; exact hcm.2, by have := dropAll_cnt (cutL key tt T) T; omega, hM3, ?_, (Fr.of_below (b2.trans (b3.mono hb2))).trans fr (fun x hx => .inl hx), fun x hx => .inl (dropAll_mem _ _ _ hx)⟩
    rw [hcm.1]
    refine Row.fr (B := m :: T.bs) ⟨W.heap.size, ?_⟩ fr (Mp.typed hM2)
    rw [← hYA.out.1]; exact hR2
  have bx0 : ∀ nd, ((w.alloc (.cells #[.int .i64 2, .string key, .string tt, .int .i64 n] 49)).drewN nd).heap[D]? = some (.cells #[.int .i64 2, .string key, .string tt, .int .i64 n] 49 (0, 0)) := fun nd => by rw [hD]; exact blk_new _ _
  have CC0 : ∀ nd, _ := fun nd => CC _ (bx0 nd) (pw_below_drewN bW nd)
  rw [hD] at CC0 bx0
  have bc1 := fun nd => blk_cell (bx0 nd) 1
  have bc2 := fun nd => blk_cell (bx0 nd) 2
  clear h hr hc hR hC hP hlenA hgA hDm CC bx0 hYA hcl hcm hXl hY hYl hwl hD D
  go_enter Try.func19, Try.ntmps19
  go_wp2_with (first
    | (go_at_call 37; refine GC.mono ?_; clear GC; rintro e w1 ⟨rfl, nd, rfl⟩; have e1 := bc1 nd; have e2 := bc2 nd)
    | (go_at_call 40; refine (CC0 nd).mono ?_; clear CC0; rintro e w2 ⟨A0, c0, rfl, d1, d2, PC2⟩)
    | (go_at_call 29; refine PC2.mono ?_; clear PC2; rintro e w3 ⟨rfl, fin⟩))
  go_ret2
  exact fin
end Go.Proofs.Ytdbkjpnejihnhaa.OrdSi
