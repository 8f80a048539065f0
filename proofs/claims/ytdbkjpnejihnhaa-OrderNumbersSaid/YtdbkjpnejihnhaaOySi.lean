/- The walk over knots [string, int]: even. (Laid by inst.py out of inst/XOy.) -/
import Derived.Test.YtdbkjpnejihnhaaOxSi
set_option linter.unusedVariables false
set_option linter.unusedSimpArgs false
namespace Go.Proofs.Ytdbkjpnejihnhaa.OrdSi
open Go.RowKit Go.Proofs.YtdbkjpnejihnhaaW.PrintWords Go.Proofs.YtdbkjpnejihnhaaW.PrintLast Go.Proofs.YtdbkjpnejihnhaaW.PrintMore Go.Proofs.Ytdbkjpnejihnhaa.Own Go.Proofs.Ytdbkjpnejihnhaa.Ord
set_option maxHeartbeats 2000000
set_option maxRecDepth 100000
/-- The lower side is too deep, and its higher side is the deeper one. -/
theorem even_a1 {b lb xb : Nat} {k lk xk : ByteArray} {v lv xv : Int} {r ll xl xr : Kn ByteArray Int} {w : World} (h1 : Top w b k v (some ⟨lb, 0, none⟩) r.adr) (il : In w (.node lb lk lv ll (.node xb xk xv xl xr))) (ir : In w r)
    (hnd : (Kn.node b k v (.node lb lk lv ll (.node xb xk xv xl xr)) r).bs.Nodup) (hc : (Kn.node b k v (.node lb lk lv ll (.node xb xk xv xl xr)) r).cnt < 4611686018427387904)
    (hd : 1 < (Kn.node lb lk lv ll (.node xb xk xv xl xr)).hgt - r.hgt) (hx : ll.hgt < (Kn.node xb xk xv xl xr).hgt) :
    Calls Try.prog 58 #[.pointer (some ⟨b, 0, none⟩)] w fun e w' => e = .returned (.pointer (some ⟨xb, 0, none⟩)) ∧ In w' (.node xb xk xv (.node lb lk lv ll xl) (.node b k v xr r)) ∧ Fr (Kn.node b k v (.node lb lk lv ll (.node xb xk xv xl xr)) r).bs w w' := by
  have hndL : (Kn.node lb lk lv ll (.node xb xk xv xl xr)).bs.Nodup := by
    simp only [Kn.bs, List.nodup_cons, List.nodup_append] at hnd ⊢; exact hnd.2.1
  have nbL : b ∉ (Kn.node lb lk lv ll (.node xb xk xv xl xr)).bs := by
    simp only [Kn.bs, List.nodup_cons, List.mem_append, not_or] at hnd ⊢; exact hnd.1.1
  have nbr : b ∉ r.bs := by simp only [Kn.bs, List.nodup_cons, List.mem_append, not_or] at hnd ⊢; exact hnd.1.2
  have nLr : ∀ x ∈ (Kn.node lb lk lv ll (.node xb xk xv xl xr)).bs, x ∉ r.bs := fun x hx hr => by
    have := hnd; simp only [Kn.bs, List.nodup_cons, List.nodup_append] at this hx
    exact this.2.2.2 x hx x hr rfl
  have pU : (Kn.node xb xk xv (.node lb lk lv ll xl) xr).bs.Perm (Kn.node lb lk lv ll (.node xb xk xv xl xr)).bs := Kn.up_bs (.node lb lk lv ll (.node xb xk xv xl xr))
  have hnd2 : (Kn.node b k v (.node xb xk xv (.node lb lk lv ll xl) xr) r).bs.Nodup := (Kn.perm_left pU).nodup_iff.2 hnd
  have hcL : (Kn.node lb lk lv ll (.node xb xk xv xl xr)).cnt < 4611686018427387904 := by
    have := Kn.bounds r; simp only [Kn.cnt] at hc ⊢; omega
  have hc2 : (Kn.node b k v (.node xb xk xv (.node lb lk lv ll xl) xr) r).cnt < 4611686018427387904 := by simp only [Kn.cnt] at hc ⊢; omega
  have hbL := Kn.bounds (Kn.node lb lk lv ll (.node xb xk xv xl xr))
  have hbr := Kn.bounds r
  have hbc : r.cnt < 4611686018427387904 := by simp only [Kn.cnt] at hc; have := Kn.bounds ll; have := Kn.bounds xl; have := Kn.bounds xr; omega
  have hw1 : IntKind.i64.wrap ((Kn.node lb lk lv ll (.node xb xk xv xl xr)).hgt - r.hgt) = (Kn.node lb lk lv ll (.node xb xk xv xl xr)).hgt - r.hgt := IntWalk.i64_in _ (by omega)
  obtain ⟨c10, c11, c12, c13, f11, f12, f13⟩ := h1.cells
  go_enter Try.func58, Try.ntmps58
  go_wp2_with fail
  refine still_all (by kernel_rfl) (by kernel_rfl) (fun W hW => ?_)
  have fr1 : Fr [] w W := by rw [hW]; exact (Fr.refl _ _).drew
  clear hW c10 c11 c12 c13 f11 f12 f13
  have h1 := h1.fr fr1 (by simp)
  have il := in_fr fr1 il (by simp)
  have ir := in_fr fr1 ir (by simp)
  obtain ⟨c10, c11, c12, c13, f11, f12, f13⟩ := h1.cells
  repeat still_step
  still_call (depth_any (Kn.node lb lk lv ll (.node xb xk xv xl xr)) _ il)
  repeat still_step
  still_call (depth_any r _ ir)
  repeat still_step
  refine wpStill_nil ?_
  obtain ⟨D, hD⟩ : ∃ D, D = (Kn.node lb lk lv ll (.node xb xk xv xl xr)).hgt := ⟨_, rfl⟩
  rw [← hD] at hd hw1
  simp only [← hD]
  clear hD
  go_wp2_with fail
  refine still_all (by kernel_rfl) (by kernel_rfl) (fun W2 hW => ?_)
  have fr2 : Fr [] W W2 := by rw [hW]; exact (Fr.refl _ _).drew
  clear hW c10 c11 c12 c13 f11 f12 f13
  have h2 := h1.fr fr2 (by simp)
  have il2 := in_fr fr2 il (by simp)
  have ir2 := in_fr fr2 ir (by simp)
  clear h1 il ir
  obtain ⟨c10, c11, c12, c13, f11, f12, f13⟩ := h2.cells
  obtain ⟨d10, d11, d12, d13, g11, g12, g13⟩ := (Top.of_in il2).cells
  rw [Kn.adr] at d13
  repeat still_step
  still_call (depth_any ll _ il2.2.1)
  repeat still_step
  still_call (depth_any (Kn.node xb xk xv xl xr) _ il2.2.2)
  repeat still_step
  refine wpStill_nil ?_
  obtain ⟨E, hE⟩ : ∃ E, E = (Kn.node xb xk xv xl xr).hgt := ⟨_, rfl⟩
  rw [← hE] at hx
  simp only [← hE]
  clear hE
  have W1 := up_any (Top.of_in il2) (Top.of_in il2.2.2) il2.2.1 il2.2.2.2.1 il2.2.2.2.2 hndL hcL
  have fl : ∀ x ∈ [lb, xb], x ∈ (Kn.node lb lk lv ll (.node xb xk xv xl xr)).bs := by intro x hx; simp at hx; rcases hx with rfl | rfl <;> simp [Kn.bs]
  have fb : b ∉ [lb, xb] := fun h => nbL (fl b h)
  go_wp2_with (first
    | (go_at_call 65
       refine W1.mono ?_
       clear W1
       rintro e w3 ⟨rfl, hi, fr3⟩
       have h3 := h2.fr fr3 fb
       have ir3 := in_fr fr3 ir2 (fun x hx hm => nLr x (fl x hm) hx)
       obtain ⟨c30, c31, c32, c33, f31, f32, f33⟩ := h3.cells
       have nb3 : b ∉ (Kn.node xb xk xv (.node lb lk lv ll xl) xr).bs := fun h => nbL (pU.mem_iff.1 h)
       have hi4 := set_in hi nb3 2 (.pointer (some ⟨xb, 0, none⟩))
       have W4 := down_any (h3.low (some ⟨xb, 0, none⟩)) (Top.of_in hi4) (set_in ir3 nbr 2 _) hi4.2.1 hi4.2.2 hnd2 hc2
       have fr4 : Fr (Kn.node b k v (.node lb lk lv ll (.node xb xk xv xl xr)) r).bs w (w3.setCell ⟨b, 2, none⟩ (.pointer (some ⟨xb, 0, none⟩))) := by
         refine ((((fr1.wide (fun _ h => by cases h)).trans fr2 (fun _ h => by cases h)).trans fr3 (fun x hx => .inl ?_)).set (.inl ?_) _)
         · exact List.mem_cons_of_mem _ (List.mem_append_left _ (fl x hx))
         · simp [Kn.bs]
       clear hi h3 ir3 hi4)
    | (go_at_call 66
       refine W4.mono ?_
       clear W4
       rintro e w5 ⟨rfl, hi5, fr5⟩))
  go_ret
  exact ⟨rfl, hi5, fr4.trans fr5 (fun x hx => .inl (by simp at hx; rcases hx with rfl | rfl <;> simp [Kn.bs]))⟩
/-- The lower side is too deep, and its higher side is not the deeper one. -/
theorem even_a2 {b lb : Nat} {k lk : ByteArray} {v lv : Int} {r ll lr : Kn ByteArray Int} {w : World} (h1 : Top w b k v (some ⟨lb, 0, none⟩) r.adr) (il : In w (.node lb lk lv ll lr)) (ir : In w r)
    (hnd : (Kn.node b k v (.node lb lk lv ll lr) r).bs.Nodup) (hc : (Kn.node b k v (.node lb lk lv ll lr) r).cnt < 4611686018427387904)
    (hd : 1 < (Kn.node lb lk lv ll lr).hgt - r.hgt) (hx : ¬ ll.hgt < lr.hgt) :
    Calls Try.prog 58 #[.pointer (some ⟨b, 0, none⟩)] w fun e w' => e = .returned (.pointer (some ⟨lb, 0, none⟩)) ∧ In w' (.node lb lk lv ll (.node b k v lr r)) ∧ Fr (Kn.node b k v (.node lb lk lv ll lr) r).bs w w' := by
  have hbL := Kn.bounds (Kn.node lb lk lv ll lr)
  have hbr := Kn.bounds r
  have hbc : r.cnt < 4611686018427387904 ∧ (Kn.node lb lk lv ll lr).cnt < 4611686018427387904 := by simp only [Kn.cnt] at hc ⊢; have := Kn.bounds ll; have := Kn.bounds lr; omega
  have hw1 : IntKind.i64.wrap ((Kn.node lb lk lv ll lr).hgt - r.hgt) = (Kn.node lb lk lv ll lr).hgt - r.hgt := IntWalk.i64_in _ (by omega)
  have hx2 : lr.hgt ≤ ll.hgt := by omega
  obtain ⟨c10, c11, c12, c13, f11, f12, f13⟩ := h1.cells
  go_enter Try.func58, Try.ntmps58
  go_wp2_with fail
  refine still_all (by kernel_rfl) (by kernel_rfl) (fun W hW => ?_)
  have fr1 : Fr [] w W := by rw [hW]; exact (Fr.refl _ _).drew
  clear hW c10 c11 c12 c13 f11 f12 f13
  have h1 := h1.fr fr1 (by simp)
  have il := in_fr fr1 il (by simp)
  have ir := in_fr fr1 ir (by simp)
  obtain ⟨c10, c11, c12, c13, f11, f12, f13⟩ := h1.cells
  repeat still_step
  still_call (depth_any (Kn.node lb lk lv ll lr) _ il)
  repeat still_step
  still_call (depth_any r _ ir)
  repeat still_step
  refine wpStill_nil ?_
  obtain ⟨D, hD⟩ : ∃ D, D = (Kn.node lb lk lv ll lr).hgt := ⟨_, rfl⟩
  rw [← hD] at hd hw1
  simp only [← hD]
  clear hD
  go_wp2_with fail
  refine still_all (by kernel_rfl) (by kernel_rfl) (fun W2 hW => ?_)
  have fr2 : Fr [] W W2 := by rw [hW]; exact (Fr.refl _ _).drew
  clear hW c10 c11 c12 c13 f11 f12 f13
  have h2 := h1.fr fr2 (by simp)
  have il2 := in_fr fr2 il (by simp)
  have ir2 := in_fr fr2 ir (by simp)
  clear h1 il ir
  obtain ⟨c10, c11, c12, c13, f11, f12, f13⟩ := h2.cells
  obtain ⟨d10, d11, d12, d13, g11, g12, g13⟩ := (Top.of_in il2).cells
  repeat still_step
  still_call (depth_any ll _ il2.2.1)
  repeat still_step
  still_call (depth_any lr _ il2.2.2)
  repeat still_step
  refine wpStill_nil ?_
  have W4 := down_any h2 (Top.of_in il2) ir2 il2.2.1 il2.2.2 hnd hc
  have fr4 : Fr (Kn.node b k v (.node lb lk lv ll lr) r).bs w W2 := (fr1.wide (fun _ h => by cases h)).trans fr2 (fun _ h => by cases h)
  go_wp2_with (go_at_call 66; refine W4.mono ?_; clear W4; rintro e w5 ⟨rfl, hi5, fr5⟩)
  go_ret
  exact ⟨rfl, hi5, fr4.trans fr5 (fun x hx => .inl (by simp at hx; rcases hx with rfl | rfl <;> simp [Kn.bs]))⟩
/-- The higher side is too deep, and its lower side is the deeper one. -/
theorem even_b1 {b rb xb : Nat} {k rk xk : ByteArray} {v rv xv : Int} {l rr xl xr : Kn ByteArray Int} {w : World} (h1 : Top w b k v l.adr (some ⟨rb, 0, none⟩)) (il : In w l) (ir : In w (.node rb rk rv (.node xb xk xv xl xr) rr))
    (hnd : (Kn.node b k v l (.node rb rk rv (.node xb xk xv xl xr) rr)).bs.Nodup) (hc : (Kn.node b k v l (.node rb rk rv (.node xb xk xv xl xr) rr)).cnt < 4611686018427387904)
    (hd : l.hgt - (Kn.node rb rk rv (.node xb xk xv xl xr) rr).hgt < -1) (hx : rr.hgt < (Kn.node xb xk xv xl xr).hgt) :
    Calls Try.prog 58 #[.pointer (some ⟨b, 0, none⟩)] w fun e w' => e = .returned (.pointer (some ⟨xb, 0, none⟩)) ∧ In w' (.node xb xk xv (.node b k v l xl) (.node rb rk rv xr rr)) ∧ Fr (Kn.node b k v l (.node rb rk rv (.node xb xk xv xl xr) rr)).bs w w' := by
  have hndL : (Kn.node rb rk rv (.node xb xk xv xl xr) rr).bs.Nodup := by
    simp only [Kn.bs, List.nodup_cons, List.nodup_append] at hnd ⊢; exact hnd.2.2.1
  have nbL : b ∉ (Kn.node rb rk rv (.node xb xk xv xl xr) rr).bs := by
    simp only [Kn.bs, List.nodup_cons, List.mem_append, not_or] at hnd ⊢; exact hnd.1.2
  have nbr : b ∉ l.bs := by simp only [Kn.bs, List.nodup_cons, List.mem_append, not_or] at hnd ⊢; exact hnd.1.1
  have nLr : ∀ x ∈ (Kn.node rb rk rv (.node xb xk xv xl xr) rr).bs, x ∉ l.bs := fun x hx hr => by
    have := hnd; simp only [Kn.bs, List.nodup_cons, List.nodup_append] at this hx
    exact this.2.2.2 x hr x hx rfl
  have pU : (Kn.node xb xk xv xl (.node rb rk rv xr rr)).bs.Perm (Kn.node rb rk rv (.node xb xk xv xl xr) rr).bs := Kn.down_bs (.node rb rk rv (.node xb xk xv xl xr) rr)
  have hnd2 : (Kn.node b k v l (.node xb xk xv xl (.node rb rk rv xr rr))).bs.Nodup := (Kn.perm_right pU).nodup_iff.2 hnd
  have hcL : (Kn.node rb rk rv (.node xb xk xv xl xr) rr).cnt < 4611686018427387904 := by
    have := Kn.bounds l; simp only [Kn.cnt] at hc ⊢; omega
  have hc2 : (Kn.node b k v l (.node xb xk xv xl (.node rb rk rv xr rr))).cnt < 4611686018427387904 := by simp only [Kn.cnt] at hc ⊢; omega
  have hbL := Kn.bounds (Kn.node rb rk rv (.node xb xk xv xl xr) rr)
  have hbr := Kn.bounds l
  have hbc : l.cnt < 4611686018427387904 := by simp only [Kn.cnt] at hc; have := Kn.bounds rr; have := Kn.bounds xl; have := Kn.bounds xr; omega
  have hw1 : IntKind.i64.wrap (l.hgt - (Kn.node rb rk rv (.node xb xk xv xl xr) rr).hgt) = l.hgt - (Kn.node rb rk rv (.node xb xk xv xl xr) rr).hgt := IntWalk.i64_in _ (by omega)
  obtain ⟨c10, c11, c12, c13, f11, f12, f13⟩ := h1.cells
  go_enter Try.func58, Try.ntmps58
  go_wp2_with fail
  refine still_all (by kernel_rfl) (by kernel_rfl) (fun W hW => ?_)
  have fr1 : Fr [] w W := by rw [hW]; exact (Fr.refl _ _).drew
  clear hW c10 c11 c12 c13 f11 f12 f13
  have h1 := h1.fr fr1 (by simp)
  have il := in_fr fr1 il (by simp)
  have ir := in_fr fr1 ir (by simp)
  obtain ⟨c10, c11, c12, c13, f11, f12, f13⟩ := h1.cells
  repeat still_step
  still_call (depth_any l _ il)
  repeat still_step
  still_call (depth_any (Kn.node rb rk rv (.node xb xk xv xl xr) rr) _ ir)
  repeat still_step
  refine wpStill_nil ?_
  obtain ⟨D, hD⟩ : ∃ D, D = (Kn.node rb rk rv (.node xb xk xv xl xr) rr).hgt := ⟨_, rfl⟩
  rw [← hD] at hd hw1
  simp only [← hD]
  clear hD
  have hd0 : l.hgt - D ≤ 1 := by omega
  go_wp2_with fail
  refine still_all (by kernel_rfl) (by kernel_rfl) (fun W2 hW => ?_)
  have fr2 : Fr [] W W2 := by rw [hW]; exact (Fr.refl _ _).drew
  clear hW c10 c11 c12 c13 f11 f12 f13
  have h2 := h1.fr fr2 (by simp)
  have il2 := in_fr fr2 il (by simp)
  have ir2 := in_fr fr2 ir (by simp)
  clear h1 il ir
  obtain ⟨c10, c11, c12, c13, f11, f12, f13⟩ := h2.cells
  obtain ⟨d10, d11, d12, d13, g11, g12, g13⟩ := (Top.of_in ir2).cells
  rw [Kn.adr] at d12
  repeat still_step
  still_call (depth_any rr _ ir2.2.2)
  repeat still_step
  still_call (depth_any (Kn.node xb xk xv xl xr) _ ir2.2.1)
  repeat still_step
  refine wpStill_nil ?_
  obtain ⟨E, hE⟩ : ∃ E, E = (Kn.node xb xk xv xl xr).hgt := ⟨_, rfl⟩
  rw [← hE] at hx
  simp only [← hE]
  clear hE
  have W1 := down_any (Top.of_in ir2) (Top.of_in ir2.2.1) ir2.2.2 ir2.2.1.2.1 ir2.2.1.2.2 hndL hcL
  have fl : ∀ x ∈ [rb, xb], x ∈ (Kn.node rb rk rv (.node xb xk xv xl xr) rr).bs := by intro x hx; simp at hx; rcases hx with rfl | rfl <;> simp [Kn.bs]
  have fb : b ∉ [rb, xb] := fun h => nbL (fl b h)
  go_wp2_with (first
    | (go_at_call 66
       refine W1.mono ?_
       clear W1
       rintro e w3 ⟨rfl, hi, fr3⟩
       have h3 := h2.fr fr3 fb
       have il3 := in_fr fr3 il2 (fun x hx hm => nLr x (fl x hm) hx)
       obtain ⟨c30, c31, c32, c33, f31, f32, f33⟩ := h3.cells
       have nb3 : b ∉ (Kn.node xb xk xv xl (.node rb rk rv xr rr)).bs := fun h => nbL (pU.mem_iff.1 h)
       have hi4 := set_in hi nb3 3 (.pointer (some ⟨xb, 0, none⟩))
       have W4 := up_any (h3.high (some ⟨xb, 0, none⟩)) (Top.of_in hi4) (set_in il3 nbr 3 _) hi4.2.1 hi4.2.2 hnd2 hc2
       have fr4 : Fr (Kn.node b k v l (.node rb rk rv (.node xb xk xv xl xr) rr)).bs w (w3.setCell ⟨b, 3, none⟩ (.pointer (some ⟨xb, 0, none⟩))) := by
         refine ((((fr1.wide (fun _ h => by cases h)).trans fr2 (fun _ h => by cases h)).trans fr3 (fun x hx => .inl ?_)).set (.inl ?_) _)
         · exact List.mem_cons_of_mem _ (List.mem_append_right _ (fl x hx))
         · simp [Kn.bs]
       clear hi h3 il3 hi4)
    | (go_at_call 65
       refine W4.mono ?_
       clear W4
       rintro e w5 ⟨rfl, hi5, fr5⟩))
  go_ret
  exact ⟨rfl, hi5, fr4.trans fr5 (fun x hx => .inl (by simp at hx; rcases hx with rfl | rfl <;> simp [Kn.bs]))⟩
/-- The higher side is too deep, and its lower side is not the deeper one. -/
theorem even_b2 {b rb : Nat} {k rk : ByteArray} {v rv : Int} {l rl rr : Kn ByteArray Int} {w : World} (h1 : Top w b k v l.adr (some ⟨rb, 0, none⟩)) (il : In w l) (ir : In w (.node rb rk rv rl rr))
    (hnd : (Kn.node b k v l (.node rb rk rv rl rr)).bs.Nodup) (hc : (Kn.node b k v l (.node rb rk rv rl rr)).cnt < 4611686018427387904)
    (hd : l.hgt - (Kn.node rb rk rv rl rr).hgt < -1) (hx : ¬ rr.hgt < rl.hgt) :
    Calls Try.prog 58 #[.pointer (some ⟨b, 0, none⟩)] w fun e w' => e = .returned (.pointer (some ⟨rb, 0, none⟩)) ∧ In w' (.node rb rk rv (.node b k v l rl) rr) ∧ Fr (Kn.node b k v l (.node rb rk rv rl rr)).bs w w' := by
  have hbL := Kn.bounds (Kn.node rb rk rv rl rr)
  have hbr := Kn.bounds l
  have hbc : l.cnt < 4611686018427387904 ∧ (Kn.node rb rk rv rl rr).cnt < 4611686018427387904 := by simp only [Kn.cnt] at hc ⊢; have := Kn.bounds rl; have := Kn.bounds rr; omega
  have hw1 : IntKind.i64.wrap (l.hgt - (Kn.node rb rk rv rl rr).hgt) = l.hgt - (Kn.node rb rk rv rl rr).hgt := IntWalk.i64_in _ (by omega)
  have hx2 : rl.hgt ≤ rr.hgt := by omega
  obtain ⟨c10, c11, c12, c13, f11, f12, f13⟩ := h1.cells
  go_enter Try.func58, Try.ntmps58
  go_wp2_with fail
  refine still_all (by kernel_rfl) (by kernel_rfl) (fun W hW => ?_)
  have fr1 : Fr [] w W := by rw [hW]; exact (Fr.refl _ _).drew
  clear hW c10 c11 c12 c13 f11 f12 f13
  have h1 := h1.fr fr1 (by simp)
  have il := in_fr fr1 il (by simp)
  have ir := in_fr fr1 ir (by simp)
  obtain ⟨c10, c11, c12, c13, f11, f12, f13⟩ := h1.cells
  repeat still_step
  still_call (depth_any l _ il)
  repeat still_step
  still_call (depth_any (Kn.node rb rk rv rl rr) _ ir)
  repeat still_step
  refine wpStill_nil ?_
  obtain ⟨D, hD⟩ : ∃ D, D = (Kn.node rb rk rv rl rr).hgt := ⟨_, rfl⟩
  rw [← hD] at hd hw1
  simp only [← hD]
  clear hD
  have hd0 : l.hgt - D ≤ 1 := by omega
  go_wp2_with fail
  refine still_all (by kernel_rfl) (by kernel_rfl) (fun W2 hW => ?_)
  have fr2 : Fr [] W W2 := by rw [hW]; exact (Fr.refl _ _).drew
  clear hW c10 c11 c12 c13 f11 f12 f13
  have h2 := h1.fr fr2 (by simp)
  have il2 := in_fr fr2 il (by simp)
  have ir2 := in_fr fr2 ir (by simp)
  clear h1 il ir
  obtain ⟨c10, c11, c12, c13, f11, f12, f13⟩ := h2.cells
  obtain ⟨d10, d11, d12, d13, g11, g12, g13⟩ := (Top.of_in ir2).cells
  repeat still_step
  still_call (depth_any rr _ ir2.2.2)
  repeat still_step
  still_call (depth_any rl _ ir2.2.1)
  repeat still_step
  refine wpStill_nil ?_
  have W4 := up_any h2 (Top.of_in ir2) il2 ir2.2.1 ir2.2.2 hnd hc
  have fr4 : Fr (Kn.node b k v l (.node rb rk rv rl rr)).bs w W2 := (fr1.wide (fun _ h => by cases h)).trans fr2 (fun _ h => by cases h)
  go_wp2_with (go_at_call 65; refine W4.mono ?_; clear W4; rintro e w5 ⟨rfl, hi5, fr5⟩)
  go_ret
  exact ⟨rfl, hi5, fr4.trans fr5 (fun x hx => .inl (by simp at hx; rcases hx with rfl | rfl <;> simp [Kn.bs]))⟩
/-- Neither side is too deep. -/
theorem even_c {b : Nat} {k : ByteArray} {v : Int} {l r : Kn ByteArray Int} {w : World} (h1 : Top w b k v l.adr r.adr) (il : In w l) (ir : In w r)
    (hnd : (Kn.node b k v l r).bs.Nodup) (hc : (Kn.node b k v l r).cnt < 4611686018427387904) (hd : l.hgt - r.hgt ≤ 1) (hx : -1 ≤ l.hgt - r.hgt) :
    Calls Try.prog 58 #[.pointer (some ⟨b, 0, none⟩)] w fun e w' => e = .returned (.pointer (some ⟨b, 0, none⟩)) ∧ In w' (.node b k v l r) ∧ Fr (Kn.node b k v l r).bs w w' := by
  have hbL := Kn.bounds l
  have hbr := Kn.bounds r
  have hbc : l.cnt + r.cnt < 4611686018427387904 := by simp only [Kn.cnt] at hc; omega
  have hw1 : IntKind.i64.wrap (l.hgt - r.hgt) = l.hgt - r.hgt := IntWalk.i64_in _ (by omega)
  have nbl : b ∉ l.bs := by simp only [Kn.bs, List.nodup_cons, List.mem_append, not_or] at hnd; exact hnd.1.1
  have nbr : b ∉ r.bs := by simp only [Kn.bs, List.nodup_cons, List.mem_append, not_or] at hnd; exact hnd.1.2
  obtain ⟨c10, c11, c12, c13, f11, f12, f13⟩ := h1.cells
  go_enter Try.func58, Try.ntmps58
  go_wp2_with fail
  refine still_all (by kernel_rfl) (by kernel_rfl) (fun W hW => ?_)
  have fr1 : Fr [] w W := by rw [hW]; exact (Fr.refl _ _).drew
  clear hW c10 c11 c12 c13 f11 f12 f13
  have h1 := h1.fr fr1 (by simp)
  have il := in_fr fr1 il (by simp)
  have ir := in_fr fr1 ir (by simp)
  obtain ⟨c10, c11, c12, c13, f11, f12, f13⟩ := h1.cells
  repeat still_step
  still_call (depth_any l _ il)
  repeat still_step
  still_call (depth_any r _ ir)
  repeat still_step
  refine wpStill_nil ?_
  have W4 := fresh_top h1 il ir nbl nbr hbc
  go_wp2_with (go_at_call 57; refine W4.mono ?_; clear W4; rintro e w5 ⟨rfl, hi5, fr5⟩)
  go_ret
  exact ⟨rfl, hi5, (fr1.wide (fun _ h => by cases h)).trans fr5 (fun x hx => .inl (by simp at hx; subst hx; simp [Kn.bs]))⟩
/-- 'even'. -/
theorem even_any {b : Nat} {k : ByteArray} {v : Int} {l r : Kn ByteArray Int} {w : World} (h1 : Top w b k v l.adr r.adr) (il : In w l) (ir : In w r) (hnd : (Kn.node b k v l r).bs.Nodup) (hc : (Kn.node b k v l r).cnt < 4611686018427387904) :
    Calls Try.prog 58 #[.pointer (some ⟨b, 0, none⟩)] w fun e w' => e = .returned (.pointer (Kn.even b k v l r).adr) ∧ In w' (Kn.even b k v l r) ∧ Fr (Kn.node b k v l r).bs w w' := by
  by_cases hA : l.hgt - r.hgt > 1
  · cases l with
    | nil => have := Kn.bounds r; simp only [Kn.hgt] at hA; omega
    | node lb lk lv ll lr =>
      by_cases hx : ll.hgt < lr.hgt
      · cases lr with
        | nil => have := Kn.bounds ll; simp only [Kn.hgt] at hx; omega
        | node xb xk xv xl xr =>
          have e : Kn.even b k v (.node lb lk lv ll (.node xb xk xv xl xr)) r = .node xb xk xv (.node lb lk lv ll xl) (.node b k v xr r) := by
            unfold Kn.even; rw [if_pos hA]; simp only [if_pos hx]; rfl
          rw [e]
          exact even_a1 h1 il ir hnd hc hA hx
      · have e : Kn.even b k v (.node lb lk lv ll lr) r = .node lb lk lv ll (.node b k v lr r) := by
          unfold Kn.even; rw [if_pos hA]; simp only [if_neg hx]; rfl
        rw [e]
        exact even_a2 h1 il ir hnd hc hA hx
  · by_cases hB : l.hgt - r.hgt < -1
    · cases r with
      | nil => have := Kn.bounds l; simp only [Kn.hgt] at hB; omega
      | node rb rk rv rl rr =>
        by_cases hx : rr.hgt < rl.hgt
        · cases rl with
          | nil => have := Kn.bounds rr; simp only [Kn.hgt] at hx; omega
          | node xb xk xv xl xr =>
            have e : Kn.even b k v l (.node rb rk rv (.node xb xk xv xl xr) rr) = .node xb xk xv (.node b k v l xl) (.node rb rk rv xr rr) := by
              unfold Kn.even; rw [if_neg hA, if_pos hB]; simp only [if_pos hx]; rfl
            rw [e]
            exact even_b1 h1 il ir hnd hc hB hx
        · have e : Kn.even b k v l (.node rb rk rv rl rr) = .node rb rk rv (.node b k v l rl) rr := by
            unfold Kn.even; rw [if_neg hA, if_pos hB]; simp only [if_neg hx]; rfl
          rw [e]
          exact even_b2 h1 il ir hnd hc hB hx
    · have e : Kn.even b k v l r = .node b k v l r := by unfold Kn.even; rw [if_neg hA, if_neg hB]
      rw [e]
      exact even_c h1 il ir hnd hc (by omega) (by omega)
end Go.Proofs.Ytdbkjpnejihnhaa.OrdSi
