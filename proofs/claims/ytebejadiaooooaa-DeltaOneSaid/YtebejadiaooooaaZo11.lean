/- Texts of one claim (laid by shake.py). -/
import Derived.Test.YtebejadiaooooaaZo10
set_option linter.unusedVariables false
set_option linter.unusedSimpArgs false
section
namespace Go.Proofs.Ytebejadiaooooaa.OrdSs
open Go.RowKit Go.Proofs.YtebejadiaooooaaW.PrintWords Go.Proofs.YtebejadiaooooaaW.PrintLast Go.Proofs.YtebejadiaooooaaW.PrintMore Go.Proofs.Ytebejadiaooooaa.Own Go.Proofs.Ytebejadiaooooaa.Ord
set_option maxHeartbeats 2000000
set_option maxRecDepth 100000
theorem even_a1 {b lb xb : Nat} {k lk xk : ByteArray} {v lv xv : ByteArray} {r ll xl xr : Kn ByteArray ByteArray} {w : World} (h1 : Top w b k v (some ⟨lb, 0, none⟩) r.adr) (il : In w (.node lb lk lv ll (.node xb xk xv xl xr))) (ir : In w r)
    (hnd : (Kn.node b k v (.node lb lk lv ll (.node xb xk xv xl xr)) r).bs.Nodup) (hc : (Kn.node b k v (.node lb lk lv ll (.node xb xk xv xl xr)) r).cnt < 4611686018427387904)
    (hd : 1 < (Kn.node lb lk lv ll (.node xb xk xv xl xr)).hgt - r.hgt) (hx : ll.hgt < (Kn.node xb xk xv xl xr).hgt) :
    Calls Try.prog 132 #[.pointer (some ⟨b, 0, none⟩)] w fun e w' => e = .returned (.pointer (some ⟨xb, 0, none⟩)) ∧ In w' (.node xb xk xv (.node lb lk lv ll xl) (.node b k v xr r)) ∧ Fr (Kn.node b k v (.node lb lk lv ll (.node xb xk xv xl xr)) r).bs w w' := by
  have hndL : (Kn.node lb lk lv ll (.node xb xk xv xl xr)).bs.Nodup := by
    simp only [Kn.bs, List.nodup_cons, List.nodup_append] at hnd ⊢; exact hnd.2.1
  have nbL : b ∉ (Kn.node lb lk lv ll (.node xb xk xv xl xr)).bs := by
    simp only [Kn.bs, List.nodup_cons, List.mem_append, not_or] at hnd ⊢; exact hnd.1.1
  have nbr : b ∉ r.bs := by simp only [Kn.bs, List.nodup_cons, List.mem_append, not_or] at hnd ⊢; exact hnd.1.2
  have nLr : ∀ x ∈ (Kn.node lb lk lv ll (.node xb xk xv xl xr)).bs, x ∉ r.bs := fun x hx hr => by
    have := hnd; simp only [Kn.bs, List.nodup_cons, List.nodup_append] at this hx
    exact this.2.2.2 x hx x hr rfl
  have pU : (Kn.node xb xk xv (.node lb lk lv ll xl) xr).bs.Perm (Kn.node lb lk lv ll (.node xb xk xv xl xr)).bs := Kn.up_bs (.node lb lk lv ll (.node xb xk xv xl xr))
  have hnd2 : (Kn.node b k v (.node xb xk xv (.node lb lk lv ll xl) xr) r).bs.Nodup := (Kn.perm_left pU).nodup_iff.2 hnd
  have hcL : (Kn.node lb lk lv ll (.node xb xk xv xl xr)).cnt < 4611686018427387904 := by
    have := Kn.bounds r; simp only [Kn.cnt] at hc ⊢; omega
  have hc2 : (Kn.node b k v (.node xb xk xv (.node lb lk lv ll xl) xr) r).cnt < 4611686018427387904 := by simp only [Kn.cnt] at hc ⊢; omega
  have hbL := Kn.bounds (Kn.node lb lk lv ll (.node xb xk xv xl xr))
  have hbr := Kn.bounds r
  have hbc : r.cnt < 4611686018427387904 := by simp only [Kn.cnt] at hc; have := Kn.bounds ll; have := Kn.bounds xl; have := Kn.bounds xr; omega
  have hw1 : IntKind.i64.wrap ((Kn.node lb lk lv ll (.node xb xk xv xl xr)).hgt - r.hgt) = (Kn.node lb lk lv ll (.node xb xk xv xl xr)).hgt - r.hgt := IntWalk.i64_in _ (by omega)
  obtain ⟨c10, c11, c12, c13, f11, f12, f13⟩ := h1.cells
  go_enter Try.func132, Try.ntmps132
  go_wp2_with fail
  refine still_all (by kernel_rfl) (by kernel_rfl) (fun W hW => ?_)
  have fr1 : Fr [] w W := by rw [hW]; exact (Fr.refl _ _).drew
  clear hW c10 c11 c12 c13 f11 f12 f13
  have h1 := h1.fr fr1 (by simp)
  have il := in_fr fr1 il (by simp)
  have ir := in_fr fr1 ir (by simp)
  obtain ⟨c10, c11, c12, c13, f11, f12, f13⟩ := h1.cells
  repeat still_step
  still_call (depth_any (Kn.node lb lk lv ll (.node xb xk xv xl xr)) _ il)
  repeat still_step
  still_call (depth_any r _ ir)
  repeat still_step
  refine wpStill_nil ?_
  obtain ⟨D, hD⟩ : ∃ D, D = (Kn.node lb lk lv ll (.node xb xk xv xl xr)).hgt := ⟨_, rfl⟩
  rw [← hD] at hd hw1
  simp only [← hD]
  clear hD
  go_wp2_with fail
  refine still_all (by kernel_rfl) (by kernel_rfl) (fun W2 hW => ?_)
  have fr2 : Fr [] W W2 := by rw [hW]; exact (Fr.refl _ _).drew
  clear hW c10 c11 c12 c13 f11 f12 f13
  have h2 := h1.fr fr2 (by simp)
  have il2 := in_fr fr2 il (by simp)
  have ir2 := in_fr fr2 ir (by simp)
  clear h1 il ir
  obtain ⟨c10, c11, c12, c13, f11, f12, f13⟩ := h2.cells
  obtain ⟨d10, d11, d12, d13, g11, g12, g13⟩ := (Top.of_in il2).cells
  rw [Kn.adr] at d13
  repeat still_step
  still_call (depth_any ll _ il2.2.1)
  repeat still_step
  still_call (depth_any (Kn.node xb xk xv xl xr) _ il2.2.2)
  repeat still_step
  refine wpStill_nil ?_
  obtain ⟨E, hE⟩ : ∃ E, E = (Kn.node xb xk xv xl xr).hgt := ⟨_, rfl⟩
  rw [← hE] at hx
  simp only [← hE]
  clear hE
  have W1 := up_any (Top.of_in il2) (Top.of_in il2.2.2) il2.2.1 il2.2.2.2.1 il2.2.2.2.2 hndL hcL
  have fl : ∀ x ∈ [lb, xb], x ∈ (Kn.node lb lk lv ll (.node xb xk xv xl xr)).bs := by intro x hx; simp at hx; rcases hx with rfl | rfl <;> simp [Kn.bs]
  have fb : b ∉ [lb, xb] := fun h => nbL (fl b h)
  go_wp2_with (first
    | (go_at_call 139
       refine W1.mono ?_
       clear W1
       rintro e w3 ⟨rfl, hi, fr3⟩
       have h3 := h2.fr fr3 fb
       have ir3 := in_fr fr3 ir2 (fun x hx hm => nLr x (fl x hm) hx)
       obtain ⟨c30, c31, c32, c33, f31, f32, f33⟩ := h3.cells
       have nb3 : b ∉ (Kn.node xb xk xv (.node lb lk lv ll xl) xr).bs := fun h => nbL (pU.mem_iff.1 h)
       have hi4 := set_in hi nb3 2 (.pointer (some ⟨xb, 0, none⟩))
       have W4 := down_any (h3.low (some ⟨xb, 0, none⟩)) (Top.of_in hi4) (set_in ir3 nbr 2 _) hi4.2.1 hi4.2.2 hnd2 hc2
       have fr4 : Fr (Kn.node b k v (.node lb lk lv ll (.node xb xk xv xl xr)) r).bs w (w3.setCell ⟨b, 2, none⟩ (.pointer (some ⟨xb, 0, none⟩))) := by
         refine ((((fr1.wide (fun _ h => by cases h)).trans fr2 (fun _ h => by cases h)).trans fr3 (fun x hx => .inl ?_)).set (.inl ?_) _)
         · exact List.mem_cons_of_mem _ (List.mem_append_left _ (fl x hx))
         · simp [Kn.bs]
       clear hi h3 ir3 hi4)
    | (go_at_call 140
       refine W4.mono ?_
       clear W4
       rintro e w5 ⟨rfl, hi5, fr5⟩))
  go_ret
  exact ⟨rfl, hi5, fr4.trans fr5 (fun x hx => .inl (by simp at hx; rcases hx with rfl | rfl <;> simp [Kn.bs]))⟩
theorem even_a2 {b lb : Nat} {k lk : ByteArray} {v lv : ByteArray} {r ll lr : Kn ByteArray ByteArray} {w : World} (h1 : Top w b k v (some ⟨lb, 0, none⟩) r.adr) (il : In w (.node lb lk lv ll lr)) (ir : In w r)
    (hnd : (Kn.node b k v (.node lb lk lv ll lr) r).bs.Nodup) (hc : (Kn.node b k v (.node lb lk lv ll lr) r).cnt < 4611686018427387904)
    (hd : 1 < (Kn.node lb lk lv ll lr).hgt - r.hgt) (hx : ¬ ll.hgt < lr.hgt) :
    Calls Try.prog 132 #[.pointer (some ⟨b, 0, none⟩)] w fun e w' => e = .returned (.pointer (some ⟨lb, 0, none⟩)) ∧ In w' (.node lb lk lv ll (.node b k v lr r)) ∧ Fr (Kn.node b k v (.node lb lk lv ll lr) r).bs w w' := by
  have hbL := Kn.bounds (Kn.node lb lk lv ll lr)
  have hbr := Kn.bounds r
  have hbc : r.cnt < 4611686018427387904 ∧ (Kn.node lb lk lv ll lr).cnt < 4611686018427387904 := by simp only [Kn.cnt] at hc ⊢; have := Kn.bounds ll; have := Kn.bounds lr; omega
  have hw1 : IntKind.i64.wrap ((Kn.node lb lk lv ll lr).hgt - r.hgt) = (Kn.node lb lk lv ll lr).hgt - r.hgt := IntWalk.i64_in _ (by omega)
  have hx2 : lr.hgt ≤ ll.hgt := by omega
  obtain ⟨c10, c11, c12, c13, f11, f12, f13⟩ := h1.cells
  go_enter Try.func132, Try.ntmps132
  go_wp2_with fail
  refine still_all (by kernel_rfl) (by kernel_rfl) (fun W hW => ?_)
  have fr1 : Fr [] w W := by rw [hW]; exact (Fr.refl _ _).drew
  clear hW c10 c11 c12 c13 f11 f12 f13
  have h1 := h1.fr fr1 (by simp)
  have il := in_fr fr1 il (by simp)
  have ir := in_fr fr1 ir (by simp)
  obtain ⟨c10, c11, c12, c13, f11, f12, f13⟩ := h1.cells
  repeat still_step
  still_call (depth_any (Kn.node lb lk lv ll lr) _ il)
  repeat still_step
  still_call (depth_any r _ ir)
  repeat still_step
  refine wpStill_nil ?_
  obtain ⟨D, hD⟩ : ∃ D, D = (Kn.node lb lk lv ll lr).hgt := ⟨_, rfl⟩
  rw [← hD] at hd hw1
  simp only [← hD]
  clear hD
  go_wp2_with fail
  refine still_all (by kernel_rfl) (by kernel_rfl) (fun W2 hW => ?_)
  have fr2 : Fr [] W W2 := by rw [hW]; exact (Fr.refl _ _).drew
  clear hW c10 c11 c12 c13 f11 f12 f13
  have h2 := h1.fr fr2 (by simp)
  have il2 := in_fr fr2 il (by simp)
  have ir2 := in_fr fr2 ir (by simp)
  clear h1 il ir
  obtain ⟨c10, c11, c12, c13, f11, f12, f13⟩ := h2.cells
  obtain ⟨d10, d11, d12, d13, g11, g12, g13⟩ := (Top.of_in il2).cells
  repeat still_step
  still_call (depth_any ll _ il2.2.1)
  repeat still_step
  still_call (depth_any lr _ il2.2.2)
  repeat still_step
  refine wpStill_nil ?_
  have W4 := down_any h2 (Top.of_in il2) ir2 il2.2.1 il2.2.2 hnd hc
  have fr4 : Fr (Kn.node b k v (.node lb lk lv ll lr) r).bs w W2 := (fr1.wide (fun _ h => by cases h)).trans fr2 (fun _ h => by cases h)
  go_wp2_with (go_at_call 140; refine W4.mono ?_; clear W4; rintro e w5 ⟨rfl, hi5, fr5⟩)
  go_ret
  exact ⟨rfl, hi5, fr4.trans fr5 (fun x hx => .inl (by simp at hx; rcases hx with rfl | rfl <;> simp [Kn.bs]))⟩
theorem even_b1 {b rb xb : Nat} {k rk xk : ByteArray} {v rv xv : ByteArray} {l rr xl xr : Kn ByteArray ByteArray} {w : World} (h1 : Top w b k v l.adr (some ⟨rb, 0, none⟩)) (il : In w l) (ir : In w (.node rb rk rv (.node xb xk xv xl xr) rr))
    (hnd : (Kn.node b k v l (.node rb rk rv (.node xb xk xv xl xr) rr)).bs.Nodup) (hc : (Kn.node b k v l (.node rb rk rv (.node xb xk xv xl xr) rr)).cnt < 4611686018427387904)
    (hd : l.hgt - (Kn.node rb rk rv (.node xb xk xv xl xr) rr).hgt < -1) (hx : rr.hgt < (Kn.node xb xk xv xl xr).hgt) :
    Calls Try.prog 132 #[.pointer (some ⟨b, 0, none⟩)] w fun e w' => e = .returned (.pointer (some ⟨xb, 0, none⟩)) ∧ In w' (.node xb xk xv (.node b k v l xl) (.node rb rk rv xr rr)) ∧ Fr (Kn.node b k v l (.node rb rk rv (.node xb xk xv xl xr) rr)).bs w w' := by
  have hndL : (Kn.node rb rk rv (.node xb xk xv xl xr) rr).bs.Nodup := by
    simp only [Kn.bs, List.nodup_cons, List.nodup_append] at hnd ⊢; exact hnd.2.2.1
  have nbL : b ∉ (Kn.node rb rk rv (.node xb xk xv xl xr) rr).bs := by
    simp only [Kn.bs, List.nodup_cons, List.mem_append, not_or] at hnd ⊢; exact hnd.1.2
  have nbr : b ∉ l.bs := by simp only [Kn.bs, List.nodup_cons, List.mem_append, not_or] at hnd ⊢; exact hnd.1.1
  have nLr : ∀ x ∈ (Kn.node rb rk rv (.node xb xk xv xl xr) rr).bs, x ∉ l.bs := fun x hx hr => by
    have := hnd; simp only [Kn.bs, List.nodup_cons, List.nodup_append] at this hx
    exact this.2.2.2 x hr x hx rfl
  have pU : (Kn.node xb xk xv xl (.node rb rk rv xr rr)).bs.Perm (Kn.node rb rk rv (.node xb xk xv xl xr) rr).bs := Kn.down_bs (.node rb rk rv (.node xb xk xv xl xr) rr)
  have hnd2 : (Kn.node b k v l (.node xb xk xv xl (.node rb rk rv xr rr))).bs.Nodup := (Kn.perm_right pU).nodup_iff.2 hnd
  have hcL : (Kn.node rb rk rv (.node xb xk xv xl xr) rr).cnt < 4611686018427387904 := by
    have := Kn.bounds l; simp only [Kn.cnt] at hc ⊢; omega
  have hc2 : (Kn.node b k v l (.node xb xk xv xl (.node rb rk rv xr rr))).cnt < 4611686018427387904 := by simp only [Kn.cnt] at hc ⊢; omega
  have hbL := Kn.bounds (Kn.node rb rk rv (.node xb xk xv xl xr) rr)
  have hbr := Kn.bounds l
  have hbc : l.cnt < 4611686018427387904 := by simp only [Kn.cnt] at hc; have := Kn.bounds rr; have := Kn.bounds xl; have := Kn.bounds xr; omega
  have hw1 : IntKind.i64.wrap (l.hgt - (Kn.node rb rk rv (.node xb xk xv xl xr) rr).hgt) = l.hgt - (Kn.node rb rk rv (.node xb xk xv xl xr) rr).hgt := IntWalk.i64_in _ (by omega)
  obtain ⟨c10, c11, c12, c13, f11, f12, f13⟩ := h1.cells
  go_enter Try.func132, Try.ntmps132
  go_wp2_with fail
  refine still_all (by kernel_rfl) (by kernel_rfl) (fun W hW => ?_)
  have fr1 : Fr [] w W := by rw [hW]; exact (Fr.refl _ _).drew
  clear hW c10 c11 c12 c13 f11 f12 f13
  have h1 := h1.fr fr1 (by simp)
  have il := in_fr fr1 il (by simp)
  have ir := in_fr fr1 ir (by simp)
  obtain ⟨c10, c11, c12, c13, f11, f12, f13⟩ := h1.cells
  repeat still_step
  still_call (depth_any l _ il)
  repeat still_step
  still_call (depth_any (Kn.node rb rk rv (.node xb xk xv xl xr) rr) _ ir)
  repeat still_step
  refine wpStill_nil ?_
  obtain ⟨D, hD⟩ : ∃ D, D = (Kn.node rb rk rv (.node xb xk xv xl xr) rr).hgt := ⟨_, rfl⟩
  rw [← hD] at hd hw1
  simp only [← hD]
  clear hD
  have hd0 : l.hgt - D ≤ 1 := by omega
  go_wp2_with fail
  refine still_all (by kernel_rfl) (by kernel_rfl) (fun W2 hW => ?_)
  have fr2 : Fr [] W W2 := by rw [hW]; exact (Fr.refl _ _).drew
  clear hW c10 c11 c12 c13 f11 f12 f13
  have h2 := h1.fr fr2 (by simp)
  have il2 := in_fr fr2 il (by simp)
  have ir2 := in_fr fr2 ir (by simp)
  clear h1 il ir
  obtain ⟨c10, c11, c12, c13, f11, f12, f13⟩ := h2.cells
  obtain ⟨d10, d11, d12, d13, g11, g12, g13⟩ := (Top.of_in ir2).cells
  rw [Kn.adr] at d12
  repeat still_step
  still_call (depth_any rr _ ir2.2.2)
  repeat still_step
  still_call (depth_any (Kn.node xb xk xv xl xr) _ ir2.2.1)
  repeat still_step
  refine wpStill_nil ?_
  obtain ⟨E, hE⟩ : ∃ E, E = (Kn.node xb xk xv xl xr).hgt := ⟨_, rfl⟩
  rw [← hE] at hx
  simp only [← hE]
  clear hE
  have W1 := down_any (Top.of_in ir2) (Top.of_in ir2.2.1) ir2.2.2 ir2.2.1.2.1 ir2.2.1.2.2 hndL hcL
  have fl : ∀ x ∈ [rb, xb], x ∈ (Kn.node rb rk rv (.node xb xk xv xl xr) rr).bs := by intro x hx; simp at hx; rcases hx with rfl | rfl <;> simp [Kn.bs]
  have fb : b ∉ [rb, xb] := fun h => nbL (fl b h)
  go_wp2_with (first
    | (go_at_call 140
       refine W1.mono ?_
       clear W1
       rintro e w3 ⟨rfl, hi, fr3⟩
       have h3 := h2.fr fr3 fb
       have il3 := in_fr fr3 il2 (fun x hx hm => nLr x (fl x hm) hx)
       obtain ⟨c30, c31, c32, c33, f31, f32, f33⟩ := h3.cells
       have nb3 : b ∉ (Kn.node xb xk xv xl (.node rb rk rv xr rr)).bs := fun h => nbL (pU.mem_iff.1 h)
       have hi4 := set_in hi nb3 3 (.pointer (some ⟨xb, 0, none⟩))
       have W4 := up_any (h3.high (some ⟨xb, 0, none⟩)) (Top.of_in hi4) (set_in il3 nbr 3 _) hi4.2.1 hi4.2.2 hnd2 hc2
       have fr4 : Fr (Kn.node b k v l (.node rb rk rv (.node xb xk xv xl xr) rr)).bs w (w3.setCell ⟨b, 3, none⟩ (.pointer (some ⟨xb, 0, none⟩))) := by
         refine ((((fr1.wide (fun _ h => by cases h)).trans fr2 (fun _ h => by cases h)).trans fr3 (fun x hx => .inl ?_)).set (.inl ?_) _)
         · exact List.mem_cons_of_mem _ (List.mem_append_right _ (fl x hx))
         · simp [Kn.bs]
       clear hi h3 il3 hi4)
    | (go_at_call 139
       refine W4.mono ?_
       clear W4
       rintro e w5 ⟨rfl, hi5, fr5⟩))
  go_ret
  exact ⟨rfl, hi5, fr4.trans fr5 (fun x hx => .inl (by simp at hx; rcases hx with rfl | rfl <;> simp [Kn.bs]))⟩
theorem even_b2 {b rb : Nat} {k rk : ByteArray} {v rv : ByteArray} {l rl rr : Kn ByteArray ByteArray} {w : World} (h1 : Top w b k v l.adr (some ⟨rb, 0, none⟩)) (il : In w l) (ir : In w (.node rb rk rv rl rr))
    (hnd : (Kn.node b k v l (.node rb rk rv rl rr)).bs.Nodup) (hc : (Kn.node b k v l (.node rb rk rv rl rr)).cnt < 4611686018427387904)
    (hd : l.hgt - (Kn.node rb rk rv rl rr).hgt < -1) (hx : ¬ rr.hgt < rl.hgt) :
    Calls Try.prog 132 #[.pointer (some ⟨b, 0, none⟩)] w fun e w' => e = .returned (.pointer (some ⟨rb, 0, none⟩)) ∧ In w' (.node rb rk rv (.node b k v l rl) rr) ∧ Fr (Kn.node b k v l (.node rb rk rv rl rr)).bs w w' := by
  have hbL := Kn.bounds (Kn.node rb rk rv rl rr)
  have hbr := Kn.bounds l
  have hbc : l.cnt < 4611686018427387904 ∧ (Kn.node rb rk rv rl rr).cnt < 4611686018427387904 := by simp only [Kn.cnt] at hc ⊢; have := Kn.bounds rl; have := Kn.bounds rr; omega
  have hw1 : IntKind.i64.wrap (l.hgt - (Kn.node rb rk rv rl rr).hgt) = l.hgt - (Kn.node rb rk rv rl rr).hgt := IntWalk.i64_in _ (by omega)
  have hx2 : rl.hgt ≤ rr.hgt := by omega
  obtain ⟨c10, c11, c12, c13, f11, f12, f13⟩ := h1.cells
  go_enter Try.func132, Try.ntmps132
  go_wp2_with fail
  refine still_all (by kernel_rfl) (by kernel_rfl) (fun W hW => ?_)
  have fr1 : Fr [] w W := by rw [hW]; exact (Fr.refl _ _).drew
  clear hW c10 c11 c12 c13 f11 f12 f13
  have h1 := h1.fr fr1 (by simp)
  have il := in_fr fr1 il (by simp)
  have ir := in_fr fr1 ir (by simp)
  obtain ⟨c10, c11, c12, c13, f11, f12, f13⟩ := h1.cells
  repeat still_step
  still_call (depth_any l _ il)
  repeat still_step
  still_call (depth_any (Kn.node rb rk rv rl rr) _ ir)
  repeat still_step
  refine wpStill_nil ?_
  obtain ⟨D, hD⟩ : ∃ D, D = (Kn.node rb rk rv rl rr).hgt := ⟨_, rfl⟩
  rw [← hD] at hd hw1
  simp only [← hD]
  clear hD
  have hd0 : l.hgt - D ≤ 1 := by omega
  go_wp2_with fail
  refine still_all (by kernel_rfl) (by kernel_rfl) (fun W2 hW => ?_)
  have fr2 : Fr [] W W2 := by rw [hW]; exact (Fr.refl _ _).drew
  clear hW c10 c11 c12 c13 f11 f12 f13
  have h2 := h1.fr fr2 (by simp)
  have il2 := in_fr fr2 il (by simp)
  have ir2 := in_fr fr2 ir (by simp)
  clear h1 il ir
  obtain ⟨c10, c11, c12, c13, f11, f12, f13⟩ := h2.cells
  obtain ⟨d10, d11, d12, d13, g11, g12, g13⟩ := (Top.of_in ir2).cells
  repeat still_step
  still_call (depth_any rr _ ir2.2.2)
  repeat still_step
  still_call (depth_any rl _ ir2.2.1)
  repeat still_step
  refine wpStill_nil ?_
  have W4 := up_any h2 (Top.of_in ir2) il2 ir2.2.1 ir2.2.2 hnd hc
  have fr4 : Fr (Kn.node b k v l (.node rb rk rv rl rr)).bs w W2 := (fr1.wide (fun _ h => by cases h)).trans fr2 (fun _ h => by cases h)
  go_wp2_with (go_at_call 139; refine W4.mono ?_; clear W4; rintro e w5 ⟨rfl, hi5, fr5⟩)
  go_ret
  exact ⟨rfl, hi5, fr4.trans fr5 (fun x hx => .inl (by simp at hx; rcases hx with rfl | rfl <;> simp [Kn.bs]))⟩
theorem even_c {b : Nat} {k : ByteArray} {v : ByteArray} {l r : Kn ByteArray ByteArray} {w : World} (h1 : Top w b k v l.adr r.adr) (il : In w l) (ir : In w r)
    (hnd : (Kn.node b k v l r).bs.Nodup) (hc : (Kn.node b k v l r).cnt < 4611686018427387904) (hd : l.hgt - r.hgt ≤ 1) (hx : -1 ≤ l.hgt - r.hgt) :
    Calls Try.prog 132 #[.pointer (some ⟨b, 0, none⟩)] w fun e w' => e = .returned (.pointer (some ⟨b, 0, none⟩)) ∧ In w' (.node b k v l r) ∧ Fr (Kn.node b k v l r).bs w w' := by
  have hbL := Kn.bounds l
  have hbr := Kn.bounds r
  have hbc : l.cnt + r.cnt < 4611686018427387904 := by simp only [Kn.cnt] at hc; omega
  have hw1 : IntKind.i64.wrap (l.hgt - r.hgt) = l.hgt - r.hgt := IntWalk.i64_in _ (by omega)
  have nbl : b ∉ l.bs := by simp only [Kn.bs, List.nodup_cons, List.mem_append, not_or] at hnd; exact hnd.1.1
  have nbr : b ∉ r.bs := by simp only [Kn.bs, List.nodup_cons, List.mem_append, not_or] at hnd; exact hnd.1.2
  obtain ⟨c10, c11, c12, c13, f11, f12, f13⟩ := h1.cells
  go_enter Try.func132, Try.ntmps132
  go_wp2_with fail
  refine still_all (by kernel_rfl) (by kernel_rfl) (fun W hW => ?_)
  have fr1 : Fr [] w W := by rw [hW]; exact (Fr.refl _ _).drew
  clear hW c10 c11 c12 c13 f11 f12 f13
  have h1 := h1.fr fr1 (by simp)
  have il := in_fr fr1 il (by simp)
  have ir := in_fr fr1 ir (by simp)
  obtain ⟨c10, c11, c12, c13, f11, f12, f13⟩ := h1.cells
  repeat still_step
  still_call (depth_any l _ il)
  repeat still_step
  still_call (depth_any r _ ir)
  repeat still_step
  refine wpStill_nil ?_
  have W4 := fresh_top h1 il ir nbl nbr hbc
  go_wp2_with (go_at_call 131; refine W4.mono ?_; clear W4; rintro e w5 ⟨rfl, hi5, fr5⟩)
  go_ret
  exact ⟨rfl, hi5, (fr1.wide (fun _ h => by cases h)).trans fr5 (fun x hx => .inl (by simp at hx; subst hx; simp [Kn.bs]))⟩
theorem even_any {b : Nat} {k : ByteArray} {v : ByteArray} {l r : Kn ByteArray ByteArray} {w : World} (h1 : Top w b k v l.adr r.adr) (il : In w l) (ir : In w r) (hnd : (Kn.node b k v l r).bs.Nodup) (hc : (Kn.node b k v l r).cnt < 4611686018427387904) :
    Calls Try.prog 132 #[.pointer (some ⟨b, 0, none⟩)] w fun e w' => e = .returned (.pointer (Kn.even b k v l r).adr) ∧ In w' (Kn.even b k v l r) ∧ Fr (Kn.node b k v l r).bs w w' := by
  by_cases hA : l.hgt - r.hgt > 1
  · cases l with
    | nil => have := Kn.bounds r; simp only [Kn.hgt] at hA; omega
    | node lb lk lv ll lr =>
      by_cases hx : ll.hgt < lr.hgt
      · cases lr with
        | nil => have := Kn.bounds ll; simp only [Kn.hgt] at hx; omega
        | node xb xk xv xl xr =>
          have e : Kn.even b k v (.node lb lk lv ll (.node xb xk xv xl xr)) r = .node xb xk xv (.node lb lk lv ll xl) (.node b k v xr r) := by
            unfold Kn.even; rw [if_pos hA]; simp only [if_pos hx]; rfl
          rw [e]
          exact even_a1 h1 il ir hnd hc hA hx
      · have e : Kn.even b k v (.node lb lk lv ll lr) r = .node lb lk lv ll (.node b k v lr r) := by
          unfold Kn.even; rw [if_pos hA]; simp only [if_neg hx]; rfl
        rw [e]
        exact even_a2 h1 il ir hnd hc hA hx
  · by_cases hB : l.hgt - r.hgt < -1
    · cases r with
      | nil => have := Kn.bounds l; simp only [Kn.hgt] at hB; omega
      | node rb rk rv rl rr =>
        by_cases hx : rr.hgt < rl.hgt
        · cases rl with
          | nil => have := Kn.bounds rr; simp only [Kn.hgt] at hx; omega
          | node xb xk xv xl xr =>
            have e : Kn.even b k v l (.node rb rk rv (.node xb xk xv xl xr) rr) = .node xb xk xv (.node b k v l xl) (.node rb rk rv xr rr) := by
              unfold Kn.even; rw [if_neg hA, if_pos hB]; simp only [if_pos hx]; rfl
            rw [e]
            exact even_b1 h1 il ir hnd hc hB hx
        · have e : Kn.even b k v l (.node rb rk rv rl rr) = .node rb rk rv (.node b k v l rl) rr := by
            unfold Kn.even; rw [if_neg hA, if_pos hB]; simp only [if_neg hx]; rfl
          rw [e]
          exact even_b2 h1 il ir hnd hc hB hx
    · have e : Kn.even b k v l r = .node b k v l r := by unfold Kn.even; rw [if_neg hA, if_neg hB]
      rw [e]
      exact even_c h1 il ir hnd hc (by omega) (by omega)
end Go.Proofs.Ytebejadiaooooaa.OrdSs
end
section
namespace Go.Proofs.Ytebejadiaooooaa.OrdSs
open Go.RowKit Go.Proofs.YtebejadiaooooaaW.PrintWords Go.Proofs.YtebejadiaooooaaW.PrintLast Go.Proofs.YtebejadiaooooaaW.PrintMore Go.Proofs.Ytebejadiaooooaa.Own Go.Proofs.Ytebejadiaooooaa.Ord
abbrev lt (a b : ByteArray) : Bool := Op.bytesLess a.toList b.toList
set_option maxHeartbeats 2000000
set_option maxRecDepth 100000
theorem nan_any (x : ByteArray) (w : World) : Calls Try.prog 134 #[.string x] w fun e w' => e = .returned (.bool false) ∧ w' = w := by
  go_enter Try.func134, Try.ntmps134
  go_wp2
  go_ret
  simp
theorem cmp_any (x y : ByteArray) (w : World) : Calls Try.prog 125 #[.string x, .string y] w fun e w' => e = .returned (.int .i64 (Kn.cmpK lt x y)) ∧ w' = w := by
  unfold Kn.cmpK
  by_cases h1 : lt x y = true
  · rw [if_pos h1]
    go_enter Try.func125, Try.ntmps125
    go_wp2_with (go_at_call 134; refine (nan_any _ _).mono ?_; rintro e w1 ⟨rfl, rfl⟩)
    go_ret
    simp
  · rw [if_neg h1]
    by_cases h2 : lt y x = true
    · rw [if_pos h2]
      go_enter Try.func125, Try.ntmps125
      go_wp2_with (go_at_call 134; refine (nan_any _ _).mono ?_; rintro e w1 ⟨rfl, rfl⟩)
      go_ret
      simp
    · rw [if_neg h2]
      go_enter Try.func125, Try.ntmps125
      go_wp2_with (go_at_call 134; refine (nan_any _ _).mono ?_; rintro e w1 ⟨rfl, rfl⟩)
      go_ret
      simp
theorem put_any (key : ByteArray) (val : ByteArray) (T : Kn ByteArray ByteArray) : ∀ w : World, In w T → T.bs.Nodup → T.cnt + 1 < 4611686018427387904 →
    Calls Try.prog 119 #[.pointer T.adr, .string key, .string val] w fun e w' => ∃ nb, w.heap.size ≤ nb ∧ e = .returned (.pointer (Kn.put lt nb key val T).adr) ∧ In w' (Kn.put lt nb key val T) ∧ Fr T.bs w w' := by
  induction T with
  | nil =>
    intro w _ _ _
    show Calls Try.prog 119 #[.pointer none, .string key, .string val] w _
    have W1 := fresh_top (l := .nil) (r := .nil) (w := w.alloc (.cells #[.string key, .string val, .pointer none, .pointer none, .int .i64 0, .int .i64 0] 126)) (b := w.heap.size) (k := key) (v := val) ⟨0, 0, blk_new _ _⟩ trivial trivial (by simp [Kn.bs]) (by simp [Kn.bs]) (by simp [Kn.cnt])
    go_enter Try.func119, Try.ntmps119
    go_wp2_with (go_at_call 131; refine W1.mono ?_; clear W1; rintro e w1 ⟨rfl, hi, fr⟩)
    go_ret
    exact ⟨w.heap.size, Nat.le_refl _, rfl, hi, ((Fr.refl _ _).alloc _).trans fr (fun x hx => .inr (by simp at hx; omega))⟩
  | node b k v l r ihl ihr =>
    intro w hin hnd hc
    have nbl : b ∉ l.bs := by simp only [Kn.bs, List.nodup_cons, List.mem_append, not_or] at hnd; exact hnd.1.1
    have nbr : b ∉ r.bs := by simp only [Kn.bs, List.nodup_cons, List.mem_append, not_or] at hnd; exact hnd.1.2
    have ndl : l.bs.Nodup := by simp only [Kn.bs, List.nodup_cons, List.nodup_append] at hnd; exact hnd.2.1
    have ndr : r.bs.Nodup := by simp only [Kn.bs, List.nodup_cons, List.nodup_append] at hnd; exact hnd.2.2.1
    have dj : ∀ x ∈ l.bs, x ∉ r.bs := fun x hx hr => by simp only [Kn.bs, List.nodup_cons, List.nodup_append] at hnd; exact hnd.2.2.2 x hx x hr rfl
    have hcl := Kn.bounds l
    have hcr := Kn.bounds r
    simp only [Kn.cnt] at hc
    have h1 := Top.of_in hin
    have ltw := in_lt hin
    have il := hin.2.1
    have ir := hin.2.2
    obtain ⟨c10, c11, c12, c13, f11, f12, f13⟩ := h1.cells
    show Calls Try.prog 119 #[.pointer (some ⟨b, 0, none⟩), .string key, .string val] w _
    by_cases hA : lt key k = true
    · have hcmp : ∀ W, Calls Try.prog 125 #[.string key, .string k] W fun e w' => e = .returned (.int .i64 (-1)) ∧ w' = W := fun W => by
        have := cmp_any key k W; unfold Kn.cmpK at this; rw [if_pos hA] at this; exact this
      clear hin
      go_enter Try.func119, Try.ntmps119
      go_wp2_with (first
        | (go_at_call 125; refine (hcmp _).mono ?_; rintro e w1 ⟨rfl, hw⟩; obtain rfl := hw.symm)
        | (go_at_call 119
           refine (ihl _ il ndl (by omega)).mono ?_
           rintro e w2 ⟨nb, hnb, rfl, hi, fr⟩
           have h2 := h1.fr fr nbl
           have io2 := in_fr fr ir (fun x hx hm => dj x hm hx)
           obtain ⟨c20, c21, c22, c23, f21, f22, f23⟩ := h2.cells
           have bP : b ∉ (Kn.put lt nb key val l).bs := fun h => by
             rcases Kn.put_mem h with e | e
             · have := ltw b (by simp [Kn.bs]); omega
             · exact nbl e
           have nP : nb ∉ (Kn.node b k v l r).bs := fun h => by have := ltw nb h; omega
           have W3 := even_any (h2.low (Kn.put lt nb key val l).adr) (set_in hi bP 2 _) (set_in io2 nbr 2 _) (Kn.put_left_nodup hnd nP) (by have := Kn.put_cnt lt nb key val l; simp only [Kn.cnt]; omega)
           have fr2 : Fr (Kn.node b k v l r).bs w (w2.setCell ⟨b, 2, none⟩ (.pointer (Kn.put lt nb key val l).adr)) :=
             (fr.wide (fun x hx => .inl (List.mem_cons_of_mem _ (List.mem_append_left _ hx)))).set (.inl (by simp [Kn.bs])) _
           clear hi io2)
        | (go_at_call 132
           refine W3.mono ?_
           clear W3
           rintro e w4 ⟨rfl, hi4, fr4⟩))
      go_ret
      have e : Kn.put lt nb key val (.node b k v l r) = Kn.even b k v (Kn.put lt nb key val l) r := by simp only [Kn.put]; rw [if_pos hA]
      refine ⟨nb, ?_⟩
      rw [e]
      exact ⟨hnb, rfl, hi4, fr2.trans fr4 (fun x hx => by
        simp only [Kn.bs, List.mem_cons, List.mem_append] at hx ⊢
        rcases hx with hx | hx | hx
        · exact .inl (.inl hx)
        · rcases Kn.put_mem hx with e | e; exact .inr (by omega); exact .inl (.inr (.inl e))
        · exact .inl (.inr (.inr hx)))⟩
    · by_cases hB : lt k key = true
      · have hcmp : ∀ W, Calls Try.prog 125 #[.string key, .string k] W fun e w' => e = .returned (.int .i64 1) ∧ w' = W := fun W => by
          have := cmp_any key k W; unfold Kn.cmpK at this; rw [if_neg hA, if_pos hB] at this; exact this
        clear hin
        go_enter Try.func119, Try.ntmps119
        go_wp2_with (first
          | (go_at_call 125; refine (hcmp _).mono ?_; rintro e w1 ⟨rfl, hw⟩; obtain rfl := hw.symm)
          | (go_at_call 119
             refine (ihr _ ir ndr (by omega)).mono ?_
             rintro e w2 ⟨nb, hnb, rfl, hi, fr⟩
             have h2 := h1.fr fr nbr
             have io2 := in_fr fr il (fun x hx hm => dj x hx hm)
             obtain ⟨c20, c21, c22, c23, f21, f22, f23⟩ := h2.cells
             have bP : b ∉ (Kn.put lt nb key val r).bs := fun h => by
               rcases Kn.put_mem h with e | e
               · have := ltw b (by simp [Kn.bs]); omega
               · exact nbr e
             have nP : nb ∉ (Kn.node b k v l r).bs := fun h => by have := ltw nb h; omega
             have W3 := even_any (h2.high (Kn.put lt nb key val r).adr) (set_in io2 nbl 3 _) (set_in hi bP 3 _) (Kn.put_right_nodup hnd nP) (by have := Kn.put_cnt lt nb key val r; simp only [Kn.cnt]; omega)
             have fr2 : Fr (Kn.node b k v l r).bs w (w2.setCell ⟨b, 3, none⟩ (.pointer (Kn.put lt nb key val r).adr)) :=
               (fr.wide (fun x hx => .inl (List.mem_cons_of_mem _ (List.mem_append_right _ hx)))).set (.inl (by simp [Kn.bs])) _
             clear hi io2)
          | (go_at_call 132
             refine W3.mono ?_
             clear W3
             rintro e w4 ⟨rfl, hi4, fr4⟩))
        go_ret
        have e : Kn.put lt nb key val (.node b k v l r) = Kn.even b k v l (Kn.put lt nb key val r) := by simp only [Kn.put]; rw [if_neg hA, if_pos hB]
        refine ⟨nb, ?_⟩
        rw [e]
        exact ⟨hnb, rfl, hi4, fr2.trans fr4 (fun x hx => by
          simp only [Kn.bs, List.mem_cons, List.mem_append] at hx ⊢
          rcases hx with hx | hx | hx
          · exact .inl (.inl hx)
          · exact .inl (.inr (.inl hx))
          · rcases Kn.put_mem hx with e | e; exact .inr (by omega); exact .inl (.inr (.inr e)))⟩
      · have hcmp : ∀ W, Calls Try.prog 125 #[.string key, .string k] W fun e w' => e = .returned (.int .i64 0) ∧ w' = W := fun W => by
          have := cmp_any key k W; unfold Kn.cmpK at this; rw [if_neg hA, if_neg hB] at this; exact this
        have hbl := hin.1
        clear ihl ihr h1 hin
        go_enter Try.func119, Try.ntmps119
        go_wp2_with (go_at_call 125; refine (hcmp _).mono ?_; rintro e w1 ⟨rfl, hw⟩; obtain rfl := hw.symm)
        go_ret
        have e : Kn.put lt w.heap.size key val (.node b k v l r) = .node b k val l r := by simp only [Kn.put]; rw [if_neg hA, if_neg hB]
        have f0 : ∀ u, Fr [b] w (w.setCell ⟨b, 1, none⟩ u) := fun u => (Fr.refl _ _).set (.inl (by simp)) u
        refine ⟨w.heap.size, Nat.le_refl _, ?_⟩
        rw [e]
        exact ⟨rfl, ⟨blk_put hbl 1 _ rfl, in_fr (f0 _) il (fun x hx => by simp; rintro rfl; exact nbl hx), in_fr (f0 _) ir (fun x hx => by simp; rintro rfl; exact nbr hx)⟩, (f0 _).wide (fun x hx => .inl (by simp at hx; simp [Kn.bs, hx]))⟩
end Go.Proofs.Ytebejadiaooooaa.OrdSs
end
section
namespace Go.Proofs.Ytebejadiaooooaa.OrdSs
open Go.RowKit Go.Proofs.YtebejadiaooooaaW.PrintWords Go.Proofs.YtebejadiaooooaaW.PrintLast Go.Proofs.YtebejadiaooooaaW.PrintMore Go.Proofs.Ytebejadiaooooaa.Own Go.Proofs.Ytebejadiaooooaa.Ord
set_option maxHeartbeats 2000000
set_option maxRecDepth 100000
theorem find_any (key : ByteArray) (T : Kn ByteArray ByteArray) (w : World) (hin : In w T) :
  Calls Try.prog 107 #[.pointer T.adr, .string key] w fun e w' => e = .returned (.pointer (Kn.find lt key T).adr) ∧ w' = w := by
 go_enter Try.func107, Try.ntmps107
 go_wp2
 go_loopg [0] T.bs.length (fun n p wr => ∃ T' : Kn ByteArray ByteArray, p = .pointer T'.adr ∧ T'.bs.length = n ∧ In w T' ∧ Aside (Kn.find lt key T' = Kn.find lt key T) ∧ wr = w)
 case atStart => exact ⟨T, rfl, rfl, hin, rfl, rfl⟩
 case round =>
  obtain ⟨T', rfl, hn, hi, hf, hw⟩ := hrel
  subst hw
  cases T' with
  | nil =>
   simp only [show (Kn.nil : Kn ByteArray ByteArray).adr = none from rfl]
   go_wp2
   go_ret
   exact ⟨by rw [← hf.out]; rfl, rfl⟩
  | node b k v l r =>
   have h1 := Top.of_in hi
   obtain ⟨c10, c11, c12, c13, f11, f12, f13⟩ := h1.cells
   simp only [show (Kn.node b k v l r).adr = some ⟨b, 0, none⟩ from rfl]
   by_cases hA : lt key k = true
   ·have hcmp : ∀ W, Calls Try.prog 125 #[.string key, .string k] W fun e w' => e = .returned (.int .i64 (-1)) ∧ w' = W := fun W => by
     have := cmp_any key k W; unfold Kn.cmpK at this; rw [if_pos hA] at this; exact this
    have hf2 : Aside (Kn.find lt key l = Kn.find lt key T) := (show Kn.find lt key (Kn.node b k v l r) = Kn.find lt key l from by simp only [Kn.find]; rw [if_pos hA]).symm.trans hf.out
    go_wp2_with (go_at_call 125; refine (hcmp _).mono ?_; rintro e w1 ⟨rfl, hw⟩; obtain rfl := hw.symm)
    go_roundg l.bs.length
    case measure => simp [Kn.bs] at hn; omega
    case rel => exact ⟨l, rfl, rfl, hi.2.1, hf2, rfl⟩
   ·by_cases hB : lt k key = true
    ·have hcmp : ∀ W, Calls Try.prog 125 #[.string key, .string k] W fun e w' => e = .returned (.int .i64 1) ∧ w' = W := fun W => by
      have := cmp_any key k W; unfold Kn.cmpK at this; rw [if_neg hA, if_pos hB] at this; exact this
     have hf2 : Aside (Kn.find lt key r = Kn.find lt key T) := (show Kn.find lt key (Kn.node b k v l r) = Kn.find lt key r from by simp only [Kn.find]; rw [if_neg hA, if_pos hB]).symm.trans hf.out
     go_wp2_with (go_at_call 125; refine (hcmp _).mono ?_; rintro e w1 ⟨rfl, hw⟩; obtain rfl := hw.symm)
     go_roundg r.bs.length
     case measure => simp [Kn.bs] at hn; omega
     case rel => exact ⟨r, rfl, rfl, hi.2.2, hf2, rfl⟩
    ·have hcmp : ∀ W, Calls Try.prog 125 #[.string key, .string k] W fun e w' => e = .returned (.int .i64 0) ∧ w' = W := fun W => by
      have := cmp_any key k W; unfold Kn.cmpK at this; rw [if_neg hA, if_neg hB] at this; exact this
     have hf2 : Aside (Kn.node b k v l r = Kn.find lt key T) := (show Kn.find lt key (Kn.node b k v l r) = Kn.node b k v l r from by simp only [Kn.find]; rw [if_neg hA, if_neg hB]).symm.trans hf.out
     go_wp2_with (go_at_call 125; refine (hcmp _).mono ?_; rintro e w1 ⟨rfl, hw⟩; obtain rfl := hw.symm)
     go_ret
     exact ⟨by rw [← hf2.out]; rfl, rfl⟩
end Go.Proofs.Ytebejadiaooooaa.OrdSs
end
section
namespace Go.Proofs.Ytebejadiaooooaa.OrdSs
open Go.RowKit Go.Proofs.YtebejadiaooooaaW.PrintWords Go.Proofs.YtebejadiaooooaaW.PrintLast Go.Proofs.YtebejadiaooooaaW.PrintMore Go.Proofs.Ytebejadiaooooaa.Own Go.Proofs.Ytebejadiaooooaa.Ord
set_option maxHeartbeats 2000000
set_option maxRecDepth 100000
theorem least_any (l : Kn ByteArray ByteArray) : ∀ (b : Nat) (k : ByteArray) (v : ByteArray) (r : Kn ByteArray ByteArray) (w : World), In w (.node b k v l r) → (Kn.node b k v l r).bs.Nodup → (Kn.node b k v l r).cnt < 4611686018427387904 →
    Calls Try.prog 133 #[.pointer (some ⟨b, 0, none⟩)] w fun e w' => e = .returned (.tuple #[.pointer (Kn.least b k v l r).1.adr, .pointer (some ⟨(Kn.least b k v l r).2.1, 0, none⟩)]) ∧ In w' (Kn.least b k v l r).1 ∧ Fr (Kn.node b k v l r).bs w w' ∧
      (∃ lo, Top w' (Kn.least b k v l r).2.1 (Kn.least b k v l r).2.2.1 (Kn.least b k v l r).2.2.2.1 lo (Kn.least b k v l r).2.2.2.2.adr) := by
  induction l with
  | nil =>
    intro b k v r w hin hnd hc
    have h1 := Top.of_in hin
    obtain ⟨c10, c11, c12, c13, f11, f12, f13⟩ := h1.cells
    rw [show (Kn.nil : Kn ByteArray ByteArray).adr = none from rfl] at c12
    go_enter Try.func133, Try.ntmps133
    go_wp2
    go_ret2
    exact ⟨rfl, hin.2.2, Fr.refl _ _, none, h1⟩
  | node lb lk lv ll lr ihl ihr =>
    intro b k v r w hin hnd hc
    clear ihr
    obtain ⟨nd2, no2, sub2, mem2⟩ := Kn.least_out hnd
    have nbl : b ∉ (Kn.node lb lk lv ll lr).bs := by rw [show (Kn.node b k v (.node lb lk lv ll lr) r).bs = b :: ((Kn.node lb lk lv ll lr).bs ++ r.bs) from rfl, List.nodup_cons, List.mem_append, not_or] at hnd; exact hnd.1.1
    have nbr : b ∉ r.bs := by rw [show (Kn.node b k v (.node lb lk lv ll lr) r).bs = b :: ((Kn.node lb lk lv ll lr).bs ++ r.bs) from rfl, List.nodup_cons, List.mem_append, not_or] at hnd; exact hnd.1.2
    have ndl : (Kn.node lb lk lv ll lr).bs.Nodup := by rw [show (Kn.node b k v (.node lb lk lv ll lr) r).bs = b :: ((Kn.node lb lk lv ll lr).bs ++ r.bs) from rfl, List.nodup_cons, List.nodup_append] at hnd; exact hnd.2.1
    have dj : ∀ x ∈ (Kn.node lb lk lv ll lr).bs, x ∉ r.bs := fun x hx hr => by rw [show (Kn.node b k v (.node lb lk lv ll lr) r).bs = b :: ((Kn.node lb lk lv ll lr).bs ++ r.bs) from rfl, List.nodup_cons, List.nodup_append] at hnd; exact hnd.2.2.2 x hx x hr rfl
    have hcr := Kn.bounds r
    have hcl := Kn.bounds (Kn.node lb lk lv ll lr)
    have hc1 : (Kn.node lb lk lv ll lr).cnt < 4611686018427387904 := by rw [show (Kn.node b k v (.node lb lk lv ll lr) r).cnt = 1 + (Kn.node lb lk lv ll lr).cnt + r.cnt from rfl] at hc; omega
    have hc2 : (Kn.node b k v (Kn.least lb lk lv ll lr).1 r).cnt < 4611686018427387904 := by
      have := Kn.least_cnt lb lk lv ll lr
      rw [show (Kn.node b k v (.node lb lk lv ll lr) r).cnt = 1 + (Kn.node lb lk lv ll lr).cnt + r.cnt from rfl] at hc
      rw [show (Kn.node b k v (Kn.least lb lk lv ll lr).1 r).cnt = 1 + (Kn.least lb lk lv ll lr).1.cnt + r.cnt from rfl]; omega
    have h1 := Top.of_in hin
    have ir := hin.2.2
    have nbP : b ∉ (Kn.least lb lk lv ll lr).1.bs := fun h => nbl (sub2 b h)
    have nxb : (Kn.least lb lk lv ll lr).2.1 ≠ b := fun h => nbl (h ▸ mem2)
    obtain ⟨c10, c11, c12, c13, f11, f12, f13⟩ := h1.cells
    rw [show (Kn.node lb lk lv ll lr).adr = some ⟨lb, 0, none⟩ from rfl] at c12
    have W1 := ihl lb lk lv lr w hin.2.1 ndl hc1
    clear ihl hin
    have e1 : (Kn.least b k v (.node lb lk lv ll lr) r).1 = Kn.even b k v (Kn.least lb lk lv ll lr).1 r := rfl
    have e2 : (Kn.least b k v (.node lb lk lv ll lr) r).2 = (Kn.least lb lk lv ll lr).2 := rfl
    rw [e1, e2]
    generalize Kn.least lb lk lv ll lr = x at *
    obtain ⟨P, xb, xk, xv, xr⟩ := x
    dsimp only at *
    have W2 := W1.mono (R' := fun e w2 => e = .returned (.tuple #[.pointer P.adr, .pointer (some ⟨xb, 0, none⟩)]) ∧ Top w2 b k v (some ⟨lb, 0, none⟩) r.adr ∧ (∃ lo, Top (w2.setCell ⟨b, 2, none⟩ (.pointer P.adr)) xb xk xv lo xr.adr) ∧ Fr (Kn.node b k v (.node lb lk lv ll lr) r).bs w (w2.setCell ⟨b, 2, none⟩ (.pointer P.adr)) ∧
        Calls Try.prog 132 #[.pointer (some ⟨b, 0, none⟩)] (w2.setCell ⟨b, 2, none⟩ (.pointer P.adr)) fun e w' => e = .returned (.pointer (Kn.even b k v P r).adr) ∧ In w' (Kn.even b k v P r) ∧ Fr (Kn.node b k v P r).bs (w2.setCell ⟨b, 2, none⟩ (.pointer P.adr)) w') (by
      rintro e w2 ⟨rfl, hi, fr, lo, ht⟩
      have h2 := h1.fr fr nbl
      have ir2 := in_fr fr ir (fun x hx hm => dj x hm hx)
      refine ⟨rfl, h2, ⟨lo, ht.fr (B := [b]) ((Fr.refl [b] w2).set (.inl (by simp)) _) (by simpa using nxb)⟩, ?_, even_any (h2.low P.adr) (set_in hi nbP 2 _) (set_in ir2 nbr 2 _) nd2 hc2⟩
      exact (fr.wide (fun x hx => .inl (List.mem_cons_of_mem _ (List.mem_append_left _ hx)))).set (.inl (by simp [Kn.bs])) _)
    clear W1 h1 ir
    go_enter Try.func133, Try.ntmps133
    go_wp2_with (first
      | (go_at_call 133
         refine W2.mono ?_
         clear W2
         rintro e w2 ⟨rfl, h2, ⟨lo, ht2⟩, fr2, W3⟩
         obtain ⟨c20, c21, c22, c23, f21, f22, f23⟩ := h2.cells)
      | (go_at_call 132
         refine W3.mono ?_
         clear W3
         rintro e w4 ⟨rfl, hi4, fr4⟩))
    go_ret2
    refine ⟨rfl, hi4, fr2.trans fr4 (fun x hx => .inl ?_), lo, ht2.fr fr4 no2⟩
    rw [show (Kn.node b k v P r).bs = b :: (P.bs ++ r.bs) from rfl, List.mem_cons, List.mem_append] at hx
    rw [show (Kn.node b k v (.node lb lk lv ll lr) r).bs = b :: ((Kn.node lb lk lv ll lr).bs ++ r.bs) from rfl, List.mem_cons, List.mem_append]
    rcases hx with hx | hx | hx
    · exact .inl hx
    · exact .inr (.inl (sub2 x hx))
    · exact .inr (.inr hx)
theorem drop_any (key : ByteArray) (T : Kn ByteArray ByteArray) : ∀ w : World, In w T → T.bs.Nodup → T.cnt < 4611686018427387904 →
    Calls Try.prog 121 #[.pointer T.adr, .string key] w fun e w' => e = .returned (.pointer (Kn.drop lt key T).adr) ∧ In w' (Kn.drop lt key T) ∧ Fr T.bs w w' := by
  induction T with
  | nil =>
    intro w _ _ _
    show Calls Try.prog 121 #[.pointer none, .string key] w _
    go_enter Try.func121, Try.ntmps121
    go_wp2
    go_ret
    exact ⟨rfl, trivial, Fr.refl _ _⟩
  | node b k v l r ihl ihr =>
    intro w hin hnd hc
    have nbl : b ∉ l.bs := by simp only [Kn.bs, List.nodup_cons, List.mem_append, not_or] at hnd; exact hnd.1.1
    have nbr : b ∉ r.bs := by simp only [Kn.bs, List.nodup_cons, List.mem_append, not_or] at hnd; exact hnd.1.2
    have ndl : l.bs.Nodup := by simp only [Kn.bs, List.nodup_cons, List.nodup_append] at hnd; exact hnd.2.1
    have ndr : r.bs.Nodup := by simp only [Kn.bs, List.nodup_cons, List.nodup_append] at hnd; exact hnd.2.2.1
    have dj : ∀ x ∈ l.bs, x ∉ r.bs := fun x hx hr => by simp only [Kn.bs, List.nodup_cons, List.nodup_append] at hnd; exact hnd.2.2.2 x hx x hr rfl
    have hcl := Kn.bounds l
    have hcr := Kn.bounds r
    simp only [Kn.cnt] at hc
    have h1 := Top.of_in hin
    have il := hin.2.1
    have ir := hin.2.2
    clear hin
    obtain ⟨c10, c11, c12, c13, f11, f12, f13⟩ := h1.cells
    show Calls Try.prog 121 #[.pointer (some ⟨b, 0, none⟩), .string key] w _
    by_cases hA : lt key k = true
    · have hcmp : ∀ W, Calls Try.prog 125 #[.string key, .string k] W fun e w' => e = .returned (.int .i64 (-1)) ∧ w' = W := fun W => by
        have := cmp_any key k W; unfold Kn.cmpK at this; rw [if_pos hA] at this; exact this
      have W1 := (ihl w il ndl (by omega)).mono (R' := fun e w2 => e = .returned (.pointer (Kn.drop lt key l).adr) ∧ Top w2 b k v l.adr r.adr ∧ Fr (Kn.node b k v l r).bs w (w2.setCell ⟨b, 2, none⟩ (.pointer (Kn.drop lt key l).adr)) ∧
          Calls Try.prog 132 #[.pointer (some ⟨b, 0, none⟩)] (w2.setCell ⟨b, 2, none⟩ (.pointer (Kn.drop lt key l).adr)) fun e w' => e = .returned (.pointer (Kn.even b k v (Kn.drop lt key l) r).adr) ∧ In w' (Kn.even b k v (Kn.drop lt key l) r) ∧ Fr (Kn.node b k v (Kn.drop lt key l) r).bs (w2.setCell ⟨b, 2, none⟩ (.pointer (Kn.drop lt key l).adr)) w') (by
        rintro e w2 ⟨rfl, hi, fr⟩
        have h2 := h1.fr fr nbl
        have io2 := in_fr fr ir (fun x hx hm => dj x hm hx)
        refine ⟨rfl, h2, ?_, even_any (h2.low (Kn.drop lt key l).adr) (set_in hi (fun h => nbl (Kn.drop_mem h)) 2 _) (set_in io2 nbr 2 _) (Kn.drop_left_nodup hnd) (by have := Kn.drop_cnt lt key l; simp only [Kn.cnt]; omega)⟩
        exact (fr.wide (fun x hx => .inl (List.mem_cons_of_mem _ (List.mem_append_left _ hx)))).set (.inl (by simp [Kn.bs])) _)
      have e : Kn.drop lt key (.node b k v l r) = (Kn.even b k v (Kn.drop lt key l) r) := by simp only [Kn.drop]; rw [if_pos hA]
      rw [e]
      clear ihl ihr h1 il ir e
      go_enter Try.func121, Try.ntmps121
      go_wp2_with (first
        | (go_at_call 125; refine (hcmp _).mono ?_; rintro e w1 ⟨rfl, hw⟩; obtain rfl := hw.symm)
        | (go_at_call 121
           refine W1.mono ?_
           clear W1
           rintro e w2 ⟨rfl, h2, fr2, W3⟩
           obtain ⟨c20, c21, c22, c23, f21, f22, f23⟩ := h2.cells)
        | (go_at_call 132
           refine W3.mono ?_
           clear W3
           rintro e w4 ⟨rfl, hi4, fr4⟩))
      go_ret
      refine ⟨rfl, hi4, fr2.trans fr4 (fun x hx => .inl ?_)⟩
      simp only [Kn.bs, List.mem_cons, List.mem_append] at hx ⊢
      rcases hx with hx | hx | hx
      · exact .inl hx
      · exact .inr (.inl (Kn.drop_mem hx))
      · exact .inr (.inr hx)
    · by_cases hB : lt k key = true
      · have hcmp : ∀ W, Calls Try.prog 125 #[.string key, .string k] W fun e w' => e = .returned (.int .i64 1) ∧ w' = W := fun W => by
          have := cmp_any key k W; unfold Kn.cmpK at this; rw [if_neg hA, if_pos hB] at this; exact this
        have W1 := (ihr w ir ndr (by omega)).mono (R' := fun e w2 => e = .returned (.pointer (Kn.drop lt key r).adr) ∧ Top w2 b k v l.adr r.adr ∧ Fr (Kn.node b k v l r).bs w (w2.setCell ⟨b, 3, none⟩ (.pointer (Kn.drop lt key r).adr)) ∧
            Calls Try.prog 132 #[.pointer (some ⟨b, 0, none⟩)] (w2.setCell ⟨b, 3, none⟩ (.pointer (Kn.drop lt key r).adr)) fun e w' => e = .returned (.pointer (Kn.even b k v l (Kn.drop lt key r)).adr) ∧ In w' (Kn.even b k v l (Kn.drop lt key r)) ∧ Fr (Kn.node b k v l (Kn.drop lt key r)).bs (w2.setCell ⟨b, 3, none⟩ (.pointer (Kn.drop lt key r).adr)) w') (by
          rintro e w2 ⟨rfl, hi, fr⟩
          have h2 := h1.fr fr nbr
          have io2 := in_fr fr il (fun x hx hm => dj x hx hm)
          refine ⟨rfl, h2, ?_, even_any (h2.high (Kn.drop lt key r).adr) (set_in io2 nbl 3 _) (set_in hi (fun h => nbr (Kn.drop_mem h)) 3 _) (Kn.drop_right_nodup hnd) (by have := Kn.drop_cnt lt key r; simp only [Kn.cnt]; omega)⟩
          exact (fr.wide (fun x hx => .inl (List.mem_cons_of_mem _ (List.mem_append_right _ hx)))).set (.inl (by simp [Kn.bs])) _)
        have e : Kn.drop lt key (.node b k v l r) = (Kn.even b k v l (Kn.drop lt key r)) := by simp only [Kn.drop]; rw [if_neg hA, if_pos hB]
        rw [e]
        clear ihl ihr h1 il ir e
        go_enter Try.func121, Try.ntmps121
        go_wp2_with (first
          | (go_at_call 125; refine (hcmp _).mono ?_; rintro e w1 ⟨rfl, hw⟩; obtain rfl := hw.symm)
          | (go_at_call 121
             refine W1.mono ?_
             clear W1
             rintro e w2 ⟨rfl, h2, fr2, W3⟩
             obtain ⟨c20, c21, c22, c23, f21, f22, f23⟩ := h2.cells)
          | (go_at_call 132
             refine W3.mono ?_
             clear W3
             rintro e w4 ⟨rfl, hi4, fr4⟩))
        go_ret
        refine ⟨rfl, hi4, fr2.trans fr4 (fun x hx => .inl ?_)⟩
        simp only [Kn.bs, List.mem_cons, List.mem_append] at hx ⊢
        rcases hx with hx | hx | hx
        · exact .inl hx
        · exact .inr (.inl hx)
        · exact .inr (.inr (Kn.drop_mem hx))
      · have hcmp : ∀ W, Calls Try.prog 125 #[.string key, .string k] W fun e w' => e = .returned (.int .i64 0) ∧ w' = W := fun W => by
          have := cmp_any key k W; unfold Kn.cmpK at this; rw [if_neg hA, if_neg hB] at this; exact this
        clear ihl ihr
        cases r with
        | nil =>
          have e : Kn.drop lt key (.node b k v l .nil) = l := by simp only [Kn.drop]; rw [if_neg hA, if_neg hB]
          rw [e]
          rw [show (Kn.nil : Kn ByteArray ByteArray).adr = none from rfl] at c13
          clear h1 ir e
          go_enter Try.func121, Try.ntmps121
          go_wp2_with (go_at_call 125; refine (hcmp _).mono ?_; rintro e w1 ⟨rfl, hw⟩; obtain rfl := hw.symm)
          go_ret
          exact ⟨rfl, il, Fr.refl _ _⟩
        | node rb rk rv rl rr =>
          have e : Kn.drop lt key (.node b k v l (.node rb rk rv rl rr)) = Kn.even (Kn.least rb rk rv rl rr).2.1 (Kn.least rb rk rv rl rr).2.2.1 (Kn.least rb rk rv rl rr).2.2.2.1 l (Kn.least rb rk rv rl rr).1 := by simp only [Kn.drop]; rw [if_neg hA, if_neg hB]
          rw [e]
          have p := Kn.least_bs rb rk rv rl rr
          have jn := Kn.join_nodup hnd (Kn.least rb rk rv rl rr).2.2.1 (Kn.least rb rk rv rl rr).2.2.2.1
          have jl := Kn.least_nodup ndr
          have hcx := Kn.least_cnt rb rk rv rl rr
          have W0 := least_any rl rb rk rv rr w ir ndr (by omega)
          rw [show (Kn.node rb rk rv rl rr).adr = some ⟨rb, 0, none⟩ from rfl] at c13 h1
          generalize Kn.least rb rk rv rl rr = x at *
          obtain ⟨P, xb, xk, xv, xr⟩ := x
          dsimp only at *
          have nxl : xb ∉ l.bs := fun h => dj xb h (p.mem_iff.1 List.mem_cons_self)
          have hc3 : (Kn.node xb xk xv l P).cnt < 4611686018427387904 := by simp only [Kn.cnt] at *; omega
          have W1 := W0.mono (R' := fun e w2 => e = .returned (.tuple #[.pointer P.adr, .pointer (some ⟨xb, 0, none⟩)]) ∧ Top w2 b k v l.adr (some ⟨rb, 0, none⟩) ∧ (∃ lo, Top w2 xb xk xv lo xr.adr) ∧ Fr (Kn.node b k v l (.node rb rk rv rl rr)).bs w ((w2.setCell ⟨xb, 2, none⟩ (.pointer l.adr)).setCell ⟨xb, 3, none⟩ (.pointer P.adr)) ∧
              Calls Try.prog 132 #[.pointer (some ⟨xb, 0, none⟩)] ((w2.setCell ⟨xb, 2, none⟩ (.pointer l.adr)).setCell ⟨xb, 3, none⟩ (.pointer P.adr)) fun e w' => e = .returned (.pointer (Kn.even xb xk xv l P).adr) ∧ In w' (Kn.even xb xk xv l P) ∧ Fr (Kn.node xb xk xv l P).bs ((w2.setCell ⟨xb, 2, none⟩ (.pointer l.adr)).setCell ⟨xb, 3, none⟩ (.pointer P.adr)) w') (by
            rintro e w2 ⟨rfl, hi, fr, lo, ht⟩
            have h2 := h1.fr fr nbr
            have il2 := in_fr fr il (fun x hx hm => dj x hx hm)
            have xm : xb ∈ (Kn.node b k v l (.node rb rk rv rl rr)).bs := List.mem_cons_of_mem _ (List.mem_append_right _ (p.mem_iff.1 List.mem_cons_self))
            refine ⟨rfl, h2, ⟨lo, ht⟩, ?_, even_any ((ht.low l.adr).high P.adr) (set_in (set_in il2 nxl 2 _) nxl 3 _) (set_in (set_in hi jl.2 2 _) jl.2 3 _) jn hc3⟩
            exact ((fr.wide (fun x hx => .inl (List.mem_cons_of_mem _ (List.mem_append_right _ hx)))).set (.inl xm) _).set (.inl xm) _)
          clear W0 h1 il ir e
          go_enter Try.func121, Try.ntmps121
          go_wp2_with (first
            | (go_at_call 125; refine (hcmp _).mono ?_; rintro e w1 ⟨rfl, hw⟩; obtain rfl := hw.symm)
            | (go_at_call 133
               refine W1.mono ?_
               clear W1
               rintro e w2 ⟨rfl, h2, ⟨lo, ht2⟩, fr2, W3⟩
               obtain ⟨c20, c21, c22, c23, f21, f22, f23⟩ := h2.cells
               obtain ⟨c30, c31, c32, c33, f31, f32, f33⟩ := ht2.cells)
            | (go_at_call 132
               refine W3.mono ?_
               clear W3
               rintro e w4 ⟨rfl, hi4, fr4⟩))
          go_ret
          refine ⟨rfl, hi4, fr2.trans fr4 (fun x hx => .inl ?_)⟩
          rw [show (Kn.node xb xk xv l P).bs = xb :: (l.bs ++ P.bs) from rfl, List.mem_cons, List.mem_append] at hx
          rcases hx with rfl | hx | hx
          · exact List.mem_cons_of_mem _ (List.mem_append_right _ (p.mem_iff.1 List.mem_cons_self))
          · exact List.mem_cons_of_mem _ (List.mem_append_left _ hx)
          · exact List.mem_cons_of_mem _ (List.mem_append_right _ (p.mem_iff.1 (List.mem_cons_of_mem _ hx)))
end Go.Proofs.Ytebejadiaooooaa.OrdSs
end
section
namespace Go.Proofs.Ytebejadiaooooaa.OrdSs
open Go.RowKit Go.Proofs.YtebejadiaooooaaW.PrintWords Go.Proofs.YtebejadiaooooaaW.PrintLast Go.Proofs.YtebejadiaooooaaW.PrintMore Go.Proofs.Ytebejadiaooooaa.Own Go.Proofs.Ytebejadiaooooaa.Ord
set_option maxHeartbeats 2000000
set_option maxRecDepth 100000
structure Mp (w : World) (m : Nat) (T : Kn ByteArray ByteArray) : Prop where
  blk : w.heap[m]? = some (.cells #[.pointer T.adr] 119 (0, 0))
  inn : In w T
  nd : T.bs.Nodup
theorem Mp.ne {w : World} {m : Nat} {T : Kn ByteArray ByteArray} (h : Mp w m T) : m ∉ T.bs := fun hm => by
  obtain ⟨cells, hc⟩ := in_typed h.inn m hm
  rw [h.blk] at hc
  injection hc with hc
  injection hc with _ hc
  exact absurd hc (by decide)
theorem Mp.fr {w w' : World} {m : Nat} {T : Kn ByteArray ByteArray} {B : List Nat} (h : Mp w m T) (f : Fr B w w') (hm : m ∉ B) (hn : ∀ x ∈ T.bs, x ∉ B) : Mp w' m T := ⟨f.blk h.blk hm, in_fr f h.inn hn, h.nd⟩
theorem Mp.below {w w' : World} {m : Nat} {T : Kn ByteArray ByteArray} (h : Mp w m T) (f : Below w.heap.size w w') : Mp w' m T := h.fr (B := []) (Fr.of_below f) (by simp) (by simp)
theorem new_any (w : World) : Calls Try.prog 97 #[] w fun e w' => ∃ m, w.heap.size ≤ m ∧ e = .returned (.pointer (some ⟨m, 0, none⟩)) ∧ Mp w' m .nil ∧ Fr [] w w' := by
  go_enter Try.func97, Try.ntmps97
  go_wp2
  go_ret
  exact ⟨w.heap.size, Nat.le_refl _, rfl, ⟨blk_new _ _, trivial, by simp [Kn.bs]⟩, (Fr.refl _ _).alloc _⟩
theorem len_any {w : World} {m : Nat} {T : Kn ByteArray ByteArray} (h : Mp w m T) : Calls Try.prog 118 #[.pointer (some ⟨m, 0, none⟩)] w fun e w' => e = .returned (.int .i64 T.cnt) ∧ w' = w := by
  have c0 : w.cell? ⟨m, 0, none⟩ = some (.pointer T.adr) := blk_cell h.blk 0
  have W1 := size_any T w h.inn
  go_enter Try.func118, Try.ntmps118
  go_wp2_with (go_at_call 130; refine W1.mono ?_; clear W1; rintro e w1 ⟨rfl, rfl⟩)
  go_ret
  exact ⟨rfl, rfl⟩
theorem mput_any (key : ByteArray) (val : ByteArray) {w : World} {m : Nat} {T : Kn ByteArray ByteArray} (h : Mp w m T) (hc : T.cnt + 1 < 4611686018427387904) :
    Calls Try.prog 98 #[.pointer (some ⟨m, 0, none⟩), .string key, .string val] w fun e w' => ∃ nb, w.heap.size ≤ nb ∧ e = .returned (.bool (decide (T.cnt < (Kn.put lt nb key val T).cnt))) ∧ Mp w' m (Kn.put lt nb key val T) ∧ Fr (m :: T.bs) w w' := by
  have c0 : w.cell? ⟨m, 0, none⟩ = some (.pointer T.adr) := blk_cell h.blk 0
  have f0 := blk_frozen h.blk 0
  have L0 := len_any h
  have hlt := in_lt h.inn
  have hmlt := blk_lt h.blk
  have W1 := (put_any key val T w h.inn h.nd hc).mono (R' := fun e w2 => ∃ nb, w.heap.size ≤ nb ∧ e = .returned (.pointer (Kn.put lt nb key val T).adr) ∧ w2.cell? ⟨m, 0, none⟩ = some (.pointer T.adr) ∧ w2.frozen? ⟨m, 0, none⟩ = false ∧ Mp (w2.setCell ⟨m, 0, none⟩ (.pointer (Kn.put lt nb key val T).adr)) m (Kn.put lt nb key val T) ∧ Fr (m :: T.bs) w (w2.setCell ⟨m, 0, none⟩ (.pointer (Kn.put lt nb key val T).adr))) (by
    rintro e w2 ⟨nb, hnb, rfl, hi, fr⟩
    have hb := fr.blk h.blk h.ne
    have mP : m ∉ (Kn.put lt nb key val T).bs := fun hm => by rcases Kn.put_mem hm with e | e; omega; exact h.ne e
    refine ⟨nb, hnb, rfl, blk_cell hb 0, blk_frozen hb 0, ⟨blk_put hb 0 _ rfl, set_in hi mP 0 _, Kn.put_nodup h.nd (fun hm => by have := hlt nb hm; omega)⟩, ?_⟩
    exact (fr.wide (fun x hx => .inl (List.mem_cons_of_mem _ hx))).set (.inl List.mem_cons_self) _)
  clear h
  go_enter Try.func98, Try.ntmps98
  go_wp2_with (first
    | (go_at_call 118; refine L0.mono ?_; clear L0; rintro e w1 ⟨rfl, hw⟩; obtain rfl := hw.symm)
    | (go_at_call 119
       refine W1.mono ?_
       clear W1
       rintro e w2 ⟨nb, hnb, rfl, c2, f2, hm2, fr2⟩
       have L2 := len_any hm2)
    | (go_at_call 118; refine L2.mono ?_; clear L2; rintro e w3 ⟨rfl, hw⟩; obtain rfl := hw.symm))
  go_ret
  exact ⟨nb, hnb, rfl, hm2, fr2⟩
theorem mdrop_any (key : ByteArray) {w : World} {m : Nat} {T : Kn ByteArray ByteArray} (h : Mp w m T) (hc : T.cnt < 4611686018427387904) :
    Calls Try.prog 100 #[.pointer (some ⟨m, 0, none⟩), .string key] w fun e w' => e = .returned (.bool (decide ((Kn.drop lt key T).cnt < T.cnt))) ∧ Mp w' m (Kn.drop lt key T) ∧ Fr (m :: T.bs) w w' := by
  have c0 : w.cell? ⟨m, 0, none⟩ = some (.pointer T.adr) := blk_cell h.blk 0
  have f0 := blk_frozen h.blk 0
  have L0 := len_any h
  have W1 := (drop_any key T w h.inn h.nd hc).mono (R' := fun e w2 => e = .returned (.pointer (Kn.drop lt key T).adr) ∧ w2.cell? ⟨m, 0, none⟩ = some (.pointer T.adr) ∧ w2.frozen? ⟨m, 0, none⟩ = false ∧ Mp (w2.setCell ⟨m, 0, none⟩ (.pointer (Kn.drop lt key T).adr)) m (Kn.drop lt key T) ∧ Fr (m :: T.bs) w (w2.setCell ⟨m, 0, none⟩ (.pointer (Kn.drop lt key T).adr))) (by
    rintro e w2 ⟨rfl, hi, fr⟩
    have hb := fr.blk h.blk h.ne
    have mP : m ∉ (Kn.drop lt key T).bs := fun hm => h.ne (Kn.drop_mem hm)
    refine ⟨rfl, blk_cell hb 0, blk_frozen hb 0, ⟨blk_put hb 0 _ rfl, set_in hi mP 0 _, Kn.drop_nodup h.nd⟩, ?_⟩
    exact (fr.wide (fun x hx => .inl (List.mem_cons_of_mem _ hx))).set (.inl List.mem_cons_self) _)
  clear h
  go_enter Try.func100, Try.ntmps100
  go_wp2_with (first
    | (go_at_call 118; refine L0.mono ?_; clear L0; rintro e w1 ⟨rfl, hw⟩; obtain rfl := hw.symm)
    | (go_at_call 121
       refine W1.mono ?_
       clear W1
       rintro e w2 ⟨rfl, c2, f2, hm2, fr2⟩
       have L2 := len_any hm2)
    | (go_at_call 118; refine L2.mono ?_; clear L2; rintro e w3 ⟨rfl, hw⟩; obtain rfl := hw.symm))
  go_ret
  exact ⟨rfl, hm2, fr2⟩
theorem in_find (key : ByteArray) {w : World} : ∀ {T : Kn ByteArray ByteArray}, In w T → In w (Kn.find lt key T)
  | .nil, _ => trivial
  | .node b k v l r, h => by
    unfold Kn.find
    split
    · exact in_find key h.2.1
    · split
      · exact in_find key h.2.2
      · exact h
def got (key : ByteArray) (T : Kn ByteArray ByteArray) : ByteArray × Bool := match Kn.find lt key T with | .nil => (ByteArray.empty, false) | .node _ _ v _ _ => (v, true)
theorem get_any (key : ByteArray) {w : World} {m : Nat} {T : Kn ByteArray ByteArray} (h : Mp w m T) :
    Calls Try.prog 72 #[.pointer (some ⟨m, 0, none⟩), .string key] w fun e w' => e = .returned (.tuple #[.string (got key T).1, .bool (got key T).2]) ∧ w' = w := by
  have c0 : w.cell? ⟨m, 0, none⟩ = some (.pointer T.adr) := blk_cell h.blk 0
  have W1 := find_any key T w h.inn
  have hi := in_find key h.inn
  unfold got
  clear h
  cases hF : Kn.find lt key T with
  | nil =>
    rw [hF] at W1
    rw [show (Kn.nil : Kn ByteArray ByteArray).adr = none from rfl] at W1
    clear hF
    go_enter Try.func72, Try.ntmps72
    go_wp2_with (go_at_call 107; refine W1.mono ?_; clear W1; rintro e w1 ⟨rfl, hw⟩; obtain rfl := hw.symm)
    go_ret2
    exact ⟨rfl, rfl⟩
  | node b k v l r =>
    rw [hF] at W1 hi
    rw [show (Kn.node b k v l r).adr = some ⟨b, 0, none⟩ from rfl] at W1
    clear hF
    obtain ⟨c10, c11, c12, c13, f11, f12, f13⟩ := (Top.of_in hi).cells
    go_enter Try.func72, Try.ntmps72
    go_wp2_with (go_at_call 107; refine W1.mono ?_; clear W1; rintro e w1 ⟨rfl, hw⟩; obtain rfl := hw.symm)
    go_ret2
    exact ⟨rfl, rfl⟩
end Go.Proofs.Ytebejadiaooooaa.OrdSs
end
