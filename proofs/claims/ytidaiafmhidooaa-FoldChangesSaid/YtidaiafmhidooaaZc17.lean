/- Texts of this seat's own and of the kit's print program, of one claim: only what the claim uses (laid by wip/tools/shake.py; Lean checks them). -/
import Derived.Test.YtidaiafmhidooaaZc16
import Derived.Deep.RegionHeld3
section
set_option linter.unusedVariables false
set_option linter.unusedSimpArgs false
namespace Go.Proofs.Ytidaiafmhidooaa.Fo
open Go.RowKit Go.Shelf Go.Proofs.YtidaiafmhidooaaW.PrintWords Go.Proofs.YtidaiafmhidooaaW.PrintLast Go.Proofs.YtidaiafmhidooaaW.PrintMore Go.Proofs.Ytidaiafmhidooaa.Own Go.Proofs.Ytidaiafmhidooaa.Ord Go.Proofs.Ytidaiafmhidooaa Go.Proofs.Ytidaiafmhidooaa.P
open Go.Proofs.Ytidaiafmhidooaa.OrdSs (Hold hold_from_iter from_in lin)
attribute [local go_sem] Oper.semAt_some
set_option maxHeartbeats 2000000
set_option maxRecDepth 100000
theorem held_stop {f t : ByteArray} {L pre : Row} {x : ByteArray × ByteArray} (hL : Rise OrdSs.lt L) (hpre : pre ++ [x] <+: L.filter (fun x => !OrdSs.lt x.1 f)) (hall : ∀ y ∈ pre, holds f t y.1 = true) (hx : holds f t x.1 = false) : L.filter (fun x => holds f t x.1) = pre := by
  obtain ⟨r, hr⟩ := hpre
  have h1 : L.filter (fun x => holds f t x.1) = (L.filter (fun x => !OrdSs.lt x.1 f)).filter (fun x => holds f t x.1) := by
    rw [List.filter_filter]
    refine List.filter_congr (fun y _ => ?_)
    rw [holds_def]
    show _ = (!OrdSs.lt y.1 f && ah y.1 t && !OrdSs.lt y.1 f)
    rw [show lt y.1 f = OrdSs.lt y.1 f from rfl]
    cases OrdSs.lt y.1 f <;> cases ah y.1 t <;> rfl
  have hR : Rise OrdSs.lt (pre ++ [x] ++ r) := by rw [hr]; exact hL.filter _
  rw [h1, ← hr, List.filter_append, List.filter_append]
  have e1 : pre.filter (fun x => holds f t x.1) = pre := List.filter_eq_self.2 (fun y hy => hall y hy)
  have hx2 : x ∈ L.filter (fun x => !OrdSs.lt x.1 f) := by rw [← hr]; simp
  have hxf : lt x.1 f = false := by
    have h2 : (!OrdSs.lt x.1 f) = true := (List.mem_filter.1 hx2).2
    show OrdSs.lt x.1 f = false
    cases q : OrdSs.lt x.1 f with
    | false => rfl
    | true => rw [q] at h2; cases h2
  have hxt : ah x.1 t = false := by rw [holds_def, hxf] at hx; simpa using hx
  have e3 : r.filter (fun x => holds f t x.1) = [] := List.filter_eq_nil_iff.2 (fun y hy hq => by
    have hxy : lt x.1 y.1 = true := by
      have := (List.pairwise_append.1 hR).2.2 x (by simp) y hy
      exact this
    rw [holds_def] at hq
    simp at hq
    rw [ah_lt hxy hq.2] at hxt
    cases hxt)
  rw [e1, e3]
  simp [hx]
theorem held_all {f t : ByteArray} {L : Row} (hall : ∀ y ∈ L.filter (fun x => !OrdSs.lt x.1 f), holds f t y.1 = true) : L.filter (fun x => holds f t x.1) = L.filter (fun x => !OrdSs.lt x.1 f) := by
  refine List.filter_congr (fun y hy => ?_)
  cases q : OrdSs.lt y.1 f with
  | true =>
    rw [holds_def, show lt y.1 f = OrdSs.lt y.1 f from rfl, q]; rfl
  | false => rw [hall y (List.mem_filter.2 ⟨hy, by rw [q]; rfl⟩)]; rfl
section
variable {f t : ByteArray} {A A2 : Option Addr} {c c2 : Nat} {l : List Ms} {e : List En} {Br Bl Be : Nat}
theorem foldall_iter (n : Nat) {w0 w : World} {S : Nat → Prop} (hw : Below w0.heap.size w0 w) (hC : Kd.C P.k33 w0 A l.length l) (hcap : l.length ≤ c) (hC2 : Kd.C P.k55 w0 A2 e.length e) (hcap2 : e.length ≤ c2) (hlen : l.length ≤ 100000) (hlen2 : e.length ≤ 100000) (hsz : ∀ x ∈ l, x.f2.size ≤ 140737488351232)
    (hS : ∀ k, S k → k < w.heap.size) (hS0 : ∀ k, k < w0.heap.size → S k) (hSr : S Br) (hSl : S Bl) (hSe : S Be)
    (hr : w.heap[Br]? = some (.cells #[.string f, .string t] 38 (0, 0))) (hl : w.heap[Bl]? = some (.cells #[.slice A l.length c] 22 (0, 0))) (he : w.heap[Be]? = some (.cells #[.slice A2 e.length c2] 36 (0, 0))) :
    It.Iter Fence.wide n Try.prog 86 #[.pointer (some ⟨Br, 0, none⟩), .pointer (some ⟨Bl, 0, none⟩), .pointer (some ⟨Be, 0, none⟩)] (fun x : ByteArray × ByteArray => #[.string x.1, .string x.2]) (fun ys => ys = heldV f t (foldV l e)) (fun pre => pre <+: heldV f t (foldV l e)) (l.length + e.length) S w := by
  intro ly J Jx M W hF hSM hM hJ hJx hY h0
  replace hY : ∀ m pre x M1 W1, J pre M1 W1 → (∀ k, M1 k → (M k ∨ W.heap.size ≤ k) ∧ k < W1.heap.size) → It.FrM M W W1 → pre.length < l.length + e.length → YieldAt Fence.wide m Try.prog ly #[.string x.1, .string x.2] W1 (It.Told J Jx pre x M1 W1) := fun m pre x M1 W1 a b c d => (OrdSs.YieldAt.anyDepth rfl m (hY pre x M1 W1 a b c d))
  refine (callsIn_wide (n := n)).2 ((callsIn_wide (n := 5)).1 ?_)
  have hur := Try.underlying38
  have gr := hF.blk hr (fun q => q hSr)
  have gl := hF.blk hl (fun q => q hSl)
  have ge := hF.blk he (fun q => q hSe)
  have hw0W : Below w0.heap.size w0 W := hw.trans (hF.below (base := w0.heap.size) (fun k hk => by rcases Nat.lt_or_ge k w0.heap.size with q | q; exact absurd (hS0 k q) hk; exact q) hw.size)
  have hCW := Kd.C_below hC hw0W
  have hCW2 := Kd.C_below hC2 hw0W
  have hMr : ¬ M Br := fun q => (hSM Br hSr).2 q
  clear hr hl he hC hC2 hw hw0W hF hS0 hSl hSe
  refine callsIn_of_wp_marks Try.func86 rfl trivial ?_ rfl
  simp only [Try.ntmps86, List.size_toArray, List.length_cons, List.length_nil, Nat.reduceAdd, Nat.reduceSub, Array.replicate_succ, Array.replicate_zero, List.push_toArray, List.append_toArray, List.nil_append, List.cons_append]
  have hB1 : Below W.heap.size W (W.alloc (.cells #[.func (.yield ly) #[] #[]] 95)) := below_alloc (Below.refl _ _) _
  cases hrr : rr f t with
  | false =>
    have RR : key_RightRange.f f t = some false := (RightRange_eq f t).trans (by rw [hrr])
    have hrA := Aside0.mk hrr
    have r0 := blk_cell (blk_below gr hB1) 0
    have r1 := blk_cell (blk_below gr hB1) 1
    simp at r0 r1
    gi_wp2_with (refine ⟨trivial, ?_⟩; gi_at_call 49; refine (callsIn_wide.2 (key_RightRange.calls f t false _ RR)).mono ?_; rintro r w2 ⟨rfl, hB2⟩)
    refine ⟨_, results_none rfl _ _ _, ⟨_, rfl⟩, M, fun k hk => ⟨.inl hk, ?_⟩, .of_below (below_step hB1 hB2), .inl ⟨[], ?_, ?_⟩⟩
    · have := hM k hk; have := (below_step hB1 hB2).size; omega
    · unfold heldV; rw [hrA.out]; rfl
    · exact hJ _ _ _ _ h0 (.of_below (below_step hB1 hB2))
  | true =>
    have RR : key_RightRange.f f t = some true := (RightRange_eq f t).trans (by rw [hrr])
    have hrA := Aside0.mk hrr
    have r0 := blk_cell (blk_below gr hB1) 0
    have r1 := blk_cell (blk_below gr hB1) 1
    simp at r0 r1
    gi_wp2_with (refine ⟨trivial, ?_⟩; gi_at_call 49; refine (callsIn_wide.2 (key_RightRange.calls f t true _ RR)).mono ?_; rintro r w2 ⟨rfl, hB2⟩)
    have hB3 := below_step hB1 hB2
    have gy := blk_below (blk_new W (.cells #[.func (.yield ly) #[] #[]] 95)) hB2
    have gr3 := blk_below gr hB3
    have gl3 := blk_below gl hB3
    have ge3 := blk_below ge hB3
    have hb3d : Below W.heap.size W w2.drew := below_drew1 hB3
    have gr4 := blk_below gr hb3d
    have gl4 := blk_below gl hb3d
    have ge4 := blk_below ge hb3d
    have z0 := blk_cell gl3 0
    have z1 := blk_cell ge3 0
    have z2 := blk_cell gr3 0
    simp at z0 z1 z2
    have FD := (folded_any (Kd.C_below hCW hb3d) hcap (Kd.C_below hCW2 hb3d) hcap2 hlen hlen2 hsz).mono (R' := fun r w3 => ∃ m, r = .returned (.pointer (some ⟨m, 0, none⟩)) ∧ (w3.cell? ⟨Bl, 0, none⟩ = some (.slice A l.length c) ∧ w3.cell? ⟨Be, 0, none⟩ = some (.slice A2 e.length c2) ∧ w3.cell? ⟨Br, 0, none⟩ = some (.string f)) ∧
        Calls Try.prog 87 #[.pointer (some ⟨m, 0, none⟩), .string f] w3 fun r' w4 => r' = .returned (.func (.func 104) #[] #[.pointer (some ⟨w3.heap.size, 0, none⟩), .pointer (some ⟨w3.heap.size + 1, 0, none⟩)]) ∧ (w4.cell? ⟨Bl, 0, none⟩ = some (.slice A l.length c) ∧ w4.cell? ⟨Be, 0, none⟩ = some (.slice A2 e.length c2) ∧ w4.cell? ⟨Br, 0, none⟩ = some (.string f)) ∧
          (Hold (fun k => w2.heap.size ≤ k) w3 m (foldV l e) ∧ Below w2.heap.size w2 w3 ∧ Below w3.heap.size w3 w4 ∧ w4.cell? ⟨w3.heap.size, 0, none⟩ = some (.pointer (some ⟨m, 0, none⟩)) ∧ w4.cell? ⟨w3.heap.size + 1, 0, none⟩ = some (.string f) ∧ w3.heap.size + 1 < w4.heap.size)) (by
      rintro r w3 ⟨m, rfl, hH, hb⟩
      have gr5 := blk_below gr4 hb
      have gl5 := blk_below gl4 hb
      have ge5 := blk_below ge4 hb
      refine ⟨m, rfl, ⟨blk_cell gl5 0, blk_cell ge5 0, blk_cell gr5 0⟩, (callsIn_wide (n := 5)).1 ((from_in 5 (some ⟨m, 0, none⟩) f w3).mono ?_)⟩
      rintro r w4 ⟨rfl, tt, rfl⟩
      have h1 : Below w3.heap.size w3 ((w3.alloc (.cells #[.pointer (some ⟨m, 0, none⟩)] tt)).alloc (.cells #[.string f] 9)) := ((Below.refl _ w3).alloc (Nat.le_refl _) _).alloc (by simp) _
      have bN := (Boxed.new w3 tt (.pointer (some ⟨m, 0, none⟩))).alloc (.cells #[.string f] 9)
      have bK := Boxed.new (w3.alloc (.cells #[.pointer (some ⟨m, 0, none⟩)] tt)) 9 (.string f)
      rw [World.size_alloc] at bK
      exact ⟨rfl, ⟨blk_cell (blk_below gl5 h1) 0, blk_cell (blk_below ge5 h1) 0, blk_cell (blk_below gr5 h1) 0⟩, hH, (below_drew1 (Below.refl w2.heap.size w2)).trans hb, h1, bN.cell, bK.cell, by simp⟩)
    have hA1 := Aside0.mk (And.intro gy (And.intro gr3 hB3))
    clear gy gr3 gl3 ge3 hB3 gr4 gl4 ge4 hb3d r0 r1 gr gl ge hCW hCW2 hB1 hB2 hrr
    refine wpIn_wide.2 ?_
    go_region_held3 (fun w' => w'.cell? ⟨Bl, 0, none⟩ = some (.slice A l.length c) ∧ w'.cell? ⟨Be, 0, none⟩ = some (.slice A2 e.length c2) ∧ w'.cell? ⟨Br, 0, none⟩ = some (.string f)) (first | exact ⟨by assumption, by assumption, by assumption⟩ | exact ⟨z0, z1, z2⟩)
      (first
        | (go_at_call 64; refine FD.mono ?_; clear FD; rintro r w3 ⟨m, rfl, ⟨d0, d1, d2⟩, PC2⟩)
        | (go_at_call 87; refine PC2.mono ?_; clear PC2; rintro r w4 ⟨rfl, ⟨d0, d1, d2⟩, fin⟩))
    gi_wp2
    obtain ⟨hH, hb23, hb34, e1, e2, e3⟩ := fin
    obtain ⟨gy, gr3, hB3⟩ := hA1.out
    have hb24 : Below w2.heap.size w2 w4 := hb23.trans (hb34.mono hb23.size)
    have hW4 : Below W.heap.size W w4 := hB3.trans (hb24.mono hB3.size)
    have hs2 := hB3.size
    have hs3 := hb23.size
    have hs4 := hb34.size
    have gy4 := blk_below gy hb24
    have gr4 := blk_below gr3 hb24
    have hyW : W.heap.size < w2.heap.size := blk_lt gy
    have hMA := Aside0.mk hM
    obtain ⟨Si, hSi, hIt⟩ := hold_from_iter 4 w3.heap.size (w3.heap.size + 1) hH hb34 f (by omega) (by omega) e1 e2
    have hBrS := hMr
    have hrise := (fold_rise l e).1
    have hflen : ((foldV l e).filter (fun x => !OrdSs.lt x.1 f)).length ≤ l.length + e.length := by
      have h1 := (fold_rise l e).2
      have h2 := List.length_filter_le (fun x : ByteArray × ByteArray => !OrdSs.lt x.1 f) (foldV l e)
      omega
    apply It.range_iter rfl (by omega) (gf := 104) (lb := #[.pointer (some ⟨w3.heap.size, 0, none⟩), .pointer (some ⟨w3.heap.size + 1, 0, none⟩)]) rfl trivial (enters_of Try.func104 (by kernel_rfl) rfl)
      hIt (It.FrM.refl _ _) M (fun k hk => ⟨(hSi k hk).2, fun q => by have h1 := hMA.out k q; have h2 := (hSi k hk).1; omega⟩) (fun k hk => by have := hMA.out k hk; omega) (fun _ => rfl)
      (fun pre M1 V => J pre M1 V ∧ ∀ y ∈ pre, holds f t y.1 = true)
      (fun cd pre M1 V => cd = .ret ∧ ((∃ pre' x, pre = pre' ++ [x] ∧ J pre' M1 V ∧ (∀ y ∈ pre', holds f t y.1 = true) ∧ holds f t x.1 = false) ∨ (Jx pre M1 V ∧ ∀ y ∈ pre, holds f t y.1 = true)))
      (fun s M1 X Y h fr => ⟨(hJ.from (by omega)) s M1 X Y h.1 fr, h.2⟩)
      (fun cd s M1 X Y h fr => ⟨h.1, by
        rcases h.2 with ⟨pre', x, e1, h1, h2⟩ | ⟨h1, h2⟩
        · exact .inl ⟨pre', x, e1, (hJ.from (by omega)) _ M1 X Y h1 fr, h2⟩
        · exact .inr ⟨(hJx.from (by omega)) _ M1 X Y h1 fr, h2⟩⟩)
      ⟨hJ _ _ _ _ h0 (.of_below hW4), by simp⟩
    case hassign =>
      intro ll x V K hK
      gi_wp2
      exact hK
    case hbody =>
      rintro ll pre x M1 V ⟨hj, hall⟩ hMb hF hlt
      have gr5 := hF.blk gr4 hMr
      have gy5 := hF.blk gy4 (fun q => by have := hMA.out _ q; omega)
      have c0' := blk_cell gr5 0
      have c1' := blk_cell gr5 1
      have cy := blk_cell gy5 0
      simp at c0' c1' cy
      have hVs := hF.size
      cases hx : holds f t x.1 with
      | false =>
        have HO : key_Holds.f f t x.1 = some false := (Holds_eq f t x.1).trans (by rw [hx])
        have hxA := Aside0.mk hx
        clear hx
        gi_wp2_with (refine ⟨trivial, ?_⟩; gi_at_call 52; refine (CallsIn.inRound ll (callsIn_wide.2 (key_Holds.calls f t x.1 false _ HO))).mono ?_; rintro r V2 ⟨rfl, hB5⟩)
        refine ⟨fun _ h => (by cases h), ?_⟩
        gi_wp2
        refine ⟨M1, fun k hk => ⟨.inl hk, by have := (hMb k hk).2; have := hB5.size; omega⟩, .of_below hB5, rfl, .inl ⟨pre, x, rfl, (hJ.from (by omega)) _ _ _ _ hj (.of_below hB5), hall, hxA.out⟩⟩
      | true =>
        have HO : key_Holds.f f t x.1 = some true := (Holds_eq f t x.1).trans (by rw [hx])
        have hxA := Aside0.mk hx
        clear hx
        gi_wp2_with (refine ⟨trivial, ?_⟩; gi_at_call 52; refine (CallsIn.inRound ll (callsIn_wide.2 (key_Holds.calls f t x.1 true _ HO))).mono ?_; rintro r V2 ⟨rfl, hB5⟩; have cy2 := blk_cell (blk_below gy5 hB5) 0; simp at cy2; obtain ⟨fn, tmps, assign, body, hy, hR⟩ := hY 2 pre x M1 V2 (hJ _ _ _ _ hj (.of_below hB5)) (fun k hk => ⟨(hMb k hk).1.imp id (fun q => by omega), by have := (hMb k hk).2; have := hB5.size; omega⟩) (((It.FrM.of_below hW4).trans hF (fun i hi => .inl hi)).trans (.of_below (M := fun _ => False) hB5) (fun i hi => hi.elim)) (by omega))
        have hR2 : RoundIn (Fence.wide.inRound ll) 2 Try.prog ly fn tmps assign body V2 (It.Told J Jx pre x M1 V2) := hR
        refine hR2.mono ?_
        rintro r V3 ⟨M', hM', hf3, ⟨rfl, hj3⟩ | ⟨rfl, hj3⟩⟩
        · gi_wp2
          refine ⟨M', fun k hk => ⟨(hM' k hk).1.imp id (fun q => by have := hB5.size; omega), (hM' k hk).2⟩, (It.FrM.of_below (M := M1) hB5).trans hf3 (fun i hi => .inl hi), hj3, fun y hy => ?_⟩
          rcases List.mem_append.1 hy with hy | hy
          · exact hall y hy
          · simp at hy; subst hy; exact hxA.out
        · gi_wp2
          refine ⟨M', fun k hk => ⟨(hM' k hk).1.imp id (fun q => by have := hB5.size; omega), (hM' k hk).2⟩, (It.FrM.of_below (M := M1) hB5).trans hf3 (fun i hi => .inl hi), rfl, .inr ⟨hj3, fun y hy => ?_⟩⟩
          rcases List.mem_append.1 hy with hy | hy
          · exact hall y hy
          · simp at hy; subst hy; exact hxA.out
    case hdone =>
      rintro D xs M1 V hD hDV hDM hMb hF rfl ⟨hj, hall⟩ hK
      have hfW : It.FrM M W V := (It.FrM.of_below hW4).trans hF (fun i hi => .inl hi)
      gi_wp2
      refine ⟨by simp, .inl ⟨_, _, rfl, run_takeDeferred hK, ?_⟩⟩
      have fD : It.FrM (fun k => k = D) V (V.putObj D (.deferred none)) := .putObj _ _ _ rfl
      refine ⟨_, results_none rfl _ _ _, ⟨_, rfl⟩, M1, fun k hk => ⟨(hMb k hk).1.imp id (fun q => by omega), by have := (hMb k hk).2; simpa using this⟩, hfW.trans fD (fun i hi => .inr (by subst hi; omega)), .inl ⟨_, ?_, hJ _ _ _ _ hj (fD.mono (fun i hi => .inl (by subst hi; exact ⟨hDM, by omega⟩)))⟩⟩
      unfold heldV
      rw [if_pos hrA.out, held_all hall]
    case hstop =>
      rintro D cd pre M1 V hD hDV hDM hMb hF hpre ⟨rfl, hor⟩ hK
      have hfW : It.FrM M W V := (It.FrM.of_below hW4).trans hF (fun i hi => .inl hi)
      gi_wp2
      refine ⟨by simp, .inl ⟨_, _, rfl, run_takeDeferred hK, ?_⟩⟩
      have fD : It.FrM (fun k => k = D) V (V.putObj D (.deferred none)) := .putObj _ _ _ rfl
      refine ⟨_, results_none rfl _ _ _, ⟨_, rfl⟩, M1, fun k hk => ⟨(hMb k hk).1.imp id (fun q => by omega), by have := (hMb k hk).2; simpa using this⟩, hfW.trans fD (fun i hi => .inr (by subst hi; omega)), ?_⟩
      rcases hor with ⟨pre', x, rfl, hj, hall, hx⟩ | ⟨hj, hall⟩
      · refine .inl ⟨pre', ?_, hJ _ _ _ _ hj (fD.mono (fun i hi => .inl (by subst hi; exact ⟨hDM, by omega⟩)))⟩
        unfold heldV
        rw [if_pos hrA.out, held_stop hrise hpre hall hx]
      · refine .inr ⟨pre, ?_, hJx _ _ _ _ hj (fD.mono (fun i hi => .inl (by subst hi; exact ⟨hDM, by omega⟩)))⟩
        unfold heldV
        rw [if_pos hrA.out]
        obtain ⟨r, hr⟩ := hpre
        have h1 : (foldV l e).filter (fun x => holds f t x.1) = ((foldV l e).filter (fun x => !OrdSs.lt x.1 f)).filter (fun x => holds f t x.1) := by
          rw [List.filter_filter]
          refine List.filter_congr (fun y _ => ?_)
          rw [holds_def]
          show _ = (!OrdSs.lt y.1 f && ah y.1 t && !OrdSs.lt y.1 f)
          rw [show lt y.1 f = OrdSs.lt y.1 f from rfl]
          cases OrdSs.lt y.1 f <;> cases ah y.1 t <;> rfl
        rw [h1, ← hr, List.filter_append, List.filter_eq_self.2 (fun y hy => hall y hy)]
        exact List.prefix_append _ _
end
end Go.Proofs.Ytidaiafmhidooaa.Fo
end
section
set_option linter.unusedVariables false
set_option linter.unusedSimpArgs false
namespace Go.Proofs.Ytidaiafmhidooaa.Fo
open Go.RowKit Go.Shelf Go.Proofs.YtidaiafmhidooaaW.PrintWords Go.Proofs.YtidaiafmhidooaaW.PrintLast Go.Proofs.YtidaiafmhidooaaW.PrintMore Go.Proofs.Ytidaiafmhidooaa.Own Go.Proofs.Ytidaiafmhidooaa.Ord Go.Proofs.Ytidaiafmhidooaa Go.Proofs.Ytidaiafmhidooaa.P
open Go.Proofs.Ytidaiafmhidooaa.OrdSs (cell_two_new)
attribute [local go_sem] Oper.semAt_some
set_option maxHeartbeats 2000000
set_option maxRecDepth 100000
def flatE (xs : Row) : List Value := xs.flatMap fun x => [.string x.1, .string x.2]
theorem flatE_snoc (xs : Row) (x : ByteArray × ByteArray) : flatE (xs ++ [x]) = flatE xs ++ [.string x.1, .string x.2] := by simp [flatE]
theorem reps_flatE (w : World) (base : Nat) (ok : Nat → Prop) (xs : Row) : Reps (P.k55.M w base ok) 2 (xs.map toE) (flatE xs) := by
  have key : ∀ l : Row, Reps (P.k55.M w base ok) 2 (l.reverse.map toE) (flatE l.reverse) := fun l => by
    induction l with
    | nil => exact Reps.none _ _
    | cons x l ih =>
      rw [List.reverse_cons, List.map_append, flatE_snoc]
      exact Reps.snoc ih (P.k55_mkM w base ok (toE x)) rfl
  simpa using key xs.reverse
theorem R_of_flatE {w : World} {base : Nat} {v : Value} {xs : Row} (ho : w.ownsRow base 55 2 v xs.length (flatE xs)) :
    P.k55.R 55 w base (fun _ => True) v (xs.map toE) :=
  ⟨fun _ _ => trivial, flatE xs, by rw [List.length_map]; exact ho, reps_flatE _ _ _ _⟩
theorem underE : Try.prog.underlying 36 = some (.slice 55) := Try.underlying36
theorem foldall_made (n : Nat) (A A2 : Option Addr) (k c k2 c2 : Nat) (f t : ByteArray) (w : World) :
    CallsIn Fence.wide n Try.prog 59 #[.slice A k c, .slice A2 k2 c2, .agg #[.string f, .string t]] w fun r w' =>
      r = .returned (.func (.func 86) #[] #[.pointer (some ⟨w.heap.size + 1 + 1, 0, none⟩), .pointer (some ⟨w.heap.size, 0, none⟩), .pointer (some ⟨w.heap.size + 1, 0, none⟩)]) ∧
      w' = ((w.alloc (.cells #[.slice A k c] 22)).alloc (.cells #[.slice A2 k2 c2] 36)).alloc (.cells #[.string f, .string t] 38) := by
  refine callsIn_of_wp Try.func59 rfl trivial ?_ rfl
  simp only [Try.ntmps59, List.size_toArray, List.length_cons, List.length_nil, Nat.reduceAdd, Nat.reduceSub, Array.replicate_succ, Array.replicate_zero, List.push_toArray, List.append_toArray, List.nil_append, List.cons_append]
  gi_wp2
  go_ret
  exact ⟨rfl, rfl⟩
theorem held_len (f t : ByteArray) (l : List Ms) (e : List En) : (heldV f t (foldV l e)).length ≤ l.length + e.length := by
  have h1 := (fold_rise l e).2
  unfold heldV
  split
  · have h2 := List.length_filter_le (fun x : ByteArray × ByteArray => holds f t x.1) (foldV l e)
    omega
  · simp
theorem entries_any {w : World} {A A2 : Option Addr} {c c2 : Nat} {l : List Ms} {e : List En} (f t : ByteArray) (hC : Kd.C P.k33 w A l.length l) (hcap : l.length ≤ c) (hC2 : Kd.C P.k55 w A2 e.length e) (hcap2 : e.length ≤ c2) (hlen : l.length ≤ 100000) (hlen2 : e.length ≤ 100000) (hsz : ∀ x ∈ l, x.f2.size ≤ 140737488351232) :
    Calls Try.prog 25 #[.slice A l.length c, .slice A2 e.length c2, .agg #[.string f, .string t]] w fun r w' => ∃ v, r = .returned v ∧ P.k55.R 55 w' w.heap.size (fun _ => True) v ((heldV f t (foldV l e)).map toE) ∧ Below w.heap.size w w' := by
  have hur := Try.underlying38
  obtain ⟨i0, hi, hz0, hz1, hz2⟩ := info_parts P.info55
  refine (callsIn_wide (n := 5)).1 ?_
  refine callsIn_of_wp_marks Try.func25 rfl trivial ?_ rfl
  simp only [Try.ntmps25, List.size_toArray, List.length_cons, List.length_nil, Nat.reduceAdd, Nat.reduceSub, Array.replicate_succ, Array.replicate_zero, List.push_toArray, List.append_toArray, List.nil_append, List.cons_append]
  gi_wp2_with (refine ⟨trivial, ?_⟩; gi_at_call 59; refine (foldall_made _ A A2 l.length c e.length c2 f t _).mono ?_; rintro r w' ⟨rfl, rfl⟩)
  have bO := Boxed.new (w.alloc (.cells #[.string f, .string t] 38)) 36 (.slice none 0 0)
  rw [World.size_alloc] at bO
  generalize hw1 : (w.alloc (.cells #[.string f, .string t] 38)).alloc (.cells #[.slice none 0 0] 36) = w1 at bO ⊢
  have hs1 : w1.heap.size = w.heap.size + 1 + 1 := by rw [← hw1]; simp
  have hB1 : Below w.heap.size w w1 := by rw [← hw1]; exact ((Below.refl _ w).alloc (Nat.le_refl _) _).alloc (by simp) _
  have g1 := blk_alloc (blk_alloc (blk_new w1 (.cells #[.slice A l.length c] 22)) (.cells #[.slice A2 e.length c2] 36)) (.cells #[.string f, .string t] 38)
  have g2 := blk_alloc (blk_new (w1.alloc (.cells #[.slice A l.length c] 22)) (.cells #[.slice A2 e.length c2] 36)) (.cells #[.string f, .string t] 38)
  have g3 := blk_new ((w1.alloc (.cells #[.slice A l.length c] 22)).alloc (.cells #[.slice A2 e.length c2] 36)) (.cells #[.string f, .string t] 38)
  rw [World.size_alloc] at g2
  rw [World.size_alloc, World.size_alloc] at g3
  have bO2 := ((bO.alloc (.cells #[.slice A l.length c] 22)).alloc (.cells #[.slice A2 e.length c2] 36)).alloc (.cells #[.string f, .string t] 38)
  have hB2 : Below w.heap.size w (((w1.alloc (.cells #[.slice A l.length c] 22)).alloc (.cells #[.slice A2 e.length c2] 36)).alloc (.cells #[.string f, .string t] 38)) :=
    ((hB1.alloc (by omega) _).alloc (by simp; omega) _).alloc (by simp; omega) _
  generalize hw2 : ((w1.alloc (.cells #[.slice A l.length c] 22)).alloc (.cells #[.slice A2 e.length c2] 36)).alloc (.cells #[.string f, .string t] 38) = w2 at g1 g2 g3 bO2 hB2 ⊢
  have hs2 : w2.heap.size = w.heap.size + 1 + 1 + 1 + 1 + 1 := by rw [← hw2]; simp; omega
  rw [hs1] at g1 g2 g3
  clear hw1 hw2 bO
  have hIt := foldall_iter 4 (S := fun k => k < w.heap.size ∨ k = w.heap.size + 1 + 1 ∨ k = w.heap.size + 1 + 1 + 1 ∨ k = w.heap.size + 1 + 1 + 1 + 1) hB2 hC hcap hC2 hcap2 hlen hlen2 hsz (by intro k hk; omega) (fun k hk => .inl hk) (.inr (.inr (.inr rfl))) (.inr (.inl rfl)) (.inr (.inr (.inl rfl))) g3 g1 g2
  have hhl := held_len f t l e
  have hmx : maxLen = 9223372036854775807 := rfl
  apply It.range_iter rfl (by omega) (gf := 86) (lb := #[.pointer (some ⟨w.heap.size + 1 + 1 + 1 + 1, 0, none⟩), .pointer (some ⟨w.heap.size + 1 + 1, 0, none⟩), .pointer (some ⟨w.heap.size + 1 + 1 + 1, 0, none⟩)]) rfl trivial (enters_of Try.func86 (by kernel_rfl) rfl)
    hIt (It.FrM.refl _ _) (fun k => k = w.heap.size + 1) (fun k hk => ⟨by omega, by omega⟩) (fun k hk => by omega) (fun _ => rfl)
    (fun pre M V => It.OutC 36 55 2 w.heap.size (w.heap.size + 1) pre.length (flatE pre) M V) (fun _ _ _ _ => False)
    (It.OutC.stab _ _ _ _ _ _ _ _) (fun _ _ _ _ _ h _ => h) (It.OutC.start bO2)
  case hassign =>
    intro ll x V K hK
    gi_wp2
    exact hK
  case hbody =>
    rintro ll pre x M1 V ⟨v, hv, hrow, hMB, hMg⟩ hMb hF hlt
    have hc1 := hv.cell
    have hsV := hF.size
    gi_wp2_with (gi_at_builtin; refine wpListIn_append_own_at _ rfl _ _ 36 rfl w.heap.size 55 i0 (.agg #[(.string ⟨#[]⟩), (.string ⟨#[]⟩)]) 2 32 underE hi hz0 hz1 hz2 rfl (by decide) _ _ _ rfl (hrow.alloc _) ⟨V.heap.size, 0, none⟩ 1 1 [.string x.1, .string x.2] rfl rfl (cell_two_new _ _ _ _) (by simp [Value.oneCell']) (by omega) (by omega) (by simp; omega) ?_; intro v' w1 hown' hgrow _ hat; obtain ⟨g', cap', rfl⟩ := ownsRow_succ hown'; obtain ⟨hv1, hq⟩ := It.OutC.next hv hrow hMB hMg (fun k hk => (hMb k hk).2) (by decide) (by omega) (by omega) hown' hgrow hat; have hc2 := hv1.cell; have hf2 := hv1.frozen)
    obtain ⟨M', q1, q2, q3⟩ := hq
    exact ⟨M', q1, q2, by show It.OutC _ _ _ _ _ (pre ++ [x]).length (flatE (pre ++ [x])) _ _; rw [List.length_append, flatE_snoc]; exact q3⟩
  case hstop =>
    intro D cd pre M1 V _ _ _ _ _ _ h _
    exact h.elim
  case hdone =>
    rintro D ys M1 V hD hDV hDM hMb hF rfl ⟨v, hv, hrow, hMB, hMg⟩ hK
    have hc1 := hv.cell
    have hBV : Below w.heap.size w V := hB2.trans (hF.below (base := w.heap.size) (fun k hk => by omega) (by omega))
    gi_wp2
    refine ⟨by simp, .inl ⟨_, _, rfl, run_takeDeferred hK, ?_⟩⟩
    exact ⟨_, results_tmp rfl _ _ _, v, rfl, R_of_flatE (ownsRow_putObj hrow _ hK rfl), hBV.trans (belowK_b (w := w) (Nat.le_refl _) V D _ _ (by omega) hK rfl rfl)⟩
end Go.Proofs.Ytidaiafmhidooaa.Fo
end
section
set_option linter.unusedVariables false
set_option linter.unusedSimpArgs false
namespace Go.Proofs.Ytidaiafmhidooaa.Fo
open Go.RowKit Go.Shelf Go.Proofs.YtidaiafmhidooaaW.PrintWords Go.Proofs.YtidaiafmhidooaaW.PrintLast Go.Proofs.YtidaiafmhidooaaW.PrintMore Go.Proofs.Ytidaiafmhidooaa.Own Go.Proofs.Ytidaiafmhidooaa.Ord Go.Proofs.Ytidaiafmhidooaa Go.Proofs.Ytidaiafmhidooaa.P
open Go.Proofs.Ytidaiafmhidooaa.OrdSs (cell_two_new)
attribute [local go_sem] Oper.semAt_some
set_option maxHeartbeats 2000000
set_option maxRecDepth 100000
end Go.Proofs.Ytidaiafmhidooaa.Fo
end
section
set_option linter.unusedVariables false
set_option linter.unusedSimpArgs false
namespace Go.Proofs.Ytidaiafmhidooaa.Fo
open Go.RowKit Go.Shelf Go.Proofs.YtidaiafmhidooaaW.PrintWords Go.Proofs.YtidaiafmhidooaaW.PrintLast Go.Proofs.YtidaiafmhidooaaW.PrintMore Go.Proofs.Ytidaiafmhidooaa.Own Go.Proofs.Ytidaiafmhidooaa.Ord Go.Proofs.Ytidaiafmhidooaa Go.Proofs.Ytidaiafmhidooaa.P
open Go.Proofs.Ytidaiafmhidooaa.OrdSb (Hold hold_new hold_put hold_all_iter all_in)
open Go.Proofs.Ytidaiafmhidooaa.OrdSs (infoStr underS)
attribute [local go_sem] Oper.semAt_some
set_option maxHeartbeats 2000000
set_option maxRecDepth 100000
abbrev RowB := List (ByteArray × Bool)
theorem insB_len (k : ByteArray) (v : Bool) (L : RowB) (h : Rise OrdSb.lt L) : (ins OrdSb.lt k v L).length ≤ L.length + 1 := by
  have hd : ∀ x : ByteArray × Bool, ¬ (OrdSb.lt x.1 k = true ∧ OrdSb.lt k x.1 = true) := fun x ⟨a, b⟩ => by have := OrdSb.lin.asym a; rw [this] at b; cases b
  have key : ∀ l : RowB, (l.filter (fun x => OrdSb.lt x.1 k)).length + (l.filter (fun x => OrdSb.lt k x.1)).length ≤ l.length := by
    intro l
    induction l with
    | nil => simp
    | cons x l ih =>
      rw [List.filter_cons, List.filter_cons]
      have := hd x
      cases h1 : OrdSb.lt x.1 k <;> cases h2 : OrdSb.lt k x.1 <;> simp_all <;> omega
  have := key L
  unfold ins
  rw [List.length_append, List.length_cons]
  omega
theorem own_strs {w : World} {base : Nat} {v : Value} {n : Nat} {xs : List ByteArray} (h : w.ownsRow base 9 1 v n (xs.map Value.string)) (hn : n = xs.length) : Kd.string.R 9 w base (fun _ => True) v xs := by
  subst hn
  exact Kd.R_of_own h (fun _ _ => trivial)
end Go.Proofs.Ytidaiafmhidooaa.Fo
end
section
set_option linter.unusedVariables false
set_option linter.unusedSimpArgs false
namespace Go.Proofs.Ytidaiafmhidooaa.Fo
open Go.RowKit Go.Shelf Go.Proofs.YtidaiafmhidooaaW.PrintWords Go.Proofs.YtidaiafmhidooaaW.PrintLast Go.Proofs.YtidaiafmhidooaaW.PrintMore Go.Proofs.Ytidaiafmhidooaa.Own Go.Proofs.Ytidaiafmhidooaa.Ord Go.Proofs.Ytidaiafmhidooaa Go.Proofs.Ytidaiafmhidooaa.P
open Go.Proofs.Ytidaiafmhidooaa.OrdSs (infoStr underS)
attribute [local go_sem] Oper.semAt_some
set_option maxHeartbeats 2000000
set_option maxRecDepth 100000
def putKeys : RowB → List ByteArray → RowB
  | L, [] => L
  | L, k :: l => putKeys (ins OrdSb.lt k true L) l
theorem putKeys_snoc : ∀ (l : List ByteArray) (L : RowB) (k : ByteArray), putKeys L (l ++ [k]) = ins OrdSb.lt k true (putKeys L l)
  | [], _, _ => rfl
  | y :: l, L, k => putKeys_snoc l _ k
theorem putKeys_rise : ∀ (l : List ByteArray) {L : RowB}, Rise OrdSb.lt L → Rise OrdSb.lt (putKeys L l) ∧ (putKeys L l).length ≤ L.length + l.length
  | [], L, h => ⟨h, by simp [putKeys]⟩
  | k :: l, L, h => by
    obtain ⟨c, d⟩ := putKeys_rise l (ins_rise OrdSb.lin k true h)
    have := insB_len k true L h
    exact ⟨c, by simp only [putKeys, List.length_cons]; omega⟩
def bothB (a b : Row) : RowB := putKeys (putKeys [] (a.map (·.1))) (b.map (·.1))
def chg (a b : Row) (k : ByteArray) : Bool := !(((lookK OrdSs.lt k a).getD ByteArray.empty).toList == ((lookK OrdSs.lt k b).getD ByteArray.empty).toList) || !((lookK OrdSs.lt k a).isSome == (lookK OrdSs.lt k b).isSome)
theorem both_len {a b : Row} : (bothB a b).length ≤ a.length + b.length := by
  obtain ⟨c, d⟩ := putKeys_rise (a.map (·.1)) (L := []) List.Pairwise.nil
  obtain ⟨c2, d2⟩ := putKeys_rise (b.map (·.1)) c
  simp only [List.length_map, List.length_nil] at d d2
  unfold bothB
  omega
theorem hold_stab {α : Type} (B m : Nat) (L : α → RowB) : It.Stab B (fun (s : α) M V => OrdSb.Hold M V m (L s)) := fun s M V V' h f => h.frm f (fun k hk _ q => q.1 hk)
theorem hold_putM {M : Nat → Prop} {V : World} {m : Nat} {L : RowB} (h : OrdSb.Hold M V m L) (hM : ∀ k, M k → k < V.heap.size) (hl : L.length < 1000000) (k : ByteArray) (v : Bool) :
    Calls Try.prog 67 #[.pointer (some ⟨m, 0, none⟩), .string k, .bool v] V fun e V' => (∃ b, e = .returned (.bool b)) ∧ ∃ M', (∀ k, M' k → (M k ∨ V.heap.size ≤ k) ∧ k < V'.heap.size) ∧ It.FrM M V V' ∧ OrdSb.Hold M' V' m (ins OrdSb.lt k v L) := by
  refine (OrdSb.hold_put (U := fun k => M k ∨ V.heap.size ≤ k) (h.mono (fun k hk => .inl hk)) (fun k hk => .inr hk) hl k v).mono ?_
  rintro e V' ⟨hb, hH, hF⟩
  exact ⟨hb, _, fun k hk => hk, hF.mono (fun i hi => hi), hH.bound⟩
theorem changed_any {w : World} {A A2 : Option Addr} {c c2 : Nat} {l : List Ms} {e : List En} (hC : Kd.C P.k33 w A l.length l) (hcap : l.length ≤ c) (hC2 : Kd.C P.k55 w A2 e.length e) (hcap2 : e.length ≤ c2) (hlen : l.length ≤ 100000) (hlen2 : e.length ≤ 100000) (hsz : ∀ x ∈ l, x.f2.size ≤ 140737488351232) :
    Calls Try.prog 32 #[.slice A l.length c, .slice A2 e.length c2] w fun r w' => ∃ v, r = .returned v ∧ Kd.string.R 9 w' w.heap.size (fun _ => True) v (((bothB (tabV e) (foldV l e)).map (·.1)).filter (chg (tabV e) (foldV l e))) ∧ Below w.heap.size w w' := by
  obtain ⟨i0, hi, hz0, hz1, hz2⟩ := info_parts infoStr
  have hmx : maxLen = 9223372036854775807 := rfl
  refine (callsIn_wide (n := 5)).1 ?_
  refine callsIn_of_wp_marks Try.func32 rfl trivial ?_ rfl
  simp only [Try.ntmps32, List.size_toArray, List.length_cons, List.length_nil, Nat.reduceAdd, Nat.reduceSub, Array.replicate_succ, Array.replicate_zero, List.push_toArray, List.append_toArray, List.nil_append, List.cons_append]
  have TB := table_any hC2 hcap2 hlen2
  gi_wp2_with (first
    | (refine ⟨trivial, ?_⟩; gi_at_call 63; refine (callsIn_wide.2 TB).mono ?_; clear TB; rintro r w1 ⟨m1, rfl, hH1, hB1⟩; have FD := folded_any (Kd.C_below hC hB1) hcap (Kd.C_below hC2 hB1) hcap2 hlen hlen2 hsz)
    | (refine ⟨trivial, ?_⟩; gi_at_call 64; refine (callsIn_wide.2 FD).mono ?_; clear FD; rintro r w2 ⟨m2, rfl, hH2, hB2⟩)
    | (refine ⟨trivial, ?_⟩; gi_at_call 65; refine (callsIn_wide.2 (OrdSb.hold_new _)).mono ?_; rintro r w3 ⟨m3, rfl, hH3, hB3⟩; have g5 := blk_alloc (blk_below (blk_alloc (blk_new w2 (.cells #[.pointer (some ⟨m1, 0, none⟩)] 75)) (.cells #[.pointer (some ⟨m2, 0, none⟩)] 75)) hB3) (.cells #[.pointer (some ⟨m3, 0, none⟩)] 78); have g6 := blk_alloc (blk_below (blk_new (w2.alloc (.cells #[.pointer (some ⟨m1, 0, none⟩)] 75)) (.cells #[.pointer (some ⟨m2, 0, none⟩)] 75)) hB3) (.cells #[.pointer (some ⟨m3, 0, none⟩)] 78); rw [World.size_alloc] at g6; have c5 := blk_cell g5 0; simp at c5)
    | (refine ⟨trivial, ?_⟩; gi_at_call 66; refine (OrdSs.all_in _ (some ⟨m1, 0, none⟩) _).mono ?_; rintro r w' ⟨rfl, tt, rfl⟩))
  have hs1 := hB1.size
  have hs2 := hB2.size
  have hs3 := hB3.size
  rw [World.size_alloc, World.size_alloc] at hs3 hH3
  have hBa : Below w2.heap.size w2 ((w3.alloc (.cells #[.pointer (some ⟨m3, 0, none⟩)] 78)).alloc (.cells #[.pointer (some ⟨m1, 0, none⟩)] tt)) :=
    ((((Below.refl _ w2).alloc (Nat.le_refl _) _).alloc (by simp) _).trans (hB3.mono (by simp; omega))).alloc (by omega) _ |>.alloc (by simp; omega) _
  have bN := Boxed.new (w3.alloc (.cells #[.pointer (some ⟨m3, 0, none⟩)] 78)) tt (.pointer (some ⟨m1, 0, none⟩))
  rw [World.size_alloc] at bN
  have g7 := blk_alloc (blk_new w3 (.cells #[.pointer (some ⟨m3, 0, none⟩)] 78)) (.cells #[.pointer (some ⟨m1, 0, none⟩)] tt)
  have g5 := blk_alloc g5 (.cells #[.pointer (some ⟨m1, 0, none⟩)] tt)
  have g6 := blk_alloc g6 (.cells #[.pointer (some ⟨m1, 0, none⟩)] tt)
  have hH3' := OrdSb.Hold.below hH3.bound (((Below.refl _ w3).alloc (Nat.le_refl _) (.cells #[.pointer (some ⟨m3, 0, none⟩)] 78)).alloc (by simp) (.cells #[.pointer (some ⟨m1, 0, none⟩)] tt))
  generalize hw4 : (w3.alloc (.cells #[.pointer (some ⟨m3, 0, none⟩)] 78)).alloc (.cells #[.pointer (some ⟨m1, 0, none⟩)] tt) = w4 at hBa bN g5 g6 g7 hH3' ⊢
  have hs4 : w4.heap.size = w3.heap.size + 1 + 1 := by rw [← hw4]; simp
  clear hw4 hH3 c5
  have hH1b := hH1.bound
  have hH2b := hH2.bound
  have hB14 : Below w1.heap.size w1 w4 := hB2.trans (hBa.mono hs2)
  have hl1 := (tab_rise e).2
  have hl2 := (fold_rise l e).2
  have hr1 := (tab_rise e).1
  obtain ⟨S1, hS1, hIt1⟩ := OrdSs.hold_all_iter 4 (w3.heap.size + 1) hH1b hB14 (by omega) bN.cell
  apply It.range_iter rfl (by omega) (gf := 93) (lb := #[.pointer (some ⟨w3.heap.size + 1, 0, none⟩)]) rfl trivial (enters_of Try.func93 (by kernel_rfl) rfl)
    hIt1 (It.FrM.refl _ _) (fun k => w2.heap.size + 1 + 1 ≤ k ∧ k < w3.heap.size) (fun k hk => ⟨(hS1 k hk).2, fun q => by have := (hS1 k hk).1; omega⟩) (fun k hk => by omega) (fun _ => rfl)
    (fun pre M V => OrdSb.Hold M V m3 (putKeys [] (pre.map (·.1)))) (fun _ _ _ _ => False)
    (hold_stab _ _ _) (fun _ _ _ _ _ h _ => h) (by simpa [putKeys] using hH3')
  case hassign =>
    intro ll x V K hK
    gi_wp2
    exact hK
  case hbody =>
    rintro ll pre x M1 V hHV hMb hF hlt
    replace hlt : pre.length < (tabV e).length := hlt
    have g7v := hF.blk g7 (by omega)
    have c7 := blk_cell g7v 0
    simp at c7
    have hpl := (putKeys_rise (pre.map (·.1)) (L := []) List.Pairwise.nil).2
    rw [List.length_map, List.length_nil] at hpl
    have PT := hold_putM hHV (fun k hk => (hMb k hk).2) (by omega) x.1 true
    have hsn : Aside (putKeys [] ((pre ++ [x]).map (·.1)) = ins OrdSb.lt x.1 true (putKeys [] (pre.map (·.1)))) := by
      show _ = _
      rw [List.map_append]; exact putKeys_snoc _ _ _
    clear hHV
    gi_wp2_with (refine ⟨trivial, ?_⟩; gi_at_call 67; refine (CallsIn.inRound ll (callsIn_wide.2 PT)).mono ?_; clear PT; rintro r V2 ⟨⟨b2, rfl⟩, hq⟩)
    obtain ⟨M', q1, q2, q3⟩ := hq
    exact ⟨M', q1, q2, by show OrdSb.Hold _ _ _ _; rw [hsn.out]; exact q3⟩
  case hstop =>
    intro D cd pre M1 V _ _ _ _ _ _ h _
    exact h.elim
  case hdone =>
    rintro D1 ys M1 V1 hD1 hDV1 hDM1 hMb1 hF1 rfl hHV1 hK1
    have g5b := hF1.blk g5 (by omega)
    have g6b := hF1.blk g6 (by omega)
    have g7b := hF1.blk g7 (by omega)
    have c6 := blk_cell g6b 0
    simp at c6
    have hHV1A := Aside0.mk hHV1
    clear hIt1 hS1 bN hB3
    gi_wp2_with (refine ⟨trivial, ?_⟩; gi_at_call 66; refine (OrdSs.all_in _ (some ⟨m2, 0, none⟩) _).mono ?_; rintro r w' ⟨rfl, tt2, rfl⟩)
    have hb5 : Below w2.heap.size w2 (V1.alloc (.cells #[.pointer (some ⟨m2, 0, none⟩)] tt2)) := (hBa.trans (hF1.below (base := w2.heap.size) (fun k hk => by omega) (by omega))).alloc (by have := hF1.size; omega) _
    have hsV1 := hF1.size
    have bN2 := Boxed.new V1 tt2 (.pointer (some ⟨m2, 0, none⟩))
    have g5c := blk_alloc g5b (.cells #[.pointer (some ⟨m2, 0, none⟩)] tt2)
    have g6c := blk_alloc g6b (.cells #[.pointer (some ⟨m2, 0, none⟩)] tt2)
    have g7c := blk_alloc g7b (.cells #[.pointer (some ⟨m2, 0, none⟩)] tt2)
    have hK1c := blk_alloc hK1 (.cells #[.pointer (some ⟨m2, 0, none⟩)] tt2)
    have hH3c := OrdSb.Hold.below hHV1A.out ((Below.refl _ V1).alloc (Nat.le_refl _) (.cells #[.pointer (some ⟨m2, 0, none⟩)] tt2))
    generalize hw5 : V1.alloc (.cells #[.pointer (some ⟨m2, 0, none⟩)] tt2) = w5 at hb5 bN2 g5c g6c g7c hK1c hH3c ⊢
    have hs5 : w5.heap.size = V1.heap.size + 1 := by rw [← hw5]; simp
    clear hw5 g5b g6b g7b c6 hHV1 hHV1A
    have hM1A : Aside (∀ k, M1 k → w2.heap.size + 1 + 1 ≤ k ∧ k < V1.heap.size ∧ k ≠ D1 ∧ k ≠ w3.heap.size) := fun k hk => by
      have h1 := hMb1 k hk
      refine ⟨by omega, h1.2, fun q => hDM1 (q ▸ hk), ?_⟩
      rintro rfl
      omega
    obtain ⟨S2, hS2, hIt2⟩ := OrdSs.hold_all_iter 4 V1.heap.size hH2b hb5 (by omega) bN2.cell
    apply It.range_iter rfl (by omega) (gf := 93) (lb := #[.pointer (some ⟨V1.heap.size, 0, none⟩)]) rfl trivial (enters_of Try.func93 (by kernel_rfl) rfl)
      hIt2 (It.FrM.refl _ _) M1 (fun k hk => ⟨(hS2 k hk).2, fun q => by have := (hS2 k hk).1; have := hM1A.out k q; omega⟩) (fun k hk => by have := hM1A.out k hk; omega) (fun _ => rfl)
      (fun pre M V => OrdSb.Hold M V m3 (putKeys (putKeys [] ((tabV e).map (·.1))) (pre.map (·.1)))) (fun _ _ _ _ => False)
      (hold_stab _ _ _) (fun _ _ _ _ _ h _ => h) (by simpa [putKeys] using hH3c)
    case hassign =>
      intro ll x V K hK
      gi_wp2
      exact hK
    case hbody =>
      rintro ll pre x M2 V hHV hMb hF hlt
      replace hlt : pre.length < (foldV l e).length := hlt
      have g7v := hF.blk g7c (fun q => (hM1A.out _ q).2.2.2 rfl)
      have c7 := blk_cell g7v 0
      simp at c7
      have hp0 := putKeys_rise ((tabV e).map (·.1)) (L := []) List.Pairwise.nil
      have hpl := (putKeys_rise (pre.map (·.1)) hp0.1).2
      have hp2 := hp0.2
      rw [List.length_map] at hpl hp2
      rw [List.length_nil] at hp2
      have PT := hold_putM hHV (fun k hk => (hMb k hk).2) (by omega) x.1 true
      have hsn : Aside (putKeys (putKeys [] ((tabV e).map (·.1))) ((pre ++ [x]).map (·.1)) = ins OrdSb.lt x.1 true (putKeys (putKeys [] ((tabV e).map (·.1))) (pre.map (·.1)))) := by
        show _ = _
        rw [List.map_append]; exact putKeys_snoc _ _ _
      clear hHV
      gi_wp2_with (refine ⟨trivial, ?_⟩; gi_at_call 67; refine (CallsIn.inRound ll (callsIn_wide.2 PT)).mono ?_; clear PT; rintro r V2 ⟨⟨b2, rfl⟩, hq⟩)
      obtain ⟨M', q1, q2, q3⟩ := hq
      exact ⟨M', q1, q2, by show OrdSb.Hold _ _ _ _; rw [hsn.out]; exact q3⟩
    case hstop =>
      intro D cd pre M1 V _ _ _ _ _ _ h _
      exact h.elim
    case hdone =>
      rintro D2 ys M2 V2 hD2 hDV2 hDM2 hMb2 hF2 rfl hHV2 hK2
      have hsV2 := hF2.size
      have g5d := hF2.blk g5c (fun q => by have := hM1A.out _ q; omega)
      have g6d := hF2.blk g6c (fun q => by have := hM1A.out _ q; omega)
      have g7d := hF2.blk g7c (fun q => (hM1A.out _ q).2.2.2 rfl)
      have hK1d := hF2.blk hK1c hDM1
      have hDlt := (Array.getElem?_eq_some_iff.1 hK1c).1
      have c7 := blk_cell (blk_alloc g7d (.cells #[.slice none 0 0] 48)) 0
      simp at c7
      have hb6 : Below w2.heap.size w2 V2 := hb5.trans (hF2.below (base := w2.heap.size) (fun k hk => by have := hM1A.out k hk; omega) (by omega))
      have hHV2A := Aside0.mk hHV2
      clear hIt2 hS2 bN2 hH3c
      gi_wp2_with (refine ⟨trivial, ?_⟩; gi_at_call 68; refine (OrdSb.all_in _ (some ⟨m3, 0, none⟩) _).mono ?_; rintro r w' ⟨rfl, tt3, rfl⟩)
      have bO := (Boxed.new V2 48 (.slice none 0 0)).alloc (.cells #[.pointer (some ⟨m3, 0, none⟩)] tt3)
      have bN3 := Boxed.new (V2.alloc (.cells #[.slice none 0 0] 48)) tt3 (.pointer (some ⟨m3, 0, none⟩))
      rw [World.size_alloc] at bN3
      have hB7 : Below V2.heap.size V2 ((V2.alloc (.cells #[.slice none 0 0] 48)).alloc (.cells #[.pointer (some ⟨m3, 0, none⟩)] tt3)) := ((Below.refl _ V2).alloc (Nat.le_refl _) _).alloc (by simp) _
      have g5e := blk_below g5d hB7
      have g6e := blk_below g6d hB7
      have hK1e := blk_below hK1d hB7
      have hK2e := blk_below hK2 hB7
      generalize hw7 : (V2.alloc (.cells #[.slice none 0 0] 48)).alloc (.cells #[.pointer (some ⟨m3, 0, none⟩)] tt3) = w7 at bO bN3 hB7 g5e g6e hK1e hK2e ⊢
      have hs7 : w7.heap.size = V2.heap.size + 1 + 1 := by rw [← hw7]; simp
      clear hw7 c7
      have hb7 : Below w2.heap.size w2 w7 := hb6.trans (hB7.mono (by omega))
      have hb71 : Below w1.heap.size w1 w7 := hB2.trans (hb7.mono hs2)
      have hb70 : Below w.heap.size w w7 := hB1.trans (hb71.mono hs1)
      have hH1w := OrdSs.Hold.below hH1b hb71
      have hH2w := OrdSs.Hold.below hH2b hb7
      have hbl := both_len (a := tabV e) (b := foldV l e)
      obtain ⟨S3, hS3, hIt3⟩ := OrdSb.hold_all_iter 4 (V2.heap.size + 1) hHV2A.out hB7 (by omega) bN3.cell
      replace hIt3 : It.Iter Fence.wide 4 Try.prog 97 #[.pointer (some ⟨V2.heap.size + 1, 0, none⟩)] (fun x : ByteArray × Bool => #[.string x.1, .bool x.2]) (fun ys => ys = bothB (tabV e) (foldV l e)) (fun pre => pre <+: bothB (tabV e) (foldV l e)) (bothB (tabV e) (foldV l e)).length S3 w7 := hIt3
      apply It.range_iter rfl (by omega) (gf := 97) (lb := #[.pointer (some ⟨V2.heap.size + 1, 0, none⟩)]) rfl trivial (enters_of Try.func97 (by kernel_rfl) rfl)
        hIt3 (It.FrM.refl _ _) (fun k => k = V2.heap.size) (fun k hk => ⟨(hS3 k hk).2, fun q => by have := (hS3 k hk).1; omega⟩) (fun k hk => by omega) (fun _ => rfl)
        (fun pre M V => It.OutC 48 9 1 w.heap.size V2.heap.size ((pre.map (·.1)).filter (chg (tabV e) (foldV l e))).length (((pre.map (·.1)).filter (chg (tabV e) (foldV l e))).map Value.string) M V) (fun _ _ _ _ => False)
        (It.OutC.stab _ _ _ _ _ _ _ _) (fun _ _ _ _ _ h _ => h) (It.OutC.start bO)
      case hassign =>
        intro ll x V K hK
        gi_wp2
        exact hK
      case hbody =>
        rintro ll pre x M3 V ⟨v, hv, hrow, hMB, hMg⟩ hMb hF hlt
        have hc1 := hv.cell
        have hsV := hF.size
        have hfl : ((pre.map (·.1)).filter (chg (tabV e) (foldV l e))).length ≤ pre.length := by have := List.length_filter_le (chg (tabV e) (foldV l e)) (pre.map (·.1)); rwa [List.length_map] at this
        have g5f := hF.blk g5e (by omega)
        have g6f := hF.blk g6e (by omega)
        have c5 := blk_cell g5f 0
        have c6 := blk_cell g6f 0
        simp at c5 c6
        have GT1 := OrdSs.hold_get (OrdSs.Hold.frm hH1w hF (fun k hk _ q => by omega)) x.1
        have GT2 := OrdSs.hold_get (OrdSs.Hold.frm hH2w hF (fun k hk _ q => by omega)) x.1
        have hch : chg (tabV e) (foldV l e) x.1 = (!(((lookK OrdSs.lt x.1 (tabV e)).getD ByteArray.empty).toList == ((lookK OrdSs.lt x.1 (foldV l e)).getD ByteArray.empty).toList) || !((lookK OrdSs.lt x.1 (tabV e)).isSome == (lookK OrdSs.lt x.1 (foldV l e)).isSome)) := rfl
        have hflt : ((pre ++ [x]).map (·.1)).filter (chg (tabV e) (foldV l e)) = (pre.map (·.1)).filter (chg (tabV e) (foldV l e)) ++ (if chg (tabV e) (foldV l e) x.1 = true then [x.1] else []) := by
          rw [List.map_append, List.filter_append]
          congr 1
          rw [List.map_cons, List.map_nil, List.filter_cons]
          split <;> rfl
        generalize (lookK OrdSs.lt x.1 (tabV e)).getD ByteArray.empty = v1 at GT1 hch
        generalize (lookK OrdSs.lt x.1 (tabV e)).isSome = i1 at GT1 hch
        generalize (lookK OrdSs.lt x.1 (foldV l e)).getD ByteArray.empty = v2 at GT2 hch
        generalize (lookK OrdSs.lt x.1 (foldV l e)).isSome = i2 at GT2 hch
        by_cases hcg : chg (tabV e) (foldV l e) x.1 = true
        · have hyes : Aside (((pre ++ [x]).map (·.1)).filter (chg (tabV e) (foldV l e)) = (pre.map (·.1)).filter (chg (tabV e) (foldV l e)) ++ [x.1]) := by show _ = _; rw [hflt, if_pos hcg]
          rw [hcg] at hch
          by_cases hvv : v1.toList = v2.toList
          · have z0 : (v1.toList == v2.toList) = true := by simpa using hvv
            have z1 : (v1.toList != v2.toList) = false := by simp [z0, bne]
            have hii : i1 ≠ i2 := by rintro rfl; rw [z0] at hch; simp at hch
            clear hvv hch hflt hcg
            cases i1 <;> cases i2 <;> first | exact absurd rfl hii | skip
            all_goals
              clear hii
              gi_wp2_with (first
                | (refine ⟨trivial, ?_⟩; gi_at_call 69; refine (CallsIn.inRound ll (callsIn_wide.2 GT1)).mono ?_; clear GT1; rintro r w' ⟨rfl, hw⟩; obtain rfl := hw.symm)
                | (refine ⟨trivial, ?_⟩; gi_at_call 69; refine (CallsIn.inRound ll (callsIn_wide.2 GT2)).mono ?_; clear GT2; rintro r w' ⟨rfl, hw⟩; obtain rfl := hw.symm)
                | (gi_at_builtin; refine wpListIn_append_own_at _ rfl _ _ 48 rfl w.heap.size 9 i0 (.string ⟨#[]⟩) 1 16 underS hi hz0 hz1 hz2 rfl (by decide) _ _ _ rfl (hrow.alloc _) ⟨V.heap.size, 0, none⟩ 1 1 [.string x.1] rfl rfl (cell_one_new _ _ _) (by simp [Value.oneCell']) (by omega) (by omega) (by simp; omega) ?_; intro v' w1 hown' hgrow _ hat; obtain ⟨g', cap', rfl⟩ := ownsRow_succ hown'; obtain ⟨hv1, hq⟩ := It.OutC.next hv hrow hMB hMg (fun k hk => (hMb k hk).2) (by decide) (by omega) (by omega) hown' hgrow hat; have hc2 := hv1.cell; have hf2 := hv1.frozen))
              obtain ⟨M', q1, q2, q3⟩ := hq
              exact ⟨M', q1, q2, by show It.OutC _ _ _ _ _ (((pre ++ [x]).map (·.1)).filter (chg (tabV e) (foldV l e))).length ((((pre ++ [x]).map (·.1)).filter (chg (tabV e) (foldV l e))).map Value.string) _ _; rw [hyes.out, List.length_append, List.map_append]; exact q3⟩
          · have z0 : (v1.toList == v2.toList) = false := by simpa using hvv
            have z1 : (v1.toList != v2.toList) = true := by simp [z0, bne]
            clear hvv hch hflt hcg
            gi_wp2_with (first
              | (refine ⟨trivial, ?_⟩; gi_at_call 69; refine (CallsIn.inRound ll (callsIn_wide.2 GT1)).mono ?_; clear GT1; rintro r w' ⟨rfl, hw⟩; obtain rfl := hw.symm)
              | (refine ⟨trivial, ?_⟩; gi_at_call 69; refine (CallsIn.inRound ll (callsIn_wide.2 GT2)).mono ?_; clear GT2; rintro r w' ⟨rfl, hw⟩; obtain rfl := hw.symm)
              | (gi_at_builtin; refine wpListIn_append_own_at _ rfl _ _ 48 rfl w.heap.size 9 i0 (.string ⟨#[]⟩) 1 16 underS hi hz0 hz1 hz2 rfl (by decide) _ _ _ rfl (hrow.alloc _) ⟨V.heap.size, 0, none⟩ 1 1 [.string x.1] rfl rfl (cell_one_new _ _ _) (by simp [Value.oneCell']) (by omega) (by omega) (by simp; omega) ?_; intro v' w1 hown' hgrow _ hat; obtain ⟨g', cap', rfl⟩ := ownsRow_succ hown'; obtain ⟨hv1, hq⟩ := It.OutC.next hv hrow hMB hMg (fun k hk => (hMb k hk).2) (by decide) (by omega) (by omega) hown' hgrow hat; have hc2 := hv1.cell; have hf2 := hv1.frozen))
            obtain ⟨M', q1, q2, q3⟩ := hq
            exact ⟨M', q1, q2, by show It.OutC _ _ _ _ _ (((pre ++ [x]).map (·.1)).filter (chg (tabV e) (foldV l e))).length ((((pre ++ [x]).map (·.1)).filter (chg (tabV e) (foldV l e))).map Value.string) _ _; rw [hyes.out, List.length_append, List.map_append]; exact q3⟩
        · have hno : Aside (((pre ++ [x]).map (·.1)).filter (chg (tabV e) (foldV l e)) = (pre.map (·.1)).filter (chg (tabV e) (foldV l e))) := by show _ = _; rw [hflt, if_neg hcg, List.append_nil]
          rw [Bool.not_eq_true] at hcg
          rw [hcg] at hch
          have hvv : v1.toList = v2.toList := by
            by_cases q : v1.toList = v2.toList
            · exact q
            · have : (v1.toList == v2.toList) = false := by simpa using q
              rw [this] at hch; simp at hch
          have z0 : (v1.toList == v2.toList) = true := by simpa using hvv
          have z1 : (v1.toList != v2.toList) = false := by simp [z0, bne]
          have hii : i1 = i2 := by
            rw [z0] at hch
            cases i1 <;> cases i2 <;> first | rfl | simp at hch
          subst hii
          clear hvv hch hflt hcg
          cases i1 <;>
          · gi_wp2_with (first
              | (refine ⟨trivial, ?_⟩; gi_at_call 69; refine (CallsIn.inRound ll (callsIn_wide.2 GT1)).mono ?_; clear GT1; rintro r w' ⟨rfl, hw⟩; obtain rfl := hw.symm)
              | (refine ⟨trivial, ?_⟩; gi_at_call 69; refine (CallsIn.inRound ll (callsIn_wide.2 GT2)).mono ?_; clear GT2; rintro r w' ⟨rfl, hw⟩; obtain rfl := hw.symm))
            exact ⟨M3, fun k hk => ⟨.inl hk, (hMb k hk).2⟩, It.FrM.refl _ _, by show It.OutC _ _ _ _ _ (((pre ++ [x]).map (·.1)).filter (chg (tabV e) (foldV l e))).length ((((pre ++ [x]).map (·.1)).filter (chg (tabV e) (foldV l e))).map Value.string) _ _; rw [hno.out]; exact ⟨v, hv, hrow, hMB, hMg⟩⟩
      case hstop =>
        intro D cd pre M1 V _ _ _ _ _ _ h _
        exact h.elim
      case hdone =>
        rintro D3 ys M3 V3 hD3 hDV3 hDM3 hMb3 hF3 rfl ⟨v, hv, hrow, hMB, hMg⟩ hK3
        have hc1 := hv.cell
        have hDlt2 := (Array.getElem?_eq_some_iff.1 hK2).1
        have hDlt1 := (Array.getElem?_eq_some_iff.1 hK1d).1
        have k1 := hF3.blk hK1e (by omega)
        have k2 := hF3.blk hK2e (by omega)
        have hB0 : Below w.heap.size w V3 := hb70.trans (hF3.below (base := w.heap.size) (fun k hk => by omega) (by omega))
        gi_wp2
        have k2' : (V3.putObj D3 (.deferred none)).heap[D2]? = some (.deferred (some [])) := (World.putObj_heap_other (by omega)).trans k2
        have k1' : ((V3.putObj D3 (.deferred none)).putObj D2 (.deferred none)).heap[D1]? = some (.deferred (some [])) := (World.putObj_heap_other (by omega)).trans ((World.putObj_heap_other (by omega)).trans k1)
        refine ⟨by simp, .inl ⟨_, _, rfl, run_takeDeferred hK3, ?_⟩⟩
        refine ⟨by simp, .inl ⟨_, _, rfl, run_takeDeferred k2', ?_⟩⟩
        refine ⟨by simp, .inl ⟨_, _, rfl, run_takeDeferred k1', ?_⟩⟩
        exact ⟨_, results_tmp rfl _ _ _, v, rfl, own_strs (ownsRow_putObj (ownsRow_putObj (ownsRow_putObj hrow _ hK3 rfl) _ k2' rfl) _ k1' rfl) rfl,
          ((hB0.trans (belowK_b (w := w) (Nat.le_refl _) V3 D3 _ _ (by omega) hK3 rfl rfl)).trans (belowK_b (w := w) (Nat.le_refl _) _ D2 _ _ (by omega) k2' rfl rfl)).trans (belowK_b (w := w) (Nat.le_refl _) _ D1 _ _ (by omega) k1' rfl rfl)⟩
end Go.Proofs.Ytidaiafmhidooaa.Fo
end
section
set_option linter.unusedVariables false
set_option linter.unusedSimpArgs false
namespace Go.Proofs.Ytidaiafmhidooaa.Fo
open Go.RowKit Go.Shelf Go.Proofs.YtidaiafmhidooaaW.PrintWords Go.Proofs.YtidaiafmhidooaaW.PrintLast Go.Proofs.YtidaiafmhidooaaW.PrintMore Go.Proofs.Ytidaiafmhidooaa.Own Go.Proofs.Ytidaiafmhidooaa.Ord Go.Proofs.Ytidaiafmhidooaa Go.Proofs.Ytidaiafmhidooaa.P
open Go.Proofs.Ytidaiafmhidooaa.OrdSs (cell_two_new own_empty run_eql_func_nil)
attribute [local go_sem] Oper.semAt_some
set_option maxHeartbeats 2000000
set_option maxRecDepth 100000
end Go.Proofs.Ytidaiafmhidooaa.Fo
end
section
set_option linter.unusedVariables false
set_option linter.unusedSimpArgs false
namespace Go.Proofs.Ytidaiafmhidooaa.Fo
open Go.RowKit Go.Proofs.YtidaiafmhidooaaW.PrintWords Go.Proofs.YtidaiafmhidooaaW.PrintLast Go.Proofs.YtidaiafmhidooaaW.PrintMore Go.Proofs.Ytidaiafmhidooaa.Own Go.Proofs.Ytidaiafmhidooaa
def okF (l : List Ms) (e : List En) : Bool := decide (l.length ≤ 100000) && decide (e.length ≤ 100000) && l.all (fun x => decide (x.f2.size ≤ 140737488351232))
theorem okF_iff {l : List Ms} {e : List En} : okF l e = true ↔ l.length ≤ 100000 ∧ e.length ≤ 100000 ∧ ∀ x ∈ l, x.f2.size ≤ 140737488351232 := by
  unfold okF
  rw [Bool.and_eq_true, Bool.and_eq_true, decide_eq_true_eq, decide_eq_true_eq, List.all_eq_true]
  simp only [decide_eq_true_eq, and_assoc]
def entriesF (l : List Ms) (e : List En) (f t : ByteArray) : Option (List En) := if okF l e = true then some ((heldV f t (foldV l e)).map toE) else none
def changedF (l : List Ms) (e : List En) : Option (List ByteArray) := if okF l e = true then some (((bothB (tabV e) (foldV l e)).map (·.1)).filter (chg (tabV e) (foldV l e))) else none
section
variable {A0 A1 : Option Addr} {c0 c1 : Nat} {l0 : List Ms} {l1 : List En} {w : World}
theorem entriesF_calls {f t : ByteArray} {r : List En} (hr0 : Kd.C P.k33 w A0 l0.length l0) (hc0 : l0.length ≤ c0) (hr1 : Kd.C P.k55 w A1 l1.length l1) (hc1 : l1.length ≤ c1) (h : entriesF l0 l1 f t = some r) :
    Calls Try.prog 25 #[.slice A0 l0.length c0, .slice A1 l1.length c1, .agg #[.string f, .string t]] w fun e w' => ∃ v0_ : Value, e = .returned (v0_) ∧ Kd.R P.k55 55 w' w.heap.size (fun _ => True) v0_ r ∧ Below w.heap.size w w' := by
  unfold entriesF at h
  split at h
  · rename_i hq
    cases h
    obtain ⟨h1, h2, h3⟩ := okF_iff.1 hq
    exact entries_any f t hr0 hc0 hr1 hc1 h1 h2 h3
  · cases h
theorem changedF_calls {r : List ByteArray} (hr0 : Kd.C P.k33 w A0 l0.length l0) (hc0 : l0.length ≤ c0) (hr1 : Kd.C P.k55 w A1 l1.length l1) (hc1 : l1.length ≤ c1) (h : changedF l0 l1 = some r) :
    Calls Try.prog 32 #[.slice A0 l0.length c0, .slice A1 l1.length c1] w fun e w' => ∃ v0_ : Value, e = .returned (v0_) ∧ Kd.R Kd.string 9 w' w.heap.size (fun _ => True) v0_ r ∧ Below w.heap.size w w' := by
  unfold changedF at h
  split at h
  · rename_i hq
    cases h
    obtain ⟨h1, h2, h3⟩ := okF_iff.1 hq
    exact changed_any hr0 hc0 hr1 hc1 h1 h2 h3
  · cases h
end
end Go.Proofs.Ytidaiafmhidooaa.Fo
end
