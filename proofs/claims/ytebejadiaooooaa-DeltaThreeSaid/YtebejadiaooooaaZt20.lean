/- Texts of one claim (laid by shake.py). -/
import Derived.Test.YtebejadiaooooaaZt19
import Derived.Deep.RegionHeld3
set_option linter.unusedVariables false
set_option linter.unusedSimpArgs false
section
namespace Go.Proofs.Ytebejadiaooooaa.Fo
open Go.RowKit Go.Shelf Go.Proofs.YtebejadiaooooaaW.PrintWords Go.Proofs.YtebejadiaooooaaW.PrintLast Go.Proofs.YtebejadiaooooaaW.PrintMore Go.Proofs.Ytebejadiaooooaa.Own Go.Proofs.Ytebejadiaooooaa.Ord Go.Proofs.Ytebejadiaooooaa Go.Proofs.Ytebejadiaooooaa.P
open Go.Proofs.Ytebejadiaooooaa.OrdSs (Hold hold_from_iter from_in lin)
attribute [local go_sem] Oper.semAt_some
set_option maxHeartbeats 2000000
set_option maxRecDepth 100000
theorem held_stop {f t : ByteArray} {L pre : Row} {x : ByteArray × ByteArray} (hL : Rise OrdSs.lt L) (hpre : pre ++ [x] <+: L.filter (fun x => !OrdSs.lt x.1 f)) (hall : ∀ y ∈ pre, holds f t y.1 = true) (hx : holds f t x.1 = false) : L.filter (fun x => holds f t x.1) = pre := by
 obtain ⟨r, hr⟩ := hpre
 have h1 : L.filter (fun x => holds f t x.1) = (L.filter (fun x => !OrdSs.lt x.1 f)).filter (fun x => holds f t x.1) := by
  rw [List.filter_filter]
  refine List.filter_congr (fun y _ => ?_)
  rw [holds_def]
  show _ = (!OrdSs.lt y.1 f && ah y.1 t && !OrdSs.lt y.1 f)
  rw [show lt y.1 f = OrdSs.lt y.1 f from rfl]
  cases OrdSs.lt y.1 f <;> cases ah y.1 t <;> rfl
 have hR : Rise OrdSs.lt (pre ++ [x] ++ r) := by rw [hr]; exact hL.filter _
 rw [h1, ← hr, List.filter_append, List.filter_append]
 have e1 : pre.filter (fun x => holds f t x.1) = pre := List.filter_eq_self.2 (fun y hy => hall y hy)
 have hx2 : x ∈ L.filter (fun x => !OrdSs.lt x.1 f) := by rw [← hr]; simp
 have hxf : lt x.1 f = false := by
  have h2 : (!OrdSs.lt x.1 f) = true := (List.mem_filter.1 hx2).2
  show OrdSs.lt x.1 f = false
  cases q : OrdSs.lt x.1 f with
  | false => rfl
  | true => rw [q] at h2; cases h2
 have hxt : ah x.1 t = false := by rw [holds_def, hxf] at hx; simpa using hx
 have e3 : r.filter (fun x => holds f t x.1) = [] := List.filter_eq_nil_iff.2 (fun y hy hq => by
  have hxy : lt x.1 y.1 = true := by
   have := (List.pairwise_append.1 hR).2.2 x (by simp) y hy
   exact this
  rw [holds_def] at hq
  simp at hq
  rw [ah_lt hxy hq.2] at hxt
  cases hxt)
 rw [e1, e3]
 simp [hx]
theorem held_all {f t : ByteArray} {L : Row} (hall : ∀ y ∈ L.filter (fun x => !OrdSs.lt x.1 f), holds f t y.1 = true) : L.filter (fun x => holds f t x.1) = L.filter (fun x => !OrdSs.lt x.1 f) := by
 refine List.filter_congr (fun y hy => ?_)
 cases q : OrdSs.lt y.1 f with
 | true =>
  rw [holds_def, show lt y.1 f = OrdSs.lt y.1 f from rfl, q]; rfl
 | false => rw [hall y (List.mem_filter.2 ⟨hy, by rw [q]; rfl⟩)]; rfl
section
variable {f t : ByteArray} {A A2 : Option Addr} {c c2 : Nat} {l : List Ms} {e : List En} {Br Bl Be : Nat}
theorem foldall_iter (n : Nat) {w0 w : World} {S : Nat → Prop} (hw : Below w0.heap.size w0 w) (hC : Kd.C P.k32 w0 A l.length l) (hcap : l.length ≤ c) (hC2 : Kd.C P.k39 w0 A2 e.length e) (hcap2 : e.length ≤ c2) (hlen : l.length ≤ 100000) (hlen2 : e.length ≤ 100000) (hsz : ∀ x ∈ l, x.f2.size ≤ 140737488351232)
  (hS : ∀ k, S k → k < w.heap.size) (hS0 : ∀ k, k < w0.heap.size → S k) (hSr : S Br) (hSl : S Bl) (hSe : S Be)
  (hr : w.heap[Br]? = some (.cells #[.string f, .string t] 28 (0, 0))) (hl : w.heap[Bl]? = some (.cells #[.slice A l.length c] 22 (0, 0))) (he : w.heap[Be]? = some (.cells #[.slice A2 e.length c2] 23 (0, 0))) :
  It.Iter Fence.wide n Try.prog 90 #[.pointer (some ⟨Br, 0, none⟩), .pointer (some ⟨Bl, 0, none⟩), .pointer (some ⟨Be, 0, none⟩)] (fun x : ByteArray × ByteArray => #[.string x.1, .string x.2]) (fun ys => ys = heldV f t (foldV l e)) (fun pre => pre <+: heldV f t (foldV l e)) (l.length + e.length) S w := by
 intro ly J Jx M W hF hSM hM hJ hJx hY h0
 replace hY : ∀ m pre x M1 W1, J pre M1 W1 → (∀ k, M1 k → (M k ∨ W.heap.size ≤ k) ∧ k < W1.heap.size) → It.FrM M W W1 → pre.length < l.length + e.length → YieldAt Fence.wide m Try.prog ly #[.string x.1, .string x.2] W1 (It.Told J Jx pre x M1 W1) := fun m pre x M1 W1 a b c d => (OrdSs.YieldAt.anyDepth rfl m (hY pre x M1 W1 a b c d))
 refine (callsIn_wide (n := n)).2 ((callsIn_wide (n := 5)).1 ?_)
 have hur := Try.underlying28
 have gr := hF.blk hr (fun q => q hSr)
 have gl := hF.blk hl (fun q => q hSl)
 have ge := hF.blk he (fun q => q hSe)
 have hw0W : Below w0.heap.size w0 W := hw.trans (hF.below (base := w0.heap.size) (fun k hk => by rcases Nat.lt_or_ge k w0.heap.size with q | q; exact absurd (hS0 k q) hk; exact q) hw.size)
 have hCW := Kd.C_below hC hw0W
 have hCW2 := Kd.C_below hC2 hw0W
 have hMr : ¬ M Br := fun q => (hSM Br hSr).2 q
 clear hr hl he hC hC2 hw hw0W hF hS0 hSl hSe
 refine callsIn_of_wp_marks Try.func90 rfl trivial ?_ rfl
 simp only [Try.ntmps90, List.size_toArray, List.length_cons, List.length_nil, Nat.reduceAdd, Nat.reduceSub, Array.replicate_succ, Array.replicate_zero, List.push_toArray, List.append_toArray, List.nil_append, List.cons_append]
 have hB1 : Below W.heap.size W (W.alloc (.cells #[.func (.yield ly) #[] #[]] 102)) := below_alloc (Below.refl _ _) _
 cases hrr : rr f t with
 | false =>
  have RR : key_RightRange.f f t = some false := (RightRange_eq f t).trans (by rw [hrr])
  have hrA := Aside0.mk hrr
  have r0 := blk_cell (blk_below gr hB1) 0
  have r1 := blk_cell (blk_below gr hB1) 1
  simp at r0 r1
  gi_wp2_with (refine ⟨trivial, ?_⟩; gi_at_call 53; refine (callsIn_wide.2 (key_RightRange.calls f t false _ RR)).mono ?_; rintro r w2 ⟨rfl, hB2⟩)
  refine ⟨_, results_none rfl _ _ _, ⟨_, rfl⟩, M, fun k hk => ⟨.inl hk, ?_⟩, .of_below (below_step hB1 hB2), .inl ⟨[], ?_, ?_⟩⟩
  ·have := hM k hk; have := (below_step hB1 hB2).size; omega
  ·unfold heldV; rw [hrA.out]; rfl
  ·exact hJ _ _ _ _ h0 (.of_below (below_step hB1 hB2))
 | true =>
  have RR : key_RightRange.f f t = some true := (RightRange_eq f t).trans (by rw [hrr])
  have hrA := Aside0.mk hrr
  have r0 := blk_cell (blk_below gr hB1) 0
  have r1 := blk_cell (blk_below gr hB1) 1
  simp at r0 r1
  gi_wp2_with (refine ⟨trivial, ?_⟩; gi_at_call 53; refine (callsIn_wide.2 (key_RightRange.calls f t true _ RR)).mono ?_; rintro r w2 ⟨rfl, hB2⟩)
  have hB3 := below_step hB1 hB2
  have gy := blk_below (blk_new W (.cells #[.func (.yield ly) #[] #[]] 102)) hB2
  have gr3 := blk_below gr hB3
  have gl3 := blk_below gl hB3
  have ge3 := blk_below ge hB3
  have hb3d : Below W.heap.size W w2.drew := below_drew1 hB3
  have gr4 := blk_below gr hb3d
  have gl4 := blk_below gl hb3d
  have ge4 := blk_below ge hb3d
  have z0 := blk_cell gl3 0
  have z1 := blk_cell ge3 0
  have z2 := blk_cell gr3 0
  simp at z0 z1 z2
  have FD := (folded_any (Kd.C_below hCW hb3d) hcap (Kd.C_below hCW2 hb3d) hcap2 hlen hlen2 hsz).mono (R' := fun r w3 => ∃ m, r = .returned (.pointer (some ⟨m, 0, none⟩)) ∧ (w3.cell? ⟨Bl, 0, none⟩ = some (.slice A l.length c) ∧ w3.cell? ⟨Be, 0, none⟩ = some (.slice A2 e.length c2) ∧ w3.cell? ⟨Br, 0, none⟩ = some (.string f)) ∧
    Calls Try.prog 91 #[.pointer (some ⟨m, 0, none⟩), .string f] w3 fun r' w4 => r' = .returned (.func (.func 117) #[] #[.pointer (some ⟨w3.heap.size, 0, none⟩), .pointer (some ⟨w3.heap.size + 1, 0, none⟩)]) ∧ (w4.cell? ⟨Bl, 0, none⟩ = some (.slice A l.length c) ∧ w4.cell? ⟨Be, 0, none⟩ = some (.slice A2 e.length c2) ∧ w4.cell? ⟨Br, 0, none⟩ = some (.string f)) ∧
     (Hold (fun k => w2.heap.size ≤ k) w3 m (foldV l e) ∧ Below w2.heap.size w2 w3 ∧ Below w3.heap.size w3 w4 ∧ w4.cell? ⟨w3.heap.size, 0, none⟩ = some (.pointer (some ⟨m, 0, none⟩)) ∧ w4.cell? ⟨w3.heap.size + 1, 0, none⟩ = some (.string f) ∧ w3.heap.size + 1 < w4.heap.size)) (by
   rintro r w3 ⟨m, rfl, hH, hb⟩
   have gr5 := blk_below gr4 hb
   have gl5 := blk_below gl4 hb
   have ge5 := blk_below ge4 hb
   refine ⟨m, rfl, ⟨blk_cell gl5 0, blk_cell ge5 0, blk_cell gr5 0⟩, (callsIn_wide (n := 5)).1 ((from_in 5 (some ⟨m, 0, none⟩) f w3).mono ?_)⟩
   rintro r w4 ⟨rfl, tt, rfl⟩
   have h1 : Below w3.heap.size w3 ((w3.alloc (.cells #[.pointer (some ⟨m, 0, none⟩)] tt)).alloc (.cells #[.string f] 9)) := ((Below.refl _ w3).alloc (Nat.le_refl _) _).alloc (by simp) _
   have bN := (Boxed.new w3 tt (.pointer (some ⟨m, 0, none⟩))).alloc (.cells #[.string f] 9)
   have bK := Boxed.new (w3.alloc (.cells #[.pointer (some ⟨m, 0, none⟩)] tt)) 9 (.string f)
   rw [World.size_alloc] at bK
   exact ⟨rfl, ⟨blk_cell (blk_below gl5 h1) 0, blk_cell (blk_below ge5 h1) 0, blk_cell (blk_below gr5 h1) 0⟩, hH, (below_drew1 (Below.refl w2.heap.size w2)).trans hb, h1, bN.cell, bK.cell, by simp⟩)
  have hA1 := Aside0.mk (And.intro gy (And.intro gr3 hB3))
  clear gy gr3 gl3 ge3 hB3 gr4 gl4 ge4 hb3d r0 r1 gr gl ge hCW hCW2 hB1 hB2 hrr
  refine wpIn_wide.2 ?_
  go_region_held3 (fun w' => w'.cell? ⟨Bl, 0, none⟩ = some (.slice A l.length c) ∧ w'.cell? ⟨Be, 0, none⟩ = some (.slice A2 e.length c2) ∧ w'.cell? ⟨Br, 0, none⟩ = some (.string f)) (first | exact ⟨by assumption, by assumption, by assumption⟩ | exact ⟨z0, z1, z2⟩)
   (first
    | (go_at_call 67; refine FD.mono ?_; clear FD; rintro r w3 ⟨m, rfl, ⟨d0, d1, d2⟩, PC2⟩)
    | (go_at_call 91; refine PC2.mono ?_; clear PC2; rintro r w4 ⟨rfl, ⟨d0, d1, d2⟩, fin⟩))
  gi_wp2
  obtain ⟨hH, hb23, hb34, e1, e2, e3⟩ := fin
  obtain ⟨gy, gr3, hB3⟩ := hA1.out
  have hb24 : Below w2.heap.size w2 w4 := hb23.trans (hb34.mono hb23.size)
  have hW4 : Below W.heap.size W w4 := hB3.trans (hb24.mono hB3.size)
  have hs2 := hB3.size
  have hs3 := hb23.size
  have hs4 := hb34.size
  have gy4 := blk_below gy hb24
  have gr4 := blk_below gr3 hb24
  have hyW : W.heap.size < w2.heap.size := blk_lt gy
  have hMA := Aside0.mk hM
  obtain ⟨Si, hSi, hIt⟩ := hold_from_iter 4 w3.heap.size (w3.heap.size + 1) hH hb34 f (by omega) (by omega) e1 e2
  have hBrS := hMr
  have hrise := (fold_rise l e).1
  have hflen : ((foldV l e).filter (fun x => !OrdSs.lt x.1 f)).length ≤ l.length + e.length := by
   have h1 := (fold_rise l e).2
   have h2 := List.length_filter_le (fun x : ByteArray × ByteArray => !OrdSs.lt x.1 f) (foldV l e)
   omega
  apply It.range_iter rfl (by omega) (gf := 117) (lb := #[.pointer (some ⟨w3.heap.size, 0, none⟩), .pointer (some ⟨w3.heap.size + 1, 0, none⟩)]) rfl trivial (enters_of Try.func117 (by kernel_rfl) rfl)
   hIt (It.FrM.refl _ _) M (fun k hk => ⟨(hSi k hk).2, fun q => by have h1 := hMA.out k q; have h2 := (hSi k hk).1; omega⟩) (fun k hk => by have := hMA.out k hk; omega) (fun _ => rfl)
   (fun pre M1 V => J pre M1 V ∧ ∀ y ∈ pre, holds f t y.1 = true)
   (fun cd pre M1 V => cd = .ret ∧ ((∃ pre' x, pre = pre' ++ [x] ∧ J pre' M1 V ∧ (∀ y ∈ pre', holds f t y.1 = true) ∧ holds f t x.1 = false) ∨ (Jx pre M1 V ∧ ∀ y ∈ pre, holds f t y.1 = true)))
   (fun s M1 X Y h fr => ⟨(hJ.from (by omega)) s M1 X Y h.1 fr, h.2⟩)
   (fun cd s M1 X Y h fr => ⟨h.1, by
    rcases h.2 with ⟨pre', x, e1, h1, h2⟩ | ⟨h1, h2⟩
    ·exact .inl ⟨pre', x, e1, (hJ.from (by omega)) _ M1 X Y h1 fr, h2⟩
    ·exact .inr ⟨(hJx.from (by omega)) _ M1 X Y h1 fr, h2⟩⟩)
   ⟨hJ _ _ _ _ h0 (.of_below hW4), by simp⟩
  case hassign =>
   intro ll x V K hK
   gi_wp2
   exact hK
  case hbody =>
   rintro ll pre x M1 V ⟨hj, hall⟩ hMb hF hlt
   have gr5 := hF.blk gr4 hMr
   have gy5 := hF.blk gy4 (fun q => by have := hMA.out _ q; omega)
   have c0' := blk_cell gr5 0
   have c1' := blk_cell gr5 1
   have cy := blk_cell gy5 0
   simp at c0' c1' cy
   have hVs := hF.size
   cases hx : holds f t x.1 with
   | false =>
    have HO : key_Holds.f f t x.1 = some false := (Holds_eq f t x.1).trans (by rw [hx])
    have hxA := Aside0.mk hx
    clear hx
    gi_wp2_with (refine ⟨trivial, ?_⟩; gi_at_call 56; refine (CallsIn.inRound ll (callsIn_wide.2 (key_Holds.calls f t x.1 false _ HO))).mono ?_; rintro r V2 ⟨rfl, hB5⟩)
    refine ⟨fun _ h => (by cases h), ?_⟩
    gi_wp2
    refine ⟨M1, fun k hk => ⟨.inl hk, by have := (hMb k hk).2; have := hB5.size; omega⟩, .of_below hB5, rfl, .inl ⟨pre, x, rfl, (hJ.from (by omega)) _ _ _ _ hj (.of_below hB5), hall, hxA.out⟩⟩
   | true =>
    have HO : key_Holds.f f t x.1 = some true := (Holds_eq f t x.1).trans (by rw [hx])
    have hxA := Aside0.mk hx
    clear hx
    gi_wp2_with (refine ⟨trivial, ?_⟩; gi_at_call 56; refine (CallsIn.inRound ll (callsIn_wide.2 (key_Holds.calls f t x.1 true _ HO))).mono ?_; rintro r V2 ⟨rfl, hB5⟩; have cy2 := blk_cell (blk_below gy5 hB5) 0; simp at cy2; obtain ⟨fn, tmps, assign, body, hy, hR⟩ := hY 2 pre x M1 V2 (hJ _ _ _ _ hj (.of_below hB5)) (fun k hk => ⟨(hMb k hk).1.imp id (fun q => by omega), by have := (hMb k hk).2; have := hB5.size; omega⟩) (((It.FrM.of_below hW4).trans hF (fun i hi => .inl hi)).trans (.of_below (M := fun _ => False) hB5) (fun i hi => hi.elim)) (by omega))
    have hR2 : RoundIn (Fence.wide.inRound ll) 2 Try.prog ly fn tmps assign body V2 (It.Told J Jx pre x M1 V2) := hR
    refine hR2.mono ?_
    rintro r V3 ⟨M', hM', hf3, ⟨rfl, hj3⟩ | ⟨rfl, hj3⟩⟩
    ·gi_wp2
     refine ⟨M', fun k hk => ⟨(hM' k hk).1.imp id (fun q => by have := hB5.size; omega), (hM' k hk).2⟩, (It.FrM.of_below (M := M1) hB5).trans hf3 (fun i hi => .inl hi), hj3, fun y hy => ?_⟩
     rcases List.mem_append.1 hy with hy | hy
     ·exact hall y hy
     ·simp at hy; subst hy; exact hxA.out
    ·gi_wp2
     refine ⟨M', fun k hk => ⟨(hM' k hk).1.imp id (fun q => by have := hB5.size; omega), (hM' k hk).2⟩, (It.FrM.of_below (M := M1) hB5).trans hf3 (fun i hi => .inl hi), rfl, .inr ⟨hj3, fun y hy => ?_⟩⟩
     rcases List.mem_append.1 hy with hy | hy
     ·exact hall y hy
     ·simp at hy; subst hy; exact hxA.out
  case hdone =>
   rintro D xs M1 V hD hDV hDM hMb hF rfl ⟨hj, hall⟩ hK
   have hfW : It.FrM M W V := (It.FrM.of_below hW4).trans hF (fun i hi => .inl hi)
   gi_wp2
   refine ⟨by simp, .inl ⟨_, _, rfl, run_takeDeferred hK, ?_⟩⟩
   have fD : It.FrM (fun k => k = D) V (V.putObj D (.deferred none)) := .putObj _ _ _ rfl
   refine ⟨_, results_none rfl _ _ _, ⟨_, rfl⟩, M1, fun k hk => ⟨(hMb k hk).1.imp id (fun q => by omega), by have := (hMb k hk).2; simpa using this⟩, hfW.trans fD (fun i hi => .inr (by subst hi; omega)), .inl ⟨_, ?_, hJ _ _ _ _ hj (fD.mono (fun i hi => .inl (by subst hi; exact ⟨hDM, by omega⟩)))⟩⟩
   unfold heldV
   rw [if_pos hrA.out, held_all hall]
  case hstop =>
   rintro D cd pre M1 V hD hDV hDM hMb hF hpre ⟨rfl, hor⟩ hK
   have hfW : It.FrM M W V := (It.FrM.of_below hW4).trans hF (fun i hi => .inl hi)
   gi_wp2
   refine ⟨by simp, .inl ⟨_, _, rfl, run_takeDeferred hK, ?_⟩⟩
   have fD : It.FrM (fun k => k = D) V (V.putObj D (.deferred none)) := .putObj _ _ _ rfl
   refine ⟨_, results_none rfl _ _ _, ⟨_, rfl⟩, M1, fun k hk => ⟨(hMb k hk).1.imp id (fun q => by omega), by have := (hMb k hk).2; simpa using this⟩, hfW.trans fD (fun i hi => .inr (by subst hi; omega)), ?_⟩
   rcases hor with ⟨pre', x, rfl, hj, hall, hx⟩ | ⟨hj, hall⟩
   ·refine .inl ⟨pre', ?_, hJ _ _ _ _ hj (fD.mono (fun i hi => .inl (by subst hi; exact ⟨hDM, by omega⟩)))⟩
    unfold heldV
    rw [if_pos hrA.out, held_stop hrise hpre hall hx]
   ·refine .inr ⟨pre, ?_, hJx _ _ _ _ hj (fD.mono (fun i hi => .inl (by subst hi; exact ⟨hDM, by omega⟩)))⟩
    unfold heldV
    rw [if_pos hrA.out]
    obtain ⟨r, hr⟩ := hpre
    have h1 : (foldV l e).filter (fun x => holds f t x.1) = ((foldV l e).filter (fun x => !OrdSs.lt x.1 f)).filter (fun x => holds f t x.1) := by
     rw [List.filter_filter]
     refine List.filter_congr (fun y _ => ?_)
     rw [holds_def]
     show _ = (!OrdSs.lt y.1 f && ah y.1 t && !OrdSs.lt y.1 f)
     rw [show lt y.1 f = OrdSs.lt y.1 f from rfl]
     cases OrdSs.lt y.1 f <;> cases ah y.1 t <;> rfl
    rw [h1, ← hr, List.filter_append, List.filter_eq_self.2 (fun y hy => hall y hy)]
    exact List.prefix_append _ _
end
end Go.Proofs.Ytebejadiaooooaa.Fo
end
section
namespace Go.Proofs.Ytebejadiaooooaa.Fo
open Go.RowKit Go.Shelf Go.Proofs.YtebejadiaooooaaW.PrintWords Go.Proofs.YtebejadiaooooaaW.PrintLast Go.Proofs.YtebejadiaooooaaW.PrintMore Go.Proofs.Ytebejadiaooooaa.Own Go.Proofs.Ytebejadiaooooaa.Ord Go.Proofs.Ytebejadiaooooaa Go.Proofs.Ytebejadiaooooaa.P
open Go.Proofs.Ytebejadiaooooaa.OrdSs (cell_two_new)
attribute [local go_sem] Oper.semAt_some
set_option maxHeartbeats 2000000
set_option maxRecDepth 100000
def flatE (xs : Row) : List Value := xs.flatMap fun x => [.string x.1, .string x.2]
theorem flatE_snoc (xs : Row) (x : ByteArray × ByteArray) : flatE (xs ++ [x]) = flatE xs ++ [.string x.1, .string x.2] := by simp [flatE]
theorem reps_flatE (w : World) (base : Nat) (ok : Nat → Prop) (xs : Row) : Reps (P.k39.M w base ok) 2 (xs.map toE) (flatE xs) := by
 have key : ∀ l : Row, Reps (P.k39.M w base ok) 2 (l.reverse.map toE) (flatE l.reverse) := fun l => by
  induction l with
  | nil => exact Reps.none _ _
  | cons x l ih =>
   rw [List.reverse_cons, List.map_append, flatE_snoc]
   exact Reps.snoc ih (P.k39_mkM w base ok (toE x)) rfl
 simpa using key xs.reverse
theorem R_of_flatE {w : World} {base : Nat} {v : Value} {xs : Row} (ho : w.ownsRow base 39 2 v xs.length (flatE xs)) :
  P.k39.R 39 w base (fun _ => True) v (xs.map toE) :=
 ⟨fun _ _ => trivial, flatE xs, by rw [List.length_map]; exact ho, reps_flatE _ _ _ _⟩
theorem underE : Try.prog.underlying 23 = some (.slice 39) := Try.underlying23
theorem foldall_made (n : Nat) (A A2 : Option Addr) (k c k2 c2 : Nat) (f t : ByteArray) (w : World) :
  CallsIn Fence.wide n Try.prog 59 #[.slice A k c, .slice A2 k2 c2, .agg #[.string f, .string t]] w fun r w' =>
   r = .returned (.func (.func 90) #[] #[.pointer (some ⟨w.heap.size + 1 + 1, 0, none⟩), .pointer (some ⟨w.heap.size, 0, none⟩), .pointer (some ⟨w.heap.size + 1, 0, none⟩)]) ∧
   w' = ((w.alloc (.cells #[.slice A k c] 22)).alloc (.cells #[.slice A2 k2 c2] 23)).alloc (.cells #[.string f, .string t] 28) := by
 refine callsIn_of_wp Try.func59 rfl trivial ?_ rfl
 simp only [Try.ntmps59, List.size_toArray, List.length_cons, List.length_nil, Nat.reduceAdd, Nat.reduceSub, Array.replicate_succ, Array.replicate_zero, List.push_toArray, List.append_toArray, List.nil_append, List.cons_append]
 gi_wp2
 go_ret
 exact ⟨rfl, rfl⟩
theorem held_len (f t : ByteArray) (l : List Ms) (e : List En) : (heldV f t (foldV l e)).length ≤ l.length + e.length := by
 have h1 := (fold_rise l e).2
 unfold heldV
 split
 ·have h2 := List.length_filter_le (fun x : ByteArray × ByteArray => holds f t x.1) (foldV l e)
  omega
 ·simp
theorem entries_any {w : World} {A A2 : Option Addr} {c c2 : Nat} {l : List Ms} {e : List En} (f t : ByteArray) (hC : Kd.C P.k32 w A l.length l) (hcap : l.length ≤ c) (hC2 : Kd.C P.k39 w A2 e.length e) (hcap2 : e.length ≤ c2) (hlen : l.length ≤ 100000) (hlen2 : e.length ≤ 100000) (hsz : ∀ x ∈ l, x.f2.size ≤ 140737488351232) :
  Calls Try.prog 15 #[.slice A l.length c, .slice A2 e.length c2, .agg #[.string f, .string t]] w fun r w' => ∃ v, r = .returned v ∧ P.k39.R 39 w' w.heap.size (fun _ => True) v ((heldV f t (foldV l e)).map toE) ∧ Below w.heap.size w w' := by
 have hur := Try.underlying28
 obtain ⟨i0, hi, hz0, hz1, hz2⟩ := info_parts P.info39
 refine (callsIn_wide (n := 5)).1 ?_
 refine callsIn_of_wp_marks Try.func15 rfl trivial ?_ rfl
 simp only [Try.ntmps15, List.size_toArray, List.length_cons, List.length_nil, Nat.reduceAdd, Nat.reduceSub, Array.replicate_succ, Array.replicate_zero, List.push_toArray, List.append_toArray, List.nil_append, List.cons_append]
 gi_wp2_with (refine ⟨trivial, ?_⟩; gi_at_call 59; refine (foldall_made _ A A2 l.length c e.length c2 f t _).mono ?_; rintro r w' ⟨rfl, rfl⟩)
 have bO := Boxed.new (w.alloc (.cells #[.string f, .string t] 28)) 23 (.slice none 0 0)
 rw [World.size_alloc] at bO
 generalize hw1 : (w.alloc (.cells #[.string f, .string t] 28)).alloc (.cells #[.slice none 0 0] 23) = w1 at bO ⊢
 have hs1 : w1.heap.size = w.heap.size + 1 + 1 := by rw [← hw1]; simp
 have hB1 : Below w.heap.size w w1 := by rw [← hw1]; exact ((Below.refl _ w).alloc (Nat.le_refl _) _).alloc (by simp) _
 have g1 := blk_alloc (blk_alloc (blk_new w1 (.cells #[.slice A l.length c] 22)) (.cells #[.slice A2 e.length c2] 23)) (.cells #[.string f, .string t] 28)
 have g2 := blk_alloc (blk_new (w1.alloc (.cells #[.slice A l.length c] 22)) (.cells #[.slice A2 e.length c2] 23)) (.cells #[.string f, .string t] 28)
 have g3 := blk_new ((w1.alloc (.cells #[.slice A l.length c] 22)).alloc (.cells #[.slice A2 e.length c2] 23)) (.cells #[.string f, .string t] 28)
 rw [World.size_alloc] at g2
 rw [World.size_alloc, World.size_alloc] at g3
 have bO2 := ((bO.alloc (.cells #[.slice A l.length c] 22)).alloc (.cells #[.slice A2 e.length c2] 23)).alloc (.cells #[.string f, .string t] 28)
 have hB2 : Below w.heap.size w (((w1.alloc (.cells #[.slice A l.length c] 22)).alloc (.cells #[.slice A2 e.length c2] 23)).alloc (.cells #[.string f, .string t] 28)) :=
  ((hB1.alloc (by omega) _).alloc (by simp; omega) _).alloc (by simp; omega) _
 generalize hw2 : ((w1.alloc (.cells #[.slice A l.length c] 22)).alloc (.cells #[.slice A2 e.length c2] 23)).alloc (.cells #[.string f, .string t] 28) = w2 at g1 g2 g3 bO2 hB2 ⊢
 have hs2 : w2.heap.size = w.heap.size + 1 + 1 + 1 + 1 + 1 := by rw [← hw2]; simp; omega
 rw [hs1] at g1 g2 g3
 clear hw1 hw2 bO
 have hIt := foldall_iter 4 (S := fun k => k < w.heap.size ∨ k = w.heap.size + 1 + 1 ∨ k = w.heap.size + 1 + 1 + 1 ∨ k = w.heap.size + 1 + 1 + 1 + 1) hB2 hC hcap hC2 hcap2 hlen hlen2 hsz (by intro k hk; omega) (fun k hk => .inl hk) (.inr (.inr (.inr rfl))) (.inr (.inl rfl)) (.inr (.inr (.inl rfl))) g3 g1 g2
 have hhl := held_len f t l e
 have hmx : maxLen = 9223372036854775807 := rfl
 apply It.range_iter rfl (by omega) (gf := 90) (lb := #[.pointer (some ⟨w.heap.size + 1 + 1 + 1 + 1, 0, none⟩), .pointer (some ⟨w.heap.size + 1 + 1, 0, none⟩), .pointer (some ⟨w.heap.size + 1 + 1 + 1, 0, none⟩)]) rfl trivial (enters_of Try.func90 (by kernel_rfl) rfl)
  hIt (It.FrM.refl _ _) (fun k => k = w.heap.size + 1) (fun k hk => ⟨by omega, by omega⟩) (fun k hk => by omega) (fun _ => rfl)
  (fun pre M V => It.OutC 23 39 2 w.heap.size (w.heap.size + 1) pre.length (flatE pre) M V) (fun _ _ _ _ => False)
  (It.OutC.stab _ _ _ _ _ _ _ _) (fun _ _ _ _ _ h _ => h) (It.OutC.start bO2)
 case hassign =>
  intro ll x V K hK
  gi_wp2
  exact hK
 case hbody =>
  rintro ll pre x M1 V ⟨v, hv, hrow, hMB, hMg⟩ hMb hF hlt
  have hc1 := hv.cell
  have hsV := hF.size
  gi_wp2_with (gi_at_builtin; refine wpListIn_append_own_at _ rfl _ _ 23 rfl w.heap.size 39 i0 (.agg #[(.string ⟨#[]⟩), (.string ⟨#[]⟩)]) 2 32 underE hi hz0 hz1 hz2 rfl (by decide) _ _ _ rfl (hrow.alloc _) ⟨V.heap.size, 0, none⟩ 1 1 [.string x.1, .string x.2] rfl rfl (cell_two_new _ _ _ _) (by simp [Value.oneCell']) (by omega) (by omega) (by simp; omega) ?_; intro v' w1 hown' hgrow _ hat; obtain ⟨g', cap', rfl⟩ := ownsRow_succ hown'; obtain ⟨hv1, hq⟩ := It.OutC.next hv hrow hMB hMg (fun k hk => (hMb k hk).2) (by decide) (by omega) (by omega) hown' hgrow hat; have hc2 := hv1.cell; have hf2 := hv1.frozen)
  obtain ⟨M', q1, q2, q3⟩ := hq
  exact ⟨M', q1, q2, by show It.OutC _ _ _ _ _ (pre ++ [x]).length (flatE (pre ++ [x])) _ _; rw [List.length_append, flatE_snoc]; exact q3⟩
 case hstop =>
  intro D cd pre M1 V _ _ _ _ _ _ h _
  exact h.elim
 case hdone =>
  rintro D ys M1 V hD hDV hDM hMb hF rfl ⟨v, hv, hrow, hMB, hMg⟩ hK
  have hc1 := hv.cell
  have hBV : Below w.heap.size w V := hB2.trans (hF.below (base := w.heap.size) (fun k hk => by omega) (by omega))
  gi_wp2
  refine ⟨by simp, .inl ⟨_, _, rfl, run_takeDeferred hK, ?_⟩⟩
  exact ⟨_, results_tmp rfl _ _ _, v, rfl, R_of_flatE (ownsRow_putObj hrow _ hK rfl), hBV.trans (belowK_b (w := w) (Nat.le_refl _) V D _ _ (by omega) hK rfl rfl)⟩
end Go.Proofs.Ytebejadiaooooaa.Fo
end
section
namespace Go.Proofs.Ytebejadiaooooaa.Fo
open Go.RowKit Go.Shelf Go.Proofs.YtebejadiaooooaaW.PrintWords Go.Proofs.YtebejadiaooooaaW.PrintLast Go.Proofs.YtebejadiaooooaaW.PrintMore Go.Proofs.Ytebejadiaooooaa.Own Go.Proofs.Ytebejadiaooooaa.Ord Go.Proofs.Ytebejadiaooooaa Go.Proofs.Ytebejadiaooooaa.P
open Go.Proofs.Ytebejadiaooooaa.OrdSs (cell_two_new)
attribute [local go_sem] Oper.semAt_some
set_option maxHeartbeats 2000000
set_option maxRecDepth 100000
end Go.Proofs.Ytebejadiaooooaa.Fo
end
section
namespace Go.Proofs.Ytebejadiaooooaa.Fo
open Go.RowKit Go.Shelf Go.Proofs.YtebejadiaooooaaW.PrintWords Go.Proofs.YtebejadiaooooaaW.PrintLast Go.Proofs.YtebejadiaooooaaW.PrintMore Go.Proofs.Ytebejadiaooooaa.Own Go.Proofs.Ytebejadiaooooaa.Ord Go.Proofs.Ytebejadiaooooaa Go.Proofs.Ytebejadiaooooaa.P
open Go.Proofs.Ytebejadiaooooaa.OrdSb (Hold hold_new hold_put hold_all_iter all_in)
open Go.Proofs.Ytebejadiaooooaa.OrdSs (infoStr underS)
attribute [local go_sem] Oper.semAt_some
set_option maxHeartbeats 2000000
set_option maxRecDepth 100000
end Go.Proofs.Ytebejadiaooooaa.Fo
end
section
namespace Go.Proofs.Ytebejadiaooooaa.Fo
open Go.RowKit Go.Shelf Go.Proofs.YtebejadiaooooaaW.PrintWords Go.Proofs.YtebejadiaooooaaW.PrintLast Go.Proofs.YtebejadiaooooaaW.PrintMore Go.Proofs.Ytebejadiaooooaa.Own Go.Proofs.Ytebejadiaooooaa.Ord Go.Proofs.Ytebejadiaooooaa Go.Proofs.Ytebejadiaooooaa.P
open Go.Proofs.Ytebejadiaooooaa.OrdSs (infoStr underS)
attribute [local go_sem] Oper.semAt_some
set_option maxHeartbeats 2000000
set_option maxRecDepth 100000
end Go.Proofs.Ytebejadiaooooaa.Fo
end
section
namespace Go.Proofs.Ytebejadiaooooaa.Fo
open Go.RowKit Go.Shelf Go.Proofs.YtebejadiaooooaaW.PrintWords Go.Proofs.YtebejadiaooooaaW.PrintLast Go.Proofs.YtebejadiaooooaaW.PrintMore Go.Proofs.Ytebejadiaooooaa.Own Go.Proofs.Ytebejadiaooooaa.Ord Go.Proofs.Ytebejadiaooooaa Go.Proofs.Ytebejadiaooooaa.P
open Go.Proofs.Ytebejadiaooooaa.OrdSs (cell_two_new own_empty run_eql_func_nil)
attribute [local go_sem] Oper.semAt_some
set_option maxHeartbeats 2000000
set_option maxRecDepth 100000
end Go.Proofs.Ytebejadiaooooaa.Fo
end
section
namespace Go.Proofs.Ytebejadiaooooaa.Fo
open Go.RowKit Go.Proofs.YtebejadiaooooaaW.PrintWords Go.Proofs.YtebejadiaooooaaW.PrintLast Go.Proofs.YtebejadiaooooaaW.PrintMore Go.Proofs.Ytebejadiaooooaa.Own Go.Proofs.Ytebejadiaooooaa
def okF (l : List Ms) (e : List En) : Bool := decide (l.length ≤ 100000) && decide (e.length ≤ 100000) && l.all (fun x => decide (x.f2.size ≤ 140737488351232))
theorem okF_iff {l : List Ms} {e : List En} : okF l e = true ↔ l.length ≤ 100000 ∧ e.length ≤ 100000 ∧ ∀ x ∈ l, x.f2.size ≤ 140737488351232 := by
 unfold okF
 rw [Bool.and_eq_true, Bool.and_eq_true, decide_eq_true_eq, decide_eq_true_eq, List.all_eq_true]
 simp only [decide_eq_true_eq, and_assoc]
def entriesF (l : List Ms) (e : List En) (f t : ByteArray) : Option (List En) := if okF l e = true then some ((heldV f t (foldV l e)).map toE) else none
section
variable {A0 A1 : Option Addr} {c0 c1 : Nat} {l0 : List Ms} {l1 : List En} {w : World}
theorem entriesF_calls {f t : ByteArray} {r : List En} (hr0 : Kd.C P.k32 w A0 l0.length l0) (hc0 : l0.length ≤ c0) (hr1 : Kd.C P.k39 w A1 l1.length l1) (hc1 : l1.length ≤ c1) (h : entriesF l0 l1 f t = some r) :
  Calls Try.prog 15 #[.slice A0 l0.length c0, .slice A1 l1.length c1, .agg #[.string f, .string t]] w fun e w' => ∃ v0_ : Value, e = .returned (v0_) ∧ Kd.R P.k39 39 w' w.heap.size (fun _ => True) v0_ r ∧ Below w.heap.size w w' := by
 unfold entriesF at h
 split at h
 ·rename_i hq
  cases h
  obtain ⟨h1, h2, h3⟩ := okF_iff.1 hq
  exact entries_any f t hr0 hc0 hr1 hc1 h1 h2 h3
 ·cases h
end
end Go.Proofs.Ytebejadiaooooaa.Fo
end
