/- Texts of one claim (laid by shake.py). -/
import Derived.Test.YtebejadiaooooaaZo15
import Derived.Test.YtebejadiaooooaaZo13
import Derived.Test.YtebejadiaooooaaZo2
import Derived.Lib.Strings
import Derived.Test.YtebejadiaooooaaZo14
import Derived.LoopTactic
import Derived.RangeFuncBox
import Derived.Maps.OwnIn
import Derived.Test.YtebejadiaooooaaZo0
import Derived.Test.YtebejadiaooooaaZo10
import Derived.Test.YtebejadiaooooaaZo5
import Derived.Test.YtebejadiaooooaaZo7
import Derived.Test.YtebejadiaooooaaZo6
set_option linter.unusedVariables false
set_option linter.unusedSimpArgs false
section
namespace Go.Proofs.Ytebejadiaooooaa.OrdSb
open Go.RowKit Go.Shelf Go.Proofs.YtebejadiaooooaaW.PrintWords Go.Proofs.YtebejadiaooooaaW.PrintLast Go.Proofs.YtebejadiaooooaaW.PrintMore Go.Proofs.Ytebejadiaooooaa.Own Go.Proofs.Ytebejadiaooooaa.Ord
theorem ba_ext {a b : ByteArray} (h : a.toList = b.toList) : a = b := by
 cases a; cases b
 rw [Lib.toList_data, Lib.toList_data] at h
 congr 1
 exact Array.toList_inj.1 h
theorem lin : Lin (K := ByteArray) lt := ⟨fun a => Bo.irrefl _, fun h k => Bo.trans h k, fun h k => ba_ext (Bo.tri h k)⟩
theorem walkA_toL : ∀ T : Kn ByteArray Bool, walkA T = T.toL
 | .nil => rfl
 | .node _ _ _ l r => by rw [walkA, Kn.toL, walkA_toL l, walkA_toL r]
theorem walkB_toL (s : ByteArray) : ∀ T : Kn ByteArray Bool, Rise lt T.toL → walkB s T = T.toL.filter (fun x => !lt x.1 s)
 | .nil, _ => rfl
 | .node b k v l r, h => by
  obtain ⟨hl, hr, h1, h2⟩ := rise_node h
  unfold walkB
  by_cases hA : lt k s = true
  ·rw [if_pos hA, walkB_toL s r hr]
   have e1 : l.toL.filter (fun x => !lt x.1 s) = [] := fil_none fun x hx => by rw [lin.tr (h1 x hx) hA]; rfl
   simp only [Kn.toL, List.filter_append, List.filter_cons, e1, hA]
   simp
  ·rw [if_neg hA, walkB_toL s l hl, walkA_toL]
   have hA' : lt k s = false := by simpa using hA
   have e2 : r.toL.filter (fun x => !lt x.1 s) = r.toL := fil_all fun x hx => by
    cases q : lt x.1 s with
    | false => rfl
    | true => rw [lin.tr (h2 x hx) q] at hA'; cases hA'
   simp only [Kn.toL, List.filter_append, List.filter_cons, e2, hA']
   simp
theorem takeWhile_rise (b : ByteArray) : ∀ l : List (ByteArray × Bool), Rise lt l → l.takeWhile (fun x => lt x.1 b) = l.filter (fun x => lt x.1 b)
 | [], _ => rfl
 | x :: l, h => by
  rw [Rise, List.pairwise_cons] at h
  rw [List.takeWhile_cons, List.filter_cons]
  cases hx : lt x.1 b with
  | true => simp only [if_true]; rw [takeWhile_rise b l h.2]
  | false =>
   simp only [Bool.false_eq_true, if_false]
   rw [fil_none]
   intro y hy
   cases q : lt y.1 b with
   | false => rfl
   | true => rw [lin.tr (h.1 y hy) q] at hx; cases hx
def Hold (U : Nat → Prop) (w : World) (m : Nat) (L : List (ByteArray × Bool)) : Prop := ∃ T, Mp w m T ∧ T.toL = L ∧ Rise lt L ∧ ∀ x ∈ m :: T.bs, U x
theorem Hold.mono {U U' : Nat → Prop} {w : World} {m : Nat} {L : List (ByteArray × Bool)} (h : Hold U w m L) (hU : ∀ k, U k → U' k) : Hold U' w m L := by
 obtain ⟨T, h1, h2, h3, h4⟩ := h
 exact ⟨T, h1, h2, h3, fun x hx => hU x (h4 x hx)⟩
theorem Hold.rise {U : Nat → Prop} {w : World} {m : Nat} {L : List (ByteArray × Bool)} (h : Hold U w m L) : Rise lt L := by obtain ⟨T, h1, h2, h3, h4⟩ := h; exact h3
theorem Hold.bound {U : Nat → Prop} {w : World} {m : Nat} {L : List (ByteArray × Bool)} (h : Hold U w m L) : Hold (fun k => U k ∧ k < w.heap.size) w m L := by
 obtain ⟨T, h1, h2, h3, h4⟩ := h
 refine ⟨T, h1, h2, h3, fun x hx => ⟨h4 x hx, ?_⟩⟩
 rcases List.mem_cons.1 hx with rfl | hx
 ·exact blk_lt h1.blk
 ·exact in_lt h1.inn x hx
theorem Hold.frm {U : Nat → Prop} {w w' : World} {m : Nat} {L : List (ByteArray × Bool)} (h : Hold U w m L) {M : Nat → Prop} (f : It.FrM M w w') (hM : ∀ k, U k → k < w.heap.size → ¬ M k) : Hold U w' m L := by
 obtain ⟨T, hT, h2, h3, h4⟩ := h
 have f' : Fr ((List.range w.heap.size).filter (fun k => decide (k ∉ m :: T.bs))) w w' := ⟨f.os, f.tape, f.output, f.size, fun k hk hn => f.block k hk (hM k (by
  refine h4 k ?_
  by_cases q : k ∈ m :: T.bs
  ·exact q
  ·exact absurd (List.mem_filter.2 ⟨List.mem_range.2 hk, by simpa using q⟩) hn) hk)⟩
 refine ⟨T, hT.fr f' (fun hm => ?_) (fun x hx hm => ?_), h2, h3, h4⟩
 ·have := (List.mem_filter.1 hm).2
  simp at this
 ·have := (List.mem_filter.1 hm).2
  simp only [decide_eq_true_eq] at this
  exact this (List.mem_cons_of_mem _ hx)
theorem Hold.below {U : Nat → Prop} {w w' : World} {m : Nat} {L : List (ByteArray × Bool)} (h : Hold U w m L) (b : Below w.heap.size w w') : Hold U w' m L :=
 h.frm (It.FrM.of_below (M := fun _ => False) b) (fun _ _ _ q => q)
theorem Hold.putObj {U : Nat → Prop} {w : World} {m : Nat} {L : List (ByteArray × Bool)} (h : Hold U w m L) {D : Nat} {o : Obj} (o' : Obj) (hD : w.heap[D]? = some o) (ho : o.isCells = false) : Hold U (w.putObj D o') m L := by
 obtain ⟨T, hM, h2, h3, h4⟩ := h
 refine ⟨T, hM.fr (B := [D]) ⟨rfl, rfl, rfl, by simp, fun k _ hn => World.putObj_heap_other (by simp at hn; omega)⟩ (fun hm => ?_) (fun x hx hm => ?_), h2, h3, h4⟩
 ·obtain rfl : m = D := by simpa using hm
  rw [hM.blk] at hD; cases hD; cases ho
 ·obtain rfl : x = D := by simpa using hm
  obtain ⟨cells, hc⟩ := in_typed hM.inn x hx
  rw [hc] at hD; cases hD; cases ho
theorem frm_of_fr {B : List Nat} {U : Nat → Prop} {w w' : World} (f : Fr B w w') (hB : ∀ k ∈ B, U k) : It.FrM U w w' := ⟨f.os, f.tape, f.output, f.size, fun k hk hn => f.block k hk (fun hm => hn (hB k hm))⟩
theorem hold_new (w : World) : Calls Try.prog 68 #[] w fun e w' => ∃ m, e = .returned (.pointer (some ⟨m, 0, none⟩)) ∧ Hold (fun k => w.heap.size ≤ k) w' m [] ∧ Below w.heap.size w w' :=
 (new_any w).mono (by
  rintro e w' ⟨m, hm, rfl, hM, fr⟩
  exact ⟨m, rfl, ⟨.nil, hM, rfl, List.Pairwise.nil, by simp [Kn.bs]; exact hm⟩, fr.below (by simp) (Nat.le_refl _)⟩)
theorem hold_put {U : Nat → Prop} {w : World} {m : Nat} {L : List (ByteArray × Bool)} (h : Hold U w m L) (hU : ∀ k, w.heap.size ≤ k → U k) (hl : L.length < 1000000) (k : ByteArray) (v : Bool) :
  Calls Try.prog 70 #[.pointer (some ⟨m, 0, none⟩), .string k, .bool v] w fun e w' => (∃ b, e = .returned (.bool b)) ∧ Hold U w' m (ins lt k v L) ∧ It.FrM U w w' := by
 obtain ⟨T, hM, rfl, hr, hB⟩ := h
 have hc := Kn.cnt_len T
 refine (mput_any k v hM (by omega)).mono ?_
 rintro e w' ⟨nb, hnb, rfl, hM', fr⟩
 have ht := put_toL lin nb k v T hr
 refine ⟨⟨_, rfl⟩, ⟨_, hM', ht, ins_rise lin k v hr, fun x hx => ?_⟩, frm_of_fr fr hB⟩
 rcases List.mem_cons.1 hx with rfl | hx
 ·exact hB _ List.mem_cons_self
 ·rcases Kn.put_mem hx with e | e
  ·exact hU _ (by omega)
  ·exact hB _ (List.mem_cons_of_mem _ e)
theorem hold_all_iter (n Bb : Nat) {U : Nat → Prop} {w0 w : World} {m : Nat} {L : List (ByteArray × Bool)} (h : Hold U w0 m L) (hw : Below w0.heap.size w0 w) (hBb : Bb < w.heap.size) (hc : w.cell? ⟨Bb, 0, none⟩ = some (.pointer (some ⟨m, 0, none⟩))) :
  ∃ S : Nat → Prop, (∀ k, S k → (k = Bb ∨ (U k ∧ k < w0.heap.size)) ∧ k < w.heap.size) ∧ It.Iter Fence.wide n Try.prog 105 #[.pointer (some ⟨Bb, 0, none⟩)] (fun x : ByteArray × Bool => #[.string x.1, .bool x.2]) (fun ys => ys = L) (fun pre => pre <+: L) L.length S w := by
 obtain ⟨T, hM, rfl, hr, hB⟩ := h
 have hlt := in_lt hM.inn
 have hml := blk_lt hM.blk
 have hM' := hM.below hw
 have hsz := hw.size
 refine ⟨fun k => k = Bb ∨ k ∈ m :: T.bs, ?_, ?_⟩
 ·rintro k (rfl | hk)
  ·exact ⟨.inl rfl, hBb⟩
  ·have h1 : k < w0.heap.size := by
    rcases List.mem_cons.1 hk with rfl | hk
    ·exact hml
    ·exact hlt k hk
   exact ⟨.inr ⟨hB k hk, h1⟩, by omega⟩
 ·have := all_iter n Bb (fun k => k = Bb ∨ k ∈ m :: T.bs) (some ⟨m, 0, none⟩) T w ?_ (.inl rfl) hc ⟨.inr List.mem_cons_self, blk_cell hM'.blk 0, hM'.inn, fun x hx => .inr (List.mem_cons_of_mem _ hx)⟩
  ·rw [walkA_toL] at this
   exact this
  ·rintro k (rfl | hk)
   ·exact hBb
   ·rcases List.mem_cons.1 hk with rfl | hk
    ·omega
    ·have := hlt k hk; omega
end Go.Proofs.Ytebejadiaooooaa.OrdSb
end
section
namespace Go.Proofs.Ytebejadiaooooaa.Fo
open Go.RowKit Go.Shelf Go.Proofs.YtebejadiaooooaaW.PrintWords Go.Proofs.YtebejadiaooooaaW.PrintLast Go.Proofs.YtebejadiaooooaaW.PrintMore Go.Proofs.Ytebejadiaooooaa.Own Go.Proofs.Ytebejadiaooooaa.Ord Go.Proofs.Ytebejadiaooooaa
open Go.Proofs.Ytebejadiaooooaa.OrdSs (lt Hold hold_new hold_get hold_put hold_drop hold_cut)
set_option maxHeartbeats 2000000
set_option maxRecDepth 100000
theorem at_E {w : World} {A : Option Addr} {n : Nat} {xs : List En} (h : Kd.C P.k39 w A n xs) (i : Int) (h0 : 0 ≤ i) (h1 : i < n) : ∃ ad, ∃ x : En, A = some ad ∧ xs[i.toNat]? = some x ∧ w.cell? (ad.add (i.toNat * 2)) = some (.string x.f0) ∧
  w.cell? ⟨(ad.add (i.toNat * 2)).block, (ad.add (i.toNat * 2)).off + 1, none⟩ = some (.string x.f1) := by
 obtain ⟨ad, c, e, _, hK, hc0⟩ := Kd.C_get h P.z39 i h0 h1
 have hc : ∀ j u, c[j]? = some u → w.cell? (ad.add (i.toNat * 2 + j)) = some u := hc0
 obtain rfl := P.k39_open hK
 have hl := h.1
 refine ⟨ad, _, e, ?_, hc 0 _ rfl, by rw [← add_field _ _ 1 (by omega)]; exact hc 1 _ rfl⟩
 rw [List.getD_eq_getElem?_getD, List.getElem?_eq_getElem (by omega)]
 rfl
theorem cell_below {w W : World} (hb : Below w.heap.size w W) {a : Addr} {v : Value} (h : w.cell? a = some v) : W.cell? a = some v := (World.cell?_of_block (hb.block a.block (World.block_lt_of_cell? w a h))).trans h
theorem table_any {w : World} {A : Option Addr} {c : Nat} {l : List En} (hC : Kd.C P.k39 w A l.length l) (hcap : l.length ≤ c) (hlen : l.length ≤ 100000) :
  Calls Try.prog 66 #[.slice A l.length c] w fun e w' => ∃ m, e = .returned (.pointer (some ⟨m, 0, none⟩)) ∧ Hold (fun k => w.heap.size ≤ k) w' m (tabV l) ∧ Below w.heap.size w w' := by
 have hmax := Kd.C_max hC
 have hue := Try.underlying39
 have NW := hold_new w
 go_enter Try.func66, Try.ntmps66
 go_wp2_with (go_at_call 97; refine NW.mono ?_; clear NW; rintro e w1 ⟨m, rfl, hH, hB⟩)
 go_loopg [11] l.length (fun g iv wr => ∃ i : Int, iv = .int .i64 i ∧ Aside (0 ≤ i ∧ i.toNat + g = l.length) ∧ Aside (Hold (fun k => w.heap.size ≤ k) wr m (tabFrom [] (l.take i.toNat))) ∧ Aside (Below w.heap.size w wr))
 case atStart => exact ⟨0, rfl, ⟨Int.le_refl _, by simp⟩, by show Hold _ _ _ _; simpa [tabFrom] using hH, hB⟩
 case round =>
  clear hH hB
  obtain ⟨i, rfl, hA, hH, hB⟩ := hrel
  obtain ⟨h0, hg⟩ := hA.out
  cases gk with
  | zero =>
   have d0 : decide (i < (l.length : Int)) = false := decide_eq_false (by omega)
   have hi : l.take i.toNat = l := List.take_of_length_le (by omega)
   have hHF := hH.out
   rw [hi] at hHF
   clear hi hg hC
   go_wp2
   go_ret
   exact ⟨m, rfl, hHF, hB.out⟩
  | succ g =>
   have hlt : i < (l.length : Int) := by omega
   obtain ⟨ad, x, rfl, hx, q0, q1⟩ := at_E hC i h0 hlt
   have e0 := cell_below hB.out q0
   have e1 := cell_below hB.out q1
   have d0 := decide_eq_true hlt
   have d1 := decide_eq_true h0
   have d2 := eq_true h0
   have d3 := eq_true hlt
   have hwi : wrap64 (i + 1) = i + 1 := IntWalk.wrap64_in _ (by omega)
   have htk : Aside (l.take (i + 1).toNat = l.take i.toNat ++ [x]) := by
    show _ = _
    rw [show (i + 1).toNat = i.toNat + 1 by omega, List.take_add_one, hx]; rfl
   have hr := tabFrom_rise (l.take i.toNat) (L := []) List.Pairwise.nil
   have hlL : Aside ((tabFrom [] (l.take i.toNat)).length ≤ 100000) := by
    show _ ≤ _
    have h1 := hr.2
    rw [List.length_take, List.length_nil] at h1
    omega
   have hb1 := hB.out.size
   have hB2 := Aside0.mk (below_alloc hB.out (.cells #[.string x.f0, .string x.f1] 39))
   have hH2 := Hold.below hH.out (below_alloc (Below.refl _ _) (.cells #[.string x.f0, .string x.f1] 39))
   have hHA := Aside0.mk hH2
   have GT := hold_get hH2 x.f0
   have PT := hold_put hH2 (fun k hk => by simp at hk; omega) (by have := hlL.out; omega) x.f0 x.f1
   have hszA : Aside0 (w.heap.size ≤ (wr.alloc (.cells #[.string x.f0, .string x.f1] 39)).heap.size) := ⟨by simp; omega⟩
   have hgA := Aside0.mk (And.intro h0 hg)
   have hCA := Aside0.mk hC
   clear hC hg hx q0 q1 hr hH2 hlt h0 hA hH
   cases hk : (lookK lt x.f0 (tabFrom [] (l.take i.toNat))).isSome with
   | true =>
    rw [hk] at GT
    have hkA := Aside0.mk hk
    clear hk PT
    go_wp2_with (go_at_call 72; refine GT.mono ?_; clear GT; rintro e w2 ⟨rfl, hw⟩; obtain rfl := hw.symm)
    go_roundg g
    case measure => omega
    case rel =>
     obtain ⟨e0, eg⟩ := hgA.out
     refine ⟨i + 1, by rw [hwi], ⟨by omega, by omega⟩, ?_, hB2.out⟩
     show Hold _ _ _ _
     rw [htk.out, tabFrom_snoc, tab1, if_pos hkA.out]
     exact hHA.out
   | false =>
    rw [hk] at GT
    have hkA := Aside0.mk hk
    clear hk
    go_wp2_with (first
     | (go_at_call 72; refine GT.mono ?_; clear GT; rintro e w2 ⟨rfl, hw⟩; obtain rfl := hw.symm)
     | (go_at_call 98; refine PT.mono ?_; clear PT; rintro e w3 ⟨⟨b3, rfl⟩, hH3, hB3⟩))
    go_roundg g
    case measure => omega
    case rel =>
     obtain ⟨e0, eg⟩ := hgA.out
     refine ⟨i + 1, by rw [hwi], ⟨by omega, by omega⟩, ?_, hB2.out.trans (hB3.below (fun k hk => hk) hszA.out)⟩
     show Hold _ _ _ _
     rw [htk.out, tabFrom_snoc, tab1, if_neg (by rw [hkA.out]; simp)]
     exact hH3
end Go.Proofs.Ytebejadiaooooaa.Fo
end
section
namespace Go.Proofs.Ytebejadiaooooaa.It
open Go Go.RowKit Go.Proofs.YtebejadiaooooaaW.PrintWords
def OutC (t e : TypeId) (size base B n : Nat) (C : List Value) (M : Nat → Prop) (W : World) : Prop :=
 ∃ v, Boxed W B t v ∧ W.ownsRow base e size v n C ∧ M B ∧ ∀ g, v.ownBlock = some g → M g
theorem OutC.move {t e : TypeId} {size base B n : Nat} {C : List Value} {M : Nat → Prop} {B0 : Nat} {W W' : World} (h : OutC t e size base B n C M W) (f : FrM (fun k => ¬ M k ∧ B0 ≤ k) W W') : OutC t e size base B n C M W' := by
 obtain ⟨v, hv, hr, hB, hg⟩ := h
 refine ⟨v, (f.block B hv.lt (fun q => q.1 hB)).trans hv, own_move hr (fun k hk => ?_), hB, hg⟩
 obtain ⟨cells, hc⟩ := own_typed hr k hk
 exact f.block k (Array.getElem?_eq_some_iff.1 hc).1 (fun q => q.1 (hg k hk))
theorem OutC.stab {α : Type} (t e : TypeId) (size base B B0 : Nat) (n : List α → Nat) (C : List α → List Value) : Stab B0 (fun pre M W => OutC t e size base B (n pre) (C pre) M W) :=
 fun pre M W W' h f => h.move f
theorem OutC.next {t e : TypeId} {size base B n m : Nat} {C C' : List Value} {M : Nat → Prop} {W w1 : World} {v v' : Value} {tmp : Obj} (hv : Boxed W B t v) (hrow : W.ownsRow base e size v n C) (hMB : M B) (hMg : ∀ g, v.ownBlock = some g → M g) (hM : ∀ k, M k → k < W.heap.size)
  (hte : t ≠ e) (hbase : base ≤ W.heap.size) (hB : base ≤ B) (hown' : w1.ownsRow base e size v' m C') (hgrow : (W.alloc tmp).grownBy w1 v.ownBlock) (hat : v'.ownBlock = v.ownBlock ∨ v'.ownBlock = some (W.alloc tmp).heap.size) :
  Boxed w1 B t v ∧ ∃ M' : Nat → Prop, (∀ k, M' k → (M k ∨ W.heap.size ≤ k) ∧ k < (w1.setCell ⟨B, 0, none⟩ v').heap.size) ∧ FrM M W (w1.setCell ⟨B, 0, none⟩ v') ∧ OutC t e size base B m C' M' (w1.setCell ⟨B, 0, none⟩ v') := by
 obtain ⟨h1, h2, h3, h4, h5⟩ := hv.appended hte hrow hbase hB hown' hgrow
 refine ⟨h1, fun k => M k ∨ v'.ownBlock = some k, ?_, ?_, ⟨v', h2, h3, .inl hMB, fun g hg => .inr hg⟩⟩
 ·rintro k (hk | hk)
  ·exact ⟨.inl hk, Nat.lt_of_lt_of_le (hM k hk) h5.size⟩
  ·obtain ⟨cells, hc⟩ := own_typed h3 k hk
   refine ⟨?_, (Array.getElem?_eq_some_iff.1 hc).1⟩
   rcases hat with q | q
   ·exact .inl (hMg k (q ▸ hk))
   ·have e1 : some k = some (W.alloc tmp).heap.size := hk.symm.trans q
    injection e1 with e1
    rw [e1]
    exact .inr (by simp)
 ·have f1 : FrM M W (W.alloc tmp) := (FrM.refl M W).alloc tmp
  have f2 : FrM M (W.alloc tmp) w1 := FrM.grown hgrow (fun r hr => .inl (hMg r hr))
  have f3 : FrM M w1 (w1.setCell ⟨B, 0, none⟩ v') := FrM.grown (grownBy_setCell' w1 B v') (fun r hr => .inl (by cases hr; exact hMB))
  exact (f1.trans f2 (fun i hi => .inl hi)).trans f3 (fun i hi => .inl hi)
theorem OutC.start {t e : TypeId} {size base B : Nat} {W : World} (hv : Boxed W B t (.slice none 0 0)) : OutC t e size base B 0 [] (fun k => k = B) W :=
 ⟨_, hv, World.ownsRow_nil _ _ _ _, rfl, fun g hg => by simp [Value.ownBlock] at hg⟩
end Go.Proofs.Ytebejadiaooooaa.It
end
section
namespace Go.Proofs.Ytebejadiaooooaa.Fo
open Go.RowKit Go.Shelf Go.Proofs.YtebejadiaooooaaW.PrintWords Go.Proofs.YtebejadiaooooaaW.PrintLast Go.Proofs.YtebejadiaooooaaW.PrintMore Go.Proofs.Ytebejadiaooooaa.Own Go.Proofs.Ytebejadiaooooaa.Ord Go.Proofs.Ytebejadiaooooaa
open Go.Proofs.Ytebejadiaooooaa.OrdSs (lt Hold hold_new hold_get hold_put hold_drop hold_cut hold_from_iter from_in lin cutM infoStr underS row_open)
attribute [local go_sem] Oper.semAt_some
set_option maxHeartbeats 2000000
set_option maxRecDepth 100000
theorem cut_clear (f t : ByteArray) (L : Row) (h : t.toList ≠ []) : cutM f t L = clearV f t L := by
 unfold cutM clearV
 refine List.filter_congr (fun x _ => ?_)
 have he : P.emp t = false := by simp [P.emp, h]
 rw [P.holds_def, P.ah, he]
 show (lt x.1 f || !lt x.1 t) = !(!lt x.1 f && (false || lt x.1 t))
 cases lt x.1 f <;> cases lt x.1 t <;> rfl
def delAll (ks : List ByteArray) (L : Row) : Row := ks.foldl (fun L k => del lt k L) L
theorem delAll_snoc (ks : List ByteArray) (k : ByteArray) (L : Row) : delAll (ks ++ [k]) L = del lt k (delAll ks L) := by simp [delAll]
theorem delAll_filter : ∀ (ks : List ByteArray) (L : Row), delAll ks L = L.filter (fun x => ks.all (fun k => lt x.1 k || lt k x.1))
 | [], L => (List.filter_eq_self.2 (fun x _ => rfl)).symm
 | k :: ks, L => by
  show delAll ks (del lt k L) = _
  rw [delAll_filter ks (del lt k L), del, List.filter_filter]
  refine List.filter_congr (fun x _ => ?_)
  rw [List.all_cons, Bool.and_comm]
theorem delAll_len (ks : List ByteArray) (L : Row) : (delAll ks L).length ≤ L.length := by rw [delAll_filter]; exact List.length_filter_le _ _
theorem del_clear (f t : ByteArray) (L : Row) (h : t.toList = []) : delAll ((L.filter (fun x => !lt x.1 f)).map (·.1)) L = clearV f t L := by
 rw [delAll_filter, clearV]
 refine List.filter_congr (fun x hx => ?_)
 have he : P.emp t = true := by simp [P.emp, h]
 rw [P.holds_def, P.ah, he, Bool.true_or, Bool.and_true, Bool.not_not]
 show _ = lt x.1 f
 cases hA : lt x.1 f with
 | true =>
  rw [List.all_eq_true]
  intro k hk
  obtain ⟨y, hy, rfl⟩ := List.mem_map.1 hk
  have h1 : lt y.1 f = false := by simpa using (List.mem_filter.1 hy).2
  have : lt x.1 y.1 = true := by
   cases q : lt x.1 y.1 with
   | true => rfl
   | false =>
    cases q2 : lt y.1 x.1 with
    | true => rw [lin.tr q2 hA] at h1; cases h1
    | false => rw [lin.tri q q2] at hA; rw [hA] at h1; cases h1
  rw [this]; rfl
 | false =>
  rw [List.all_eq_false]
  exact ⟨x.1, List.mem_map.2 ⟨x, List.mem_filter.2 ⟨hx, by rw [hA]; rfl⟩, rfl⟩, by rw [lin.irr]; decide⟩
theorem clear_cut {U : Nat → Prop} {w : World} {m : Nat} {L : Row} (h : Hold U w m L) (hl : L.length < 1000000) (f t : ByteArray) (ht : t.toList ≠ []) :
  Calls Try.prog 99 #[.pointer (some ⟨m, 0, none⟩), .agg #[.string f, .string t]] w fun e w' => (∃ v, e = .returned v) ∧ Hold U w' m (clearV f t L) ∧ It.FrM U w w' := by
 have hur := Try.underlying28
 have hh := Hold.below h (below_alloc (Below.refl _ _) (.cells #[.string f, .string t] 28))
 have hb0 : It.FrM U w (w.alloc (.cells #[.string f, .string t] 28)) := .of_below (below_alloc (Below.refl w.heap.size w) _)
 have CT := hold_cut hh hl f t
 rw [cut_clear f t L ht] at CT
 have t0 : (t.toList == []) = false := by simpa using ht
 have t1 : (t.toList != []) = true := by simp [t0, bne]
 have t2 : t.toList.isEmpty = false := by simpa using ht
 clear ht h hh
 go_enter Try.func99, Try.ntmps99
 go_wp2_with (go_at_call 120; refine CT.mono ?_; clear CT; rintro e w3 ⟨⟨b3, rfl⟩, hH3, hB3⟩)
 refine bodyPost_ret (results_none rfl _ _ _) rfl ?_
 exact ⟨⟨_, rfl⟩, hH3, hb0.trans hB3 (fun i hi => .inl hi)⟩
theorem clear_end {U : Nat → Prop} {w : World} {m : Nat} {L : Row} (h : Hold U w m L) (hU : ∀ k, U k → k < w.heap.size) (hl : L.length < 1000000) (f t : ByteArray) (ht : t.toList = []) :
  Calls Try.prog 99 #[.pointer (some ⟨m, 0, none⟩), .agg #[.string f, .string t]] w fun e w' => (∃ v, e = .returned v) ∧ Hold U w' m (clearV f t L) ∧ It.FrM U w w' := by
 have hur := Try.underlying28
 obtain ⟨i0, hi, hz0, hz1, hz2⟩ := info_parts infoStr
 have hmax : maxLen = 9223372036854775807 := rfl
 have t0 : (t.toList == []) = true := by simpa using ht
 have t1 : (t.toList != []) = false := by simp [t0, bne]
 have t2 : t.toList.isEmpty = true := by simpa using ht
 refine (callsIn_wide (n := 5)).1 ?_
 refine callsIn_of_wp_marks Try.func99 rfl trivial ?_ rfl
 simp only [Try.ntmps99, List.size_toArray, List.length_cons, List.length_nil, Nat.reduceAdd, Nat.reduceSub, Array.replicate_succ, Array.replicate_zero, List.push_toArray, List.append_toArray, List.nil_append, List.cons_append]
 gi_wp2_with (refine ⟨trivial, ?_⟩; gi_at_call 91; refine (from_in _ _ f _).mono ?_; rintro e w' ⟨rfl, tt, rfl⟩)
 have bR := blk_new w (.cells #[.string f, .string t] 28)
 have bO := Boxed.new (w.alloc (.cells #[.string f, .string t] 28)) 24 (.slice none 0 0)
 rw [World.size_alloc] at bO
 have bN := Boxed.new ((w.alloc (.cells #[.string f, .string t] 28)).alloc (.cells #[.slice none 0 0] 24)) tt (.pointer (some ⟨m, 0, none⟩))
 rw [World.size_alloc, World.size_alloc] at bN
 have bK := Boxed.new (((w.alloc (.cells #[.string f, .string t] 28)).alloc (.cells #[.slice none 0 0] 24)).alloc (.cells #[.pointer (some ⟨m, 0, none⟩)] tt)) 9 (.string f)
 rw [World.size_alloc, World.size_alloc, World.size_alloc] at bK
 have hB0 : Below w.heap.size w ((((w.alloc (.cells #[.string f, .string t] 28)).alloc (.cells #[.slice none 0 0] 24)).alloc (.cells #[.pointer (some ⟨m, 0, none⟩)] tt)).alloc (.cells #[.string f] 9)) :=
  ((((Below.refl _ w).alloc (Nat.le_refl _) _).alloc (by simp) _).alloc (by simp; omega) _).alloc (by simp; omega) _
 have hH0 := Hold.below h hB0
 have bO' := (bO.alloc (.cells #[.pointer (some ⟨m, 0, none⟩)] tt)).alloc (.cells #[.string f] 9)
 have bN' := bN.alloc (.cells #[.string f] 9)
 generalize hw0 : (((w.alloc (.cells #[.string f, .string t] 28)).alloc (.cells #[.slice none 0 0] 24)).alloc (.cells #[.pointer (some ⟨m, 0, none⟩)] tt)).alloc (.cells #[.string f] 9) = w0 at hB0 hH0 bO' bN' bK ⊢
 have hs0 : w0.heap.size = w.heap.size + 1 + 1 + 1 + 1 := by rw [← hw0]; simp
 clear hw0 bO bN
 obtain ⟨S, hS, hIt⟩ := hold_from_iter 4 (w.heap.size + 1 + 1) (w.heap.size + 1 + 1 + 1) h hB0 f (by omega) (by omega) bN'.cell bK.cell
 apply It.range_iter rfl (by omega) (gf := 117) (lb := #[.pointer (some ⟨w.heap.size + 1 + 1, 0, none⟩), .pointer (some ⟨w.heap.size + 1 + 1 + 1, 0, none⟩)]) rfl trivial (enters_of Try.func117 (by kernel_rfl) rfl)
  hIt (It.FrM.refl _ _) (fun k => k = w.heap.size + 1) (fun k hk => ⟨(hS k hk).2, fun e => by
   rcases (hS k hk).1 with q | q | q
   ·omega
   ·omega
   ·have := hU k q.1; omega⟩) (fun k hk => by omega) (fun _ => rfl)
  (fun pre M W => It.OutC 24 9 1 w.heap.size (w.heap.size + 1) pre.length (pre.map (fun x => Value.string x.1)) M W) (fun _ _ _ _ => False)
  (It.OutC.stab _ _ _ _ _ _ _ _) (fun _ _ _ _ _ h _ => h) (It.OutC.start bO')
 case hassign =>
  intro l x W K hK
  gi_wp2
  exact hK
 case hbody =>
  rintro l pre x M1 W ⟨v, hv, hrow, hMB, hMg⟩ hMb hF hlt
  have hc1 := hv.cell
  have hflen := List.length_filter_le (fun x : ByteArray × ByteArray => !lt x.1 f) L
  have hsW := hF.size
  gi_wp2_with (gi_at_builtin; refine wpListIn_append_own_at _ rfl _ _ 24 rfl w.heap.size 9 i0 (.string ⟨#[]⟩) 1 16 underS hi hz0 hz1 hz2 rfl (by decide) _ _ _ rfl (hrow.alloc _) ⟨W.heap.size, 0, none⟩ 1 1 [.string x.1] rfl rfl (cell_one_new _ _ _) (by simp [Value.oneCell']) (by omega) (by omega) (by simp; omega) ?_; intro v' w1 hown' hgrow _ hat; obtain ⟨g', cap', rfl⟩ := ownsRow_succ hown'; obtain ⟨hv1, hq⟩ := It.OutC.next hv hrow hMB hMg (fun k hk => (hMb k hk).2) (by decide) (by omega) (by omega) hown' hgrow hat; have hc2 := hv1.cell; have hf2 := hv1.frozen)
  obtain ⟨M', q1, q2, q3⟩ := hq
  exact ⟨M', q1, q2, by show It.OutC _ _ _ _ _ (pre ++ [x]).length ((pre ++ [x]).map (fun x => Value.string x.1)) _ _; rw [List.length_append, List.map_append]; exact q3⟩
 case hstop =>
  intro D c pre M1 W _ _ _ _ _ _ h _
  exact h.elim
 case hdone =>
  rintro D ys M1 W hD hDW hDM hMb hF rfl ⟨v, hv, hrow, hMB, hMg⟩ hK
  have hBW : Below w.heap.size w W := hB0.trans (hF.below (base := w.heap.size) (fun k hk => by omega) (by omega))
  have hHW := Hold.below h hBW
  have hc1 := hv.cell
  obtain ⟨ks, hks⟩ : ∃ ks, ks = (L.filter (fun x : ByteArray × ByteArray => !lt x.1 f)).map (·.1) := ⟨_, rfl⟩
  have hkl : ks.length ≤ L.length := by rw [hks, List.length_map]; exact List.length_filter_le _ _
  have hrow' : W.ownsRow w.heap.size 9 1 v ks.length (ks.map Value.string) := by
   rw [hks, List.length_map, List.map_map]
   exact hrow
  obtain ⟨A, cp, rfl, hcp, hrd⟩ := row_open hrow'
  have hvW := hv
  have hA : Aside (delAll ks L = clearV f t L) := by show _ = _; rw [hks]; exact del_clear f t L ht
  have hKc := Aside0.mk hK
  have hbx := hv
  have hhl : ((List.map (fun x : ByteArray × ByteArray => Value.string x.1) (L.filter (fun x => !lt x.1 f)))).length = ks.length := by rw [hks]; simp
  have hslot : (L.filter (fun x : ByteArray × ByteArray => !lt x.1 f)).length = ks.length := by rw [hks]; simp
  clear hks hrow hrow' hIt hS hMb hMB hMg hDM hF hHW hK bO' bN' bK hH0 hB0 bR hhl hv hslot
  gi_wp2
  refine wpIn_wide.2 ?_
  have hDA := Aside0.mk (And.intro hD hDW)
  have hHA0 := Aside0.mk (Hold.below h hBW)
  have hBA := Aside0.mk hBW
  have hUA := Aside0.mk hU
  have hbl := hbx.lt
  have hlA := Aside0.mk hl
  have hszW := hBW.size
  clear h hBW hD hU hl hc1
  go_loopg [29] ks.length (fun g iv wr => ∃ j : Int, iv = .int .i64 j ∧ Aside (0 ≤ j ∧ j.toNat + g = ks.length) ∧ Aside (Hold U wr m (delAll (ks.take j.toNat) L)) ∧ Aside (It.FrM U W wr))
  case atStart => exact ⟨0, rfl, ⟨Int.le_refl _, by simp⟩, by show Hold _ _ _ _; simpa [delAll] using hHA0.out, It.FrM.refl _ _⟩
  case round =>
   clear hHA0
   obtain ⟨j, rfl, hj, hH, hF⟩ := hrel
   obtain ⟨j0, jg⟩ := hj.out
   cases gk with
   | zero =>
    have d0 : decide (j < (ks.length : Int)) = false := decide_eq_false (by omega)
    have e1 : ks.take j.toNat = ks := List.take_of_length_le (by omega)
    have hHF := hH.out
    rw [e1, hA.out] at hHF
    have hKw := hF.out.blk hKc.out (fun q => by have := hUA.out D q; have := hDA.out.1; omega)
    clear hrd jg hH
    go_wp2
    gi_wp2
    refine ⟨by simp, .inl ⟨_, _, rfl, run_takeDeferred hKw, ?_⟩⟩
    refine ⟨_, results_none rfl _ _ _, ⟨_, rfl⟩, Hold.putObj hHF _ hKw rfl, ?_⟩
    have f1 : It.FrM U w _ := (It.FrM.of_below hBA.out).trans hF.out (fun i hi => .inl hi)
    exact f1.trans (It.FrM.putObj (M := fun k => k = D) _ _ _ rfl) (fun i hi => .inr (by subst hi; have := hDA.out.1; omega))
   | succ g =>
    obtain ⟨k, hk⟩ : ∃ k, ks[j.toNat]? = some k := ⟨_, List.getElem?_eq_getElem (by omega)⟩
    obtain ⟨gb, rfl, hgb, hgl, hcell⟩ := hrd j.toNat (.string k) (by rw [List.getElem?_map, hk]; rfl)
    have hcw : wr.cell? ⟨gb, j.toNat, none⟩ = some (.string k) := by
     have := hF.out.block gb hgl (fun q => by have := hUA.out gb q; omega)
     unfold World.cell? at hcell ⊢
     rw [this]; exact hcell
    have e1A : Aside (ks.take (j + 1).toNat = ks.take j.toNat ++ [k]) := by
     show _ = _
     rw [show (j + 1).toNat = j.toNat + 1 by omega, List.take_add_one, hk]; rfl
    have hdl := delAll_len (ks.take j.toNat) L
    have DR := hold_drop hH.out (by have := hlA.out; omega) k
    have d0 : decide (0 ≤ j) = true := decide_eq_true j0
    have d1 := eq_true j0
    have d2 := eq_true (show j < (ks.length : Int) by omega)
    have d3 := decide_eq_true (show j < (ks.length : Int) by omega)
    have hwi : wrap64 (j + 1) = j + 1 := IntWalk.wrap64_in _ (by have := hlA.out; omega)
    have hjA := Aside0.mk (And.intro j0 jg)
    clear hrd hk hcell hdl hH hj j0 jg
    go_wp2_with (go_at_call 100; refine DR.mono ?_; clear DR; rintro e w1 ⟨⟨b1, rfl⟩, hH1, hF1⟩)
    go_roundg g
    case measure => omega
    case rel =>
     obtain ⟨e0, eg⟩ := hjA.out
     refine ⟨j + 1, by rw [hwi], ⟨by omega, by omega⟩, ?_, hF.out.trans hF1 (fun i hi => .inl hi)⟩
     show Hold _ _ _ _
     rw [e1A.out, delAll_snoc]
     exact hH1
theorem clear_any {w : World} {U : Nat → Prop} {m : Nat} {L : Row} (h : Hold U w m L) (hl : L.length < 1000000) (f t : ByteArray) :
  Calls Try.prog 99 #[.pointer (some ⟨m, 0, none⟩), .agg #[.string f, .string t]] w fun e w' => (∃ v, e = .returned v) ∧ Hold U w' m (clearV f t L) ∧ It.FrM U w w' := by
 by_cases ht : t.toList = []
 ·refine (clear_end h.bound (fun k hk => hk.2) hl f t ht).mono fun e w' q => ⟨q.1, q.2.1.mono (fun k hk => hk.1), q.2.2.mono (fun i hi => .inl hi.1)⟩
 ·exact clear_cut h hl f t ht
end Go.Proofs.Ytebejadiaooooaa.Fo
end
section
namespace Go.Proofs.Ytebejadiaooooaa.P
open Go.RowKit Go.Proofs.YtebejadiaooooaaW.PrintWords Go.Proofs.YtebejadiaooooaaW.PrintLast Go.Proofs.YtebejadiaooooaaW.PrintMore Go.Proofs.Ytebejadiaooooaa.Own Go.Proofs.Ytebejadiaooooaa
theorem IsPoint_eq (k q : Int) (y t v : ByteArray) (d : Int) : msg_IsPoint.f k q y t v d = some (isPt k) := by
 unfold msg_IsPoint.f isPt
 by_cases h1 : k = 1
 ·simp [h1]
 ·by_cases h2 : k = 2
  ·simp [h2]
  ·by_cases h3 : k = 3 <;> simp [h1, h2, h3]
theorem ahead_eq (s t : ByteArray) : key_ahead.f s t = some (emp t || lt s t) := by
 unfold key_ahead.f emp lt
 by_cases h : t.toList = [] <;> simp [h]
theorem RightRange_eq (f t : ByteArray) : key_RightRange.f f t = some (rr f t) := by
 unfold key_RightRange.f rr
 rw [ahead_eq]
 rfl
theorem After_eq (a : ByteArray) (h : a.size ≤ 140737488351232) : key_After.f a = some (succB a) := by
 unfold key_After.f succB
 rw [if_pos (by omega)]
theorem Point_range_eq (a : ByteArray) (h : a.size ≤ 140737488351232) : key_Point.f a = some (a, succB a) := by
 unfold key_Point.f
 rw [After_eq a h]
 rfl
theorem Span_eq (k q : Int) (y t v : ByteArray) (d : Int) (h : y.size ≤ 140737488351232) : msg_Span.f k q y t v d = some (span k y t) := by
 unfold msg_Span.f span
 rw [IsPoint_eq, Point_range_eq y h]
 simp only [Option.bind_some]
 cases isPt k
 ·by_cases h4 : k = 4 <;> simp [h4]
 ·simp
theorem or_add (a b : Int) (ha : 0 ≤ a) (ha2 : a < 72057594037927936) (hb : 0 ≤ b) (hb2 : b ≤ 255) : Go.bits .or .u64 (a * 256) b = a * 256 + b := by
 rw [Go.u64_or _ _ (by omega) (by omega) (by omega) (by omega)]
 obtain ⟨m, rfl⟩ := Int.eq_ofNat_of_zero_le ha
 obtain ⟨n, rfl⟩ := Int.eq_ofNat_of_zero_le hb
 have e : ((m : Int) * 256).toNat = m * 2 ^ 8 := by omega
 have e2 : (n : Int).toNat = n := by omega
 rw [e, e2, ← Nat.shiftLeft_eq, ← Nat.shiftLeft_add_eq_or_of_lt (by omega), Nat.shiftLeft_eq]
 omega
theorem take_step (k : Nat) (s : ByteArray) (hs : s.size = 8) (n : Nat) (hn : n < 8) : word_Take.l0 (k + 1) s (valN s n) 8 n = word_Take.l0 k s (valN s (n + 1)) 8 ((n + 1 : Nat) : Int) := by
 have hv := valN_range s n
 have hb := bt_range s n
 have hp := pow_le n hn
 have hv2 : valN s n < 72057594037927936 := by omega
 simp only [word_Take.l0]
 rw [if_pos (by omega), if_pos (by omega), if_pos (by omega)]
 rw [IntWalk.u64_in (valN s n * 256) (by omega), IntWalk.u64_in (bt s n) (by omega), or_add _ _ hv.1 hv2 hb.1 hb.2, IntWalk.wrap64_in _ (by omega)]
 rfl
theorem word_Take_eq (k : Nat) (s : ByteArray) : word_Take.f (k + 9) s = some (if s.size = 8 then (valN s 8, true) else (0, false)) := by
 unfold word_Take.f
 by_cases h : s.size = 8
 ·rw [if_pos (by omega), if_pos h]
  have e : (s.size : Int) = 8 := by omega
  rw [e]
  have s0 := take_step (k + 8) s h 0 (by omega)
  have s1 := take_step (k + 7) s h 1 (by omega)
  have s2 := take_step (k + 6) s h 2 (by omega)
  have s3 := take_step (k + 5) s h 3 (by omega)
  have s4 := take_step (k + 4) s h 4 (by omega)
  have s5 := take_step (k + 3) s h 5 (by omega)
  have s6 := take_step (k + 2) s h 6 (by omega)
  have s7 := take_step (k + 1) s h 7 (by omega)
  refine s0.trans (s1.trans (s2.trans (s3.trans (s4.trans (s5.trans (s6.trans (s7.trans ?_)))))))
  simp only [word_Take.l0]
  rw [if_neg (by omega)]
 ·rw [if_neg (by omega), if_neg h]
theorem word_Add_eq (k : Nat) (v : ByteArray) (is : Bool) (d : Int) : word_Add.f (k + 9) v is d = some (addV v is d) := by
 have e8 : ∀ z, Wp.eight z = eight z := fun _ => rfl
 unfold word_Add.f addV word_Put.f
 rw [word_Take_eq]
 cases is <;> by_cases h : v.size = 8 <;> simp [h, e8]
theorem Holds_eq (f t s : ByteArray) : key_Holds.f f t s = some (holds f t s) := by
 unfold key_Holds.f holds
 rw [ahead_eq]
 by_cases h : Op.bytesLess s.toList f.toList = true
 ·simp [h, lt]
 ·simp [h, lt]
theorem Touches_eq (k q : Int) (y t v : ByteArray) (d : Int) (s : ByteArray) (h : y.size ≤ 140737488351232) : msg_Touches.f k q y t v d s = some (touches k y t s) := by
 unfold msg_Touches.f touches
 rw [IsPoint_eq]
 simp only [Option.bind_some, Span_eq _ _ _ _ _ _ h]
 cases hp : isPt k with
 | false =>
  by_cases h4 : k = 4
  ·simp [h4, Holds_eq, span, show isPt 4 = false from rfl]
  ·simp [h4]
 | true =>
  have h4 := isPt_ne4 hp
  by_cases hs : y.toList = s.toList <;> simp [hs, h4, same]
theorem Apply_eq (n : Nat) (k q : Int) (y t vv : ByteArray) (d : Int) (v : ByteArray) (is : Bool) : msg_Apply.f (n + 9) k q y t vv d v is = some (applyV k vv d v is) := by
 unfold msg_Apply.f applyV
 by_cases h1 : k = 1
 ·simp [h1]
 ·by_cases h3 : k = 3
  ·simp [h3, word_Add_eq]
  ·by_cases h2 : k = 2
   ·simp [h2, msg_Apply.j0]
   ·by_cases h4 : k = 4
    ·simp [h4, msg_Apply.j0]
    ·have b4 : (k == 4) = false := by simp [h4]
     cases is <;> simp [h1, h2, h3, h4, msg_Apply.j0, b4]
end Go.Proofs.Ytebejadiaooooaa.P
end
section
namespace Go.Proofs.Ytebejadiaooooaa.Fo
open Go.RowKit Go.Shelf Go.Proofs.YtebejadiaooooaaW.PrintWords Go.Proofs.YtebejadiaooooaaW.PrintLast Go.Proofs.YtebejadiaooooaaW.PrintMore Go.Proofs.Ytebejadiaooooaa.Own Go.Proofs.Ytebejadiaooooaa.Ord Go.Proofs.Ytebejadiaooooaa Go.Proofs.Ytebejadiaooooaa.P
open Go.Proofs.Ytebejadiaooooaa.OrdSs (Hold hold_new hold_get hold_put hold_drop)
set_option maxHeartbeats 2000000
set_option maxRecDepth 100000
theorem at_M {w : World} {A : Option Addr} {n : Nat} {xs : List Ms} (h : Kd.C P.k32 w A n xs) (i : Int) (h0 : 0 ≤ i) (h1 : i < n) : ∃ ad, ∃ x : Ms, A = some ad ∧ xs[i.toNat]? = some x ∧ w.cell? (ad.add (i.toNat * 6)) = some (.int .u8 x.f0) ∧
  w.cell? ⟨(ad.add (i.toNat * 6)).block, (ad.add (i.toNat * 6)).off + 1, none⟩ = some (.int .i64 x.f1) ∧ w.cell? ⟨(ad.add (i.toNat * 6)).block, (ad.add (i.toNat * 6)).off + 2, none⟩ = some (.string x.f2) ∧ w.cell? ⟨(ad.add (i.toNat * 6)).block, (ad.add (i.toNat * 6)).off + 3, none⟩ = some (.string x.f3) ∧
  w.cell? ⟨(ad.add (i.toNat * 6)).block, (ad.add (i.toNat * 6)).off + 4, none⟩ = some (.string x.f4) ∧ w.cell? ⟨(ad.add (i.toNat * 6)).block, (ad.add (i.toNat * 6)).off + 5, none⟩ = some (.int .u64 x.f5) := by
 obtain ⟨ad, c, e, _, hK, hc0⟩ := Kd.C_get h P.z32 i h0 h1
 have hc : ∀ j u, c[j]? = some u → w.cell? (ad.add (i.toNat * 6 + j)) = some u := hc0
 obtain rfl := P.k32_open hK
 have hl := h.1
 refine ⟨ad, _, e, ?_, hc 0 _ rfl, by rw [← add_field _ _ 1 (by omega)]; exact hc 1 _ rfl, by rw [← add_field _ _ 2 (by omega)]; exact hc 2 _ rfl, by rw [← add_field _ _ 3 (by omega)]; exact hc 3 _ rfl, by rw [← add_field _ _ 4 (by omega)]; exact hc 4 _ rfl, by rw [← add_field _ _ 5 (by omega)]; exact hc 5 _ rfl⟩
 rw [List.getD_eq_getElem?_getD, List.getElem?_eq_getElem (by omega)]
 rfl
theorem folded_any {w : World} {A A2 : Option Addr} {c c2 : Nat} {l : List Ms} {e : List En} (hC : Kd.C P.k32 w A l.length l) (hcap : l.length ≤ c) (hC2 : Kd.C P.k39 w A2 e.length e) (hcap2 : e.length ≤ c2) (hlen : l.length ≤ 100000) (hlen2 : e.length ≤ 100000) (hsz : ∀ x ∈ l, x.f2.size ≤ 140737488351232) :
  Calls Try.prog 67 #[.slice A l.length c, .slice A2 e.length c2] w fun r w' => ∃ m, r = .returned (.pointer (some ⟨m, 0, none⟩)) ∧ Hold (fun k => w.heap.size ≤ k) w' m (foldV l e) ∧ Below w.heap.size w w' := by
 have hmax := Kd.C_max hC
 have hum := Try.underlying32
 have TB := table_any hC2 hcap2 hlen2
 have htl := tab_rise e
 go_enter Try.func67, Try.ntmps67
 go_wp2_with (go_at_call 66; refine TB.mono ?_; clear TB; rintro r w1 ⟨m, rfl, hH, hB⟩)
 go_loopg [14] l.length (fun g iv wr => ∃ i : Int, iv = .int .i64 i ∧ Aside (0 ≤ i ∧ i.toNat + g = l.length) ∧ Aside (Hold (fun k => w.heap.size ≤ k) wr m (msgsFrom (tabV e) (l.take i.toNat))) ∧ Aside (Below w.heap.size w wr))
 case atStart => exact ⟨0, rfl, ⟨Int.le_refl _, by simp⟩, by show Hold _ _ _ _; simpa [msgsFrom] using hH, hB⟩
 case round =>
  clear hH hB
  obtain ⟨i, rfl, hA, hH, hB⟩ := hrel
  obtain ⟨h0, hg⟩ := hA.out
  cases gk with
  | zero =>
   have d0 : decide (i < (l.length : Int)) = false := decide_eq_false (by omega)
   have hi : l.take i.toNat = l := List.take_of_length_le (by omega)
   have hHF := hH.out
   rw [hi] at hHF
   clear hi hg hC
   go_wp2
   go_ret
   exact ⟨m, rfl, hHF, hB.out⟩
  | succ g =>
   have hlt : i < (l.length : Int) := by omega
   obtain ⟨ad, ⟨q0, q1, q2, q3, q4, q5⟩, rfl, hx, p0, p1, p2, p3, p4, p5⟩ := at_M hC i h0 hlt
   have hq2 : q2.size ≤ 140737488351232 := hsz _ (List.mem_of_getElem? hx)
   simp only at p0 p1 p2 p3 p4 p5
   have e0 := cell_below hB.out p0
   have e1 := cell_below hB.out p1
   have e2 := cell_below hB.out p2
   have e3 := cell_below hB.out p3
   have e4 := cell_below hB.out p4
   have e5 := cell_below hB.out p5
   have d0 := decide_eq_true hlt
   have d1 := decide_eq_true h0
   have d2 := eq_true h0
   have d3 := eq_true hlt
   have hwi : wrap64 (i + 1) = i + 1 := IntWalk.wrap64_in _ (by omega)
   obtain ⟨L, hL⟩ : ∃ L, L = msgsFrom (tabV e) (l.take i.toNat) := ⟨_, rfl⟩
   have htk : Aside (msgsFrom (tabV e) (l.take (i + 1).toNat) = msgV ⟨q0, q1, q2, q3, q4, q5⟩ L) := by
    show _ = _
    rw [show (i + 1).toNat = i.toNat + 1 by omega, List.take_add_one, hx, hL]
    exact msgsFrom_snoc _ _ _
   have hr := msgs_rise (l.take i.toNat) htl.1
   have hlL : Aside (L.length ≤ 200000) := by
    show _ ≤ _
    have h1 := hr.2
    have h2 := htl.2
    rw [← hL, List.length_take] at h1
    omega
   rw [← hL] at hH
   have hb1 := hB.out.size
   have hBx : Below wr.heap.size wr (wr.alloc (.cells #[.int .u8 q0, .int .i64 q1, .string q2, .string q3, .string q4, .int .u64 q5] 32)) := below_alloc (Below.refl _ _) _
   have hB2 := Aside0.mk (below_step hB.out hBx)
   have hH2 := Aside0.mk (Hold.below hH.out hBx)
   have hbx := blk_new wr (.cells #[.int .u8 q0, .int .i64 q1, .string q2, .string q3, .string q4, .int .u64 q5] 32)
   have hbA := Aside0.mk hbx
   have hgA := Aside0.mk (And.intro h0 hg)
   have hCA := Aside0.mk hC
   have hszA : Aside0 (w.heap.size ≤ wr.heap.size) := ⟨hb1⟩
   clear hC hg hx p0 p1 p2 p3 p4 p5 hr hlt h0 hA hH hL hbx hb1 hBx htl
   by_cases h4 : q0 = 4
   ·subst h4
    have SP : msg_Span.f 4 q1 q2 q3 q4 q5 = some (q2, q3) := (Span_eq _ _ _ _ _ _ hq2).trans rfl
    go_wp2_with (first
     | (go_at_call 58; refine (msg_Span.calls 4 q1 q2 q3 q4 q5 q2 q3 _ SP).mono ?_; clear SP; rintro r w2 ⟨rfl, hB3⟩; have hH3 := Hold.below hH2.out hB3; have hB4 := Aside0.mk (below_step hB2.out hB3); have CL := clear_any hH3 (by have := hlL.out; omega) q2 q3; have hs3 : Aside0 (w.heap.size ≤ w2.heap.size) := ⟨hB4.out.size⟩; clear hB3 hH3)
     | (go_at_call 99; refine CL.mono ?_; clear CL; rintro r w3 ⟨⟨v3, rfl⟩, hH4, hF4⟩))
    go_roundg g
    case measure => omega
    case rel =>
     obtain ⟨e0, eg⟩ := hgA.out
     refine ⟨i + 1, by rw [hwi], ⟨by omega, by omega⟩, ?_, hB4.out.trans (hF4.below (fun k hk => hk) hs3.out)⟩
     show Hold _ _ _ _
     rw [htk.out]
     exact hH4
   ·have b4 : (q0 == 4) = false := by simpa using h4
    have IP : msg_IsPoint.f q0 q1 q2 q3 q4 q5 = some (isPt q0) := IsPoint_eq _ _ _ _ _ _
    cases hp : isPt q0 with
    | false =>
     rw [hp] at IP
     have hpA := Aside0.mk hp
     have h4A := Aside0.mk h4
     clear hp h4
     go_wp2_with (go_at_call 55; refine (msg_IsPoint.calls q0 q1 q2 q3 q4 q5 false _ IP).mono ?_; clear IP; rintro r w2 ⟨rfl, hB3⟩; have hH3 := Aside0.mk (Hold.below hH2.out hB3); have hB4 := Aside0.mk (below_step hB2.out hB3); clear hB3)
     go_roundg g
     case measure => omega
     case rel =>
      obtain ⟨e0, eg⟩ := hgA.out
      refine ⟨i + 1, by rw [hwi], ⟨by omega, by omega⟩, ?_, hB4.out⟩
      show Hold _ _ _ _
      rw [htk.out, show msgV ⟨q0, q1, q2, q3, q4, q5⟩ L = L from by unfold msgV; rw [if_neg h4A.out, if_neg (by rw [hpA.out]; simp)]]
      exact hH3.out
    | true =>
     rw [hp] at IP
     obtain ⟨v0, hv0⟩ : ∃ v0, v0 = (lookK OrdSs.lt q2 L).getD ByteArray.empty := ⟨_, rfl⟩
     obtain ⟨i0, hi0⟩ : ∃ i0, i0 = (lookK OrdSs.lt q2 L).isSome := ⟨_, rfl⟩
     obtain ⟨p, hpe⟩ : ∃ p, p = applyV q0 q4 q5 v0 i0 := ⟨_, rfl⟩
     have AP : msg_Apply.f 100 q0 q1 q2 q3 q4 q5 v0 i0 = some (p.1, p.2) := (Apply_eq 91 _ _ _ _ _ _ _ _).trans (by rw [hpe])
     have hmv : Aside (msgV ⟨q0, q1, q2, q3, q4, q5⟩ L = if p.2 = true then ins OrdSs.lt q2 p.1 L else del OrdSs.lt q2 L) := by
      show _ = _
      unfold msgV
      rw [if_neg h4, if_pos hp]
      simp only
      rw [hpe, hv0, hi0]
      rfl
     have hpA := Aside0.mk hp
     have h4A := Aside0.mk h4
     have GT0 : ∀ W, Hold (fun k => w.heap.size ≤ k) W m L → Calls Try.prog 72 #[.pointer (some ⟨m, 0, none⟩), .string q2] W fun e w' => e = .returned (.tuple #[.string v0, .bool i0]) ∧ w' = W := fun W h => by
      rw [hv0, hi0]; exact hold_get h q2
     obtain ⟨p1, p2⟩ := p
     clear hp h4 hv0 hi0 hpe
     cases p2 with
     | true =>
      go_wp2_with (first
       | (go_at_call 55; refine (msg_IsPoint.calls q0 q1 q2 q3 q4 q5 true _ IP).mono ?_; clear IP; rintro r w2 ⟨rfl, hB3⟩; have hH3 := Aside0.mk (Hold.below hH2.out hB3); have hB4 := Aside0.mk (below_step hB2.out hB3); have hb3 := blk_below hbA.out hB3; have c0 := blk_cell hb3 0; have c1 := blk_cell hb3 1; have c2 := blk_cell hb3 2; have c3 := blk_cell hb3 3; have c4 := blk_cell hb3 4; have c5 := blk_cell hb3 5; simp at c0 c1 c2 c3 c4 c5; have GT := GT0 _ hH3.out; clear hB3 GT0)
       | (go_at_call 72; refine GT.mono ?_; clear GT; rintro r w3 ⟨rfl, hw⟩; obtain rfl := hw.symm)
       | (go_at_call 73; refine (msg_Apply.calls 100 q0 q1 q2 q3 q4 q5 v0 i0 p1 true _ AP).mono ?_; clear AP; rintro r w4 ⟨rfl, hB5⟩; have hH5 := Hold.below hH3.out hB5; have hB6 := Aside0.mk (below_step hB4.out hB5); have hb5 := blk_below hb3 hB5; clear hB5 c0 c1 c2 c3 c4 c5 hb3; have c2 := blk_cell hb5 2; simp at c2; have hs6 : Aside0 (w.heap.size ≤ w4.heap.size) := ⟨hB6.out.size⟩; have PT := hold_put hH5 (fun k hk => by have := hs6.out; omega) (by have := hlL.out; omega) q2 p1; clear hH5)
       | (go_at_call 98; refine PT.mono ?_; clear PT; rintro r w5 ⟨⟨b5, rfl⟩, hH7, hF7⟩))
      go_roundg g
      case measure => omega
      case rel =>
       obtain ⟨e0, eg⟩ := hgA.out
       refine ⟨i + 1, by rw [hwi], ⟨by omega, by omega⟩, ?_, hB6.out.trans (hF7.below (fun k hk => hk) hs6.out)⟩
       show Hold _ _ _ _
       rw [htk.out, hmv.out]
       simp only [if_true]
       exact hH7
     | false =>
      go_wp2_with (first
       | (go_at_call 55; refine (msg_IsPoint.calls q0 q1 q2 q3 q4 q5 true _ IP).mono ?_; clear IP; rintro r w2 ⟨rfl, hB3⟩; have hH3 := Aside0.mk (Hold.below hH2.out hB3); have hB4 := Aside0.mk (below_step hB2.out hB3); have hb3 := blk_below hbA.out hB3; have c0 := blk_cell hb3 0; have c1 := blk_cell hb3 1; have c2 := blk_cell hb3 2; have c3 := blk_cell hb3 3; have c4 := blk_cell hb3 4; have c5 := blk_cell hb3 5; simp at c0 c1 c2 c3 c4 c5; have GT := GT0 _ hH3.out; clear hB3 GT0)
       | (go_at_call 72; refine GT.mono ?_; clear GT; rintro r w3 ⟨rfl, hw⟩; obtain rfl := hw.symm)
       | (go_at_call 73; refine (msg_Apply.calls 100 q0 q1 q2 q3 q4 q5 v0 i0 p1 false _ AP).mono ?_; clear AP; rintro r w4 ⟨rfl, hB5⟩; have hH5 := Hold.below hH3.out hB5; have hB6 := Aside0.mk (below_step hB4.out hB5); have hb5 := blk_below hb3 hB5; clear hB5 c0 c1 c2 c3 c4 c5 hb3; have c2 := blk_cell hb5 2; simp at c2; have hs6 : Aside0 (w.heap.size ≤ w4.heap.size) := ⟨hB6.out.size⟩; have DR := hold_drop hH5 (by have := hlL.out; omega) q2; clear hH5)
       | (go_at_call 100; refine DR.mono ?_; clear DR; rintro r w5 ⟨⟨b5, rfl⟩, hH7, hF7⟩))
      go_roundg g
      case measure => omega
      case rel =>
       obtain ⟨e0, eg⟩ := hgA.out
       refine ⟨i + 1, by rw [hwi], ⟨by omega, by omega⟩, ?_, hB6.out.trans (hF7.below (fun k hk => hk) hs6.out)⟩
       show Hold _ _ _ _
       rw [htk.out, hmv.out]
       simp only [if_false, Bool.false_eq_true]
       exact hH7
end Go.Proofs.Ytebejadiaooooaa.Fo
end
