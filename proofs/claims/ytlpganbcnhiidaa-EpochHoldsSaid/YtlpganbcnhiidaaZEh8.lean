/- Texts of one claim (laid by shake.py). -/
import Derived.Test.YtlpganbcnhiidaaZEh6
import Derived.Test.YtlpganbcnhiidaaZEh7
set_option linter.unusedVariables false
set_option linter.unusedSimpArgs false
section
namespace Go.Proofs.Ytlpganbcnhiidaa.Ep
open Go Go.RowKit Go.Maps Go.Proofs.YtlpganbcnhiidaaW.PrintWords Go.Proofs.YtlpganbcnhiidaaW.PrintLast Go.Proofs.YtlpganbcnhiidaaW.PrintMore Go.Proofs.Ytlpganbcnhiidaa.Own Go.Proofs.Ytlpganbcnhiidaa.Ord Go.Proofs.Ytlpganbcnhiidaa.P
set_option maxHeartbeats 2000000
set_option maxRecDepth 100000
theorem same_loop (l : List Int) (hl : l.length ≤ 1000000) : ∀ (d k i : Nat), i + d = l.length → d < k → catchmentref09_Same.l0 k l l (i : Int) = some true
  | 0, k, i, h, hk => by
    obtain ⟨k, rfl⟩ : ∃ m, k = m + 1 := ⟨k - 1, by omega⟩
    rw [catchmentref09_Same.l0, if_neg (by omega)]
  | d + 1, k, i, h, hk => by
    obtain ⟨k, rfl⟩ : ∃ m, k = m + 1 := ⟨k - 1, by omega⟩
    rw [catchmentref09_Same.l0, if_pos (by omega), if_pos (by omega), if_pos (by omega), if_pos rfl, show wrap64 ((i : Int) + 1) = ((i + 1 : Nat) : Int) from (IntWalk.wrap64_in _ (by omega)).trans (by omega)]
    exact same_loop l hl d k (i + 1) (by omega) (by omega)
theorem same_self (l : List Int) (hl : l.length ≤ 1000000) : catchmentref09_Same.f (l.length + 1) l l = some true := by
  unfold catchmentref09_Same.f
  rw [if_pos rfl]
  exact same_loop l hl l.length (l.length + 1) 0 (by omega) (by omega)
theorem OI.C {W : World} {n : Nat} {A : Option Addr} {c : Nat} {xs : List Int} (h : OI W n (.slice A xs.length c) xs) : xs.length ≤ c ∧ Kd.C (Kd.int .i64) W A xs.length xs := by
  obtain ⟨A', c', e, hR⟩ := h.stands (Z := fun _ => True) (fun _ _ => trivial)
  injection e with e1 e2 e3
  rw [e1, e3]
  exact hR.C
theorem drawn_below {w w' : World} (h : Drawn0 w w') : Below w.heap.size w w' := h.below
theorem rangeB {w : World} {g : Nat} {cs : List Value} (h : w.heap[g]? = some (objB cs)) : w.rangeAt g 0 cs := fun j v hv => by
  rw [Nat.zero_add, cellB h]
  exact hv
end Go.Proofs.Ytlpganbcnhiidaa.Ep
end
section
namespace Go.Proofs.Ytlpganbcnhiidaa.Ep
open Go Go.RowKit Go.Maps Go.Proofs.YtlpganbcnhiidaaW.PrintWords Go.Proofs.YtlpganbcnhiidaaW.PrintLast Go.Proofs.YtlpganbcnhiidaaW.PrintMore Go.Proofs.Ytlpganbcnhiidaa.Own Go.Proofs.Ytlpganbcnhiidaa.Ord Go.Proofs.Ytlpganbcnhiidaa.P
set_option maxHeartbeats 2000000
set_option maxRecDepth 100000
structure Sq (w : World) (p m : Nat) (v : Value) (b : RB) (n : Nat) (M Z : Nat → Prop) (A : Option Addr) (ca : Nat) (B : Option Addr) (cb : Nat) : Prop where
  bk : Bk M w p m v b n
  rw : RI Z w A ca b.ws
  ra : RI Z w B cb b.ats
  dz : ∀ k, Z k → ¬ M k
  ml : ∀ k, M k → k < w.heap.size
  zl : ∀ k, Z k → k < w.heap.size
def So (w : World) (p m : Nat) (b : RB) (n : Nat) (M Z : Nat → Prop) (e : Ending) (w' : World) : Prop :=
  ∃ v M' Z' A ca B cb, e = .returned (.tuple #[.agg (cellsB b A ca B cb).toArray, .bool true]) ∧ Sq w' p m v b n M' Z' A ca B cb ∧ (∀ k, M' k → M k ∨ w.heap.size ≤ k) ∧ (∀ k, Z' k → Z k ∨ w.heap.size ≤ k) ∧ It.FrM M w w'
section
variable {w : World} {o : Oper} {a : Act} {Q : Exit → Act → World → Prop} {K : Act → World → Prop}
theorem wp_storeB (x y : Operand) (ho : o.op = .store 32 x y) (g : Nat) (hx : a.eval x = .pointer (some ⟨g, 0, none⟩)) (cs ds : List Value) (hy : a.eval y = .agg cs.toArray) (hb : w.heap[g]? = some (objB ds)) (hd : ds.length = 134) (hl : cs.length = 134) (h1 : ∀ v ∈ cs, v.oneCell' = true)
    (h : ∀ w', w'.heap[g]? = some (objB cs) → Fr [g] w w' → K (a.put o.dst undef) w') : o.wp Try.prog a w K Q := by
  refine wp_store_row _ x y ho g cs.toArray hx hy 32 ds.toArray hb (by rw [infoB, List.size_toArray, hl]) (by rw [List.size_toArray, List.size_toArray, hd, hl]) (all_oneCell_toArray h1) (h _ ?_ ?_)
  · simp only [World.setRow, Array.getElem?_modify, if_true, hb, Option.map_some, objB]
  · refine ⟨rfl, rfl, rfl, by simp [World.setRow], fun k hk hn => ?_⟩
    have : g ≠ k := fun e => hn (by simp [e])
    simp only [World.setRow, Array.getElem?_modify, if_neg this]
end
theorem fr_cell {w w' : World} {g : Nat} (f : Fr [g] w w') {a : Addr} {v : Value} (h : w.cell? a = some v) (hn : a.block ≠ g) : w'.cell? a = some v :=
  (World.cell?_of_block (f.block a.block (World.block_lt_of_cell? w a h) (by simpa using hn))).trans h
theorem fr_range {w w' : World} {g x : Nat} {cs : List Value} (f : Fr [g] w w') (h : w.rangeAt x 0 cs) (hn : x ≠ g) : w'.rangeAt x 0 cs := fun j v hv => fr_cell f (h j v hv) hn
theorem frm_of {w w' : World} {g : Nat} (f : Fr [g] w w') : It.FrM (fun k => k = g) w w' := frm_fr f (by simp)
theorem frm_drew (M : Nat → Prop) (w : World) : It.FrM M w w.drew := ⟨rfl, rfl, rfl, Nat.le_refl _, fun _ _ _ => rfl⟩
theorem RI.frm {Z M : Nat → Prop} {w w' : World} {A : Option Addr} {c : Nat} {xs : List Int} (h : RI Z w A c xs) (f : It.FrM M w w') (hd : ∀ k, Z k → ¬ M k) : RI Z w' A c xs := h.step (fun k hk hl => f.block k hl (hd k hk))
theorem step_enter {w : World} {p m n N : Nat} {v : Value} {b : RB} {M Z : Nat → Prop} {A B : Option Addr} {ca cb : Nat} (h : Sq w p m v b n M Z A ca B cb) (hO : Ok b N) (hN : N < 100000) (hn : n < 1000000)  (d1 d2 : Int) (hd1 : (Lit.int .i64 d1).wf = true) :
    Calls Try.prog 9 #[.pointer (some ⟨p, 0, none⟩), .agg (cellsB b A ca B cb).toArray, .agg #[.int .i64 0, .int .i64 d1, .int .i64 d2]] w (So w p m (enterR b d1) (n + 1) M Z) := by
  have hud := Try.underlying36
  have h4 := blk_alloc (blk_alloc (blk_new w (objB (cellsB b A ca B cb))) (.cells #[.int .i64 0, .int .i64 d1, .int .i64 d2] 36)) (objB (cellsB zb none 0 none 0))
  have h5 := blk_alloc (blk_new (w.alloc (objB (cellsB b A ca B cb))) (.cells #[.int .i64 0, .int .i64 d1, .int .i64 d2] 36)) (objB (cellsB zb none 0 none 0))
  have h6 := blk_new ((w.alloc (objB (cellsB b A ca B cb))).alloc (.cells #[.int .i64 0, .int .i64 d1, .int .i64 d2] 36)) (objB (cellsB zb none 0 none 0))
  have hB0 := below_alloc (below_alloc (below_alloc (Below.refl w.heap.size w) (objB (cellsB b A ca B cb))) (.cells #[.int .i64 0, .int .i64 d1, .int .i64 d2] 36)) (objB (cellsB zb none 0 none 0))
  simp only [World.size_alloc] at h5 h6
  have hp := h.bk.lt
  have EC := (enter_ref (w := ((w.alloc (objB (cellsB b A ca B cb))).alloc (.cells #[.int .i64 0, .int .i64 d1, .int .i64 d2] 36)).alloc (objB (cellsB zb none 0 none 0))) b A ca B cb d1 hO.s2)
  have BE : ∀ W, It.FrM (fun _ => False) w W → Calls Try.prog 12 #[.pointer (some ⟨p, 0, none⟩), .int .i64 d1] W fun e w' => e = .returned (.int .i64 (askR b d1 false)) ∧ Bk M w' p m v (enterR b d1) (n + 1) ∧ It.FrM M W w' := fun W f => enter_any (h.bk.frm f (fun _ _ q => q)) hn d1 hd1
  have hRes : Aside0 ((enterR b d1).ws = b.ws ∧ (enterR b d1).ats = b.ats) := ⟨by unfold enterR; split <;> exact ⟨rfl, rfl⟩⟩
  generalize hR : enterR b d1 = b' at EC BE hRes ⊢
  generalize askR b d1 false = k at EC BE
  have hA := Aside0.mk h
  have EC2 := EC.mono (R' := fun e w4 => e = .returned (.tuple #[.agg (cellsB b' A ca B cb).toArray, .int .i64 k]) ∧ Aside0 (Below (((w.alloc (objB (cellsB b A ca B cb))).alloc (.cells #[.int .i64 0, .int .i64 d1, .int .i64 d2] 36)).alloc (objB (cellsB zb none 0 none 0))).heap.size (((w.alloc (objB (cellsB b A ca B cb))).alloc (.cells #[.int .i64 0, .int .i64 d1, .int .i64 d2] 36)).alloc (objB (cellsB zb none 0 none 0))) w4)) (fun e w4 q => ⟨q.1, ⟨q.2⟩⟩)
  have mk : True := trivial
  have q0 : ((0 : Int) == 0) = true := rfl
  clear EC h hR hO
  go_enter Try.func9, Try.ntmps9
  go_wp2_with (first
    | (refine boxB rfl _ rfl _ rfl ?_)
    | (refine allocB rfl rfl ?_; clear mk; generalize ((w.alloc (objB (cellsB b A ca B cb))).alloc (.cells #[.int .i64 0, .int .i64 d1, .int .i64 d2] 36)).alloc (objB (cellsB zb none 0 none 0)) = w3 at h4 h5 h6 hB0 EC2 ⊢; have c50 := blk_cell h5 0; have c51 := blk_cell h5 1; simp at c50 c51)
    | (refine allocB rfl rfl ?_)
    | (refine loadB rfl _ rfl _ rfl _ (by assumption) (cellsB_len _ _ _ _ _) ?_)
    | (go_at_call 13; refine EC2.mono ?_; clear EC2 h4; rintro e w4 ⟨rfl, hB4⟩; have h8 := blk_new w4 (objB (cellsB zb none 0 none 0)))
    | (refine storeB rfl _ _ rfl _ rfl _ _ rfl (by assumption) (cellsB_len _ _ _ _ _) (cellsB_len _ _ _ _ _) (cellsB_one _ _ _ _ _) ?_; rintro w6 h8 hF6))
  obtain ⟨hbk, hrw, hra, hdz, hml, hzl⟩ := hA.out
  have hB4' := below_then hB0 hB0.size hB4.out
  have s3 := blk_lt h6
  have s4 := hB4.out.size
  have B6 : Below w.heap.size w w6 := bel_fr (below_alloc hB4' _) hF6 (by omega)
  have h56 := hF6.blk (blk_alloc (blk_below h5 hB4.out) _) (by simp; omega)
  have h66 := hF6.blk (blk_alloc (blk_below h6 hB4.out) _) (by simp; omega)
  have hd5 : w6.drew.heap[w.heap.size + 1]? = _ := h56
  have s51 := blk_cell hd5 1
  simp at s51
  have s8 : w6.drew.rangeAt w4.heap.size 0 (cellsB b' A ca B cb) := rangeB (w := w6.drew) h8
  have BC := (BE w6.drew ((It.FrM.of_below (M := fun _ => False) B6).trans (frm_drew (fun _ => False) w6) (fun _ q => .inl q))).mono (R' := fun e w7 => e = .returned (.int .i64 k) ∧ (w7.cell? ⟨w.heap.size + 1, 1, none⟩ = some (.int .i64 d1) ∧ w7.rangeAt w4.heap.size 0 (cellsB b' A ca B cb)) ∧ Aside0 (w7.heap[w.heap.size + 2]? = some (objB (cellsB zb none 0 none 0)) ∧ Bk M w7 p m v b' (n + 1) ∧ It.FrM M w w7)) (by
    rintro e w7 ⟨rfl, hbk7, f7⟩
    have nm : ∀ k, w.heap.size ≤ k → ¬ M k := fun k hk q => by have := hml k q; omega
    exact ⟨rfl, ⟨by have := blk_cell (f7.blk hd5 (nm _ (by omega))) 1; simpa using this, rangeB (f7.blk (w := w6.drew) h8 (nm _ (by omega)))⟩, ⟨f7.blk (w := w6.drew) h66 (nm _ (by omega)), hbk7, ((It.FrM.of_below (M := M) B6).trans (frm_drew M w6) (fun _ q => .inl q)).trans f7 (fun _ q => .inl q)⟩⟩)
  have hA8 := Aside0.mk h8
  clear BE B6 h56 h66 hd5 hbk hrw hra hdz hB4' h8 hF6
  refine wp_region_held_drew (S := (fun w' => w'.cell? ⟨w.heap.size + 1, 1, none⟩ = some (.int .i64 d1) ∧ w'.rangeAt w4.heap.size 0 (cellsB b' A ca B cb))) (by kernel_rfl) ⟨s51, s8⟩ (fun hHeld => ?_)
  refine wpAnyH_take (i := 0) (oi := ⟨some 25, _, _, _, _, _⟩) (v := _) rfl (by kernel_rfl) (by kernel_rfl) (by kernel_rfl) (fun _ _ _ h => h) (yieldsIf_load_mid (by rfl) 32 (.tmp 8) rfl w4.heap.size 0 rfl (cellsB b' A ca B cb) _ (fun w hSw => hSw.2) Try.underlying32 rfl (by rw [infoB, cellsB_len])) (by assumption) ?_
  (try simp only [Act.put, List.setIfInBounds_toArray, List.set_cons_zero, List.set_cons_succ])
  refine wpAnyH_take (i := 1) (oi := ⟨some 26, _, _, _, _, _⟩) (v := ?_) rfl (by kernel_rfl) (by kernel_rfl) (by kernel_rfl) (fun _ _ _ h => h) (Or.inl ⟨by rfl, ?_⟩) (by assumption) ?_
  rotate_left
  · intro w hSw
    (try dsimp only at hSw)
    go_simp
    (try with_reducible rfl)
  (try simp only [Act.put, List.setIfInBounds_toArray, List.set_cons_zero, List.set_cons_succ])
  refine wpAnyH_take (i := 2) (oi := ⟨some 27, _, _, _, _, _⟩) (v := ?_) rfl (by kernel_rfl) (by kernel_rfl) (by kernel_rfl) (fun _ _ _ h => h) (Or.inl ⟨by rfl, ?_⟩) (by assumption) ?_
  rotate_left
  · intro w hSw
    (try dsimp only at hSw)
    go_simp
    (try with_reducible rfl)
  (try simp only [Act.put, List.setIfInBounds_toArray, List.set_cons_zero, List.set_cons_succ])
  refine wpAnyH_take (i := 3) (oi := ⟨some 28, _, _, _, _, _⟩) (v := ?_) rfl (by kernel_rfl) (by kernel_rfl) (by kernel_rfl) (fun _ _ _ h => h) (Or.inl ⟨by rfl, ?_⟩) (by assumption) ?_
  rotate_left
  · intro w hSw
    (try dsimp only at hSw)
    go_simp
    (try with_reducible rfl)
  (try simp only [Act.put, List.setIfInBounds_toArray, List.set_cons_zero, List.set_cons_succ])
  refine wpAnyH_take (i := 5) (oi := ⟨some 30, _, _, _, _, _⟩) (v := ?_) rfl (by kernel_rfl) (by kernel_rfl) (by kernel_rfl) (fun _ _ _ h => h) (Or.inl ⟨by rfl, ?_⟩) (by assumption) ?_
  rotate_left
  · intro w hSw
    (try dsimp only at hSw)
    go_simp
    (try with_reducible rfl)
  (try simp only [Act.put, List.setIfInBounds_toArray, List.set_cons_zero, List.set_cons_succ])
  refine wpAnyH_ready (rs := [4]) (by kernel_rfl) (by simp) (AllReadyH.cons (i := 4) (o := ⟨some 29, _, _, _, _, _⟩) rfl (fun K' hK' => ?_) AllReadyH.nil)
  rw [if_pos (by rfl)]
  go_simp
  go_at_call 12
  refine BC.mono ?_
  clear BC
  rintro e_ w7 ⟨rfl, hS7, hE⟩
  clear hHeld
  refine hK'.out _ _ hS7 (fun hHeld => ?_)
  clear hK' K'
  (try simp only [Act.put, List.setIfInBounds_toArray, List.set_cons_zero, List.set_cons_succ])
  refine wpAnyH_take (i := 6) (oi := ⟨some 31, _, _, _, _, _⟩) (v := ?_) rfl (by kernel_rfl) (by kernel_rfl) (by kernel_rfl) (fun _ _ _ h => h) (Or.inl ⟨by rfl, ?_⟩) (by assumption) ?_
  rotate_left
  · intro w hSw
    (try dsimp only at hSw)
    go_simp
    (try with_reducible rfl)
  (try simp only [Act.put, List.setIfInBounds_toArray, List.set_cons_zero, List.set_cons_succ])
  refine wpAnyH_ready (rs := [7]) (by kernel_rfl) (by simp) (AllReadyH.cons (i := 7) (o := ⟨none, _, _, _, _, _⟩) rfl (fun K' hK' => ?_) AllReadyH.nil)
  rw [if_pos (by rfl)]
  refine wp_storeB (.tmp 6) (.tmp 25) rfl (w.heap.size + 2) rfl (cellsB b' A ca B cb) _ rfl hE.out.1 (cellsB_len _ _ _ _ _) (cellsB_len _ _ _ _ _) (cellsB_one _ _ _ _ _) ?_
  intro w9 h9 f9
  have hHo := hHeld
  clear hHeld
  refine hK'.out _ _ ⟨fr_cell f9 hHo.1 (by show w.heap.size + 1 ≠ w.heap.size + 2; omega), fr_range f9 hHo.2 (by omega)⟩ (fun hHeld => ?_)
  clear hK' K'
  (try simp only [Act.put, List.setIfInBounds_toArray, List.set_cons_zero, List.set_cons_succ])
  refine wpAnyH_take (i := 8) (oi := ⟨some 7, _, _, _, _, _⟩) (v := ?_) rfl (by kernel_rfl) (by kernel_rfl) (by kernel_rfl) (fun _ _ _ h => h) (Or.inl ⟨by rfl, ?_⟩) (by assumption) ?_
  rotate_left
  · intro w hSw
    (try dsimp only at hSw)
    go_simp
    (try with_reducible rfl)
  (try simp only [Act.put, List.setIfInBounds_toArray, List.set_cons_zero, List.set_cons_succ])
  refine wpAnyH_done (by kernel_rfl) ?_ _
  go_wp2
  refine bodyPost_ret (resB rfl _ rfl h9 (cellsB_len _ _ _ _ _)) rfl ?_
  obtain ⟨hbk, hrw, hra, hdz, hml, hzl⟩ := hA.out
  obtain ⟨_, hbk7, f7⟩ := hE.out
  have f79 := frm_of f9
  have f := f7.trans f79 (fun i q => .inr (by rw [q]; omega))
  exact ⟨v, M, Z, A, ca, B, cb, rfl, ⟨hbk7.frm f79 (fun k q e => by have := hml k q; omega), hRes.out.1 ▸ hrw.frm f hdz, hRes.out.2 ▸ hra.frm f hdz, hdz, fun k q => Nat.lt_of_lt_of_le (hml k q) f.size, fun k q => Nat.lt_of_lt_of_le (hzl k q) f.size⟩, fun k q => .inl q, fun k q => .inl q, f⟩
end Go.Proofs.Ytlpganbcnhiidaa.Ep
end
section
namespace Go.Proofs.Ytlpganbcnhiidaa.Ep
open Go Go.RowKit Go.Maps Go.Proofs.YtlpganbcnhiidaaW.PrintWords Go.Proofs.YtlpganbcnhiidaaW.PrintLast Go.Proofs.YtlpganbcnhiidaaW.PrintMore Go.Proofs.Ytlpganbcnhiidaa.Own Go.Proofs.Ytlpganbcnhiidaa.Ord Go.Proofs.Ytlpganbcnhiidaa.P
set_option maxHeartbeats 2000000
set_option maxRecDepth 100000
theorem Bk.up {M : Nat → Prop} {w : World} {p m n : Nat} {v : Value} {b : RB} (h : Bk M w p m v b n) : Bk M w p m v b (n + 1) := ⟨h.blk, h.map.elim (fun c q => ⟨c, q.mono (by omega)⟩), h.row, h.mp, h.mm, h.mv⟩
theorem step_leave {w : World} {p m n N : Nat} {v : Value} {b : RB} {M Z : Nat → Prop} {A B : Option Addr} {ca cb : Nat} (h : Sq w p m v b n M Z A ca B cb) (hO : Ok b N) (hN : N < 100000) (hn : n < 1000000)  (d1 d2 : Int) (hd1 : (Lit.int .i64 d1).wf = true) :
    Calls Try.prog 9 #[.pointer (some ⟨p, 0, none⟩), .agg (cellsB b A ca B cb).toArray, .agg #[.int .i64 1, .int .i64 d1, .int .i64 d2]] w (So w p m (leaveR b d1) (n + 1) M Z) := by
  have hud := Try.underlying36
  have h4 := blk_alloc (blk_alloc (blk_new w (objB (cellsB b A ca B cb))) (.cells #[.int .i64 1, .int .i64 d1, .int .i64 d2] 36)) (objB (cellsB zb none 0 none 0))
  have h5 := blk_alloc (blk_new (w.alloc (objB (cellsB b A ca B cb))) (.cells #[.int .i64 1, .int .i64 d1, .int .i64 d2] 36)) (objB (cellsB zb none 0 none 0))
  have h6 := blk_new ((w.alloc (objB (cellsB b A ca B cb))).alloc (.cells #[.int .i64 1, .int .i64 d1, .int .i64 d2] 36)) (objB (cellsB zb none 0 none 0))
  have hB0 := below_alloc (below_alloc (below_alloc (Below.refl w.heap.size w) (objB (cellsB b A ca B cb))) (.cells #[.int .i64 1, .int .i64 d1, .int .i64 d2] 36)) (objB (cellsB zb none 0 none 0))
  simp only [World.size_alloc] at h5 h6
  have hp := h.bk.lt
  have EC := (leave_ref (w := ((w.alloc (objB (cellsB b A ca B cb))).alloc (.cells #[.int .i64 1, .int .i64 d1, .int .i64 d2] 36)).alloc (objB (cellsB zb none 0 none 0))) b A ca B cb d1 hO.s2)
  have BE : ∀ W, It.FrM (fun _ => False) w W → Calls Try.prog 20 #[.pointer (some ⟨p, 0, none⟩), .int .i64 d1] W fun e w' => e = .returned (.int .i64 (askR b d1 true)) ∧ Bk M w' p m v (leaveR b d1) (n + 1) ∧ It.FrM M W w' := fun W f => (leave_any (h.bk.frm f (fun _ _ q => q)) d1 hd1).mono (fun e w' q => ⟨q.1, q.2.1.up, q.2.2⟩)
  have hRes : Aside0 ((leaveR b d1).ws = b.ws ∧ (leaveR b d1).ats = b.ats) := ⟨by unfold leaveR; split <;> exact ⟨rfl, rfl⟩⟩
  generalize hR : leaveR b d1 = b' at EC BE hRes ⊢
  generalize askR b d1 true = k at EC BE
  have hA := Aside0.mk h
  have EC2 := EC.mono (R' := fun e w4 => e = .returned (.tuple #[.agg (cellsB b' A ca B cb).toArray, .int .i64 k]) ∧ Aside0 (Below (((w.alloc (objB (cellsB b A ca B cb))).alloc (.cells #[.int .i64 1, .int .i64 d1, .int .i64 d2] 36)).alloc (objB (cellsB zb none 0 none 0))).heap.size (((w.alloc (objB (cellsB b A ca B cb))).alloc (.cells #[.int .i64 1, .int .i64 d1, .int .i64 d2] 36)).alloc (objB (cellsB zb none 0 none 0))) w4)) (fun e w4 q => ⟨q.1, ⟨q.2⟩⟩)
  have mk : True := trivial
  have q0 : ((1 : Int) == 0) = false := rfl
  have q1 : ((1 : Int) == 1) = true := rfl
  clear EC h hR hO
  go_enter Try.func9, Try.ntmps9
  go_wp2_with (first
    | (refine boxB rfl _ rfl _ rfl ?_)
    | (refine allocB rfl rfl ?_; clear mk; generalize ((w.alloc (objB (cellsB b A ca B cb))).alloc (.cells #[.int .i64 1, .int .i64 d1, .int .i64 d2] 36)).alloc (objB (cellsB zb none 0 none 0)) = w3 at h4 h5 h6 hB0 EC2 ⊢; have c50 := blk_cell h5 0; have c51 := blk_cell h5 1; simp at c50 c51)
    | (refine allocB rfl rfl ?_)
    | (refine loadB rfl _ rfl _ rfl _ (by assumption) (cellsB_len _ _ _ _ _) ?_)
    | (go_at_call 26; refine EC2.mono ?_; clear EC2 h4; rintro e w4 ⟨rfl, hB4⟩; have h8 := blk_new w4 (objB (cellsB zb none 0 none 0)))
    | (refine storeB rfl _ _ rfl _ rfl _ _ rfl (by assumption) (cellsB_len _ _ _ _ _) (cellsB_len _ _ _ _ _) (cellsB_one _ _ _ _ _) ?_; rintro w6 h8 hF6))
  obtain ⟨hbk, hrw, hra, hdz, hml, hzl⟩ := hA.out
  have hB4' := below_then hB0 hB0.size hB4.out
  have s3 := blk_lt h6
  have s4 := hB4.out.size
  have B6 : Below w.heap.size w w6 := bel_fr (below_alloc hB4' _) hF6 (by omega)
  have h56 := hF6.blk (blk_alloc (blk_below h5 hB4.out) _) (by simp; omega)
  have h66 := hF6.blk (blk_alloc (blk_below h6 hB4.out) _) (by simp; omega)
  have hd5 : w6.drew.heap[w.heap.size + 1]? = _ := h56
  have s51 := blk_cell hd5 1
  simp at s51
  have s8 : w6.drew.rangeAt w4.heap.size 0 (cellsB b' A ca B cb) := rangeB (w := w6.drew) h8
  have BC := (BE w6.drew ((It.FrM.of_below (M := fun _ => False) B6).trans (frm_drew (fun _ => False) w6) (fun _ q => .inl q))).mono (R' := fun e w7 => e = .returned (.int .i64 k) ∧ (w7.cell? ⟨w.heap.size + 1, 1, none⟩ = some (.int .i64 d1) ∧ w7.rangeAt w4.heap.size 0 (cellsB b' A ca B cb)) ∧ Aside0 (w7.heap[w.heap.size + 2]? = some (objB (cellsB zb none 0 none 0)) ∧ Bk M w7 p m v b' (n + 1) ∧ It.FrM M w w7)) (by
    rintro e w7 ⟨rfl, hbk7, f7⟩
    have nm : ∀ k, w.heap.size ≤ k → ¬ M k := fun k hk q => by have := hml k q; omega
    exact ⟨rfl, ⟨by have := blk_cell (f7.blk hd5 (nm _ (by omega))) 1; simpa using this, rangeB (f7.blk (w := w6.drew) h8 (nm _ (by omega)))⟩, ⟨f7.blk (w := w6.drew) h66 (nm _ (by omega)), hbk7, ((It.FrM.of_below (M := M) B6).trans (frm_drew M w6) (fun _ q => .inl q)).trans f7 (fun _ q => .inl q)⟩⟩)
  have hA8 := Aside0.mk h8
  clear BE B6 h56 h66 hd5 hbk hrw hra hdz hB4' h8 hF6
  refine wp_region_held_drew (S := (fun w' => w'.cell? ⟨w.heap.size + 1, 1, none⟩ = some (.int .i64 d1) ∧ w'.rangeAt w4.heap.size 0 (cellsB b' A ca B cb))) (by kernel_rfl) ⟨s51, s8⟩ (fun hHeld => ?_)
  refine wpAnyH_take (i := 0) (oi := ⟨some 41, _, _, _, _, _⟩) (v := _) rfl (by kernel_rfl) (by kernel_rfl) (by kernel_rfl) (fun _ _ _ h => h) (yieldsIf_load_mid (by rfl) 32 (.tmp 10) rfl w4.heap.size 0 rfl (cellsB b' A ca B cb) _ (fun w hSw => hSw.2) Try.underlying32 rfl (by rw [infoB, cellsB_len])) (by assumption) ?_
  (try simp only [Act.put, List.setIfInBounds_toArray, List.set_cons_zero, List.set_cons_succ])
  refine wpAnyH_take (i := 1) (oi := ⟨some 42, _, _, _, _, _⟩) (v := ?_) rfl (by kernel_rfl) (by kernel_rfl) (by kernel_rfl) (fun _ _ _ h => h) (Or.inl ⟨by rfl, ?_⟩) (by assumption) ?_
  rotate_left
  · intro w hSw
    (try dsimp only at hSw)
    go_simp
    (try with_reducible rfl)
  (try simp only [Act.put, List.setIfInBounds_toArray, List.set_cons_zero, List.set_cons_succ])
  refine wpAnyH_take (i := 2) (oi := ⟨some 43, _, _, _, _, _⟩) (v := ?_) rfl (by kernel_rfl) (by kernel_rfl) (by kernel_rfl) (fun _ _ _ h => h) (Or.inl ⟨by rfl, ?_⟩) (by assumption) ?_
  rotate_left
  · intro w hSw
    (try dsimp only at hSw)
    go_simp
    (try with_reducible rfl)
  (try simp only [Act.put, List.setIfInBounds_toArray, List.set_cons_zero, List.set_cons_succ])
  refine wpAnyH_take (i := 3) (oi := ⟨some 44, _, _, _, _, _⟩) (v := ?_) rfl (by kernel_rfl) (by kernel_rfl) (by kernel_rfl) (fun _ _ _ h => h) (Or.inl ⟨by rfl, ?_⟩) (by assumption) ?_
  rotate_left
  · intro w hSw
    (try dsimp only at hSw)
    go_simp
    (try with_reducible rfl)
  (try simp only [Act.put, List.setIfInBounds_toArray, List.set_cons_zero, List.set_cons_succ])
  refine wpAnyH_take (i := 5) (oi := ⟨some 46, _, _, _, _, _⟩) (v := ?_) rfl (by kernel_rfl) (by kernel_rfl) (by kernel_rfl) (fun _ _ _ h => h) (Or.inl ⟨by rfl, ?_⟩) (by assumption) ?_
  rotate_left
  · intro w hSw
    (try dsimp only at hSw)
    go_simp
    (try with_reducible rfl)
  (try simp only [Act.put, List.setIfInBounds_toArray, List.set_cons_zero, List.set_cons_succ])
  refine wpAnyH_ready (rs := [4]) (by kernel_rfl) (by simp) (AllReadyH.cons (i := 4) (o := ⟨some 45, _, _, _, _, _⟩) rfl (fun K' hK' => ?_) AllReadyH.nil)
  rw [if_pos (by rfl)]
  go_simp
  go_at_call 20
  refine BC.mono ?_
  clear BC
  rintro e_ w7 ⟨rfl, hS7, hE⟩
  clear hHeld
  refine hK'.out _ _ hS7 (fun hHeld => ?_)
  clear hK' K'
  (try simp only [Act.put, List.setIfInBounds_toArray, List.set_cons_zero, List.set_cons_succ])
  refine wpAnyH_take (i := 6) (oi := ⟨some 47, _, _, _, _, _⟩) (v := ?_) rfl (by kernel_rfl) (by kernel_rfl) (by kernel_rfl) (fun _ _ _ h => h) (Or.inl ⟨by rfl, ?_⟩) (by assumption) ?_
  rotate_left
  · intro w hSw
    (try dsimp only at hSw)
    go_simp
    (try with_reducible rfl)
  (try simp only [Act.put, List.setIfInBounds_toArray, List.set_cons_zero, List.set_cons_succ])
  refine wpAnyH_ready (rs := [7]) (by kernel_rfl) (by simp) (AllReadyH.cons (i := 7) (o := ⟨none, _, _, _, _, _⟩) rfl (fun K' hK' => ?_) AllReadyH.nil)
  rw [if_pos (by rfl)]
  refine wp_storeB (.tmp 6) (.tmp 41) rfl (w.heap.size + 2) rfl (cellsB b' A ca B cb) _ rfl hE.out.1 (cellsB_len _ _ _ _ _) (cellsB_len _ _ _ _ _) (cellsB_one _ _ _ _ _) ?_
  intro w9 h9 f9
  have hHo := hHeld
  clear hHeld
  refine hK'.out _ _ ⟨fr_cell f9 hHo.1 (by show w.heap.size + 1 ≠ w.heap.size + 2; omega), fr_range f9 hHo.2 (by omega)⟩ (fun hHeld => ?_)
  clear hK' K'
  (try simp only [Act.put, List.setIfInBounds_toArray, List.set_cons_zero, List.set_cons_succ])
  refine wpAnyH_take (i := 8) (oi := ⟨some 7, _, _, _, _, _⟩) (v := ?_) rfl (by kernel_rfl) (by kernel_rfl) (by kernel_rfl) (fun _ _ _ h => h) (Or.inl ⟨by rfl, ?_⟩) (by assumption) ?_
  rotate_left
  · intro w hSw
    (try dsimp only at hSw)
    go_simp
    (try with_reducible rfl)
  (try simp only [Act.put, List.setIfInBounds_toArray, List.set_cons_zero, List.set_cons_succ])
  refine wpAnyH_done (by kernel_rfl) ?_ _
  go_wp2
  refine bodyPost_ret (resB rfl _ rfl h9 (cellsB_len _ _ _ _ _)) rfl ?_
  obtain ⟨hbk, hrw, hra, hdz, hml, hzl⟩ := hA.out
  obtain ⟨_, hbk7, f7⟩ := hE.out
  have f79 := frm_of f9
  have f := f7.trans f79 (fun i q => .inr (by rw [q]; omega))
  exact ⟨v, M, Z, A, ca, B, cb, rfl, ⟨hbk7.frm f79 (fun k q e => by have := hml k q; omega), hRes.out.1 ▸ hrw.frm f hdz, hRes.out.2 ▸ hra.frm f hdz, hdz, fun k q => Nat.lt_of_lt_of_le (hml k q) f.size, fun k q => Nat.lt_of_lt_of_le (hzl k q) f.size⟩, fun k q => .inl q, fun k q => .inl q, f⟩
end Go.Proofs.Ytlpganbcnhiidaa.Ep
end
section
namespace Go.Proofs.Ytlpganbcnhiidaa.Ep
open Go Go.RowKit Go.Maps Go.Proofs.YtlpganbcnhiidaaW.PrintWords Go.Proofs.YtlpganbcnhiidaaW.PrintLast Go.Proofs.YtlpganbcnhiidaaW.PrintMore Go.Proofs.Ytlpganbcnhiidaa.Own Go.Proofs.Ytlpganbcnhiidaa.Ord Go.Proofs.Ytlpganbcnhiidaa.P
set_option maxHeartbeats 2000000
set_option maxRecDepth 100000
theorem step_retire {w : World} {p m n N : Nat} {v : Value} {b : RB} {M Z : Nat → Prop} {A B : Option Addr} {ca cb : Nat} (h : Sq w p m v b n M Z A ca B cb) (hO : Ok b N) (hN : N < 100000) (hn : n < 1000000)  (d1 d2 : Int) (hd1 : (Lit.int .i64 d1).wf = true) :
    Calls Try.prog 9 #[.pointer (some ⟨p, 0, none⟩), .agg (cellsB b A ca B cb).toArray, .agg #[.int .i64 2, .int .i64 d1, .int .i64 d2]] w (So w p m (retireR b d2) (n + 1) M Z) := by
  have hud := Try.underlying36
  have h4 := blk_alloc (blk_alloc (blk_new w (objB (cellsB b A ca B cb))) (.cells #[.int .i64 2, .int .i64 d1, .int .i64 d2] 36)) (objB (cellsB zb none 0 none 0))
  have h5 := blk_alloc (blk_new (w.alloc (objB (cellsB b A ca B cb))) (.cells #[.int .i64 2, .int .i64 d1, .int .i64 d2] 36)) (objB (cellsB zb none 0 none 0))
  have h6 := blk_new ((w.alloc (objB (cellsB b A ca B cb))).alloc (.cells #[.int .i64 2, .int .i64 d1, .int .i64 d2] 36)) (objB (cellsB zb none 0 none 0))
  have hB0 := below_alloc (below_alloc (below_alloc (Below.refl w.heap.size w) (objB (cellsB b A ca B cb))) (.cells #[.int .i64 2, .int .i64 d1, .int .i64 d2] 36)) (objB (cellsB zb none 0 none 0))
  simp only [World.size_alloc] at h5 h6
  have hp := h.bk.lt
  have hs3 : (((w.alloc (objB (cellsB b A ca B cb))).alloc (.cells #[.int .i64 2, .int .i64 d1, .int .i64 d2] 36)).alloc (objB (cellsB zb none 0 none 0))).heap.size = w.heap.size + 3 := by simp
  have hA := Aside0.mk h
  have hbnd : b.ws.length ≤ 100000 ∧ b.ats.length ≤ 100000 ∧ b.now + 1 ≤ 9223372036854775807 ∧ 0 ≤ b.now := by
    have := hO.cnt; have := hO.len; have := hO.now1; have := hO.now0
    omega
  have S0 : ∀ u : World, u.heap[w.heap.size]? = some (objB (cellsB b A ca B cb)) → u.heap[w.heap.size + 1]? = some (.cells #[.int .i64 2, .int .i64 d1, .int .i64 d2] 36 (0, 0)) → u.cell? ⟨w.heap.size + 1, 2, none⟩ = some (.int .i64 d2) ∧ u.rangeAt w.heap.size 0 (cellsB b A ca B cb) := fun u h1 h2 => ⟨by have := blk_cell h2 2; simpa using this, rangeB h1⟩
  have c0 := S0 ((((w.alloc (objB (cellsB b A ca B cb))).alloc (.cells #[.int .i64 2, .int .i64 d1, .int .i64 d2] 36)).alloc (objB (cellsB zb none 0 none 0))).drew) h4 h5
  have c50 := blk_cell h5 0
  simp at c50
  have RC : Calls Try.prog 15 #[.agg (cellsB b A ca B cb).toArray, .int .i64 d2] ((((w.alloc (objB (cellsB b A ca B cb))).alloc (.cells #[.int .i64 2, .int .i64 d1, .int .i64 d2] 36)).alloc (objB (cellsB zb none 0 none 0))).drew) fun e w4 => ∃ A' ca' B' cb', e = .returned (.agg (cellsB (retireR b d2) A' ca' B' cb').toArray) ∧ (w4.cell? ⟨w.heap.size + 1, 2, none⟩ = some (.int .i64 d2) ∧ w4.rangeAt w.heap.size 0 (cellsB b A ca B cb)) ∧ Calls Try.prog 14 #[.pointer (some ⟨p, 0, none⟩), .int .i64 d2] w4 fun e w5 => e = .returned (.int .i64 0) ∧ (w5.cell? ⟨w.heap.size + 1, 2, none⟩ = some (.int .i64 d2) ∧ w5.rangeAt w.heap.size 0 (cellsB b A ca B cb)) ∧ Aside0 (w5.heap[w.heap.size + 2]? = some (objB (cellsB zb none 0 none 0)) ∧ ∃ v' M' Z', Sq w5 p m v' (retireR b d2) (n + 1) M' Z' A' ca' B' cb' ∧ (∀ k, M' k → M k ∨ w.heap.size + 3 ≤ k) ∧ (∀ k, Z' k → Z k ∨ w.heap.size + 3 ≤ k) ∧ It.FrM M w w5) := by
    have hBd := below_drew1 hB0
    have nm : ∀ k, w.heap.size ≤ k → ¬ M k := fun k hk q => by have := h.ml k q; omega
    refine (retire_ref (Z := fun k => Z k ∨ w.heap.size + 3 ≤ k) (w := (((w.alloc (objB (cellsB b A ca B cb))).alloc (.cells #[.int .i64 2, .int .i64 d1, .int .i64 d2] 36)).alloc (objB (cellsB zb none 0 none 0))).drew) (fun k hk => .inr (by have : (((w.alloc (objB (cellsB b A ca B cb))).alloc (.cells #[.int .i64 2, .int .i64 d1, .int .i64 d2] 36)).alloc (objB (cellsB zb none 0 none 0))).heap.size ≤ k := hk; omega)) b A ca B cb ((h.rw.below hBd).narrow (fun k q _ => .inl q)) ((h.ra.below hBd).narrow (fun k q _ => .inl q)) hbnd.1 hbnd.2.1 d2 hbnd.2.2.1 hbnd.2.2.2).mono ?_
    rintro e w4 ⟨A', ca', B', cb', rfl, rw4, ra4, hb4⟩
    have B4 := below_then hBd hBd.size hb4
    have h44 := blk_below (w := (((w.alloc (objB (cellsB b A ca B cb))).alloc (.cells #[.int .i64 2, .int .i64 d1, .int .i64 d2] 36)).alloc (objB (cellsB zb none 0 none 0))).drew) h4 hb4
    have h54 := blk_below (w := (((w.alloc (objB (cellsB b A ca B cb))).alloc (.cells #[.int .i64 2, .int .i64 d1, .int .i64 d2] 36)).alloc (objB (cellsB zb none 0 none 0))).drew) h5 hb4
    have h64 := blk_below (w := (((w.alloc (objB (cellsB b A ca B cb))).alloc (.cells #[.int .i64 2, .int .i64 d1, .int .i64 d2] 36)).alloc (objB (cellsB zb none 0 none 0))).drew) h6 hb4
    have s4 := blk_lt h64
    refine ⟨A', ca', B', cb', rfl, S0 w4 h44 h54, (retire_any (h.bk.below B4) hO.len hbnd.1 hbnd.2.2.1 hbnd.2.2.2 d2).mono ?_⟩
    rintro e w5 ⟨v', rfl, bk5, f5⟩
    have f := (It.FrM.of_below (M := M) B4).trans f5 (fun _ q => .inl q)
    have s5 := f5.size
    refine ⟨rfl, S0 w5 (f5.blk h44 (nm _ (by omega))) (f5.blk h54 (nm _ (by omega))), ⟨f5.blk h64 (nm _ (by omega)), v', _, (fun k => (Z k ∨ w.heap.size + 3 ≤ k) ∧ k < w4.heap.size), ⟨bk5.up, (rw4.narrow (Z' := fun k => (Z k ∨ w.heap.size + 3 ≤ k) ∧ k < w4.heap.size) (fun k q l => ⟨q, l⟩)).frm f5 ?_, (ra4.narrow (Z' := fun k => (Z k ∨ w.heap.size + 3 ≤ k) ∧ k < w4.heap.size) (fun k q l => ⟨q, l⟩)).frm f5 ?_, ?_, ?_, ?_⟩, ?_, fun k q => q.1, f⟩⟩
    · rintro k ⟨q | q, l⟩
      · exact h.dz k q
      · exact nm k (by omega)
    · rintro k ⟨q | q, l⟩
      · exact h.dz k q
      · exact nm k (by omega)
    · rintro k ⟨q | q, l⟩ (r | r)
      · exact h.dz k q r
      · omega
      · exact nm k (by omega) r
      · omega
    · rintro k (r | r)
      · have := h.ml k r; have := B4.size; omega
      · exact r.2
    · rintro k ⟨q, l⟩
      omega
    · rintro k (r | r)
      · exact .inl r
      · exact .inr (by omega)
  have q0 : ((2 : Int) == 0) = false := rfl
  have q1 : ((2 : Int) == 1) = false := rfl
  have q2 : ((2 : Int) == 2) = true := rfl
  have mk : True := trivial
  obtain ⟨s52, s4⟩ := c0
  clear h hO S0 hbnd
  go_enter Try.func9, Try.ntmps9
  go_wp2_with (first
    | (refine boxB rfl _ rfl _ rfl ?_)
    | (refine allocB rfl rfl ?_; clear mk; generalize ((w.alloc (objB (cellsB b A ca B cb))).alloc (.cells #[.int .i64 2, .int .i64 d1, .int .i64 d2] 36)).alloc (objB (cellsB zb none 0 none 0)) = w3 at h4 h5 h6 hB0 RC hs3 s52 s4 c50 ⊢))
  refine wp_region_held_drew (S := (fun w' => w'.cell? ⟨w.heap.size + 1, 2, none⟩ = some (.int .i64 d2) ∧ w'.rangeAt w.heap.size 0 (cellsB b A ca B cb))) (by kernel_rfl) ⟨s52, s4⟩ (fun hHeld => ?_)
  refine wpAnyH_take (i := 0) (oi := ⟨some 50, _, _, _, _, _⟩) (v := _) rfl (by kernel_rfl) (by kernel_rfl) (by kernel_rfl) (fun _ _ _ h => h) (yieldsIf_load_mid (by rfl) 32 (.tmp 4) rfl w.heap.size 0 rfl (cellsB b A ca B cb) _ (fun w hSw => hSw.2) Try.underlying32 rfl (by rw [infoB, cellsB_len])) (by assumption) ?_
  (try simp only [Act.put, List.setIfInBounds_toArray, List.set_cons_zero, List.set_cons_succ])
  refine wpAnyH_take (i := 1) (oi := ⟨some 51, _, _, _, _, _⟩) (v := ?_) rfl (by kernel_rfl) (by kernel_rfl) (by kernel_rfl) (fun _ _ _ h => h) (Or.inl ⟨by rfl, ?_⟩) (by assumption) ?_
  rotate_left
  · intro w hSw
    (try dsimp only at hSw)
    go_simp
    (try with_reducible rfl)
  (try simp only [Act.put, List.setIfInBounds_toArray, List.set_cons_zero, List.set_cons_succ])
  refine wpAnyH_take (i := 2) (oi := ⟨some 52, _, _, _, _, _⟩) (v := ?_) rfl (by kernel_rfl) (by kernel_rfl) (by kernel_rfl) (fun _ _ _ h => h) (Or.inl ⟨by rfl, ?_⟩) (by assumption) ?_
  rotate_left
  · intro w hSw
    (try dsimp only at hSw)
    go_simp
    (try with_reducible rfl)
  (try simp only [Act.put, List.setIfInBounds_toArray, List.set_cons_zero, List.set_cons_succ])
  refine wpAnyH_take (i := 4) (oi := ⟨some 54, _, _, _, _, _⟩) (v := ?_) rfl (by kernel_rfl) (by kernel_rfl) (by kernel_rfl) (fun _ _ _ h => h) (Or.inl ⟨by rfl, ?_⟩) (by assumption) ?_
  rotate_left
  · intro w hSw
    (try dsimp only at hSw)
    go_simp
    (try with_reducible rfl)
  (try simp only [Act.put, List.setIfInBounds_toArray, List.set_cons_zero, List.set_cons_succ])
  refine wpAnyH_take (i := 5) (oi := ⟨some 55, _, _, _, _, _⟩) (v := ?_) rfl (by kernel_rfl) (by kernel_rfl) (by kernel_rfl) (fun _ _ _ h => h) (Or.inl ⟨by rfl, ?_⟩) (by assumption) ?_
  rotate_left
  · intro w hSw
    (try dsimp only at hSw)
    go_simp
    (try with_reducible rfl)
  (try simp only [Act.put, List.setIfInBounds_toArray, List.set_cons_zero, List.set_cons_succ])
  refine wpAnyH_take (i := 6) (oi := ⟨some 56, _, _, _, _, _⟩) (v := ?_) rfl (by kernel_rfl) (by kernel_rfl) (by kernel_rfl) (fun _ _ _ h => h) (Or.inl ⟨by rfl, ?_⟩) (by assumption) ?_
  rotate_left
  · intro w hSw
    (try dsimp only at hSw)
    go_simp
    (try with_reducible rfl)
  (try simp only [Act.put, List.setIfInBounds_toArray, List.set_cons_zero, List.set_cons_succ])
  refine wpAnyH_ready (rs := [3]) (by kernel_rfl) (by simp) (AllReadyH.cons (i := 3) (o := ⟨some 53, _, _, _, _, _⟩) rfl (fun K' hK' => ?_) AllReadyH.nil)
  rw [if_pos (by rfl)]
  go_simp
  go_at_call 15
  refine RC.mono ?_
  clear RC
  rintro e_ w4 ⟨A', ca', B', cb', rfl, hS4, BC⟩
  clear hHeld
  refine hK'.out _ _ hS4 (fun hHeld => ?_)
  clear hK' K'
  (try simp only [Act.put, List.setIfInBounds_toArray, List.set_cons_zero, List.set_cons_succ])
  refine wpAnyH_ready (rs := [7]) (by kernel_rfl) (by simp) (AllReadyH.cons (i := 7) (o := ⟨some 57, _, _, _, _, _⟩) rfl (fun K' hK' => ?_) AllReadyH.nil)
  rw [if_pos (by rfl)]
  go_simp
  go_at_call 14
  refine BC.mono ?_
  clear BC
  rintro e_ w7 ⟨rfl, hS7, hE⟩
  clear hHeld
  refine hK'.out _ _ hS7 (fun hHeld => ?_)
  clear hK' K'
  (try simp only [Act.put, List.setIfInBounds_toArray, List.set_cons_zero, List.set_cons_succ])
  refine wpAnyH_take (i := 8) (oi := ⟨some 58, _, _, _, _, _⟩) (v := ?_) rfl (by kernel_rfl) (by kernel_rfl) (by kernel_rfl) (fun _ _ _ h => h) (Or.inl ⟨by rfl, ?_⟩) (by assumption) ?_
  rotate_left
  · intro w hSw
    (try dsimp only at hSw)
    go_simp
    (try with_reducible rfl)
  (try simp only [Act.put, List.setIfInBounds_toArray, List.set_cons_zero, List.set_cons_succ])
  refine wpAnyH_ready (rs := [9]) (by kernel_rfl) (by simp) (AllReadyH.cons (i := 9) (o := ⟨none, _, _, _, _, _⟩) rfl (fun K' hK' => ?_) AllReadyH.nil)
  rw [if_pos (by rfl)]
  refine wp_storeB (.tmp 6) (.tmp 53) rfl (w.heap.size + 2) rfl (cellsB (retireR b d2) A' ca' B' cb') _ rfl hE.out.1 (cellsB_len _ _ _ _ _) (cellsB_len _ _ _ _ _) (cellsB_one _ _ _ _ _) ?_
  intro w9 h9 f9
  have hHo := hHeld
  clear hHeld
  refine hK'.out _ _ ⟨fr_cell f9 hHo.1 (by show w.heap.size + 1 ≠ w.heap.size + 2; omega), fr_range f9 hHo.2 (by omega)⟩ (fun hHeld => ?_)
  clear hK' K'
  (try simp only [Act.put, List.setIfInBounds_toArray, List.set_cons_zero, List.set_cons_succ])
  refine wpAnyH_take (i := 10) (oi := ⟨some 7, _, _, _, _, _⟩) (v := ?_) rfl (by kernel_rfl) (by kernel_rfl) (by kernel_rfl) (fun _ _ _ h => h) (Or.inl ⟨by rfl, ?_⟩) (by assumption) ?_
  rotate_left
  · intro w hSw
    (try dsimp only at hSw)
    go_simp
    (try with_reducible rfl)
  (try simp only [Act.put, List.setIfInBounds_toArray, List.set_cons_zero, List.set_cons_succ])
  refine wpAnyH_done (by kernel_rfl) ?_ _
  go_wp2
  refine bodyPost_ret (resB rfl _ rfl h9 (cellsB_len _ _ _ _ _)) rfl ?_
  obtain ⟨_, v', M', Z', sq, hM', hZ', f7⟩ := hE.out
  have h0 := hA.out
  have f79 := frm_of f9
  have f := f7.trans f79 (fun i q => .inr (by rw [q]; omega))
  have nM : ∀ k, M' k → k ≠ w.heap.size + 2 := fun k q e => by
    rcases hM' k q with r | r
    · have := h0.ml k r; omega
    · omega
  have nZ : ∀ k, Z' k → k ≠ w.heap.size + 2 := fun k q e => by
    rcases hZ' k q with r | r
    · have := h0.zl k r; omega
    · omega
  exact ⟨v', M', Z', _, _, _, _, rfl, ⟨sq.bk.frm f79 nM, sq.rw.frm f79 nZ, sq.ra.frm f79 nZ, sq.dz, fun k q => Nat.lt_of_lt_of_le (sq.ml k q) f79.size, fun k q => Nat.lt_of_lt_of_le (sq.zl k q) f79.size⟩, fun k q => (hM' k q).imp id (fun r => by omega), fun k q => (hZ' k q).imp id (fun r => by omega), f⟩
end Go.Proofs.Ytlpganbcnhiidaa.Ep
end
section
namespace Go.Proofs.Ytlpganbcnhiidaa.Ep
open Go Go.RowKit Go.Maps Go.Proofs.YtlpganbcnhiidaaW.PrintWords Go.Proofs.YtlpganbcnhiidaaW.PrintLast Go.Proofs.YtlpganbcnhiidaaW.PrintMore Go.Proofs.Ytlpganbcnhiidaa.Own Go.Proofs.Ytlpganbcnhiidaa.Ord Go.Proofs.Ytlpganbcnhiidaa.P
set_option maxHeartbeats 2000000
set_option maxRecDepth 100000
theorem step_ready {w : World} {p m n N : Nat} {v : Value} {b : RB} {M Z : Nat → Prop} {A B : Option Addr} {ca cb : Nat} (h : Sq w p m v b n M Z A ca B cb) (hO : Ok b N) (hN : N < 100000) (hn : n < 1000000)  (d1 d2 : Int) (hd1 : (Lit.int .i64 d1).wf = true) :
    Calls Try.prog 9 #[.pointer (some ⟨p, 0, none⟩), .agg (cellsB b A ca B cb).toArray, .agg #[.int .i64 3, .int .i64 d1, .int .i64 d2]] w (So w p m (readyR b) (n + 1) M Z) := by
  have hud := Try.underlying36
  have h4 := blk_alloc (blk_alloc (blk_new w (objB (cellsB b A ca B cb))) (.cells #[.int .i64 3, .int .i64 d1, .int .i64 d2] 36)) (objB (cellsB zb none 0 none 0))
  have h5 := blk_alloc (blk_new (w.alloc (objB (cellsB b A ca B cb))) (.cells #[.int .i64 3, .int .i64 d1, .int .i64 d2] 36)) (objB (cellsB zb none 0 none 0))
  have h6 := blk_new ((w.alloc (objB (cellsB b A ca B cb))).alloc (.cells #[.int .i64 3, .int .i64 d1, .int .i64 d2] 36)) (objB (cellsB zb none 0 none 0))
  have hB0 := below_alloc (below_alloc (below_alloc (Below.refl w.heap.size w) (objB (cellsB b A ca B cb))) (.cells #[.int .i64 3, .int .i64 d1, .int .i64 d2] 36)) (objB (cellsB zb none 0 none 0))
  simp only [World.size_alloc] at h5 h6
  have hp := h.bk.lt
  have hs3 : (((w.alloc (objB (cellsB b A ca B cb))).alloc (.cells #[.int .i64 3, .int .i64 d1, .int .i64 d2] 36)).alloc (objB (cellsB zb none 0 none 0))).heap.size = w.heap.size + 3 := by simp
  have hA := Aside0.mk (And.intro h hO)
  have c50 := blk_cell h5 0
  simp at c50
  have hbnd : b.ws.length ≤ 100000 := by have := hO.cnt; omega
  have RC : Calls Try.prog 18 #[.agg (cellsB b A ca B cb).toArray] (((w.alloc (objB (cellsB b A ca B cb))).alloc (.cells #[.int .i64 3, .int .i64 d1, .int .i64 d2] 36)).alloc (objB (cellsB zb none 0 none 0))) fun e w4 => ∃ A' ca' B' cb' C cc, e = .returned (.tuple #[.agg (cellsB (readyR b) A' ca' B' cb').toArray, .slice C (readyL b).length cc]) ∧ Aside0 (RI (fun k => Z k ∨ w.heap.size + 3 ≤ k) w4 A' ca' (readyR b).ws ∧ RI (fun k => Z k ∨ w.heap.size + 3 ≤ k) w4 B' cb' (readyR b).ats ∧ RI (fun k => Z k ∨ w.heap.size + 3 ≤ k) w4 C cc (readyL b) ∧ Below (((w.alloc (objB (cellsB b A ca B cb))).alloc (.cells #[.int .i64 3, .int .i64 d1, .int .i64 d2] 36)).alloc (objB (cellsB zb none 0 none 0))).heap.size (((w.alloc (objB (cellsB b A ca B cb))).alloc (.cells #[.int .i64 3, .int .i64 d1, .int .i64 d2] 36)).alloc (objB (cellsB zb none 0 none 0))) w4) :=
    (ready_ref (Z := fun k => Z k ∨ w.heap.size + 3 ≤ k) (fun k hk => .inr (by omega)) b A ca B cb ((h.rw.below hB0).narrow (fun k q _ => .inl q)) ((h.ra.below hB0).narrow (fun k q _ => .inl q)) hbnd hO.len).mono (fun e w4 ⟨A', ca', B', cb', C, cc, q, r⟩ => ⟨A', ca', B', cb', C, cc, q, ⟨r⟩⟩)
  have q0 : ((3 : Int) == 0) = false := rfl
  have q1 : ((3 : Int) == 1) = false := rfl
  have q2 : ((3 : Int) == 2) = false := rfl
  have q3 : ((3 : Int) == 3) = true := rfl
  have mk : True := trivial
  clear h hO hbnd
  go_enter Try.func9, Try.ntmps9
  go_wp2_with (first
    | (refine boxB rfl _ rfl _ rfl ?_)
    | (refine allocB rfl rfl ?_; clear mk; generalize ((w.alloc (objB (cellsB b A ca B cb))).alloc (.cells #[.int .i64 3, .int .i64 d1, .int .i64 d2] 36)).alloc (objB (cellsB zb none 0 none 0)) = w3 at h4 h5 h6 hB0 RC hs3 c50 ⊢)
    | (refine allocB rfl rfl ?_)
    | (refine loadB rfl _ rfl _ rfl _ (by assumption) (cellsB_len _ _ _ _ _) ?_)
    | (go_at_call 18; refine RC.mono ?_; clear RC h4; rintro e w4 ⟨A', ca', B', cb', C, cc, rfl, hR4⟩; have h8 := blk_new w4 (objB (cellsB zb none 0 none 0)))
    | (refine storeB rfl _ _ rfl _ rfl _ _ rfl (by assumption) (cellsB_len _ _ _ _ _) (cellsB_len _ _ _ _ _) (cellsB_one _ _ _ _ _) ?_; rintro w6 h8 hF6))
  have BC : Calls Try.prog 16 #[.pointer (some ⟨p, 0, none⟩)] w6.drew fun e w7 => ∃ C' cc', e = .returned (.slice C' (readyL b).length cc') ∧ w7.rangeAt w4.heap.size 0 (cellsB (readyR b) A' ca' B' cb') ∧ Calls Try.prog 22 #[.slice C' (readyL b).length cc', .slice C (readyL b).length cc] w7 fun e w8 => e = .returned (.bool true) ∧ w8.rangeAt w4.heap.size 0 (cellsB (readyR b) A' ca' B' cb') ∧ Aside0 (w8.heap[w.heap.size + 2]? = some (objB (cellsB zb none 0 none 0)) ∧ ∃ v' M' Z', Sq w8 p m v' (readyR b) (n + 1) M' Z' A' ca' B' cb' ∧ (∀ k, M' k → M k ∨ w.heap.size + 3 ≤ k) ∧ (∀ k, Z' k → Z k ∨ w.heap.size + 3 ≤ k) ∧ It.FrM M w w8) := by
    obtain ⟨h, hO⟩ := hA.out
    obtain ⟨rw4, ra4, rc4, hb4⟩ := hR4.out
    have hB4 := below_then hB0 hB0.size hb4
    have s3 := hb4.size
    have nm : ∀ k, w.heap.size ≤ k → ¬ M k := fun k hk q => by have := h.ml k q; omega
    have B6 : Below w.heap.size w w6 := bel_fr (below_alloc hB4 _) hF6 (by omega)
    have B6d := below_drew1 B6
    have f46 : It.FrM (fun k => k = w4.heap.size) w4 w6 := ((It.FrM.refl (fun k => k = w4.heap.size) w4).alloc _).trans (frm_of hF6) (fun i q => .inl q)
    have f46d : It.FrM (fun k => k = w4.heap.size) w4 w6.drew := f46.trans (frm_drew (fun k => k = w4.heap.size) w6) (fun i q => .inl q)
    have s6 := f46.size
    have h66 := f46d.blk (blk_below h6 hb4) (by omega)
    have s7' := blk_lt h8
    refine (ready_any (h.bk.below B6d) hO (by omega)).mono ?_
    rintro e w7 ⟨v', C', cc', rfl, oi7, bk7, f7⟩
    have h87 := f7.blk (w := w6.drew) h8 (nm _ (by omega))
    have fM : It.FrM M w w7 := (It.FrM.of_below (M := M) B6d).trans f7 (fun _ q => .inl q)
    have s7 := f7.size
    have dZ : ∀ k, ((Z k ∨ w.heap.size + 3 ≤ k) ∧ k < w4.heap.size) → ¬ M k := by
      rintro k ⟨q | q, l⟩
      · exact h.dz k q
      · exact nm k (by omega)
    have rcx := ((rc4.narrow (Z' := fun k => (Z k ∨ w.heap.size + 3 ≤ k) ∧ k < w4.heap.size) (fun k q l => ⟨q, l⟩)).frm f46d (fun k q e => by omega)).frm f7 dZ
    have rwx := ((rw4.narrow (Z' := fun k => (Z k ∨ w.heap.size + 3 ≤ k) ∧ k < w4.heap.size) (fun k q l => ⟨q, l⟩)).frm f46d (fun k q e => by omega)).frm f7 dZ
    have rax := ((ra4.narrow (Z' := fun k => (Z k ∨ w.heap.size + 3 ≤ k) ∧ k < w4.heap.size) (fun k q l => ⟨q, l⟩)).frm f46d (fun k q e => by omega)).frm f7 dZ
    have hll := (outL_len b (lst b 64) b.ws.length).1
    have hcn := hO.cnt
    refine ⟨C', cc', rfl, rangeB h87, (catchmentref09_Same.calls ((readyL b).length + 1) C' cc' (readyL b) C cc (readyL b) true w7 oi7.C.2 oi7.C.1 rcx.C.2 rcx.C.1 (same_self _ (by unfold readyL; omega))).mono ?_⟩
    rintro e w8 ⟨rfl, hd8⟩
    have hb8 := drawn_below hd8
    have s8 := hb8.size
    have hsw : w6.drew.heap.size = w6.heap.size := rfl
    refine ⟨rfl, rangeB (blk_below h87 hb8), ⟨blk_below (f7.blk (w := w6.drew) h66 (nm _ (by omega))) hb8, v', _, (fun k => (Z k ∨ w.heap.size + 3 ≤ k) ∧ k < w4.heap.size), ⟨(bk7.below hb8).up, rwx.below hb8, rax.below hb8, ?_, ?_, ?_⟩, ?_, fun k q => q.1, fM.trans (It.FrM.of_below (M := M) hb8) (fun _ q => .inl q)⟩⟩
    · rintro k q (r | r)
      · exact dZ k q r
      · omega
    · rintro k (r | r)
      · have := h.ml k r; have := B6.size; omega
      · omega
    · rintro k ⟨q, l⟩
      omega
    · rintro k (r | r)
      · exact .inl r
      · exact .inr (by omega)
  replace hA := Aside0.mk hA.out.1
  have s8_ : w6.drew.rangeAt w4.heap.size 0 (cellsB (readyR b) A' ca' B' cb') := rangeB (w := w6.drew) h8
  have hlt4 : w.heap.size + 2 < w4.heap.size := by have := hR4.out.2.2.2.size; omega
  clear h8 hF6 hR4 h6 h5
  refine wp_region_held_drew (S := (fun w' => w'.rangeAt w4.heap.size 0 (cellsB (readyR b) A' ca' B' cb'))) (by kernel_rfl) s8_ (fun hHeld => ?_)
  refine wpAnyH_take (i := 0) (oi := ⟨some 66, _, _, _, _, _⟩) (v := _) rfl (by kernel_rfl) (by kernel_rfl) (by kernel_rfl) (fun _ _ _ h => h) (yieldsIf_load_mid (by rfl) 32 (.tmp 12) rfl w4.heap.size 0 rfl (cellsB (readyR b) A' ca' B' cb') _ (fun w hSw => hSw) Try.underlying32 rfl (by rw [infoB, cellsB_len])) (by assumption) ?_
  (try simp only [Act.put, List.setIfInBounds_toArray, List.set_cons_zero, List.set_cons_succ])
  refine wpAnyH_take (i := 1) (oi := ⟨some 67, _, _, _, _, _⟩) (v := ?_) rfl (by kernel_rfl) (by kernel_rfl) (by kernel_rfl) (fun _ _ _ h => h) (Or.inl ⟨by rfl, ?_⟩) (by assumption) ?_
  rotate_left
  · intro w hSw
    (try dsimp only at hSw)
    go_simp
    (try with_reducible rfl)
  (try simp only [Act.put, List.setIfInBounds_toArray, List.set_cons_zero, List.set_cons_succ])
  refine wpAnyH_take (i := 3) (oi := ⟨some 69, _, _, _, _, _⟩) (v := ?_) rfl (by kernel_rfl) (by kernel_rfl) (by kernel_rfl) (fun _ _ _ h => h) (Or.inl ⟨by rfl, ?_⟩) (by assumption) ?_
  rotate_left
  · intro w hSw
    (try dsimp only at hSw)
    go_simp
    (try with_reducible rfl)
  (try simp only [Act.put, List.setIfInBounds_toArray, List.set_cons_zero, List.set_cons_succ])
  refine wpAnyH_ready (rs := [2]) (by kernel_rfl) (by simp) (AllReadyH.cons (i := 2) (o := ⟨some 68, _, _, _, _, _⟩) rfl (fun K' hK' => ?_) AllReadyH.nil)
  rw [if_pos (by rfl)]
  go_simp
  go_at_call 16
  refine BC.mono ?_
  clear BC
  rintro e_ w7 ⟨C', cc', rfl, hS7, SC⟩
  clear hHeld
  refine hK'.out _ _ hS7 (fun hHeld => ?_)
  clear hK' K'
  (try simp only [Act.put, List.setIfInBounds_toArray, List.set_cons_zero, List.set_cons_succ])
  refine wpAnyH_ready (rs := [4]) (by kernel_rfl) (by simp) (AllReadyH.cons (i := 4) (o := ⟨some 70, _, _, _, _, _⟩) rfl (fun K' hK' => ?_) AllReadyH.nil)
  rw [if_pos (by rfl)]
  go_simp
  go_at_call 22
  refine SC.mono ?_
  clear SC
  rintro e_ w8 ⟨rfl, hS8, hE⟩
  clear hHeld
  refine hK'.out _ _ hS8 (fun hHeld => ?_)
  clear hK' K'
  (try simp only [Act.put, List.setIfInBounds_toArray, List.set_cons_zero, List.set_cons_succ])
  refine wpAnyH_ready (rs := [5]) (by kernel_rfl) (by simp) (AllReadyH.cons (i := 5) (o := ⟨none, _, _, _, _, _⟩) rfl (fun K' hK' => ?_) AllReadyH.nil)
  rw [if_pos (by rfl)]
  refine wp_storeB (.tmp 6) (.tmp 66) rfl (w.heap.size + 2) rfl (cellsB (readyR b) A' ca' B' cb') _ rfl hE.out.1 (cellsB_len _ _ _ _ _) (cellsB_len _ _ _ _ _) (cellsB_one _ _ _ _ _) ?_
  intro w9 h9 f9
  have hHo := hHeld
  clear hHeld
  refine hK'.out _ _ (fr_range f9 hHo (by omega)) (fun hHeld => ?_)
  clear hK' K'
  (try simp only [Act.put, List.setIfInBounds_toArray, List.set_cons_zero, List.set_cons_succ])
  refine wpAnyH_take (i := 6) (oi := ⟨some 7, _, _, _, _, _⟩) (v := ?_) rfl (by kernel_rfl) (by kernel_rfl) (by kernel_rfl) (fun _ _ _ h => h) (Or.inl ⟨by rfl, ?_⟩) (by assumption) ?_
  rotate_left
  · intro w hSw
    (try dsimp only at hSw)
    go_simp
    (try with_reducible rfl)
  (try simp only [Act.put, List.setIfInBounds_toArray, List.set_cons_zero, List.set_cons_succ])
  refine wpAnyH_done (by kernel_rfl) ?_ _
  go_wp2
  refine bodyPost_ret (resB rfl _ rfl h9 (cellsB_len _ _ _ _ _)) rfl ?_
  obtain ⟨_, v', M', Z', sq, hM', hZ', f7⟩ := hE.out
  have h0 := hA.out
  have f79 := frm_of f9
  have f := f7.trans f79 (fun i q => .inr (by rw [q]; omega))
  have nM : ∀ k, M' k → k ≠ w.heap.size + 2 := fun k q e => by
    rcases hM' k q with r | r
    · have := h0.ml k r; omega
    · omega
  have nZ : ∀ k, Z' k → k ≠ w.heap.size + 2 := fun k q e => by
    rcases hZ' k q with r | r
    · have := h0.zl k r; omega
    · omega
  exact ⟨v', M', Z', _, _, _, _, rfl, ⟨sq.bk.frm f79 nM, sq.rw.frm f79 nZ, sq.ra.frm f79 nZ, sq.dz, fun k q => Nat.lt_of_lt_of_le (sq.ml k q) f79.size, fun k q => Nat.lt_of_lt_of_le (sq.zl k q) f79.size⟩, fun k q => (hM' k q).imp id (fun r => by omega), fun k q => (hZ' k q).imp id (fun r => by omega), f⟩
end Go.Proofs.Ytlpganbcnhiidaa.Ep
end
section
namespace Go.Proofs.Ytlpganbcnhiidaa.Ep
open Go Go.RowKit Go.Maps Go.Proofs.YtlpganbcnhiidaaW.PrintWords Go.Proofs.YtlpganbcnhiidaaW.PrintLast Go.Proofs.YtlpganbcnhiidaaW.PrintMore Go.Proofs.Ytlpganbcnhiidaa.Own Go.Proofs.Ytlpganbcnhiidaa.Ord Go.Proofs.Ytlpganbcnhiidaa.P
set_option maxHeartbeats 2000000
set_option maxRecDepth 100000
theorem in_same {b : RB} {N : Nat} (h : Ok b N) (who : Int) : inR b who = (inF b who).isSome := by
  unfold inR inF
  by_cases h1 : 1 ≤ who ∧ who ≤ b.s
  · have h2 := h.s2
    have e : (decide (1 ≤ who) && (decide (who ≤ 64) && b.I who.toNat)) = b.I who.toNat := by
      rw [decide_eq_true h1.1, decide_eq_true (show who ≤ 64 by omega)]
      simp
    rw [e]
    cases hI : b.I who.toNat with
    | true => rw [if_pos ⟨h1.1, h1.2, rfl⟩]; rfl
    | false => rw [if_neg (by simp)]; rfl
  · rw [if_neg (fun q => h1 ⟨q.1, q.2.1⟩)]
    by_cases h0 : 1 ≤ who
    · have : b.I who.toNat = false := by
        cases hI : b.I who.toNat with
        | false => rfl
        | true => have := h.hI _ hI; omega
      rw [this]
      simp
    · simp [h0]
theorem step_else {w : World} {p m n N : Nat} {v : Value} {b : RB} {M Z : Nat → Prop} {A B : Option Addr} {ca cb : Nat} (h : Sq w p m v b n M Z A ca B cb) (hO : Ok b N) (hN : N < 100000) (hn : n < 1000000) (d0 : Int) (hd0 : d0 ≠ 0 ∧ d0 ≠ 1 ∧ d0 ≠ 2 ∧ d0 ≠ 3) (d1 d2 : Int) (hd1 : (Lit.int .i64 d1).wf = true) :
    Calls Try.prog 9 #[.pointer (some ⟨p, 0, none⟩), .agg (cellsB b A ca B cb).toArray, .agg #[.int .i64 d0, .int .i64 d1, .int .i64 d2]] w (So w p m b (n + 1) M Z) := by
  have hud := Try.underlying36
  have h4 := blk_alloc (blk_alloc (blk_new w (objB (cellsB b A ca B cb))) (.cells #[.int .i64 d0, .int .i64 d1, .int .i64 d2] 36)) (objB (cellsB zb none 0 none 0))
  have h5 := blk_alloc (blk_new (w.alloc (objB (cellsB b A ca B cb))) (.cells #[.int .i64 d0, .int .i64 d1, .int .i64 d2] 36)) (objB (cellsB zb none 0 none 0))
  have h6 := blk_new ((w.alloc (objB (cellsB b A ca B cb))).alloc (.cells #[.int .i64 d0, .int .i64 d1, .int .i64 d2] 36)) (objB (cellsB zb none 0 none 0))
  have hB0 := below_alloc (below_alloc (below_alloc (Below.refl w.heap.size w) (objB (cellsB b A ca B cb))) (.cells #[.int .i64 d0, .int .i64 d1, .int .i64 d2] 36)) (objB (cellsB zb none 0 none 0))
  simp only [World.size_alloc] at h5 h6
  have hp := h.bk.lt
  have hs3 : (((w.alloc (objB (cellsB b A ca B cb))).alloc (.cells #[.int .i64 d0, .int .i64 d1, .int .i64 d2] 36)).alloc (objB (cellsB zb none 0 none 0))).heap.size = w.heap.size + 3 := by simp
  have hA := Aside0.mk h
  have S0 : ∀ u : World, u.heap[w.heap.size]? = some (objB (cellsB b A ca B cb)) → u.heap[w.heap.size + 1]? = some (.cells #[.int .i64 d0, .int .i64 d1, .int .i64 d2] 36 (0, 0)) → u.cell? ⟨w.heap.size + 1, 1, none⟩ = some (.int .i64 d1) ∧ u.rangeAt w.heap.size 0 (cellsB b A ca B cb) := fun u h1 h2 => ⟨by have := blk_cell h2 1; simpa using this, rangeB h1⟩
  have c0 := S0 ((((w.alloc (objB (cellsB b A ca B cb))).alloc (.cells #[.int .i64 d0, .int .i64 d1, .int .i64 d2] 36)).alloc (objB (cellsB zb none 0 none 0))).drew) h4 h5
  have c50 := blk_cell h5 0
  simp at c50
  have hin := in_same hO d1
  have IC : Calls Try.prog 19 #[.pointer (some ⟨p, 0, none⟩), .int .i64 d1] ((((w.alloc (objB (cellsB b A ca B cb))).alloc (.cells #[.int .i64 d0, .int .i64 d1, .int .i64 d2] 36)).alloc (objB (cellsB zb none 0 none 0))).drew) fun e w4 => e = .returned (.bool (inR b d1)) ∧ (w4.cell? ⟨w.heap.size + 1, 1, none⟩ = some (.int .i64 d1) ∧ w4.rangeAt w.heap.size 0 (cellsB b A ca B cb)) ∧ Calls Try.prog 27 #[.agg (cellsB b A ca B cb).toArray, .int .i64 d1] w4 fun e w5 => e = .returned (.bool (inR b d1)) ∧ (w5.cell? ⟨w.heap.size + 1, 1, none⟩ = some (.int .i64 d1) ∧ w5.rangeAt w.heap.size 0 (cellsB b A ca B cb)) ∧ Aside0 (w5.heap[w.heap.size + 2]? = some (objB (cellsB zb none 0 none 0)) ∧ ∃ v' M' Z', Sq w5 p m v' b (n + 1) M' Z' A ca B cb ∧ (∀ k, M' k → M k ∨ w.heap.size + 3 ≤ k) ∧ (∀ k, Z' k → Z k ∨ w.heap.size + 3 ≤ k) ∧ It.FrM M w w5) := by
    have hBd := below_drew1 hB0
    refine (in_any (h.bk.below hBd) d1 hd1).mono ?_
    rintro e w4 ⟨rfl, hw4⟩
    obtain rfl := hw4.symm
    refine ⟨by rw [hin], c0, (in_ref b A ca B cb d1).mono ?_⟩
    rintro e w5 ⟨rfl, hb5⟩
    have B5 := below_then hBd hBd.size hb5
    exact ⟨rfl, S0 w5 (blk_below (w := (((w.alloc (objB (cellsB b A ca B cb))).alloc (.cells #[.int .i64 d0, .int .i64 d1, .int .i64 d2] 36)).alloc (objB (cellsB zb none 0 none 0))).drew) h4 hb5) (blk_below (w := (((w.alloc (objB (cellsB b A ca B cb))).alloc (.cells #[.int .i64 d0, .int .i64 d1, .int .i64 d2] 36)).alloc (objB (cellsB zb none 0 none 0))).drew) h5 hb5), ⟨blk_below (w := (((w.alloc (objB (cellsB b A ca B cb))).alloc (.cells #[.int .i64 d0, .int .i64 d1, .int .i64 d2] 36)).alloc (objB (cellsB zb none 0 none 0))).drew) h6 hb5, v, M, Z, ⟨(h.bk.below B5).up, h.rw.below B5, h.ra.below B5, h.dz, fun k q => Nat.lt_of_lt_of_le (h.ml k q) B5.size, fun k q => Nat.lt_of_lt_of_le (h.zl k q) B5.size⟩, fun k q => .inl q, fun k q => .inl q, It.FrM.of_below B5⟩⟩
  obtain ⟨z0, z1, z2, z3⟩ := hd0
  have q0 : (d0 == 0) = false := beq_eq_false_iff_ne.2 z0
  have q1 : (d0 == 1) = false := beq_eq_false_iff_ne.2 z1
  have q2 : (d0 == 2) = false := beq_eq_false_iff_ne.2 z2
  have q3 : (d0 == 3) = false := beq_eq_false_iff_ne.2 z3
  have mk : True := trivial
  obtain ⟨s51, s4⟩ := c0
  clear h hO S0 hin z0 z1 z2 z3
  go_enter Try.func9, Try.ntmps9
  go_wp2_with (first
    | (refine boxB rfl _ rfl _ rfl ?_)
    | (refine allocB rfl rfl ?_; clear mk; generalize ((w.alloc (objB (cellsB b A ca B cb))).alloc (.cells #[.int .i64 d0, .int .i64 d1, .int .i64 d2] 36)).alloc (objB (cellsB zb none 0 none 0)) = w3 at h4 h5 h6 hB0 IC hs3 s51 s4 c50 ⊢))
  refine wp_region_held_drew (S := (fun w' => w'.cell? ⟨w.heap.size + 1, 1, none⟩ = some (.int .i64 d1) ∧ w'.rangeAt w.heap.size 0 (cellsB b A ca B cb))) (by kernel_rfl) ⟨s51, s4⟩ (fun hHeld => ?_)
  refine wpAnyH_take (i := 0) (oi := ⟨some 71, _, _, _, _, _⟩) (v := _) rfl (by kernel_rfl) (by kernel_rfl) (by kernel_rfl) (fun _ _ _ h => h) (yieldsIf_load_mid (by rfl) 32 (.tmp 4) rfl w.heap.size 0 rfl (cellsB b A ca B cb) _ (fun w hSw => hSw.2) Try.underlying32 rfl (by rw [infoB, cellsB_len])) (by assumption) ?_
  (try simp only [Act.put, List.setIfInBounds_toArray, List.set_cons_zero, List.set_cons_succ])
  refine wpAnyH_take (i := 1) (oi := ⟨some 72, _, _, _, _, _⟩) (v := ?_) rfl (by kernel_rfl) (by kernel_rfl) (by kernel_rfl) (fun _ _ _ h => h) (Or.inl ⟨by rfl, ?_⟩) (by assumption) ?_
  rotate_left
  · intro w hSw
    (try dsimp only at hSw)
    go_simp
    (try with_reducible rfl)
  (try simp only [Act.put, List.setIfInBounds_toArray, List.set_cons_zero, List.set_cons_succ])
  refine wpAnyH_take (i := 2) (oi := ⟨some 73, _, _, _, _, _⟩) (v := ?_) rfl (by kernel_rfl) (by kernel_rfl) (by kernel_rfl) (fun _ _ _ h => h) (Or.inl ⟨by rfl, ?_⟩) (by assumption) ?_
  rotate_left
  · intro w hSw
    (try dsimp only at hSw)
    go_simp
    (try with_reducible rfl)
  (try simp only [Act.put, List.setIfInBounds_toArray, List.set_cons_zero, List.set_cons_succ])
  refine wpAnyH_take (i := 3) (oi := ⟨some 74, _, _, _, _, _⟩) (v := ?_) rfl (by kernel_rfl) (by kernel_rfl) (by kernel_rfl) (fun _ _ _ h => h) (Or.inl ⟨by rfl, ?_⟩) (by assumption) ?_
  rotate_left
  · intro w hSw
    (try dsimp only at hSw)
    go_simp
    (try with_reducible rfl)
  (try simp only [Act.put, List.setIfInBounds_toArray, List.set_cons_zero, List.set_cons_succ])
  refine wpAnyH_take (i := 5) (oi := ⟨some 76, _, _, _, _, _⟩) (v := _) rfl (by kernel_rfl) (by kernel_rfl) (by kernel_rfl) (fun _ _ _ h => h) (yieldsIf_load_mid (by rfl) 32 (.tmp 4) rfl w.heap.size 0 rfl (cellsB b A ca B cb) _ (fun w hSw => hSw.2) Try.underlying32 rfl (by rw [infoB, cellsB_len])) (by assumption) ?_
  (try simp only [Act.put, List.setIfInBounds_toArray, List.set_cons_zero, List.set_cons_succ])
  refine wpAnyH_take (i := 6) (oi := ⟨some 77, _, _, _, _, _⟩) (v := ?_) rfl (by kernel_rfl) (by kernel_rfl) (by kernel_rfl) (fun _ _ _ h => h) (Or.inl ⟨by rfl, ?_⟩) (by assumption) ?_
  rotate_left
  · intro w hSw
    (try dsimp only at hSw)
    go_simp
    (try with_reducible rfl)
  (try simp only [Act.put, List.setIfInBounds_toArray, List.set_cons_zero, List.set_cons_succ])
  refine wpAnyH_take (i := 7) (oi := ⟨some 78, _, _, _, _, _⟩) (v := ?_) rfl (by kernel_rfl) (by kernel_rfl) (by kernel_rfl) (fun _ _ _ h => h) (Or.inl ⟨by rfl, ?_⟩) (by assumption) ?_
  rotate_left
  · intro w hSw
    (try dsimp only at hSw)
    go_simp
    (try with_reducible rfl)
  (try simp only [Act.put, List.setIfInBounds_toArray, List.set_cons_zero, List.set_cons_succ])
  refine wpAnyH_ready (rs := [4]) (by kernel_rfl) (by simp) (AllReadyH.cons (i := 4) (o := ⟨some 75, _, _, _, _, _⟩) rfl (fun K' hK' => ?_) AllReadyH.nil)
  rw [if_pos (by rfl)]
  go_simp
  go_at_call 19
  refine IC.mono ?_
  clear IC
  rintro e_ w4 ⟨rfl, hS4, RC⟩
  clear hHeld
  refine hK'.out _ _ hS4 (fun hHeld => ?_)
  clear hK' K'
  (try simp only [Act.put, List.setIfInBounds_toArray, List.set_cons_zero, List.set_cons_succ])
  refine wpAnyH_ready (rs := [8]) (by kernel_rfl) (by simp) (AllReadyH.cons (i := 8) (o := ⟨some 79, _, _, _, _, _⟩) rfl (fun K' hK' => ?_) AllReadyH.nil)
  rw [if_pos (by rfl)]
  go_simp
  go_at_call 27
  refine RC.mono ?_
  clear RC
  rintro e_ w7 ⟨rfl, hS7, hE⟩
  clear hHeld
  refine hK'.out _ _ hS7 (fun hHeld => ?_)
  clear hK' K'
  (try simp only [Act.put, List.setIfInBounds_toArray, List.set_cons_zero, List.set_cons_succ])
  refine wpAnyH_take (i := 9) (oi := ⟨some 80, _, _, _, _, _⟩) (v := ?_) rfl (by kernel_rfl) (by kernel_rfl) (by kernel_rfl) (fun _ _ _ h => h) (Or.inl ⟨by rfl, ?_⟩) (by assumption) ?_
  rotate_left
  · intro w hSw
    (try dsimp only at hSw)
    go_simp
    (try with_reducible rfl)
  (try simp only [Act.put, List.setIfInBounds_toArray, List.set_cons_zero, List.set_cons_succ])
  refine wpAnyH_ready (rs := [10]) (by kernel_rfl) (by simp) (AllReadyH.cons (i := 10) (o := ⟨none, _, _, _, _, _⟩) rfl (fun K' hK' => ?_) AllReadyH.nil)
  rw [if_pos (by rfl)]
  refine wp_storeB (.tmp 6) (.tmp 71) rfl (w.heap.size + 2) rfl (cellsB b A ca B cb) _ rfl hE.out.1 (cellsB_len _ _ _ _ _) (cellsB_len _ _ _ _ _) (cellsB_one _ _ _ _ _) ?_
  intro w9 h9 f9
  have hHo := hHeld
  clear hHeld
  refine hK'.out _ _ ⟨fr_cell f9 hHo.1 (by show w.heap.size + 1 ≠ w.heap.size + 2; omega), fr_range f9 hHo.2 (by omega)⟩ (fun hHeld => ?_)
  clear hK' K'
  (try simp only [Act.put, List.setIfInBounds_toArray, List.set_cons_zero, List.set_cons_succ])
  refine wpAnyH_take (i := 11) (oi := ⟨some 7, _, _, _, _, _⟩) (v := ?_) rfl (by kernel_rfl) (by kernel_rfl) (by kernel_rfl) (fun _ _ _ h => h) (Or.inl ⟨by rfl, ?_⟩) (by assumption) ?_
  rotate_left
  · intro w hSw
    (try dsimp only at hSw)
    go_simp
    (try with_reducible rfl)
  (try simp only [Act.put, List.setIfInBounds_toArray, List.set_cons_zero, List.set_cons_succ])
  refine wpAnyH_done (by kernel_rfl) ?_ _
  go_wp2
  refine bodyPost_ret (resB rfl _ rfl h9 (cellsB_len _ _ _ _ _)) rfl ?_
  obtain ⟨_, v', M', Z', sq, hM', hZ', f7⟩ := hE.out
  have h0 := hA.out
  have f79 := frm_of f9
  have f := f7.trans f79 (fun i q => .inr (by rw [q]; omega))
  have nM : ∀ k, M' k → k ≠ w.heap.size + 2 := fun k q e => by
    rcases hM' k q with r | r
    · have := h0.ml k r; omega
    · omega
  have nZ : ∀ k, Z' k → k ≠ w.heap.size + 2 := fun k q e => by
    rcases hZ' k q with r | r
    · have := h0.zl k r; omega
    · omega
  exact ⟨v', M', Z', _, _, _, _, rfl, ⟨sq.bk.frm f79 nM, sq.rw.frm f79 nZ, sq.ra.frm f79 nZ, sq.dz, fun k q => Nat.lt_of_lt_of_le (sq.ml k q) f79.size, fun k q => Nat.lt_of_lt_of_le (sq.zl k q) f79.size⟩, fun k q => (hM' k q).imp id (fun r => by omega), fun k q => (hZ' k q).imp id (fun r => by omega), f⟩
end Go.Proofs.Ytlpganbcnhiidaa.Ep
end
section
namespace Go.Proofs.Ytlpganbcnhiidaa.Ep
open Go Go.RowKit Go.Maps Go.Proofs.YtlpganbcnhiidaaW.PrintWords Go.Proofs.YtlpganbcnhiidaaW.PrintLast Go.Proofs.YtlpganbcnhiidaaW.PrintMore Go.Proofs.Ytlpganbcnhiidaa.Own Go.Proofs.Ytlpganbcnhiidaa.Ord Go.Proofs.Ytlpganbcnhiidaa.P
set_option maxHeartbeats 2000000
set_option maxRecDepth 100000
theorem Ok.wide {b : RB} {N N' : Nat} (h : Ok b N) (hN : N ≤ N') : Ok b N' := ⟨h.s1, h.s2, h.hI, h.len, h.pw, h.at0, h.now0, by have := h.now1; omega, h.said, by have := h.cnt; omega⟩
theorem Ok.start {s : Int} (h : 1 ≤ s ∧ s ≤ 64) : Ok { zb with s := s } 0 :=
  ⟨h.1, h.2, (fun i q => by cases q), rfl, List.Pairwise.nil, (fun a q => by cases q), Int.le_refl _, Int.le_refl _, (fun i q => by cases q), Nat.le_refl _⟩
theorem Ok.enter {b : RB} {N : Nat} (h : Ok b N) (who : Int) : Ok (enterR b who) N := by
  unfold enterR
  split
  · rename_i h0
    obtain ⟨h1, h2, _⟩ := askR_ok h0
    refine ⟨h.s1, h.s2, fun i q => ?_, h.len, h.pw, h.at0, h.now0, h.now1, fun i q => ?_, h.cnt⟩
    · by_cases e : i = who.toNat
      · subst e
        show 1 ≤ ((who.toNat : Nat) : Int) ∧ ((who.toNat : Nat) : Int) ≤ b.s
        omega
      · exact h.hI i (by simpa [updN, e] using q)
    · by_cases e : i = who.toNat
      · show 0 ≤ updN b.S who.toNat b.now i ∧ updN b.S who.toNat b.now i ≤ b.now
        rw [updN, if_pos e]
        exact ⟨h.now0, Int.le_refl _⟩
      · show 0 ≤ updN b.S who.toNat b.now i ∧ updN b.S who.toNat b.now i ≤ b.now
        rw [updN, if_neg e]
        exact h.said i (by simpa [updN, e] using q)
  · exact h
theorem Ok.leave {b : RB} {N : Nat} (h : Ok b N) (who : Int) : Ok (leaveR b who) N := by
  unfold leaveR
  split
  · refine ⟨h.s1, h.s2, fun i q => ?_, h.len, h.pw, h.at0, h.now0, h.now1, fun i q => ?_, h.cnt⟩
    · have : b.I i = true := by
        simp only [updN] at q
        split at q
        · cases q
        · exact q
      exact h.hI i this
    · have : b.I i = true := by
        simp only [updN] at q
        split at q
        · cases q
        · exact q
      exact h.said i this
  · exact h
theorem Ok.retire {b : RB} {N : Nat} (h : Ok b N) (x : Int) : Ok (retireR b x) (N + 1) := by
  refine ⟨h.s1, h.s2, h.hI, ?_, ?_, fun a q => ?_, ?_, ?_, fun i q => ?_, ?_⟩
  · show (b.ws ++ [x]).length = (b.ats ++ [b.now]).length
    rw [List.length_append, List.length_append, h.len]
    rfl
  · show (b.ats ++ [b.now]).Pairwise (· < ·)
    rw [List.pairwise_append]
    exact ⟨h.pw, List.pairwise_singleton _ _, fun a ha c hc => by have := h.at0 a ha; simp at hc; omega⟩
  · have q' : a ∈ b.ats ++ [b.now] := q
    show 0 ≤ a ∧ a < b.now + 1
    rcases List.mem_append.1 q' with r | r
    · have := h.at0 a r; omega
    · simp at r; have := h.now0; omega
  · have := h.now0; show 0 ≤ b.now + 1; omega
  · have := h.now1; show b.now + 1 ≤ ((N + 1 : Nat) : Int); omega
  · have := h.said i q; show 0 ≤ b.S i ∧ b.S i ≤ b.now + 1; omega
  · show (b.ws ++ [x]).length ≤ N + 1
    have := h.cnt
    simp
    omega
theorem atL_sub (b : RB) (hl : b.ws.length = b.ats.length) (m : Int) (i : Nat) : (atL b m i).Sublist b.ats := by
  unfold atL
  have h1 : (((b.ws.zip b.ats).take i).filter (fun p => !decide (p.2 < m))).Sublist (b.ws.zip b.ats) := List.filter_sublist.trans (List.take_sublist _ _)
  have h2 := h1.map (·.2)
  rwa [List.map_snd_zip (by omega)] at h2
theorem Ok.ready {b : RB} {N : Nat} (h : Ok b N) : Ok (readyR b) N := by
  have hs := atL_sub b h.len (Ep.lst b 64) b.ws.length
  refine ⟨h.s1, h.s2, h.hI, ?_, h.pw.sublist hs, fun a q => h.at0 a (hs.subset q), h.now0, h.now1, h.said, ?_⟩
  · show (wtL b (Ep.lst b 64) b.ws.length).length = (atL b (Ep.lst b 64) b.ws.length).length
    unfold wtL atL
    rw [List.length_map, List.length_map]
  · show (wtL b (Ep.lst b 64) b.ws.length).length ≤ N
    have := (outL_len b (Ep.lst b 64) b.ws.length).2.1
    have := h.cnt
    omega
def stepR (b : RB) (d0 d1 d2 : Int) : RB := if d0 = 0 then enterR b d1 else if d0 = 1 then leaveR b d1 else if d0 = 2 then retireR b d2 else if d0 = 3 then readyR b else b
theorem Ok.step {b : RB} {N : Nat} (h : Ok b N) (d0 d1 d2 : Int) : Ok (stepR b d0 d1 d2) (N + 1) := by
  unfold stepR
  split
  · exact (h.enter d1).wide (by omega)
  split
  · exact (h.leave d1).wide (by omega)
  split
  · exact h.retire d2
  split
  · exact h.ready.wide (by omega)
  · exact h.wide (by omega)
theorem step_any {w : World} {p m n N : Nat} {v : Value} {b : RB} {M Z : Nat → Prop} {A B : Option Addr} {ca cb : Nat} (h : Sq w p m v b n M Z A ca B cb) (hO : Ok b N) (hN : N < 100000) (hn : n < 1000000) (d0 d1 d2 : Int) (hd1 : (Lit.int .i64 d1).wf = true) :
    Calls Try.prog 9 #[.pointer (some ⟨p, 0, none⟩), .agg (cellsB b A ca B cb).toArray, .agg #[.int .i64 d0, .int .i64 d1, .int .i64 d2]] w (So w p m (stepR b d0 d1 d2) (n + 1) M Z) := by
  unfold stepR
  split
  · rename_i e; subst e
    exact step_enter h hO hN hn d1 d2 hd1
  split
  · rename_i e; subst e
    exact step_leave h hO hN hn d1 d2 hd1
  split
  · rename_i e; subst e
    exact step_retire h hO hN hn d1 d2 hd1
  split
  · rename_i e; subst e
    exact step_ready h hO hN hn d1 d2 hd1
  · rename_i e0 e1 e2 e3
    exact step_else h hO hN hn d0 ⟨e0, e1, e2, e3⟩ d1 d2 hd1
def Bs (w0 w : World) (p : Nat) (b : RB) (n : Nat) : Prop := ∃ M m v, Bk M w p m v b n ∧ (∀ k, M k → w0.heap.size ≤ k) ∧ Below w0.heap.size w0 w
theorem frm_old {w0 w w' : World} {M : Nat → Prop} (hB : Below w0.heap.size w0 w) (hM : ∀ k, M k → w0.heap.size ≤ k) (f : It.FrM M w w') : Below w0.heap.size w0 w' :=
  ⟨f.os.trans hB.os, f.tape.trans hB.tape, f.output.trans hB.output, Nat.le_trans hB.size f.size, fun k hk => (f.block k (Nat.lt_of_lt_of_le hk hB.size) (fun q => by have := hM k q; omega)).trans (hB.block k hk)⟩
theorem Bs.below {w0 w w' : World} {p n : Nat} {b : RB} (h : Bs w0 w p b n) (hb : Below w.heap.size w w') : Bs w0 w' p b n := by
  obtain ⟨M, m, v, h1, h2, h3⟩ := h
  exact ⟨M, m, v, h1.below hb, h2, below_then h3 h3.size hb⟩
theorem Bs.old {w0 w : World} {p n : Nat} {b : RB} (h : Bs w0 w p b n) : Below w0.heap.size w0 w := by
  obtain ⟨M, m, v, h1, h2, h3⟩ := h
  exact h3
theorem Bs.new (w0 w : World) (hB : Below w0.heap.size w0 w) (s : Int) (h : 1 ≤ s ∧ s ≤ 64) : Calls Try.prog 7 #[.int .i64 s] w fun e w' => ∃ p, e = .returned (.tuple #[.pointer (some ⟨p, 0, none⟩), .int .i64 0]) ∧ Bs w0 w' p { zb with s := s } 0 := by
  refine (new_any w s h).mono ?_
  rintro e w' ⟨p, m, rfl, h1, h2⟩
  exact ⟨p, rfl, _, m, _, h1, fun k q => by have := hB.size; omega, below_then hB hB.size h2⟩
theorem Bs.enter {w0 w : World} {p n : Nat} {b : RB} (h : Bs w0 w p b n) (hn : n < 1000000) (who : Int) (hk : (Lit.int .i64 who).wf = true) : Calls Try.prog 12 #[.pointer (some ⟨p, 0, none⟩), .int .i64 who] w fun e w' => e = .returned (.int .i64 (askR b who false)) ∧ Bs w0 w' p (enterR b who) (n + 1) := by
  obtain ⟨M, m, v, h1, h2, h3⟩ := h
  exact (enter_any h1 hn who hk).mono fun e w' ⟨q, h4, f⟩ => ⟨q, M, m, v, h4, h2, frm_old h3 h2 f⟩
theorem Bs.leave {w0 w : World} {p n : Nat} {b : RB} (h : Bs w0 w p b n) (who : Int) (hk : (Lit.int .i64 who).wf = true) : Calls Try.prog 20 #[.pointer (some ⟨p, 0, none⟩), .int .i64 who] w fun e w' => e = .returned (.int .i64 (askR b who true)) ∧ Bs w0 w' p (leaveR b who) n := by
  obtain ⟨M, m, v, h1, h2, h3⟩ := h
  exact (leave_any h1 who hk).mono fun e w' ⟨q, h4, f⟩ => ⟨q, M, m, v, h4, h2, frm_old h3 h2 f⟩
theorem Bs.retire {w0 w : World} {p n N : Nat} {b : RB} (h : Bs w0 w p b n) (hO : Ok b N) (hN : N < 100000) (x : Int) : Calls Try.prog 14 #[.pointer (some ⟨p, 0, none⟩), .int .i64 x] w fun e w' => e = .returned (.int .i64 0) ∧ Bs w0 w' p (retireR b x) n := by
  obtain ⟨M, m, v, h1, h2, h3⟩ := h
  refine (retire_any h1 hO.len (by have := hO.cnt; omega) (by have := hO.now1; omega) hO.now0 x).mono ?_
  rintro e w' ⟨v', rfl, h4, f⟩
  exact ⟨rfl, _, m, v', h4, fun k q => q.elim (h2 k) (fun r => by have := h3.size; omega), frm_old h3 h2 f⟩
theorem Bs.ready {w0 w : World} {p n N : Nat} {b : RB} (h : Bs w0 w p b n) (hO : Ok b N) (hN : N ≤ 100000) : Calls Try.prog 16 #[.pointer (some ⟨p, 0, none⟩)] w fun e w' => ∃ C cc, e = .returned (.slice C (readyL b).length cc) ∧ OI w' w.heap.size (.slice C (readyL b).length cc) (readyL b) ∧ Bs w0 w' p (readyR b) n := by
  obtain ⟨M, m, v, h1, h2, h3⟩ := h
  refine (ready_any h1 hO hN).mono ?_
  rintro e w' ⟨v', C, cc, rfl, h5, h4, f⟩
  exact ⟨C, cc, rfl, h5, _, m, v', h4, fun k q => q.elim (h2 k) (fun r => by have := h3.size; omega), frm_old h3 h2 f⟩
theorem Bs.now {w0 w : World} {p n : Nat} {b : RB} (h : Bs w0 w p b n) : Calls Try.prog 24 #[.pointer (some ⟨p, 0, none⟩)] w fun e w' => e = .returned (.int .i64 b.now) ∧ w' = w := by
  obtain ⟨M, m, v, h1, h2, h3⟩ := h
  exact now_any h1
theorem Bs.isin {w0 w : World} {p n : Nat} {b : RB} (h : Bs w0 w p b n) (who : Int) (hk : (Lit.int .i64 who).wf = true) : Calls Try.prog 19 #[.pointer (some ⟨p, 0, none⟩), .int .i64 who] w fun e w' => e = .returned (.bool (inF b who).isSome) ∧ w' = w := by
  obtain ⟨M, m, v, h1, h2, h3⟩ := h
  exact in_any h1 who hk
theorem Bs.waits {w0 w : World} {p n N : Nat} {b : RB} (h : Bs w0 w p b n) (hO : Ok b N) (hN : N ≤ 100000) : Calls Try.prog 21 #[.pointer (some ⟨p, 0, none⟩)] w fun e w' => ∃ C cc, e = .returned (.slice C b.ws.length cc) ∧ OI w' w.heap.size (.slice C b.ws.length cc) b.ws ∧ Below w.heap.size w w' := by
  obtain ⟨M, m, v, h1, h2, h3⟩ := h
  exact waits_any h1 hO.len (by have := hO.cnt; omega)
theorem Bs.least {w0 w : World} {p n N : Nat} {b : RB} (h : Bs w0 w p b n) (hO : Ok b N) : Calls Try.prog 23 #[.pointer (some ⟨p, 0, none⟩)] w fun e w' => e = .returned (.int .i64 (Ep.lst b 64)) ∧ Below w.heap.size w w' := by
  obtain ⟨M, m, v, h1, h2, h3⟩ := h
  exact least_any h1 hO.hI hO.s2
end Go.Proofs.Ytlpganbcnhiidaa.Ep
end
section
namespace Go.Proofs.Ytlpganbcnhiidaa.Ep
open Go Go.RowKit Go.Maps Go.Proofs.YtlpganbcnhiidaaW.PrintWords Go.Proofs.YtlpganbcnhiidaaW.PrintLast Go.Proofs.YtlpganbcnhiidaaW.PrintMore Go.Proofs.Ytlpganbcnhiidaa.Own Go.Proofs.Ytlpganbcnhiidaa.Ord Go.Proofs.Ytlpganbcnhiidaa.P
set_option maxHeartbeats 2000000
set_option maxRecDepth 100000
def v0 : RB := { zb with s := 2 }
def v1 : RB := enterR v0 1
def v2 : RB := retireR v1 7
def v3 : RB := enterR v2 2
def v4 : RB := readyR v3
def v5 : RB := leaveR v4 1
def v6 : RB := readyR v5
theorem v_ok : Ok v0 0 ∧ Ok v1 0 ∧ Ok v2 1 ∧ Ok v3 1 ∧ Ok v4 1 ∧ Ok v5 1 ∧ Ok v6 1 := by
  have h0 : Ok v0 0 := Ok.start ⟨by omega, by omega⟩
  have h1 : Ok v1 0 := h0.enter 1
  have h2 : Ok v2 1 := h1.retire 7
  have h3 : Ok v3 1 := h2.enter 2
  have h4 : Ok v4 1 := h3.ready
  have h5 : Ok v5 1 := h4.leave 1
  exact ⟨h0, h1, h2, h3, h4, h5, h5.ready⟩
theorem v_vals : askR v0 1 false = 0 ∧ askR v2 2 false = 0 ∧ readyL v3 = [] ∧ askR v4 1 true = 0 ∧ readyL v5 = [7] ∧ v6.now = 1 ∧ v6.ws = [] := by decide
theorem own_one {W : World} {n : Nat} {C : Option Addr} {cc : Nat} {x : Int} (h : OI W n (.slice C 1 cc) [x]) : ∃ g, C = some ⟨g, 0, none⟩ ∧ W.cell? ⟨g, 0, none⟩ = some (.int .i64 x) := by
  rcases h.2 with ⟨e, h0⟩ | ⟨g, cap, cur, e, _, hh, hnc, _, hcs, htk⟩
  · simp at h0
  · injection e with e1 e2 e3
    have := own_at (g := g) (cap := cc) (i := 0) (by rw [← e1]; exact h) (by omega) (by simp)
    exact ⟨g, e1, by have := this.1; simpa [rd] using this⟩
theorem live_any (w : World) : Calls Try.prog 8 #[] w fun e w' => e = .returned (.bool true) ∧ Below w.heap.size w w' := by
  obtain ⟨o0, o1, o2, o3, o4, o5, o6⟩ := v_ok
  obtain ⟨a0, a2, r3, a4, r5, n6, ww6⟩ := v_vals
  have k1 : (Lit.int .i64 1).wf = true := by decide
  have k2 : (Lit.int .i64 2).wf = true := by decide
  have LV : Calls Try.prog 7 #[.int .i64 2] w fun e w1 => ∃ p, e = .returned (.tuple #[.pointer (some ⟨p, 0, none⟩), .int .i64 0]) ∧ Calls Try.prog 12 #[.pointer (some ⟨p, 0, none⟩), .int .i64 1] w1 fun e w2 => e = .returned (.int .i64 0) ∧ Calls Try.prog 14 #[.pointer (some ⟨p, 0, none⟩), .int .i64 7] w2 fun e w3 => e = .returned (.int .i64 0) ∧ Calls Try.prog 12 #[.pointer (some ⟨p, 0, none⟩), .int .i64 2] w3 fun e w4 => e = .returned (.int .i64 0) ∧ Calls Try.prog 16 #[.pointer (some ⟨p, 0, none⟩)] w4 fun e w5 => ∃ C cc, e = .returned (.slice C 0 cc) ∧ Calls Try.prog 20 #[.pointer (some ⟨p, 0, none⟩), .int .i64 1] w5 fun e w6 => e = .returned (.int .i64 0) ∧ Calls Try.prog 16 #[.pointer (some ⟨p, 0, none⟩)] w6 fun e w7 => ∃ g cc, e = .returned (.slice (some ⟨g, 0, none⟩) 1 cc) ∧ w7.cell? ⟨g, 0, none⟩ = some (.int .i64 7) ∧ Calls Try.prog 24 #[.pointer (some ⟨p, 0, none⟩)] w7 fun e w8 => e = .returned (.int .i64 1) ∧ Calls Try.prog 21 #[.pointer (some ⟨p, 0, none⟩)] w8 fun e w9 => ∃ C cc, e = .returned (.slice C 0 cc) ∧ Aside0 (Below w.heap.size w w9) := by
    refine (Bs.new w w (Below.refl _ _) 2 ⟨by omega, by omega⟩).mono ?_
    rintro e w1 ⟨p, rfl, h1⟩
    refine ⟨p, rfl, (Bs.enter (b := v0) h1 (by omega) 1 k1).mono ?_⟩
    rintro e w2 ⟨rfl, h2⟩
    refine ⟨by rw [a0], (Bs.retire (b := v1) h2 o1 (by omega) 7).mono ?_⟩
    rintro e w3 ⟨rfl, h3⟩
    refine ⟨rfl, (Bs.enter (b := v2) h3 (by omega) 2 k2).mono ?_⟩
    rintro e w4 ⟨rfl, h4⟩
    refine ⟨by rw [a2], (Bs.ready (b := v3) h4 o3 (by omega)).mono ?_⟩
    rintro e w5 ⟨C, cc, rfl, _, h5⟩
    refine ⟨C, cc, by rw [r3]; rfl, (Bs.leave (b := v4) h5 1 k1).mono ?_⟩
    rintro e w6 ⟨rfl, h6⟩
    refine ⟨by rw [a4], (Bs.ready (b := v5) h6 o5 (by omega)).mono ?_⟩
    rintro e w7 ⟨C, cc, rfl, oi, h7⟩
    rw [r5] at oi ⊢
    obtain ⟨g, rfl, hc⟩ := own_one oi
    refine ⟨g, cc, rfl, hc, (Bs.now (b := v6) h7).mono ?_⟩
    rintro e w8 ⟨rfl, hw⟩
    obtain rfl := hw.symm
    refine ⟨by rw [n6], (Bs.waits (b := v6) h7 o6 (by omega)).mono ?_⟩
    rintro e w9 ⟨C, cc, rfl, _, hb⟩
    exact ⟨C, cc, by rw [ww6]; rfl, ⟨(h7.below hb).old⟩⟩
  clear o0 o1 o2 o3 o4 o5 o6 a0 a2 r3 a4 r5 n6 ww6 k1 k2
  go_enter Try.func8, Try.ntmps8
  go_wp2_with (first
    | (go_at_call 7; refine LV.mono ?_; clear LV; rintro e w1 ⟨p, rfl, L1⟩)
    | (go_at_call 12; refine L1.mono ?_; clear L1; rintro e w2 ⟨rfl, L2⟩)
    | (go_at_call 14; refine L2.mono ?_; clear L2; rintro e w3 ⟨rfl, L3⟩)
    | (go_at_call 12; refine L3.mono ?_; clear L3; rintro e w4 ⟨rfl, L4⟩)
    | (go_at_call 16; refine L4.mono ?_; clear L4; rintro e w5 ⟨C, cc, rfl, L5⟩)
    | (go_at_call 20; refine L5.mono ?_; clear L5; rintro e w6 ⟨rfl, L6⟩)
    | (go_at_call 16; refine L6.mono ?_; clear L6; rintro e w7 ⟨g, c7, rfl, hc7, L7⟩)
    | (go_at_call 24; refine L7.mono ?_; clear L7; rintro e w8 ⟨rfl, L8⟩)
    | (go_at_call 21; refine L8.mono ?_; clear L8; rintro e w9 ⟨C9, c9, rfl, hE⟩))
  go_ret
  exact ⟨rfl, hE.out⟩
end Go.Proofs.Ytlpganbcnhiidaa.Ep
end
section
namespace Go.Proofs.Ytlpganbcnhiidaa.Ep
open Go Go.RowKit Go.Maps Go.Proofs.YtlpganbcnhiidaaW.PrintWords Go.Proofs.YtlpganbcnhiidaaW.PrintLast Go.Proofs.YtlpganbcnhiidaaW.PrintMore Go.Proofs.Ytlpganbcnhiidaa.Own Go.Proofs.Ytlpganbcnhiidaa.Ord Go.Proofs.Ytlpganbcnhiidaa.P
set_option maxHeartbeats 2000000
set_option maxRecDepth 100000
abbrev Dd := P.S36
def Pl (w0 : World) (p g : Nat) (i : Nat) (b : RB) (cs : List Value) (w : World) : Prop := ∃ m v n M Z A ca B cb, Sq w p m v b n M Z A ca B cb ∧ cs = cellsB b A ca B cb ∧ Ok b i ∧ n ≤ i ∧ w.heap[g]? = some (objB cs) ∧ ¬ M g ∧ (¬ Z g ∧ ∀ k, Z k → w0.heap.size ≤ k) ∧ (∀ k, M k → w0.heap.size ≤ k) ∧ w0.heap.size ≤ g ∧ Below w0.heap.size w0 w
theorem Pl.len {w0 w : World} {p g i : Nat} {b : RB} {cs : List Value} (h : Pl w0 p g i b cs w) : cs.length = 134 ∧ (∀ v ∈ cs, v.oneCell' = true) ∧ w.heap[g]? = some (objB cs) ∧ Below w0.heap.size w0 w := by
  obtain ⟨m, v, n, M, Z, A, ca, B, cb, h1, rfl, h3, h4, h5, h6, h7, h8, h9, h10⟩ := h
  exact ⟨cellsB_len _ _ _ _ _, cellsB_one _ _ _ _ _, h5, h10⟩
theorem Pl.base {w0 w : World} {p g i : Nat} {b : RB} {cs : List Value} (h : Pl w0 p g i b cs w) : w0.heap.size ≤ g := by
  obtain ⟨m, v, n, M, Z, A, ca, B, cb, h1, rfl, h3, h4, h5, h6, h7, h8, h9, h10⟩ := h
  exact h9
theorem wp_loadB {w : World} {o : Oper} {a : Act} {Q : Exit → Act → World → Prop} {K : Act → World → Prop} (x : Operand) (ho : o.op = .load 32 x) (g : Nat) (hx : a.eval x = .pointer (some ⟨g, 0, none⟩)) (cs : List Value) (hb : w.heap[g]? = some (objB cs)) (hl : cs.length = 134) (h : K (a.put o.dst (.agg cs.toArray)) w) : o.wp Try.prog a w K Q :=
  wp_load_row _ x ho g hx 32 cs.toArray (0, 0) _ hb Try.underlying32 rfl (by rw [infoB, List.size_toArray, hl]) h
def Pm (w0 : World) (p g : Nat) (i : Nat) (b' : RB) (cs cs' : List Value) (w : World) : Prop := cs'.length = 134 ∧ (∀ v ∈ cs', v.oneCell' = true) ∧ cs.length = 134 ∧ w.heap[g]? = some (objB cs) ∧ ∀ w', w'.heap[g]? = some (objB cs') → Fr [g] w w' → Pl w0 p g (i + 1) b' cs' w'
theorem Pl.step {w0 w : World} {p g i : Nat} {b : RB} {cs : List Value} (h : Pl w0 p g i b cs w) (hi : i < 1000) (d0 d1 d2 : Int) (hd1 : (Lit.int .i64 d1).wf = true) :
    Calls Try.prog 9 #[.pointer (some ⟨p, 0, none⟩), .agg cs.toArray, .agg #[.int .i64 d0, .int .i64 d1, .int .i64 d2]] w fun e w' => ∃ cs', e = .returned (.tuple #[.agg cs'.toArray, .bool true]) ∧ Below w0.heap.size w0 w' ∧ Pm w0 p g i (stepR b d0 d1 d2) cs cs' w' := by
  obtain ⟨m, v, n, M, Z, A, ca, B, cb, h1, rfl, h3, h4, h5, h6, h7, h8, h9, h10⟩ := h
  refine (step_any h1 h3 (by omega) (by omega) d0 d1 d2 hd1).mono ?_
  rintro e w' ⟨v', M', Z', A', ca', B', cb', rfl, sq, hM, hZ, f⟩
  have hg := blk_lt h5
  refine ⟨_, rfl, frm_old h10 h8 f, cellsB_len _ _ _ _ _, cellsB_one _ _ _ _ _, cellsB_len _ _ _ _ _, f.blk h5 h6, fun w9 h9' f9 => ?_⟩
  have nM : ¬ M' g := fun q => by rcases hM g q with r | r; exact h6 r; omega
  have nZ : ¬ Z' g := fun q => by rcases hZ g q with r | r; exact h7.1 r; omega
  have f9' := frm_of f9
  have hold := frm_old h10 h8 f
  exact ⟨m, v', n + 1, M', Z', A', ca', B', cb', ⟨sq.bk.frm f9' (fun k q e => nM (e ▸ q)), sq.rw.frm f9' (fun k q e => nZ (e ▸ q)), sq.ra.frm f9' (fun k q e => nZ (e ▸ q)), sq.dz, fun k q => Nat.lt_of_lt_of_le (sq.ml k q) f9.size, fun k q => Nat.lt_of_lt_of_le (sq.zl k q) f9.size⟩, rfl, h3.step d0 d1 d2, by omega, h9', nM, ⟨nZ, fun k q => (hZ k q).elim (h7.2 k) (fun r => by have := h10.size; omega)⟩, fun k q => (hM k q).elim (h8 k) (fun r => by have := h10.size; omega), h9, frm_old hold (fun k (q : k = g) => by omega) f9'⟩
theorem Pl.below {w0 w w' : World} {p g i : Nat} {b : RB} {cs : List Value} (h : Pl w0 p g i b cs w) (hb : Below w.heap.size w w') : Pl w0 p g i b cs w' := by
  obtain ⟨m, v, n, M, Z, A, ca, B, cb, h1, h2, h3, h4, h5, h6, h7, h8, h9, h10⟩ := h
  exact ⟨m, v, n, M, Z, A, ca, B, cb, ⟨h1.bk.below hb, h1.rw.below hb, h1.ra.below hb, h1.dz, fun k q => Nat.lt_of_lt_of_le (h1.ml k q) hb.size, fun k q => Nat.lt_of_lt_of_le (h1.zl k q) hb.size⟩, h2, h3, h4, blk_below h5 hb, h6, h7, h8, h9, below_then h10 h10.size hb⟩
theorem Pl.start {w0 w w6 : World} {p m : Nat} {s : Int} (hs : 1 ≤ s ∧ s ≤ 64) (hbk : Bk (fun k => w0.heap.size ≤ k ∧ k < w.heap.size) w p m (.slice none 0 0) { zb with s := s } 0) (hB : Below w0.heap.size w0 w) (h6 : w6.heap[w.heap.size]? = some (objB (cellsB { zb with s := s } none 0 none 0))) (f6 : Fr [w.heap.size] (w.alloc (objB (cellsB zb none 0 none 0))) w6) : Pl w0 p w.heap.size 0 { zb with s := s } (cellsB { zb with s := s } none 0 none 0) w6 := by
  have hb6 : Below w.heap.size w w6 := bel_fr (below_alloc (Below.refl _ _) _) f6 (Nat.le_refl _)
  exact ⟨m, _, 0, _, (fun _ => False), none, 0, none, 0, ⟨hbk.below hb6, RI.nil _ _, RI.nil _ _, fun _ q => q.elim, fun k q => Nat.lt_of_lt_of_le q.2 hb6.size, fun _ q => q.elim⟩, rfl, Ok.start hs, Nat.le_refl _, h6, fun q => by omega, ⟨id, fun _ q => q.elim⟩, fun k q => q.1, hB.size, below_then hB hB.size hb6⟩
theorem cell_b {w W : World} (hb : Below w.heap.size w W) {a : Addr} {v : Value} (h : w.cell? a = some v) : W.cell? a = some v := cell_bel hb h
end Go.Proofs.Ytlpganbcnhiidaa.Ep
end
section
namespace Go.Proofs.Ytlpganbcnhiidaa.Ep
open Go Go.RowKit Go.Maps Go.Proofs.YtlpganbcnhiidaaW.PrintWords Go.Proofs.YtlpganbcnhiidaaW.PrintLast Go.Proofs.YtlpganbcnhiidaaW.PrintMore Go.Proofs.Ytlpganbcnhiidaa.Own Go.Proofs.Ytlpganbcnhiidaa.Ord Go.Proofs.Ytlpganbcnhiidaa.P
set_option maxHeartbeats 2000000
set_option maxRecDepth 100000
theorem resT {fn : Func} {p u v : Tmp} (h : fn.results = #[.tmp u, .cell p 32, .tmp v]) (tmps : Array Value) {w : World} {g : Nat} {cs : List Value} (hp : tmps.getD p undef = .pointer (some ⟨g, 0, none⟩)) (hg : w.heap[g]? = some (objB cs)) (hl : cs.length = 134) :
    (results fn tmps).run Try.prog w = .ok (.tuple #[tmps.getD u undef, .agg cs.toArray, tmps.getD v undef]) w := by
  have hp' : tmps[p]?.getD undef = .pointer (some ⟨g, 0, none⟩) := by simpa using hp
  simp [results, h, hp', asAddr, run_loadVar_row w g 32 32 cs.toArray (0, 0) _ hg Try.underlying32 rfl (by rw [infoB, List.size_toArray, hl])]
def Pf (w0 : World) (p : Nat) (i : Nat) (b : RB) (cs : List Value) (w : World) : Prop := ∃ m v n M Z A ca B cb, Sq w p m v b n M Z A ca B cb ∧ cs = cellsB b A ca B cb ∧ Ok b i ∧ n ≤ i ∧ (∀ k, M k → w0.heap.size ≤ k) ∧ (∀ k, Z k → w0.heap.size ≤ k) ∧ Below w0.heap.size w0 w
theorem Pl.pf {w0 wa w w9 : World} {p g i N : Nat} {b : RB} {cs : List Value} (h : Pl wa p g i b cs w) (ha : Below w0.heap.size w0 wa) (h0 : w0.heap.size < wa.heap.size) (hN : i ≤ N) (f : Fr [w0.heap.size] w.drew w9) : Pf w0 p N b cs w9 := by
  obtain ⟨m, v, n, M, Z, A, ca, B, cb, h1, rfl, h3, h4, h5, h6, h7, h8, h9, h10⟩ := h
  have f0 : It.FrM (fun k => k = w0.heap.size) w w9 := by
    have := frm_of f
    exact ⟨this.os, this.tape, this.output, this.size, this.block⟩
  have nM : ∀ k, M k → ¬ k = w0.heap.size := fun k q e => by have := h8 k q; omega
  have nZ : ∀ k, Z k → ¬ k = w0.heap.size := fun k q e => by have := h7.2 k q; omega
  have hB : Below w0.heap.size w0 w := ⟨h10.os.trans ha.os, h10.tape.trans ha.tape, h10.output.trans ha.output, Nat.le_trans ha.size h10.size, fun k hk => (h10.block k (by omega)).trans (ha.block k hk)⟩
  exact ⟨m, v, n, M, Z, A, ca, B, cb, ⟨h1.bk.frm f0 nM, h1.rw.frm f0 nZ, h1.ra.frm f0 nZ, h1.dz, fun k q => Nat.lt_of_lt_of_le (h1.ml k q) f0.size, fun k q => Nat.lt_of_lt_of_le (h1.zl k q) f0.size⟩, rfl, h3.wide hN, by omega, fun k q => by have := h8 k q; omega, fun k q => by have := h7.2 k q; omega, frm_old hB (fun k (q : k = w0.heap.size) => by omega) f0⟩
theorem played_any (H : RB → Prop) {w : World} {A : Option Addr} {cap : Nat} {l : List Dd} (H0 : H { zb with s := 4 }) (HS : ∀ i (d : Dd) b, i < 60 → l[i]? = some d → H b → H (stepR b d.f0 d.f1 d.f2)) (hC : Kd.C P.k36 w A l.length l) (hwf : ∀ d ∈ l, (Lit.int .i64 d.f1).wf = true) :
    Calls Try.prog 11 #[.slice A l.length cap] w fun e w' => ∃ p b cs, e = .returned (.tuple #[.pointer (some ⟨p, 0, none⟩), .agg cs.toArray, .bool true]) ∧ cs.length = 134 ∧ (∀ v ∈ cs, v.oneCell' = true) ∧ Pf w p 60 b cs w' ∧ H b := by
  have hud := Try.underlying36
  have hBa := below_alloc (Below.refl w.heap.size w) (objB (cellsB zb none 0 none 0))
  have hga := blk_new w (objB (cellsB zb none 0 none 0))
  have hsa : w.heap.size < (w.alloc (objB (cellsB zb none 0 none 0))).heap.size := by rw [World.size_alloc]; omega
  have NW := (new_any (w.alloc (objB (cellsB zb none 0 none 0))) 4 ⟨by omega, by omega⟩).mono (R' := fun e w' => ∃ p m, e = .returned (.tuple #[.pointer (some ⟨p, 0, none⟩), .int .i64 0]) ∧ Aside0 (Bk (fun k => (w.alloc (objB (cellsB zb none 0 none 0))).heap.size ≤ k ∧ k < w'.heap.size) w' p m (.slice none 0 0) { zb with s := 4 } 0 ∧ Below (w.alloc (objB (cellsB zb none 0 none 0))).heap.size (w.alloc (objB (cellsB zb none 0 none 0))) w')) (fun e w' ⟨p, m, q, r⟩ => ⟨p, m, q, ⟨r⟩⟩)
  generalize hwa : w.alloc (objB (cellsB zb none 0 none 0)) = wa at hBa hga hsa NW
  have hA0 := Aside0.mk (And.intro hC (And.intro hwf (And.intro hBa (And.intro hga (And.intro hsa (And.intro H0 HS))))))
  clear hC hwf hBa hga hsa H0 HS
  have mk : True := trivial
  go_enter Try.func11, Try.ntmps11
  go_wp2_with (first
    | (go_at_call 7; refine NW.mono ?_; clear NW; rintro e w1 ⟨p, m, rfl, hN⟩; have h7 := blk_new w1 (objB (cellsB zb none 0 none 0)))
    | (refine buildB rfl _ rfl 4 rfl ?_)
    | (clear mk; refine allocB rfl rfl ?_; rw [hwa]; clear hwa)
    | (refine allocB rfl rfl ?_)
    | (refine storeB rfl _ _ rfl _ rfl _ _ rfl (by assumption) (cellsB_len _ _ _ _ _) (cellsB_len _ _ _ _ _) (cellsB_one _ _ _ _ _) ?_; rintro w6 h8 hF6))
  have hP : Aside0 (Pl wa p w1.heap.size 0 { zb with s := 4 } (cellsB { zb with s := 4 } none 0 none 0) w6) := ⟨Pl.start ⟨by omega, by omega⟩ hN.out.1 hN.out.2 h8 hF6⟩
  clear h7 h8 hF6
  go_loopg [8] 60 (fun g iv wr => ∃ (i : Int) (b : RB) (cs : List Value), iv = .int .i64 i ∧ Aside0 (0 ≤ i ∧ i.toNat + g = 60) ∧ Aside0 (Pl wa p w1.heap.size i.toNat b cs wr) ∧ Aside0 (H b))
  case atStart => exact ⟨0, _, _, rfl, ⟨Int.le_refl _, rfl⟩, hP, ⟨hA0.out.2.2.2.2.2.1⟩⟩
  case round =>
    clear hP hN
    obtain ⟨i, b, cs, rfl, hiA, hP, hH⟩ := hrel
    obtain ⟨hi0, hig⟩ := hiA.out
    by_cases hA : i < l.length ∧ i < 60
    · obtain ⟨hA, hB6⟩ := hA
      cases gk with
      | zero => omega
      | succ g =>
        obtain ⟨ad, rfl, q0, q1, q2⟩ := at_T36 hA0.out.1 i hi0 hA
        have hrd : l[i.toNat]? = some (rd_T36 l i) := by
          unfold rd_T36
          rw [List.getD_eq_getElem?_getD, List.getElem?_eq_getElem (by omega)]
          rfl
        have hmem : rd_T36 l i ∈ l := List.mem_of_getElem? hrd
        have hwd := hA0.out.2.1 _ hmem
        have hHn := Aside0.mk (hA0.out.2.2.2.2.2.2 i.toNat _ b (by omega) hrd hH.out)
        generalize rd_T36 l i = d at q0 q1 q2 hwd hHn
        clear hmem hrd hH
        obtain ⟨hl, h1, hg, hold⟩ := hP.out.len
        have d0 := decide_eq_true hi0
        have d1 := decide_eq_true hA
        have d2 := decide_eq_true hB6
        have p0 := eq_true hi0
        have p1 := eq_true hA
        have hwi : wrap64 (i + 1) = i + 1 := IntWalk.wrap64_in _ (by omega)
        have hlb : (ad.add (i.toNat * 3)).block < wa.heap.size := Nat.lt_of_lt_of_le (World.block_lt_of_cell? w _ q0) hA0.out.2.2.1.size
        replace q0 := cell_b hA0.out.2.2.1 q0
        replace q1 := cell_b hA0.out.2.2.1 q1
        replace q2 := cell_b hA0.out.2.2.1 q2
        have o0 := q0
        have o1 := q1
        have o2 := q2
        replace q0 := cell_b hold q0
        replace q1 := cell_b hold q1
        replace q2 := cell_b hold q2
        have hPd := hP.out.below (below_drew1 (Below.refl _ _))
        have hgd : wr.drew.heap[w1.heap.size]? = some (objB cs) := hg
        have hpg : wa.heap.size ≤ w1.heap.size := hP.out.base
        have hbk : (ad.add (i.toNat * 3)).block ≠ w1.heap.size := by omega
        have SP := (hPd.step (by omega) d.f0 d.f1 d.f2 hwd).mono (R' := fun e w2 => ∃ cs', e = .returned (.tuple #[.agg cs'.toArray, .bool true]) ∧ (w2.cell? (ad.add (i.toNat * 3)) = some (.int .i64 d.f0) ∧ w2.cell? ⟨(ad.add (i.toNat * 3)).block, (ad.add (i.toNat * 3)).off + 1, none⟩ = some (.int .i64 d.f1) ∧ w2.cell? ⟨(ad.add (i.toNat * 3)).block, (ad.add (i.toNat * 3)).off + 2, none⟩ = some (.int .i64 d.f2)) ∧ Aside0 (Pm wa p w1.heap.size i.toNat (stepR b d.f0 d.f1 d.f2) cs cs' w2)) (by
          rintro e w2 ⟨cs', rfl, hB2, r⟩
          exact ⟨cs', rfl, ⟨cell_b hB2 o0, cell_b hB2 o1, cell_b hB2 o2⟩, ⟨r⟩⟩)
        clear hi0 hig hA hB6 hwd hold hP hPd h1 hg o0 o1 o2
        go_wp2
        refine wp_region_held_drew (S := (fun w' => w'.cell? (ad.add (i.toNat * 3)) = some (.int .i64 d.f0) ∧ w'.cell? ⟨(ad.add (i.toNat * 3)).block, (ad.add (i.toNat * 3)).off + 1, none⟩ = some (.int .i64 d.f1) ∧ w'.cell? ⟨(ad.add (i.toNat * 3)).block, (ad.add (i.toNat * 3)).off + 2, none⟩ = some (.int .i64 d.f2))) (by kernel_rfl) ⟨q0, q1, q2⟩ (fun hHeld => ?_)
        refine wpAnyH_take (i := 0) (oi := ⟨some 33, _, _, _, _, _⟩) (v := ?_) rfl (by kernel_rfl) (by kernel_rfl) (by kernel_rfl) (fun _ _ _ h => h) (Or.inl ⟨by rfl, ?_⟩) (by assumption) ?_
        rotate_left
        · intro w hSw
          (try dsimp only at hSw)
          go_simp
          (try with_reducible rfl)
        (try simp only [Act.put, List.setIfInBounds_toArray, List.set_cons_zero, List.set_cons_succ])
        refine wpAnyH_take (i := 2) (oi := ⟨some 35, _, _, _, _, _⟩) (v := ?_) rfl (by kernel_rfl) (by kernel_rfl) (by kernel_rfl) (fun _ _ _ h => h) (Or.inl ⟨by rfl, ?_⟩) (by assumption) ?_
        rotate_left
        · intro w hSw
          (try dsimp only at hSw)
          go_simp
          (try with_reducible rfl)
        (try simp only [Act.put, List.setIfInBounds_toArray, List.set_cons_zero, List.set_cons_succ])
        refine wpAnyH_take (i := 3) (oi := ⟨some 36, _, _, _, _, _⟩) (v := ?_) rfl (by kernel_rfl) (by kernel_rfl) (by kernel_rfl) (fun _ _ _ h => h) (Or.inl ⟨by rfl, ?_⟩) (by assumption) ?_
        rotate_left
        · intro w hSw
          (try dsimp only at hSw)
          go_simp
          (try with_reducible rfl)
        (try simp only [Act.put, List.setIfInBounds_toArray, List.set_cons_zero, List.set_cons_succ])
        refine wpAnyH_take (i := 4) (oi := ⟨some 37, _, _, _, _, _⟩) (v := ?_) rfl (by kernel_rfl) (by kernel_rfl) (by kernel_rfl) (fun _ _ _ h => h) (Or.inl ⟨by rfl, ?_⟩) (by assumption) ?_
        rotate_left
        · intro w hSw
          (try dsimp only at hSw)
          go_simp
          (try with_reducible rfl)
        (try simp only [Act.put, List.setIfInBounds_toArray, List.set_cons_zero, List.set_cons_succ])
        refine wpAnyH_take (i := 5) (oi := ⟨some 38, _, _, _, _, _⟩) (v := ?_) rfl (by kernel_rfl) (by kernel_rfl) (by kernel_rfl) (fun _ _ _ h => h) (Or.inl ⟨by rfl, ?_⟩) (by assumption) ?_
        rotate_left
        · intro w hSw
          (try dsimp only at hSw)
          go_simp
          (try with_reducible rfl)
        (try simp only [Act.put, List.setIfInBounds_toArray, List.set_cons_zero, List.set_cons_succ])
        refine wpAnyH_ready (rs := [1]) (by kernel_rfl) (by simp) (AllReadyH.cons (i := 1) (o := ⟨some 34, _, _, _, _, _⟩) rfl (fun K' hK' => ?_) AllReadyH.nil)
        rw [if_pos (by rfl)]
        refine wp_loadB (.tmp 7) rfl w1.heap.size rfl cs hgd hl ?_
        have hHo := hHeld
        clear hHeld
        refine hK'.out _ _ hHo (fun hHeld => ?_)
        clear hK' K'
        (try simp only [Act.put, List.setIfInBounds_toArray, List.set_cons_zero, List.set_cons_succ])
        refine wpAnyH_ready (rs := [6]) (by kernel_rfl) (by simp) (AllReadyH.cons (i := 6) (o := ⟨some 39, _, _, _, _, _⟩) rfl (fun K' hK' => ?_) AllReadyH.nil)
        rw [if_pos (by rfl)]
        go_simp
        go_at_call 9
        refine SP.mono ?_
        clear SP
        rintro e_ w3 ⟨cs', rfl, hS3, hM⟩
        clear hHeld
        refine hK'.out _ _ hS3 (fun hHeld => ?_)
        clear hK' K'
        (try simp only [Act.put, List.setIfInBounds_toArray, List.set_cons_zero, List.set_cons_succ])
        refine wpAnyH_take (i := 7) (oi := ⟨some 32, _, _, _, _, _⟩) (v := ?_) rfl (by kernel_rfl) (by kernel_rfl) (by kernel_rfl) (fun _ _ _ h => h) (Or.inl ⟨by rfl, ?_⟩) (by assumption) ?_
        rotate_left
        · intro w hSw
          (try dsimp only at hSw)
          go_simp
          (try with_reducible rfl)
        (try simp only [Act.put, List.setIfInBounds_toArray, List.set_cons_zero, List.set_cons_succ])
        refine wpAnyH_take (i := 8) (oi := ⟨some 40, _, _, _, _, _⟩) (v := ?_) rfl (by kernel_rfl) (by kernel_rfl) (by kernel_rfl) (fun _ _ _ h => h) (Or.inl ⟨by rfl, ?_⟩) (by assumption) ?_
        rotate_left
        · intro w hSw
          (try dsimp only at hSw)
          go_simp
          (try with_reducible rfl)
        (try simp only [Act.put, List.setIfInBounds_toArray, List.set_cons_zero, List.set_cons_succ])
        refine wpAnyH_take (i := 9) (oi := ⟨some 41, _, _, _, _, _⟩) (v := ?_) rfl (by kernel_rfl) (by kernel_rfl) (by kernel_rfl) (fun _ _ _ h => h) (Or.inl ⟨by rfl, ?_⟩) (by assumption) ?_
        rotate_left
        · intro w hSw
          (try dsimp only at hSw)
          go_simp
          (try with_reducible rfl)
        (try simp only [Act.put, List.setIfInBounds_toArray, List.set_cons_zero, List.set_cons_succ])
        refine wpAnyH_ready (rs := [10]) (by kernel_rfl) (by simp) (AllReadyH.cons (i := 10) (o := ⟨none, _, _, _, _, _⟩) rfl (fun K' hK' => ?_) AllReadyH.nil)
        rw [if_pos (by rfl)]
        refine wp_storeB (.tmp 7) (.tmp 40) rfl w1.heap.size rfl cs' cs rfl hM.out.2.2.2.1 hM.out.2.2.1 hM.out.1 hM.out.2.1 ?_
        intro w9 h9 f9
        have hHo := hHeld
        clear hHeld
        refine hK'.out _ _ ⟨fr_cell f9 hHo.1 hbk, fr_cell f9 hHo.2.1 hbk, fr_cell f9 hHo.2.2 hbk⟩ (fun hHeld => ?_)
        clear hK' K'
        (try simp only [Act.put, List.setIfInBounds_toArray, List.set_cons_zero, List.set_cons_succ])
        refine wpAnyH_done (by kernel_rfl) ?_ _
        have hPl : Aside0 (Pl wa p w1.heap.size (i.toNat + 1) (stepR b d.f0 d.f1 d.f2) cs' w9) := ⟨hM.out.2.2.2.2 w9 h9 f9⟩
        clear hM f9 hHo hbk hgd h9
        go_wp2
        go_roundg g
        case measure => omega
        case rel => exact ⟨i + 1, _, _, by first | rfl | rw [hwi], ⟨by have := hiA.out; omega, by have := hiA.out; omega⟩, ⟨by rw [show (i + 1).toNat = i.toNat + 1 by have := hiA.out; omega]; exact hPl.out⟩, hHn⟩
    · have hor : decide (i < (l.length : Int)) = false ∨ (decide (i < (l.length : Int)) = true ∧ decide (i < 60) = false) := by
        by_cases hA2 : i < (l.length : Int)
        · exact .inr ⟨decide_eq_true hA2, decide_eq_false (fun q => hA ⟨hA2, q⟩)⟩
        · exact .inl (decide_eq_false hA2)
      obtain ⟨hl, h1, hg, hold⟩ := hP.out.len
      have hgd : wr.drew.heap[w1.heap.size]? = some (objB cs) := hg
      have hg0 : wr.drew.heap[w.heap.size]? = some (objB (cellsB zb none 0 none 0)) := (blk_below hA0.out.2.2.2.1 hold : wr.heap[w.heap.size]? = some (objB (cellsB zb none 0 none 0)))
      have hi60 := Aside0.mk (show i.toNat ≤ 60 by omega)
      clear hA hi0 hig hiA hg
      rcases hor with d1 | ⟨d1, d2⟩ <;> (
      go_wp2
      refine wp_region_held_drew (S := (fun _ => True)) (by kernel_rfl) trivial (fun hHeld => ?_)
      refine wpAnyH_take (i := 0) (oi := ⟨some 42, _, _, _, _, _⟩) (v := ?_) rfl (by kernel_rfl) (by kernel_rfl) (by kernel_rfl) (fun _ _ _ h => h) (Or.inl ⟨by rfl, ?_⟩) (by assumption) ?_
      rotate_left
      · intro w hSw
        (try dsimp only at hSw)
        go_simp
        (try with_reducible rfl)
      (try simp only [Act.put, List.setIfInBounds_toArray, List.set_cons_zero, List.set_cons_succ])
      refine wpAnyH_take (i := 2) (oi := ⟨some 2, _, _, _, _, _⟩) (v := ?_) rfl (by kernel_rfl) (by kernel_rfl) (by kernel_rfl) (fun _ _ _ h => h) (Or.inl ⟨by rfl, ?_⟩) (by assumption) ?_
      rotate_left
      · intro w hSw
        (try dsimp only at hSw)
        go_simp
        (try with_reducible rfl)
      (try simp only [Act.put, List.setIfInBounds_toArray, List.set_cons_zero, List.set_cons_succ])
      refine wpAnyH_ready (rs := [1]) (by kernel_rfl) (by simp) (AllReadyH.cons (i := 1) (o := ⟨some 43, _, _, _, _, _⟩) rfl (fun K' hK' => ?_) AllReadyH.nil)
      rw [if_pos (by rfl)]
      refine wp_loadB (.tmp 7) rfl w1.heap.size rfl cs hgd hl ?_
      have hHo := hHeld
      clear hHeld
      refine hK'.out _ _ hHo (fun hHeld => ?_)
      clear hK' K'
      (try simp only [Act.put, List.setIfInBounds_toArray, List.set_cons_zero, List.set_cons_succ])
      refine wpAnyH_ready (rs := [3]) (by kernel_rfl) (by simp) (AllReadyH.cons (i := 3) (o := ⟨none, _, _, _, _, _⟩) rfl (fun K' hK' => ?_) AllReadyH.nil)
      rw [if_pos (by rfl)]
      refine wp_storeB (.tmp 3) (.tmp 43) rfl w.heap.size rfl cs (cellsB zb none 0 none 0) rfl hg0 (cellsB_len _ _ _ _ _) hl h1 ?_
      intro w9 h9 f9
      have hHo := hHeld
      clear hHeld
      refine hK'.out _ _ trivial (fun hHeld => ?_)
      clear hK' K'
      (try simp only [Act.put, List.setIfInBounds_toArray, List.set_cons_zero, List.set_cons_succ])
      refine wpAnyH_take (i := 4) (oi := ⟨some 4, _, _, _, _, _⟩) (v := ?_) rfl (by kernel_rfl) (by kernel_rfl) (by kernel_rfl) (fun _ _ _ h => h) (Or.inl ⟨by rfl, ?_⟩) (by assumption) ?_
      rotate_left
      · intro w hSw
        (try dsimp only at hSw)
        go_simp
        (try with_reducible rfl)
      (try simp only [Act.put, List.setIfInBounds_toArray, List.set_cons_zero, List.set_cons_succ])
      refine wpAnyH_done (by kernel_rfl) ?_ _
      go_wp2
      refine bodyPost_ret (resT rfl _ rfl h9 hl) rfl ?_
      refine ⟨p, b, cs, rfl, hl, h1, ?_, hH.out⟩
      exact hP.out.pf hA0.out.2.2.1 hA0.out.2.2.2.2.1 hi60.out f9)
end Go.Proofs.Ytlpganbcnhiidaa.Ep
end
section
namespace Go.Proofs.Ytlpganbcnhiidaa.Ep
open Go Go.RowKit Go.Maps Go.Proofs.YtlpganbcnhiidaaW.PrintWords Go.Proofs.YtlpganbcnhiidaaW.PrintLast Go.Proofs.YtlpganbcnhiidaaW.PrintMore Go.Proofs.Ytlpganbcnhiidaa.Own Go.Proofs.Ytlpganbcnhiidaa.Ord Go.Proofs.Ytlpganbcnhiidaa.P
set_option maxHeartbeats 2000000
set_option maxRecDepth 100000
theorem stepR_s (b : RB) (d0 d1 d2 : Int) : (stepR b d0 d1 d2).s = b.s := by
  unfold stepR enterR leaveR retireR readyR
  repeat' split
  all_goals rfl
theorem inF_in {b : RB} {i : Int} (h1 : 1 ≤ i) (h2 : i ≤ b.s) : (inF b i).isSome = b.I i.toNat := by
  unfold inF
  by_cases q : b.I i.toNat = true
  · rw [if_pos ⟨h1, h2, q⟩, q]
    rfl
  · rw [if_neg (fun x => q x.2.2), Bool.eq_false_iff.2 q]
    rfl
theorem Bs.narrow {w0 w : World} {p n : Nat} {b : RB} (h : Bs w0 w p b n) : ∃ M m v, Bk M w p m v b n ∧ (∀ k, M k → w0.heap.size ≤ k ∧ k < w.heap.size) ∧ Below w0.heap.size w0 w := by
  obtain ⟨M, m, v, h1, h2, h3⟩ := h
  exact ⟨fun k => M k ∧ k < w.heap.size, m, v, ⟨h1.blk, h1.map, h1.row, ⟨h1.mp, h1.lt.1⟩, ⟨h1.mm, h1.lt.2⟩, fun k hk => ⟨h1.mv k hk, h1.row.lt k hk⟩⟩, fun k q => ⟨h2 k q.1, q.2⟩, h3⟩
theorem Pf.bs {w0 w : World} {p i : Nat} {b : RB} {cs : List Value} (h : Pf w0 p i b cs w) : ∃ n, Bs w0 w p b n ∧ n ≤ i ∧ Ok b i := by
  obtain ⟨m, v, n, M, Z, A, ca, B, cb, h1, rfl, h3, h4, h5, h6, h7⟩ := h
  exact ⟨n, ⟨M, m, v, h1.bk, h5, h7⟩, h4, h3⟩
end Go.Proofs.Ytlpganbcnhiidaa.Ep
end
section
namespace Go.Proofs.Ytlpganbcnhiidaa.Ep
open Go Go.RowKit Go.Maps Go.Proofs.YtlpganbcnhiidaaW.PrintWords Go.Proofs.YtlpganbcnhiidaaW.PrintLast Go.Proofs.YtlpganbcnhiidaaW.PrintMore Go.Proofs.Ytlpganbcnhiidaa.Own Go.Proofs.Ytlpganbcnhiidaa.Ord Go.Proofs.Ytlpganbcnhiidaa.P
set_option maxHeartbeats 2000000
set_option maxRecDepth 100000
structure Px (w0 w : World) (p g i m n : Nat) (v : Value) (b' b : RB) (cs : List Value) (M Z : Nat → Prop) (A : Option Addr) (ca : Nat) (B : Option Addr) (cb : Nat) : Prop where
  bk : Bk M w p m v b' n
  rw : RI Z w A ca b.ws
  ra : RI Z w B cb b.ats
  z : ∀ k, Z k → ¬ M k ∧ k < w.heap.size ∧ w0.heap.size ≤ k ∧ k ≠ g
  mm : ∀ k, M k → k < w.heap.size ∧ w0.heap.size ≤ k ∧ k ≠ g
  ec : cs = cellsB b A ca B cb
  ok' : Ok b' i
  ok : Ok b i
  en : n ≤ i
  box : w.heap[g]? = some (objB cs)
  eg : w0.heap.size ≤ g
  old : Below w0.heap.size w0 w
def Ph (w0 : World) (p g i : Nat) (b' b : RB) (cs : List Value) (w : World) : Prop := ∃ m n v M Z A ca B cb, Px w0 w p g i m n v b' b cs M Z A ca B cb
theorem Ph.pl {w0 w : World} {p g i : Nat} {b : RB} {cs : List Value} (h : Ph w0 p g i b b cs w) : Pl w0 p g i b cs w := by
  obtain ⟨m, n, v, M, Z, A, ca, B, cb, h⟩ := h
  exact ⟨m, v, n, M, Z, A, ca, B, cb, ⟨h.bk, h.rw, h.ra, fun k q => (h.z k q).1, fun k q => (h.mm k q).1, fun k q => (h.z k q).2.1⟩, h.ec, h.ok, h.en, h.box, fun q => (h.mm g q).2.2 rfl, ⟨fun q => (h.z g q).2.2.2 rfl, fun k q => (h.z k q).2.2.1⟩, fun k q => (h.mm k q).2.1, h.eg, h.old⟩
theorem Pl.ok {w0 w : World} {p g i : Nat} {b : RB} {cs : List Value} (h : Pl w0 p g i b cs w) : Ok b i := by
  obtain ⟨m, v, n, M, Z, A, ca, B, cb, h1, h2, h3, h4, h5, h6, h7, h8, h9, h10⟩ := h
  exact h3
theorem Pl.ph {w0 w : World} {p g i : Nat} {b : RB} {cs : List Value} (h : Pl w0 p g i b cs w) : Ph w0 p g i b b cs w := by
  obtain ⟨m, v, n, M, Z, A, ca, B, cb, h1, h2, h3, h4, h5, h6, h7, h8, h9, h10⟩ := h
  exact ⟨m, n, v, M, Z, A, ca, B, cb, ⟨h1.bk, h1.rw, h1.ra, fun k q => ⟨h1.dz k q, h1.zl k q, h7.2 k q, fun e => h7.1 (e ▸ q)⟩, fun k q => ⟨h1.ml k q, h8 k q, fun e => h6 (e ▸ q)⟩, h2, h3, h3, h4, h5, h9, h10⟩⟩
theorem Ph.len {w0 w : World} {p g i : Nat} {b' b : RB} {cs : List Value} (h : Ph w0 p g i b' b cs w) : (cs.length = 134 ∧ ∀ v ∈ cs, v.oneCell' = true) ∧ w.heap[g]? = some (objB cs) ∧ Below w0.heap.size w0 w := by
  obtain ⟨m, n, v, M, Z, A, ca, B, cb, h⟩ := h
  have := h.ec
  subst this
  exact ⟨⟨cellsB_len _ _ _ _ _, cellsB_one _ _ _ _ _⟩, h.box, h.old⟩
theorem Ph.below {w0 w w' : World} {p g i : Nat} {b' b : RB} {cs : List Value} (h : Ph w0 p g i b' b cs w) (hb : Below w.heap.size w w') : Ph w0 p g i b' b cs w' := by
  obtain ⟨m, n, v, M, Z, A, ca, B, cb, h⟩ := h
  have s := hb.size
  exact ⟨m, n, v, M, Z, A, ca, B, cb, ⟨h.bk.below hb, h.rw.below hb, h.ra.below hb, fun k q => by have := h.z k q; exact ⟨this.1, by omega, this.2.2⟩, fun k q => by have := h.mm k q; exact ⟨by omega, this.2⟩, h.ec, h.ok', h.ok, h.en, blk_below h.box hb, h.eg, below_then h.old h.old.size hb⟩⟩
theorem Ph.wide {w0 w : World} {p g i j : Nat} {b' b : RB} {cs : List Value} (h : Ph w0 p g i b' b cs w) (hj : i ≤ j) : Ph w0 p g j b' b cs w := by
  obtain ⟨m, n, v, M, Z, A, ca, B, cb, h⟩ := h
  exact ⟨m, n, v, M, Z, A, ca, B, cb, ⟨h.bk, h.rw, h.ra, h.z, h.mm, h.ec, h.ok'.wide hj, h.ok.wide hj, by have := h.en; omega, h.box, h.eg, h.old⟩⟩
theorem Px.put {w0 w w9 : World} {p g i m n : Nat} {v : Value} {b' b : RB} {cs : List Value} {M Z : Nat → Prop} {A : Option Addr} {ca : Nat} {B : Option Addr} {cb : Nat} (h1 : Bk M w p m v b' n) (h2 : RI Z w A ca b.ws) (h3 : RI Z w B cb b.ats) (h4 : ∀ k, Z k → ¬ M k ∧ k < w.heap.size ∧ w0.heap.size ≤ k ∧ k ≠ g) (h5 : ∀ k, M k → k < w.heap.size ∧ w0.heap.size ≤ k ∧ k ≠ g) (h6 : cs = cellsB b A ca B cb) (h7 : Ok b' i) (h8 : Ok b i) (h9 : n ≤ i) (hg : w0.heap.size ≤ g) (ho : Below w0.heap.size w0 w) (hb : w9.heap[g]? = some (objB cs)) (f : Fr [g] w w9) : Px w0 w9 p g i m n v b' b cs M Z A ca B cb := by
  have f' := frm_of f
  have s := f'.size
  exact ⟨h1.frm f' (fun k q e => (h5 k q).2.2 e), h2.frm f' (fun k q e => (h4 k q).2.2.2 e), h3.frm f' (fun k q e => (h4 k q).2.2.2 e), fun k q => by have := h4 k q; exact ⟨this.1, by omega, this.2.2⟩, fun k q => by have := h5 k q; exact ⟨by omega, this.2⟩, h6, h7, h8, h9, hb, hg, frm_old ho (fun k (q : k = g) => by omega) f'⟩
theorem Pf.ph {w w1 w6 : World} {p i : Nat} {b : RB} {cs : List Value} (h : Pf w p i b cs w1) (h8 : w6.heap[w1.heap.size]? = some (objB cs)) (f : Fr [w1.heap.size] (w1.alloc (objB (cellsB zb none 0 none 0))) w6) : Ph w p w1.heap.size i b b cs w6 := by
  obtain ⟨m, v, n, M, Z, A, ca, B, cb, h1, h2, h3, h4, h5, h6, h7⟩ := h
  have hb := below_alloc (Below.refl w1.heap.size w1) (objB (cellsB zb none 0 none 0))
  exact ⟨m, n, v, M, Z, A, ca, B, cb, Px.put (h1.bk.below hb) (h1.rw.below hb) (h1.ra.below hb) (fun k q => ⟨h1.dz k q, by have := h1.zl k q; have := hb.size; omega, h6 k q, by have := h1.zl k q; omega⟩) (fun k q => ⟨by have := h1.ml k q; have := hb.size; omega, h5 k q, by have := h1.ml k q; omega⟩) h2 h3 h3 h4 h7.size (below_then h7 h7.size hb) h8 f⟩
theorem Px.own {w0 w w1 : World} {p g i j m n n1 : Nat} {v v1 : Value} {b' b1 b : RB} {cs : List Value} {M M1 Z : Nat → Prop} {A : Option Addr} {ca : Nat} {B : Option Addr} {cb : Nat} (h : Px w0 w p g i m n v b' b cs M Z A ca B cb) (hk : Bk M1 w1 p m v1 b1 n1) (hM : ∀ k, M1 k → M k ∨ (w.heap.size ≤ k ∧ k < w1.heap.size)) (f : It.FrM M w w1) (ho : Ok b1 j) (hj : i ≤ j) (hn : n1 ≤ j) : Px w0 w1 p g j m n1 v1 b1 b cs M1 Z A ca B cb := by
  have s := f.size
  have hg := blk_lt h.box
  have so := h.old.size
  exact ⟨hk, h.rw.frm f (fun k q => (h.z k q).1), h.ra.frm f (fun k q => (h.z k q).1), fun k q => by have := h.z k q; exact ⟨fun r => (hM k r).elim this.1 (fun r => by omega), by omega, this.2.2⟩, fun k q => (hM k q).elim (fun r => by have := h.mm k r; exact ⟨by omega, this.2⟩) (fun r => ⟨r.2, by omega, by omega⟩), h.ec, ho, h.ok.wide hj, hn, f.blk h.box (fun q => (h.mm g q).2.2 rfl), h.eg, frm_old h.old (fun k q => (h.mm k q).2.1) f⟩
theorem Ph.enter {w0 w : World} {p g i : Nat} {b' b : RB} {cs : List Value} (h : Ph w0 p g i b' b cs w) (hi : i < 1000) (who : Int) (hk : (Lit.int .i64 who).wf = true) : Calls Try.prog 12 #[.pointer (some ⟨p, 0, none⟩), .int .i64 who] w fun e w' => e = .returned (.int .i64 (askR b' who false)) ∧ Ph w0 p g (i + 1) (enterR b' who) b cs w' := by
  obtain ⟨m, n, v, M, Z, A, ca, B, cb, h⟩ := h
  refine (enter_any h.bk (by have := h.en; omega) who hk).mono ?_
  rintro e w' ⟨rfl, hb, f⟩
  exact ⟨rfl, m, _, v, _, Z, A, ca, B, cb, h.own hb (fun k q => .inl q) f ((h.ok'.enter who).wide (by omega)) (by omega) (by have := h.en; omega)⟩
theorem Ph.retire {w0 w : World} {p g i : Nat} {b' b : RB} {cs : List Value} (h : Ph w0 p g i b' b cs w) (hi : i < 1000) (x : Int) : Calls Try.prog 14 #[.pointer (some ⟨p, 0, none⟩), .int .i64 x] w fun e w' => e = .returned (.int .i64 0) ∧ Ph w0 p g (i + 1) (retireR b' x) b cs w' := by
  obtain ⟨m, n, v, M, Z, A, ca, B, cb, h⟩ := h
  have := h.ok'.cnt
  have := h.ok'.now1
  refine (retire_any h.bk h.ok'.len (by omega) (by omega) h.ok'.now0 x).mono ?_
  rintro e w' ⟨v', rfl, hb, f⟩
  exact ⟨rfl, m, n, v', _, Z, A, ca, B, cb, h.own hb (fun k q => q) f (h.ok'.retire x) (by omega) (by have := h.en; omega)⟩
theorem Ph.ready {w0 w : World} {p g i : Nat} {b' b : RB} {cs : List Value} (h : Ph w0 p g i b' b cs w) (hi : i < 1000) : Calls Try.prog 16 #[.pointer (some ⟨p, 0, none⟩)] w fun e w' => ∃ C cc, e = .returned (.slice C (readyL b').length cc) ∧ OI w' w.heap.size (.slice C (readyL b').length cc) (readyL b') ∧ Ph w0 p g i (readyR b') b cs w' := by
  obtain ⟨m, n, v, M, Z, A, ca, B, cb, h⟩ := h
  refine (ready_any h.bk h.ok' (by omega)).mono ?_
  rintro e w' ⟨v', C, cc, rfl, h5, hb, f⟩
  exact ⟨C, cc, rfl, h5, m, n, v', _, Z, A, ca, B, cb, h.own hb (fun k q => q.imp id (fun r => ⟨r.1, r.2.1⟩)) f h.ok'.ready (Nat.le_refl _) h.en⟩
theorem Ph.isin {w0 w : World} {p g i : Nat} {b' b : RB} {cs : List Value} (h : Ph w0 p g i b' b cs w) (who : Int) (hk : (Lit.int .i64 who).wf = true) : Calls Try.prog 19 #[.pointer (some ⟨p, 0, none⟩), .int .i64 who] w fun e w' => e = .returned (.bool (inF b' who).isSome) ∧ w' = w := by
  obtain ⟨m, n, v, M, Z, A, ca, B, cb, h⟩ := h
  exact in_any h.bk who hk
def Pq (w0 : World) (p g i : Nat) (b' b : RB) (cs cs' : List Value) (w : World) : Prop := (cs'.length = 134 ∧ ∀ v ∈ cs', v.oneCell' = true) ∧ w.heap[g]? = some (objB cs) ∧ ∀ w', w'.heap[g]? = some (objB cs') → Fr [g] w w' → Ph w0 p g i b' b cs' w'
theorem Px.pq {w0 w w1 : World} {p g i j m n : Nat} {v : Value} {b' b b1 : RB} {cs : List Value} {M Z Z1 : Nat → Prop} {A A1 B B1 : Option Addr} {ca cb ca1 cb1 : Nat} (h : Px w0 w p g i m n v b' b cs M Z A ca B cb) (hb : Below w.heap.size w w1) (hw : RI Z1 w1 A1 ca1 b1.ws) (ha : RI Z1 w1 B1 cb1 b1.ats) (hZ : ∀ k, Z1 k → Z k ∨ w.heap.size ≤ k) (ho : Ok b1 j) (hj : i ≤ j) : Pq w0 p g j b' b1 cs (cellsB b1 A1 ca1 B1 cb1) w1 := by
  have s := hb.size
  have hg := blk_lt h.box
  have so := h.old.size
  refine ⟨⟨cellsB_len _ _ _ _ _, cellsB_one _ _ _ _ _⟩, blk_below h.box hb, fun w' h1 f => ?_⟩
  refine ⟨m, n, v, M, (fun k => Z1 k ∧ k < w1.heap.size), A1, ca1, B1, cb1, Px.put (h.bk.below hb) (hw.narrow (fun k q l => ⟨q, l⟩)) (ha.narrow (fun k q l => ⟨q, l⟩)) (fun k q => ?_) (fun k q => ?_) rfl (h.ok'.wide hj) ho (by have := h.en; omega) h.eg (below_then h.old h.old.size hb) h1 f⟩
  · rcases hZ k q.1 with r | r
    · have := h.z k r
      exact ⟨this.1, q.2, this.2.2⟩
    · exact ⟨fun x => by have := h.mm k x; omega, q.2, by omega, by omega⟩
  · have := h.mm k q
    exact ⟨by omega, this.2⟩
theorem Ph.renter {w0 w : World} {p g i : Nat} {b' b : RB} {cs : List Value} (h : Ph w0 p g i b' b cs w) (who : Int) : Calls Try.prog 13 #[.agg cs.toArray, .int .i64 who] w fun e w' => ∃ (cs' : List Value) (k : Int), e = .returned (.tuple #[.agg cs'.toArray, .int .i64 k]) ∧ Pq w0 p g i b' (enterR b who) cs cs' w' := by
  obtain ⟨m, n, v, M, Z, A, ca, B, cb, h⟩ := h
  have hc := h.ec
  subst hc
  refine (enter_ref (w := w) b A ca B cb who h.ok.s2).mono ?_
  rintro e w' ⟨rfl, hb⟩
  have e1 : (enterR b who).ws = b.ws ∧ (enterR b who).ats = b.ats := by unfold enterR; split <;> exact ⟨rfl, rfl⟩
  exact ⟨_, _, rfl, h.pq (b1 := enterR b who) hb (e1.1 ▸ h.rw.below hb) (e1.2 ▸ h.ra.below hb) (fun k q => .inl q) (h.ok.enter who) (Nat.le_refl _)⟩
theorem Ph.rretire {w0 w : World} {p g i : Nat} {b' b : RB} {cs : List Value} (h : Ph w0 p g i b' b cs w) (hi : i < 1000) (x : Int) : Calls Try.prog 15 #[.agg cs.toArray, .int .i64 x] w fun e w' => ∃ (cs' : List Value), e = .returned (.agg cs'.toArray) ∧ Pq w0 p g (i + 1) b' (retireR b x) cs cs' w' := by
  obtain ⟨m, n, v, M, Z, A, ca, B, cb, h⟩ := h
  have hc := h.ec
  subst hc
  have := h.ok.cnt
  have := h.ok.now1
  have := h.ok.len
  refine (retire_ref (Z := fun k => Z k ∨ w.heap.size ≤ k) (w := w) (fun k q => .inr q) b A ca B cb (h.rw.narrow (fun k q _ => .inl q)) (h.ra.narrow (fun k q _ => .inl q)) (by omega) (by omega) x (by omega) h.ok.now0).mono ?_
  rintro e w' ⟨A', ca', B', cb', rfl, q1, q2, hb⟩
  exact ⟨_, rfl, h.pq (b1 := retireR b x) hb q1 q2 (fun k q => q) (h.ok.retire x) (by omega)⟩
theorem Ph.rready {w0 w : World} {p g i : Nat} {b' b : RB} {cs : List Value} (h : Ph w0 p g i b' b cs w) (hi : i < 1000) : Calls Try.prog 18 #[.agg cs.toArray] w fun e w' => ∃ (cs' : List Value) (C : Option Addr) (n cc : Nat), e = .returned (.tuple #[.agg cs'.toArray, .slice C n cc]) ∧ Pq w0 p g i b' (readyR b) cs cs' w' := by
  obtain ⟨m, n, v, M, Z, A, ca, B, cb, h⟩ := h
  have hc := h.ec
  subst hc
  have := h.ok.cnt
  refine (ready_ref (Z := fun k => Z k ∨ w.heap.size ≤ k) (w := w) (fun k q => .inr q) b A ca B cb (h.rw.narrow (fun k q _ => .inl q)) (h.ra.narrow (fun k q _ => .inl q)) (by omega) h.ok.len).mono ?_
  rintro e w' ⟨A', ca', B', cb', C, cc, rfl, q1, q2, q3, hb⟩
  exact ⟨_, C, _, cc, rfl, h.pq (b1 := readyR b) hb q1 q2 (fun k q => q) h.ok.ready (Nat.le_refl _)⟩
end Go.Proofs.Ytlpganbcnhiidaa.Ep
end
