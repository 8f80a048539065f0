/- Texts of one claim (laid by shake.py). -/
import Derived.Test.YtebejadiaooooaaZo14
import Derived.RangeFuncNested
import Derived.RangeFuncBound
import Derived.RangeFuncCalls
import Derived.RangeFuncLeaves
import Derived.RangeFuncKeeps
import Derived.Shelf.RegionOpen
import Derived.Sort.QuietIn
import Derived.Shelf.Abstract
import Derived.WalkKit
import Derived.OwnWalkIn
import Derived.TacticsInMore
import Derived.Maps.AppendAt
import Derived.Test.YtebejadiaooooaaZo13
set_option linter.unusedVariables false
set_option linter.unusedSimpArgs false
section
namespace Go.Proofs.Ytebejadiaooooaa.OrdSb
open Go.RowKit Go.Proofs.YtebejadiaooooaaW.PrintWords Go.Proofs.YtebejadiaooooaaW.PrintLast Go.Proofs.YtebejadiaooooaaW.PrintMore Go.Proofs.Ytebejadiaooooaa.Own Go.Proofs.Ytebejadiaooooaa.Ord
abbrev lt (a b : ByteArray) : Bool := Op.bytesLess a.toList b.toList
set_option maxHeartbeats 2000000
set_option maxRecDepth 100000
theorem nan_any (x : ByteArray) (w : World) : Calls Try.prog 134 #[.string x] w fun e w' => e = .returned (.bool false) ∧ w' = w := by
  go_enter Try.func134, Try.ntmps134
  go_wp2
  go_ret
  simp
theorem cmp_any (x y : ByteArray) (w : World) : Calls Try.prog 125 #[.string x, .string y] w fun e w' => e = .returned (.int .i64 (Kn.cmpK lt x y)) ∧ w' = w := by
  unfold Kn.cmpK
  by_cases h1 : lt x y = true
  · rw [if_pos h1]
    go_enter Try.func125, Try.ntmps125
    go_wp2_with (go_at_call 134; refine (nan_any _ _).mono ?_; rintro e w1 ⟨rfl, rfl⟩)
    go_ret
    simp
  · rw [if_neg h1]
    by_cases h2 : lt y x = true
    · rw [if_pos h2]
      go_enter Try.func125, Try.ntmps125
      go_wp2_with (go_at_call 134; refine (nan_any _ _).mono ?_; rintro e w1 ⟨rfl, rfl⟩)
      go_ret
      simp
    · rw [if_neg h2]
      go_enter Try.func125, Try.ntmps125
      go_wp2_with (go_at_call 134; refine (nan_any _ _).mono ?_; rintro e w1 ⟨rfl, rfl⟩)
      go_ret
      simp
theorem put_any (key : ByteArray) (val : Bool) (T : Kn ByteArray Bool) : ∀ w : World, In w T → T.bs.Nodup → T.cnt + 1 < 4611686018427387904 →
    Calls Try.prog 104 #[.pointer T.adr, .string key, .bool val] w fun e w' => ∃ nb, w.heap.size ≤ nb ∧ e = .returned (.pointer (Kn.put lt nb key val T).adr) ∧ In w' (Kn.put lt nb key val T) ∧ Fr T.bs w w' := by
  induction T with
  | nil =>
    intro w _ _ _
    show Calls Try.prog 104 #[.pointer none, .string key, .bool val] w _
    have W1 := fresh_top (l := .nil) (r := .nil) (w := w.alloc (.cells #[.string key, .bool val, .pointer none, .pointer none, .int .i64 0, .int .i64 0] 139)) (b := w.heap.size) (k := key) (v := val) ⟨0, 0, blk_new _ _⟩ trivial trivial (by simp [Kn.bs]) (by simp [Kn.bs]) (by simp [Kn.cnt])
    go_enter Try.func104, Try.ntmps104
    go_wp2_with (go_at_call 124; refine W1.mono ?_; clear W1; rintro e w1 ⟨rfl, hi, fr⟩)
    go_ret
    exact ⟨w.heap.size, Nat.le_refl _, rfl, hi, ((Fr.refl _ _).alloc _).trans fr (fun x hx => .inr (by simp at hx; omega))⟩
  | node b k v l r ihl ihr =>
    intro w hin hnd hc
    have nbl : b ∉ l.bs := by simp only [Kn.bs, List.nodup_cons, List.mem_append, not_or] at hnd; exact hnd.1.1
    have nbr : b ∉ r.bs := by simp only [Kn.bs, List.nodup_cons, List.mem_append, not_or] at hnd; exact hnd.1.2
    have ndl : l.bs.Nodup := by simp only [Kn.bs, List.nodup_cons, List.nodup_append] at hnd; exact hnd.2.1
    have ndr : r.bs.Nodup := by simp only [Kn.bs, List.nodup_cons, List.nodup_append] at hnd; exact hnd.2.2.1
    have dj : ∀ x ∈ l.bs, x ∉ r.bs := fun x hx hr => by simp only [Kn.bs, List.nodup_cons, List.nodup_append] at hnd; exact hnd.2.2.2 x hx x hr rfl
    have hcl := Kn.bounds l
    have hcr := Kn.bounds r
    simp only [Kn.cnt] at hc
    have h1 := Top.of_in hin
    have ltw := in_lt hin
    have il := hin.2.1
    have ir := hin.2.2
    obtain ⟨c10, c11, c12, c13, f11, f12, f13⟩ := h1.cells
    show Calls Try.prog 104 #[.pointer (some ⟨b, 0, none⟩), .string key, .bool val] w _
    by_cases hA : lt key k = true
    · have hcmp : ∀ W, Calls Try.prog 125 #[.string key, .string k] W fun e w' => e = .returned (.int .i64 (-1)) ∧ w' = W := fun W => by
        have := cmp_any key k W; unfold Kn.cmpK at this; rw [if_pos hA] at this; exact this
      clear hin
      go_enter Try.func104, Try.ntmps104
      go_wp2_with (first
        | (go_at_call 125; refine (hcmp _).mono ?_; rintro e w1 ⟨rfl, hw⟩; obtain rfl := hw.symm)
        | (go_at_call 104
           refine (ihl _ il ndl (by omega)).mono ?_
           rintro e w2 ⟨nb, hnb, rfl, hi, fr⟩
           have h2 := h1.fr fr nbl
           have io2 := in_fr fr ir (fun x hx hm => dj x hm hx)
           obtain ⟨c20, c21, c22, c23, f21, f22, f23⟩ := h2.cells
           have bP : b ∉ (Kn.put lt nb key val l).bs := fun h => by
             rcases Kn.put_mem h with e | e
             · have := ltw b (by simp [Kn.bs]); omega
             · exact nbl e
           have nP : nb ∉ (Kn.node b k v l r).bs := fun h => by have := ltw nb h; omega
           have W3 := even_any (h2.low (Kn.put lt nb key val l).adr) (set_in hi bP 2 _) (set_in io2 nbr 2 _) (Kn.put_left_nodup hnd nP) (by have := Kn.put_cnt lt nb key val l; simp only [Kn.cnt]; omega)
           have fr2 : Fr (Kn.node b k v l r).bs w (w2.setCell ⟨b, 2, none⟩ (.pointer (Kn.put lt nb key val l).adr)) :=
             (fr.wide (fun x hx => .inl (List.mem_cons_of_mem _ (List.mem_append_left _ hx)))).set (.inl (by simp [Kn.bs])) _
           clear hi io2)
        | (go_at_call 126
           refine W3.mono ?_
           clear W3
           rintro e w4 ⟨rfl, hi4, fr4⟩))
      go_ret
      have e : Kn.put lt nb key val (.node b k v l r) = Kn.even b k v (Kn.put lt nb key val l) r := by simp only [Kn.put]; rw [if_pos hA]
      refine ⟨nb, ?_⟩
      rw [e]
      exact ⟨hnb, rfl, hi4, fr2.trans fr4 (fun x hx => by
        simp only [Kn.bs, List.mem_cons, List.mem_append] at hx ⊢
        rcases hx with hx | hx | hx
        · exact .inl (.inl hx)
        · rcases Kn.put_mem hx with e | e; exact .inr (by omega); exact .inl (.inr (.inl e))
        · exact .inl (.inr (.inr hx)))⟩
    · by_cases hB : lt k key = true
      · have hcmp : ∀ W, Calls Try.prog 125 #[.string key, .string k] W fun e w' => e = .returned (.int .i64 1) ∧ w' = W := fun W => by
          have := cmp_any key k W; unfold Kn.cmpK at this; rw [if_neg hA, if_pos hB] at this; exact this
        clear hin
        go_enter Try.func104, Try.ntmps104
        go_wp2_with (first
          | (go_at_call 125; refine (hcmp _).mono ?_; rintro e w1 ⟨rfl, hw⟩; obtain rfl := hw.symm)
          | (go_at_call 104
             refine (ihr _ ir ndr (by omega)).mono ?_
             rintro e w2 ⟨nb, hnb, rfl, hi, fr⟩
             have h2 := h1.fr fr nbr
             have io2 := in_fr fr il (fun x hx hm => dj x hx hm)
             obtain ⟨c20, c21, c22, c23, f21, f22, f23⟩ := h2.cells
             have bP : b ∉ (Kn.put lt nb key val r).bs := fun h => by
               rcases Kn.put_mem h with e | e
               · have := ltw b (by simp [Kn.bs]); omega
               · exact nbr e
             have nP : nb ∉ (Kn.node b k v l r).bs := fun h => by have := ltw nb h; omega
             have W3 := even_any (h2.high (Kn.put lt nb key val r).adr) (set_in io2 nbl 3 _) (set_in hi bP 3 _) (Kn.put_right_nodup hnd nP) (by have := Kn.put_cnt lt nb key val r; simp only [Kn.cnt]; omega)
             have fr2 : Fr (Kn.node b k v l r).bs w (w2.setCell ⟨b, 3, none⟩ (.pointer (Kn.put lt nb key val r).adr)) :=
               (fr.wide (fun x hx => .inl (List.mem_cons_of_mem _ (List.mem_append_right _ hx)))).set (.inl (by simp [Kn.bs])) _
             clear hi io2)
          | (go_at_call 126
             refine W3.mono ?_
             clear W3
             rintro e w4 ⟨rfl, hi4, fr4⟩))
        go_ret
        have e : Kn.put lt nb key val (.node b k v l r) = Kn.even b k v l (Kn.put lt nb key val r) := by simp only [Kn.put]; rw [if_neg hA, if_pos hB]
        refine ⟨nb, ?_⟩
        rw [e]
        exact ⟨hnb, rfl, hi4, fr2.trans fr4 (fun x hx => by
          simp only [Kn.bs, List.mem_cons, List.mem_append] at hx ⊢
          rcases hx with hx | hx | hx
          · exact .inl (.inl hx)
          · exact .inl (.inr (.inl hx))
          · rcases Kn.put_mem hx with e | e; exact .inr (by omega); exact .inl (.inr (.inr e)))⟩
      · have hcmp : ∀ W, Calls Try.prog 125 #[.string key, .string k] W fun e w' => e = .returned (.int .i64 0) ∧ w' = W := fun W => by
          have := cmp_any key k W; unfold Kn.cmpK at this; rw [if_neg hA, if_neg hB] at this; exact this
        have hbl := hin.1
        clear ihl ihr h1 hin
        go_enter Try.func104, Try.ntmps104
        go_wp2_with (go_at_call 125; refine (hcmp _).mono ?_; rintro e w1 ⟨rfl, hw⟩; obtain rfl := hw.symm)
        go_ret
        have e : Kn.put lt w.heap.size key val (.node b k v l r) = .node b k val l r := by simp only [Kn.put]; rw [if_neg hA, if_neg hB]
        have f0 : ∀ u, Fr [b] w (w.setCell ⟨b, 1, none⟩ u) := fun u => (Fr.refl _ _).set (.inl (by simp)) u
        refine ⟨w.heap.size, Nat.le_refl _, ?_⟩
        rw [e]
        exact ⟨rfl, ⟨blk_put hbl 1 _ rfl, in_fr (f0 _) il (fun x hx => by simp; rintro rfl; exact nbl hx), in_fr (f0 _) ir (fun x hx => by simp; rintro rfl; exact nbr hx)⟩, (f0 _).wide (fun x hx => .inl (by simp at hx; simp [Kn.bs, hx]))⟩
end Go.Proofs.Ytebejadiaooooaa.OrdSb
end
section
namespace Go.Proofs.Ytebejadiaooooaa.OrdSb
open Go.RowKit Go.Proofs.YtebejadiaooooaaW.PrintWords Go.Proofs.YtebejadiaooooaaW.PrintLast Go.Proofs.YtebejadiaooooaaW.PrintMore Go.Proofs.Ytebejadiaooooaa.Own Go.Proofs.Ytebejadiaooooaa.Ord
set_option maxHeartbeats 2000000
set_option maxRecDepth 100000
structure Mp (w : World) (m : Nat) (T : Kn ByteArray Bool) : Prop where
  blk : w.heap[m]? = some (.cells #[.pointer T.adr] 116 (0, 0))
  inn : In w T
  nd : T.bs.Nodup
theorem Mp.ne {w : World} {m : Nat} {T : Kn ByteArray Bool} (h : Mp w m T) : m ∉ T.bs := fun hm => by
  obtain ⟨cells, hc⟩ := in_typed h.inn m hm
  rw [h.blk] at hc
  injection hc with hc
  injection hc with _ hc
  exact absurd hc (by decide)
theorem Mp.fr {w w' : World} {m : Nat} {T : Kn ByteArray Bool} {B : List Nat} (h : Mp w m T) (f : Fr B w w') (hm : m ∉ B) (hn : ∀ x ∈ T.bs, x ∉ B) : Mp w' m T := ⟨f.blk h.blk hm, in_fr f h.inn hn, h.nd⟩
theorem Mp.below {w w' : World} {m : Nat} {T : Kn ByteArray Bool} (h : Mp w m T) (f : Below w.heap.size w w') : Mp w' m T := h.fr (B := []) (Fr.of_below f) (by simp) (by simp)
theorem new_any (w : World) : Calls Try.prog 68 #[] w fun e w' => ∃ m, w.heap.size ≤ m ∧ e = .returned (.pointer (some ⟨m, 0, none⟩)) ∧ Mp w' m .nil ∧ Fr [] w w' := by
  go_enter Try.func68, Try.ntmps68
  go_wp2
  go_ret
  exact ⟨w.heap.size, Nat.le_refl _, rfl, ⟨blk_new _ _, trivial, by simp [Kn.bs]⟩, (Fr.refl _ _).alloc _⟩
theorem len_any {w : World} {m : Nat} {T : Kn ByteArray Bool} (h : Mp w m T) : Calls Try.prog 103 #[.pointer (some ⟨m, 0, none⟩)] w fun e w' => e = .returned (.int .i64 T.cnt) ∧ w' = w := by
  have c0 : w.cell? ⟨m, 0, none⟩ = some (.pointer T.adr) := blk_cell h.blk 0
  have W1 := size_any T w h.inn
  go_enter Try.func103, Try.ntmps103
  go_wp2_with (go_at_call 123; refine W1.mono ?_; clear W1; rintro e w1 ⟨rfl, rfl⟩)
  go_ret
  exact ⟨rfl, rfl⟩
theorem mput_any (key : ByteArray) (val : Bool) {w : World} {m : Nat} {T : Kn ByteArray Bool} (h : Mp w m T) (hc : T.cnt + 1 < 4611686018427387904) :
    Calls Try.prog 70 #[.pointer (some ⟨m, 0, none⟩), .string key, .bool val] w fun e w' => ∃ nb, w.heap.size ≤ nb ∧ e = .returned (.bool (decide (T.cnt < (Kn.put lt nb key val T).cnt))) ∧ Mp w' m (Kn.put lt nb key val T) ∧ Fr (m :: T.bs) w w' := by
  have c0 : w.cell? ⟨m, 0, none⟩ = some (.pointer T.adr) := blk_cell h.blk 0
  have f0 := blk_frozen h.blk 0
  have L0 := len_any h
  have hlt := in_lt h.inn
  have hmlt := blk_lt h.blk
  have W1 := (put_any key val T w h.inn h.nd hc).mono (R' := fun e w2 => ∃ nb, w.heap.size ≤ nb ∧ e = .returned (.pointer (Kn.put lt nb key val T).adr) ∧ w2.cell? ⟨m, 0, none⟩ = some (.pointer T.adr) ∧ w2.frozen? ⟨m, 0, none⟩ = false ∧ Mp (w2.setCell ⟨m, 0, none⟩ (.pointer (Kn.put lt nb key val T).adr)) m (Kn.put lt nb key val T) ∧ Fr (m :: T.bs) w (w2.setCell ⟨m, 0, none⟩ (.pointer (Kn.put lt nb key val T).adr))) (by
    rintro e w2 ⟨nb, hnb, rfl, hi, fr⟩
    have hb := fr.blk h.blk h.ne
    have mP : m ∉ (Kn.put lt nb key val T).bs := fun hm => by rcases Kn.put_mem hm with e | e; omega; exact h.ne e
    refine ⟨nb, hnb, rfl, blk_cell hb 0, blk_frozen hb 0, ⟨blk_put hb 0 _ rfl, set_in hi mP 0 _, Kn.put_nodup h.nd (fun hm => by have := hlt nb hm; omega)⟩, ?_⟩
    exact (fr.wide (fun x hx => .inl (List.mem_cons_of_mem _ hx))).set (.inl List.mem_cons_self) _)
  clear h
  go_enter Try.func70, Try.ntmps70
  go_wp2_with (first
    | (go_at_call 103; refine L0.mono ?_; clear L0; rintro e w1 ⟨rfl, hw⟩; obtain rfl := hw.symm)
    | (go_at_call 104
       refine W1.mono ?_
       clear W1
       rintro e w2 ⟨nb, hnb, rfl, c2, f2, hm2, fr2⟩
       have L2 := len_any hm2)
    | (go_at_call 103; refine L2.mono ?_; clear L2; rintro e w3 ⟨rfl, hw⟩; obtain rfl := hw.symm))
  go_ret
  exact ⟨nb, hnb, rfl, hm2, fr2⟩
end Go.Proofs.Ytebejadiaooooaa.OrdSb
end
section
namespace Go.Proofs.Ytebejadiaooooaa.OrdSb
open Go.RowKit Go.Shelf Go.Proofs.YtebejadiaooooaaW.PrintWords Go.Proofs.YtebejadiaooooaaW.PrintLast Go.Proofs.YtebejadiaooooaaW.PrintMore Go.Proofs.Ytebejadiaooooaa.Own Go.Proofs.Ytebejadiaooooaa.Ord
open List renaming setIfInBounds_toArray → sA1, set_cons_zero → sA2, set_cons_succ → sA3, getElem_toArray → sA4, getElem_cons_zero → sA5, getElem_cons_succ → sA6
attribute [local go_sem] Oper.semAt_some
set_option maxHeartbeats 2000000
set_option maxRecDepth 100000
theorem tkI_ {F : Fence} {n : Nat} {P : Program} {ops : Array Oper} {Q : Exit → Act → World → Prop} {md : Region.Mode} (i : Nat) {oi : Oper} {v : Value} {fuel : Nat} {listed : Array Bool} {a : Act} {w : World} (hi : ops[i]? = some oi) (hw : ∀ w, (execOp a.eval oi).run P w = .ok (.value v) w) (h : wpAnyIn F n P md ops Q fuel (listed.setIfInBounds i true) (a.put oi.dst v) w)
 (hro : F.round = none := by rfl) (hs : Region.noSelect ops = true := by kernel_rfl) (hf : Region.free md ops listed i = true := by kernel_rfl) (hr : (Region.ready md ops listed).contains i = true := by kernel_rfl) (hQ : ∀ c a w, Q (.panic c) (a.put oi.dst v) w → Q (.panic c) a w := by exact fun _ _ _ h => h) (h1 : Region.wanted oi (yielded ops a.tmps) = true := by rfl) (h2 : ∀ w, oi.about P w a.eval = none := by exact fun _ => rfl) : wpAnyIn F n P md ops Q (fuel + 1) listed a w := wpAnyIn_take hro hi hs hf hr hQ ⟨Or.inl ⟨h1, hw⟩, h2⟩ h
theorem tkJ_ {F : Fence} {n : Nat} {P : Program} {ops : Array Oper} {Q : Exit → Act → World → Prop} {md : Region.Mode} (i : Nat) {N : Tmp} {oi : Oper} {v : Value} {fuel : Nat} {listed : Array Bool} {a a' : Act} {w : World} (hi : ops[i]? = some oi) (h : wpAnyIn F n P md ops Q fuel (listed.setIfInBounds i true) a' w)
 (hro : F.round = none := by rfl) (hs : Region.noSelect ops = true := by kernel_rfl) (hf : Region.free md ops listed i = true := by kernel_rfl) (hr : (Region.ready md ops listed).contains i = true := by kernel_rfl) (hQ : ∀ c a w, Q (.panic c) (a.put oi.dst v) w → Q (.panic c) a w := by exact fun _ _ _ h => h) (h1 : Region.wanted oi (yielded ops a.tmps) = true := by rfl) (h2 : ∀ w, oi.about P w a.eval = none := by exact fun _ => rfl) (hw : ∀ w, (execOp a.eval oi).run P w = .ok (.value v) w := by (intro w; go_simp; first | done | with_reducible rfl)) (hN : oi.dst = some N := by rfl) (ha : a.put (some N) v = a' := by (simp only [Act.put, sA1, sA2, sA3, sA4, sA5, sA6]; rfl)) : wpAnyIn F n P md ops Q (fuel + 1) listed a w := by
 subst ha
 rw [← hN] at h
 exact wpAnyIn_take hro hi hs hf hr hQ ⟨Or.inl ⟨h1, hw⟩, h2⟩ h
theorem tkU_ {F : Fence} {n : Nat} {P : Program} {ops : Array Oper} {Q : Exit → Act → World → Prop} {md : Region.Mode} (i : Nat) {N : Tmp} {oi : Oper} {fuel : Nat} {listed : Array Bool} {a a' : Act} {w : World} (hi : ops[i]? = some oi) (h : wpAnyIn F n P md ops Q fuel (listed.setIfInBounds i true) a' w)
 (hro : F.round = none := by rfl) (hs : Region.noSelect ops = true := by kernel_rfl) (hf : Region.free md ops listed i = true := by kernel_rfl) (hr : (Region.ready md ops listed).contains i = true := by kernel_rfl) (hQ : ∀ c a w, Q (.panic c) (a.put oi.dst undef) w → Q (.panic c) a w := by exact fun _ _ _ h => h) (hy : YieldsFenced P ops oi undef a := by exact ⟨Or.inr ⟨by rfl, rfl⟩, fun _ => rfl⟩) (hN : oi.dst = some N := by rfl) (ha : a.put (some N) undef = a' := by (simp only [Act.put, sA1, sA2, sA3, sA4, sA5, sA6]; rfl)) : wpAnyIn F n P md ops Q (fuel + 1) listed a w := by
 subst ha
 rw [← hN] at h
 exact wpAnyIn_take hro hi hs hf hr hQ hy h
theorem RoundIn.anyDepth {F : Fence} (hd : F.depth = none) {m m' : Nat} {P : Program} {l : Nat} {f : FuncId} {tmps : Array Value} {assign body : Code} {w : World} {R : Ending → World → Prop}
  (h : RoundIn F m P l f tmps assign body w R) : RoundIn F m' P l f tmps assign body w R := ⟨h.1, fun c cs _ => h.2 c cs (fun d h => by rw [hd] at h; cases h)⟩
theorem YieldAt.anyDepth {F : Fence} (hd : F.depth = none) {m : Nat} (m' : Nat) {P : Program} {l : Nat} {args : Array Value} {W : World} {R : Ending → World → Prop} (h : YieldAt F m P l args W R) : YieldAt F m' P l args W R := by
 obtain ⟨fn, tmps, assign, body, hy, hR⟩ := h
 exact ⟨fn, tmps, assign, body, hy, RoundIn.anyDepth hd hR⟩
theorem less_any (x y : ByteArray) (w : World) : Calls Try.prog 122 #[.string x, .string y] w fun e w' => e = .returned (.bool (lt x y)) ∧ w' = w := by
 by_cases h1 : lt x y = true
 ·rw [h1]
  go_enter Try.func122, Try.ntmps122
  go_wp2_with (go_at_call 134; refine (nan_any _ _).mono ?_; rintro e w1 ⟨rfl, rfl⟩)
  go_ret
  simp
 ·have h2 : lt x y = false := by cases h : lt x y <;> simp_all
  rw [h2]
  go_enter Try.func122, Try.ntmps122
  go_wp2_with (go_at_call 134; refine (nan_any _ _).mono ?_; rintro e w1 ⟨rfl, rfl⟩)
  go_ret
  simp
structure Kee (S : Nat → Prop) (W W' : World) : Prop where
 size : W.heap.size ≤ W'.heap.size
 block : ∀ k, S k → W'.heap[k]? = W.heap[k]?
namespace Kee
variable {S : Nat → Prop} {A B C : World}
theorem refl (S : Nat → Prop) (W : World) : Kee S W W := ⟨Nat.le_refl _, fun _ _ => rfl⟩
theorem trans (h : Kee S A B) (k : Kee S B C) : Kee S A C := ⟨Nat.le_trans h.size k.size, fun i hi => (k.block i hi).trans (h.block i hi)⟩
theorem cell (h : Kee S A B) {p : Addr} (hp : S p.block) : B.cell? p = A.cell? p := by unfold World.cell?; rw [h.block _ hp]
theorem drewN (h : Kee S A B) (n : Nat) : Kee S A (B.drewN n) := ⟨h.size, h.block⟩
theorem drew (h : Kee S A B) : Kee S A B.drew := ⟨h.size, h.block⟩
end Kee
theorem in_kee {S : Nat → Prop} {A B : World} (h : Kee S A B) : ∀ {T : Kn ByteArray Bool}, In A T → (∀ x ∈ T.bs, S x) → In B T
 | .nil, _, _ => trivial
 | .node b k v l r, hi, hn => ⟨(h.block b (hn b (by simp [Kn.bs]))).trans hi.1, in_kee h hi.2.1 (fun x hx => hn x (by simp [Kn.bs, hx])), in_kee h hi.2.2 (fun x hx => hn x (by simp [Kn.bs, hx]))⟩
def walkA : Kn ByteArray Bool → List (ByteArray × Bool)
 | .nil => []
 | .node b k v l r => walkA l ++ (k, v) :: walkA r
def walkB (s : ByteArray) : Kn ByteArray Bool → List (ByteArray × Bool)
 | .nil => []
 | .node b k v l r => if lt k s = true then walkB s r else walkB s l ++ (k, v) :: walkA r
theorem calls_wide {n : Nat} {f : FuncId} {args : Array Value} {w : World} {R : Ending → World → Prop} (h : Calls Try.prog f args w R) : CallsIn Fence.wide n Try.prog f args w R := callsIn_wide.2 h
theorem cut2 {G C : Prop} (h : G → C) (g : G) : C := h g
theorem walk_none (l N : Nat) (S : Nat → Prop) (J Jx : List (ByteArray × Bool) → World → Prop) (hJd : ∀ pre W n, J pre W → J pre (W.drewN n))
  (hY : ∀ m pre x W, J pre W → pre.length < N → YieldAt Fence.wide m Try.prog l #[.string x.1, .bool x.2] W fun e W' =>
   (e = .returned (.bool true) ∧ J (pre ++ [x]) W' ∧ Kee S W W') ∨ (e = .returned (.bool false) ∧ Jx (pre ++ [x]) W')) (T : Kn ByteArray Bool) :
  ∀ (n : Nat) (pre : List (ByteArray × Bool)) (W : World), In W T → (∀ x ∈ T.bs, S x) → J pre W → pre.length + (walkA T).length ≤ N →
   CallsIn Fence.wide n Try.prog 106 #[.pointer T.adr, .pointer none, .func (.yield l) #[] #[]] W fun e W' =>
    (e = .returned (.bool true) ∧ J (pre ++ walkA T) W' ∧ Kee S W W') ∨ (e = .returned (.bool false) ∧ ∃ q, q <+: walkA T ∧ Jx (pre ++ q) W') := by
 induction T with
 | nil =>
  intro n pre W _ _ hJ _
  show CallsIn Fence.wide n Try.prog 106 #[.pointer none, .pointer none, .func (.yield l) #[] #[]] W _
  refine callsIn_of_wp Try.func106 rfl trivial ?_ rfl
  simp only [Try.ntmps106, List.size_toArray, List.length_cons, List.length_nil, Nat.reduceAdd, Nat.reduceSub, Array.replicate_succ, Array.replicate_zero, List.push_toArray, List.append_toArray, List.nil_append, List.cons_append]
  gi_wp2
  go_ret
  exact .inl ⟨rfl, by simpa [walkA] using hJ, Kee.refl _ _⟩
 | node b k v tl tr ihl ihr =>
  intro n pre W hin hlt hJ hN
  have hdd : ∀ k : Nat, (Fence.wide.depth.isSome = true → 1 ≤ k) := fun k h => by cases h
  have hb : S b := hlt b (by simp [Kn.bs])
  have hltl : ∀ x ∈ tl.bs, S x := fun x hx => hlt x (by simp [Kn.bs, hx])
  have hltr : ∀ x ∈ tr.bs, S x := fun x hx => hlt x (by simp [Kn.bs, hx])
  obtain ⟨c10, c11, c12, c13, _, _, _⟩ := (Top.of_in hin).cells
  simp only [walkA] at hN ⊢
  show CallsIn Fence.wide n Try.prog 106 #[.pointer (some ⟨b, 0, none⟩), .pointer none, .func (.yield l) #[] #[]] W _
  refine callsIn_of_wp Try.func106 rfl trivial ?_ rfl
  simp only [Try.ntmps106, List.size_toArray, List.length_cons, List.length_nil, Nat.reduceAdd, Nat.reduceSub, Array.replicate_succ, Array.replicate_zero, List.push_toArray, List.append_toArray, List.nil_append, List.cons_append]
  gi_wp2
  refine wpIn_region_quiet_lit rfl (by kernel_rfl) (by kernel_rfl) ?_
  repeat (refine wpQuietIn_step (fun _ _ _ _ => trivial) (fun K hK => ?_); go_simp; first | (refine hK _ ?_; clear hK K) | (refine ⟨_, fun _ => rfl, hK _ ?_⟩; clear hK K))
  refine wpQuietIn_nil ?_
  intro _ hw'
  obtain ⟨nq, hw''⟩ := hw'
  subst hw''
  obtain ⟨W0, hW⟩ : ∃ W0, W0 = W.drewN nq := ⟨_, rfl⟩
  rw [← hW]
  have hin : In W0 (.node b k v tl tr) := by rw [hW]; exact in_drewN _ hin
  have bl : Kee S W W0 := by rw [hW]; exact (Kee.refl _ _).drewN _
  have hJ : J pre W0 := by rw [hW]; exact hJd _ _ _ hJ
  clear hW c10 c11 c12 c13
  obtain ⟨c10, c11, c12, c13, _, _, _⟩ := (Top.of_in hin).cells
  simp only [List.length_append, List.length_cons] at hN
  have hy2 : ∀ W1, J (pre ++ walkA tl) W1 → Kee S W0 W1 → YieldAt Fence.wide (n - 1) Try.prog l #[.string k, .bool v] W1 fun e W2 =>
    (e = .returned (.bool true) ∧ J (pre ++ walkA tl ++ [(k, v)]) W2 ∧ Kee S W0 W2 ∧ W2.cell? ⟨b, 3, none⟩ = some (.pointer tr.adr) ∧ In W2 tr) ∨ (e = .returned (.bool false) ∧ Jx (pre ++ walkA tl ++ [(k, v)]) W2) := fun W1 hJ1 hb1 =>
   YieldAt.mono (hY (n - 1) _ (k, v) W1 hJ1 (by simp; omega)) fun e W2 h => h.elim
    (fun ⟨he, hj, hb2⟩ => .inl ⟨he, hj, hb1.trans hb2, ((hb1.trans hb2).cell (p := ⟨b, 3, none⟩) hb).trans c13, in_kee (hb1.trans hb2) hin.2.2 hltr⟩) .inr
  have ih1 := (ihl (n - 1) pre W0.drew (in_drewN 1 hin.2.1) hltl (hJd _ _ 1 hJ) (by omega)).mono (R' := fun e W1 =>
    (e = .returned (.bool true) ∧ W1.cell? ⟨b, 0, none⟩ = some (.string k) ∧ W1.cell? ⟨b, 1, none⟩ = some (.bool v) ∧ YieldAt Fence.wide (n - 1) Try.prog l #[.string k, .bool v] W1 fun e W2 =>
     (e = .returned (.bool true) ∧ J (pre ++ walkA tl ++ [(k, v)]) W2 ∧ Kee S W0 W2 ∧ W2.cell? ⟨b, 3, none⟩ = some (.pointer tr.adr) ∧ In W2 tr) ∨ (e = .returned (.bool false) ∧ Jx (pre ++ walkA tl ++ [(k, v)]) W2)) ∨
    (e = .returned (.bool false) ∧ ∃ q, q <+: walkA tl ∧ Jx (pre ++ q) W1))
   (fun e W1 h => h.elim (fun ⟨he, hj, hb0⟩ => have hb1 := (Kee.refl S W0).drew.trans hb0; .inl ⟨he, (hb1.cell (p := ⟨b, 0, none⟩) hb).trans c10, (hb1.cell (p := ⟨b, 1, none⟩) hb).trans c11, hy2 W1 hj hb1⟩) .inr)
  clear hy2 ihl
  gi_wp2
  refine wpIn_region_any (by kernel_rfl) ?_
  change wpAnyIn _ _ _ _ _ _ _ _ _ (World.drew _)
  refine tkJ_ 0 rfl ?_
  refine tkJ_ 1 rfl ?_
  refine tkJ_ 2 rfl ?_
  refine tkJ_ 4 rfl ?_
  refine tkJ_ 5 rfl ?_
  refine wpAnyIn_ready (rs := [3]) (by kernel_rfl) (by simp) ?_
  refine AllReadyIn.cons rfl (fun K hK => ?_) ?_
  ·go_simp
   refine hK _ _ ?_
   clear hK K
   refine wpAnyIn_ready (rs := [6]) (by kernel_rfl) (by simp) ?_
   refine AllReadyIn.cons rfl (fun K hK => ?_) ?_
   ·go_simp
    refine ⟨trivial, hdd _, ih1.mono ?_⟩
    clear ih1
    rintro e W1 (⟨rfl, c10', c11', fn, tmps, assign, body, hy, hR⟩ | ⟨rfl, q, hq, hx1⟩)
    ·refine hK _ _ ?_
     clear hK K
     refine tkJ_ 7 rfl ?_
     refine tkJ_ 8 rfl ?_
     refine tkJ_ 9 rfl ?_
     refine tkJ_ 10 rfl ?_
     refine tkJ_ 11 rfl ?_
     refine tkJ_ 13 rfl ?_
     refine tkJ_ 14 rfl ?_
     refine tkJ_ 15 rfl ?_
     apply cut2
     ·intro hcont
      refine wpAnyIn_ready (rs := [12, 16]) (by kernel_rfl) (by simp) ?_
      refine AllReadyIn.cons rfl (fun K hK => ?_) ?_
      ·go_simp
       refine hK _ _ ?_
       clear hK K
       refine wpAnyIn_ready (rs := [16]) (by kernel_rfl) (by simp) ?_
       refine AllReadyIn.cons rfl (fun K hK => ?_) ?_
       ·go_simp
        refine hK _ _ ?_
        clear hK K
        exact hcont
       exact AllReadyIn.nil
      refine AllReadyIn.cons rfl (fun K hK => ?_) ?_
      ·go_simp
       refine hK _ _ ?_
       clear hK K
       refine wpAnyIn_ready (rs := [12]) (by kernel_rfl) (by simp) ?_
       refine AllReadyIn.cons rfl (fun K hK => ?_) ?_
       ·go_simp
        refine hK _ _ ?_
        clear hK K
        exact hcont
       exact AllReadyIn.nil
      exact AllReadyIn.nil
     refine wpAnyIn_ready (rs := [17]) (by kernel_rfl) (by simp) ?_
     refine AllReadyIn.cons rfl (fun K hK => ?_) ?_
     ·go_simp
      refine ⟨hdd _, hR.mono ?_⟩
      clear hR
      rintro e W2 (⟨rfl, hJ2, hb2, c13', hr2⟩ | ⟨rfl, hx2⟩)
      ·refine hK _ _ ?_
       clear hK K
       refine tkJ_ 18 rfl ?_
       refine tkJ_ 19 rfl ?_
       refine tkJ_ 20 rfl ?_
       refine tkJ_ 21 rfl ?_
       refine tkJ_ 22 rfl ?_
       refine tkJ_ 24 rfl ?_
       refine wpAnyIn_ready (rs := [23]) (by kernel_rfl) (by simp) ?_
       refine AllReadyIn.cons rfl (fun K hK => ?_) ?_
       ·go_simp
        refine hK _ _ ?_
        clear hK K
        refine wpAnyIn_ready (rs := [25]) (by kernel_rfl) (by simp) ?_
        refine AllReadyIn.cons rfl (fun K hK => ?_) ?_
        ·go_simp
         refine ⟨trivial, hdd _, (ihr (n - 1) _ _ hr2 hltr hJ2 (by simp; omega)).mono ?_⟩
         rintro e W3 (⟨rfl, hJ3, hb3⟩ | ⟨rfl, q, hq, hx3⟩)
         ·refine hK _ _ ?_
          clear hK K
          refine tkJ_ 26 rfl ?_
          refine tkJ_ 27 rfl ?_
          refine wpAnyIn_done (by kernel_rfl) ?_ _
          gi_wp2
          go_ret
          exact .inl ⟨rfl, by simpa [List.append_assoc] using hJ3, bl.trans (hb2.trans hb3)⟩
         ·refine hK _ _ ?_
          clear hK K
          refine tkJ_ 26 rfl ?_
          refine tkJ_ 27 rfl ?_
          refine wpAnyIn_done (by kernel_rfl) ?_ _
          gi_wp2
          go_ret
          obtain ⟨r, hr'⟩ := hq
          exact .inr ⟨rfl, walkA tl ++ (k, v) :: q, ⟨r, by rw [← hr']; simp⟩, by simpa [List.append_assoc] using hx3⟩
        exact AllReadyIn.nil
       exact AllReadyIn.nil
      ·refine hK _ _ ?_
       clear hK K
       refine tkJ_ 18 rfl ?_
       refine tkJ_ 19 rfl ?_
       refine tkU_ 20 rfl ?_
       refine tkU_ 21 rfl ?_
       refine tkU_ 22 rfl ?_
       refine tkU_ 23 rfl ?_
       refine tkU_ 24 rfl ?_
       refine wpAnyIn_ready (rs := [25]) (by kernel_rfl) (by simp) ?_
       refine AllReadyIn.cons rfl (fun K hK => ?_) ?_
       ·go_simp
        refine ⟨trivial, ?_⟩
        refine hK _ _ ?_
        clear hK K
        refine tkJ_ 26 rfl ?_
        refine tkJ_ 27 rfl ?_
        refine wpAnyIn_done (by kernel_rfl) ?_ _
        gi_wp2
        go_ret
        exact .inr ⟨rfl, walkA tl ++ [(k, v)], ⟨walkA tr, by simp⟩, by simpa [List.append_assoc] using hx2⟩
       exact AllReadyIn.nil
     exact AllReadyIn.nil
    ·refine hK _ _ ?_
     clear hK K
     refine tkJ_ 7 rfl ?_
     refine tkU_ 8 rfl ?_
     refine tkU_ 9 rfl ?_
     refine tkU_ 10 rfl ?_
     refine tkU_ 11 rfl ?_
     refine tkU_ 12 rfl ?_
     refine tkU_ 13 rfl ?_
     refine tkU_ 14 rfl ?_
     refine tkU_ 15 rfl ?_
     refine tkU_ 16 rfl ?_
     refine wpAnyIn_ready (rs := [17]) (by kernel_rfl) (by simp) ?_
     refine AllReadyIn.cons rfl (fun K hK => ?_) ?_
     ·go_simp
      refine ⟨fun _ _ => trivial, ?_⟩
      refine hK _ _ ?_
      clear hK K
      refine tkJ_ 18 rfl ?_
      refine tkJ_ 19 rfl ?_
      refine tkU_ 20 rfl ?_
      refine tkU_ 21 rfl ?_
      refine tkU_ 22 rfl ?_
      refine tkU_ 23 rfl ?_
      refine tkU_ 24 rfl ?_
      refine wpAnyIn_ready (rs := [25]) (by kernel_rfl) (by simp) ?_
      refine AllReadyIn.cons rfl (fun K hK => ?_) ?_
      ·go_simp
       refine ⟨trivial, ?_⟩
       refine hK _ _ ?_
       clear hK K
       refine tkJ_ 26 rfl ?_
       refine tkJ_ 27 rfl ?_
       refine wpAnyIn_done (by kernel_rfl) ?_ _
       gi_wp2
       go_ret
       exact .inr ⟨rfl, q, hq.trans (List.prefix_append _ _), hx1⟩
      exact AllReadyIn.nil
     exact AllReadyIn.nil
   exact AllReadyIn.nil
  exact AllReadyIn.nil
theorem walk_some (l N : Nat) (S : Nat → Prop) (J Jx : List (ByteArray × Bool) → World → Prop) (hJd : ∀ pre W n, J pre W → J pre (W.drewN n))
  (hY : ∀ m pre x W, J pre W → pre.length < N → YieldAt Fence.wide m Try.prog l #[.string x.1, .bool x.2] W fun e W' =>
   (e = .returned (.bool true) ∧ J (pre ++ [x]) W' ∧ Kee S W W') ∨ (e = .returned (.bool false) ∧ Jx (pre ++ [x]) W')) (a : Addr) (s : ByteArray) (ha : S a.block) (T : Kn ByteArray Bool) :
  ∀ (n : Nat) (pre : List (ByteArray × Bool)) (W : World), In W T → (∀ x ∈ T.bs, S x) → W.cell? a = some (.string s) → J pre W → pre.length + (walkB s T).length ≤ N →
   CallsIn Fence.wide n Try.prog 106 #[.pointer T.adr, .pointer (some a), .func (.yield l) #[] #[]] W fun e W' =>
    (e = .returned (.bool true) ∧ J (pre ++ walkB s T) W' ∧ Kee S W W') ∨ (e = .returned (.bool false) ∧ ∃ q, q <+: walkB s T ∧ Jx (pre ++ q) W') := by
 induction T with
 | nil =>
  intro n pre W _ _ _ hJ _
  show CallsIn Fence.wide n Try.prog 106 #[.pointer none, .pointer (some a), .func (.yield l) #[] #[]] W _
  refine callsIn_of_wp Try.func106 rfl trivial ?_ rfl
  simp only [Try.ntmps106, List.size_toArray, List.length_cons, List.length_nil, Nat.reduceAdd, Nat.reduceSub, Array.replicate_succ, Array.replicate_zero, List.push_toArray, List.append_toArray, List.nil_append, List.cons_append]
  gi_wp2
  go_ret
  exact .inl ⟨rfl, by simpa [walkB] using hJ, Kee.refl _ _⟩
 | node b k v tl tr ihl ihb =>
  intro n pre W hin hlt cs hJ hN
  have hdd : ∀ k : Nat, (Fence.wide.depth.isSome = true → 1 ≤ k) := fun k h => by cases h
  have hb : S b := hlt b (by simp [Kn.bs])
  have hltl : ∀ x ∈ tl.bs, S x := fun x hx => hlt x (by simp [Kn.bs, hx])
  have hltr : ∀ x ∈ tr.bs, S x := fun x hx => hlt x (by simp [Kn.bs, hx])
  obtain ⟨c10, c11, c12, c13, _, _, _⟩ := (Top.of_in hin).cells
  have ihr := walk_none l N S J Jx hJd hY tr
  by_cases hs : lt k s = true
  ·simp only [walkB, if_pos hs] at hN ⊢
   show CallsIn Fence.wide n Try.prog 106 #[.pointer (some ⟨b, 0, none⟩), .pointer (some a), .func (.yield l) #[] #[]] W _
   refine callsIn_of_wp Try.func106 rfl trivial ?_ rfl
   simp only [Try.ntmps106, List.size_toArray, List.length_cons, List.length_nil, Nat.reduceAdd, Nat.reduceSub, Array.replicate_succ, Array.replicate_zero, List.push_toArray, List.append_toArray, List.nil_append, List.cons_append]
   gi_wp2
   refine wpIn_region_any (by kernel_rfl) ?_
   change wpAnyIn _ _ _ _ _ _ _ _ _ (World.drew _)
   obtain ⟨W0, hW⟩ : ∃ W0, W0 = W.drewN 1 := ⟨_, rfl⟩
   have nq := 1
   change wpAnyIn _ _ _ _ _ _ _ _ _ (W.drewN 1)
   rw [← hW]
   have hin : In W0 (.node b k v tl tr) := by rw [hW]; exact in_drewN _ hin
   have bl : Kee S W W0 := by rw [hW]; exact (Kee.refl _ _).drewN _
   have hJ : J pre W0 := by rw [hW]; exact hJd _ _ _ hJ
   have cs := (bl.cell ha).trans cs
   clear hW c10 c11 c12 c13
   obtain ⟨c10, c11, c12, c13, _, _, _⟩ := (Top.of_in hin).cells
   refine tkJ_ 0 rfl ?_
   refine tkJ_ 1 rfl ?_
   refine tkJ_ 2 rfl ?_
   refine tkJ_ 3 rfl ?_
   refine tkJ_ 4 rfl ?_
   refine tkJ_ 5 rfl ?_
   refine tkJ_ 7 rfl ?_
   refine tkJ_ 8 rfl ?_
   apply cut2
   ·intro hcont
    refine wpAnyIn_ready (rs := [6, 9]) (by kernel_rfl) (by simp) ?_
    refine AllReadyIn.cons rfl (fun K hK => ?_) ?_
    ·go_simp
     refine hK _ _ ?_
     clear hK K
     refine wpAnyIn_ready (rs := [9]) (by kernel_rfl) (by simp) ?_
     refine AllReadyIn.cons rfl (fun K hK => ?_) ?_
     ·go_simp
      refine hK _ _ ?_
      clear hK K
      exact hcont
     exact AllReadyIn.nil
    refine AllReadyIn.cons rfl (fun K hK => ?_) ?_
    ·go_simp
     refine hK _ _ ?_
     clear hK K
     refine wpAnyIn_ready (rs := [6]) (by kernel_rfl) (by simp) ?_
     refine AllReadyIn.cons rfl (fun K hK => ?_) ?_
     ·go_simp
      refine hK _ _ ?_
      clear hK K
      exact hcont
     exact AllReadyIn.nil
    exact AllReadyIn.nil
   refine wpAnyIn_ready (rs := [10]) (by kernel_rfl) (by simp) ?_
   refine AllReadyIn.cons rfl (fun K hK => ?_) ?_
   ·go_simp
    refine ⟨trivial, hdd _, (calls_wide (less_any k s W0)).mono ?_⟩
    rintro e W1 ⟨rfl, hw⟩
    obtain rfl := hw.symm
    rw [hs]
    refine hK _ _ ?_
    clear hK K
    refine tkJ_ 11 rfl ?_
    refine wpAnyIn_done (by kernel_rfl) ?_ _
    gi_wp2_with (refine ⟨trivial, hdd _, (ihb (n - 1) pre _ (by first | exact hin.2.2 | exact in_drewN 1 hin.2.2) hltr (by first | exact cs | (rw [World.cell?_drew]; exact cs)) (by first | exact hJ | exact hJd _ _ 1 hJ) (by omega)).mono ?_⟩; rintro e W2 (⟨rfl, hJ2, hb2⟩ | ⟨rfl, hx2⟩))
    ·go_ret
     exact .inl ⟨rfl, hJ2, bl.trans hb2⟩
    ·go_ret
     exact .inr ⟨rfl, hx2⟩
   exact AllReadyIn.nil
  ·simp only [walkB, if_neg hs] at hN ⊢
   show CallsIn Fence.wide n Try.prog 106 #[.pointer (some ⟨b, 0, none⟩), .pointer (some a), .func (.yield l) #[] #[]] W _
   refine callsIn_of_wp Try.func106 rfl trivial ?_ rfl
   simp only [Try.ntmps106, List.size_toArray, List.length_cons, List.length_nil, Nat.reduceAdd, Nat.reduceSub, Array.replicate_succ, Array.replicate_zero, List.push_toArray, List.append_toArray, List.nil_append, List.cons_append]
   gi_wp2
   refine wpIn_region_any (by kernel_rfl) ?_
   change wpAnyIn _ _ _ _ _ _ _ _ _ (World.drew _)
   obtain ⟨W0, hW⟩ : ∃ W0, W0 = W.drewN 1 := ⟨_, rfl⟩
   have nq := 1
   change wpAnyIn _ _ _ _ _ _ _ _ _ (W.drewN 1)
   rw [← hW]
   have hin : In W0 (.node b k v tl tr) := by rw [hW]; exact in_drewN _ hin
   have bl : Kee S W W0 := by rw [hW]; exact (Kee.refl _ _).drewN _
   have hJ : J pre W0 := by rw [hW]; exact hJd _ _ _ hJ
   have cs := (bl.cell ha).trans cs
   clear hW c10 c11 c12 c13
   obtain ⟨c10, c11, c12, c13, _, _, _⟩ := (Top.of_in hin).cells
   refine tkJ_ 0 rfl ?_
   refine tkJ_ 1 rfl ?_
   refine tkJ_ 2 rfl ?_
   refine tkJ_ 3 rfl ?_
   refine tkJ_ 4 rfl ?_
   refine tkJ_ 5 rfl ?_
   refine tkJ_ 7 rfl ?_
   refine tkJ_ 8 rfl ?_
   apply cut2
   ·intro hcont
    refine wpAnyIn_ready (rs := [6, 9]) (by kernel_rfl) (by simp) ?_
    refine AllReadyIn.cons rfl (fun K hK => ?_) ?_
    ·go_simp
     refine hK _ _ ?_
     clear hK K
     refine wpAnyIn_ready (rs := [9]) (by kernel_rfl) (by simp) ?_
     refine AllReadyIn.cons rfl (fun K hK => ?_) ?_
     ·go_simp
      refine hK _ _ ?_
      clear hK K
      exact hcont
     exact AllReadyIn.nil
    refine AllReadyIn.cons rfl (fun K hK => ?_) ?_
    ·go_simp
     refine hK _ _ ?_
     clear hK K
     refine wpAnyIn_ready (rs := [6]) (by kernel_rfl) (by simp) ?_
     refine AllReadyIn.cons rfl (fun K hK => ?_) ?_
     ·go_simp
      refine hK _ _ ?_
      clear hK K
      exact hcont
     exact AllReadyIn.nil
    exact AllReadyIn.nil
   refine wpAnyIn_ready (rs := [10]) (by kernel_rfl) (by simp) ?_
   refine AllReadyIn.cons rfl (fun K hK => ?_) ?_
   ·go_simp
    refine ⟨trivial, hdd _, (calls_wide (less_any k s W0)).mono ?_⟩
    rintro e W1 ⟨rfl, hw⟩
    obtain rfl := hw.symm
    rw [(by simpa using hs : lt k s = false)]
    refine hK _ _ ?_
    clear hK K
    refine tkJ_ 11 rfl ?_
    refine wpAnyIn_done (by kernel_rfl) ?_ _
    simp only [List.length_append, List.length_cons] at hN
    have hy2 : ∀ W1, J (pre ++ walkB s tl) W1 → Kee S W0 W1 → YieldAt Fence.wide (n - 1) Try.prog l #[.string k, .bool v] W1 fun e W2 =>
      (e = .returned (.bool true) ∧ J (pre ++ walkB s tl ++ [(k, v)]) W2 ∧ Kee S W0 W2 ∧ W2.cell? ⟨b, 3, none⟩ = some (.pointer tr.adr) ∧ In W2 tr) ∨ (e = .returned (.bool false) ∧ Jx (pre ++ walkB s tl ++ [(k, v)]) W2) := fun W1 hJ1 hb1 =>
     YieldAt.mono (hY (n - 1) _ (k, v) W1 hJ1 (by simp; omega)) fun e W2 h => h.elim
      (fun ⟨he, hj, hb2⟩ => .inl ⟨he, hj, hb1.trans hb2, ((hb1.trans hb2).cell (p := ⟨b, 3, none⟩) hb).trans c13, in_kee (hb1.trans hb2) hin.2.2 hltr⟩) .inr
    have ih1 := (ihl (n - 1) pre W0.drew (in_drewN 1 hin.2.1) hltl (((Kee.refl S W0).drew.cell ha).trans cs) (hJd _ _ 1 hJ) (by omega)).mono (R' := fun e W1 =>
      (e = .returned (.bool true) ∧ W1.cell? ⟨b, 0, none⟩ = some (.string k) ∧ W1.cell? ⟨b, 1, none⟩ = some (.bool v) ∧ YieldAt Fence.wide (n - 1) Try.prog l #[.string k, .bool v] W1 fun e W2 =>
       (e = .returned (.bool true) ∧ J (pre ++ walkB s tl ++ [(k, v)]) W2 ∧ Kee S W0 W2 ∧ W2.cell? ⟨b, 3, none⟩ = some (.pointer tr.adr) ∧ In W2 tr) ∨ (e = .returned (.bool false) ∧ Jx (pre ++ walkB s tl ++ [(k, v)]) W2)) ∨
      (e = .returned (.bool false) ∧ ∃ q, q <+: walkB s tl ∧ Jx (pre ++ q) W1))
     (fun e W1 h => h.elim (fun ⟨he, hj, hb0⟩ => have hb1 := (Kee.refl S W0).drew.trans hb0; .inl ⟨he, (hb1.cell (p := ⟨b, 0, none⟩) hb).trans c10, (hb1.cell (p := ⟨b, 1, none⟩) hb).trans c11, hy2 W1 hj hb1⟩) .inr)
    clear hy2 ihl
    gi_wp2
    refine wpIn_region_any (by kernel_rfl) ?_
    change wpAnyIn _ _ _ _ _ _ _ _ _ (World.drew _)
    refine tkJ_ 0 rfl ?_
    refine tkJ_ 1 rfl ?_
    refine tkJ_ 2 rfl ?_
    refine tkJ_ 4 rfl ?_
    refine tkJ_ 5 rfl ?_
    refine wpAnyIn_ready (rs := [3]) (by kernel_rfl) (by simp) ?_
    refine AllReadyIn.cons rfl (fun K hK => ?_) ?_
    ·go_simp
     refine hK _ _ ?_
     clear hK K
     refine wpAnyIn_ready (rs := [6]) (by kernel_rfl) (by simp) ?_
     refine AllReadyIn.cons rfl (fun K hK => ?_) ?_
     ·go_simp
      refine ⟨trivial, hdd _, ih1.mono ?_⟩
      clear ih1
      rintro e W1 (⟨rfl, c10', c11', fn, tmps, assign, body, hy, hR⟩ | ⟨rfl, q, hq, hx1⟩)
      ·refine hK _ _ ?_
       clear hK K
       refine tkJ_ 7 rfl ?_
       refine tkJ_ 8 rfl ?_
       refine tkJ_ 9 rfl ?_
       refine tkJ_ 10 rfl ?_
       refine tkJ_ 11 rfl ?_
       refine tkJ_ 13 rfl ?_
       refine tkJ_ 14 rfl ?_
       refine tkJ_ 15 rfl ?_
       apply cut2
       ·intro hcont
        refine wpAnyIn_ready (rs := [12, 16]) (by kernel_rfl) (by simp) ?_
        refine AllReadyIn.cons rfl (fun K hK => ?_) ?_
        ·go_simp
         refine hK _ _ ?_
         clear hK K
         refine wpAnyIn_ready (rs := [16]) (by kernel_rfl) (by simp) ?_
         refine AllReadyIn.cons rfl (fun K hK => ?_) ?_
         ·go_simp
          refine hK _ _ ?_
          clear hK K
          exact hcont
         exact AllReadyIn.nil
        refine AllReadyIn.cons rfl (fun K hK => ?_) ?_
        ·go_simp
         refine hK _ _ ?_
         clear hK K
         refine wpAnyIn_ready (rs := [12]) (by kernel_rfl) (by simp) ?_
         refine AllReadyIn.cons rfl (fun K hK => ?_) ?_
         ·go_simp
          refine hK _ _ ?_
          clear hK K
          exact hcont
         exact AllReadyIn.nil
        exact AllReadyIn.nil
       refine wpAnyIn_ready (rs := [17]) (by kernel_rfl) (by simp) ?_
       refine AllReadyIn.cons rfl (fun K hK => ?_) ?_
       ·go_simp
        refine ⟨hdd _, hR.mono ?_⟩
        clear hR
        rintro e W2 (⟨rfl, hJ2, hb2, c13', hr2⟩ | ⟨rfl, hx2⟩)
        ·refine hK _ _ ?_
         clear hK K
         refine tkJ_ 18 rfl ?_
         refine tkJ_ 19 rfl ?_
         refine tkJ_ 20 rfl ?_
         refine tkJ_ 21 rfl ?_
         refine tkJ_ 22 rfl ?_
         refine tkJ_ 24 rfl ?_
         refine wpAnyIn_ready (rs := [23]) (by kernel_rfl) (by simp) ?_
         refine AllReadyIn.cons rfl (fun K hK => ?_) ?_
         ·go_simp
          refine hK _ _ ?_
          clear hK K
          refine wpAnyIn_ready (rs := [25]) (by kernel_rfl) (by simp) ?_
          refine AllReadyIn.cons rfl (fun K hK => ?_) ?_
          ·go_simp
           refine ⟨trivial, hdd _, (ihr (n - 1) _ _ hr2 hltr hJ2 (by simp; omega)).mono ?_⟩
           rintro e W3 (⟨rfl, hJ3, hb3⟩ | ⟨rfl, q, hq, hx3⟩)
           ·refine hK _ _ ?_
            clear hK K
            refine tkJ_ 26 rfl ?_
            refine tkJ_ 27 rfl ?_
            refine wpAnyIn_done (by kernel_rfl) ?_ _
            gi_wp2
            go_ret
            exact .inl ⟨rfl, by simpa [List.append_assoc] using hJ3, bl.trans (hb2.trans hb3)⟩
           ·refine hK _ _ ?_
            clear hK K
            refine tkJ_ 26 rfl ?_
            refine tkJ_ 27 rfl ?_
            refine wpAnyIn_done (by kernel_rfl) ?_ _
            gi_wp2
            go_ret
            obtain ⟨r, hr'⟩ := hq
            exact .inr ⟨rfl, walkB s tl ++ (k, v) :: q, ⟨r, by rw [← hr']; simp⟩, by simpa [List.append_assoc] using hx3⟩
          exact AllReadyIn.nil
         exact AllReadyIn.nil
        ·refine hK _ _ ?_
         clear hK K
         refine tkJ_ 18 rfl ?_
         refine tkJ_ 19 rfl ?_
         refine tkU_ 20 rfl ?_
         refine tkU_ 21 rfl ?_
         refine tkU_ 22 rfl ?_
         refine tkU_ 23 rfl ?_
         refine tkU_ 24 rfl ?_
         refine wpAnyIn_ready (rs := [25]) (by kernel_rfl) (by simp) ?_
         refine AllReadyIn.cons rfl (fun K hK => ?_) ?_
         ·go_simp
          refine ⟨trivial, ?_⟩
          refine hK _ _ ?_
          clear hK K
          refine tkJ_ 26 rfl ?_
          refine tkJ_ 27 rfl ?_
          refine wpAnyIn_done (by kernel_rfl) ?_ _
          gi_wp2
          go_ret
          exact .inr ⟨rfl, walkB s tl ++ [(k, v)], ⟨walkA tr, by simp⟩, by simpa [List.append_assoc] using hx2⟩
         exact AllReadyIn.nil
       exact AllReadyIn.nil
      ·refine hK _ _ ?_
       clear hK K
       refine tkJ_ 7 rfl ?_
       refine tkU_ 8 rfl ?_
       refine tkU_ 9 rfl ?_
       refine tkU_ 10 rfl ?_
       refine tkU_ 11 rfl ?_
       refine tkU_ 12 rfl ?_
       refine tkU_ 13 rfl ?_
       refine tkU_ 14 rfl ?_
       refine tkU_ 15 rfl ?_
       refine tkU_ 16 rfl ?_
       refine wpAnyIn_ready (rs := [17]) (by kernel_rfl) (by simp) ?_
       refine AllReadyIn.cons rfl (fun K hK => ?_) ?_
       ·go_simp
        refine ⟨fun _ _ => trivial, ?_⟩
        refine hK _ _ ?_
        clear hK K
        refine tkJ_ 18 rfl ?_
        refine tkJ_ 19 rfl ?_
        refine tkU_ 20 rfl ?_
        refine tkU_ 21 rfl ?_
        refine tkU_ 22 rfl ?_
        refine tkU_ 23 rfl ?_
        refine tkU_ 24 rfl ?_
        refine wpAnyIn_ready (rs := [25]) (by kernel_rfl) (by simp) ?_
        refine AllReadyIn.cons rfl (fun K hK => ?_) ?_
        ·go_simp
         refine ⟨trivial, ?_⟩
         refine hK _ _ ?_
         clear hK K
         refine tkJ_ 26 rfl ?_
         refine tkJ_ 27 rfl ?_
         refine wpAnyIn_done (by kernel_rfl) ?_ _
         gi_wp2
         go_ret
         exact .inr ⟨rfl, q, hq.trans (List.prefix_append _ _), hx1⟩
        exact AllReadyIn.nil
       exact AllReadyIn.nil
     exact AllReadyIn.nil
    exact AllReadyIn.nil
   exact AllReadyIn.nil
end Go.Proofs.Ytebejadiaooooaa.OrdSb
end
section
namespace Go.Proofs.Ytebejadiaooooaa.OrdSb
open Go.RowKit Go.Shelf Go.Proofs.YtebejadiaooooaaW.PrintWords Go.Proofs.YtebejadiaooooaaW.PrintLast Go.Proofs.YtebejadiaooooaaW.PrintMore Go.Proofs.Ytebejadiaooooaa.Own Go.Proofs.Ytebejadiaooooaa.Ord
attribute [local go_sem] Oper.semAt_some
set_option maxHeartbeats 2000000
set_option maxRecDepth 100000
theorem drewN_of_abides {β : Type} {B : Nat} {J : β → World → Prop} (h : AbidesFrom B J) (s : β) (W : World) (n : Nat) (hj : J s W) : J s (W.drewN n) :=
 h s W (W.drewN n) none hj ⟨rfl, rfl, rfl, Nat.le_refl _, fun _ _ _ => rfl⟩ (fun r e => by cases e)
def MpI (S : Nat → Prop) (W : World) : Option Addr → Kn ByteArray Bool → Prop
 | none, T => T = .nil
 | some a, T => S a.block ∧ W.cell? a = some (.pointer T.adr) ∧ In W T ∧ ∀ x ∈ T.bs, S x
theorem MpI.kee {S : Nat → Prop} {A B : World} (h : Kee S A B) : ∀ {p : Option Addr} {T : Kn ByteArray Bool}, MpI S A p T → MpI S B p T
 | none, _, hm => hm
 | some a, _, ⟨h1, h2, h3, h4⟩ => ⟨h1, (h.cell h1).trans h2, in_kee h h3 h4, h4⟩
theorem all1_in (n : Nat) (l Bb : Nat) (S : Nat → Prop) (p : Option Addr) (T : Kn ByteArray Bool) (J Jx : List (ByteArray × Bool) → World → Prop) (hJd : ∀ pre W n, J pre W → J pre (W.drewN n))
  (hY : ∀ pre x W, J pre W → pre.length < (walkA T).length → YieldAt Fence.wide (n - 1) Try.prog l #[.string x.1, .bool x.2] W fun e W' =>
   (e = .returned (.bool true) ∧ J (pre ++ [x]) W' ∧ Kee S W W') ∨ (e = .returned (.bool false) ∧ Jx (pre ++ [x]) W'))
  (W : World) (hB : W.cell? ⟨Bb, 0, none⟩ = some (.pointer p)) (hT : MpI S W p T) (h0 : J [] W) :
  CallsIn Fence.wide n Try.prog 105 #[.func (.yield l) #[] #[], .pointer (some ⟨Bb, 0, none⟩)] W fun e W' => (∃ v, e = .returned v) ∧
   ((∃ ys, ys = walkA T ∧ J ys W') ∨ (∃ pre, pre <+: walkA T ∧ Jx pre W')) := by
 have hdd : ∀ k : Nat, (Fence.wide.depth.isSome = true → 1 ≤ k) := fun k h => by cases h
 cases p with
 | none =>
  obtain rfl : T = .nil := hT
  refine callsIn_of_wp Try.func105 rfl trivial ?_ rfl
  simp only [Try.ntmps105, List.size_toArray, List.length_cons, List.length_nil, Nat.reduceAdd, Nat.reduceSub, Array.replicate_succ, Array.replicate_zero, List.push_toArray, List.append_toArray, List.nil_append, List.cons_append]
  gi_wp2
  go_end0
  exact ⟨⟨_, rfl⟩, .inl ⟨[], rfl, h0⟩⟩
 | some a =>
  obtain ⟨_, hc, hin, hS⟩ := hT
  have hp := walk_none l (walkA T).length S J Jx hJd (fun m pre x W hj hl => YieldAt.anyDepth rfl m (hY pre x W hj hl)) T (n - 1) [] W hin hS h0 (by simp)
  clear hY hin hS
  refine callsIn_of_wp Try.func105 rfl trivial ?_ rfl
  simp only [Try.ntmps105, List.size_toArray, List.length_cons, List.length_nil, Nat.reduceAdd, Nat.reduceSub, Array.replicate_succ, Array.replicate_zero, List.push_toArray, List.append_toArray, List.nil_append, List.cons_append]
  gi_wp2_with (refine ⟨trivial, hdd _, hp.mono ?_⟩; clear hp; rintro e W1 (⟨rfl, hJ1, _⟩ | ⟨rfl, q, hq, hx⟩))
  ·go_end0
   exact ⟨⟨_, rfl⟩, .inl ⟨_, rfl, by simpa using hJ1⟩⟩
  ·go_end0
   exact ⟨⟨_, rfl⟩, .inr ⟨q, hq, by simpa using hx⟩⟩
theorem all_in (n : Nat) (p : Option Addr) (w : World) :
  CallsIn Fence.wide n Try.prog 71 #[.pointer p] w fun e w' => e = .returned (.func (.func 105) #[] #[.pointer (some ⟨w.heap.size, 0, none⟩)]) ∧ ∃ t, w' = w.alloc (.cells #[.pointer p] t) := by
 refine callsIn_of_wp Try.func71 rfl trivial ?_ rfl
 simp only [Try.ntmps71, List.size_toArray, List.length_cons, List.length_nil, Nat.reduceAdd, Nat.reduceSub, Array.replicate_succ, Array.replicate_zero, List.push_toArray, List.append_toArray, List.nil_append, List.cons_append]
 gi_wp2
 go_ret
 exact ⟨rfl, _, rfl⟩
end Go.Proofs.Ytebejadiaooooaa.OrdSb
end
section
namespace Go.Proofs.Ytebejadiaooooaa.OrdSb
open Go.RowKit Go.Shelf Go.Proofs.YtebejadiaooooaaW.PrintWords Go.Proofs.YtebejadiaooooaaW.PrintLast Go.Proofs.YtebejadiaooooaaW.PrintMore Go.Proofs.Ytebejadiaooooaa.Own Go.Proofs.Ytebejadiaooooaa.Ord
attribute [local go_sem] Oper.semAt_some
set_option maxHeartbeats 2000000
set_option maxRecDepth 100000
def MpN (w : World) : Option Addr → Kn ByteArray Bool → Prop
 | none, T => T = .nil
 | some a, T => a = ⟨a.block, 0, none⟩ ∧ Mp w a.block T
theorem MpN.mpI {w : World} {p : Option Addr} {T : Kn ByteArray Bool} (h : MpN w p T) : MpI (fun k => k < w.heap.size) w p T := by
 cases p with
 | none => exact h
 | some a =>
  obtain ⟨h1, h2⟩ := h
  exact ⟨blk_lt h2.blk, by rw [h1]; exact blk_cell h2.blk 0, h2.inn, in_lt h2.inn⟩
theorem MpI.wide {S S' : Nat → Prop} {w : World} (hS : ∀ k, S k → S' k) : ∀ {p : Option Addr} {T : Kn ByteArray Bool}, MpI S w p T → MpI S' w p T
 | none, _, h => h
 | some _, _, ⟨h1, h2, h3, h4⟩ => ⟨hS _ h1, h2, h3, fun x hx => hS _ (h4 x hx)⟩
theorem run_eql_func_nil (t : TypeId) (ps rs : Array TypeId) (vd : Bool) (f : Fn) (x y : Array Value) (w : World) (h : Try.prog.underlying t = some (.func ps rs vd)) :
  (binOp .eql t (.func f x y) .nilFunc).run Try.prog w = .ok (.bool false) w := by
 have h1 : ∀ d, (Op.equalIn (d + 1) t (.func f x y) .nilFunc).run Try.prog w = .ok false w := fun d => by simp [Op.equalIn, run_underlying h]
 simp only [binOp]
 simp [Op.equal, Op.maxDepth, h1 9999]
theorem own_empty {w : World} {g base e size : Nat} (h : w.heap[g]? = some (.cells #[] e (0, 0))) (hb : base ≤ g) : w.ownsRow base e size (.slice (some ⟨g, 0, none⟩) 0 0) 0 [] :=
 ⟨by simp, .inr ⟨g, 0, #[], rfl, hb, h, Nat.le_refl _, Nat.zero_le _, by simp, by simp⟩⟩
theorem cell_two_new (w : World) (x y : Value) (t : TypeId) : ∀ j u, [x, y][j]? = some u → (w.alloc (.cells #[x, y] t)).cell? ((⟨w.heap.size, 0, none⟩ : Addr).add j) = some u := by
 intro j u hj
 match j, hj with
 | 0, hj => simp at hj; subst hj; simp [Addr.add]
 | 1, hj => simp at hj; subst hj; simp [Addr.add]
 | _ + 2, hj => simp at hj
end Go.Proofs.Ytebejadiaooooaa.OrdSb
end
section
namespace Go.Proofs.Ytebejadiaooooaa.OrdSb
open Go.RowKit Go.Shelf Go.Proofs.YtebejadiaooooaaW.PrintWords Go.Proofs.YtebejadiaooooaaW.PrintLast Go.Proofs.YtebejadiaooooaaW.PrintMore Go.Proofs.Ytebejadiaooooaa.Own Go.Proofs.Ytebejadiaooooaa.Ord
theorem iter_of {α : Type} {g : Nat} {lb : Array Value} {encs : α → Array Value} {R Rp : List α → Prop} {N n : Nat} {S : Nat → Prop} {w : World} (hS : ∀ k, S k → k < w.heap.size)
  (h : ∀ (l : Nat) (J Jx : List α → World → Prop) (W : World), (∀ pre W n, J pre W → J pre (W.drewN n)) → (∀ k, S k → W.heap[k]? = w.heap[k]?) → w.heap.size ≤ W.heap.size →
   (∀ pre x W1, J pre W1 → pre.length < N → YieldAt Fence.wide (n - 1) Try.prog l (encs x) W1 fun e W' => (e = .returned (.bool true) ∧ J (pre ++ [x]) W' ∧ Kee S W1 W') ∨ (e = .returned (.bool false) ∧ Jx (pre ++ [x]) W')) → J [] W →
   CallsIn Fence.wide n Try.prog g (#[.func (.yield l) #[] #[]] ++ lb) W fun e W' => (∃ v, e = .returned v) ∧ ((∃ ys, R ys ∧ J ys W') ∨ (∃ pre, Rp pre ∧ Jx pre W'))) :
  It.Iter Fence.wide n Try.prog g lb encs R Rp N S w := by
 intro l J Jx M W hWf hSW hM hJ hJx hY h0
 refine (h l (fun pre W1 => ∃ M1, J pre M1 W1 ∧ (∀ k, M1 k → (M k ∨ W.heap.size ≤ k) ∧ k < W1.heap.size) ∧ It.FrM M W W1) (fun pre W1 => ∃ M1, Jx pre M1 W1 ∧ (∀ k, M1 k → (M k ∨ W.heap.size ≤ k) ∧ k < W1.heap.size) ∧ It.FrM M W W1) W ?_ (fun k hk => hWf.block k (hS k hk) (fun q => q hk)) hWf.size ?_ ⟨M, h0, fun k hk => ⟨.inl hk, hM k hk⟩, It.FrM.refl _ _⟩).mono ?_
 ·rintro pre W1 m ⟨M1, a, b, c⟩
  exact ⟨M1, hJ _ _ _ _ a ((It.FrM.refl _ _).drewN m), b, c.drewN m⟩
 ·rintro pre x W1 ⟨M1, a, b, c⟩ hlen
  refine YieldAt.mono (hY pre x M1 W1 a b c hlen) ?_
  rintro e W' ⟨M', b', f', q⟩
  have bb : ∀ k, M' k → (M k ∨ W.heap.size ≤ k) ∧ k < W'.heap.size := fun k hk => ⟨by
   rcases (b' k hk).1 with z | z
   ·exact (b k z).1
   ·have := c.size; exact .inr (by omega), (b' k hk).2⟩
  have ff : It.FrM M W W' := c.trans f' (fun i hi => (b i hi).1)
  rcases q with ⟨rfl, hj⟩ | ⟨rfl, hj⟩
  ·refine .inl ⟨rfl, ⟨M', hj, bb, ff⟩, ⟨f'.size, fun k hk => f'.block k (by have := hS k hk; have := c.size; have := hWf.size; omega) (fun hm => ?_)⟩⟩
   rcases (b k hm).1 with z | z
   ·exact (hSW k hk).2 z
   ·have := hS k hk; have := hWf.size; omega
  ·exact .inr ⟨rfl, M', hj, bb, ff⟩
 ·rintro e W' ⟨hv, ⟨ys, hR, M', hj, b, f⟩ | ⟨pre, hR, M', hj, b, f⟩⟩
  ·exact ⟨hv, M', b, f, .inl ⟨ys, hR, hj⟩⟩
  ·exact ⟨hv, M', b, f, .inr ⟨pre, hR, hj⟩⟩
theorem cell_of_blk {w W : World} {a : Addr} {v : Value} (h : w.cell? a = some v) (e : W.heap[a.block]? = w.heap[a.block]?) : W.cell? a = some v := (World.cell?_of_block e).trans h
theorem all_iter (n Bb : Nat) (S : Nat → Prop) (p : Option Addr) (T : Kn ByteArray Bool) (w : World) (hS : ∀ k, S k → k < w.heap.size) (hBb : S Bb) (hc : w.cell? ⟨Bb, 0, none⟩ = some (.pointer p)) (hT : MpI S w p T) :
  It.Iter Fence.wide n Try.prog 105 #[.pointer (some ⟨Bb, 0, none⟩)] (fun x : ByteArray × Bool => #[.string x.1, .bool x.2]) (fun ys => ys = walkA T) (fun pre => pre <+: walkA T) (walkA T).length S w :=
 iter_of hS (fun l J Jx W hJd hSW hsz hY h0 => all1_in n l Bb S p T J Jx hJd hY W (cell_of_blk hc (hSW Bb hBb)) (hT.kee ⟨hsz, hSW⟩) h0)
end Go.Proofs.Ytebejadiaooooaa.OrdSb
end
