/- Texts of one claim (laid by shake.py). -/
import Derived.Test.YtebejadiaooooaaZt26
import Derived.Test.YtebejadiaooooaaZt6
import Derived.Test.YtebejadiaooooaaZt7
import Derived.Test.YtebejadiaooooaaZt13
import Derived.RangeFuncBox
import Derived.Test.YtebejadiaooooaaZt9
set_option linter.unusedVariables false
set_option linter.unusedSimpArgs false
section
namespace Go.Proofs.Ytebejadiaooooaa.Cp
open Go.RowKit Go.Shelf Go.Proofs.YtebejadiaooooaaW.PrintWords Go.Proofs.YtebejadiaooooaaW.PrintLast Go.Proofs.YtebejadiaooooaaW.PrintMore Go.Proofs.Ytebejadiaooooaa.Own Go.Proofs.Ytebejadiaooooaa
set_option maxHeartbeats 8000000
set_option maxRecDepth 100000
abbrev Sw (W : World) (base : Nat) (v : Value) (l : List ByteArray) : Prop := W.ownsRow base 9 1 v l.length (l.map Value.string)
theorem Sw.below {w W : World} {base : Nat} {v : Value} {xs : List ByteArray} (ho : Sw w base v xs) (hb : Below w.heap.size w W) : Sw W base v xs :=
 own_move ho (fun k hk => hb.block k (own_lt ho k hk))
theorem Sw.some {W : World} {base : Nat} {v : Value} {l : List ByteArray} (h : Sw W base v l) (hl : 0 < l.length) : ∃ b, v.ownBlock = some b := by
 rcases h.2 with ⟨h', _⟩ | ⟨g, cap, cur, h', _⟩
 ·omega
 ·exact ⟨g, by rw [h']; rfl⟩
theorem cell_lit {W : World} {D e : Nat} {cs : Array Value} (h : W.heap[D]? = some (.cells cs e (0, 0))) : ∀ j u, cs.toList[j]? = some u → W.cell? ((⟨D, 0, none⟩ : Addr).add j) = some u := by
 intro j u hj
 have : (⟨D, 0, none⟩ : Addr).add j = ⟨D, j, none⟩ := by unfold Addr.add; split <;> simp_all
 rw [this, cell_of_row W D j cs e (0, 0) h]
 simpa using hj
theorem infoS : (Try.prog.info? 9).map (fun i => (i.zero, i.size, i.bytes)) = some (some (.string ⟨#[]⟩), 1, 16) := by kernel_rfl
theorem info_parts2 {P : Program} {t : TypeId} {z : Option Value} {a b : Nat} (h : (P.info? t).map (fun i => (i.zero, i.size, i.bytes)) = some (z, a, b)) : ∃ i, P.info? t = some i ∧ i.zero = z ∧ i.size = a ∧ i.bytes = b := by
 cases hi : P.info? t with
 | none => rw [hi] at h; cases h
 | some i =>
  rw [hi] at h
  simp only [Option.map_some, Option.some.injEq, Prod.mk.injEq] at h
  exact ⟨i, rfl, h.1, h.2.1, h.2.2⟩
theorem after_any (s : ByteArray) (hs : s.size ≤ 140737488351232) (W : World) : Calls Try.prog 82 #[.string s] W fun e w' => e = .returned (.string (P.succB s)) ∧ Below W.heap.size W w' :=
 (P.key_After.calls _ _ _ (P.After_eq _ hs)).mono (by rintro e w' ⟨h, ⟨n, rfl⟩⟩; exact ⟨h, pw_below_drewN (Below.refl _ _) n⟩)
theorem le_max4 {n k : Nat} (h : n ≤ 1000000) (hk : k ≤ 10) : n + k ≤ maxLen := Nat.le_trans (Nat.add_le_add h hk) (by unfold maxLen; decide)
end Go.Proofs.Ytebejadiaooooaa.Cp
end
section
namespace Go.Proofs.Ytebejadiaooooaa.Dl
open Go.Proofs.Ytebejadiaooooaa.Ord (Fr)
open List renaming setIfInBounds_toArray → sA1, set_cons_zero → sA2, set_cons_succ → sA3, getElem_toArray → sA4, getElem_cons_zero → sA5, getElem_cons_succ → sA6
open Go.RowKit Go.Shelf Go.Proofs.Ytebejadiaooooaa.Cp Go.Proofs.YtebejadiaooooaaW.PrintWords Go.Proofs.YtebejadiaooooaaW.PrintLast Go.Proofs.YtebejadiaooooaaW.PrintMore Go.Proofs.Ytebejadiaooooaa.Own Go.Proofs.Ytebejadiaooooaa
set_option maxHeartbeats 8000000
set_option maxRecDepth 100000
abbrev Ms := P.S32
structure St (W : World) (base O R : Nat) (ov rv : Value) (out : List Ms) (row : List ByteArray) : Prop where
 bo : W.heap[O]? = some (.cells #[ov] 22 (0, 0))
 br : W.heap[R]? = some (.cells #[rv] 24 (0, 0))
 ho : Rw W base ov out
 hr : Sw W base rv row
theorem St.below {W W' : World} {base O R : Nat} {ov rv : Value} {out : List Ms} {row : List ByteArray} (h : St W base O R ov rv out row) (hb : Below W.heap.size W W') : St W' base O R ov rv out row := ⟨blk_below h.bo hb, blk_below h.br hb, h.ho.below hb, h.hr.below hb⟩
theorem St.alloc {W : World} {base O R : Nat} {ov rv : Value} {out : List Ms} {row : List ByteArray} (h : St W base O R ov rv out row) (x : Obj) : St (W.alloc x) base O R ov rv out row := ⟨blk_alloc h.bo x, blk_alloc h.br x, World.ownsRow.alloc h.ho x, World.ownsRow.alloc h.hr x⟩
theorem own_obj {W : World} {base e size n : Nat} {v : Value} {xs : List Value} (h : W.ownsRow base e size v n xs) {k : Nat} (hk : v.ownBlock = some k) : ∃ cur, W.heap[k]? = some (.cells cur e (0, 0)) := by
 rcases h.2 with ⟨h', _⟩ | ⟨g, cap, cur, h', _, hg, _⟩
 ·rw [h'] at hk; cases hk
 ·rw [h'] at hk
  injection hk with hk
  subst hk
  exact ⟨cur, hg⟩
theorem box_ne {W : World} {base e size n B t : Nat} {v : Value} {xs : List Value} {cs : Array Value} (h : W.ownsRow base e size v n xs) (hB : W.heap[B]? = some (.cells cs t (0, 0))) (hte : t ≠ e) : some B ≠ v.ownBlock := by
 intro he
 obtain ⟨cur, hc⟩ := own_obj h he.symm
 rw [hB] at hc
 injection hc with hc
 injection hc with _ hc
 exact hte hc
theorem St.told {W W1 : World} {base O R : Nat} {ov ov' rv : Value} {out : List Ms} {row : List ByteArray} {m : Ms} (h : St W base O R ov rv out row) (hown : W1.ownsRow base 32 6 ov' (out.length + 1) (flat out ++ enc m)) (hg : W.grownBy W1 ov.ownBlock) (hat : ov'.ownBlock = ov.ownBlock ∨ ov'.ownBlock = some W.heap.size) : St (W1.setCell ⟨O, 0, none⟩ ov') base O R ov' rv (out ++ [m]) row := by
 have hO := box_ne h.ho h.bo (by decide)
 have hR := box_ne h.ho h.br (by decide)
 have bo1 := blk_grown h.bo hg hO
 have br1 := blk_grown h.br hg hR
 have hr1 : Sw W1 base rv row := by
  refine own_move h.hr (fun k hk => hg.block k (own_lt h.hr k hk) (fun e => ?_))
  obtain ⟨c1, e1⟩ := own_obj h.hr hk
  obtain ⟨c2, e2⟩ := own_obj h.ho e.symm
  rw [e1] at e2
  injection e2 with e2
  injection e2 with _ e2
  exact absurd e2 (by decide)
 have hOR : O ≠ R := blk_ne h.bo h.br (by decide)
 have hOo : some O ≠ ov'.ownBlock := box_ne hown bo1 (by decide)
 have hOr : some O ≠ rv.ownBlock := box_ne hr1 bo1 (by decide)
 refine ⟨by simpa using blk_set bo1 0 ov', blk_far br1 (by simpa using fun e => hOR e.symm) ov', ?_, ?_⟩
 ·have : Rw W1 base ov' (out ++ [m]) := Rw.snoc hown
  exact own_move this (fun k hk => Below.heap_setCell W1 _ ov' k (fun e => hOo (by rw [hk, e])))
 ·exact own_move hr1 (fun k hk => Below.heap_setCell W1 _ ov' k (fun e => hOr (by rw [hk, e])))
theorem fr_grown {W W' : World} {r : Option Nat} (hg : W.grownBy W' r) : Fr r.toList W W' := ⟨hg.os, hg.tape, hg.output, hg.size, fun k hk hn => hg.block k hk (fun e => hn (by rw [← e]; simp))⟩
def endV (out : List Ms) (row : List ByteArray) : List Ms :=
 match row with
 | [] => out
 | [s] => out ++ [⟨2, 0, s, P.e0, P.e0, 0⟩]
 | s :: l => out ++ [⟨4, 0, s, P.succB ((s :: l).getLast (by simp)), P.e0, 0⟩]
def EndPost (W : World) (base O R : Nat) (ov : Value) (out : List Ms) (row : List ByteArray) (e : Ending) (w' : World) : Prop :=
 ∃ v ov' rv', e = .returned v ∧ St w' base O R ov' rv' (endV out row) [] ∧ Fr (O :: R :: ov.ownBlock.toList) W w' ∧ (ov'.ownBlock = ov.ownBlock ∨ ∃ k, ov'.ownBlock = some k ∧ W.heap.size ≤ k)
theorem end_0 {W : World} {base O R : Nat} {ov rv : Value} {out : List Ms} (h : St W base O R ov rv out []) :
  Calls Try.prog 81 #[.pointer (some ⟨R, 0, none⟩), .pointer (some ⟨O, 0, none⟩)] W (EndPost W base O R ov out []) := by
 have hrv : ∃ A c, rv = .slice A 0 c := by
  rcases h.hr.2 with ⟨h', _⟩ | ⟨g, cap, cur, h', _⟩
  ·exact ⟨_, _, h'⟩
  ·exact ⟨_, _, h'⟩
 obtain ⟨A, c, rfl⟩ := hrv
 have r0 : W.cell? ⟨R, 0, none⟩ = some (.slice A 0 c) := blk_cell h.br 0
 have hA := Aside0.mk h
 clear h
 go_enter Try.func81, Try.ntmps81
 go_wp2
 refine bodyPost_ret (results_none rfl _ _ _) rfl ?_
 exact ⟨_, _, _, rfl, hA.out, Fr.refl _ _, .inl rfl⟩
theorem St.kept {W W1 : World} {base O R : Nat} {ov rv : Value} {out : List Ms} {row : List ByteArray} (h : St W base O R ov rv out row) (hg : W.grownBy W1 ov.ownBlock) : W1.heap[O]? = some (.cells #[ov] 22 (0, 0)) ∧ W1.heap[R]? = some (.cells #[rv] 24 (0, 0)) ∧ Sw W1 base rv row := by
 refine ⟨blk_grown h.bo hg (box_ne h.ho h.bo (by decide)), blk_grown h.br hg (box_ne h.ho h.br (by decide)), own_move h.hr (fun k hk => hg.block k (own_lt h.hr k hk) (fun e => ?_))⟩
 obtain ⟨c1, e1⟩ := own_obj h.hr hk
 obtain ⟨c2, e2⟩ := own_obj h.ho e.symm
 rw [e1] at e2
 injection e2 with e2
 injection e2 with _ e2
 exact absurd e2 (by decide)
theorem St.clear {W : World} {base O R : Nat} {ov rv : Value} {out : List Ms} {row : List ByteArray} (h : St W base O R ov rv out row) : St (W.setCell ⟨R, 0, none⟩ (.slice none 0 0)) base O R ov (.slice none 0 0) out [] := by
 have hOR : O ≠ R := blk_ne h.bo h.br (by decide)
 have hRo : some R ≠ ov.ownBlock := box_ne h.ho h.br (by decide)
 exact ⟨blk_far h.bo (by simpa using hOR) _, by simpa using blk_set h.br 0 (.slice none 0 0), own_move h.ho (fun k hk => Below.heap_setCell W _ _ k (fun e => hRo (by rw [hk, e]))), World.ownsRow_nil _ _ _ _⟩
theorem end_fr {W W0 W1 W2 : World} {O R : Nat} {ov ov' : Value} (h0 : Fr (O :: R :: ov.ownBlock.toList) W W1) (hg : W1.grownBy W2 ov.ownBlock) : Fr (O :: R :: ov.ownBlock.toList) W ((W2.setCell ⟨O, 0, none⟩ ov').setCell ⟨R, 0, none⟩ (.slice none 0 0)) :=
 Ord.Fr.set (Ord.Fr.set (Ord.Fr.trans h0 (fr_grown hg) (fun x hx => .inl (List.mem_cons_of_mem _ (List.mem_cons_of_mem _ hx)))) (.inl (by simp)) _) (.inl (by simp)) _
theorem end_at {W W1 : World} {ov ov' : Value} (hs : W.heap.size ≤ W1.heap.size) (hat : ov'.ownBlock = ov.ownBlock ∨ ov'.ownBlock = some W1.heap.size) : ov'.ownBlock = ov.ownBlock ∨ ∃ k, ov'.ownBlock = some k ∧ W.heap.size ≤ k := by
 rcases hat with h | h
 ·exact .inl h
 ·exact .inr ⟨_, h, hs⟩
theorem endT5 : rtab .any (opsOf Try.f81 5) = rtab .any (opsOf Try.f81 5) := rfl
theorem endT2 : rtab .any (opsOf Try.f81 2) = rtab .any (opsOf Try.f81 2) := rfl
theorem St.row1 {W : World} {base O R : Nat} {ov : Value} {out : List Ms} {row : List ByteArray} {g cap : Nat} (h : St W base O R ov (.slice (some ⟨g, 0, none⟩) row.length cap) out row) {i : Nat} {s : ByteArray} (hi : row[i]? = some s) : W.cell? ⟨g, i, none⟩ = some (.string s) := by
 have hl := (List.getElem?_eq_some_iff.1 hi).1
 have := World.ownsRow.cellAt h.hr i (by omega)
 rw [this, List.getElem?_map, hi]
 rfl
theorem St.rv {W : World} {base O R : Nat} {ov rv : Value} {out : List Ms} {row : List ByteArray} (h : St W base O R ov rv out row) (hr : 0 < row.length) : ∃ g cap, rv = .slice (some ⟨g, 0, none⟩) row.length cap := by
 rcases h.hr.2 with ⟨_, h'⟩ | ⟨g, cap, cur, h', _⟩
 ·omega
 ·exact ⟨g, cap, h'⟩
theorem end_1 {W : World} {base O R : Nat} {ov rv : Value} {out : List Ms} {s : ByteArray} (h : St W base O R ov rv out [s]) (hb : base ≤ W.heap.size) (hol : out.length ≤ 100000) :
  Calls Try.prog 81 #[.pointer (some ⟨R, 0, none⟩), .pointer (some ⟨O, 0, none⟩)] W (EndPost W base O R ov out [s]) := by
 have hum := Try.underlying32
 obtain ⟨i0, hi, hz0, hz1, hz2⟩ := info_parts P.info32
 obtain ⟨g, cap, rfl⟩ := h.rv (by simp)
 have r0 := blk_cell h.br 0
 simp only [List.getElem?_toArray, List.getElem?_cons_zero] at r0
 have hA := Aside0.mk h
 clear h
 go_enter Try.func81, Try.ntmps81
 go_wp2
 rename_i K0 hK0
 have hA0 : St W.drew base O R ov (.slice (some ⟨g, 0, none⟩) ([s]).length cap) out [s] := ⟨hA.out.bo, hA.out.br, hA.out.ho, hA.out.hr⟩
 clear r0
 refine start_ (n := 8) (S := fun w' => w'.cell? ⟨R, 0, none⟩ = some (.slice (some ⟨g, 0, none⟩) 1 cap) ∧ w'.cell? ⟨O, 0, none⟩ = some ov ∧ w'.cell? ⟨g, 0, none⟩ = some (.string s)) (ds := [7]) #[false, false, false, false, false, false, false, false] (by kernel_rfl) rfl rfl ⟨by simpa using blk_cell hA0.br 0, by simpa using blk_cell hA0.bo 0, hA0.row1 (i := 0) rfl⟩ (fun hHeld => ?_)
 have HT_ := Aside0.mk endT5
 refine take_ (i := 0) (N := some 23) (v := ?_) (a' := ?_) #[true, false, false, false, false, false, false, false] rfl rfl (take_of HT_.out (by kernel_rfl)) (fun _ _ _ h => h) (Or.inl ⟨by rfl, ?_⟩) hHeld ?_ ?_
 rotate_left
 ·rintro w' ⟨s0, s1, s2⟩
  go_simp
  with_reducible rfl
 rotate_left
 ·simp only [Act.put, sA1, sA2, sA3, i64_w, i32_w]
  rfl
 refine take_ (i := 1) (N := some 24) (v := ?_) (a' := ?_) #[true, true, false, false, false, false, false, false] rfl rfl (take_of HT_.out (by kernel_rfl)) (fun _ _ _ h => h) (Or.inl ⟨by rfl, ?_⟩) hHeld ?_ ?_
 rotate_left
 ·rintro w' ⟨s0, s1, s2⟩
  go_simp
  with_reducible rfl
 rotate_left
 ·simp only [Act.put, sA1, sA2, sA3, i64_w, i32_w]
  rfl
 refine pU_ 2 25 #[true, true, true, false, false, false, false, false] ?_
 refine take_ (i := 3) (N := some 26) (v := ?_) (a' := ?_) #[true, true, true, true, false, false, false, false] rfl rfl (take_of HT_.out (by kernel_rfl)) (fun _ _ _ h => h) (Or.inl ⟨by rfl, ?_⟩) hHeld ?_ ?_
 rotate_left
 ·rintro w' ⟨s0, s1, s2⟩
  go_simp
  with_reducible rfl
 rotate_left
 ·simp only [Act.put, sA1, sA2, sA3, i64_w, i32_w]
  rfl
 refine pU_ 4 27 #[true, true, true, true, true, false, false, false] ?_
 refine one_ (i := 5) (N := some 28) #[true, true, true, true, true, true, false, false] rfl rfl (one_of HT_.out (by kernel_rfl)) (by decide) (fun K hK => ?_)
 refine value_ (w1 := W.drew.alloc (objM (⟨2, 0, s, P.e0, P.e0, 0⟩ : Ms))) (v := .slice (some ⟨W.drew.heap.size, 0, none⟩) 1 1) (by rfl) rfl ?_ ?_
 ·first | (go_simp; done) | (go_simp; rfl)
 have hA1 := hA0.alloc (objM (⟨2, 0, s, P.e0, P.e0, 0⟩ : Ms))
 refine hK.out _ _ ⟨by simpa using blk_cell hA1.br 0, by simpa using blk_cell hA1.bo 0, hA1.row1 (i := 0) rfl⟩ (fun hHeld => ?_)
 clear hK K
 refine norm_ (a' := ?_) ?_ ?_
 rotate_left
 ·show Act.put _ (some 28) _ = _
  simp only [Act.put, sA1, sA2, sA3, i64_w, i32_w]
  rfl
 refine one_ (i := 6) (N := some 29) #[true, true, true, true, true, true, true, false] rfl rfl (one_of HT_.out (by kernel_rfl)) (by decide) (fun K hK => ?_)
 refine append_step (by rfl) rfl _ _ 22 rfl base 32 i0 zM 6 72 Try.underlying22 hi hz0 hz1 hz2 rfl (by decide) ov out.length (flat out) rfl hA1.ho ⟨W.drew.heap.size, 0, none⟩ 1 1 (enc (⟨2, 0, s, P.e0, P.e0, 0⟩ : Ms)) rfl rfl (cell_enc (blk_new W.drew (objM (⟨2, 0, s, P.e0, P.e0, 0⟩ : Ms)))) (enc_one (⟨2, 0, s, P.e0, P.e0, 0⟩ : Ms)) (le_max hol) (by omega) (by simpa using Nat.le_succ_of_le hb) ?_
 intro v7 w7 hown7 hg7 hat7
 obtain ⟨A7, c7, e7⟩ := Rw.slice (Rw.snoc (m := (⟨2, 0, s, P.e0, P.e0, 0⟩ : Ms)) hown7)
 subst e7
 obtain ⟨ko, kr, kw⟩ := hA1.kept hg7
 refine hK.out _ _ ⟨by simpa using blk_cell kr 0, by simpa using blk_cell ko 0, by have := World.ownsRow.cellAt kw 0 (by simp); simpa using this⟩ (fun hHeld => ?_)
 clear hK K
 refine norm_ (a' := ?_) ?_ ?_
 rotate_left
 ·show Act.put _ (some 29) _ = _
  simp only [Act.put, sA1, sA2, sA3, i64_w, i32_w]
  rfl
 have z0 := blk_frozen ko 0
 obtain ⟨t0, t1, t2⟩ := hHeld
 refine last_ (i := 7) (N := none) #[true, true, true, true, true, true, true, true] rfl rfl (one_of HT_.out (by kernel_rfl)) (by decide) (fun K hK => ?_)
 refine skip_ (w1 := w7.setCell ⟨O, 0, none⟩ (.slice A7 (out ++ [(⟨2, 0, s, P.e0, P.e0, 0⟩ : Ms)]).length c7)) (by rfl) rfl ?_ ?_
 ·first | (go_simp; done) | (go_simp; rfl)
 refine hK.out _ _ ?_
 clear hK K
 refine done_ (done_of HT_.out (by kernel_rfl)) ?_
 have hT := hA1.told hown7 hg7 hat7
 have hF := end_fr (W0 := W) (ov' := .slice A7 (out ++ [(⟨2, 0, s, P.e0, P.e0, 0⟩ : Ms)]).length c7) (O := O) (R := R) (Ord.Fr.alloc (Ord.Fr.drew (Ord.Fr.refl _ _)) _) hg7
 have hE := end_at (W := W) (W1 := W.drew.alloc (objM (⟨2, 0, s, P.e0, P.e0, 0⟩ : Ms))) (by show W.heap.size ≤ _; simp) hat7
 have y0 := blk_cell hT.br 0
 have y1 := blk_frozen hT.br 0
 simp only [List.getElem?_toArray, List.getElem?_cons_zero] at y0
 have hT2 := Aside0.mk hT.clear
 have hFA := Aside0.mk hF
 have hEA := Aside0.mk hE
 clear hT hF hE z0 t0 t1 t2
 generalize w7.setCell ⟨O, 0, none⟩ (.slice A7 (out ++ [(⟨2, 0, s, P.e0, P.e0, 0⟩ : Ms)]).length c7) = w8 at hT2 hFA y0 y1 ⊢
 show K0 _ _
 refine hK0 _ _ ?_
 go_wp2
 refine bodyPost_ret (results_none rfl _ _ _) rfl ?_
 exact ⟨_, _, _, rfl, hT2.out, hFA.out, hEA.out⟩
theorem row_cell {W : World} {base g cap : Nat} {row : List ByteArray} (h : Sw W base (.slice (some ⟨g, 0, none⟩) row.length cap) row) {i : Nat} {s : ByteArray} (hi : row[i]? = some s) : W.cell? ⟨g, i, none⟩ = some (.string s) := by
 have hl := (List.getElem?_eq_some_iff.1 hi).1
 have := World.ownsRow.cellAt (n := row.length) (size := 1) h i (by omega)
 rw [this, List.getElem?_map, hi]
 rfl
theorem end_n {W : World} {base O R : Nat} {ov rv : Value} {out : List Ms} {row : List ByteArray} {s sl : ByteArray} (hn : 2 ≤ row.length) (hs : row[0]? = some s) (hl : row[row.length - 1]? = some sl) (hsz : sl.size ≤ 140737488351232) (hev : endV out row = out ++ [⟨4, 0, s, P.succB sl, P.e0, 0⟩]) (h : St W base O R ov rv out row) (hb : base ≤ W.heap.size) (hol : out.length ≤ 100000) :
  Calls Try.prog 81 #[.pointer (some ⟨R, 0, none⟩), .pointer (some ⟨O, 0, none⟩)] W (EndPost W base O R ov out row) := by
 have hum := Try.underlying32
 obtain ⟨i0, hi, hz0, hz1, hz2⟩ := info_parts P.info32
 have hmx := h.hr
 have hn0 : ((row.length : Int) == 0) = false := beq_eq_false_iff_ne.2 (by omega)
 have hn1 : ((row.length : Int) == 1) = false := beq_eq_false_iff_ne.2 (by omega)
 have q0 : decide (0 ≤ (row.length : Int) - 1) = true := decide_eq_true (by omega)
 have q1 : decide ((row.length : Int) - 1 < (row.length : Int)) = true := decide_eq_true (by omega)
 have q2 := eq_true (show 0 ≤ (row.length : Int) - 1 by omega)
 have q3 := eq_true (show (row.length : Int) - 1 < (row.length : Int) by omega)
 have q4 := eq_true (show 0 < (row.length : Int) by omega)
 have q5 := decide_eq_true (show 0 < (row.length : Int) by omega)
 have q6 := eq_true (show 0 < row.length by omega)
 have q7 := eq_true (show 1 ≤ (row.length : Int) by omega)
 have q8 := decide_eq_true (show 1 ≤ (row.length : Int) by omega)
 clear hmx
 obtain ⟨g, cap, rfl⟩ := h.rv (by omega)
 have r0 := blk_cell h.br 0
 simp only [List.getElem?_toArray, List.getElem?_cons_zero] at r0
 have hrl : row.length ≤ maxLen := by
  rcases h.hr.2 with ⟨h', _⟩ | ⟨g', cap', cur', h', _, _, h3, h4, _⟩
  ·cases h'
  ·exact Nat.le_trans h3 h4
 have hmx : maxLen = 9223372036854775807 := rfl
 rw [hmx] at hrl
 have hwr : wrap64 ((row.length : Int) - 1) = (row.length : Int) - 1 := IntWalk.wrap64_in _ (by omega)
 clear hmx hrl
 have hA := Aside0.mk h
 clear h
 go_enter Try.func81, Try.ntmps81
 go_wp2
 rename_i K0 hK0
 have hA0 : St W.drew base O R ov (.slice (some ⟨g, 0, none⟩) (row).length cap) out row := ⟨hA.out.bo, hA.out.br, hA.out.ho, hA.out.hr⟩
 clear r0
 refine start_ (n := 14) (S := fun w' => w'.cell? ⟨R, 0, none⟩ = some (.slice (some ⟨g, 0, none⟩) row.length cap) ∧ w'.cell? ⟨O, 0, none⟩ = some ov ∧ w'.cell? ⟨g, 0, none⟩ = some (.string s) ∧ w'.cell? ⟨g, row.length - 1, none⟩ = some (.string sl)) (ds := [13]) #[false, false, false, false, false, false, false, false, false, false, false, false, false, false] (by kernel_rfl) rfl rfl ⟨by simpa using blk_cell hA0.br 0, by simpa using blk_cell hA0.bo 0, hA0.row1 hs, (hA0.row1 hl)⟩ (fun hHeld => ?_)
 have HT_ := Aside0.mk endT2
 refine take_ (i := 0) (N := some 6) (v := ?_) (a' := ?_) #[true, false, false, false, false, false, false, false, false, false, false, false, false, false] rfl rfl (take_of HT_.out (by kernel_rfl)) (fun _ _ _ h => h) (Or.inl ⟨by rfl, ?_⟩) hHeld ?_ ?_
 rotate_left
 ·rintro w' ⟨s0, s1, s2, s3⟩
  go_simp
  with_reducible rfl
 rotate_left
 ·simp only [Act.put, sA1, sA2, sA3, i64_w, i32_w]
  rfl
 refine take_ (i := 1) (N := some 7) (v := ?_) (a' := ?_) #[true, true, false, false, false, false, false, false, false, false, false, false, false, false] rfl rfl (take_of HT_.out (by kernel_rfl)) (fun _ _ _ h => h) (Or.inl ⟨by rfl, ?_⟩) hHeld ?_ ?_
 rotate_left
 ·rintro w' ⟨s0, s1, s2, s3⟩
  go_simp
  with_reducible rfl
 rotate_left
 ·simp only [Act.put, sA1, sA2, sA3, i64_w, i32_w]
  rfl
 refine pU_ 2 8 #[true, true, true, false, false, false, false, false, false, false, false, false, false, false] ?_
 refine take_ (i := 3) (N := some 9) (v := ?_) (a' := ?_) #[true, true, true, true, false, false, false, false, false, false, false, false, false, false] rfl rfl (take_of HT_.out (by kernel_rfl)) (fun _ _ _ h => h) (Or.inl ⟨by rfl, ?_⟩) hHeld ?_ ?_
 rotate_left
 ·rintro w' ⟨s0, s1, s2, s3⟩
  go_simp
  with_reducible rfl
 rotate_left
 ·simp only [Act.put, sA1, sA2, sA3, i64_w, i32_w]
  rfl
 refine take_ (i := 4) (N := some 10) (v := ?_) (a' := ?_) #[true, true, true, true, true, false, false, false, false, false, false, false, false, false] rfl rfl (take_of HT_.out (by kernel_rfl)) (fun _ _ _ h => h) (Or.inl ⟨by rfl, ?_⟩) hHeld ?_ ?_
 rotate_left
 ·rintro w' ⟨s0, s1, s2, s3⟩
  go_simp
  with_reducible rfl
 rotate_left
 ·simp only [Act.put, sA1, sA2, sA3, i64_w, i32_w]
  rfl
 refine pU_ 5 11 #[true, true, true, true, true, true, false, false, false, false, false, false, false, false] ?_
 refine pU_ 6 12 #[true, true, true, true, true, true, true, false, false, false, false, false, false, false] ?_
 refine pU_ 7 13 #[true, true, true, true, true, true, true, true, false, false, false, false, false, false] ?_
 refine take_ (i := 8) (N := some 14) (v := ?_) (a' := ?_) #[true, true, true, true, true, true, true, true, true, false, false, false, false, false] rfl rfl (take_of HT_.out (by kernel_rfl)) (fun _ _ _ h => h) (Or.inl ⟨by rfl, ?_⟩) hHeld ?_ ?_
 rotate_left
 ·rintro w' ⟨s0, s1, s2, s3⟩
  go_simp
  with_reducible rfl
 rotate_left
 ·simp only [Act.put, sA1, sA2, sA3, i64_w, i32_w]
  rfl
 refine one_ (i := 9) (N := some 15) #[true, true, true, true, true, true, true, true, true, true, false, false, false, false] rfl rfl (one_of HT_.out (by kernel_rfl)) (by decide) (fun K hK => ?_)
 refine goes_ Try.func82 (by kernel_rfl) rfl #[.string sl] (by rfl) rfl rfl (by (try simp only [List.map_toArray, List.map_cons, List.map_nil]); first | done | rfl) ?_
 refine (after_any sl hsz _).mono ?_
 rintro e w9 ⟨rfl, hb9⟩
 refine ⟨_, rfl, ?_⟩
 have hA2 := hA0.below hb9
 refine hK.out _ _ ⟨by simpa using blk_cell hA2.br 0, by simpa using blk_cell hA2.bo 0, hA2.row1 hs, (hA2.row1 hl)⟩ (fun hHeld => ?_)
 clear hK K
 refine norm_ (a' := ?_) ?_ ?_
 rotate_left
 ·show Act.put _ (some 15) _ = _
  simp only [Act.put, sA1, sA2, sA3, i64_w, i32_w]
  rfl
 refine pU_ 10 16 #[true, true, true, true, true, true, true, true, true, true, true, false, false, false] ?_
 refine one_ (i := 11) (N := some 17) #[true, true, true, true, true, true, true, true, true, true, true, true, false, false] rfl rfl (one_of HT_.out (by kernel_rfl)) (by decide) (fun K hK => ?_)
 refine value_ (w1 := w9.alloc (objM (⟨4, 0, s, P.succB sl, P.e0, 0⟩ : Ms))) (v := .slice (some ⟨w9.heap.size, 0, none⟩) 1 1) (by rfl) rfl ?_ ?_
 ·first | (go_simp; done) | (go_simp; rfl)
 have hA1 := hA2.alloc (objM (⟨4, 0, s, P.succB sl, P.e0, 0⟩ : Ms))
 have hA2s : W.drew.heap.size ≤ w9.heap.size := hb9.size
 refine hK.out _ _ ⟨by simpa using blk_cell hA1.br 0, by simpa using blk_cell hA1.bo 0, hA1.row1 hs, (hA1.row1 hl)⟩ (fun hHeld => ?_)
 clear hK K
 refine norm_ (a' := ?_) ?_ ?_
 rotate_left
 ·show Act.put _ (some 17) _ = _
  simp only [Act.put, sA1, sA2, sA3, i64_w, i32_w]
  rfl
 refine one_ (i := 12) (N := some 18) #[true, true, true, true, true, true, true, true, true, true, true, true, true, false] rfl rfl (one_of HT_.out (by kernel_rfl)) (by decide) (fun K hK => ?_)
 refine append_step (by rfl) rfl _ _ 22 rfl base 32 i0 zM 6 72 Try.underlying22 hi hz0 hz1 hz2 rfl (by decide) ov out.length (flat out) rfl hA1.ho ⟨w9.heap.size, 0, none⟩ 1 1 (enc (⟨4, 0, s, P.succB sl, P.e0, 0⟩ : Ms)) rfl rfl (cell_enc (blk_new w9 (objM (⟨4, 0, s, P.succB sl, P.e0, 0⟩ : Ms)))) (enc_one (⟨4, 0, s, P.succB sl, P.e0, 0⟩ : Ms)) (le_max hol) (by omega) (by have := hb9.size; simp at this ⊢; omega) ?_
 intro v7 w7 hown7 hg7 hat7
 obtain ⟨A7, c7, e7⟩ := Rw.slice (Rw.snoc (m := (⟨4, 0, s, P.succB sl, P.e0, 0⟩ : Ms)) hown7)
 subst e7
 obtain ⟨ko, kr, kw⟩ := hA1.kept hg7
 refine hK.out _ _ ⟨by simpa using blk_cell kr 0, by simpa using blk_cell ko 0, (row_cell kw hs), (row_cell kw hl)⟩ (fun hHeld => ?_)
 clear hK K
 refine norm_ (a' := ?_) ?_ ?_
 rotate_left
 ·show Act.put _ (some 18) _ = _
  simp only [Act.put, sA1, sA2, sA3, i64_w, i32_w]
  rfl
 have z0 := blk_frozen ko 0
 obtain ⟨t0, t1, t2, t3⟩ := hHeld
 refine last_ (i := 13) (N := none) #[true, true, true, true, true, true, true, true, true, true, true, true, true, true] rfl rfl (one_of HT_.out (by kernel_rfl)) (by decide) (fun K hK => ?_)
 refine skip_ (w1 := w7.setCell ⟨O, 0, none⟩ (.slice A7 (out ++ [(⟨4, 0, s, P.succB sl, P.e0, 0⟩ : Ms)]).length c7)) (by rfl) rfl ?_ ?_
 ·first | (go_simp; done) | (go_simp; rfl)
 refine hK.out _ _ ?_
 clear hK K
 refine done_ (done_of HT_.out (by kernel_rfl)) ?_
 have hT := hA1.told hown7 hg7 hat7
 have hF := end_fr (W0 := W) (ov' := .slice A7 (out ++ [(⟨4, 0, s, P.succB sl, P.e0, 0⟩ : Ms)]).length c7) (O := O) (R := R) (Ord.Fr.alloc (Ord.Fr.trans (Ord.Fr.drew (Ord.Fr.refl _ _)) (Ord.Fr.of_below (B := []) hb9) (fun x hx => by simp at hx)) _) hg7
 have hE := end_at (W := W) (W1 := w9.alloc (objM (⟨4, 0, s, P.succB sl, P.e0, 0⟩ : Ms))) (by have := hb9.size; show W.heap.size ≤ _; simp at this ⊢; omega) hat7
 have y0 := blk_cell hT.br 0
 have y1 := blk_frozen hT.br 0
 simp only [List.getElem?_toArray, List.getElem?_cons_zero] at y0
 have hT2 := Aside0.mk hT.clear
 have hFA := Aside0.mk hF
 have hEA := Aside0.mk hE
 clear hT hF hE z0 t0 t1 t2 t3
 generalize w7.setCell ⟨O, 0, none⟩ (.slice A7 (out ++ [(⟨4, 0, s, P.succB sl, P.e0, 0⟩ : Ms)]).length c7) = w8 at hT2 hFA y0 y1 ⊢
 show K0 _ _
 refine hK0 _ _ ?_
 go_wp2
 refine bodyPost_ret (results_none rfl _ _ _) rfl ?_
 exact ⟨_, _, _, rfl, by rw [hev]; exact hT2.out, hFA.out, hEA.out⟩
end Go.Proofs.Ytebejadiaooooaa.Dl
end
section
namespace Go.Proofs.Ytebejadiaooooaa.Dl
open Go.Proofs.Ytebejadiaooooaa.Ord (Fr)
open Go.RowKit Go.Shelf Go.Proofs.Ytebejadiaooooaa.Cp Go.Proofs.YtebejadiaooooaaW.PrintWords Go.Proofs.YtebejadiaooooaaW.PrintLast Go.Proofs.YtebejadiaooooaaW.PrintMore Go.Proofs.Ytebejadiaooooaa.Own Go.Proofs.Ytebejadiaooooaa
set_option maxHeartbeats 8000000
set_option maxRecDepth 100000
abbrev Sd := P.S95
abbrev objS (x : Sd) : Obj := .cells #[.string x.f0, .string x.f1, .string x.f2, .bool x.f3, .bool x.f4] 95 (0, 0)
theorem end_any {W : World} {base O R : Nat} {ov rv : Value} {out : List Ms} {row : List ByteArray} (h : St W base O R ov rv out row) (hb : base ≤ W.heap.size) (hol : out.length ≤ 100000) (hsz : ∀ s ∈ row, s.size ≤ 140737488351232) :
  Calls Try.prog 81 #[.pointer (some ⟨R, 0, none⟩), .pointer (some ⟨O, 0, none⟩)] W (EndPost W base O R ov out row) := by
 match row, h, hsz with
 | [], h, _ => exact end_0 h
 | [s], h, _ => exact end_1 h hb hol
 | s :: t :: l, h, hsz =>
  have hl : (s :: t :: l)[(s :: t :: l).length - 1]? = some ((s :: t :: l).getLast (by simp)) := by rw [← List.getLast?_eq_getElem?, List.getLast?_eq_some_getLast]
  exact end_n (s := s) (sl := (s :: t :: l).getLast (by simp)) (by simp) rfl hl (hsz _ (List.getLast_mem _)) rfl h hb hol
def stepR (p : List Ms × List ByteArray) (x : Sd) : List Ms × List ByteArray :=
 if x.f3 = true then ((if (!x.f4 || !P.same x.f1 x.f2) = true then endV p.1 p.2 ++ [⟨1, 0, x.f0, P.e0, x.f2, 0⟩] else endV p.1 p.2), []) else (p.1, p.2 ++ [x.f0])
def runsF (l : List Sd) : List Ms × List ByteArray := l.foldl stepR ([], [])
def runsV (l : List Sd) : List Ms := endV (runsF l).1 (runsF l).2
theorem endV_length (o : List Ms) (r : List ByteArray) : (endV o r).length ≤ o.length + 1 := by
 unfold endV
 split <;> simp
theorem runsF_snoc {l : List Sd} {i : Nat} {x : Sd} (h : l[i]? = some x) : runsF (l.take (i + 1)) = stepR (runsF (l.take i)) x := by
 unfold runsF
 rw [List.take_add_one, h, List.foldl_append]
 rfl
theorem runsF_bound : ∀ (l : List Sd) (p : List Ms × List ByteArray), (l.foldl stepR p).1.length ≤ p.1.length + 2 * l.length ∧ (l.foldl stepR p).2.length ≤ p.2.length + l.length
 | [], p => by simp
 | x :: l, p => by
  have h := runsF_bound l (stepR p x)
  have e := endV_length p.1 p.2
  have h1 : (stepR p x).1.length ≤ p.1.length + 2 ∧ (stepR p x).2.length ≤ p.2.length + 1 := by
   unfold stepR
   split
   ·constructor
    ·split
     ·simp only [List.length_append, List.length_singleton]; omega
     ·simp only; omega
    ·simp
   ·simp
  simp only [List.foldl_cons, List.length_cons]
  omega
theorem runsF_keys {Q : ByteArray → Prop} : ∀ (l : List Sd) (p : List Ms × List ByteArray), (∀ x ∈ l, Q x.f0) → (∀ s ∈ p.2, Q s) → ∀ s ∈ (l.foldl stepR p).2, Q s
 | [], _, _, h => h
 | x :: l, p, hl, hp => runsF_keys l _ (fun y hy => hl y (List.mem_cons_of_mem _ hy)) (fun s hs => by
  unfold stepR at hs
  split at hs
  ·simp at hs
  ·simp only [List.mem_append, List.mem_singleton] at hs
   rcases hs with hs | rfl
   ·exact hp s hs
   ·exact hl x (by simp))
theorem own_slice {W : World} {base e size n : Nat} {v : Value} {xs : List Value} (h : W.ownsRow base e size v n xs) : ∃ A c, v = .slice A n c := by
 rcases h.2 with ⟨h', h2⟩ | ⟨g, cap, cur, h', _⟩
 ·subst h2; exact ⟨_, _, h'⟩
 ·exact ⟨_, _, h'⟩
theorem St.gone {W W1 : World} {base O R : Nat} {ov rv rv' : Value} {out : List Ms} {row : List ByteArray} {s : ByteArray} (h : St W base O R ov rv out row) (hown : W1.ownsRow base 9 1 rv' (row.length + 1) (row.map Value.string ++ [.string s])) (hg : W.grownBy W1 rv.ownBlock) : St (W1.setCell ⟨R, 0, none⟩ rv') base O R ov rv' out (row ++ [s]) := by
 have hO := box_ne h.hr h.bo (by decide)
 have hR := box_ne h.hr h.br (by decide)
 have bo1 := blk_grown h.bo hg hO
 have br1 := blk_grown h.br hg hR
 have ho1 : Rw W1 base ov out := by
  refine own_move h.ho (fun k hk => hg.block k (own_lt h.ho k hk) (fun e => ?_))
  obtain ⟨c1, e1⟩ := own_obj h.ho hk
  obtain ⟨c2, e2⟩ := own_obj h.hr e.symm
  rw [e1] at e2
  injection e2 with e2
  injection e2 with _ e2
  exact absurd e2 (by decide)
 have hOR : O ≠ R := blk_ne h.bo h.br (by decide)
 have hRo : some R ≠ ov.ownBlock := box_ne ho1 br1 (by decide)
 have hRr : some R ≠ rv'.ownBlock := box_ne hown br1 (by decide)
 refine ⟨blk_far bo1 (by simpa using hOR) rv', by simpa using blk_set br1 0 rv', own_move ho1 (fun k hk => Below.heap_setCell W1 _ rv' k (fun e => hRo (by rw [hk, e]))), ?_⟩
 have : Sw W1 base rv' (row ++ [s]) := by unfold Sw; rw [List.length_append, List.map_append]; exact hown
 exact own_move this (fun k hk => Below.heap_setCell W1 _ rv' k (fun e => hRr (by rw [hk, e])))
theorem own_down {w : World} {base base' : Nat} {e : TypeId} {size : Nat} {v : Value} {n : Nat} {xs : List Value} (h : w.ownsRow base e size v n xs) (hb : base' ≤ base) : w.ownsRow base' e size v n xs :=
 ⟨h.1, h.2.imp id (fun ⟨g, cap, cur, h1, h2, r⟩ => ⟨g, cap, cur, h1, Nat.le_trans hb h2, r⟩)⟩
theorem St.keptR {W W1 : World} {base O R : Nat} {ov rv : Value} {out : List Ms} {row : List ByteArray} (h : St W base O R ov rv out row) (hg : W.grownBy W1 rv.ownBlock) : W1.heap[O]? = some (.cells #[ov] 22 (0, 0)) ∧ W1.heap[R]? = some (.cells #[rv] 24 (0, 0)) :=
 ⟨blk_grown h.bo hg (box_ne h.hr h.bo (by decide)), blk_grown h.br hg (box_ne h.hr h.br (by decide))⟩
theorem cell_fr {B : List Nat} {w W : World} (h : Fr B w W) {a : Addr} {v : Value} (hn : a.block ∉ B) (hc : w.cell? a = some v) : W.cell? a = some v :=
 (World.cell?_of_block (h.block a.block (World.block_lt_of_cell? w a hc) hn)).trans hc
theorem at_S {w : World} {A : Option Addr} {n : Nat} {xs : List Sd} (h : Kd.C P.k95 w A n xs) (i : Int) (h0 : 0 ≤ i) (h1 : i < n) : ∃ ad, ∃ x : Sd, A = some ad ∧ xs[i.toNat]? = some x ∧ w.cell? (ad.add (i.toNat * 5)) = some (.string x.f0) ∧
  w.cell? ⟨(ad.add (i.toNat * 5)).block, (ad.add (i.toNat * 5)).off + 1, none⟩ = some (.string x.f1) ∧ w.cell? ⟨(ad.add (i.toNat * 5)).block, (ad.add (i.toNat * 5)).off + 2, none⟩ = some (.string x.f2) ∧ w.cell? ⟨(ad.add (i.toNat * 5)).block, (ad.add (i.toNat * 5)).off + 3, none⟩ = some (.bool x.f3) ∧
  w.cell? ⟨(ad.add (i.toNat * 5)).block, (ad.add (i.toNat * 5)).off + 4, none⟩ = some (.bool x.f4) := by
 obtain ⟨ad, c, e, _, hK, hc0⟩ := Kd.C_get h P.z95 i h0 h1
 have hc : ∀ j u, c[j]? = some u → w.cell? (ad.add (i.toNat * 5 + j)) = some u := hc0
 obtain rfl := P.k95_open hK
 have hl := h.1
 refine ⟨ad, _, e, ?_, hc 0 _ rfl, by rw [← add_field _ _ 1 (by omega)]; exact hc 1 _ rfl, by rw [← add_field _ _ 2 (by omega)]; exact hc 2 _ rfl, by rw [← add_field _ _ 3 (by omega)]; exact hc 3 _ rfl, by rw [← add_field _ _ 4 (by omega)]; exact hc 4 _ rfl⟩
 rw [List.getD_eq_getElem?_getD, List.getElem?_eq_getElem (by omega)]
 rfl
theorem runs_any {w : World} {A B : Option Addr} {c d k : Nat} {a b : List P.S39} {L : List Sd} (hA : Kd.C P.k39 w A a.length a) (hca : a.length ≤ c) (hB : Kd.C P.k39 w B b.length b) (hcb : b.length ≤ d) (hL : P.delta_beside.f k a b = some L) (hll : L.length ≤ 20000) (hsz : ∀ x ∈ L, x.f0.size ≤ 140737488351232) :
  Calls Try.prog 43 #[.slice A a.length c, .slice B b.length d] w fun e w' => ∃ v, e = .returned v ∧ Rw w' w.heap.size v (runsV L) ∧ Below w.heap.size w w' := by
 have hmaxa := Kd.C_max hA
 have hmaxb := Kd.C_max hB
 have hum := Try.underlying32
 have hus := Try.underlying95
 have hmf : ∀ (fn : Fn) (first cap : Array Value) (w : World), (Instr.makeFunc fn first cap).run Try.prog w = .ok (.func fn first cap) w := fun _ _ _ _ => rfl
 obtain ⟨i0, hi, hz0, hz1, hz2⟩ := info_parts P.info32
 obtain ⟨iS, si, sz0, sz1, sz2⟩ := info_parts2 infoS
 go_enter Try.func43, Try.ntmps43
 go_wp2_with (go_at_call 78; refine (P.delta_beside.calls k A c a B d b L _ (Kd.C_alloc (Kd.C_alloc hA _) _) hca (Kd.C_alloc (Kd.C_alloc hB _) _) hcb hL).mono ?_; rintro e w1 ⟨v0, rfl, hR, hb1⟩; obtain ⟨A5, c5, e5⟩ := Kd.R_slice hR; subst e5)
 have hbO : w1.heap[w.heap.size]? = some (.cells #[.slice none 0 0] 22 (0, 0)) := blk_below (blk_alloc (blk_new w _) _) hb1
 have hbR : w1.heap[w.heap.size + 1]? = some (.cells #[.slice none 0 0] 24 (0, 0)) := by
  have := blk_below (blk_new (w.alloc (.cells #[.slice none 0 0] 22)) (.cells #[.slice none 0 0] 24)) hb1
  simpa using this
 have hC5 := (Kd.R_reads' hR).2.2
 have hg5 : ∀ ad, A5 = some ad → 0 < L.length → ad.block ≠ w.heap.size ∧ ad.block ≠ w.heap.size + 1 := by
  intro ad e hpos
  obtain ⟨_, inner, hown, _⟩ := hR
  rcases hown.2 with ⟨_, h2⟩ | ⟨g, cap, cur, h', _, hg, _⟩
  ·omega
  ·rw [e] at h'
   injection h' with h' _ _
   injection h' with h'
   subst h'
   exact ⟨fun e2 => blk_ne hg hbO (by decide) e2, fun e2 => blk_ne hg hbR (by decide) e2⟩
 have hS0 : St w1 w1.heap.size w.heap.size (w.heap.size + 1) (.slice none 0 0) (.slice none 0 0) (runsF (L.take 0)).1 (runsF (L.take 0)).2 := ⟨hbO, hbR, World.ownsRow_nil _ _ _ _, World.ownsRow_nil _ _ _ _⟩
 have hF0 := Ord.Fr.refl [w.heap.size, w.heap.size + 1] w1
 have hsz1 : w.heap.size + 2 ≤ w1.heap.size := by have := hb1.size; simp at this; omega
 have hBw : Below w.heap.size w w1 := below_step (below_alloc (below_alloc (Below.refl w.heap.size w) _) _) hb1
 have hl5 : L.length ≤ 9223372036854775807 := by omega
 clear hA hB hL hR hb1 hbO hbR
 have hg5A := Aside0.mk hg5
 have hC5A := Aside0.mk hC5
 clear hg5 hC5
 go_loopg [15] L.length (fun n iv wr => ∃ i : Int, iv = .int .i64 i ∧ Aside (0 ≤ i ∧ i.toNat + n = L.length) ∧ Aside (∃ ov rv, St wr w1.heap.size w.heap.size (w.heap.size + 1) ov rv (runsF (L.take i.toNat)).1 (runsF (L.take i.toNat)).2) ∧ Aside (Fr [w.heap.size, w.heap.size + 1] w1 wr))
 case atStart => exact ⟨0, rfl, ⟨Int.le_refl _, by simp⟩, ⟨_, _, hS0⟩, hF0⟩
 case round =>
  clear hS0 hF0
  obtain ⟨i, rfl, hI, hS, hF⟩ := hrel
  obtain ⟨hi0, hi2⟩ := hI.out
  obtain ⟨ov, rv, hS1⟩ := hS.out
  clear hS
  have hFo : ∀ x ∈ (w.heap.size :: (w.heap.size + 1) :: ov.ownBlock.toList), x ∈ [w.heap.size, w.heap.size + 1] ∨ w1.heap.size ≤ x := fun x hx => by
   simp only [List.mem_cons] at hx
   rcases hx with rfl | rfl | hx
   ·simp
   ·simp
   ·exact .inr (own_base hS1.ho x (by simpa using hx))
  have hbd := runsF_bound (L.take i.toNat) ([], [])
  have hky := runsF_keys (Q := fun s => s.size ≤ 140737488351232) (L.take i.toNat) ([], []) (fun x hx => hsz x (List.mem_of_mem_take hx)) (by simp)
  have htl : (L.take i.toNat).length ≤ 20000 := by simp; omega
  simp only [List.length_nil] at hbd
  have hbd1 : (runsF (L.take i.toNat)).1.length ≤ 40000 := by unfold runsF; omega
  have hbd2 : (runsF (L.take i.toNat)).2.length ≤ 20000 := by unfold runsF; omega
  replace hky : ∀ s ∈ (runsF (L.take i.toNat)).2, s.size ≤ 140737488351232 := hky
  clear hbd htl
  cases gk with
  | zero =>
   have d0 : decide (i < (L.length : Int)) = false := decide_eq_false (by omega)
   rw [List.take_of_length_le (by omega)] at hS1 hbd1 hbd2 hky
   have EN := end_any hS1 hF.out.size (by omega) hky
   clear hi0 hi2 hI
   go_wp2_with (go_at_call 81; refine EN.mono ?_; clear EN; rintro e w2 ⟨v, ov', rv', rfl, hS2, hF2, hat2⟩; have y0 := blk_cell hS2.bo 0; simp only [List.getElem?_toArray, List.getElem?_cons_zero] at y0)
   go_ret
   exact ⟨_, rfl, own_down hS2.ho (by omega), hBw.trans ((Ord.Fr.trans hF.out hF2 hFo).below (fun k hk => by simp at hk; omega) (by omega))⟩
  | succ n =>
   have hlt : i < (L.length : Int) := by omega
   obtain ⟨ad, x, hadA, hx, q0, q1, q2, q3, q4⟩ := at_S hC5A.out i hi0 hlt
   have hnb := hg5A.out ad hadA (by omega)
   subst hadA
   have e0 := cell_fr hF.out (a := ad.add (i.toNat * 5)) (by rw [add_block]; simp [hnb.1, hnb.2]) q0
   have e1 := cell_fr hF.out (by simp [add_block, hnb.1, hnb.2]) q1
   have e2 := cell_fr hF.out (by simp [add_block, hnb.1, hnb.2]) q2
   have e3 := cell_fr hF.out (by simp [add_block, hnb.1, hnb.2]) q3
   have e4 := cell_fr hF.out (by simp [add_block, hnb.1, hnb.2]) q4
   have d0 := decide_eq_true hlt
   have d1 := decide_eq_true hi0
   have d2 := eq_true hi0
   have d3 := eq_true hlt
   have hwi : wrap64 (i + 1) = i + 1 := IntWalk.wrap64_in _ (by omega)
   have hst := Aside0.mk (runsF_snoc hx)
   have hxs := hsz x (List.mem_of_getElem? hx)
   have hiA := Aside0.mk (And.intro hi0 (And.intro hlt hi2))
   generalize runsF (L.take i.toNat) = p at hS1 hst hbd1 hbd2 hky
   obtain ⟨xs, xa, xb, xh, xd⟩ := x
   dsimp only at e0 e1 e2 e3 e4 hxs
   have hDn : wr.heap.size ∉ (w.heap.size :: (w.heap.size + 1) :: ov.ownBlock.toList) := by
    intro hm
    have h9 := hF.out.size
    simp only [List.mem_cons] at hm
    rcases hm with hm | hm | hm
    ·omega
    ·omega
    ·have := own_lt hS1.ho wr.heap.size (by simpa using hm)
     omega
   have hSa := hS1.alloc (objS ⟨xs, xa, xb, xh, xd⟩)
   have r0 := blk_cell hSa.br 0
   simp only [List.getElem?_toArray, List.getElem?_cons_zero] at r0
   have hsa : w1.heap.size ≤ (wr.alloc (objS ⟨xs, xa, xb, xh, xd⟩)).heap.size := by have := hF.out.size; simp; omega
   clear hx q0 q1 q2 q3 q4 hlt hi0 hi2 hI
   have hkA := Aside0.mk hky
   clear hky
   cases xh with
   | false =>
    go_wp2_with (at_builtin; refine wpList_append_own_at _ rfl _ _ 24 rfl w1.heap.size 9 iS (.string ⟨#[]⟩) 1 16 Try.underlying24 si sz0 sz1 sz2 rfl (by decide) _ _ _ rfl (hSa.alloc (.cells #[.string xs] 9)).hr ⟨wr.heap.size + 1, 0, none⟩ 1 1 [.string xs] rfl rfl (cell_lit (cs := #[.string xs]) (e := 9) (by have := blk_new (wr.alloc (objS ⟨xs, xa, xb, false, xd⟩)) (.cells #[.string xs] 9); simpa using this)) (by simp [Value.oneCell']) (le_max4 (by omega) (by decide)) (by omega) (by simpa using Nat.le_succ_of_le hsa) ?_; intro v5 w5 hown5 hg5 hnil5 hat5; obtain ⟨A7, c7, e7⟩ := own_slice hown5; subst e7; obtain ⟨ko, kr⟩ := (hSa.alloc (.cells #[.string xs] 9)).keptR hg5; have z0 := blk_frozen kr 0; have z1 := blk_cell kr 0; simp only [List.getElem?_toArray, List.getElem?_cons_zero] at z1)
    go_roundg n
    case measure => omega
    case rel =>
     obtain ⟨hi0, hlt, hi2⟩ := hiA.out
     have hT := (hSa.alloc (.cells #[.string xs] 9)).gone hown5 hg5
     refine ⟨i + 1, by rw [hwi], ⟨by omega, by omega⟩, ⟨ov, .slice A7 (p.2.length + 1) c7, ?_⟩, ?_⟩
     ·rw [show (i + 1).toNat = i.toNat + 1 by omega, hst.out]
      have e9 : stepR p ⟨xs, xa, xb, false, xd⟩ = (p.1, p.2 ++ [xs]) := by simp [stepR]
      rw [e9]
      exact hT
     ·exact Ord.Fr.set (Ord.Fr.trans (Ord.Fr.alloc (Ord.Fr.alloc hF.out _) _) (fr_grown (r := rv.ownBlock) hg5) (fun z hz => .inr (own_base hSa.hr z (by simpa using hz)))) (.inl (by simp)) _
   | true =>
    have EN := end_any hSa hsa (by omega) hkA.out
    have hel := endV_length p.1 p.2
    cases xd with
    | false =>
     go_wp2_with (first
      | (go_at_call 81; refine EN.mono ?_; clear EN; rintro e w2 ⟨v, ov', rv', rfl, hS2, hF2, hat2⟩; have hD2 := hF2.blk (blk_new wr (objS ⟨xs, xa, xb, true, false⟩)) hDn; have y0 := blk_cell hD2 0; have y1 := blk_cell hD2 1; have y2 := blk_cell hD2 2; have y3 := blk_cell hD2 3; have y4 := blk_cell hD2 4; simp only [List.getElem?_toArray, List.getElem?_cons_zero, List.getElem?_cons_succ] at y0 y1 y2 y3 y4; have o0 := blk_cell hS2.bo 0; simp only [List.getElem?_toArray, List.getElem?_cons_zero] at o0; have hs12 : w1.heap.size ≤ w2.heap.size := Nat.le_trans (Nat.le_trans hF.out.size (by simp)) hF2.size)
      | (at_builtin; refine wpList_append_own_at _ rfl _ _ 22 rfl w1.heap.size 32 i0 zM 6 72 Try.underlying22 hi hz0 hz1 hz2 rfl (by decide) _ _ _ rfl (hS2.alloc (objM (⟨1, 0, xs, P.e0, xb, 0⟩ : Ms))).ho ⟨w2.heap.size, 0, none⟩ 1 1 (enc (⟨1, 0, xs, P.e0, xb, 0⟩ : Ms)) rfl rfl (cell_enc (blk_new w2 (objM (⟨1, 0, xs, P.e0, xb, 0⟩ : Ms)))) (enc_one (⟨1, 0, xs, P.e0, xb, 0⟩ : Ms)) (le_max (by omega)) (by omega) (by simpa using Nat.le_succ_of_le hs12) ?_; intro v5 w5 hown5 hg5 hnil5 hat5; obtain ⟨A7, c7, e7⟩ := Rw.slice (Rw.snoc (m := (⟨1, 0, xs, P.e0, xb, 0⟩ : Ms)) hown5); subst e7; obtain ⟨ko, kr, kw⟩ := (hS2.alloc (objM (⟨1, 0, xs, P.e0, xb, 0⟩ : Ms))).kept hg5; have z0 := blk_frozen ko 0; have z1 := blk_cell ko 0; simp only [List.getElem?_toArray, List.getElem?_cons_zero] at z1))
     go_roundg n
     case measure => omega
     case rel =>
      obtain ⟨hi0, hlt, hi2⟩ := hiA.out
      have hT := (hS2.alloc (objM (⟨1, 0, xs, P.e0, xb, 0⟩ : Ms))).told hown5 hg5 hat5
      refine ⟨i + 1, by rw [hwi], ⟨by omega, by omega⟩, ⟨.slice A7 ((endV p.1 p.2).length + 1) c7, rv', ?_⟩, ?_⟩
      ·rw [show (i + 1).toNat = i.toNat + 1 by omega, hst.out]
       have e9 : stepR p ⟨xs, xa, xb, true, false⟩ = (endV p.1 p.2 ++ [(⟨1, 0, xs, P.e0, xb, 0⟩ : Ms)], []) := by simp [stepR]
       rw [e9]
       simp only [List.length_append, List.length_singleton] at hT
       exact hT
      ·exact Ord.Fr.set (Ord.Fr.trans (Ord.Fr.alloc (Ord.Fr.trans (Ord.Fr.alloc hF.out _) hF2 hFo) _) (fr_grown (r := ov'.ownBlock) hg5) (fun z hz => .inr (own_base hS2.ho z (by simpa using hz)))) (.inl (by simp)) _
    | true =>
     by_cases hsm : xa.toList = xb.toList
     ·have s1 : (xa.toList == xb.toList) = true := by simpa using hsm
      have s2 : (xa.toList != xb.toList) = false := by simpa [bne] using hsm
      have hsame : P.same xa xb = true := by simpa [P.same] using hsm
      go_wp2_with (go_at_call 81; refine EN.mono ?_; clear EN; rintro e w2 ⟨v, ov', rv', rfl, hS2, hF2, hat2⟩; have hD2 := hF2.blk (blk_new wr (objS ⟨xs, xa, xb, true, true⟩)) hDn; have y0 := blk_cell hD2 0; have y1 := blk_cell hD2 1; have y2 := blk_cell hD2 2; have y3 := blk_cell hD2 3; have y4 := blk_cell hD2 4; simp only [List.getElem?_toArray, List.getElem?_cons_zero, List.getElem?_cons_succ] at y0 y1 y2 y3 y4; have o0 := blk_cell hS2.bo 0; simp only [List.getElem?_toArray, List.getElem?_cons_zero] at o0; have hs12 : w1.heap.size ≤ w2.heap.size := Nat.le_trans (Nat.le_trans hF.out.size (by simp)) hF2.size)
      go_roundg n
      case measure => omega
      case rel =>
       obtain ⟨hi0, hlt, hi2⟩ := hiA.out
       refine ⟨i + 1, by rw [hwi], ⟨by omega, by omega⟩, ⟨ov', rv', ?_⟩, ?_⟩
       ·rw [show (i + 1).toNat = i.toNat + 1 by omega, hst.out]
        have e9 : stepR p ⟨xs, xa, xb, true, true⟩ = (endV p.1 p.2, []) := by simp [stepR, hsame]
        rw [e9]
        exact hS2
       ·exact Ord.Fr.trans (Ord.Fr.alloc hF.out _) hF2 hFo
     ·have s1 : (xa.toList == xb.toList) = false := by simpa using hsm
      have s2 : (xa.toList != xb.toList) = true := by simpa [bne] using hsm
      have hsame : P.same xa xb = false := by simpa [P.same] using hsm
      go_wp2_with (first
       | (go_at_call 81; refine EN.mono ?_; clear EN; rintro e w2 ⟨v, ov', rv', rfl, hS2, hF2, hat2⟩; have hD2 := hF2.blk (blk_new wr (objS ⟨xs, xa, xb, true, true⟩)) hDn; have y0 := blk_cell hD2 0; have y1 := blk_cell hD2 1; have y2 := blk_cell hD2 2; have y3 := blk_cell hD2 3; have y4 := blk_cell hD2 4; simp only [List.getElem?_toArray, List.getElem?_cons_zero, List.getElem?_cons_succ] at y0 y1 y2 y3 y4; have o0 := blk_cell hS2.bo 0; simp only [List.getElem?_toArray, List.getElem?_cons_zero] at o0; have hs12 : w1.heap.size ≤ w2.heap.size := Nat.le_trans (Nat.le_trans hF.out.size (by simp)) hF2.size)
       | (at_builtin; refine wpList_append_own_at _ rfl _ _ 22 rfl w1.heap.size 32 i0 zM 6 72 Try.underlying22 hi hz0 hz1 hz2 rfl (by decide) _ _ _ rfl (hS2.alloc (objM (⟨1, 0, xs, P.e0, xb, 0⟩ : Ms))).ho ⟨w2.heap.size, 0, none⟩ 1 1 (enc (⟨1, 0, xs, P.e0, xb, 0⟩ : Ms)) rfl rfl (cell_enc (blk_new w2 (objM (⟨1, 0, xs, P.e0, xb, 0⟩ : Ms)))) (enc_one (⟨1, 0, xs, P.e0, xb, 0⟩ : Ms)) (le_max (by omega)) (by omega) (by simpa using Nat.le_succ_of_le hs12) ?_; intro v5 w5 hown5 hg5 hnil5 hat5; obtain ⟨A7, c7, e7⟩ := Rw.slice (Rw.snoc (m := (⟨1, 0, xs, P.e0, xb, 0⟩ : Ms)) hown5); subst e7; obtain ⟨ko, kr, kw⟩ := (hS2.alloc (objM (⟨1, 0, xs, P.e0, xb, 0⟩ : Ms))).kept hg5; have z0 := blk_frozen ko 0; have z1 := blk_cell ko 0; simp only [List.getElem?_toArray, List.getElem?_cons_zero] at z1))
      go_roundg n
      case measure => omega
      case rel =>
       obtain ⟨hi0, hlt, hi2⟩ := hiA.out
       have hT := (hS2.alloc (objM (⟨1, 0, xs, P.e0, xb, 0⟩ : Ms))).told hown5 hg5 hat5
       refine ⟨i + 1, by rw [hwi], ⟨by omega, by omega⟩, ⟨.slice A7 ((endV p.1 p.2).length + 1) c7, rv', ?_⟩, ?_⟩
       ·rw [show (i + 1).toNat = i.toNat + 1 by omega, hst.out]
        have e9 : stepR p ⟨xs, xa, xb, true, true⟩ = (endV p.1 p.2 ++ [(⟨1, 0, xs, P.e0, xb, 0⟩ : Ms)], []) := by simp [stepR, hsame]
        rw [e9]
        simp only [List.length_append, List.length_singleton] at hT
        exact hT
       ·exact Ord.Fr.set (Ord.Fr.trans (Ord.Fr.alloc (Ord.Fr.trans (Ord.Fr.alloc hF.out _) hF2 hFo) _) (fr_grown (r := ov'.ownBlock) hg5) (fun z hz => .inr (own_base hS2.ho z (by simpa using hz)))) (.inl (by simp)) _
end Go.Proofs.Ytebejadiaooooaa.Dl
end
section
namespace Go.Proofs.Ytebejadiaooooaa.Dl
open Go.RowKit Go.Proofs.Ytebejadiaooooaa.Cp Go.Proofs.YtebejadiaooooaaW.PrintWords Go.Proofs.YtebejadiaooooaaW.PrintLast Go.Proofs.YtebejadiaooooaaW.PrintMore Go.Proofs.Ytebejadiaooooaa.Own Go.Proofs.Ytebejadiaooooaa
def okR (l : List Sd) : Bool := decide (l.length ≤ 20000) && l.all (fun x => decide (x.f0.size ≤ 140737488351232))
theorem okR_iff {l : List Sd} : okR l = true ↔ l.length ≤ 20000 ∧ ∀ x ∈ l, x.f0.size ≤ 140737488351232 := by
 simp [okR]
def runsC (k : Nat) (a b : List P.S39) : Option (List Ms) := (P.delta_beside.f k a b).bind fun L => if okR L = true then some (runsV L) else none
theorem runsC_calls {w : World} {k : Nat} {A0 A1 : Option Addr} {c0 c1 : Nat} {l0 l1 : List P.S39} {r : List Ms} (hr0 : Kd.C P.k39 w A0 l0.length l0) (hc0 : l0.length ≤ c0) (hr1 : Kd.C P.k39 w A1 l1.length l1) (hc1 : l1.length ≤ c1) (h : runsC k l0 l1 = some r) :
  Calls Try.prog 43 #[.slice A0 l0.length c0, .slice A1 l1.length c1] w fun e w' => ∃ v0_ : Value, e = .returned (v0_) ∧ Kd.R P.k32 32 w' w.heap.size (fun _ => True) v0_ r ∧ Below w.heap.size w w' := by
 unfold runsC at h
 obtain ⟨L, hL, h⟩ := Option.bind_eq_some_iff.mp h
 split at h
 ·rename_i hk
  obtain ⟨hl, hs⟩ := okR_iff.1 hk
  have := Option.some.inj h
  subst this
  refine (runs_any hr0 hc0 hr1 hc1 hL hl hs).mono ?_
  rintro e w' ⟨v, rfl, hr, hb⟩
  exact ⟨v, rfl, R_of_Rw hr, hb⟩
 ·cases h
end Go.Proofs.Ytebejadiaooooaa.Dl
end
