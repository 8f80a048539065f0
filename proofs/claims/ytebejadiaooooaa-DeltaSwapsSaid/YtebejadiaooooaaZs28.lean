/- Texts of one claim (laid by shake.py). -/
import Derived.Test.YtebejadiaooooaaZs27
import Derived.Test.YtebejadiaooooaaZs7
set_option linter.unusedVariables false
set_option linter.unusedSimpArgs false
section
namespace Go.Proofs.Ytebejadiaooooaa.Dl
open Go.Proofs.Ytebejadiaooooaa.Ord (Fr)
open Go.RowKit Go.Shelf Go.Proofs.Ytebejadiaooooaa.Cp Go.Proofs.YtebejadiaooooaaW.PrintWords Go.Proofs.YtebejadiaooooaaW.PrintLast Go.Proofs.YtebejadiaooooaaW.PrintMore Go.Proofs.Ytebejadiaooooaa.Own Go.Proofs.Ytebejadiaooooaa
set_option maxHeartbeats 8000000
set_option maxRecDepth 100000
abbrev Sd := P.S95
abbrev objS (x : Sd) : Obj := .cells #[.string x.f0, .string x.f1, .string x.f2, .bool x.f3, .bool x.f4] 95 (0, 0)
theorem end_any {W : World} {base O R : Nat} {ov rv : Value} {out : List Ms} {row : List ByteArray} (h : St W base O R ov rv out row) (hb : base ≤ W.heap.size) (hol : out.length ≤ 100000) (hsz : ∀ s ∈ row, s.size ≤ 140737488351232) :
  Calls Try.prog 81 #[.pointer (some ⟨R, 0, none⟩), .pointer (some ⟨O, 0, none⟩)] W (EndPost W base O R ov out row) := by
 match row, h, hsz with
 | [], h, _ => exact end_0 h
 | [s], h, _ => exact end_1 h hb hol
 | s :: t :: l, h, hsz =>
  have hl : (s :: t :: l)[(s :: t :: l).length - 1]? = some ((s :: t :: l).getLast (by simp)) := by rw [← List.getLast?_eq_getElem?, List.getLast?_eq_some_getLast]
  exact end_n (s := s) (sl := (s :: t :: l).getLast (by simp)) (by simp) rfl hl (hsz _ (List.getLast_mem _)) rfl h hb hol
def stepR (p : List Ms × List ByteArray) (x : Sd) : List Ms × List ByteArray :=
 if x.f3 = true then ((if (!x.f4 || !P.same x.f1 x.f2) = true then endV p.1 p.2 ++ [⟨1, 0, x.f0, P.e0, x.f2, 0⟩] else endV p.1 p.2), []) else (p.1, p.2 ++ [x.f0])
def runsF (l : List Sd) : List Ms × List ByteArray := l.foldl stepR ([], [])
def runsV (l : List Sd) : List Ms := endV (runsF l).1 (runsF l).2
theorem endV_length (o : List Ms) (r : List ByteArray) : (endV o r).length ≤ o.length + 1 := by
 unfold endV
 split <;> simp
theorem runsF_snoc {l : List Sd} {i : Nat} {x : Sd} (h : l[i]? = some x) : runsF (l.take (i + 1)) = stepR (runsF (l.take i)) x := by
 unfold runsF
 rw [List.take_add_one, h, List.foldl_append]
 rfl
theorem runsF_bound : ∀ (l : List Sd) (p : List Ms × List ByteArray), (l.foldl stepR p).1.length ≤ p.1.length + 2 * l.length ∧ (l.foldl stepR p).2.length ≤ p.2.length + l.length
 | [], p => by simp
 | x :: l, p => by
  have h := runsF_bound l (stepR p x)
  have e := endV_length p.1 p.2
  have h1 : (stepR p x).1.length ≤ p.1.length + 2 ∧ (stepR p x).2.length ≤ p.2.length + 1 := by
   unfold stepR
   split
   ·constructor
    ·split
     ·simp only [List.length_append, List.length_singleton]; omega
     ·simp only; omega
    ·simp
   ·simp
  simp only [List.foldl_cons, List.length_cons]
  omega
theorem runsF_keys {Q : ByteArray → Prop} : ∀ (l : List Sd) (p : List Ms × List ByteArray), (∀ x ∈ l, Q x.f0) → (∀ s ∈ p.2, Q s) → ∀ s ∈ (l.foldl stepR p).2, Q s
 | [], _, _, h => h
 | x :: l, p, hl, hp => runsF_keys l _ (fun y hy => hl y (List.mem_cons_of_mem _ hy)) (fun s hs => by
  unfold stepR at hs
  split at hs
  ·simp at hs
  ·simp only [List.mem_append, List.mem_singleton] at hs
   rcases hs with hs | rfl
   ·exact hp s hs
   ·exact hl x (by simp))
theorem own_slice {W : World} {base e size n : Nat} {v : Value} {xs : List Value} (h : W.ownsRow base e size v n xs) : ∃ A c, v = .slice A n c := by
 rcases h.2 with ⟨h', h2⟩ | ⟨g, cap, cur, h', _⟩
 ·subst h2; exact ⟨_, _, h'⟩
 ·exact ⟨_, _, h'⟩
theorem St.gone {W W1 : World} {base O R : Nat} {ov rv rv' : Value} {out : List Ms} {row : List ByteArray} {s : ByteArray} (h : St W base O R ov rv out row) (hown : W1.ownsRow base 9 1 rv' (row.length + 1) (row.map Value.string ++ [.string s])) (hg : W.grownBy W1 rv.ownBlock) : St (W1.setCell ⟨R, 0, none⟩ rv') base O R ov rv' out (row ++ [s]) := by
 have hO := box_ne h.hr h.bo (by decide)
 have hR := box_ne h.hr h.br (by decide)
 have bo1 := blk_grown h.bo hg hO
 have br1 := blk_grown h.br hg hR
 have ho1 : Rw W1 base ov out := by
  refine own_move h.ho (fun k hk => hg.block k (own_lt h.ho k hk) (fun e => ?_))
  obtain ⟨c1, e1⟩ := own_obj h.ho hk
  obtain ⟨c2, e2⟩ := own_obj h.hr e.symm
  rw [e1] at e2
  injection e2 with e2
  injection e2 with _ e2
  exact absurd e2 (by decide)
 have hOR : O ≠ R := blk_ne h.bo h.br (by decide)
 have hRo : some R ≠ ov.ownBlock := box_ne ho1 br1 (by decide)
 have hRr : some R ≠ rv'.ownBlock := box_ne hown br1 (by decide)
 refine ⟨blk_far bo1 (by simpa using hOR) rv', by simpa using blk_set br1 0 rv', own_move ho1 (fun k hk => Below.heap_setCell W1 _ rv' k (fun e => hRo (by rw [hk, e]))), ?_⟩
 have : Sw W1 base rv' (row ++ [s]) := by unfold Sw; rw [List.length_append, List.map_append]; exact hown
 exact own_move this (fun k hk => Below.heap_setCell W1 _ rv' k (fun e => hRr (by rw [hk, e])))
theorem own_down {w : World} {base base' : Nat} {e : TypeId} {size : Nat} {v : Value} {n : Nat} {xs : List Value} (h : w.ownsRow base e size v n xs) (hb : base' ≤ base) : w.ownsRow base' e size v n xs :=
 ⟨h.1, h.2.imp id (fun ⟨g, cap, cur, h1, h2, r⟩ => ⟨g, cap, cur, h1, Nat.le_trans hb h2, r⟩)⟩
theorem St.keptR {W W1 : World} {base O R : Nat} {ov rv : Value} {out : List Ms} {row : List ByteArray} (h : St W base O R ov rv out row) (hg : W.grownBy W1 rv.ownBlock) : W1.heap[O]? = some (.cells #[ov] 22 (0, 0)) ∧ W1.heap[R]? = some (.cells #[rv] 24 (0, 0)) :=
 ⟨blk_grown h.bo hg (box_ne h.hr h.bo (by decide)), blk_grown h.br hg (box_ne h.hr h.br (by decide))⟩
theorem cell_fr {B : List Nat} {w W : World} (h : Fr B w W) {a : Addr} {v : Value} (hn : a.block ∉ B) (hc : w.cell? a = some v) : W.cell? a = some v :=
 (World.cell?_of_block (h.block a.block (World.block_lt_of_cell? w a hc) hn)).trans hc
theorem at_S {w : World} {A : Option Addr} {n : Nat} {xs : List Sd} (h : Kd.C P.k95 w A n xs) (i : Int) (h0 : 0 ≤ i) (h1 : i < n) : ∃ ad, ∃ x : Sd, A = some ad ∧ xs[i.toNat]? = some x ∧ w.cell? (ad.add (i.toNat * 5)) = some (.string x.f0) ∧
  w.cell? ⟨(ad.add (i.toNat * 5)).block, (ad.add (i.toNat * 5)).off + 1, none⟩ = some (.string x.f1) ∧ w.cell? ⟨(ad.add (i.toNat * 5)).block, (ad.add (i.toNat * 5)).off + 2, none⟩ = some (.string x.f2) ∧ w.cell? ⟨(ad.add (i.toNat * 5)).block, (ad.add (i.toNat * 5)).off + 3, none⟩ = some (.bool x.f3) ∧
  w.cell? ⟨(ad.add (i.toNat * 5)).block, (ad.add (i.toNat * 5)).off + 4, none⟩ = some (.bool x.f4) := by
 obtain ⟨ad, c, e, _, hK, hc0⟩ := Kd.C_get h P.z95 i h0 h1
 have hc : ∀ j u, c[j]? = some u → w.cell? (ad.add (i.toNat * 5 + j)) = some u := hc0
 obtain rfl := P.k95_open hK
 have hl := h.1
 refine ⟨ad, _, e, ?_, hc 0 _ rfl, by rw [← add_field _ _ 1 (by omega)]; exact hc 1 _ rfl, by rw [← add_field _ _ 2 (by omega)]; exact hc 2 _ rfl, by rw [← add_field _ _ 3 (by omega)]; exact hc 3 _ rfl, by rw [← add_field _ _ 4 (by omega)]; exact hc 4 _ rfl⟩
 rw [List.getD_eq_getElem?_getD, List.getElem?_eq_getElem (by omega)]
 rfl
theorem runs_any {w : World} {A B : Option Addr} {c d k : Nat} {a b : List P.S39} {L : List Sd} (hA : Kd.C P.k39 w A a.length a) (hca : a.length ≤ c) (hB : Kd.C P.k39 w B b.length b) (hcb : b.length ≤ d) (hL : P.delta_beside.f k a b = some L) (hll : L.length ≤ 20000) (hsz : ∀ x ∈ L, x.f0.size ≤ 140737488351232) :
  Calls Try.prog 43 #[.slice A a.length c, .slice B b.length d] w fun e w' => ∃ v, e = .returned v ∧ Rw w' w.heap.size v (runsV L) ∧ Below w.heap.size w w' := by
 have hmaxa := Kd.C_max hA
 have hmaxb := Kd.C_max hB
 have hum := Try.underlying32
 have hus := Try.underlying95
 have hmf : ∀ (fn : Fn) (first cap : Array Value) (w : World), (Instr.makeFunc fn first cap).run Try.prog w = .ok (.func fn first cap) w := fun _ _ _ _ => rfl
 obtain ⟨i0, hi, hz0, hz1, hz2⟩ := info_parts P.info32
 obtain ⟨iS, si, sz0, sz1, sz2⟩ := info_parts2 infoS
 go_enter Try.func43, Try.ntmps43
 go_wp2_with (go_at_call 78; refine (P.delta_beside.calls k A c a B d b L _ (Kd.C_alloc (Kd.C_alloc hA _) _) hca (Kd.C_alloc (Kd.C_alloc hB _) _) hcb hL).mono ?_; rintro e w1 ⟨v0, rfl, hR, hb1⟩; obtain ⟨A5, c5, e5⟩ := Kd.R_slice hR; subst e5)
 have hbO : w1.heap[w.heap.size]? = some (.cells #[.slice none 0 0] 22 (0, 0)) := blk_below (blk_alloc (blk_new w _) _) hb1
 have hbR : w1.heap[w.heap.size + 1]? = some (.cells #[.slice none 0 0] 24 (0, 0)) := by
  have := blk_below (blk_new (w.alloc (.cells #[.slice none 0 0] 22)) (.cells #[.slice none 0 0] 24)) hb1
  simpa using this
 have hC5 := (Kd.R_reads' hR).2.2
 have hg5 : ∀ ad, A5 = some ad → 0 < L.length → ad.block ≠ w.heap.size ∧ ad.block ≠ w.heap.size + 1 := by
  intro ad e hpos
  obtain ⟨_, inner, hown, _⟩ := hR
  rcases hown.2 with ⟨_, h2⟩ | ⟨g, cap, cur, h', _, hg, _⟩
  ·omega
  ·rw [e] at h'
   injection h' with h' _ _
   injection h' with h'
   subst h'
   exact ⟨fun e2 => blk_ne hg hbO (by decide) e2, fun e2 => blk_ne hg hbR (by decide) e2⟩
 have hS0 : St w1 w1.heap.size w.heap.size (w.heap.size + 1) (.slice none 0 0) (.slice none 0 0) (runsF (L.take 0)).1 (runsF (L.take 0)).2 := ⟨hbO, hbR, World.ownsRow_nil _ _ _ _, World.ownsRow_nil _ _ _ _⟩
 have hF0 := Ord.Fr.refl [w.heap.size, w.heap.size + 1] w1
 have hsz1 : w.heap.size + 2 ≤ w1.heap.size := by have := hb1.size; simp at this; omega
 have hBw : Below w.heap.size w w1 := below_step (below_alloc (below_alloc (Below.refl w.heap.size w) _) _) hb1
 have hl5 : L.length ≤ 9223372036854775807 := by omega
 clear hA hB hL hR hb1 hbO hbR
 have hg5A := Aside0.mk hg5
 have hC5A := Aside0.mk hC5
 clear hg5 hC5
 go_loopg [15] L.length (fun n iv wr => ∃ i : Int, iv = .int .i64 i ∧ Aside (0 ≤ i ∧ i.toNat + n = L.length) ∧ Aside (∃ ov rv, St wr w1.heap.size w.heap.size (w.heap.size + 1) ov rv (runsF (L.take i.toNat)).1 (runsF (L.take i.toNat)).2) ∧ Aside (Fr [w.heap.size, w.heap.size + 1] w1 wr))
 case atStart => exact ⟨0, rfl, ⟨Int.le_refl _, by simp⟩, ⟨_, _, hS0⟩, hF0⟩
 case round =>
  clear hS0 hF0
  obtain ⟨i, rfl, hI, hS, hF⟩ := hrel
  obtain ⟨hi0, hi2⟩ := hI.out
  obtain ⟨ov, rv, hS1⟩ := hS.out
  clear hS
  have hFo : ∀ x ∈ (w.heap.size :: (w.heap.size + 1) :: ov.ownBlock.toList), x ∈ [w.heap.size, w.heap.size + 1] ∨ w1.heap.size ≤ x := fun x hx => by
   simp only [List.mem_cons] at hx
   rcases hx with rfl | rfl | hx
   ·simp
   ·simp
   ·exact .inr (own_base hS1.ho x (by simpa using hx))
  have hbd := runsF_bound (L.take i.toNat) ([], [])
  have hky := runsF_keys (Q := fun s => s.size ≤ 140737488351232) (L.take i.toNat) ([], []) (fun x hx => hsz x (List.mem_of_mem_take hx)) (by simp)
  have htl : (L.take i.toNat).length ≤ 20000 := by simp; omega
  simp only [List.length_nil] at hbd
  have hbd1 : (runsF (L.take i.toNat)).1.length ≤ 40000 := by unfold runsF; omega
  have hbd2 : (runsF (L.take i.toNat)).2.length ≤ 20000 := by unfold runsF; omega
  replace hky : ∀ s ∈ (runsF (L.take i.toNat)).2, s.size ≤ 140737488351232 := hky
  clear hbd htl
  cases gk with
  | zero =>
   have d0 : decide (i < (L.length : Int)) = false := decide_eq_false (by omega)
   rw [List.take_of_length_le (by omega)] at hS1 hbd1 hbd2 hky
   have EN := end_any hS1 hF.out.size (by omega) hky
   clear hi0 hi2 hI
   go_wp2_with (go_at_call 81; refine EN.mono ?_; clear EN; rintro e w2 ⟨v, ov', rv', rfl, hS2, hF2, hat2⟩; have y0 := blk_cell hS2.bo 0; simp only [List.getElem?_toArray, List.getElem?_cons_zero] at y0)
   go_ret
   exact ⟨_, rfl, own_down hS2.ho (by omega), hBw.trans ((Ord.Fr.trans hF.out hF2 hFo).below (fun k hk => by simp at hk; omega) (by omega))⟩
  | succ n =>
   have hlt : i < (L.length : Int) := by omega
   obtain ⟨ad, x, hadA, hx, q0, q1, q2, q3, q4⟩ := at_S hC5A.out i hi0 hlt
   have hnb := hg5A.out ad hadA (by omega)
   subst hadA
   have e0 := cell_fr hF.out (a := ad.add (i.toNat * 5)) (by rw [add_block]; simp [hnb.1, hnb.2]) q0
   have e1 := cell_fr hF.out (by simp [add_block, hnb.1, hnb.2]) q1
   have e2 := cell_fr hF.out (by simp [add_block, hnb.1, hnb.2]) q2
   have e3 := cell_fr hF.out (by simp [add_block, hnb.1, hnb.2]) q3
   have e4 := cell_fr hF.out (by simp [add_block, hnb.1, hnb.2]) q4
   have d0 := decide_eq_true hlt
   have d1 := decide_eq_true hi0
   have d2 := eq_true hi0
   have d3 := eq_true hlt
   have hwi : wrap64 (i + 1) = i + 1 := IntWalk.wrap64_in _ (by omega)
   have hst := Aside0.mk (runsF_snoc hx)
   have hxs := hsz x (List.mem_of_getElem? hx)
   have hiA := Aside0.mk (And.intro hi0 (And.intro hlt hi2))
   generalize runsF (L.take i.toNat) = p at hS1 hst hbd1 hbd2 hky
   obtain ⟨xs, xa, xb, xh, xd⟩ := x
   dsimp only at e0 e1 e2 e3 e4 hxs
   have hDn : wr.heap.size ∉ (w.heap.size :: (w.heap.size + 1) :: ov.ownBlock.toList) := by
    intro hm
    have h9 := hF.out.size
    simp only [List.mem_cons] at hm
    rcases hm with hm | hm | hm
    ·omega
    ·omega
    ·have := own_lt hS1.ho wr.heap.size (by simpa using hm)
     omega
   have hSa := hS1.alloc (objS ⟨xs, xa, xb, xh, xd⟩)
   have r0 := blk_cell hSa.br 0
   simp only [List.getElem?_toArray, List.getElem?_cons_zero] at r0
   have hsa : w1.heap.size ≤ (wr.alloc (objS ⟨xs, xa, xb, xh, xd⟩)).heap.size := by have := hF.out.size; simp; omega
   clear hx q0 q1 q2 q3 q4 hlt hi0 hi2 hI
   have hkA := Aside0.mk hky
   clear hky
   cases xh with
   | false =>
    go_wp2_with (at_builtin; refine wpList_append_own_at _ rfl _ _ 24 rfl w1.heap.size 9 iS (.string ⟨#[]⟩) 1 16 Try.underlying24 si sz0 sz1 sz2 rfl (by decide) _ _ _ rfl (hSa.alloc (.cells #[.string xs] 9)).hr ⟨wr.heap.size + 1, 0, none⟩ 1 1 [.string xs] rfl rfl (cell_lit (cs := #[.string xs]) (e := 9) (by have := blk_new (wr.alloc (objS ⟨xs, xa, xb, false, xd⟩)) (.cells #[.string xs] 9); simpa using this)) (by simp [Value.oneCell']) (le_max4 (by omega) (by decide)) (by omega) (by simpa using Nat.le_succ_of_le hsa) ?_; intro v5 w5 hown5 hg5 hnil5 hat5; obtain ⟨A7, c7, e7⟩ := own_slice hown5; subst e7; obtain ⟨ko, kr⟩ := (hSa.alloc (.cells #[.string xs] 9)).keptR hg5; have z0 := blk_frozen kr 0; have z1 := blk_cell kr 0; simp only [List.getElem?_toArray, List.getElem?_cons_zero] at z1)
    go_roundg n
    case measure => omega
    case rel =>
     obtain ⟨hi0, hlt, hi2⟩ := hiA.out
     have hT := (hSa.alloc (.cells #[.string xs] 9)).gone hown5 hg5
     refine ⟨i + 1, by rw [hwi], ⟨by omega, by omega⟩, ⟨ov, .slice A7 (p.2.length + 1) c7, ?_⟩, ?_⟩
     ·rw [show (i + 1).toNat = i.toNat + 1 by omega, hst.out]
      have e9 : stepR p ⟨xs, xa, xb, false, xd⟩ = (p.1, p.2 ++ [xs]) := by simp [stepR]
      rw [e9]
      exact hT
     ·exact Ord.Fr.set (Ord.Fr.trans (Ord.Fr.alloc (Ord.Fr.alloc hF.out _) _) (fr_grown (r := rv.ownBlock) hg5) (fun z hz => .inr (own_base hSa.hr z (by simpa using hz)))) (.inl (by simp)) _
   | true =>
    have EN := end_any hSa hsa (by omega) hkA.out
    have hel := endV_length p.1 p.2
    cases xd with
    | false =>
     go_wp2_with (first
      | (go_at_call 81; refine EN.mono ?_; clear EN; rintro e w2 ⟨v, ov', rv', rfl, hS2, hF2, hat2⟩; have hD2 := hF2.blk (blk_new wr (objS ⟨xs, xa, xb, true, false⟩)) hDn; have y0 := blk_cell hD2 0; have y1 := blk_cell hD2 1; have y2 := blk_cell hD2 2; have y3 := blk_cell hD2 3; have y4 := blk_cell hD2 4; simp only [List.getElem?_toArray, List.getElem?_cons_zero, List.getElem?_cons_succ] at y0 y1 y2 y3 y4; have o0 := blk_cell hS2.bo 0; simp only [List.getElem?_toArray, List.getElem?_cons_zero] at o0; have hs12 : w1.heap.size ≤ w2.heap.size := Nat.le_trans (Nat.le_trans hF.out.size (by simp)) hF2.size)
      | (at_builtin; refine wpList_append_own_at _ rfl _ _ 22 rfl w1.heap.size 32 i0 zM 6 72 Try.underlying22 hi hz0 hz1 hz2 rfl (by decide) _ _ _ rfl (hS2.alloc (objM (⟨1, 0, xs, P.e0, xb, 0⟩ : Ms))).ho ⟨w2.heap.size, 0, none⟩ 1 1 (enc (⟨1, 0, xs, P.e0, xb, 0⟩ : Ms)) rfl rfl (cell_enc (blk_new w2 (objM (⟨1, 0, xs, P.e0, xb, 0⟩ : Ms)))) (enc_one (⟨1, 0, xs, P.e0, xb, 0⟩ : Ms)) (le_max (by omega)) (by omega) (by simpa using Nat.le_succ_of_le hs12) ?_; intro v5 w5 hown5 hg5 hnil5 hat5; obtain ⟨A7, c7, e7⟩ := Rw.slice (Rw.snoc (m := (⟨1, 0, xs, P.e0, xb, 0⟩ : Ms)) hown5); subst e7; obtain ⟨ko, kr, kw⟩ := (hS2.alloc (objM (⟨1, 0, xs, P.e0, xb, 0⟩ : Ms))).kept hg5; have z0 := blk_frozen ko 0; have z1 := blk_cell ko 0; simp only [List.getElem?_toArray, List.getElem?_cons_zero] at z1))
     go_roundg n
     case measure => omega
     case rel =>
      obtain ⟨hi0, hlt, hi2⟩ := hiA.out
      have hT := (hS2.alloc (objM (⟨1, 0, xs, P.e0, xb, 0⟩ : Ms))).told hown5 hg5 hat5
      refine ⟨i + 1, by rw [hwi], ⟨by omega, by omega⟩, ⟨.slice A7 ((endV p.1 p.2).length + 1) c7, rv', ?_⟩, ?_⟩
      ·rw [show (i + 1).toNat = i.toNat + 1 by omega, hst.out]
       have e9 : stepR p ⟨xs, xa, xb, true, false⟩ = (endV p.1 p.2 ++ [(⟨1, 0, xs, P.e0, xb, 0⟩ : Ms)], []) := by simp [stepR]
       rw [e9]
       simp only [List.length_append, List.length_singleton] at hT
       exact hT
      ·exact Ord.Fr.set (Ord.Fr.trans (Ord.Fr.alloc (Ord.Fr.trans (Ord.Fr.alloc hF.out _) hF2 hFo) _) (fr_grown (r := ov'.ownBlock) hg5) (fun z hz => .inr (own_base hS2.ho z (by simpa using hz)))) (.inl (by simp)) _
    | true =>
     by_cases hsm : xa.toList = xb.toList
     ·have s1 : (xa.toList == xb.toList) = true := by simpa using hsm
      have s2 : (xa.toList != xb.toList) = false := by simpa [bne] using hsm
      have hsame : P.same xa xb = true := by simpa [P.same] using hsm
      go_wp2_with (go_at_call 81; refine EN.mono ?_; clear EN; rintro e w2 ⟨v, ov', rv', rfl, hS2, hF2, hat2⟩; have hD2 := hF2.blk (blk_new wr (objS ⟨xs, xa, xb, true, true⟩)) hDn; have y0 := blk_cell hD2 0; have y1 := blk_cell hD2 1; have y2 := blk_cell hD2 2; have y3 := blk_cell hD2 3; have y4 := blk_cell hD2 4; simp only [List.getElem?_toArray, List.getElem?_cons_zero, List.getElem?_cons_succ] at y0 y1 y2 y3 y4; have o0 := blk_cell hS2.bo 0; simp only [List.getElem?_toArray, List.getElem?_cons_zero] at o0; have hs12 : w1.heap.size ≤ w2.heap.size := Nat.le_trans (Nat.le_trans hF.out.size (by simp)) hF2.size)
      go_roundg n
      case measure => omega
      case rel =>
       obtain ⟨hi0, hlt, hi2⟩ := hiA.out
       refine ⟨i + 1, by rw [hwi], ⟨by omega, by omega⟩, ⟨ov', rv', ?_⟩, ?_⟩
       ·rw [show (i + 1).toNat = i.toNat + 1 by omega, hst.out]
        have e9 : stepR p ⟨xs, xa, xb, true, true⟩ = (endV p.1 p.2, []) := by simp [stepR, hsame]
        rw [e9]
        exact hS2
       ·exact Ord.Fr.trans (Ord.Fr.alloc hF.out _) hF2 hFo
     ·have s1 : (xa.toList == xb.toList) = false := by simpa using hsm
      have s2 : (xa.toList != xb.toList) = true := by simpa [bne] using hsm
      have hsame : P.same xa xb = false := by simpa [P.same] using hsm
      go_wp2_with (first
       | (go_at_call 81; refine EN.mono ?_; clear EN; rintro e w2 ⟨v, ov', rv', rfl, hS2, hF2, hat2⟩; have hD2 := hF2.blk (blk_new wr (objS ⟨xs, xa, xb, true, true⟩)) hDn; have y0 := blk_cell hD2 0; have y1 := blk_cell hD2 1; have y2 := blk_cell hD2 2; have y3 := blk_cell hD2 3; have y4 := blk_cell hD2 4; simp only [List.getElem?_toArray, List.getElem?_cons_zero, List.getElem?_cons_succ] at y0 y1 y2 y3 y4; have o0 := blk_cell hS2.bo 0; simp only [List.getElem?_toArray, List.getElem?_cons_zero] at o0; have hs12 : w1.heap.size ≤ w2.heap.size := Nat.le_trans (Nat.le_trans hF.out.size (by simp)) hF2.size)
       | (at_builtin; refine wpList_append_own_at _ rfl _ _ 22 rfl w1.heap.size 32 i0 zM 6 72 Try.underlying22 hi hz0 hz1 hz2 rfl (by decide) _ _ _ rfl (hS2.alloc (objM (⟨1, 0, xs, P.e0, xb, 0⟩ : Ms))).ho ⟨w2.heap.size, 0, none⟩ 1 1 (enc (⟨1, 0, xs, P.e0, xb, 0⟩ : Ms)) rfl rfl (cell_enc (blk_new w2 (objM (⟨1, 0, xs, P.e0, xb, 0⟩ : Ms)))) (enc_one (⟨1, 0, xs, P.e0, xb, 0⟩ : Ms)) (le_max (by omega)) (by omega) (by simpa using Nat.le_succ_of_le hs12) ?_; intro v5 w5 hown5 hg5 hnil5 hat5; obtain ⟨A7, c7, e7⟩ := Rw.slice (Rw.snoc (m := (⟨1, 0, xs, P.e0, xb, 0⟩ : Ms)) hown5); subst e7; obtain ⟨ko, kr, kw⟩ := (hS2.alloc (objM (⟨1, 0, xs, P.e0, xb, 0⟩ : Ms))).kept hg5; have z0 := blk_frozen ko 0; have z1 := blk_cell ko 0; simp only [List.getElem?_toArray, List.getElem?_cons_zero] at z1))
      go_roundg n
      case measure => omega
      case rel =>
       obtain ⟨hi0, hlt, hi2⟩ := hiA.out
       have hT := (hS2.alloc (objM (⟨1, 0, xs, P.e0, xb, 0⟩ : Ms))).told hown5 hg5 hat5
       refine ⟨i + 1, by rw [hwi], ⟨by omega, by omega⟩, ⟨.slice A7 ((endV p.1 p.2).length + 1) c7, rv', ?_⟩, ?_⟩
       ·rw [show (i + 1).toNat = i.toNat + 1 by omega, hst.out]
        have e9 : stepR p ⟨xs, xa, xb, true, true⟩ = (endV p.1 p.2 ++ [(⟨1, 0, xs, P.e0, xb, 0⟩ : Ms)], []) := by simp [stepR, hsame]
        rw [e9]
        simp only [List.length_append, List.length_singleton] at hT
        exact hT
       ·exact Ord.Fr.set (Ord.Fr.trans (Ord.Fr.alloc (Ord.Fr.trans (Ord.Fr.alloc hF.out _) hF2 hFo) _) (fr_grown (r := ov'.ownBlock) hg5) (fun z hz => .inr (own_base hS2.ho z (by simpa using hz)))) (.inl (by simp)) _
end Go.Proofs.Ytebejadiaooooaa.Dl
end
section
namespace Go.Proofs.Ytebejadiaooooaa.Dl
open Go.RowKit Go.Proofs.Ytebejadiaooooaa.Cp Go.Proofs.YtebejadiaooooaaW.PrintWords Go.Proofs.YtebejadiaooooaaW.PrintLast Go.Proofs.YtebejadiaooooaaW.PrintMore Go.Proofs.Ytebejadiaooooaa.Own Go.Proofs.Ytebejadiaooooaa
def okR (l : List Sd) : Bool := decide (l.length ≤ 20000) && l.all (fun x => decide (x.f0.size ≤ 140737488351232))
theorem okR_iff {l : List Sd} : okR l = true ↔ l.length ≤ 20000 ∧ ∀ x ∈ l, x.f0.size ≤ 140737488351232 := by
 simp [okR]
def runsC (k : Nat) (a b : List P.S39) : Option (List Ms) := (P.delta_beside.f k a b).bind fun L => if okR L = true then some (runsV L) else none
theorem runsC_calls {w : World} {k : Nat} {A0 A1 : Option Addr} {c0 c1 : Nat} {l0 l1 : List P.S39} {r : List Ms} (hr0 : Kd.C P.k39 w A0 l0.length l0) (hc0 : l0.length ≤ c0) (hr1 : Kd.C P.k39 w A1 l1.length l1) (hc1 : l1.length ≤ c1) (h : runsC k l0 l1 = some r) :
  Calls Try.prog 43 #[.slice A0 l0.length c0, .slice A1 l1.length c1] w fun e w' => ∃ v0_ : Value, e = .returned (v0_) ∧ Kd.R P.k32 32 w' w.heap.size (fun _ => True) v0_ r ∧ Below w.heap.size w w' := by
 unfold runsC at h
 obtain ⟨L, hL, h⟩ := Option.bind_eq_some_iff.mp h
 split at h
 ·rename_i hk
  obtain ⟨hl, hs⟩ := okR_iff.1 hk
  have := Option.some.inj h
  subst this
  refine (runs_any hr0 hc0 hr1 hc1 hL hl hs).mono ?_
  rintro e w' ⟨v, rfl, hr, hb⟩
  exact ⟨v, rfl, R_of_Rw hr, hb⟩
 ·cases h
end Go.Proofs.Ytebejadiaooooaa.Dl
end
