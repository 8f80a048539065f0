/- Texts of one claim (laid by shake.py). -/
import Derived.Test.YtebejadiaooooaaZy28
set_option linter.unusedVariables false
set_option linter.unusedSimpArgs false
section
namespace Go.Proofs.Ytebejadiaooooaa.Cp
open Go.RowKit Go.Shelf Go.Proofs.YtebejadiaooooaaW.PrintWords Go.Proofs.YtebejadiaooooaaW.PrintLast Go.Proofs.YtebejadiaooooaaW.PrintMore Go.Proofs.Ytebejadiaooooaa.Own Go.Proofs.Ytebejadiaooooaa
set_option maxHeartbeats 4000000
set_option maxRecDepth 100000
def Pt (w : World) (base : Nat) (v : Value) (l' : List Ms) (e : Ending) (w' : World) : Prop :=
 ∃ v', e = .returned v' ∧ Rw w' base v' l' ∧ w.grownBy w' v.ownBlock ∧ (v'.ownBlock = v.ownBlock ∨ ∃ k, v'.ownBlock = some k ∧ w.heap.size ≤ k)
theorem Rw.snoc {w' : World} {base : Nat} {v' : Value} {l : List Ms} {m : Ms} (h : w'.ownsRow base 32 6 v' (l.length + 1) (flat l ++ enc m)) : Rw w' base v' (l ++ [m]) := by
 show w'.ownsRow _ _ _ _ _ _
 rw [List.length_append, flat_snoc]
 exact h
theorem last_any {W : World} {A : Option Addr} {c : Nat} {l : List Ms} (hC : Kd.C P.k32 W A l.length l) (hcap : l.length ≤ c) (hlen : l.length ≤ 100000) (hsz : ∀ x ∈ l, P.okS x) (s : ByteArray) :
  Calls Try.prog 92 #[.slice A l.length c, .string s] W fun e w' => e = .returned (.int .i64 (P.lastI l s)) ∧ Below W.heap.size W w' :=
 P.compact_last.calls (l.length + 1) A c l s _ W hC hcap (P.last_eq _ l s (by omega) hsz (by omega))
theorem cell_enc {W : World} {D : Nat} {m : Ms} (h : W.heap[D]? = some (objM m)) : ∀ j u, (enc m)[j]? = some u → W.cell? ((⟨D, 0, none⟩ : Addr).add j) = some u := by
 intro j u hu
 rw [Addr.add_lit, Nat.zero_add, cell_of_row W D j _ _ _ h]
 have hj : j < 6 := (List.getElem?_eq_some_iff.1 hu).1
 obtain rfl | rfl | rfl | rfl | rfl | rfl : j = 0 ∨ j = 1 ∨ j = 2 ∨ j = 3 ∨ j = 4 ∨ j = 5 := by omega
 all_goals exact hu
theorem enc_one (m : Ms) : ∀ u ∈ enc m, u.oneCell' = true := fun u hu => flat_one (l := [m]) (by rw [flat_cons, flat_nil, List.append_nil]; exact hu)
theorem le_max {n : Nat} (h : n ≤ 100000) : n + 1 ≤ maxLen := Nat.le_trans (Nat.succ_le_succ h) (by unfold maxLen; decide)
theorem row_succ {w : World} {base e size n : Nat} {v : Value} {xs : List Value} (h : w.ownsRow base e size v (n + 1) xs) : ∃ g cap, v = .slice (some ⟨g, 0, none⟩) (n + 1) cap := by
 rcases h.2 with ⟨_, h⟩ | ⟨g, cap, cur, hv, _⟩
 ·omega
 ·exact ⟨g, cap, hv⟩
theorem pt_end {w W w2 : World} {base : Nat} {v v' : Value} {l : List Ms} {m : Ms} (hg : w.grownBy W v.ownBlock) (hown : w2.ownsRow base 32 6 v' (l.length + 1) (flat l ++ enc m)) (hgr : W.grownBy w2 v.ownBlock) (hat : v'.ownBlock = v.ownBlock ∨ v'.ownBlock = some W.heap.size) : Pt w base v (l ++ [m]) (.returned v') w2 :=
 ⟨v', rfl, Rw.snoc hown, hg.trans hgr, hat.imp id (fun h => ⟨_, h, hg.size⟩)⟩
theorem pt_new {w : World} {base : Nat} {v : Value} {l : List Ms} (m : Ms) (hr : Rw w base v l) (hbase : base ≤ w.heap.size) (hlen : l.length ≤ 100000) (hsz : ∀ x ∈ l, P.okS x) (hl : P.lastI l m.f2 = -1) :
  Calls Try.prog 60 #[v, aggM m] w (Pt w base v (l ++ [m])) := by
 obtain ⟨A, c, rfl⟩ := hr.slice
 obtain ⟨_, hcap, hC⟩ := C_of_Rw hr
 have LA := last_any (Kd.C_below hC (below_alloc (Below.refl _ _) (objM m))) hcap hlen hsz m.f2
 rw [hl] at LA
 have hum := Try.underlying32
 obtain ⟨i0, hi, hz0, hz1, hz2⟩ := info_parts P.info32
 have hmx : maxLen = 9223372036854775807 := rfl
 clear hC
 go_enter Try.func60, Try.ntmps60
 go_wp2_with (first
  | (go_at_call 92; refine LA.mono ?_; clear LA; rintro e w1 ⟨rfl, hb1⟩; have hD := blk_below (blk_new w (objM m)) hb1; have y0 := blk_cell hD 0; have y1 := blk_cell hD 1; have y2 := blk_cell hD 2; have y3 := blk_cell hD 3; have y4 := blk_cell hD 4; have y5 := blk_cell hD 5; simp at y0 y1 y2 y3 y4 y5; have hr1 := (hr.below (below_alloc (Below.refl _ _) (objM m))).below hb1; have hs1 := hb1.size)
  | (at_builtin; refine wpList_append_own_at _ rfl _ _ 22 rfl base 32 i0 zM 6 72 Try.underlying22 hi hz0 hz1 hz2 rfl (by decide) _ _ _ rfl (World.ownsRow.alloc hr1 _) ⟨w1.heap.size, 0, none⟩ 1 1 (enc m) rfl rfl (cell_enc (blk_new w1 (objM m))) (enc_one m) (le_max hlen) (by omega) (by simp at hs1 ⊢; omega) ?_; intro v' w2 hown hgr _ hat))
 obtain ⟨g', cap', rfl⟩ := row_succ hown
 go_ret
 exact pt_end (((grown_below (below_alloc (Below.refl _ _) (objM m)) _).trans (grown_below hb1 _)).trans (grown_below (below_alloc (Below.refl _ _) (objM m)) _)) hown hgr hat
theorem pt_keep {w : World} {base : Nat} {v : Value} {l : List Ms} (m : Ms) (hr : Rw w base v l) (hbase : base ≤ w.heap.size) (hlen : l.length ≤ 100000) (hsz : ∀ x ∈ l, P.okS x) {i : Nat} {x : Ms} (hl : P.lastI l m.f2 = (i : Int)) (hx : l[i]? = some x) (hp : P.isPt x.f0 = false) (h2 : (m.f0 == 2) = true) :
  Calls Try.prog 60 #[v, aggM m] w (Pt w base v l) := by
 obtain ⟨A, c, rfl⟩ := hr.slice
 obtain ⟨_, hcap, hC⟩ := C_of_Rw hr
 have hC1 := Kd.C_below hC (below_alloc (Below.refl _ _) (objM m))
 have LA := last_any hC1 hcap hlen hsz m.f2
 rw [hl] at LA
 have IP := isPt_any x
 rw [hp] at IP
 have hum := Try.underlying32
 have hil : i < l.length := (List.getElem?_eq_some_iff.1 hx).1
 obtain ⟨ad, x', rfl, hx', q0, q1, q2, q3, q4, q5⟩ := at_M hC1 (i : Int) (by omega) (by omega)
 obtain rfl : x' = x := by simp at hx'; rw [hx] at hx'; exact (Option.some.inj hx').symm
 simp only [Int.toNat_natCast] at q0 q1 q2 q3 q4 q5
 have d0 : ((i : Int) < 0) = False := eq_false (by omega)
 have d1 : decide ((i : Int) < 0) = false := decide_eq_false (by omega)
 have d2 : decide (0 ≤ (i : Int)) = true := decide_eq_true (by omega)
 have d3 : decide ((i : Int) < (l.length : Int)) = true := decide_eq_true (by omega)
 have d4 : ((i : Int) < (l.length : Int)) = True := eq_true (by omega)
 have d5 : (0 ≤ (i : Int)) = True := eq_true (by omega)
 have hi2 : i < l.length := hil
 clear hC hx hx' hil hl hp hC1
 go_enter Try.func60, Try.ntmps60
 go_wp2_with (first
  | (go_at_call 92; refine LA.mono ?_; clear LA; rintro e w1 ⟨rfl, hb1⟩; have hD := blk_below (blk_new w (objM m)) hb1; have y0 := blk_cell hD 0; have y1 := blk_cell hD 1; have y2 := blk_cell hD 2; have y3 := blk_cell hD 3; have y4 := blk_cell hD 4; have y5 := blk_cell hD 5; simp at y0 y1 y2 y3 y4 y5; have e0 := cell_below hb1 q0; have e1 := cell_below hb1 q1; have e2 := cell_below hb1 q2; have e3 := cell_below hb1 q3; have e4 := cell_below hb1 q4; have e5 := cell_below hb1 q5)
  | (go_at_call 55; refine (IP _).mono ?_; clear IP; rintro e w2 ⟨rfl, hb2⟩; have hD2 := blk_below hD hb2; (try clear y0 y1 y2 y3 y4 y5); have y0 := blk_cell hD2 0; have y1 := blk_cell hD2 1; have y2 := blk_cell hD2 2; have y3 := blk_cell hD2 3; have y4 := blk_cell hD2 4; have y5 := blk_cell hD2 5; simp at y0 y1 y2 y3 y4 y5))
 go_ret
 have hb : Below w.heap.size w w2 := below_step (below_step (below_alloc (Below.refl _ _) (objM m)) hb1) hb2
 exact ⟨_, rfl, hr.below hb, grown_below hb _, .inl rfl⟩
theorem pt_app {w : World} {base : Nat} {v : Value} {l : List Ms} (m : Ms) (hr : Rw w base v l) (hbase : base ≤ w.heap.size) (hlen : l.length ≤ 100000) (hsz : ∀ x ∈ l, P.okS x) {i : Nat} {x : Ms} (hl : P.lastI l m.f2 = (i : Int)) (hx : l[i]? = some x) (hp : P.isPt x.f0 = false) (h2 : (m.f0 == 2) = false) (h3 : (m.f0 == 3) = false) :
  Calls Try.prog 60 #[v, aggM m] w (Pt w base v (l ++ [m])) := by
 obtain ⟨A, c, rfl⟩ := hr.slice
 obtain ⟨_, hcap, hC⟩ := C_of_Rw hr
 have hC1 := Kd.C_below hC (below_alloc (Below.refl _ _) (objM m))
 have LA := last_any hC1 hcap hlen hsz m.f2
 rw [hl] at LA
 have IP := isPt_any x
 rw [hp] at IP
 have hum := Try.underlying32
 obtain ⟨i0, hi, hz0, hz1, hz2⟩ := info_parts P.info32
 have hmx : maxLen = 9223372036854775807 := rfl
 have hil : i < l.length := (List.getElem?_eq_some_iff.1 hx).1
 obtain ⟨ad, x', rfl, hx', q0, q1, q2, q3, q4, q5⟩ := at_M hC1 (i : Int) (by omega) (by omega)
 obtain rfl : x' = x := by simp at hx'; rw [hx] at hx'; exact (Option.some.inj hx').symm
 simp only [Int.toNat_natCast] at q0 q1 q2 q3 q4 q5
 have d0 : ((i : Int) < 0) = False := eq_false (by omega)
 have d1 : decide ((i : Int) < 0) = false := decide_eq_false (by omega)
 have d2 : decide (0 ≤ (i : Int)) = true := decide_eq_true (by omega)
 have d3 : decide ((i : Int) < (l.length : Int)) = true := decide_eq_true (by omega)
 have d4 : ((i : Int) < (l.length : Int)) = True := eq_true (by omega)
 have d5 : (0 ≤ (i : Int)) = True := eq_true (by omega)
 have hi2 : i < l.length := hil
 clear hC hx hx' hil hl hp hC1
 go_enter Try.func60, Try.ntmps60
 go_wp2_with (first
  | (go_at_call 92; refine LA.mono ?_; clear LA; rintro e w1 ⟨rfl, hb1⟩; have hD := blk_below (blk_new w (objM m)) hb1; have y0 := blk_cell hD 0; have y1 := blk_cell hD 1; have y2 := blk_cell hD 2; have y3 := blk_cell hD 3; have y4 := blk_cell hD 4; have y5 := blk_cell hD 5; simp at y0 y1 y2 y3 y4 y5; have e0 := cell_below hb1 q0; have e1 := cell_below hb1 q1; have e2 := cell_below hb1 q2; have e3 := cell_below hb1 q3; have e4 := cell_below hb1 q4; have e5 := cell_below hb1 q5)
  | (go_at_call 55; refine (IP _).mono ?_; clear IP; rintro e w2 ⟨rfl, hb2⟩; have hD2 := blk_below hD hb2; (try clear y0 y1 y2 y3 y4 y5); have y0 := blk_cell hD2 0; have y1 := blk_cell hD2 1; have y2 := blk_cell hD2 2; have y3 := blk_cell hD2 3; have y4 := blk_cell hD2 4; have y5 := blk_cell hD2 5; simp at y0 y1 y2 y3 y4 y5; have hb := Aside0.mk (below_step (below_step (below_alloc (Below.refl w.heap.size w) (objM m)) hb1) hb2); have hr1 := Aside0.mk (hr.below hb.out); have hs1 := hb.out.size)
  | (at_builtin; refine wpList_append_own_at _ rfl _ _ 22 rfl base 32 i0 zM 6 72 Try.underlying22 hi hz0 hz1 hz2 rfl (by decide) _ _ _ rfl (World.ownsRow.alloc hr1.out _) ⟨w2.heap.size, 0, none⟩ 1 1 (enc m) rfl rfl (cell_enc (blk_new w2 (objM m))) (enc_one m) (le_max hlen) (by omega) (by simp; omega) ?_; intro v' w3 hown hgr _ hat))
 obtain ⟨g', cap', rfl⟩ := row_succ hown
 go_ret
 exact pt_end ((grown_below hb.out _).trans (grown_below (below_alloc (Below.refl _ _) (objM m)) _)) hown hgr hat
end Go.Proofs.Ytebejadiaooooaa.Cp
end
section
namespace Go.Proofs.Ytebejadiaooooaa.Cp
open Go.RowKit Go.Shelf Go.Proofs.YtebejadiaooooaaW.PrintWords Go.Proofs.YtebejadiaooooaaW.PrintLast Go.Proofs.YtebejadiaooooaaW.PrintMore Go.Proofs.Ytebejadiaooooaa.Own Go.Proofs.Ytebejadiaooooaa
open List renaming setIfInBounds_toArray → sA1, set_cons_zero → sA2, set_cons_succ → sA3, getElem_toArray → sA4, getElem_cons_zero → sA5, getElem_cons_succ → sA6
set_option maxHeartbeats 4000000
set_option maxRecDepth 100000
theorem ptT4 : rtab .any (opsOf Try.f60 4) = rtab .any (opsOf Try.f60 4) := rfl
theorem ptT5 : rtab .any (opsOf Try.f60 5) = rtab .any (opsOf Try.f60 5) := rfl
theorem ptT9 : rtab .any (opsOf Try.f60 9) = rtab .any (opsOf Try.f60 9) := rfl
theorem box_set {W : World} {D : Nat} {m : Ms} (m' : Ms) (h : W.heap[D]? = some (objM m)) : (W.setCells D 0 (enc m')).heap[D]? = some (objM m') :=
 blk_set (blk_set (blk_set (blk_set (blk_set (blk_set h 0 _) 1 _) 2 _) 3 _) 4 _) 5 _
theorem put_any (d : Int) (W : World) : Calls Try.prog 95 #[.int .u64 d] W fun e w' => e = .returned (.string (strOfNums (Wp.eight d))) ∧ Below W.heap.size W w' := P.word_Put.calls d _ W rfl
theorem join_any (a b : Ms) (ha : P.isPt a.f0 = true) (hb : P.isPt b.f0 = true) (hk : a.f2 = b.f2) (W : World) : Calls Try.prog 93 #[aggM a, aggM b] W fun e w' => e = .returned (.tuple #[aggM (P.joinM a b), .bool true]) ∧ Below W.heap.size W w' :=
 P.msg_Join.calls (0 + 10) _ _ _ _ _ _ _ _ _ _ _ _ _ _ _ _ _ _ _ W (P.Join_eq 0 a b ha hb hk)
theorem pt_add {w : World} {base : Nat} {v : Value} {l : List Ms} (m : Ms) (hr : Rw w base v l) (hbase : base ≤ w.heap.size) (hlen : l.length ≤ 100000) (hsz : ∀ x ∈ l, P.okS x) {i : Nat} {x : Ms} (hl : P.lastI l m.f2 = (i : Int)) (hx : l[i]? = some x) (hp : P.isPt x.f0 = false) (h2 : (m.f0 == 2) = false) (h3 : (m.f0 == 3) = true) :
  Calls Try.prog 60 #[v, aggM m] w (Pt w base v (l ++ [⟨1, m.f1, m.f2, P.e0, strOfNums (Wp.eight m.f5), 0⟩])) := by
 obtain ⟨A, c, rfl⟩ := hr.slice
 obtain ⟨_, hcap, hC⟩ := C_of_Rw hr
 have hC1 := Kd.C_below hC (below_alloc (Below.refl _ _) (objM m))
 have LA := last_any hC1 hcap hlen hsz m.f2
 rw [hl] at LA
 have IP := isPt_any x
 rw [hp] at IP
 have hum := Try.underlying32
 obtain ⟨i0, hi, hz0, hz1, hz2⟩ := info_parts P.info32
 have hmx : maxLen = 9223372036854775807 := rfl
 have hil : i < l.length := (List.getElem?_eq_some_iff.1 hx).1
 obtain ⟨ad, x', rfl, hx', q0, q1, q2, q3, q4, q5⟩ := at_M hC1 (i : Int) (by omega) (by omega)
 obtain rfl : x' = x := by simp at hx'; rw [hx] at hx'; exact (Option.some.inj hx').symm
 simp only [Int.toNat_natCast] at q0 q1 q2 q3 q4 q5
 have d0 : ((i : Int) < 0) = False := eq_false (by omega)
 have d1 : decide ((i : Int) < 0) = false := decide_eq_false (by omega)
 have d2 : decide (0 ≤ (i : Int)) = true := decide_eq_true (by omega)
 have d3 : decide ((i : Int) < (l.length : Int)) = true := decide_eq_true (by omega)
 have d4 : ((i : Int) < (l.length : Int)) = True := eq_true (by omega)
 have d5 : (0 ≤ (i : Int)) = True := eq_true (by omega)
 have hi2 : i < l.length := hil
 clear hC hx hx' hil hl hp hC1
 go_enter Try.func60, Try.ntmps60
 go_wp2_with (first
  | (go_at_call 92; refine LA.mono ?_; clear LA; rintro e w1 ⟨rfl, hb1⟩; have hD := blk_below (blk_new w (objM m)) hb1; have y0 := blk_cell hD 0; have y1 := blk_cell hD 1; have y2 := blk_cell hD 2; have y3 := blk_cell hD 3; have y4 := blk_cell hD 4; have y5 := blk_cell hD 5; simp at y0 y1 y2 y3 y4 y5; have e0 := cell_below hb1 q0; have e1 := cell_below hb1 q1; have e2 := cell_below hb1 q2; have e3 := cell_below hb1 q3; have e4 := cell_below hb1 q4; have e5 := cell_below hb1 q5)
  | (go_at_call 55; refine (IP _).mono ?_; clear IP; rintro e w2 ⟨rfl, hb2⟩; have hD2 := blk_below hD hb2; (try clear y0 y1 y2 y3 y4 y5); have y0 := blk_cell hD2 0; have y1 := blk_cell hD2 1; have y2 := blk_cell hD2 2; have y3 := blk_cell hD2 3; have y4 := blk_cell hD2 4; have y5 := blk_cell hD2 5; simp at y0 y1 y2 y3 y4 y5; have hb := Aside0.mk (below_step (below_step (below_alloc (Below.refl w.heap.size w) (objM m)) hb1) hb2); have hr1 := Aside0.mk (hr.below hb.out); have hs1 := hb.out.size))
 rename_i K0 hK0
 clear y0 y1 y2 y3 y4 y5
 have hDd : w2.drew.heap[w.heap.size]? = some (objM m) := hD2
 refine start_ (n := 9) (S := fun w' => w'.cell? ⟨w.heap.size, 0, none⟩ = some (.int .u8 m.f0) ∧ w'.cell? ⟨w.heap.size, 1, none⟩ = some (.int .i64 m.f1) ∧ w'.cell? ⟨w.heap.size, 2, none⟩ = some (.string m.f2) ∧ w'.cell? ⟨w.heap.size, 3, none⟩ = some (.string m.f3) ∧ w'.cell? ⟨w.heap.size, 4, none⟩ = some (.string m.f4) ∧ w'.cell? ⟨w.heap.size, 5, none⟩ = some (.int .u64 m.f5)) (ds := [8]) #[false, false, false, false, false, false, false, false, false] (by kernel_rfl) rfl rfl ⟨blk_cell hDd 0, blk_cell hDd 1, blk_cell hDd 2, blk_cell hDd 3, blk_cell hDd 4, blk_cell hDd 5⟩ (fun hHeld => ?_)
 have HT_ := Aside0.mk ptT9
 refine pU_ 0 44 #[true, false, false, false, false, false, false, false, false] ?_
 refine pU_ 2 46 #[true, false, true, false, false, false, false, false, false] ?_
 refine pU_ 4 48 #[true, false, true, false, true, false, false, false, false] ?_
 refine take_ (i := 1) (N := some 45) (v := ?_) (a' := ?_) #[true, true, true, false, true, false, false, false, false] rfl rfl (take_of HT_.out (by kernel_rfl)) (fun _ _ _ h => h) (Or.inl ⟨by rfl, ?_⟩) hHeld ?_ ?_
 rotate_left
 ·rintro w' ⟨s0, s1, s2, s3, s4, s5⟩
  go_simp
  with_reducible rfl
 rotate_left
 ·simp only [Act.put, sA1, sA2, sA3, i64_w, i32_w]
  rfl
 refine take_ (i := 3) (N := some 47) (v := ?_) (a' := ?_) #[true, true, true, true, true, false, false, false, false] rfl rfl (take_of HT_.out (by kernel_rfl)) (fun _ _ _ h => h) (Or.inl ⟨by rfl, ?_⟩) hHeld ?_ ?_
 rotate_left
 ·rintro w' ⟨s0, s1, s2, s3, s4, s5⟩
  go_simp
  with_reducible rfl
 rotate_left
 ·simp only [Act.put, sA1, sA2, sA3, i64_w, i32_w]
  rfl
 refine take_ (i := 5) (N := some 49) (v := ?_) (a' := ?_) #[true, true, true, true, true, true, false, false, false] rfl rfl (take_of HT_.out (by kernel_rfl)) (fun _ _ _ h => h) (Or.inl ⟨by rfl, ?_⟩) hHeld ?_ ?_
 rotate_left
 ·rintro w' ⟨s0, s1, s2, s3, s4, s5⟩
  go_simp
  with_reducible rfl
 rotate_left
 ·simp only [Act.put, sA1, sA2, sA3, i64_w, i32_w]
  rfl
 refine one_ (i := 6) (N := some 50) #[true, true, true, true, true, true, true, false, false] rfl rfl (one_of HT_.out (by kernel_rfl)) (by decide) (fun K hK => ?_)
 refine goes_ Try.func95 (by kernel_rfl) rfl #[.int .u64 m.f5] (by rfl) rfl rfl (by (try simp only [List.map_toArray, List.map_cons, List.map_nil]); first | done | rfl) ?_
 refine (put_any m.f5 _).mono ?_
 rintro e w3 ⟨rfl, hb3⟩
 refine ⟨_, rfl, ?_⟩
 have hD3 := blk_below hDd hb3
 refine hK.out _ _ ⟨blk_cell hD3 0, blk_cell hD3 1, blk_cell hD3 2, blk_cell hD3 3, blk_cell hD3 4, blk_cell hD3 5⟩ (fun hHeld => ?_)
 clear hK K
 refine norm_ (a' := ?_) ?_ ?_
 rotate_left
 ·show Act.put _ (some 50) _ = _
  simp only [Act.put, sA1, sA2, sA3, i64_w, i32_w]
  rfl
 refine pU_ 7 51 #[true, true, true, true, true, true, true, true, false] ?_
 have z0 := blk_frozen hD3 0
 have z1 := blk_frozen hD3 1
 have z2 := blk_frozen hD3 2
 have z3 := blk_frozen hD3 3
 have z4 := blk_frozen hD3 4
 have z5 := blk_frozen hD3 5
 obtain ⟨t0, t1, t2, t3, t4, t5⟩ := hHeld
 refine last_ (i := 8) (N := none) #[true, true, true, true, true, true, true, true, true] rfl rfl (one_of HT_.out (by kernel_rfl)) (by decide) (fun K hK => ?_)
 refine skip_ (w1 := w3.setCells w.heap.size 0 (enc ⟨1, m.f1, m.f2, P.e0, strOfNums (Wp.eight m.f5), 0⟩)) (by rfl) rfl ?_ ?_
 ·go_simp
  rfl
 refine hK.out _ _ ?_
 clear hK K
 refine done_ (done_of HT_.out (by kernel_rfl)) ?_
 have hD4 := box_set ⟨1, m.f1, m.f2, P.e0, strOfNums (Wp.eight m.f5), 0⟩ hD3
 have hg4 := grown_setCells w.heap.size (enc ⟨1, m.f1, m.f2, P.e0, strOfNums (Wp.eight m.f5), 0⟩) 0 w3
 generalize hm4 : (⟨1, m.f1, m.f2, P.e0, strOfNums (Wp.eight m.f5), 0⟩ : Ms) = m4 at hD4 hg4 ⊢
 generalize w3.setCells w.heap.size 0 (enc m4) = w4 at hD4 hg4 ⊢
 have hb03 : Below w.heap.size w w3 := below_step (below_drew hb.out) hb3
 have hr4 := Aside0.mk (own_move (hr.below hb03) (fun k hk => hg4.block k (own_lt (hr.below hb03) k hk) (fun e => by have h1 := own_lt hr k hk; injection e with e; omega)))
 have hs4 : w.heap.size ≤ w4.heap.size := Nat.le_trans hb03.size hg4.size
 have hgA := Aside0.mk (grown_then (grown_below hb03 ((Value.slice (some ad) l.length c).ownBlock)) hg4 (fun j hj => by injection hj with hj; exact .inl (by omega)))
 clear t0 t1 t2 t3 t4 t5 z0 z1 z2 z3 z4 z5
 have y0 := blk_cell hD4 0
 have y1 := blk_cell hD4 1
 have y2 := blk_cell hD4 2
 have y3 := blk_cell hD4 3
 have y4 := blk_cell hD4 4
 have y5 := blk_cell hD4 5
 simp at y0 y1 y2 y3 y4 y5
 have hmA := Aside0.mk hm4
 clear hm4
 show K0 _ _
 refine hK0 _ _ ?_
 go_wp2_with (at_builtin; refine wpList_append_own_at _ rfl _ _ 22 rfl base 32 i0 zM 6 72 Try.underlying22 hi hz0 hz1 hz2 rfl (by decide) _ _ _ rfl (World.ownsRow.alloc hr4.out _) ⟨w4.heap.size, 0, none⟩ 1 1 (enc m4) rfl rfl (cell_enc (blk_new w4 (objM m4))) (enc_one m4) (le_max hlen) (by omega) (by simp; omega) ?_; intro v' w5 hown hgr _ hat)
 obtain ⟨g', cap', rfl⟩ := row_succ hown
 go_ret
 rw [hmA.out]
 exact (show Pt w base (.slice (some ad) l.length c) (l ++ [m4]) (.returned (.slice (some ⟨g', 0, none⟩) (l.length + 1) cap')) w5 from pt_end (hgA.out.trans (grown_below (below_alloc (Below.refl _ _) (objM m4)) _)) hown hgr hat)
theorem delete_any' {w : World} {base g cap : Nat} {cur : Array Value} {l : List Ms} (i : Nat) (hb : base ≤ g) (hh : w.heap[g]? = some (.cells cur 32 (0, 0))) (hc : l.length ≤ cap) (hm : cap ≤ maxLen) (hs : cur.size = cap * 6) (ht : cur.toList.take (l.length * 6) = flat l) (hi : i < l.length) :
  Calls Try.prog 94 #[.slice (some ⟨g, 0, none⟩) l.length cap, .int .i64 (i : Int), .int .i64 ((i : Int) + 1)] w fun e w' => e = .returned (.slice (some ⟨g, 0, none⟩) (l.eraseIdx i).length cap) ∧ Rw w' base (.slice (some ⟨g, 0, none⟩) (l.eraseIdx i).length cap) (l.eraseIdx i) ∧ w.grownBy w' (some g) :=
 delete_any i (i + 1) hb hh hc hm hs ht rfl hi
theorem pt_join {w : World} {base : Nat} {v : Value} {l : List Ms} (m : Ms) (hr : Rw w base v l) (hbase : base ≤ w.heap.size) (hlen : l.length ≤ 100000) (hsz : ∀ x ∈ l, P.okS x) {i : Nat} {x : Ms} (hl : P.lastI l m.f2 = (i : Int)) (hx : l[i]? = some x) (hp : P.isPt x.f0 = true) (hmp : P.isPt m.f0 = true) (hkk : x.f2 = m.f2) {l2 : List Ms} (ih : ∀ {W : World} {v : Value}, Rw W base v (l.eraseIdx i) → base ≤ W.heap.size → Calls Try.prog 60 #[v, aggM (P.joinM x m)] W (Pt W base v l2)) :
  Calls Try.prog 60 #[v, aggM m] w (Pt w base v l2) := by
 obtain ⟨A, c, rfl⟩ := hr.slice
 obtain ⟨_, hcap, hC⟩ := C_of_Rw hr
 have hC1 := Kd.C_below hC (below_alloc (Below.refl _ _) (objM m))
 have LA := last_any hC1 hcap hlen hsz m.f2
 rw [hl] at LA
 have IP := isPt_any x
 rw [hp] at IP
 have hum := Try.underlying32
 obtain ⟨i0, hi, hz0, hz1, hz2⟩ := info_parts P.info32
 have hmx : maxLen = 9223372036854775807 := rfl
 have hil : i < l.length := (List.getElem?_eq_some_iff.1 hx).1
 obtain ⟨ad, x', rfl, hx', q0, q1, q2, q3, q4, q5⟩ := at_M hC1 (i : Int) (by omega) (by omega)
 obtain rfl : x' = x := by simp at hx'; rw [hx] at hx'; exact (Option.some.inj hx').symm
 simp only [Int.toNat_natCast] at q0 q1 q2 q3 q4 q5
 have d0 : ((i : Int) < 0) = False := eq_false (by omega)
 have d1 : decide ((i : Int) < 0) = false := decide_eq_false (by omega)
 have d2 : decide (0 ≤ (i : Int)) = true := decide_eq_true (by omega)
 have d3 : decide ((i : Int) < (l.length : Int)) = true := decide_eq_true (by omega)
 have d4 : ((i : Int) < (l.length : Int)) = True := eq_true (by omega)
 have d5 : (0 ≤ (i : Int)) = True := eq_true (by omega)
 have hi2 : i < l.length := hil
 have JN := join_any x' m hp hmp hkk
 have hilA := Aside0.mk hil
 have hwi : wrap64 ((i : Int) + 1) = (i : Int) + 1 := IntWalk.wrap64_in _ (by omega)
 generalize P.joinM x' m = jm at JN ih
 clear hC hx hx' hil hl hp hC1 hmp hkk
 go_enter Try.func60, Try.ntmps60
 go_wp2_with (first
  | (go_at_call 92; refine LA.mono ?_; clear LA; rintro e w1 ⟨rfl, hb1⟩; have hD := blk_below (blk_new w (objM m)) hb1; have y0 := blk_cell hD 0; have y1 := blk_cell hD 1; have y2 := blk_cell hD 2; have y3 := blk_cell hD 3; have y4 := blk_cell hD 4; have y5 := blk_cell hD 5; simp at y0 y1 y2 y3 y4 y5; have e0 := cell_below hb1 q0; have e1 := cell_below hb1 q1; have e2 := cell_below hb1 q2; have e3 := cell_below hb1 q3; have e4 := cell_below hb1 q4; have e5 := cell_below hb1 q5)
  | (go_at_call 55; refine (IP _).mono ?_; clear IP; rintro e w2 ⟨rfl, hb2⟩; have hD2 := blk_below hD hb2; (try clear y0 y1 y2 y3 y4 y5); have y0 := blk_cell hD2 0; have y1 := blk_cell hD2 1; have y2 := blk_cell hD2 2; have y3 := blk_cell hD2 3; have y4 := blk_cell hD2 4; have y5 := blk_cell hD2 5; simp at y0 y1 y2 y3 y4 y5; have hb := Aside0.mk (below_step (below_step (below_alloc (Below.refl w.heap.size w) (objM m)) hb1) hb2); have hr1 := Aside0.mk (hr.below hb.out); have hs1 := hb.out.size))
 rename_i K0 hK0
 clear y0 y1 y2 y3 y4 y5
 have hDd : w2.drew.heap[w.heap.size]? = some (objM m) := hD2
 have g0 : w2.drew.cell? (ad.add (i * 6)) = some (.int .u8 x'.f0) := cell_below hb2 e0
 have g1 : w2.drew.cell? ⟨(ad.add (i * 6)).block, (ad.add (i * 6)).off + 1, none⟩ = some (.int .i64 x'.f1) := cell_below hb2 e1
 have g2 : w2.drew.cell? ⟨(ad.add (i * 6)).block, (ad.add (i * 6)).off + 2, none⟩ = some (.string x'.f2) := cell_below hb2 e2
 have g3 : w2.drew.cell? ⟨(ad.add (i * 6)).block, (ad.add (i * 6)).off + 3, none⟩ = some (.string x'.f3) := cell_below hb2 e3
 have g4 : w2.drew.cell? ⟨(ad.add (i * 6)).block, (ad.add (i * 6)).off + 4, none⟩ = some (.string x'.f4) := cell_below hb2 e4
 have g5 : w2.drew.cell? ⟨(ad.add (i * 6)).block, (ad.add (i * 6)).off + 5, none⟩ = some (.int .u64 x'.f5) := cell_below hb2 e5
 refine start_ (n := 10) (S := fun w' => w'.cell? ⟨w.heap.size, 0, none⟩ = some (.int .u8 m.f0) ∧ w'.cell? ⟨w.heap.size, 1, none⟩ = some (.int .i64 m.f1) ∧ w'.cell? ⟨w.heap.size, 2, none⟩ = some (.string m.f2) ∧ w'.cell? ⟨w.heap.size, 3, none⟩ = some (.string m.f3) ∧ w'.cell? ⟨w.heap.size, 4, none⟩ = some (.string m.f4) ∧ w'.cell? ⟨w.heap.size, 5, none⟩ = some (.int .u64 m.f5) ∧ w'.cell? (ad.add (i * 6)) = some (.int .u8 x'.f0) ∧ w'.cell? ⟨(ad.add (i * 6)).block, (ad.add (i * 6)).off + 1, none⟩ = some (.int .i64 x'.f1) ∧ w'.cell? ⟨(ad.add (i * 6)).block, (ad.add (i * 6)).off + 2, none⟩ = some (.string x'.f2) ∧ w'.cell? ⟨(ad.add (i * 6)).block, (ad.add (i * 6)).off + 3, none⟩ = some (.string x'.f3) ∧ w'.cell? ⟨(ad.add (i * 6)).block, (ad.add (i * 6)).off + 4, none⟩ = some (.string x'.f4) ∧ w'.cell? ⟨(ad.add (i * 6)).block, (ad.add (i * 6)).off + 5, none⟩ = some (.int .u64 x'.f5)) (ds := [9]) #[false, false, false, false, false, false, false, false, false, false] (by kernel_rfl) rfl rfl ⟨blk_cell hDd 0, blk_cell hDd 1, blk_cell hDd 2, blk_cell hDd 3, blk_cell hDd 4, blk_cell hDd 5, g0, g1, g2, g3, g4, g5⟩ (fun hHeld => ?_)
 have HT_ := Aside0.mk ptT4
 refine pU_ 0 20 #[true, false, false, false, false, false, false, false, false, false] ?_
 refine pU_ 1 21 #[true, true, false, false, false, false, false, false, false, false] ?_
 refine pU_ 2 22 #[true, true, true, false, false, false, false, false, false, false] ?_
 refine take_ (i := 3) (N := some 23) (v := ?_) (a' := ?_) #[true, true, true, true, false, false, false, false, false, false] rfl rfl (take_of HT_.out (by kernel_rfl)) (fun _ _ _ h => h) (Or.inl ⟨by rfl, ?_⟩) hHeld ?_ ?_
 rotate_left
 ·rintro w' ⟨s0, s1, s2, s3, s4, s5, s6, s7, s8, s9, s10, s11⟩
  go_simp
  with_reducible rfl
 rotate_left
 ·simp only [Act.put, sA1, sA2, sA3, i64_w, i32_w]
  rfl
 refine take_ (i := 4) (N := some 24) (v := ?_) (a' := ?_) #[true, true, true, true, true, false, false, false, false, false] rfl rfl (take_of HT_.out (by kernel_rfl)) (fun _ _ _ h => h) (Or.inl ⟨by rfl, ?_⟩) hHeld ?_ ?_
 rotate_left
 ·rintro w' ⟨s0, s1, s2, s3, s4, s5, s6, s7, s8, s9, s10, s11⟩
  go_simp
  with_reducible rfl
 rotate_left
 ·simp only [Act.put, sA1, sA2, sA3, i64_w, i32_w]
  rfl
 refine one_ (i := 5) (N := some 25) #[true, true, true, true, true, true, false, false, false, false] rfl rfl (one_of HT_.out (by kernel_rfl)) (by decide) (fun K hK => ?_)
 refine goes_ Try.func93 (by kernel_rfl) rfl #[aggM x', aggM m] (by rfl) rfl rfl (by (try simp only [List.map_toArray, List.map_cons, List.map_nil]); first | done | rfl) ?_
 refine (JN _).mono ?_
 rintro e w3 ⟨rfl, hb3⟩
 refine ⟨_, rfl, ?_⟩
 have hD3 := blk_below hDd hb3
 refine hK.out _ _ ⟨blk_cell hD3 0, blk_cell hD3 1, blk_cell hD3 2, blk_cell hD3 3, blk_cell hD3 4, blk_cell hD3 5, cell_below hb3 g0, cell_below hb3 g1, cell_below hb3 g2, cell_below hb3 g3, cell_below hb3 g4, cell_below hb3 g5⟩ (fun hHeld => ?_)
 clear hK K
 refine norm_ (a' := ?_) ?_ ?_
 rotate_left
 ·show Act.put _ (some 25) _ = _
  simp only [Act.put, sA1, sA2, sA3, i64_w, i32_w]
  rfl
 refine pU_ 6 19 #[true, true, true, true, true, true, true, false, false, false] ?_
 refine pU_ 7 26 #[true, true, true, true, true, true, true, true, false, false] ?_
 refine pU_ 8 27 #[true, true, true, true, true, true, true, true, true, false] ?_
 have z0 := blk_frozen hD3 0
 have z1 := blk_frozen hD3 1
 have z2 := blk_frozen hD3 2
 have z3 := blk_frozen hD3 3
 have z4 := blk_frozen hD3 4
 have z5 := blk_frozen hD3 5
 obtain ⟨t0, t1, t2, t3, t4, t5, t6, t7, t8, t9, t10, t11⟩ := hHeld
 refine last_ (i := 9) (N := none) #[true, true, true, true, true, true, true, true, true, true] rfl rfl (one_of HT_.out (by kernel_rfl)) (by decide) (fun K hK => ?_)
 refine skip_ (w1 := w3.setCells w.heap.size 0 (enc jm)) (by rfl) rfl ?_ ?_
 ·go_simp
  rfl
 refine hK.out _ _ ?_
 clear hK K
 refine done_ (done_of HT_.out (by kernel_rfl)) ?_
 have hD4 := box_set jm hD3
 have hg4 := grown_setCells w.heap.size (enc jm) 0 w3
 generalize w3.setCells w.heap.size 0 (enc jm) = w4 at hD4 hg4 ⊢
 have hb03 : Below w.heap.size w w3 := below_step (below_drew hb.out) hb3
 have hr4 := own_move (hr.below hb03) (fun k hk => hg4.block k (own_lt (hr.below hb03) k hk) (fun e => by have h1 := own_lt hr k hk; injection e with e; omega))
 have hs4 : w.heap.size ≤ w4.heap.size := Nat.le_trans hb03.size hg4.size
 have hgA := Aside0.mk (grown_then (grown_below hb03 ((Value.slice (some ad) l.length c).ownBlock)) hg4 (fun j hj => by injection hj with hj; exact .inl (by omega)))
 have hlt := own_lt hr
 clear t0 t1 t2 t3 t4 t5 t6 t7 t8 t9 t10 t11 z0 z1 z2 z3 z4 z5 q0 q1 q2 q3 q4 q5 e0 e1 e2 e3 e4 e5 g0 g1 g2 g3 g4 g5
 obtain ⟨g, cap, cur, hv, hbg, hh, hc4, hm4, hz4, ht4⟩ := Rw.block hr4 (by have := hilA.out; omega)
 injection hv with hv1 hv2 hv3
 injection hv1 with hv1
 subst hv1
 subst hv3
 have hgD : w.heap.size ≠ g := fun e => by have := hlt g rfl; omega
 have DL := delete_any' (w := w4.drew) i hbg hh hc4 hm4 hz4 ht4 hilA.out
 rw [← hwi] at DL
 have hDd4 : w4.drew.heap[w.heap.size]? = some (objM jm) := hD4
 have hDlt := blk_lt hD4
 have hgA2 := hgA.out
 clear hr4 hh hc4 hm4 hz4 ht4
 show K0 _ _
 refine hK0 _ _ ?_
 clear hK0
 go_wp2
 rename_i K1 hK1
 refine start_ (n := 8) (S := fun w' => w'.cell? ⟨w.heap.size, 0, none⟩ = some (.int .u8 jm.f0) ∧ w'.cell? ⟨w.heap.size, 1, none⟩ = some (.int .i64 jm.f1) ∧ w'.cell? ⟨w.heap.size, 2, none⟩ = some (.string jm.f2) ∧ w'.cell? ⟨w.heap.size, 3, none⟩ = some (.string jm.f3) ∧ w'.cell? ⟨w.heap.size, 4, none⟩ = some (.string jm.f4) ∧ w'.cell? ⟨w.heap.size, 5, none⟩ = some (.int .u64 jm.f5)) (ds := []) #[false, false, false, false, false, false, false, false] (by kernel_rfl) rfl rfl ⟨blk_cell hDd4 0, blk_cell hDd4 1, blk_cell hDd4 2, blk_cell hDd4 3, blk_cell hDd4 4, blk_cell hDd4 5⟩ (fun hHeld => ?_)
 have HT_ := Aside0.mk ptT5
 refine pU_ 0 28 #[true, false, false, false, false, false, false, false] ?_
 refine pU_ 1 29 #[true, true, false, false, false, false, false, false] ?_
 refine pU_ 2 30 #[true, true, true, false, false, false, false, false] ?_
 refine pU_ 3 31 #[true, true, true, true, false, false, false, false] ?_
 refine take_ (i := 5) (N := some 33) (v := ?_) (a' := ?_) #[true, true, true, true, false, true, false, false] rfl rfl (take_of HT_.out (by kernel_rfl)) (fun _ _ _ h => h) (Or.inl ⟨by rfl, ?_⟩) hHeld ?_ ?_
 rotate_left
 ·rintro w' ⟨s0, s1, s2, s3, s4, s5⟩
  go_simp
  with_reducible rfl
 rotate_left
 ·simp only [Act.put, sA1, sA2, sA3, i64_w, i32_w]
  rfl
 refine one_ (i := 4) (N := some 32) #[true, true, true, true, true, true, false, false] rfl rfl (one_of HT_.out (by kernel_rfl)) (by decide) (fun K hK => ?_)
 refine goes_ Try.func94 (by kernel_rfl) rfl #[.slice (some ⟨g, 0, none⟩) l.length c, .int .i64 (i : Int), .int .i64 (wrap64 ((i : Int) + 1))] (by rfl) rfl rfl (by (try simp only [List.map_toArray, List.map_cons, List.map_nil]); first | done | rfl) ?_
 refine (DL).mono ?_
 rintro e w6 ⟨rfl, hr6, hg6⟩
 refine ⟨_, rfl, ?_⟩
 have hD6 := (hg6.block w.heap.size hDlt (fun e => hgD (Option.some.inj e))).trans hDd4
 have hs6 := hg6.size
 have hs6' : w4.heap.size ≤ w6.heap.size := hs6
 refine hK.out _ _ ⟨blk_cell hD6 0, blk_cell hD6 1, blk_cell hD6 2, blk_cell hD6 3, blk_cell hD6 4, blk_cell hD6 5⟩ (fun hHeld => ?_)
 clear hK K
 refine norm_ (a' := ?_) ?_ ?_
 rotate_left
 ·show Act.put _ (some 32) _ = _
  simp only [Act.put, sA1, sA2, sA3, i64_w, i32_w]
  rfl
 refine one_ (i := 6) (N := some 34) #[true, true, true, true, true, true, true, false] rfl rfl (one_of HT_.out (by kernel_rfl)) (by decide) (fun K hK => ?_)
 refine goes_ Try.func60 (by kernel_rfl) rfl #[.slice (some ⟨g, 0, none⟩) (l.eraseIdx i).length c, aggM jm] (by rfl) rfl rfl (by (try simp only [List.map_toArray, List.map_cons, List.map_nil]); first | done | rfl) ?_
 refine (ih hr6 (by omega)).mono ?_
 rintro e w7 ⟨v', rfl, hr7, hg7, hat7⟩
 refine ⟨_, rfl, ?_⟩
 have hD7 := (hg7.block w.heap.size (by omega) (fun e => hgD (Option.some.inj e))).trans hD6
 refine hK.out _ _ ⟨blk_cell hD7 0, blk_cell hD7 1, blk_cell hD7 2, blk_cell hD7 3, blk_cell hD7 4, blk_cell hD7 5⟩ (fun hHeld => ?_)
 clear hK K
 refine norm_ (a' := ?_) ?_ ?_
 rotate_left
 ·show Act.put _ (some 34) _ = _
  simp only [Act.put, sA1, sA2, sA3, i64_w, i32_w]
  rfl
 refine pU_ 7 4 #[true, true, true, true, true, true, true, true] ?_
 refine done_ (done_of HT_.out (by kernel_rfl)) ?_
 obtain ⟨A7, c7, rfl⟩ := Rw.slice hr7
 go_wp2
 go_ret
 refine (show Pt w base (.slice (some ⟨g, 0, none⟩) l.length c) l2 (.returned (.slice A7 l2.length c7)) w7 from ⟨_, rfl, hr7, ?_, ?_⟩)
 ·exact ((hgA2.trans (grown_drew _ _)).trans hg6).trans hg7
 ·rcases hat7 with q | ⟨k, q, hk⟩
  ·exact .inl q
  ·exact .inr ⟨k, q, by omega⟩
end Go.Proofs.Ytebejadiaooooaa.Cp
end
section
namespace Go.Proofs.Ytebejadiaooooaa.Cp
open Go.RowKit Go.Shelf Go.Proofs.YtebejadiaooooaaW.PrintWords Go.Proofs.YtebejadiaooooaaW.PrintLast Go.Proofs.YtebejadiaooooaaW.PrintMore Go.Proofs.Ytebejadiaooooaa.Own Go.Proofs.Ytebejadiaooooaa
set_option maxHeartbeats 4000000
set_option maxRecDepth 100000
theorem Idx_none {p : Ms → Bool} {l : List Ms} {r : Int} (h : ∀ x ∈ l, p x = false) (hI : Idx p l r) : r = -1 := by
 rcases hI with ⟨hr, _⟩ | ⟨i, x, _, hx, hp, _⟩
 ·exact hr
 ·rw [h x (List.mem_of_getElem? hx)] at hp; cases hp
theorem Idx_some {p : Ms → Bool} {l : List Ms} {r : Int} {i : Nat} {x : Ms} (hx : l[i]? = some x) (hp : p x = true) (hn : ∀ (j : Nat) (y : Ms), j < i → l[j]? = some y → p y = false) (hI : Idx p l r) : r = (i : Int) := by
 rcases hI with ⟨hr, h⟩ | ⟨k, y, hr, hy, hq, hm⟩
 ·rw [h x (List.mem_of_getElem? hx)] at hp; cases hp
 ·rcases Nat.lt_trichotomy i k with h | h | h
  ·rw [hm i x h hx] at hp; cases hp
  ·rw [hr, h]
  ·rw [hn k y h hy] at hq; cases hq
theorem first_of {p : Ms → Bool} : ∀ {l : List Ms}, (∀ x ∈ l, p x = false) ∨ ∃ (i : Nat) (x : Ms), l[i]? = some x ∧ p x = true ∧ ∀ (j : Nat) (y : Ms), j < i → l[j]? = some y → p y = false
 | [] => .inl (fun x h => by simp at h)
 | a :: l => by
  cases ha : p a with
  | true => exact .inr ⟨0, a, rfl, ha, fun j y h => by omega⟩
  | false =>
   rcases first_of (p := p) (l := l) with h | ⟨i, x, hx, hp, hm⟩
   ·exact .inl (fun x hx => by rcases List.mem_cons.1 hx with rfl | hx; exact ha; exact h x hx)
   ·refine .inr ⟨i + 1, x, by simpa using hx, hp, fun j y hj hy => ?_⟩
    cases j with
    | zero => simp at hy; rw [← hy]; exact ha
    | succ j => exact hm j y (by omega) (by simpa using hy)
def St (g cap : Nat) (l : List Ms) (p : Ms → Bool) (i j : Nat) (W : World) : Prop :=
 ∃ cur : Array Value, W.heap[g]? = some (.cells cur 32 (0, 0)) ∧ cur.size = cap * 6 ∧ cur.toList.take (i * 6) = flat ((l.take j).filter p) ∧ (cur.toList.drop (j * 6)).take ((l.length - j) * 6) = flat (l.drop j)
theorem St.below {g cap i j : Nat} {l : List Ms} {p : Ms → Bool} {W W' : World} (h : St g cap l p i j W) (hb : Below W.heap.size W W') : St g cap l p i j W' := by
 obtain ⟨cur, hh, h1, h2, h3⟩ := h
 exact ⟨cur, blk_below hh hb, h1, h2, h3⟩
theorem St.lt {g cap i j : Nat} {l : List Ms} {p : Ms → Bool} {W : World} (h : St g cap l p i j W) : g < W.heap.size := by
 obtain ⟨cur, hh, _⟩ := h
 exact (Array.getElem?_eq_some_iff.1 hh).1
theorem St.read {g cap i j : Nat} {l : List Ms} {p : Ms → Bool} {W : World} (h : St g cap l p i j W) (hj : j < l.length) {x : Ms} (hx : l[j]? = some x) :
  W.cell? ⟨g, j * 6, none⟩ = some (.int .u8 x.f0) ∧ W.cell? ⟨g, j * 6 + 1, none⟩ = some (.int .i64 x.f1) ∧ W.cell? ⟨g, j * 6 + 2, none⟩ = some (.string x.f2) ∧ W.cell? ⟨g, j * 6 + 3, none⟩ = some (.string x.f3) ∧ W.cell? ⟨g, j * 6 + 4, none⟩ = some (.string x.f4) ∧ W.cell? ⟨g, j * 6 + 5, none⟩ = some (.int .u64 x.f5) := by
 obtain ⟨cur, hh, h1, h2, h3⟩ := h
 have hd : l.drop j = x :: l.drop (j + 1) := by rw [List.drop_eq_getElem?_toList_append, hx]; rfl
 have key : ∀ t u, (enc x)[t]? = some u → W.cell? ⟨g, j * 6 + t, none⟩ = some u := by
  intro t u hu
  have ht : t < 6 := (List.getElem?_eq_some_iff.1 hu).1
  rw [cell_of_row W g _ cur 32 (0, 0) hh, ← Array.getElem?_toList]
  have h4 : _ = _ := congrArg (fun q : List Value => q[t]?) h3
  rw [List.getElem?_take, if_pos (by omega), List.getElem?_drop, hd, flat_cons, List.getElem?_append_left (by rw [enc_length]; exact ht), hu] at h4
  exact h4
 exact ⟨key 0 _ rfl, key 1 _ rfl, key 2 _ rfl, key 3 _ rfl, key 4 _ rfl, key 5 _ rfl⟩
theorem St.room {g cap i j : Nat} {l : List Ms} {p : Ms → Bool} {W : World} (h : St g cap l p i j W) {k : Nat} (hk : k < cap * 6) : ∃ v, W.cell? ⟨g, k, none⟩ = some v ∧ W.frozen? ⟨g, k, none⟩ = false := by
 obtain ⟨cur, hh, h1, h2, h3⟩ := h
 refine ⟨cur[k]'(by omega), ?_, blk_frozen hh _⟩
 rw [cell_of_row W g _ cur 32 (0, 0) hh, Array.getElem?_eq_getElem]
theorem St.pass {g cap i j : Nat} {l : List Ms} {p : Ms → Bool} {W : World} (h : St g cap l p i j W) (hj : j < l.length) {x : Ms} (hx : l[j]? = some x) (hp : p x = false) : St g cap l p i (j + 1) W := by
 obtain ⟨cur, hh, h1, h2, h3⟩ := h
 refine ⟨cur, hh, h1, ?_, ?_⟩
 ·rw [h2, List.take_add_one, hx, List.filter_append]
  simp [hp]
 ·have h4 := congrArg (fun q => q.drop 6) h3
  simp only [List.drop_take, List.drop_drop] at h4
  rw [show (j + 1) * 6 = j * 6 + 6 by omega, show (l.length - (j + 1)) * 6 = (l.length - j) * 6 - 6 by omega, h4]
  have := flat_drop (l.drop j) 1
  rw [List.drop_drop] at this
  simpa using this
theorem St.keep {g cap i j : Nat} {l : List Ms} {p : Ms → Bool} {W : World} (h : St g cap l p i j W) (hj : j < l.length) (hc : l.length ≤ cap) (hij : i < j) (hi : i = ((l.take j).filter p).length) {x : Ms} (hx : l[j]? = some x) (hp : p x = true) : St g cap l p (i + 1) (j + 1) (W.setCells g (i * 6) (enc x)) := by
 obtain ⟨cur, hh, h1, h2, h3⟩ := h
 obtain ⟨cur', hh', hcur⟩ := heap_setCells (enc x) (i * 6) W cur hh (by rw [enc_length]; omega)
 have hl : cur.toList.length = cap * 6 := by rw [Array.length_toList, h1]
 have hl' : cur'.toList.length = cap * 6 := by
  rw [hcur, List.length_append, List.length_append, List.length_take, List.length_drop, enc_length, hl]
  omega
 refine ⟨cur', hh', by rw [← Array.length_toList]; exact hl', ?_, ?_⟩
 ·rw [hcur, h2, List.take_add_one, hx, List.filter_append]
  have hfl : (flat ((l.take j).filter p)).length = i * 6 := by rw [flat_length, ← hi]
  rw [List.take_append_of_le_length (by rw [List.length_append, hfl, enc_length]; omega), List.take_of_length_le (by rw [List.length_append, hfl, enc_length]; omega)]
  simp [hp, flat_append, flat_cons, flat_nil]
 ·rw [hcur, List.drop_append, List.drop_append]
  have hfl : (cur.toList.take (i * 6)).length = i * 6 := by rw [List.length_take, hl]; omega
  rw [List.drop_of_length_le (by rw [hfl]; omega), List.drop_of_length_le (by rw [enc_length, hfl]; omega), List.drop_drop, List.length_append, hfl, enc_length]
  have h4 := congrArg (fun q => q.drop 6) h3
  simp only [List.drop_take, List.drop_drop] at h4
  rw [show i * 6 + 6 + ((j + 1) * 6 - (i * 6 + 6)) = j * 6 + 6 by omega, show (l.length - (j + 1)) * 6 = (l.length - j) * 6 - 6 by omega]
  simp only [List.nil_append]
  rw [h4]
  have := flat_drop (l.drop j) 1
  rw [List.drop_drop] at this
  simpa using this
end Go.Proofs.Ytebejadiaooooaa.Cp
end
section
namespace Go.Proofs.Ytebejadiaooooaa.Cp
open Go.RowKit Go.Shelf Go.Proofs.YtebejadiaooooaaW.PrintWords Go.Proofs.YtebejadiaooooaaW.PrintLast Go.Proofs.YtebejadiaooooaaW.PrintMore Go.Proofs.Ytebejadiaooooaa.Own Go.Proofs.Ytebejadiaooooaa
set_option maxHeartbeats 4000000
set_option maxRecDepth 100000
theorem deleteF_none {w : World} {A : Option Addr} {c B : Nat} {l : List Ms} {f t : ByteArray} (hC : Kd.C P.k32 w A l.length l) (hcap : l.length ≤ c) (hlen : l.length ≤ 100000) (hB : w.heap[B]? = some (objR f t)) (hsz : ∀ x ∈ l, P.okS x) (hn : ∀ x ∈ l, P.gone f t x = false) :
  Calls Try.prog 61 #[.slice A l.length c, fnG B] w fun e w' => e = .returned (.slice A l.length c) ∧ Below w.heap.size w w' := by
 have IX := index_any hC hcap hlen hB hsz
 go_enter Try.func61, Try.ntmps61
 go_wp2_with (go_at_call 96; refine IX.mono ?_; clear IX; rintro e w1 ⟨r, rfl, hI, hb1⟩; obtain rfl := Idx_none hn hI)
 go_ret
 exact ⟨rfl, hb1⟩
theorem deleteF_some {w : World} {base g cap B : Nat} {cur : Array Value} {l : List Ms} {f t : ByteArray} (hb : base ≤ g) (hh : w.heap[g]? = some (.cells cur 32 (0, 0))) (hc : l.length ≤ cap) (hm : cap ≤ maxLen) (hs : cur.size = cap * 6) (ht : cur.toList.take (l.length * 6) = flat l)
  (hlen : l.length ≤ 100000) (hB : w.heap[B]? = some (objR f t)) (hsz : ∀ x ∈ l, P.okS x) {i0 : Nat} {x0 : Ms} (hx0 : l[i0]? = some x0) (hp0 : P.gone f t x0 = true) (hm0 : ∀ (j : Nat) (y : Ms), j < i0 → l[j]? = some y → P.gone f t y = false) :
  Calls Try.prog 61 #[.slice (some ⟨g, 0, none⟩) l.length cap, fnG B] w fun e w' => e = .returned (.slice (some ⟨g, 0, none⟩) (l.filter (fun x => !P.gone f t x)).length cap) ∧ Rw w' base (.slice (some ⟨g, 0, none⟩) (l.filter (fun x => !P.gone f t x)).length cap) (l.filter (fun x => !P.gone f t x)) ∧ w.grownBy w' (some g) := by
 have hRw : Rw w base (.slice (some ⟨g, 0, none⟩) l.length cap) l := Rw.mk hb hh hc hm hs ht
 obtain ⟨_, _, hC⟩ := C_of_Rw hRw
 have IX := index_any hC hc hlen hB hsz
 have hmx : maxLen = 9223372036854775807 := rfl
 have hi0 : i0 < l.length := (List.getElem?_eq_some_iff.1 hx0).1
 have hum := Try.underlying32
 obtain ⟨ti, hti, hz0, hz1, hz2⟩ := info_parts P.info32
 have hgB : B ≠ g := by
  rintro rfl
  rw [hB] at hh
  injection hh with h1
  injection h1 with _ h2
  cases h2
 have hf0 : (l.take i0).filter (fun x => !P.gone f t x) = l.take i0 := by
  rw [List.filter_eq_self]
  intro y hy
  obtain ⟨j, hj⟩ := List.getElem?_of_mem hy
  rw [List.getElem?_take] at hj
  split at hj
  ·rename_i h; rw [hm0 j y h hj]; rfl
  ·cases hj
 have hS0 : St g cap l (fun x => !P.gone f t x) i0 i0 w := ⟨cur, hh, hs, by
  rw [hf0, ← flat_take, ← ht, List.take_take, Nat.min_eq_left (by omega)], by
  rw [← flat_drop, ← ht, List.drop_take, Nat.sub_mul]⟩
 have hS1 := hS0.pass hi0 hx0 (by simp [hp0])
 have hw0 : wrap64 ((i0 : Int) + 1) = (i0 : Int) + 1 := IntWalk.wrap64_in _ (by omega)
 go_enter Try.func61, Try.ntmps61
 go_wp2_with (go_at_call 96; refine IX.mono ?_; clear IX; rintro e w1 ⟨r, rfl, hI, hb1⟩; obtain rfl := Idx_some hx0 hp0 hm0 hI; clear hI)
 have hS2 := hS1.below hb1
 have hB2 := blk_below hB hb1
 have hG2 := grown_below hb1 (some g)
 have hi0f : i0 = ((l.take (i0 + 1)).filter (fun x => !P.gone f t x)).length := by
  rw [List.take_add_one, hx0, List.filter_append, hf0]
  simp [hp0]
  omega
 clear hS0 hS1 hRw hC hh ht hx0 hp0 hm0 hf0 hb1 hB
 go_loopg [5, 6] (l.length - (i0 + 1)) (fun n iv jv wr => ∃ i j : Int, iv = .int .i64 i ∧ jv = .int .i64 j ∧ Aside (0 ≤ i ∧ i < j ∧ j.toNat + n = l.length ∧ i.toNat = ((l.take j.toNat).filter (fun x => !P.gone f t x)).length) ∧ Aside (St g cap l (fun x => !P.gone f t x) i.toNat j.toNat wr) ∧ Aside (wr.heap[B]? = some (objR f t)) ∧ Aside (w.grownBy wr (some g)))
 case atStart => exact ⟨(i0 : Int), (i0 : Int) + 1, rfl, rfl, ⟨by omega, by omega, by omega, by simpa using hi0f⟩, hS2, hB2, hG2⟩
 case round =>
  clear hS2 hB2 hG2 hi0f
  obtain ⟨i, j, rfl, rfl, hA, hS, hBw, hG⟩ := hrel
  obtain ⟨h0, hij, hn, hif⟩ := hA.out
  cases gk with
  | zero =>
   have d0 : decide (j < (l.length : Int)) = false := decide_eq_false (by omega)
   have hjl : j.toNat = l.length := by omega
   have hni : ¬ (cap = i.toNat) := by omega
   have hfl : (l.take j.toNat).filter (fun x => !P.gone f t x) = l.filter (fun x => !P.gone f t x) := by rw [hjl, List.take_length]
   obtain ⟨cur2, hh2, hs2, ht2, _⟩ := hS.out
   have hil : i.toNat < l.length := by omega
   have hclr : ∀ ty, (Builtin.clear_ #[22] ty #[.slice (some ⟨g, i.toNat * 6, none⟩) (l.length - i.toNat) (cap - i.toNat)]).run Try.prog wr = .ok (.tuple #[]) (wr.setCells g (i.toNat * 6) (zs (l.length - i.toNat))) :=
    fun ty => run_clear_rows wr ty g _ _ _ (by omega) (fun t ht => by rw [cell_of_row wr g _ cur2 32 (0, 0) hh2, Array.getElem?_eq_getElem (by omega)]; rfl) (fun t ht => blk_frozen hh2 _)
   have e1 : 0 ≤ i := h0
   have e2 : i ≤ (l.length : Int) := by omega
   have e3 : i ≤ (cap : Int) := by omega
   have e4 := decide_eq_true e2
   have e5 := decide_eq_true e1
   have e6 := decide_eq_true e3
   have e7 : i.toNat ≤ l.length := by omega
   have e8 : i.toNat ≤ cap := by omega
   have hH := Aside0.mk (And.intro hh2 (And.intro hs2 ht2))
   have hI := Aside0.mk (And.intro hif hfl)
   have hN := Aside0.mk (And.intro hil hjl)
   clear hh2 hs2 ht2 hif hfl hil hjl hij hn hA hS
   go_wp2
   go_ret
   obtain ⟨hh2, hs2, ht2⟩ := hH.out
   obtain ⟨hif, hfl⟩ := hI.out
   obtain ⟨hil, hjl⟩ := hN.out
   rw [hfl] at hif ht2
   obtain ⟨cur3, hh3, hcur3⟩ := heap_setCells (zs (l.length - i.toNat)) (i.toNat * 6) wr cur2 hh2 (by rw [zs_length, hs2]; omega)
   have hl2 : cur2.toList.length = cap * 6 := by rw [Array.length_toList, hs2]
   have hl3 : cur3.size = cap * 6 := by
    have h := congrArg List.length hcur3
    rw [List.length_append, List.length_append, List.length_take, List.length_drop, zs_length, Array.length_toList, hl2] at h
    omega
   refine ⟨?_, ?_, hG.out.trans (grown_setCells g _ _ _)⟩
   ·rw [← hif]
    rfl
   ·refine Rw.mk hb hh3 (by rw [← hif]; omega) hm hl3 ?_
    rw [hcur3, ← hif, List.append_assoc, List.take_append_of_le_length (by rw [List.length_take, hl2]; omega), List.take_take, Nat.min_self, ht2]
  | succ n =>
   have hlt : j < (l.length : Int) := by omega
   have hj0 : 0 ≤ j := by omega
   have hil : i < (l.length : Int) := by omega
   have hx : l[j.toNat]? = some l[j.toNat] := List.getElem?_eq_getElem (by omega)
   generalize l[j.toNat] = x at hx
   obtain ⟨q0, q1, q2, q3, q4, q5⟩ := hS.out.read (by omega) hx
   have d0 := decide_eq_true hlt
   have d1 := decide_eq_true hj0
   have d2 := eq_true hj0
   have d3 := eq_true hlt
   have d4 := eq_true h0
   have d5 := eq_true hil
   have d6 := decide_eq_true h0
   have d7 := decide_eq_true hil
   have hwi : wrap64 (i + 1) = i + 1 := IntWalk.wrap64_in _ (by omega)
   have hwj : wrap64 (j + 1) = j + 1 := IntWalk.wrap64_in _ (by omega)
   have GN := gone_any (W := wr.alloc (objM x)) (blk_alloc hBw.out _) x (hsz x (List.mem_of_getElem? hx))
   have hX := Aside0.mk hx
   have hA' := hA
   have hR := Aside0.mk (show i.toNat < cap by omega)
   cases hk : P.gone f t x with
   | true =>
    rw [hk] at GN
    have hK := Aside0.mk hk
    clear hk hn hif hx hA h0 hij hlt hj0 hil
    go_wp2_with (go_at_call 62; refine GN.mono ?_; clear GN; rintro e w2 ⟨rfl, hb2⟩)
    go_roundg n
    case measure => omega
    case rel =>
     obtain ⟨h0, hij, hn, hif⟩ := hA'.out
     have hSn := ((hS.out.pass (by omega) hX.out (by simp [hK.out])).below (below_alloc (Below.refl _ _) (objM x))).below hb2
     refine ⟨i, j + 1, rfl, by rw [hwj], ⟨h0, by omega, by omega, ?_⟩, ?_, blk_below (blk_alloc hBw.out _) hb2, (hG.out.trans (grown_below (below_alloc (Below.refl _ _) (objM x)) _)).trans (grown_below hb2 _)⟩
     ·rw [show (j + 1).toNat = j.toNat + 1 by omega, List.take_add_one, hX.out, List.filter_append]
      simp [hK.out]
      exact hif
     ·show St _ _ _ _ _ _ _
      rw [show (j + 1).toNat = j.toNat + 1 by omega]
      exact hSn
   | false =>
    rw [hk] at GN
    have hK := Aside0.mk hk
    clear hk hn hif hx hA hij hlt hj0
    go_wp2_with (go_at_call 62; refine GN.mono ?_; clear GN; rintro e w2 ⟨rfl, hb2⟩; have hD2 := blk_below (blk_new wr (objM x)) hb2; have y0 := blk_cell hD2 0; have y1 := blk_cell hD2 1; have y2 := blk_cell hD2 2; have y3 := blk_cell hD2 3; have y4 := blk_cell hD2 4; have y5 := blk_cell hD2 5; simp at y0 y1 y2 y3 y4 y5; have hS2 := Aside0.mk ((hS.out.below (below_alloc (Below.refl _ _) (objM x))).below hb2); have hr := hR.out; obtain ⟨v0, c0, z0⟩ := hS2.out.room (k := i.toNat * 6) (by omega); obtain ⟨v1, c1, z1⟩ := hS2.out.room (k := i.toNat * 6 + 1) (by omega); obtain ⟨v2, c2, z2⟩ := hS2.out.room (k := i.toNat * 6 + 2) (by omega); obtain ⟨v3, c3, z3⟩ := hS2.out.room (k := i.toNat * 6 + 3) (by omega); obtain ⟨v4, c4, z4⟩ := hS2.out.room (k := i.toNat * 6 + 4) (by omega); obtain ⟨v5, c5, z5⟩ := hS2.out.room (k := i.toNat * 6 + 5) (by omega); clear hD2 hr)
    go_roundg n
    case measure => omega
    case rel =>
     obtain ⟨h0, hij, hn, hif⟩ := hA'.out
     have hSn := hS2.out.keep (by omega) hc (by omega) hif hX.out (by simp [hK.out])
     have hBn := blk_below (blk_alloc hBw.out (objM x)) hb2
     have hg1 := grown_setCells g (enc x) (i.toNat * 6) w2
     refine ⟨i + 1, j + 1, rfl, by rw [hwj], ⟨by omega, by omega, by omega, ?_⟩, ?_, ?_, ?_⟩
     ·rw [show (j + 1).toNat = j.toNat + 1 by omega, List.take_add_one, hX.out, List.filter_append, List.length_append, ← hif]
      simp [hK.out]
      omega
     ·show St _ _ _ _ _ _ _
      rw [show (j + 1).toNat = j.toNat + 1 by omega, show (i + 1).toNat = i.toNat + 1 by omega]
      exact hSn
     ·show (w2.setCells g (i.toNat * 6) (enc x)).heap[B]? = _
      exact (hg1.block B (blk_lt hBn) (fun e => hgB (Option.some.inj e))).trans hBn
     ·exact ((hG.out.trans (grown_below (below_alloc (Below.refl _ _) (objM x)) _)).trans (grown_below hb2 _)).trans hg1
end Go.Proofs.Ytebejadiaooooaa.Cp
end
section
namespace Go.Proofs.Ytebejadiaooooaa.Cp
open Go.RowKit Go.Shelf Go.Proofs.YtebejadiaooooaaW.PrintWords Go.Proofs.YtebejadiaooooaaW.PrintLast Go.Proofs.YtebejadiaooooaaW.PrintMore Go.Proofs.Ytebejadiaooooaa.Own Go.Proofs.Ytebejadiaooooaa
theorem key_of_touch {x m : Ms} (hp : P.isPt x.f0 = true) (ht : P.touchesM x m.f2 = true) : x.f2 = m.f2 := by
 have h4 := P.isPt_ne4 hp
 simp only [P.touchesM, P.touches, hp, Bool.true_and, decide_eq_false h4, Bool.false_and, Bool.or_false] at ht
 exact P.same_iff.1 ht
theorem point_any : ∀ (n : Nat) {w : World} {base : Nat} {v : Value} {l : List Ms} (m : Ms), Rw w base v l → base ≤ w.heap.size → l.length ≤ 100000 → (∀ x ∈ l, P.okS x) → P.isPt m.f0 = true → l.length < n →
  Calls Try.prog 60 #[v, aggM m] w (Pt w base v (P.pointF n l m)) := by
 intro n
 induction n with
 | zero => intro w base v l m _ _ _ _ _ h; omega
 | succ n ih =>
  intro w base v l m hr hb hl hs hm hn
  unfold P.pointF
  rcases P.lastI_spec l m.f2 with ⟨h1, _⟩ | ⟨i, x, hi, h2, hx, ht, _⟩
  ·rw [if_pos (by omega)]
   exact pt_new m hr hb hl hs h1
  ·rw [if_neg (by omega)]
   have e : (P.lastI l m.f2).toNat = i := by omega
   rw [e, hx]
   simp only
   cases hp : P.isPt x.f0 with
   | true =>
    rw [if_pos rfl]
    refine pt_join m hr hb hl hs h2 hx hp hm (key_of_touch hp ht) (fun hr' hb' => ih (P.joinM x m) hr' hb' ?_ (fun y hy => hs y (List.mem_of_mem_eraseIdx hy)) (P.joinM_pt hm) ?_)
    ·have := List.length_eraseIdx_le l i; omega
    ·have := List.length_eraseIdx_of_lt hi; omega
   | false =>
    rw [if_neg (by simp)]
    by_cases h4 : m.f0 = 2
    ·rw [if_pos h4]
     exact pt_keep m hr hb hl hs h2 hx hp (by simpa using h4)
    ·rw [if_neg h4]
     by_cases h5 : m.f0 = 3
     ·rw [if_pos h5]
      exact pt_add m hr hb hl hs h2 hx hp (by simpa using h4) (by simpa using h5)
     ·rw [if_neg h5]
      exact pt_app m hr hb hl hs h2 hx hp (by simpa using h4) (by simpa using h5)
theorem deleteF_any {w : World} {base B : Nat} {v : Value} {l : List Ms} {f t : ByteArray} (hr : Rw w base v l) (hlen : l.length ≤ 100000) (hB : w.heap[B]? = some (objR f t)) (hsz : ∀ x ∈ l, P.okS x) :
  Calls Try.prog 61 #[v, fnG B] w fun e w' => ∃ A c, e = .returned (.slice A (l.filter (fun x => !P.gone f t x)).length c) ∧ Rw w' base (.slice A (l.filter (fun x => !P.gone f t x)).length c) (l.filter (fun x => !P.gone f t x)) ∧ w.grownBy w' v.ownBlock ∧ (Value.slice A (l.filter (fun x => !P.gone f t x)).length c).ownBlock = v.ownBlock := by
 rcases first_of (p := P.gone f t) (l := l) with h | ⟨i, x, hx, hp, hm⟩
 ·obtain ⟨A, c, rfl⟩ := hr.slice
  obtain ⟨_, hcap, hC⟩ := C_of_Rw hr
  have e : l.filter (fun x => !P.gone f t x) = l := by
   rw [List.filter_eq_self]
   intro y hy
   rw [h y hy]; rfl
  rw [e]
  refine (deleteF_none hC hcap hlen hB hsz h).mono ?_
  rintro e w' ⟨rfl, hb⟩
  exact ⟨A, c, rfl, hr.below hb, grown_below hb _, rfl⟩
 ·have hi := (List.getElem?_eq_some_iff.1 hx).1
  obtain ⟨g, cap, cur, rfl, hbg, hh, hc, hm2, hs, ht⟩ := hr.block (by omega)
  refine (deleteF_some hbg hh hc hm2 hs ht hlen hB hsz hx hp hm).mono ?_
  rintro e w' ⟨rfl, hr', hg⟩
  exact ⟨_, _, rfl, hr', hg, rfl⟩
theorem cellsM {W : World} {D : Nat} {x : Ms} (h : W.heap[D]? = some (objM x)) : W.cell? ⟨D, 0, none⟩ = some (.int .u8 x.f0) ∧ W.cell? ⟨D, 1, none⟩ = some (.int .i64 x.f1) ∧ W.cell? ⟨D, 2, none⟩ = some (.string x.f2) ∧ W.cell? ⟨D, 3, none⟩ = some (.string x.f3) ∧ W.cell? ⟨D, 4, none⟩ = some (.string x.f4) ∧ W.cell? ⟨D, 5, none⟩ = some (.int .u64 x.f5) :=
 ⟨blk_cell h 0, blk_cell h 1, blk_cell h 2, blk_cell h 3, blk_cell h 4, blk_cell h 5⟩
theorem append_step {P : Program} {ops : Array Oper} {o : Oper} {a : Act} {w : World} {Q : Exit → Act → World → Prop} {Kc : Act → World → Prop} {N : Option Tmp} (hw : Region.wanted o (yielded ops a.tmps) = true) (hN : o.dst = N) (s x : Operand) (t : TypeId)
  (ho : o.op = .call { callee := .builtin .append, args := #[s, x], argTypes := #[t, t] })
  (base : Nat) (e : TypeId) (i : TypeInfo) (z : Value) (size bytes : Nat) (ht : P.underlying t = some (.slice e)) (hi : P.info? e = some i) (hz : i.zero = some z)
  (hsize : i.size = size) (hby : i.bytes = bytes) (hzs : z.cells.size = size) (hsz : 0 < size)
  (v : Value) (n : Nat) (xs : List Value) (hs : a.eval s = v) (hown : w.ownsRow base e size v n xs)
  (ad : Addr) (m c : Nat) (news : List Value) (hx : a.eval x = .slice (some ad) m c) (hl : news.length = m * size) (hnews : ∀ j u, news[j]? = some u → w.cell? (ad.add j) = some u) (h1 : ∀ u ∈ news, u.oneCell' = true)
  (h63 : n + m ≤ maxLen) (hbytes : (n + m) * bytes ≤ 140737488355328) (hbase : base ≤ w.heap.size)
  (h : ∀ v' w', w'.ownsRow base e size v' (n + m) (xs ++ news) → w.grownBy w' v.ownBlock → (v'.ownBlock = v.ownBlock ∨ v'.ownBlock = some w.heap.size) → Kc (a.put N v') w') :
  if Region.wanted o (yielded ops a.tmps) = true then Oper.wp P o a w Kc Q else Kc (a.put N undef) w := by
 rw [if_pos hw]
 subst hN
 obtain ⟨v', w', hr, h2, h3, h4, h5⟩ := run_append_own_at (P := P) w base t o.type e i z size bytes ht hi hz hsize hby hzs hsz v n xs hown ad m c news hl hnews h1 h63 hbytes hbase
 unfold Oper.wp
 simp [execOp, ho, resolve, invoke, builtin, hs, hx, hr, Result.andThen]
 exact h v' w' h2 h3 h5
end Go.Proofs.Ytebejadiaooooaa.Cp
end
