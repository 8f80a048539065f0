/- Texts of one claim (laid by shake.py). -/
import Derived.Test.YtljnlnbopohghaaZs15
import Derived.Deep.RegionHeld3
set_option linter.unusedVariables false
set_option linter.unusedSimpArgs false
section
namespace Go.Proofs.Ytljnlnbopohghaa.Cur
open Go Go.RowKit Go.Maps Go.Proofs.YtljnlnbopohghaaW.PrintWords Go.Proofs.YtljnlnbopohghaaW.PrintLast Go.Proofs.YtljnlnbopohghaaW.PrintMore Go.Proofs.Ytljnlnbopohghaa.Own Go.Proofs.Ytljnlnbopohghaa.Ord Go.Proofs.Ytljnlnbopohghaa.P
set_option maxHeartbeats 2000000
set_option maxRecDepth 100000
theorem took_end_true {w : World} {p b n c : Nat} {last : Int} {F : Int → Option X} (h : Tb w p b last n F c) (k : Int) (hk : (Lit.int .i64 k).wf = true) {A : Option Addr} {cl : Nat} (hC : Kd.C P.k103 w A ([] : List En).length []) (most : Int) (f t : ByteArray) (hF : F k = some (f, t, true)) (hn : n < 1000000) (h2 : 1 ≤ most) (kr : Nat) (hri : fold_Rises.f kr [] = some true) (hany : Aside (([] : List En).any (fun y => !holdsB f t y.f0) = false)) :
  Calls Try.prog 17 #[.pointer (some ⟨p, 0, none⟩), .int .i64 k, .slice A 0 cl, .int .i64 most] w fun e w' => e = .returned (.tuple #[.bool true, .int .i64 0]) ∧ Tb w' p b last (n + 1) (upd F k (some (e0, e0, true))) c ∧ Fr [b] w w' := by
 have hur := Try.underlying29
 have hux := Try.underlying106
 have hus := Try.underlying88
 have hue := Try.underlying103
 have hfind := find_some h k hk f t true hF
 have d2 : decide (most < 1) = false := decide_eq_false (by omega)
 have d3 : decide (most < 0) = false := decide_eq_false (by omega)
 have hcA : Aside (c = (if (F k).isSome then c else c + 1)) := by rw [hF]; exact rfl
 have hpb := h.ne
 have hlb := h.map.lt
 have hlp := blk_lt h.blk
 replace h := Aside0.mk h
 clear hF
 go_enter Try.func17, Try.ntmps17
 go_wp2_with (first
  | (go_at_call 47; refine hfind.mono ?_; clear hfind; rintro e w1 ⟨rfl, hB1⟩; have hsz := hB1.size; have hBF := below_alloc hB1 (.cells #[.string f, .string t, .bool true] 106))
  | (go_at_call 48; refine (fold_Rises.calls kr A cl [] true _ (Kd.C_below hC hBF) (Nat.zero_le _) hri).mono ?_; rintro e w2 ⟨rfl, hD⟩; have hx2 := blk_below (blk_new w1 (.cells #[.string f, .string t, .bool true] 106)) hD.below; have hB2 := below_step hBF hD.below; clear hBF hB1 hD; have hBF := hB2; clear hB2)
  | (go_at_call 49; refine (contains_any hx2 (Kd.C_below hC hBF) (Nat.zero_le _)).mono ?_; rw [hany.out]; rintro e w3 ⟨rfl, hB3⟩; have hx3 := blk_below hx2 hB3; have hB4 := below_step hBF hB3; clear hBF hB3 hx2; have hBF := hB4; clear hB4; have c0 := blk_cell hx3 0; have c1 := blk_cell hx3 1; have c2 := blk_cell hx3 2; have z0 := blk_frozen hx3 0; have z1 := blk_frozen hx3 1; have z2 := blk_frozen hx3 2; simp at c0 c1 c2))
 have hx4 := blk_set (blk_set (blk_set hx3 0 (.string ⟨#[]⟩)) 1 (.string ⟨#[]⟩)) 2 (.bool true)
 have hw1 : w.heap.size ≤ w1.heap.size := hsz
 have hB4 := below_set (j := 2) (v := .bool true) (below_set (j := 1) (v := .string ⟨#[]⟩) (below_set (j := 0) (v := .string ⟨#[]⟩) hBF hw1) hw1) hw1
 have hwb : w1.heap.size ≠ b := by omega
 clear hx3 hBF c0 c1 c2 z0 z1 z2
 refine still_tail 6 (by kernel_rfl) (by kernel_rfl) (fun W hW => ?_)
 simp only [List.take_succ_cons, List.take_zero, List.drop_succ_cons, List.drop_zero]
 have hxW : W.heap[w1.heap.size]? = some (.cells #[.string ⟨#[]⟩, .string ⟨#[]⟩, .bool true] 106 (0, 0)) := by rw [hW]; exact blk_drew hx4
 have hBW : Below w.heap.size w W := by rw [hW]; exact below_drew1 hB4
 clear hW hx4 hB4
 have hTA : Aside (Tb W p b last n F c) := h.out.fr (B := []) (Fr.of_below hBW) (by simp) (by simp)
 have hMA := hTA.out.map
 have k1 := blk_cell hTA.out.blk 1
 have k2 := blk_cell hxW 0
 have k3 := blk_cell hxW 1
 have k4 := blk_cell hxW 2
 simp at k1 k2 k3 k4
 clear hC
 iterate 6 still_step
 refine wpStill_nil ?_
 refine store W rfl _ _ _ rfl b n F c rfl hMA hn k rfl hk (e0, e0, true) rfl (fun w5 hT5 f5 => ?_)
 rw [← hcA.out] at hT5
 have hx5 := f5.blk hxW (by simpa using fun e => hwb e)
 have k5 := blk_cell hx5 2
 simp at k5
 have hTF : Aside (Tb w5 p b last (n + 1) (upd F k (some (e0, e0, true))) c) := ⟨f5.blk hTA.out.blk (by simpa using hpb), hT5⟩
 have fF : Fr [b] w w5 := (Fr.of_below hBW).trans f5 (fun x hx => .inl hx)
 clear hTA hMA k1 k2 k3 k4 hT5 f5 hxW hx5 hBW
 go_wp2_with fail
 go_ret2
 exact ⟨rfl, hTF.out, fF⟩
theorem took_end_false {w : World} {p b n c : Nat} {last : Int} {F : Int → Option X} (h : Tb w p b last n F c) (k : Int) (hk : (Lit.int .i64 k).wf = true) {A : Option Addr} {cl : Nat} {l : List En} (hC : Kd.C P.k103 w A l.length l) (hcap : l.length ≤ cl) (most : Int) (f t : ByteArray) (hF : F k = some (f, t, false)) (hn : n < 1000000) (h2 : 1 ≤ most) (h3 : l.length < most) (kr : Nat) (hri : fold_Rises.f kr l = some true) (hany : Aside (l.any (fun y => !holdsB f t y.f0) = false)) :
  Calls Try.prog 17 #[.pointer (some ⟨p, 0, none⟩), .int .i64 k, .slice A l.length cl, .int .i64 most] w fun e w' => e = .returned (.tuple #[.bool true, .int .i64 0]) ∧ Tb w' p b last (n + 1) (upd F k (some (e0, e0, true))) c ∧ Fr [b] w w' := by
 have hur := Try.underlying29
 have hux := Try.underlying106
 have hus := Try.underlying88
 have hue := Try.underlying103
 have hfind := find_some h k hk f t false hF
 have d2 : decide (most < 1) = false := decide_eq_false (by omega)
 have d3 : decide (most < (l.length : Int)) = false := decide_eq_false (by omega)
 have d4 : decide ((l.length : Int) < most) = true := decide_eq_true h3
 have hcA : Aside (c = (if (F k).isSome then c else c + 1)) := by rw [hF]; exact rfl
 have hpb := h.ne
 have hlb := h.map.lt
 have hlp := blk_lt h.blk
 replace h := Aside0.mk h
 clear hF
 go_enter Try.func17, Try.ntmps17
 go_wp2_with (first
  | (go_at_call 47; refine hfind.mono ?_; clear hfind; rintro e w1 ⟨rfl, hB1⟩; have hsz := hB1.size; have hBF := below_alloc hB1 (.cells #[.string f, .string t, .bool false] 106))
  | (go_at_call 48; refine (fold_Rises.calls kr A cl l true _ (Kd.C_below hC hBF) hcap hri).mono ?_; rintro e w2 ⟨rfl, hD⟩; have hx2 := blk_below (blk_new w1 (.cells #[.string f, .string t, .bool false] 106)) hD.below; have hB2 := below_step hBF hD.below; clear hBF hB1 hD; have hBF := hB2; clear hB2)
  | (go_at_call 49; refine (contains_any hx2 (Kd.C_below hC hBF) hcap).mono ?_; rw [hany.out]; rintro e w3 ⟨rfl, hB3⟩; have hx3 := blk_below hx2 hB3; have hB4 := below_step hBF hB3; clear hBF hB3 hx2; have hBF := hB4; clear hB4; have c0 := blk_cell hx3 0; have c1 := blk_cell hx3 1; have c2 := blk_cell hx3 2; have z0 := blk_frozen hx3 0; have z1 := blk_frozen hx3 1; have z2 := blk_frozen hx3 2; simp at c0 c1 c2))
 have hx4 := blk_set (blk_set (blk_set hx3 0 (.string ⟨#[]⟩)) 1 (.string ⟨#[]⟩)) 2 (.bool true)
 have hw1 : w.heap.size ≤ w1.heap.size := hsz
 have hB4 := below_set (j := 2) (v := .bool true) (below_set (j := 1) (v := .string ⟨#[]⟩) (below_set (j := 0) (v := .string ⟨#[]⟩) hBF hw1) hw1) hw1
 have hwb : w1.heap.size ≠ b := by omega
 clear hx3 hBF c0 c1 c2 z0 z1 z2
 refine still_tail 6 (by kernel_rfl) (by kernel_rfl) (fun W hW => ?_)
 simp only [List.take_succ_cons, List.take_zero, List.drop_succ_cons, List.drop_zero]
 have hxW : W.heap[w1.heap.size]? = some (.cells #[.string ⟨#[]⟩, .string ⟨#[]⟩, .bool true] 106 (0, 0)) := by rw [hW]; exact blk_drew hx4
 have hBW : Below w.heap.size w W := by rw [hW]; exact below_drew1 hB4
 clear hW hx4 hB4
 have hTA : Aside (Tb W p b last n F c) := h.out.fr (B := []) (Fr.of_below hBW) (by simp) (by simp)
 have hMA := hTA.out.map
 have k1 := blk_cell hTA.out.blk 1
 have k2 := blk_cell hxW 0
 have k3 := blk_cell hxW 1
 have k4 := blk_cell hxW 2
 simp at k1 k2 k3 k4
 clear hC
 iterate 6 still_step
 refine wpStill_nil ?_
 refine store W rfl _ _ _ rfl b n F c rfl hMA hn k rfl hk (e0, e0, true) rfl (fun w5 hT5 f5 => ?_)
 rw [← hcA.out] at hT5
 have hx5 := f5.blk hxW (by simpa using fun e => hwb e)
 have k5 := blk_cell hx5 2
 simp at k5
 have hTF : Aside (Tb w5 p b last (n + 1) (upd F k (some (e0, e0, true))) c) := ⟨f5.blk hTA.out.blk (by simpa using hpb), hT5⟩
 have fF : Fr [b] w w5 := (Fr.of_below hBW).trans f5 (fun x hx => .inl hx)
 clear hTA hMA k1 k2 k3 k4 hT5 f5 hxW hx5 hBW
 go_wp2_with fail
 go_ret2
 exact ⟨rfl, hTF.out, fF⟩
theorem took_more {w : World} {p b n c : Nat} {last : Int} {F : Int → Option X} (h : Tb w p b last n F c) (k : Int) (hk : (Lit.int .i64 k).wf = true) {A : Option Addr} {cl : Nat} {l : List En} (hC : Kd.C P.k103 w A l.length l) (hcap : l.length ≤ cl) (most : Int) (f t : ByteArray) (hF : F k = some (f, t, false)) (hn : n < 1000000) (h2 : 1 ≤ most) (h3 : most = l.length) (kr : Nat) (hri : fold_Rises.f kr l = some true) (hany : Aside (l.any (fun y => !holdsB f t y.f0) = false)) (x : En) (hlast : l[l.length - 1]? = some x) (r1 r2 : ByteArray) (r3 : Bool) (hbeh : cursor_behind.f f t x.f0 = some (r1, r2, r3)) :
  Calls Try.prog 17 #[.pointer (some ⟨p, 0, none⟩), .int .i64 k, .slice A l.length cl, .int .i64 most] w fun e w' => e = .returned (.tuple #[.bool r3, .int .i64 0]) ∧ Tb w' p b last (n + 1) (upd F k (some (r1, r2, r3))) c ∧ Fr [b] w w' := by
 have hur := Try.underlying29
 have hux := Try.underlying106
 have hus := Try.underlying88
 have hue := Try.underlying103
 have hfind := find_some h k hk f t false hF
 have d2 : decide (most < 1) = false := decide_eq_false (by omega)
 have d3 : decide (most < (l.length : Int)) = false := decide_eq_false (by omega)
 have d4 : decide ((l.length : Int) < most) = false := decide_eq_false (by omega)
 have hmax := Kd.C_max hC
 obtain ⟨i, hi⟩ : ∃ i : Int, i = (l.length : Int) - 1 := ⟨_, rfl⟩
 have hws : wrap64 ((l.length : Int) - 1) = i := by rw [hi]; exact IntWalk.wrap64_in _ (by omega)
 have hws2 : IntKind.i64.wrap ((l.length : Int) - 1) = i := by rw [hi]; exact IntWalk.i64_in _ (by omega)
 have i0 : 0 ≤ i := by omega
 have i1 : i < (l.length : Int) := by omega
 have hit : i.toNat = l.length - 1 := by omega
 have di0 := decide_eq_true i0
 have di1 := decide_eq_true i1
 have pi0 := eq_true i0
 have pi1 := eq_true i1
 rw [← hit] at hlast
 obtain ⟨ad, hAd⟩ : ∃ ad, A = some ad := by obtain ⟨ad, _, e, _⟩ := at_E hC i i0 i1; exact ⟨ad, e⟩
 subst hAd
 have hcA : Aside (c = (if (F k).isSome then c else c + 1)) := by rw [hF]; exact rfl
 have hpb := h.ne
 have hlb := h.map.lt
 have hlp := blk_lt h.blk
 replace h := Aside0.mk h
 have h3A := Aside0.mk h3
 have hiA := Aside0.mk hi
 have hlastA := Aside0.mk hlast
 clear hF h3 hi hit hlast i0 i1
 go_enter Try.func17, Try.ntmps17
 go_wp2_with (first
  | (go_at_call 47; refine hfind.mono ?_; clear hfind; rintro e w1 ⟨rfl, hB1⟩; have hsz := hB1.size; have hBF := below_alloc hB1 (.cells #[.string f, .string t, .bool false] 106))
  | (go_at_call 48; refine (fold_Rises.calls kr (some ad) cl l true _ (Kd.C_below hC hBF) hcap hri).mono ?_; rintro e w2 ⟨rfl, hD⟩; have hx2 := blk_below (blk_new w1 (.cells #[.string f, .string t, .bool false] 106)) hD.below; have hB2 := below_step hBF hD.below; clear hBF hB1 hD; have hBF := hB2; clear hB2)
  | (go_at_call 49; refine (contains_any hx2 (Kd.C_below hC hBF) hcap).mono ?_; rw [hany.out]; rintro e w3 ⟨rfl, hB3⟩; have hx3 := blk_below hx2 hB3; have hB4 := below_step hBF hB3; clear hBF hB3 hx2; have hBF := hB4; clear hB4; have c0 := blk_cell hx3 0; have c1 := blk_cell hx3 1; have c2 := blk_cell hx3 2; have z0 := blk_frozen hx3 0; have z1 := blk_frozen hx3 1; have z2 := blk_frozen hx3 2; simp at c0 c1 c2))
 clear c0 c1 c2 z0 z1 z2
 refine still_tail 9 (by kernel_rfl) (by kernel_rfl) (fun W hW => ?_)
 simp only [List.take_succ_cons, List.take_zero, List.drop_succ_cons, List.drop_zero]
 have hxW : W.heap[w1.heap.size]? = some (.cells #[.string f, .string t, .bool false] 106 (0, 0)) := by rw [hW]; exact blk_drew hx3
 have hBW : Below w.heap.size w W := by rw [hW]; exact below_drew1 hBF
 clear hW hx3 hBF
 have c0 := blk_cell hxW 0
 have c1 := blk_cell hxW 1
 simp at c0 c1
 obtain ⟨ad', x', e', hx', q0, q1⟩ := at_E (Kd.C_below hC hBW) i (by simpa using pi0) (by simpa using pi1)
 cases e'
 obtain rfl : x' = x := by rw [hlastA.out] at hx'; exact (Option.some.inj hx').symm
 clear hx'
 iterate 9 still_step
 refine wpStill_nil ?_
 go_wp2_with (go_at_call 52; refine (cursor_behind.calls f t x'.f0 r1 r2 r3 _ hbeh).mono ?_; rintro e w4 ⟨rfl, hB4⟩; have hx4 := blk_below hxW hB4; have hB5 := below_step hBW hB4; clear hxW hBW hB4 c0 c1 q0 q1; have c0 := blk_cell hx4 0; have c1 := blk_cell hx4 1; have c2 := blk_cell hx4 2; have z0 := blk_frozen hx4 0; have z1 := blk_frozen hx4 1; have z2 := blk_frozen hx4 2; simp at c0 c1 c2)
 have hw1 : w.heap.size ≤ w1.heap.size := hsz
 have hx5 := blk_set (blk_set (blk_set hx4 0 (.string r1)) 1 (.string r2)) 2 (.bool r3)
 have hB6 := below_set (j := 2) (v := .bool r3) (below_set (j := 1) (v := .string r2) (below_set (j := 0) (v := .string r1) hB5 hw1) hw1) hw1
 have hwb : w1.heap.size ≠ b := by omega
 clear hx4 hB5 c0 c1 c2 z0 z1 z2
 refine still_tail 6 (by kernel_rfl) (by kernel_rfl) (fun W hW => ?_)
 simp only [List.take_succ_cons, List.take_zero, List.drop_succ_cons, List.drop_zero]
 have hxW : W.heap[w1.heap.size]? = some (.cells #[.string r1, .string r2, .bool r3] 106 (0, 0)) := by rw [hW]; exact blk_drew hx5
 have hBW : Below w.heap.size w W := by rw [hW]; exact below_drew1 hB6
 clear hW hx5 hB6
 have hTA : Aside (Tb W p b last n F c) := h.out.fr (B := []) (Fr.of_below hBW) (by simp) (by simp)
 have hMA := hTA.out.map
 have k1 := blk_cell hTA.out.blk 1
 have k2 := blk_cell hxW 0
 have k3 := blk_cell hxW 1
 have k4 := blk_cell hxW 2
 simp at k1 k2 k3 k4
 clear hC
 iterate 6 still_step
 refine wpStill_nil ?_
 refine store W rfl _ _ _ rfl b n F c rfl hMA hn k rfl hk (r1, r2, r3) rfl (fun w5 hT5 f5 => ?_)
 rw [← hcA.out] at hT5
 have hx5 := f5.blk hxW (by simpa using fun e => hwb e)
 have k5 := blk_cell hx5 2
 simp at k5
 have hTF : Aside (Tb w5 p b last (n + 1) (upd F k (some (r1, r2, r3))) c) := ⟨f5.blk hTA.out.blk (by simpa using hpb), hT5⟩
 have fF : Fr [b] w w5 := (Fr.of_below hBW).trans f5 (fun x hx => .inl hx)
 clear hTA hMA k1 k2 k3 k4 hT5 f5 hxW hx5 hBW
 go_wp2_with fail
 go_ret2
 exact ⟨rfl, hTF.out, fF⟩
end Go.Proofs.Ytljnlnbopohghaa.Cur
end
section
namespace Go.Proofs.Ytljnlnbopohghaa.Cur
open Go Go.RowKit Go.Maps Go.Proofs.YtljnlnbopohghaaW.PrintWords Go.Proofs.YtljnlnbopohghaaW.PrintLast Go.Proofs.YtljnlnbopohghaaW.PrintMore Go.Proofs.Ytljnlnbopohghaa.Own Go.Proofs.Ytljnlnbopohghaa.Ord Go.Proofs.Ytljnlnbopohghaa.P
set_option maxHeartbeats 2000000
set_option maxRecDepth 100000
def incB : List En → Bool
  | [] => true
  | [_] => true
  | x :: y :: l => ltB x.f0 y.f0 && incB (y :: l)
theorem getD_at {L : List En} {i : Nat} {x : En} (h : L[i]? = some x) : rd_T103 L (i : Int) = x := by
  show L.getD ((i : Int).toNat) _ = x
  rw [Int.toNat_natCast, List.getD_eq_getElem?_getD, h]
  rfl
theorem drop_at {L l : List En} {i : Nat} {x : En} (hd : L.drop i = x :: l) : i < L.length ∧ L[i]? = some x ∧ L.drop (i + 1) = l := by
  have hlt : i < L.length := by
    rcases Nat.lt_or_ge i L.length with h | h
    · exact h
    · rw [List.drop_eq_nil_of_le h] at hd; cases hd
  refine ⟨hlt, ?_, ?_⟩
  · have := congrArg (fun z => z[0]?) hd
    simpa using this
  · have := congrArg (List.drop 1) hd
    simpa [List.drop_drop] using this
theorem rises_loop (L : List En) (hL : L.length ≤ 9223372036854775806) : ∀ (l : List En) (i k : Nat) (x : En), L.drop (i + 1) = l → L[i]? = some x → fold_Rises.l0 (k + 1 + l.length) L L.length ((i : Int) + 1) = some (incB (x :: l)) := by
  intro l
  induction l with
  | nil =>
    intro i k x hd hx
    have hlen : L.length ≤ i + 1 := by have := congrArg List.length hd; simp at this; omega
    rw [List.length_nil, Nat.add_zero, fold_Rises.l0, if_neg (by omega)]
    rfl
  | cons y l ih =>
    intro i k x hd hx
    obtain ⟨hlt, hy, hd2⟩ := drop_at hd
    rw [show k + 1 + (y :: l).length = (k + 1 + l.length) + 1 from by simp; omega, fold_Rises.l0]
    rw [if_pos (by omega), if_pos (by omega), IntWalk.wrap64_in ((i : Int) + 1 - 1) (by omega), if_pos (by omega), if_pos (by omega), if_pos (by omega), if_pos (by omega)]
    rw [show (i : Int) + 1 - 1 = (i : Int) by omega, getD_at hx, show (i : Int) + 1 = ((i + 1 : Nat) : Int) by omega, getD_at hy, IntWalk.wrap64_in _ (by omega)]
    rw [ih (i + 1) k y hd2 hy]
    show (if ltB x.f0 y.f0 = true then _ else _) = some (ltB x.f0 y.f0 && incB (y :: l))
    cases ltB x.f0 y.f0 <;> rfl
theorem fold_eq (k : Nat) (L : List En) (hL : L.length ≤ 9223372036854775806) : fold_Rises.f (k + 2 + L.length) L = some (incB L) := by
  unfold fold_Rises.f
  cases L with
  | nil =>
           rw [List.length_nil, Nat.add_zero, show k + 2 = (k + 1) + 1 from rfl, fold_Rises.l0, if_neg (by simp)]
           try rfl
  | cons x l =>
    rw [show k + 2 + (x :: l).length = (k + 1 + 1 + l.length) + 1 from by simp; omega, fold_Rises.l0, if_pos (by rw [List.length_cons]; omega), if_neg (by omega), IntWalk.wrap64_in _ (by omega)]
    exact rises_loop (x :: l) hL l 0 (k + 1) x rfl rfl
def aft (s : ByteArray) : ByteArray := s ++ (⟨#[0]⟩ : ByteArray)
def behV (f t s : ByteArray) : X := if rrB (aft s) t = true then (aft s, t, false) else (e0, e0, true)
theorem behind_eq (f t s : ByteArray) (h : s.size ≤ 140737488351232) : cursor_behind.f f t s = some (behV f t s) := by
  unfold cursor_behind.f key_After.f behV
  rw [if_pos (by omega)]
  simp only [Option.bind_some, rr_eq]
  show (if rrB (aft s) t = true then _ else _) = _
  split <;> rfl
def outside (f t : ByteArray) (l : List En) : Bool := l.any (fun y => !holdsB f t y.f0)
def tookV (o : Option X) (l : List En) (most : Int) : Bool × Int × Option X :=
  match o with
  | none => (false, 11, none)
  | some (f, t, d) =>
    if d = true ∧ 0 < l.length then (false, 15, none)
    else if most < 1 then (false, 2, none)
    else if most < l.length then (false, 4, none)
    else if incB l = false then (false, 16, none)
    else if outside f t l = true then (false, 16, none)
    else if d = true ∨ (l.length : Int) < most then (true, 0, some (e0, e0, true))
    else match l[l.length - 1]? with
      | none => (true, 0, none)
      | some x => ((behV f t x.f0).2.2, 0, some (behV f t x.f0))
def now (F : Int → Option X) (k : Int) : Option X → Int → Option X
  | none => F
  | some y => upd F k (some y)
theorem took_any {w : World} {p b n c : Nat} {last : Int} {F : Int → Option X} (h : Tb w p b last n F c) (k : Int) (hk : (Lit.int .i64 k).wf = true) {A : Option Addr} {cl : Nat} {l : List En} (hC : Kd.C P.k103 w A l.length l) (hcap : l.length ≤ cl) (most : Int) (hn : n < 1000000) (hsz : ∀ x ∈ l, x.f0.size ≤ 140737488351232) (hlen : l.length ≤ 1000000) :
    Calls Try.prog 17 #[.pointer (some ⟨p, 0, none⟩), .int .i64 k, .slice A l.length cl, .int .i64 most] w fun e w' => e = .returned (.tuple #[.bool (tookV (F k) l most).1, .int .i64 (tookV (F k) l most).2.1]) ∧ Tb w' p b last (n + 1) (now F k (tookV (F k) l most).2.2) c ∧ Fr [b] w w' := by
  have stay : ∀ {w'}, Below w.heap.size w w' → Tb w' p b last (n + 1) F c ∧ Fr [b] w w' := fun {w'} hb => ⟨⟨(h.fr (B := []) (Fr.of_below hb) (by simp) (by simp)).blk, (h.fr (B := []) (Fr.of_below hb) (by simp) (by simp)).map.mono (by omega)⟩, Fr.of_below hb⟩
  unfold tookV
  cases hF : F k with
  | none => exact (took_none h k hk hC hcap most hF).mono fun e w' q => ⟨q.1, stay q.2⟩
  | some y =>
    obtain ⟨f, t, d⟩ := y
    simp only []
    have hri := fold_eq 0 l (by omega)
    by_cases a1 : d = true ∧ 0 < l.length
    · rw [if_pos a1]
      obtain ⟨rfl, a1⟩ := a1
      exact (took_state h k hk hC hcap most f t hF a1).mono fun e w' q => ⟨q.1, stay q.2⟩
    · rw [if_neg a1]
      by_cases a2 : most < 1
      · rw [if_pos a2]
        cases d with
        | false => exact (took_arg_false h k hk hC hcap most f t hF a2).mono fun e w' q => ⟨q.1, stay q.2⟩
        | true =>
          obtain rfl : l = [] := by cases l with | nil => rfl | cons x l => simp at a1
          exact (took_arg_true h k hk hC most f t hF a2).mono fun e w' q => ⟨q.1, stay q.2⟩
      · rw [if_neg a2]
        by_cases a3 : most < l.length
        · rw [if_pos a3]
          cases d with
          | false => exact (took_limit_false h k hk hC hcap most f t hF (by omega) a3).mono fun e w' q => ⟨q.1, stay q.2⟩
          | true =>
            obtain rfl : l = [] := by cases l with | nil => rfl | cons x l => simp at a1
            simp at a3; omega
        · rw [if_neg a3]
          by_cases a4 : incB l = false
          · rw [if_pos a4]
            rw [a4] at hri
            cases d with
            | false => exact (took_rise_false h k hk hC hcap most f t hF (by omega) (by omega) _ hri).mono fun e w' q => ⟨q.1, stay q.2⟩
            | true =>
              obtain rfl : l = [] := by cases l with | nil => rfl | cons x l => simp at a1
              cases a4
          · rw [if_neg a4]
            rw [Bool.not_eq_false] at a4
            rw [a4] at hri
            by_cases a5 : outside f t l = true
            · rw [if_pos a5]
              cases d with
              | false => exact (took_order_false h k hk hC hcap most f t hF (by omega) (by omega) _ hri a5).mono fun e w' q => ⟨q.1, stay q.2⟩
              | true =>
                obtain rfl : l = [] := by cases l with | nil => rfl | cons x l => simp at a1
                cases a5
            · rw [if_neg a5]
              rw [Bool.not_eq_true] at a5
              by_cases a6 : d = true ∨ (l.length : Int) < most
              · rw [if_pos a6]
                cases d with
                | false => exact took_end_false h k hk hC hcap most f t hF hn (by omega) (by simpa using a6) _ hri a5
                | true =>
                  obtain rfl : l = [] := by cases l with | nil => rfl | cons x l => simp at a1
                  exact took_end_true h k hk hC most f t hF hn (by omega) _ hri a5
              · rw [if_neg a6]
                obtain rfl : d = false := by cases d <;> simp_all
                have hlast : l.length - 1 < l.length := by omega
                rw [List.getElem?_eq_getElem hlast]
                simp only []
                exact took_more h k hk hC hcap most f t hF hn (by omega) (by simp at a6; omega) _ hri a5 _ (List.getElem?_eq_getElem hlast) _ _ _ (behind_eq f t _ (hsz _ (List.getElem_mem hlast)))
end Go.Proofs.Ytljnlnbopohghaa.Cur
end
