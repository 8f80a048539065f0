/- Texts of one claim (laid by shake.py). -/
import Derived.WalkMore
import Derived.Test.YtebejadiaooooaaZo3
set_option linter.unusedVariables false
set_option linter.unusedSimpArgs false
section
namespace Go.Proofs.Ytebejadiaooooaa.P
open Go.RowKit Go.Proofs.YtebejadiaooooaaW.PrintWords Go.Proofs.YtebejadiaooooaaW.PrintLast Go.Proofs.YtebejadiaooooaaW.PrintMore Go.Proofs.Ytebejadiaooooaa.Own
open Bool renaming true → YY, false → ZZ
open Go.Proofs.YtebejadiaooooaaW.PrintWords renaming blk_cell → bC, blk_frozen → bF, blk_drewN → bN, blk_alloc → bA, pw_below_drewN → wN, blk_drew → bD, below_drew1 → w1, below_set → wS, below_alloc → wA, below_step → wT, below_size → wZ, cell_far → cF, blk_put → bP
open List renaming setIfInBounds_toArray → sA1, set_cons_zero → sA2, set_cons_succ → sA3
attribute [local go_sem] max2_str max2_int min2_int max_two min_two max_three min_three max_four min_four   -- for this text's walks alone
mutual
def delta_beside.l0 : Nat → List (S39) → List (S39) → List (S95) → Int → Int → Option ((List (S95)))
 | 0, _, _, _, _, _ => none
 | k + 1, x0, x1, x5, x6, x7 => if x6 < (x0.length : Int) then (delta_beside.j1 k x0 x1 x5 x6 x7 true) else (delta_beside.j1 k x0 x1 x5 x6 x7 (decide (x7 < (x1.length : Int))))
def delta_beside.j1 : Nat → List (S39) → List (S39) → List (S95) → Int → Int → Bool → Option ((List (S95)))
 | 0, _, _, _, _, _, _ => none
 | k + 1, x0, x1, x5, x6, x7, x18 => if x18 = true then (if x7 ≥ (x1.length : Int) then (delta_beside.j2 k x0 x1 x5 x6 x7 true (⟨#[]⟩ : BA) (⟨#[]⟩ : BA) (⟨#[]⟩ : BA) false false) else (if x6 < (x0.length : Int) then (if 0 ≤ x6 then (if 0 ≤ x7 then (if x7 < (x1.length : Int) then (delta_beside.j2 k x0 x1 x5 x6 x7 (Op.bytesLess (((rd_T39 x0 x6).f0).toList) (((rd_T39 x1 x7).f0).toList)) (⟨#[]⟩ : BA) (⟨#[]⟩ : BA) (⟨#[]⟩ : BA) false false) else (none)) else (none)) else (none)) else (delta_beside.j2 k x0 x1 x5 x6 x7 false (⟨#[]⟩ : BA) (⟨#[]⟩ : BA) (⟨#[]⟩ : BA) false false))) else (some x5)
def delta_beside.j2 : Nat → List (S39) → List (S39) → List (S95) → Int → Int → Bool → ByteArray → ByteArray → ByteArray → Bool → Bool → Option ((List (S95)))
 | 0, _, _, _, _, _, _, _, _, _, _, _ => none
 | k + 1, x0, x1, x5, x6, x7, x19, x553000, x553001, x553002, x553003, x553004 => if x19 = true then (if 0 ≤ x6 then (if x6 < (x0.length : Int) then (if x5.length < 2513169434916 then (delta_beside.l0 k x0 x1 (x5 ++ [(⟨(rd_T39 x0 x6).f0, (rd_T39 x0 x6).f1, (⟨#[]⟩ : BA), false, true⟩ : S95)]) (wrap64 (x6 + 1)) x7) else (none)) else (none)) else (none)) else (if x6 < (x0.length : Int) then (if 0 ≤ x6 then (if 0 ≤ x7 then (if x7 < (x1.length : Int) then (if ((rd_T39 x0 x6).f0).toList = ((rd_T39 x1 x7).f0).toList then (if x5.length < 2513169434916 then (delta_beside.l0 k x0 x1 (x5 ++ [(⟨(rd_T39 x1 x7).f0, (rd_T39 x0 x6).f1, (rd_T39 x1 x7).f1, true, true⟩ : S95)]) (wrap64 (x6 + 1)) (wrap64 (x7 + 1))) else (none)) else (if x5.length < 2513169434916 then (delta_beside.l0 k x0 x1 (x5 ++ [(⟨(rd_T39 x1 x7).f0, x553001, (rd_T39 x1 x7).f1, true, x553004⟩ : S95)]) x6 (wrap64 (x7 + 1))) else (none))) else (none)) else (none)) else (none)) else (if 0 ≤ x7 then (if x7 < (x1.length : Int) then (if x5.length < 2513169434916 then (delta_beside.l0 k x0 x1 (x5 ++ [(⟨(rd_T39 x1 x7).f0, x553001, (rd_T39 x1 x7).f1, true, x553004⟩ : S95)]) x6 (wrap64 (x7 + 1))) else (none)) else (none)) else (none)))
end
def delta_beside.f (k : Nat) (l0 : List (S39)) (l1 : List (S39)) : Option ((List (S95))) := delta_beside.l0 k l0 l1 ([] : List (S95)) 0 0
def delta_beside.T5 : Bool × List (List Nat × List Nat) := (true, [([], []), ([], []), ([1], [1]), ([0, 2], [0, 2]), ([3], [3]), ([4], [4]), ([4], [4]), ([6, 4], [4, 6]), ([5, 7, 4], [4, 5, 7]), ([8, 4, 4], [4, 8]), ([9], [9]), ([9], [9]), ([10, 11, 9], [9, 10, 11]), ([12, 9], [9, 12]), ([13, 9], [9, 13]), ([9], [9]), ([9], [9]), ([15, 16, 9], [9, 15, 16]), ([17, 9], [9, 17]), ([18, 9], [9, 18]), ([14, 19, 9], [9, 14, 19]), ([9, 20, 4], [4, 9, 20]), ([4, 21], [4, 21]), ([22, 9], [22])])
def delta_beside.B5 : List Nat := [0, 0, 2, 7, 15, 31, 31, 95, 255, 511, 1023, 1023, 4095, 8191, 16383, 1023, 1023, 99327, 230399, 492543, 1048575, 2097151, 4194303, 8388607]
theorem delta_beside.tab5 : rtab .any (opsOf Try.f78 5) = delta_beside.T5 := by kernel_rfl
theorem delta_beside.bits5 : waitsOk delta_beside.T5.2 delta_beside.B5 = true := by kernel_rfl
def delta_beside.T6 : Bool × List (List Nat × List Nat) := (true, [([], []), ([], []), ([1], [1]), ([0, 2], [0, 2]), ([3], [3]), ([4], [4]), ([4], [4]), ([5, 6, 4], [4, 5, 6]), ([7, 4], [4, 7]), ([8, 4], [4, 8]), ([4], [4]), ([4], [4]), ([10, 11, 4], [4, 10, 11]), ([12, 4], [4, 12]), ([13, 4], [4, 13]), ([9, 14, 4], [4, 9, 14]), ([4, 15], [4, 15]), ([16, 4], [16])])
def delta_beside.B6 : List Nat := [0, 0, 2, 7, 15, 31, 31, 127, 255, 511, 31, 31, 3103, 7199, 15391, 32767, 65535, 131071]
theorem delta_beside.tab6 : rtab .any (opsOf Try.f78 6) = delta_beside.T6 := by kernel_rfl
theorem delta_beside.bits6 : waitsOk delta_beside.T6.2 delta_beside.B6 = true := by kernel_rfl
def delta_beside.T7 : Bool × List (List Nat × List Nat) := (true, [([], []), ([], []), ([0, 1], [0, 1]), ([2], [2]), ([3], [3]), ([], []), ([], []), ([5, 6], [5, 6]), ([7], [7]), ([8], [8]), ([4, 9], [4, 9]), ([10, 0, 1, 2, 3, 4, 5, 6, 7, 8, 9, 10], [10])])
def delta_beside.B7 : List Nat := [0, 0, 3, 7, 15, 0, 0, 96, 224, 480, 1023, 2047]
theorem delta_beside.tab7 : rtab .any (opsOf Try.f78 7) = delta_beside.T7 := by kernel_rfl
theorem delta_beside.bits7 : waitsOk delta_beside.T7.2 delta_beside.B7 = true := by kernel_rfl
def delta_beside.T11 : Bool × List (List Nat × List Nat) := (true, [([], []), ([], []), ([0, 1], [0, 1]), ([2], [2]), ([3], [3]), ([], []), ([], []), ([5, 6], [5, 6]), ([7], [7]), ([8], [8]), ([0, 1, 2, 3, 4], []), ([10, 4, 0, 1, 2, 3, 4], [4, 10]), ([0, 1, 2, 3, 4, 5, 6, 7, 8, 9, 10, 11], []), ([12, 9, 11, 0, 1, 2, 3, 4, 5, 6, 7, 8, 9, 10, 11], [9, 12]), ([0, 1, 2, 3, 4, 5, 6, 7, 8, 9, 10, 11, 12, 13], []), ([14, 13, 0, 1, 2, 3, 4, 5, 6, 7, 8, 9, 10, 11, 12, 13], [14])])
def delta_beside.B11 : List Nat := [0, 0, 3, 7, 15, 0, 0, 96, 224, 480, 31, 1055, 4095, 8191, 16383, 32767]
theorem delta_beside.tab11 : rtab .any (opsOf Try.f78 11) = delta_beside.T11 := by kernel_rfl
theorem delta_beside.bits11 : waitsOk delta_beside.T11.2 delta_beside.B11 = true := by kernel_rfl
set_option maxHeartbeats 8000000 in
set_option maxRecDepth 100000 in
theorem delta_beside.calls (k : Nat) (A0 : Option Addr) (c0 : Nat) (l0 : List (S39)) (A1 : Option Addr) (c1 : Nat) (l1 : List (S39)) (r : List (S95)) (w : World) (hr0 : Kd.C k39 w A0 l0.length l0) (hc0 : l0.length ≤ c0) (hr1 : Kd.C k39 w A1 l1.length l1) (hc1 : l1.length ≤ c1) (h : delta_beside.f k l0 l1 = some r) :
  Calls Try.prog 78 #[.slice A0 l0.length c0, .slice A1 l1.length c1] w fun e w' => ∃ v0_ : Value, e = .returned (v0_) ∧ Kd.R k95 95 w' w.heap.size (fun _ => True) v0_ r ∧ Below w.heap.size w w' := by
 have hu95 := Try.underlying95
 have HR0 := Aside0.mk hr0
 have HC0 := Aside0.mk hc0
 clear hr0 hc0
 have HR1 := Aside0.mk hr1
 have HC1 := Aside0.mk hc1
 clear hr1 hc1
 have HB := Aside0.mk (Below.refl w.heap.size w)
 have H : (delta_beside.l0 k l0 l1 ([] : List (S95)) 0 0) = some r := h
 clear h
 have H' := Aside0.mk H
 clear H
 go_enter Try.func78, Try.ntmps78
 go_wp2
 go_step3
 go_wp2
 try go_step3
 try go_wp2
 go_loopg [5, 6, 7] k (fun kq v5 v6 v7 w' => ∃ (x5_1 : List (S95)) (x6_1 : Int) (x7_1 : Int), v6 = .int .i64 x6_1 ∧ v7 = .int .i64 x7_1 ∧ Aside0 (delta_beside.l0 kq l0 l1 x5_1 x6_1 x7_1 = some r) ∧ Aside0 (kq ≤ k) ∧ Aside0 (Kd.R k95 95 w' w.heap.size (fun _ => True) v5 x5_1) ∧ Aside0 (Below w.heap.size w w'))
 case atStart => exact ⟨(([] : List (S95))), (0), (0), (by first | rfl | (simp; done) | (simp [*]; done)), (by first | rfl | (simp; done) | (simp [*]; done)), H', ⟨Nat.le_refl _⟩, ⟨by first | exact Kd.R_nil _ _ _ _ _ | exact Kd.N_nil _ _ _ _ _ | exact Kd.V_nil _ _ _ _ _ | exact Kd.Q_nil _ _ _ _ _ | exact Kd.S_nil _ _ _ _ _⟩, ⟨by repeat (first | (with_reducible first | exact HB.out | apply wA | apply wN | apply w1) | exact HB.out)⟩⟩
 case round =>
  clear H'
  try clear c1
  try clear p2
  obtain ⟨x5_1, x6_1, x7_1, rfl, rfl, HA, HK1, HO_5, HB⟩ := hrel
  cases gk with
  | zero => exact absurd HA.out (by simp [delta_beside.l0])
  | succ k1 =>
   have H := HA.out
   clear HA
   simp only [delta_beside.l0] at H
   have HC3 := Aside0.mk H
   clear H
   go_upto_region 3 with (fail)
   go_cut [18] (fun v18 wc => ∃ (kq : Nat) (x18_2 : Bool), v18 = .bool x18_2 ∧ Aside0 (delta_beside.j1 kq l0 l1 x5_1 x6_1 x7_1 x18_2 = some r) ∧ Aside0 (kq ≤ k1) ∧ Aside0 (Kd.R k95 95 wc w.heap.size (fun _ => True) u5 x5_1) ∧ Aside0 (Below w.heap.size w wc))
   case first =>
    have H := HC3.out
    clear HC3
    by_cases c4 : x6_1 < (l0.length : Int)
    ·rw [if_pos c4] at H
     have c4b0 : decide (x6_1 < (l0.length : Int)) = true := decide_eq_true c4
     clear c4
     (first | rw [c4b0] | (simp only [i64_w, i32_w]; rw [c4b0]) | skip)
     have H' := Aside0.mk H
     clear H
     go_wp2
     go_meet
     case rel => exact ⟨_, (true), (by first | rfl | (simp; done) | (simp [*]; done)), H', ⟨by have := HK1.out; first | omega | exact Nat.le_refl _⟩, ⟨by (with_reducible repeat (first | apply Kd.R_alloc | apply Kd.R_drewN | apply Kd.R_drew)); exact HO_5.out⟩, ⟨by repeat (first | (with_reducible first | exact HB.out | apply wA | apply wN | apply w1) | exact HB.out)⟩⟩
    ·rw [if_neg c4] at H
     have c4b0 : decide (x6_1 < (l0.length : Int)) = false := decide_eq_false c4
     clear c4
     (first | rw [c4b0] | (simp only [i64_w, i32_w]; rw [c4b0]) | skip)
     have H' := Aside0.mk H
     clear H
     go_wp2
     go_meet
     case rel => exact ⟨_, (decide (x7_1 < (l1.length : Int))), (by first | rfl | (simp; done) | (simp [*]; done)), H', ⟨by have := HK1.out; first | omega | exact Nat.le_refl _⟩, ⟨by (with_reducible repeat (first | apply Kd.R_alloc | apply Kd.R_drewN | apply Kd.R_drew)); exact HO_5.out⟩, ⟨by repeat (first | (with_reducible first | exact HB.out | apply wA | apply wN | apply w1) | exact HB.out)⟩⟩
   case rest =>
    clear HC3
    try clear c1
    try clear p2
    try clear c4
    try clear c4b0
    try clear p2
    obtain ⟨kq, x18_2, rfl, HA, HJ2, HO_5, HB⟩ := hcut
    cases kq with
    | zero => exact absurd HA.out (by simp [delta_beside.j1])
    | succ kj2 =>
     have H := HA.out
     clear HA
     simp only [delta_beside.j1] at H
     by_cases c5 : x18_2 = true
     ·subst c5
      have H1 : (if x7_1 ≥ (l1.length : Int) then (delta_beside.j2 kj2 l0 l1 x5_1 x6_1 x7_1 true (⟨#[]⟩ : BA) (⟨#[]⟩ : BA) (⟨#[]⟩ : BA) false false) else (if x6_1 < (l0.length : Int) then (if 0 ≤ x6_1 then (if 0 ≤ x7_1 then (if x7_1 < (l1.length : Int) then (delta_beside.j2 kj2 l0 l1 x5_1 x6_1 x7_1 (Op.bytesLess (((rd_T39 l0 x6_1).f0).toList) (((rd_T39 l1 x7_1).f0).toList)) (⟨#[]⟩ : BA) (⟨#[]⟩ : BA) (⟨#[]⟩ : BA) false false) else (none)) else (none)) else (none)) else (delta_beside.j2 kj2 l0 l1 x5_1 x6_1 x7_1 false (⟨#[]⟩ : BA) (⟨#[]⟩ : BA) (⟨#[]⟩ : BA) false false))) = some r := by rw [if_pos rfl] at H; exact H
      clear H
      have H := H1
      clear H1
      have HC6 := Aside0.mk H
      clear H
      go_upto_region 5 with (first | ((with_reducible refine gate_dst (N := 8) rfl ?_); (try (refine gate_guard (by rfl) ?_; dsimp only)); refine box_event ?hg (N := 8) ?hd (cs := #[.string (⟨#[]⟩ : BA), .string (⟨#[]⟩ : BA), .string (⟨#[]⟩ : BA), .bool false, .bool false]) (t := 95) ?hr ?_; (case hd => rfl); (case hg => rfl); (case hr => first | (go_simp; done) | (go_simp; rfl)); intro gb552 hg w7 hbox hb; have n0_ := Aside0.mk (Kd.R_below (Kd.R_elderB (kR_ HO_5.out) gb552 (Nat.le_of_eq hg.symm)) hb); have n1_ := Aside0.mk (wT bW_ hb); have n2_ := Aside0.mk (hbox); have n3_ := Aside0.mk ((by rw [hg]; exact (wZ bW_) : w.heap.size ≤ gb552)); have n4_ := n3_; clear HO_5; clear HB; have HO_5 := n0_; have HB := n1_; have BK552 := n2_; have GW552 := n3_; have GE552 := n4_; clear n0_ n1_ n2_ n3_ n4_; clear hb hbox hg))
      (try simp only [Act.put, sA1, sA2, sA3])
      go_cut [19] (fun v19 wc => ∃ (kq : Nat) (x19_5 : Bool), v19 = .bool x19_5 ∧ Aside0 (delta_beside.j2 kq l0 l1 x5_1 x6_1 x7_1 x19_5 (⟨#[]⟩ : BA) (⟨#[]⟩ : BA) (⟨#[]⟩ : BA) false false = some r) ∧ Aside0 (kq ≤ kj2) ∧ Aside0 (Kd.R k95 95 wc w.heap.size (fun k_ => k_ ≠ gb552) u5 x5_1) ∧ Aside0 (wc.heap[gb552]? = some (.cells #[.string (⟨#[]⟩ : BA), .string (⟨#[]⟩ : BA), .string (⟨#[]⟩ : BA), .bool false, .bool false] 95 (0, 0))) ∧ Aside0 (Below w.heap.size w wc))
      case first =>
       have H := HC6.out
       clear HC6
       by_cases c8 : x7_1 ≥ (l1.length : Int)
       ·rw [if_pos c8] at H
        have c8b0 : decide ((l1.length : Int) ≤ x7_1) = true := decide_eq_true c8
        clear c8
        (first | rw [c8b0] | (simp only [i64_w, i32_w]; rw [c8b0]) | skip)
        have H' := Aside0.mk H
        clear H
        try go_wp2
        have n0_ := Aside0.mk (Kd.R_drew HO_5.out)
        have n1_ := Aside0.mk (bD BK552.out)
        have n2_ := Aside0.mk (w1 HB.out)
        clear HO_5
        clear BK552
        clear HB
        have HO_5 := n0_
        have BK552 := n1_
        have HB := n2_
        clear n0_ n1_ n2_
        refine start_ (n := 24) (S := fun w' => True) (ds := []) #[ZZ,ZZ,ZZ,ZZ,ZZ,ZZ,ZZ,ZZ,ZZ,ZZ,ZZ,ZZ,ZZ,ZZ,ZZ,ZZ,ZZ,ZZ,ZZ,ZZ,ZZ,ZZ,ZZ,ZZ] (by kernel_rfl) rfl rfl trivial (fun hHeld => ?_); refine with_tabW delta_beside.tab5 delta_beside.bits5 (fun HT_ HW_ => ?_)
        generalize w7.drew = w9 at HO_5 BK552 HB hHeld ⊢
        refine pU_ 0 20 #[YY,ZZ,ZZ,ZZ,ZZ,ZZ,ZZ,ZZ,ZZ,ZZ,ZZ,ZZ,ZZ,ZZ,ZZ,ZZ,ZZ,ZZ,ZZ,ZZ,ZZ,ZZ,ZZ,ZZ] ?_
        refine pU_ 1 21 #[YY,YY,ZZ,ZZ,ZZ,ZZ,ZZ,ZZ,ZZ,ZZ,ZZ,ZZ,ZZ,ZZ,ZZ,ZZ,ZZ,ZZ,ZZ,ZZ,ZZ,ZZ,ZZ,ZZ] ?_
        refine pU_ 2 22 #[YY,YY,YY,ZZ,ZZ,ZZ,ZZ,ZZ,ZZ,ZZ,ZZ,ZZ,ZZ,ZZ,ZZ,ZZ,ZZ,ZZ,ZZ,ZZ,ZZ,ZZ,ZZ,ZZ] ?_
        refine pU_ 3 23 #[YY,YY,YY,YY,ZZ,ZZ,ZZ,ZZ,ZZ,ZZ,ZZ,ZZ,ZZ,ZZ,ZZ,ZZ,ZZ,ZZ,ZZ,ZZ,ZZ,ZZ,ZZ,ZZ] ?_
        refine pU_ 4 24 #[YY,YY,YY,YY,YY,ZZ,ZZ,ZZ,ZZ,ZZ,ZZ,ZZ,ZZ,ZZ,ZZ,ZZ,ZZ,ZZ,ZZ,ZZ,ZZ,ZZ,ZZ,ZZ] ?_
        refine oF_ 5 25 #[YY,YY,YY,YY,YY,YY,ZZ,ZZ,ZZ,ZZ,ZZ,ZZ,ZZ,ZZ,ZZ,ZZ,ZZ,ZZ,ZZ,ZZ,ZZ,ZZ,ZZ,ZZ] ?_
        refine oF_ 6 26 #[YY,YY,YY,YY,YY,YY,YY,ZZ,ZZ,ZZ,ZZ,ZZ,ZZ,ZZ,ZZ,ZZ,ZZ,ZZ,ZZ,ZZ,ZZ,ZZ,ZZ,ZZ] ?_
        refine oF_ 7 27 #[YY,YY,YY,YY,YY,YY,YY,YY,ZZ,ZZ,ZZ,ZZ,ZZ,ZZ,ZZ,ZZ,ZZ,ZZ,ZZ,ZZ,ZZ,ZZ,ZZ,ZZ] ?_
        refine oF_ 8 28 #[YY,YY,YY,YY,YY,YY,YY,YY,YY,ZZ,ZZ,ZZ,ZZ,ZZ,ZZ,ZZ,ZZ,ZZ,ZZ,ZZ,ZZ,ZZ,ZZ,ZZ] ?_
        refine oF_ 9 29 #[YY,YY,YY,YY,YY,YY,YY,YY,YY,YY,ZZ,ZZ,ZZ,ZZ,ZZ,ZZ,ZZ,ZZ,ZZ,ZZ,ZZ,ZZ,ZZ,ZZ] ?_
        refine oF_ 10 30 #[YY,YY,YY,YY,YY,YY,YY,YY,YY,YY,YY,ZZ,ZZ,ZZ,ZZ,ZZ,ZZ,ZZ,ZZ,ZZ,ZZ,ZZ,ZZ,ZZ] ?_
        refine oF_ 11 31 #[YY,YY,YY,YY,YY,YY,YY,YY,YY,YY,YY,YY,ZZ,ZZ,ZZ,ZZ,ZZ,ZZ,ZZ,ZZ,ZZ,ZZ,ZZ,ZZ] ?_
        refine oF_ 12 32 #[YY,YY,YY,YY,YY,YY,YY,YY,YY,YY,YY,YY,YY,ZZ,ZZ,ZZ,ZZ,ZZ,ZZ,ZZ,ZZ,ZZ,ZZ,ZZ] ?_
        refine oF_ 13 33 #[YY,YY,YY,YY,YY,YY,YY,YY,YY,YY,YY,YY,YY,YY,ZZ,ZZ,ZZ,ZZ,ZZ,ZZ,ZZ,ZZ,ZZ,ZZ] ?_
        refine oF_ 14 34 #[YY,YY,YY,YY,YY,YY,YY,YY,YY,YY,YY,YY,YY,YY,YY,ZZ,ZZ,ZZ,ZZ,ZZ,ZZ,ZZ,ZZ,ZZ] ?_
        refine oF_ 15 35 #[YY,YY,YY,YY,YY,YY,YY,YY,YY,YY,YY,YY,YY,YY,YY,YY,ZZ,ZZ,ZZ,ZZ,ZZ,ZZ,ZZ,ZZ] ?_
        refine oF_ 16 36 #[YY,YY,YY,YY,YY,YY,YY,YY,YY,YY,YY,YY,YY,YY,YY,YY,YY,ZZ,ZZ,ZZ,ZZ,ZZ,ZZ,ZZ] ?_
        refine oF_ 17 37 #[YY,YY,YY,YY,YY,YY,YY,YY,YY,YY,YY,YY,YY,YY,YY,YY,YY,YY,ZZ,ZZ,ZZ,ZZ,ZZ,ZZ] ?_
        refine oF_ 18 38 #[YY,YY,YY,YY,YY,YY,YY,YY,YY,YY,YY,YY,YY,YY,YY,YY,YY,YY,YY,ZZ,ZZ,ZZ,ZZ,ZZ] ?_
        refine oF_ 19 39 #[YY,YY,YY,YY,YY,YY,YY,YY,YY,YY,YY,YY,YY,YY,YY,YY,YY,YY,YY,YY,ZZ,ZZ,ZZ,ZZ] ?_
        refine oF_ 20 40 #[YY,YY,YY,YY,YY,YY,YY,YY,YY,YY,YY,YY,YY,YY,YY,YY,YY,YY,YY,YY,YY,ZZ,ZZ,ZZ] ?_
        refine oF_ 21 41 #[YY,YY,YY,YY,YY,YY,YY,YY,YY,YY,YY,YY,YY,YY,YY,YY,YY,YY,YY,YY,YY,YY,ZZ,ZZ] ?_
        refine pU_ 22 42 #[YY,YY,YY,YY,YY,YY,YY,YY,YY,YY,YY,YY,YY,YY,YY,YY,YY,YY,YY,YY,YY,YY,YY,ZZ] ?_
        refine pU_ 23 19 #[YY,YY,YY,YY,YY,YY,YY,YY,YY,YY,YY,YY,YY,YY,YY,YY,YY,YY,YY,YY,YY,YY,YY,YY] ?_
        refine done_ (done_of HT_.out (by kernel_rfl)) ?_
        try go_wp2
        go_meet
        case rel => exact ⟨_, (true), (by first | rfl | (simp; done) | (simp [*]; done)), H', ⟨by have := HK1.out; have := HJ2.out; first | omega | exact Nat.le_refl _⟩, ⟨by (with_reducible repeat (first | apply Kd.R_alloc | apply Kd.R_drewN | apply Kd.R_drew)); exact Kd.R_mono HO_5.out (fun _ hk => hk.2)⟩, ⟨by (with_reducible repeat (first | refine bN ?_ _ | refine bD ?_ | refine bA ?_ _)); exact BK552.out⟩, ⟨by repeat (first | (with_reducible first | exact HB.out | apply wA | apply wN | apply w1 | refine wS ?_ GE552.out) | exact HB.out)⟩⟩
       ·rw [if_neg c8] at H
        have c8b0 : decide ((l1.length : Int) ≤ x7_1) = false := decide_eq_false c8
        clear c8
        (first | rw [c8b0] | (simp only [i64_w, i32_w]; rw [c8b0]) | skip)
        by_cases c10 : x6_1 < (l0.length : Int)
        ·rw [if_pos c10] at H
         have c10b0 : decide (x6_1 < (l0.length : Int)) = true := decide_eq_true c10
         clear c10
         by_cases c11 : 0 ≤ x6_1
         ·rw [if_pos c11] at H
          have c11b0 : decide (0 ≤ x6_1) = true := decide_eq_true c11
          clear c11
          by_cases c12 : 0 ≤ x7_1
          ·rw [if_pos c12] at H
           have c12b0 : decide (0 ≤ x7_1) = true := decide_eq_true c12
           clear c12
           by_cases c13 : x7_1 < (l1.length : Int)
           ·rw [if_pos c13] at H
            have c13b0 : decide (x7_1 < (l1.length : Int)) = true := decide_eq_true c13
            clear c13
            have H' := Aside0.mk H
            clear H
            try go_wp2
            have n0_ := Aside0.mk (Kd.R_drew HO_5.out)
            have n1_ := Aside0.mk (bD BK552.out)
            have n2_ := Aside0.mk (w1 HB.out)
            clear HO_5
            clear BK552
            clear HB
            have HO_5 := n0_
            have BK552 := n1_
            have HB := n2_
            clear n0_ n1_ n2_
            have p553 : 0 ≤ (x6_1 : Int) := of_decide_eq_true (by first | (with_reducible assumption) | assumption)
            have q553 : x6_1 < (l0.length : Int) := of_decide_eq_true (by first | (with_reducible assumption) | assumption)
            obtain ⟨ad553, e553, hx553_0, hx553_1⟩ := at_T39 HR0.out x6_1 p553 q553
            have hw553_1 := hx553_1
            have hw553_0 := hx553_0
            cases e553
            replace hx553_0 := (HB.out.cell (World.block_lt_of_cell? w _ hx553_0)).trans hx553_0
            replace hx553_1 := (HB.out.cell (World.block_lt_of_cell? w _ hx553_1)).trans hx553_1
            replace p553 := eq_true p553
            replace q553 := eq_true q553
            have p554 : 0 ≤ (x7_1 : Int) := of_decide_eq_true (by first | (with_reducible assumption) | assumption)
            have q554 : x7_1 < (l1.length : Int) := of_decide_eq_true (by first | (with_reducible assumption) | assumption)
            obtain ⟨ad554, e554, hx554_0, hx554_1⟩ := at_T39 HR1.out x7_1 p554 q554
            have hw554_1 := hx554_1
            have hw554_0 := hx554_0
            cases e554
            replace hx554_0 := (HB.out.cell (World.block_lt_of_cell? w _ hx554_0)).trans hx554_0
            replace hx554_1 := (HB.out.cell (World.block_lt_of_cell? w _ hx554_1)).trans hx554_1
            replace p554 := eq_true p554
            replace q554 := eq_true q554
            refine start_ (n := 24) (S := fun w' => w'.cell? (ad553.add ((x6_1).toNat * 2)) = some (.string ((rd_T39 l0 x6_1).f0)) ∧ w'.cell? ⟨(ad553.add ((x6_1).toNat * 2)).block, (ad553.add ((x6_1).toNat * 2)).off + 1, none⟩ = some (.string ((rd_T39 l0 x6_1).f1)) ∧ w'.cell? (ad554.add ((x7_1).toNat * 2)) = some (.string ((rd_T39 l1 x7_1).f0)) ∧ w'.cell? ⟨(ad554.add ((x7_1).toNat * 2)).block, (ad554.add ((x7_1).toNat * 2)).off + 1, none⟩ = some (.string ((rd_T39 l1 x7_1).f1))) (ds := []) #[ZZ,ZZ,ZZ,ZZ,ZZ,ZZ,ZZ,ZZ,ZZ,ZZ,ZZ,ZZ,ZZ,ZZ,ZZ,ZZ,ZZ,ZZ,ZZ,ZZ,ZZ,ZZ,ZZ,ZZ] (by kernel_rfl) rfl rfl ⟨((HB.out.cell (World.block_lt_of_cell? w _ hw553_0)).trans hw553_0), ((HB.out.cell (World.block_lt_of_cell? w _ hw553_1)).trans hw553_1), ((HB.out.cell (World.block_lt_of_cell? w _ hw554_0)).trans hw554_0), ((HB.out.cell (World.block_lt_of_cell? w _ hw554_1)).trans hw554_1)⟩ (fun hHeld => ?_); refine with_tabW delta_beside.tab5 delta_beside.bits5 (fun HT_ HW_ => ?_)
            generalize w7.drew = w14 at HO_5 BK552 HB hx553_0 hx553_1 hx554_0 hx554_1 hHeld ⊢
            refine pU_ 0 20 #[YY,ZZ,ZZ,ZZ,ZZ,ZZ,ZZ,ZZ,ZZ,ZZ,ZZ,ZZ,ZZ,ZZ,ZZ,ZZ,ZZ,ZZ,ZZ,ZZ,ZZ,ZZ,ZZ,ZZ] ?_
            refine pU_ 1 21 #[YY,YY,ZZ,ZZ,ZZ,ZZ,ZZ,ZZ,ZZ,ZZ,ZZ,ZZ,ZZ,ZZ,ZZ,ZZ,ZZ,ZZ,ZZ,ZZ,ZZ,ZZ,ZZ,ZZ] ?_
            refine pU_ 2 22 #[YY,YY,YY,ZZ,ZZ,ZZ,ZZ,ZZ,ZZ,ZZ,ZZ,ZZ,ZZ,ZZ,ZZ,ZZ,ZZ,ZZ,ZZ,ZZ,ZZ,ZZ,ZZ,ZZ] ?_
            refine pU_ 3 23 #[YY,YY,YY,YY,ZZ,ZZ,ZZ,ZZ,ZZ,ZZ,ZZ,ZZ,ZZ,ZZ,ZZ,ZZ,ZZ,ZZ,ZZ,ZZ,ZZ,ZZ,ZZ,ZZ] ?_
            refine pU_ 4 24 #[YY,YY,YY,YY,YY,ZZ,ZZ,ZZ,ZZ,ZZ,ZZ,ZZ,ZZ,ZZ,ZZ,ZZ,ZZ,ZZ,ZZ,ZZ,ZZ,ZZ,ZZ,ZZ] ?_
            refine pU_ 5 25 #[YY,YY,YY,YY,YY,YY,ZZ,ZZ,ZZ,ZZ,ZZ,ZZ,ZZ,ZZ,ZZ,ZZ,ZZ,ZZ,ZZ,ZZ,ZZ,ZZ,ZZ,ZZ] ?_
            refine pU_ 6 26 #[YY,YY,YY,YY,YY,YY,YY,ZZ,ZZ,ZZ,ZZ,ZZ,ZZ,ZZ,ZZ,ZZ,ZZ,ZZ,ZZ,ZZ,ZZ,ZZ,ZZ,ZZ] ?_
            refine pU_ 7 27 #[YY,YY,YY,YY,YY,YY,YY,YY,ZZ,ZZ,ZZ,ZZ,ZZ,ZZ,ZZ,ZZ,ZZ,ZZ,ZZ,ZZ,ZZ,ZZ,ZZ,ZZ] ?_
            refine pU_ 8 28 #[YY,YY,YY,YY,YY,YY,YY,YY,YY,ZZ,ZZ,ZZ,ZZ,ZZ,ZZ,ZZ,ZZ,ZZ,ZZ,ZZ,ZZ,ZZ,ZZ,ZZ] ?_
            refine pU_ 9 29 #[YY,YY,YY,YY,YY,YY,YY,YY,YY,YY,ZZ,ZZ,ZZ,ZZ,ZZ,ZZ,ZZ,ZZ,ZZ,ZZ,ZZ,ZZ,ZZ,ZZ] ?_
            refine pU_ 10 30 #[YY,YY,YY,YY,YY,YY,YY,YY,YY,YY,YY,ZZ,ZZ,ZZ,ZZ,ZZ,ZZ,ZZ,ZZ,ZZ,ZZ,ZZ,ZZ,ZZ] ?_
            refine pU_ 11 31 #[YY,YY,YY,YY,YY,YY,YY,YY,YY,YY,YY,YY,ZZ,ZZ,ZZ,ZZ,ZZ,ZZ,ZZ,ZZ,ZZ,ZZ,ZZ,ZZ] ?_
            refine pU_ 12 32 #[YY,YY,YY,YY,YY,YY,YY,YY,YY,YY,YY,YY,YY,ZZ,ZZ,ZZ,ZZ,ZZ,ZZ,ZZ,ZZ,ZZ,ZZ,ZZ] ?_
            refine pU_ 13 33 #[YY,YY,YY,YY,YY,YY,YY,YY,YY,YY,YY,YY,YY,YY,ZZ,ZZ,ZZ,ZZ,ZZ,ZZ,ZZ,ZZ,ZZ,ZZ] ?_
            refine pU_ 15 35 #[YY,YY,YY,YY,YY,YY,YY,YY,YY,YY,YY,YY,YY,YY,ZZ,YY,ZZ,ZZ,ZZ,ZZ,ZZ,ZZ,ZZ,ZZ] ?_
            refine pU_ 16 36 #[YY,YY,YY,YY,YY,YY,YY,YY,YY,YY,YY,YY,YY,YY,ZZ,YY,YY,ZZ,ZZ,ZZ,ZZ,ZZ,ZZ,ZZ] ?_
            refine pU_ 17 37 #[YY,YY,YY,YY,YY,YY,YY,YY,YY,YY,YY,YY,YY,YY,ZZ,YY,YY,YY,ZZ,ZZ,ZZ,ZZ,ZZ,ZZ] ?_
            refine pU_ 18 38 #[YY,YY,YY,YY,YY,YY,YY,YY,YY,YY,YY,YY,YY,YY,ZZ,YY,YY,YY,YY,ZZ,ZZ,ZZ,ZZ,ZZ] ?_
            refine take_ (i := 14) (N := some 34) (v := ?_) (a' := ?_) #[YY,YY,YY,YY,YY,YY,YY,YY,YY,YY,YY,YY,YY,YY,YY,YY,YY,YY,YY,ZZ,ZZ,ZZ,ZZ,ZZ] rfl rfl (take_ofW HT_.out HW_.out (by kernel_rfl)) (fun _ _ _ h => h) (Or.inl ⟨by rfl, ?_⟩) hHeld ?_ ?_
            rotate_left
            ·rintro w' ⟨s0, s1, s2, s3⟩
             go_simp
             with_reducible rfl
            rotate_left
            ·simp only [Act.put, sA1, sA2, sA3, i64_w, i32_w]
             rfl
            refine take_ (i := 19) (N := some 39) (v := ?_) (a' := ?_) #[YY,YY,YY,YY,YY,YY,YY,YY,YY,YY,YY,YY,YY,YY,YY,YY,YY,YY,YY,YY,ZZ,ZZ,ZZ,ZZ] rfl rfl (take_ofW HT_.out HW_.out (by kernel_rfl)) (fun _ _ _ h => h) (Or.inl ⟨by rfl, ?_⟩) hHeld ?_ ?_
            rotate_left
            ·rintro w' ⟨s0, s1, s2, s3⟩
             go_simp
             with_reducible rfl
            rotate_left
            ·simp only [Act.put, sA1, sA2, sA3, i64_w, i32_w]
             rfl
            refine pU_ 20 40 #[YY,YY,YY,YY,YY,YY,YY,YY,YY,YY,YY,YY,YY,YY,YY,YY,YY,YY,YY,YY,YY,ZZ,ZZ,ZZ] ?_
            refine pU_ 21 41 #[YY,YY,YY,YY,YY,YY,YY,YY,YY,YY,YY,YY,YY,YY,YY,YY,YY,YY,YY,YY,YY,YY,ZZ,ZZ] ?_
            refine pU_ 22 42 #[YY,YY,YY,YY,YY,YY,YY,YY,YY,YY,YY,YY,YY,YY,YY,YY,YY,YY,YY,YY,YY,YY,YY,ZZ] ?_
            refine pU_ 23 19 #[YY,YY,YY,YY,YY,YY,YY,YY,YY,YY,YY,YY,YY,YY,YY,YY,YY,YY,YY,YY,YY,YY,YY,YY] ?_
            refine done_ (done_of HT_.out (by kernel_rfl)) ?_
            try go_wp2
            go_meet
            case rel => exact ⟨_, ((Op.bytesLess (((rd_T39 l0 x6_1).f0).toList) (((rd_T39 l1 x7_1).f0).toList))), (by first | rfl | (simp; done) | (simp [*]; done)), H', ⟨by have := HK1.out; have := HJ2.out; first | omega | exact Nat.le_refl _⟩, ⟨by (with_reducible repeat (first | apply Kd.R_alloc | apply Kd.R_drewN | apply Kd.R_drew)); exact Kd.R_mono HO_5.out (fun _ hk => hk.2)⟩, ⟨by (with_reducible repeat (first | refine bN ?_ _ | refine bD ?_ | refine bA ?_ _)); exact BK552.out⟩, ⟨by repeat (first | (with_reducible first | exact HB.out | apply wA | apply wN | apply w1 | refine wS ?_ GE552.out) | exact HB.out)⟩⟩
           ·rw [if_neg c13] at H
            exact absurd H (by simp)
          ·rw [if_neg c12] at H
           exact absurd H (by simp)
         ·rw [if_neg c11] at H
          exact absurd H (by simp)
        ·rw [if_neg c10] at H
         have c10b0 : decide (x6_1 < (l0.length : Int)) = false := decide_eq_false c10
         clear c10
         have H' := Aside0.mk H
         clear H
         try go_wp2
         have n0_ := Aside0.mk (Kd.R_drew HO_5.out)
         have n1_ := Aside0.mk (bD BK552.out)
         have n2_ := Aside0.mk (w1 HB.out)
         clear HO_5
         clear BK552
         clear HB
         have HO_5 := n0_
         have BK552 := n1_
         have HB := n2_
         clear n0_ n1_ n2_
         refine start_ (n := 24) (S := fun w' => True) (ds := []) #[ZZ,ZZ,ZZ,ZZ,ZZ,ZZ,ZZ,ZZ,ZZ,ZZ,ZZ,ZZ,ZZ,ZZ,ZZ,ZZ,ZZ,ZZ,ZZ,ZZ,ZZ,ZZ,ZZ,ZZ] (by kernel_rfl) rfl rfl trivial (fun hHeld => ?_); refine with_tabW delta_beside.tab5 delta_beside.bits5 (fun HT_ HW_ => ?_)
         generalize w7.drew = w15 at HO_5 BK552 HB hHeld ⊢
         refine pU_ 0 20 #[YY,ZZ,ZZ,ZZ,ZZ,ZZ,ZZ,ZZ,ZZ,ZZ,ZZ,ZZ,ZZ,ZZ,ZZ,ZZ,ZZ,ZZ,ZZ,ZZ,ZZ,ZZ,ZZ,ZZ] ?_
         refine pU_ 1 21 #[YY,YY,ZZ,ZZ,ZZ,ZZ,ZZ,ZZ,ZZ,ZZ,ZZ,ZZ,ZZ,ZZ,ZZ,ZZ,ZZ,ZZ,ZZ,ZZ,ZZ,ZZ,ZZ,ZZ] ?_
         refine pU_ 2 22 #[YY,YY,YY,ZZ,ZZ,ZZ,ZZ,ZZ,ZZ,ZZ,ZZ,ZZ,ZZ,ZZ,ZZ,ZZ,ZZ,ZZ,ZZ,ZZ,ZZ,ZZ,ZZ,ZZ] ?_
         refine pU_ 3 23 #[YY,YY,YY,YY,ZZ,ZZ,ZZ,ZZ,ZZ,ZZ,ZZ,ZZ,ZZ,ZZ,ZZ,ZZ,ZZ,ZZ,ZZ,ZZ,ZZ,ZZ,ZZ,ZZ] ?_
         refine pU_ 4 24 #[YY,YY,YY,YY,YY,ZZ,ZZ,ZZ,ZZ,ZZ,ZZ,ZZ,ZZ,ZZ,ZZ,ZZ,ZZ,ZZ,ZZ,ZZ,ZZ,ZZ,ZZ,ZZ] ?_
         refine pU_ 5 25 #[YY,YY,YY,YY,YY,YY,ZZ,ZZ,ZZ,ZZ,ZZ,ZZ,ZZ,ZZ,ZZ,ZZ,ZZ,ZZ,ZZ,ZZ,ZZ,ZZ,ZZ,ZZ] ?_
         refine pU_ 6 26 #[YY,YY,YY,YY,YY,YY,YY,ZZ,ZZ,ZZ,ZZ,ZZ,ZZ,ZZ,ZZ,ZZ,ZZ,ZZ,ZZ,ZZ,ZZ,ZZ,ZZ,ZZ] ?_
         refine pU_ 7 27 #[YY,YY,YY,YY,YY,YY,YY,YY,ZZ,ZZ,ZZ,ZZ,ZZ,ZZ,ZZ,ZZ,ZZ,ZZ,ZZ,ZZ,ZZ,ZZ,ZZ,ZZ] ?_
         refine pU_ 8 28 #[YY,YY,YY,YY,YY,YY,YY,YY,YY,ZZ,ZZ,ZZ,ZZ,ZZ,ZZ,ZZ,ZZ,ZZ,ZZ,ZZ,ZZ,ZZ,ZZ,ZZ] ?_
         refine pU_ 9 29 #[YY,YY,YY,YY,YY,YY,YY,YY,YY,YY,ZZ,ZZ,ZZ,ZZ,ZZ,ZZ,ZZ,ZZ,ZZ,ZZ,ZZ,ZZ,ZZ,ZZ] ?_
         refine oF_ 10 30 #[YY,YY,YY,YY,YY,YY,YY,YY,YY,YY,YY,ZZ,ZZ,ZZ,ZZ,ZZ,ZZ,ZZ,ZZ,ZZ,ZZ,ZZ,ZZ,ZZ] ?_
         refine oF_ 11 31 #[YY,YY,YY,YY,YY,YY,YY,YY,YY,YY,YY,YY,ZZ,ZZ,ZZ,ZZ,ZZ,ZZ,ZZ,ZZ,ZZ,ZZ,ZZ,ZZ] ?_
         refine oF_ 12 32 #[YY,YY,YY,YY,YY,YY,YY,YY,YY,YY,YY,YY,YY,ZZ,ZZ,ZZ,ZZ,ZZ,ZZ,ZZ,ZZ,ZZ,ZZ,ZZ] ?_
         refine oF_ 13 33 #[YY,YY,YY,YY,YY,YY,YY,YY,YY,YY,YY,YY,YY,YY,ZZ,ZZ,ZZ,ZZ,ZZ,ZZ,ZZ,ZZ,ZZ,ZZ] ?_
         refine oF_ 14 34 #[YY,YY,YY,YY,YY,YY,YY,YY,YY,YY,YY,YY,YY,YY,YY,ZZ,ZZ,ZZ,ZZ,ZZ,ZZ,ZZ,ZZ,ZZ] ?_
         refine oF_ 15 35 #[YY,YY,YY,YY,YY,YY,YY,YY,YY,YY,YY,YY,YY,YY,YY,YY,ZZ,ZZ,ZZ,ZZ,ZZ,ZZ,ZZ,ZZ] ?_
         refine oF_ 16 36 #[YY,YY,YY,YY,YY,YY,YY,YY,YY,YY,YY,YY,YY,YY,YY,YY,YY,ZZ,ZZ,ZZ,ZZ,ZZ,ZZ,ZZ] ?_
         refine oF_ 17 37 #[YY,YY,YY,YY,YY,YY,YY,YY,YY,YY,YY,YY,YY,YY,YY,YY,YY,YY,ZZ,ZZ,ZZ,ZZ,ZZ,ZZ] ?_
         refine oF_ 18 38 #[YY,YY,YY,YY,YY,YY,YY,YY,YY,YY,YY,YY,YY,YY,YY,YY,YY,YY,YY,ZZ,ZZ,ZZ,ZZ,ZZ] ?_
         refine oF_ 19 39 #[YY,YY,YY,YY,YY,YY,YY,YY,YY,YY,YY,YY,YY,YY,YY,YY,YY,YY,YY,YY,ZZ,ZZ,ZZ,ZZ] ?_
         refine oF_ 20 40 #[YY,YY,YY,YY,YY,YY,YY,YY,YY,YY,YY,YY,YY,YY,YY,YY,YY,YY,YY,YY,YY,ZZ,ZZ,ZZ] ?_
         refine pU_ 21 41 #[YY,YY,YY,YY,YY,YY,YY,YY,YY,YY,YY,YY,YY,YY,YY,YY,YY,YY,YY,YY,YY,YY,ZZ,ZZ] ?_
         refine pU_ 22 42 #[YY,YY,YY,YY,YY,YY,YY,YY,YY,YY,YY,YY,YY,YY,YY,YY,YY,YY,YY,YY,YY,YY,YY,ZZ] ?_
         refine pU_ 23 19 #[YY,YY,YY,YY,YY,YY,YY,YY,YY,YY,YY,YY,YY,YY,YY,YY,YY,YY,YY,YY,YY,YY,YY,YY] ?_
         refine done_ (done_of HT_.out (by kernel_rfl)) ?_
         try go_wp2
         go_meet
         case rel => exact ⟨_, (false), (by first | rfl | (simp; done) | (simp [*]; done)), H', ⟨by have := HK1.out; have := HJ2.out; first | omega | exact Nat.le_refl _⟩, ⟨by (with_reducible repeat (first | apply Kd.R_alloc | apply Kd.R_drewN | apply Kd.R_drew)); exact Kd.R_mono HO_5.out (fun _ hk => hk.2)⟩, ⟨by (with_reducible repeat (first | refine bN ?_ _ | refine bD ?_ | refine bA ?_ _)); exact BK552.out⟩, ⟨by repeat (first | (with_reducible first | exact HB.out | apply wA | apply wN | apply w1 | refine wS ?_ GE552.out) | exact HB.out)⟩⟩
      case rest =>
       clear HC6
       try clear c1
       try clear p2
       try clear c4
       try clear c4b0
       try clear c5
       try clear p5
       try clear q5
       try clear hx5
       try clear c8
       try clear c8b0
       try clear c10
       try clear c10b0
       try clear c11
       try clear c11b0
       try clear c12
       try clear c12b0
       try clear c13
       try clear c13b0
       try clear hx553_0
       try clear hx553_1
       try clear hx554_0
       try clear hx554_1
       try clear p2
       try clear p553
       try clear p554
       try clear q553
       try clear q554
       obtain ⟨kq, x19_5, rfl, HA, HJ5, HO_5, BK552, HB⟩ := hcut
       cases kq with
       | zero => exact absurd HA.out (by simp [delta_beside.j2])
       | succ kj5 =>
        have H := HA.out
        clear HA
        simp only [delta_beside.j2] at H
        by_cases c16 : x19_5 = true
        ·subst c16
         have H1 : (if 0 ≤ x6_1 then (if x6_1 < (l0.length : Int) then (if x5_1.length < 2513169434916 then (delta_beside.l0 kj5 l0 l1 (x5_1 ++ [(⟨(rd_T39 l0 x6_1).f0, (rd_T39 l0 x6_1).f1, (⟨#[]⟩ : BA), false, true⟩ : S95)]) (wrap64 (x6_1 + 1)) x7_1) else (none)) else (none)) else (none)) = some r := by rw [if_pos rfl] at H; exact H
         clear H
         have H := H1
         clear H1
         by_cases c17 : 0 ≤ x6_1
         ·rw [if_pos c17] at H
          have c17b0 : decide (0 ≤ x6_1) = true := decide_eq_true c17
          clear c17
          by_cases c18 : x6_1 < (l0.length : Int)
          ·rw [if_pos c18] at H
           have c18b0 : decide (x6_1 < (l0.length : Int)) = true := decide_eq_true c18
           clear c18
           by_cases c19 : x5_1.length < 2513169434916
           ·rw [if_pos c19] at H
            have LMc19 := Aside0.mk c19
            clear c19
            obtain ⟨y557, hy557⟩ : ∃ y_ : List (S95), y_ = (x5_1 ++ [(⟨(rd_T39 l0 x6_1).f0, (rd_T39 l0 x6_1).f1, (⟨#[]⟩ : BA), false, true⟩ : S95)]) := ⟨_, rfl⟩
            replace H : (delta_beside.l0 kj5 l0 l1 y557 (wrap64 (x6_1 + 1)) x7_1) = some r := by first | (rw [hy557]; with_reducible exact H) | (have H2_ := (Option.bind_some _ _).symm.trans H; rw [hy557]; with_reducible exact H2_) | (have H2_ := (Option.bind_some _ _).symm.trans H; with_reducible exact H2_) | with_reducible exact H | (rw [hy557]; exact H) | exact H
            have Ny557 := Aside0.mk hy557
            clear hy557
            have H' := Aside0.mk H
            clear H
            try go_wp2
            have n0_ := Aside0.mk (Kd.R_drew HO_5.out)
            have n1_ := Aside0.mk (bD BK552.out)
            have n2_ := Aside0.mk (w1 HB.out)
            clear HO_5
            clear BK552
            clear HB
            have HO_5 := n0_
            have BK552 := n1_
            have HB := n2_
            clear n0_ n1_ n2_
            have p555 : 0 ≤ (x6_1 : Int) := of_decide_eq_true (by first | (with_reducible assumption) | assumption)
            have q555 : x6_1 < (l0.length : Int) := of_decide_eq_true (by first | (with_reducible assumption) | assumption)
            obtain ⟨ad555, e555, hx555_0, hx555_1⟩ := at_T39 HR0.out x6_1 p555 q555
            have hw555_1 := hx555_1
            have hw555_0 := hx555_0
            cases e555
            replace hx555_0 := (HB.out.cell (World.block_lt_of_cell? w _ hx555_0)).trans hx555_0
            replace hx555_1 := (HB.out.cell (World.block_lt_of_cell? w _ hx555_1)).trans hx555_1
            replace p555 := eq_true p555
            replace q555 := eq_true q555
            have p556 : 0 ≤ (x6_1 : Int) := of_decide_eq_true (by first | (with_reducible assumption) | assumption)
            have q556 : x6_1 < (l0.length : Int) := of_decide_eq_true (by first | (with_reducible assumption) | assumption)
            obtain ⟨ad556, e556, hx556_0, hx556_1⟩ := at_T39 HR0.out x6_1 p556 q556
            have hw556_1 := hx556_1
            have hw556_0 := hx556_0
            obtain rfl : ad555 = ad556 := (by injection e556)
            replace hx556_0 := (HB.out.cell (World.block_lt_of_cell? w _ hx556_0)).trans hx556_0
            replace hx556_1 := (HB.out.cell (World.block_lt_of_cell? w _ hx556_1)).trans hx556_1
            replace p556 := eq_true p556
            replace q556 := eq_true q556
            refine start_ (n := 12) (S := fun w' => w'.cell? (ad555.add ((x6_1).toNat * 2)) = some (.string ((rd_T39 l0 x6_1).f0)) ∧ w'.cell? ⟨(ad555.add ((x6_1).toNat * 2)).block, (ad555.add ((x6_1).toNat * 2)).off + 1, none⟩ = some (.string ((rd_T39 l0 x6_1).f1)) ∧ w'.cell? (ad555.add ((x6_1).toNat * 2)) = some (.string ((rd_T39 l0 x6_1).f0)) ∧ w'.cell? ⟨(ad555.add ((x6_1).toNat * 2)).block, (ad555.add ((x6_1).toNat * 2)).off + 1, none⟩ = some (.string ((rd_T39 l0 x6_1).f1))) (ds := []) #[ZZ,ZZ,ZZ,ZZ,ZZ,ZZ,ZZ,ZZ,ZZ,ZZ,ZZ,ZZ] (by kernel_rfl) rfl rfl ⟨((HB.out.cell (World.block_lt_of_cell? w _ hw555_0)).trans hw555_0), ((HB.out.cell (World.block_lt_of_cell? w _ hw555_1)).trans hw555_1), ((HB.out.cell (World.block_lt_of_cell? w _ hw556_0)).trans hw556_0), ((HB.out.cell (World.block_lt_of_cell? w _ hw556_1)).trans hw556_1)⟩ (fun hHeld => ?_); refine with_tabW delta_beside.tab7 delta_beside.bits7 (fun HT_ HW_ => ?_)
            generalize wc.drew = w20 at HO_5 BK552 HB hx555_0 hx555_1 hx556_0 hx556_1 hHeld ⊢
            refine pU_ 0 61 #[YY,ZZ,ZZ,ZZ,ZZ,ZZ,ZZ,ZZ,ZZ,ZZ,ZZ,ZZ] ?_
            refine pU_ 1 62 #[YY,YY,ZZ,ZZ,ZZ,ZZ,ZZ,ZZ,ZZ,ZZ,ZZ,ZZ] ?_
            refine pU_ 2 63 #[YY,YY,YY,ZZ,ZZ,ZZ,ZZ,ZZ,ZZ,ZZ,ZZ,ZZ] ?_
            refine pU_ 3 64 #[YY,YY,YY,YY,ZZ,ZZ,ZZ,ZZ,ZZ,ZZ,ZZ,ZZ] ?_
            refine pU_ 5 66 #[YY,YY,YY,YY,ZZ,YY,ZZ,ZZ,ZZ,ZZ,ZZ,ZZ] ?_
            refine pU_ 6 67 #[YY,YY,YY,YY,ZZ,YY,YY,ZZ,ZZ,ZZ,ZZ,ZZ] ?_
            refine pU_ 7 68 #[YY,YY,YY,YY,ZZ,YY,YY,YY,ZZ,ZZ,ZZ,ZZ] ?_
            refine pU_ 8 69 #[YY,YY,YY,YY,ZZ,YY,YY,YY,YY,ZZ,ZZ,ZZ] ?_
            refine take_ (i := 4) (N := some 65) (v := ?_) (a' := ?_) #[YY,YY,YY,YY,YY,YY,YY,YY,YY,ZZ,ZZ,ZZ] rfl rfl (take_ofW HT_.out HW_.out (by kernel_rfl)) (fun _ _ _ h => h) (Or.inl ⟨by rfl, ?_⟩) hHeld ?_ ?_
            rotate_left
            ·rintro w' ⟨s0, s1, s2, s3⟩
             go_simp
             with_reducible rfl
            rotate_left
            ·simp only [Act.put, sA1, sA2, sA3, i64_w, i32_w]
             rfl
            refine take_ (i := 9) (N := some 70) (v := ?_) (a' := ?_) #[YY,YY,YY,YY,YY,YY,YY,YY,YY,YY,ZZ,ZZ] rfl rfl (take_ofW HT_.out HW_.out (by kernel_rfl)) (fun _ _ _ h => h) (Or.inl ⟨by rfl, ?_⟩) hHeld ?_ ?_
            rotate_left
            ·rintro w' ⟨s0, s1, s2, s3⟩
             go_simp
             with_reducible rfl
            rotate_left
            ·simp only [Act.put, sA1, sA2, sA3, i64_w, i32_w]
             rfl
            refine pU_ 10 71 #[YY,YY,YY,YY,YY,YY,YY,YY,YY,YY,YY,ZZ] ?_
            refine one_ (i := 11) (N := none) #[YY,YY,YY,YY,YY,YY,YY,YY,YY,YY,YY,YY] rfl rfl (one_of HT_.out (by kernel_rfl)) (by decide) (fun K hK => ?_)
            have hs21 : w20.cell? ⟨gb552, 0, none⟩ = some (.string (⟨#[]⟩ : BA)) := (bC BK552.out 0).trans rfl
            have hfs21 := bF BK552.out 0
            have hs22 : w20.cell? ⟨gb552, 1, none⟩ = some (.string (⟨#[]⟩ : BA)) := (bC BK552.out 1).trans rfl
            have hfs22 := bF BK552.out 1
            have hs23 : w20.cell? ⟨gb552, 2, none⟩ = some (.string (⟨#[]⟩ : BA)) := (bC BK552.out 2).trans rfl
            have hfs23 := bF BK552.out 2
            have hs24 : w20.cell? ⟨gb552, 3, none⟩ = some (.bool false) := (bC BK552.out 3).trans rfl
            have hfs24 := bF BK552.out 3
            have hs25 : w20.cell? ⟨gb552, 4, none⟩ = some (.bool false) := (bC BK552.out 4).trans rfl
            have hfs25 := bF BK552.out 4
            refine skip_ (w1 := ?_) (by rfl) rfl ?_ ?_
            rotate_left
            ·go_simp
             rfl
            refine hK.out _ _ ⟨((cF (p := ⟨gb552, _, none⟩) (nB_ hw555_0 GW552.out) _).trans (((cF (p := ⟨gb552, _, none⟩) (nB_ hw555_0 GW552.out) _).trans (((cF (p := ⟨gb552, _, none⟩) (nB_ hw555_0 GW552.out) _).trans (((cF (p := ⟨gb552, _, none⟩) (nB_ hw555_0 GW552.out) _).trans (((cF (p := ⟨gb552, _, none⟩) (nB_ hw555_0 GW552.out) _).trans (hHeld.1)))))))))), ((cF (p := ⟨gb552, _, none⟩) (nB_ hw555_1 GW552.out) _).trans (((cF (p := ⟨gb552, _, none⟩) (nB_ hw555_1 GW552.out) _).trans (((cF (p := ⟨gb552, _, none⟩) (nB_ hw555_1 GW552.out) _).trans (((cF (p := ⟨gb552, _, none⟩) (nB_ hw555_1 GW552.out) _).trans (((cF (p := ⟨gb552, _, none⟩) (nB_ hw555_1 GW552.out) _).trans (hHeld.2.1)))))))))), ((cF (p := ⟨gb552, _, none⟩) (nB_ hw556_0 GW552.out) _).trans (((cF (p := ⟨gb552, _, none⟩) (nB_ hw556_0 GW552.out) _).trans (((cF (p := ⟨gb552, _, none⟩) (nB_ hw556_0 GW552.out) _).trans (((cF (p := ⟨gb552, _, none⟩) (nB_ hw556_0 GW552.out) _).trans (((cF (p := ⟨gb552, _, none⟩) (nB_ hw556_0 GW552.out) _).trans (hHeld.2.2.1)))))))))), ((cF (p := ⟨gb552, _, none⟩) (nB_ hw556_1 GW552.out) _).trans (((cF (p := ⟨gb552, _, none⟩) (nB_ hw556_1 GW552.out) _).trans (((cF (p := ⟨gb552, _, none⟩) (nB_ hw556_1 GW552.out) _).trans (((cF (p := ⟨gb552, _, none⟩) (nB_ hw556_1 GW552.out) _).trans (((cF (p := ⟨gb552, _, none⟩) (nB_ hw556_1 GW552.out) _).trans (hHeld.2.2.2))))))))))⟩ (fun hHeld => ?_)
            clear hK K
            refine done_ (done_of HT_.out (by kernel_rfl)) ?_
            have hcz26_0 := cz_ BK552.out 0
            have hcz26_1 := cz_ BK552.out 1
            have hcz26_2 := cz_ BK552.out 2
            have hcz26_3 := cz_ BK552.out 3
            have hcz26_4 := cz_ BK552.out 4
            have hfz26_0 := bF BK552.out 0
            have hfz26_1 := bF BK552.out 1
            have hfz26_2 := bF BK552.out 2
            have hfz26_3 := bF BK552.out 3
            have hfz26_4 := bF BK552.out 4
            try go_wp2_with (first | ((with_reducible refine gate_builtin (b := .append) (xs := #[.tmp 98, .tmp 100]) rfl ?_); (try (refine gate_guard (by rfl) ?_; dsimp only)); at_builtin; refine Kd.R_append k95 (w0 := w) w.heap.size rfl (.tmp 98) (.tmp 100) 92 95 (.agg #[(.string ⟨#[]⟩), (.string ⟨#[]⟩), (.string ⟨#[]⟩), (.bool false), (.bool false)]) 56 rfl Try.underlying92 info95 rfl (by decide) (by omega) u5 x5_1 (⟨(rd_T39 l0 x6_1).f0, (rd_T39 l0 x6_1).f1, (⟨#[]⟩ : BA), false, true⟩ : S95) [.string ((rd_T39 l0 x6_1).f0), .string ((rd_T39 l0 x6_1).f1), .string (⟨#[]⟩ : BA), .bool false, .bool true] (fun k_ => k_ ≠ gb552) (fun _ => False) rfl (by first | (go_simp; done) | (go_simp; rfl)) ?aP (fun _ hk => hk.elim) ?aF ?aO ?aB ?aS ?aL ?_; (case aP => exact k95_mkM _ _ _ (⟨(rd_T39 l0 x6_1).f0, (rd_T39 l0 x6_1).f1, (⟨#[]⟩ : BA), false, true⟩ : S95)); (case aB => exact (bS1_ GE552.out)); (case aF => exact (fun k_ hk => Kd.freshB (g := gb552) (o := .cells #[.string ((rd_T39 l0 x6_1).f0), .string ((rd_T39 l0 x6_1).f1), .string (⟨#[]⟩ : BA), .bool false, .bool true] 95 (0, 0)) (by (with_reducible repeat (first | refine bN ?_ _ | refine bD ?_ | refine bA ?_ _)); refine bP (cs := #[.string ((rd_T39 l0 x6_1).f0), .string ((rd_T39 l0 x6_1).f1), .string (⟨#[]⟩ : BA), .bool false, .bool false]) ?_ 4 _ rfl; (with_reducible repeat (first | refine bN ?_ _ | refine bD ?_ | refine bA ?_ _)); refine bP (cs := #[.string ((rd_T39 l0 x6_1).f0), .string ((rd_T39 l0 x6_1).f1), .string (⟨#[]⟩ : BA), .bool false, .bool false]) ?_ 3 _ rfl; (with_reducible repeat (first | refine bN ?_ _ | refine bD ?_ | refine bA ?_ _)); refine bP (cs := #[.string ((rd_T39 l0 x6_1).f0), .string ((rd_T39 l0 x6_1).f1), .string (⟨#[]⟩ : BA), .bool false, .bool false]) ?_ 2 _ rfl; (with_reducible repeat (first | refine bN ?_ _ | refine bD ?_ | refine bA ?_ _)); refine bP (cs := #[.string ((rd_T39 l0 x6_1).f0), .string (⟨#[]⟩ : BA), .string (⟨#[]⟩ : BA), .bool false, .bool false]) ?_ 1 _ rfl; (with_reducible repeat (first | refine bN ?_ _ | refine bD ?_ | refine bA ?_ _)); refine bP (cs := #[.string (⟨#[]⟩ : BA), .string (⟨#[]⟩ : BA), .string (⟨#[]⟩ : BA), .bool false, .bool false]) ?_ 0 _ rfl; (with_reducible repeat (first | refine bN ?_ _ | refine bD ?_ | refine bA ?_ _)); exact BK552.out) k_ hk)); (case aO => exact (by (with_reducible repeat (first | apply Kd.R_alloc | apply Kd.R_drewN | apply Kd.R_drew)); exact Kd.R_mono (Kd.R_far (p := ⟨gb552, 4, none⟩) (Kd.R_far (p := ⟨gb552, 3, none⟩) (Kd.R_far (p := ⟨gb552, 2, none⟩) (Kd.R_far (p := ⟨gb552, 1, none⟩) (Kd.R_far (p := ⟨gb552, 0, none⟩) (Kd.R_mono HO_5.out (fun k_ hk => (⟨hk, hk⟩ : _ ∧ k_ ≠ gb552))) (fun _ hk => hk.2) (.string ((rd_T39 l0 x6_1).f0))) (fun _ hk => hk.2) (.string ((rd_T39 l0 x6_1).f1))) (fun _ hk => hk.2) (.string (⟨#[]⟩ : BA))) (fun _ hk => hk.2) (.bool false)) (fun _ hk => hk.2) (.bool true)) (fun _ hk => hk.1))); (case aS => exact (wZ (bS1_ GE552.out))); (case aL => have := LMc19.out; omega); intro v558 w27 ho hb hg hat; rw [← Ny557.out] at ho; have n0_ := Aside0.mk (blk_grown (g := gb552) (o := .cells #[.string ((rd_T39 l0 x6_1).f0), .string ((rd_T39 l0 x6_1).f1), .string (⟨#[]⟩ : BA), .bool false, .bool true] 95 (0, 0)) (by (with_reducible repeat (first | refine bN ?_ _ | refine bD ?_ | refine bA ?_ _)); refine bP (cs := #[.string ((rd_T39 l0 x6_1).f0), .string ((rd_T39 l0 x6_1).f1), .string (⟨#[]⟩ : BA), .bool false, .bool false]) ?_ 4 _ rfl; (with_reducible repeat (first | refine bN ?_ _ | refine bD ?_ | refine bA ?_ _)); refine bP (cs := #[.string ((rd_T39 l0 x6_1).f0), .string ((rd_T39 l0 x6_1).f1), .string (⟨#[]⟩ : BA), .bool false, .bool false]) ?_ 3 _ rfl; (with_reducible repeat (first | refine bN ?_ _ | refine bD ?_ | refine bA ?_ _)); refine bP (cs := #[.string ((rd_T39 l0 x6_1).f0), .string ((rd_T39 l0 x6_1).f1), .string (⟨#[]⟩ : BA), .bool false, .bool false]) ?_ 2 _ rfl; (with_reducible repeat (first | refine bN ?_ _ | refine bD ?_ | refine bA ?_ _)); refine bP (cs := #[.string ((rd_T39 l0 x6_1).f0), .string (⟨#[]⟩ : BA), .string (⟨#[]⟩ : BA), .bool false, .bool false]) ?_ 1 _ rfl; (with_reducible repeat (first | refine bN ?_ _ | refine bD ?_ | refine bA ?_ _)); refine bP (cs := #[.string (⟨#[]⟩ : BA), .string (⟨#[]⟩ : BA), .string (⟨#[]⟩ : BA), .bool false, .bool false]) ?_ 0 _ rfl; (with_reducible repeat (first | refine bN ?_ _ | refine bD ?_ | refine bA ?_ _)); exact BK552.out) hg (Kd.R_away HO_5.out (fun _ hk => hk))); have n1_ := Aside0.mk (hb); have n2_ := Aside0.mk (ho); clear BK552; clear HB; clear HO_5; have BK552 := n0_; have HB := n1_; have HO559 := n2_; clear n0_ n1_ n2_; clear ho hb hg hat))
            go_roundg kj5
            case measure => have := HK1.out; have := HJ2.out; have := HJ5.out; omega
            case rel => exact ⟨(y557), (wrap64 (x6_1 + 1)), (x7_1), (by first | rfl | (simp; done) | (simp [*]; done)), (by first | rfl | (simp; done) | (simp [*]; done)), H', ⟨by have := HK1.out; have := HJ2.out; have := HJ5.out; omega⟩, ⟨by (with_reducible repeat (first | apply Kd.R_alloc | apply Kd.R_drewN | apply Kd.R_drew)); exact Kd.R_mono HO559.out (fun _ hk => trivial)⟩, ⟨by repeat (first | (with_reducible first | exact HB.out | apply wA | apply wN | apply w1 | refine wS ?_ GE552.out) | exact HB.out)⟩⟩
           ·rw [if_neg c19] at H
            exact absurd H (by simp)
          ·rw [if_neg c18] at H
           exact absurd H (by simp)
         ·rw [if_neg c17] at H
          exact absurd H (by simp)
        ·replace c16 := Bool.eq_false_iff.mpr c16
         subst c16
         have H1 : (if x6_1 < (l0.length : Int) then (if 0 ≤ x6_1 then (if 0 ≤ x7_1 then (if x7_1 < (l1.length : Int) then (if ((rd_T39 l0 x6_1).f0).toList = ((rd_T39 l1 x7_1).f0).toList then (if x5_1.length < 2513169434916 then (delta_beside.l0 kj5 l0 l1 (x5_1 ++ [(⟨(rd_T39 l1 x7_1).f0, (rd_T39 l0 x6_1).f1, (rd_T39 l1 x7_1).f1, true, true⟩ : S95)]) (wrap64 (x6_1 + 1)) (wrap64 (x7_1 + 1))) else (none)) else (if x5_1.length < 2513169434916 then (delta_beside.l0 kj5 l0 l1 (x5_1 ++ [(⟨(rd_T39 l1 x7_1).f0, (⟨#[]⟩ : BA), (rd_T39 l1 x7_1).f1, true, false⟩ : S95)]) x6_1 (wrap64 (x7_1 + 1))) else (none))) else (none)) else (none)) else (none)) else (if 0 ≤ x7_1 then (if x7_1 < (l1.length : Int) then (if x5_1.length < 2513169434916 then (delta_beside.l0 kj5 l0 l1 (x5_1 ++ [(⟨(rd_T39 l1 x7_1).f0, (⟨#[]⟩ : BA), (rd_T39 l1 x7_1).f1, true, false⟩ : S95)]) x6_1 (wrap64 (x7_1 + 1))) else (none)) else (none)) else (none))) = some r := by rw [if_neg (show ¬ (false = true) by decide)] at H; exact H
         clear H
         have H := H1
         clear H1
         by_cases c28 : x6_1 < (l0.length : Int)
         ·rw [if_pos c28] at H
          have c28b0 : decide (x6_1 < (l0.length : Int)) = true := decide_eq_true c28
          clear c28
          by_cases c29 : 0 ≤ x6_1
          ·rw [if_pos c29] at H
           have c29b0 : decide (0 ≤ x6_1) = true := decide_eq_true c29
           clear c29
           by_cases c30 : 0 ≤ x7_1
           ·rw [if_pos c30] at H
            have c30b0 : decide (0 ≤ x7_1) = true := decide_eq_true c30
            clear c30
            by_cases c31 : x7_1 < (l1.length : Int)
            ·rw [if_pos c31] at H
             have c31b0 : decide (x7_1 < (l1.length : Int)) = true := decide_eq_true c31
             clear c31
             by_cases c32 : ((rd_T39 l0 x6_1).f0).toList = ((rd_T39 l1 x7_1).f0).toList
             ·rw [if_pos c32] at H
              have c32b0 : (((rd_T39 l0 x6_1).f0).toList == ((rd_T39 l1 x7_1).f0).toList) = true := beq_iff_eq.mpr c32
              have c32b1 : (((rd_T39 l0 x6_1).f0).toList != ((rd_T39 l1 x7_1).f0).toList) = false := bne_eq_false_iff_eq.mpr c32
              clear c32
              by_cases c33 : x5_1.length < 2513169434916
              ·rw [if_pos c33] at H
               have LMc33 := Aside0.mk c33
               clear c33
               obtain ⟨y565, hy565⟩ : ∃ y_ : List (S95), y_ = (x5_1 ++ [(⟨(rd_T39 l1 x7_1).f0, (rd_T39 l0 x6_1).f1, (rd_T39 l1 x7_1).f1, true, true⟩ : S95)]) := ⟨_, rfl⟩
               replace H : (delta_beside.l0 kj5 l0 l1 y565 (wrap64 (x6_1 + 1)) (wrap64 (x7_1 + 1))) = some r := by first | (rw [hy565]; with_reducible exact H) | (have H2_ := (Option.bind_some _ _).symm.trans H; rw [hy565]; with_reducible exact H2_) | (have H2_ := (Option.bind_some _ _).symm.trans H; with_reducible exact H2_) | with_reducible exact H | (rw [hy565]; exact H) | exact H
               have Ny565 := Aside0.mk hy565
               clear hy565
               have H' := Aside0.mk H
               clear H
               try go_wp2
               have n0_ := Aside0.mk (Kd.R_drew HO_5.out)
               have n1_ := Aside0.mk (bD BK552.out)
               have n2_ := Aside0.mk (w1 HB.out)
               clear HO_5
               clear BK552
               clear HB
               have HO_5 := n0_
               have BK552 := n1_
               have HB := n2_
               clear n0_ n1_ n2_
               have p560 : 0 ≤ (x6_1 : Int) := of_decide_eq_true (by first | (with_reducible assumption) | assumption)
               have q560 : x6_1 < (l0.length : Int) := of_decide_eq_true (by first | (with_reducible assumption) | assumption)
               obtain ⟨ad560, e560, hx560_0, hx560_1⟩ := at_T39 HR0.out x6_1 p560 q560
               have hw560_1 := hx560_1
               have hw560_0 := hx560_0
               cases e560
               replace hx560_0 := (HB.out.cell (World.block_lt_of_cell? w _ hx560_0)).trans hx560_0
               replace hx560_1 := (HB.out.cell (World.block_lt_of_cell? w _ hx560_1)).trans hx560_1
               replace p560 := eq_true p560
               replace q560 := eq_true q560
               have p561 : 0 ≤ (x7_1 : Int) := of_decide_eq_true (by first | (with_reducible assumption) | assumption)
               have q561 : x7_1 < (l1.length : Int) := of_decide_eq_true (by first | (with_reducible assumption) | assumption)
               obtain ⟨ad561, e561, hx561_0, hx561_1⟩ := at_T39 HR1.out x7_1 p561 q561
               have hw561_1 := hx561_1
               have hw561_0 := hx561_0
               cases e561
               replace hx561_0 := (HB.out.cell (World.block_lt_of_cell? w _ hx561_0)).trans hx561_0
               replace hx561_1 := (HB.out.cell (World.block_lt_of_cell? w _ hx561_1)).trans hx561_1
               replace p561 := eq_true p561
               replace q561 := eq_true q561
               refine start_ (n := 18) (S := fun w' => w'.cell? (ad560.add ((x6_1).toNat * 2)) = some (.string ((rd_T39 l0 x6_1).f0)) ∧ w'.cell? ⟨(ad560.add ((x6_1).toNat * 2)).block, (ad560.add ((x6_1).toNat * 2)).off + 1, none⟩ = some (.string ((rd_T39 l0 x6_1).f1)) ∧ w'.cell? (ad561.add ((x7_1).toNat * 2)) = some (.string ((rd_T39 l1 x7_1).f0)) ∧ w'.cell? ⟨(ad561.add ((x7_1).toNat * 2)).block, (ad561.add ((x7_1).toNat * 2)).off + 1, none⟩ = some (.string ((rd_T39 l1 x7_1).f1))) (ds := []) #[ZZ,ZZ,ZZ,ZZ,ZZ,ZZ,ZZ,ZZ,ZZ,ZZ,ZZ,ZZ,ZZ,ZZ,ZZ,ZZ,ZZ,ZZ] (by kernel_rfl) rfl rfl ⟨((HB.out.cell (World.block_lt_of_cell? w _ hw560_0)).trans hw560_0), ((HB.out.cell (World.block_lt_of_cell? w _ hw560_1)).trans hw560_1), ((HB.out.cell (World.block_lt_of_cell? w _ hw561_0)).trans hw561_0), ((HB.out.cell (World.block_lt_of_cell? w _ hw561_1)).trans hw561_1)⟩ (fun hHeld => ?_); refine with_tabW delta_beside.tab6 delta_beside.bits6 (fun HT_ HW_ => ?_)
               generalize wc.drew = w34 at HO_5 BK552 HB hx560_0 hx560_1 hx561_0 hx561_1 hHeld ⊢
               refine pU_ 0 44 #[YY,ZZ,ZZ,ZZ,ZZ,ZZ,ZZ,ZZ,ZZ,ZZ,ZZ,ZZ,ZZ,ZZ,ZZ,ZZ,ZZ,ZZ] ?_
               refine pU_ 1 45 #[YY,YY,ZZ,ZZ,ZZ,ZZ,ZZ,ZZ,ZZ,ZZ,ZZ,ZZ,ZZ,ZZ,ZZ,ZZ,ZZ,ZZ] ?_
               refine pU_ 2 46 #[YY,YY,YY,ZZ,ZZ,ZZ,ZZ,ZZ,ZZ,ZZ,ZZ,ZZ,ZZ,ZZ,ZZ,ZZ,ZZ,ZZ] ?_
               refine pU_ 3 47 #[YY,YY,YY,YY,ZZ,ZZ,ZZ,ZZ,ZZ,ZZ,ZZ,ZZ,ZZ,ZZ,ZZ,ZZ,ZZ,ZZ] ?_
               refine pU_ 4 48 #[YY,YY,YY,YY,YY,ZZ,ZZ,ZZ,ZZ,ZZ,ZZ,ZZ,ZZ,ZZ,ZZ,ZZ,ZZ,ZZ] ?_
               refine pU_ 5 49 #[YY,YY,YY,YY,YY,YY,ZZ,ZZ,ZZ,ZZ,ZZ,ZZ,ZZ,ZZ,ZZ,ZZ,ZZ,ZZ] ?_
               refine pU_ 6 50 #[YY,YY,YY,YY,YY,YY,YY,ZZ,ZZ,ZZ,ZZ,ZZ,ZZ,ZZ,ZZ,ZZ,ZZ,ZZ] ?_
               refine pU_ 7 51 #[YY,YY,YY,YY,YY,YY,YY,YY,ZZ,ZZ,ZZ,ZZ,ZZ,ZZ,ZZ,ZZ,ZZ,ZZ] ?_
               refine pU_ 8 52 #[YY,YY,YY,YY,YY,YY,YY,YY,YY,ZZ,ZZ,ZZ,ZZ,ZZ,ZZ,ZZ,ZZ,ZZ] ?_
               refine pU_ 10 54 #[YY,YY,YY,YY,YY,YY,YY,YY,YY,ZZ,YY,ZZ,ZZ,ZZ,ZZ,ZZ,ZZ,ZZ] ?_
               refine pU_ 11 55 #[YY,YY,YY,YY,YY,YY,YY,YY,YY,ZZ,YY,YY,ZZ,ZZ,ZZ,ZZ,ZZ,ZZ] ?_
               refine pU_ 12 56 #[YY,YY,YY,YY,YY,YY,YY,YY,YY,ZZ,YY,YY,YY,ZZ,ZZ,ZZ,ZZ,ZZ] ?_
               refine pU_ 13 57 #[YY,YY,YY,YY,YY,YY,YY,YY,YY,ZZ,YY,YY,YY,YY,ZZ,ZZ,ZZ,ZZ] ?_
               refine take_ (i := 9) (N := some 53) (v := ?_) (a' := ?_) #[YY,YY,YY,YY,YY,YY,YY,YY,YY,YY,YY,YY,YY,YY,ZZ,ZZ,ZZ,ZZ] rfl rfl (take_ofW HT_.out HW_.out (by kernel_rfl)) (fun _ _ _ h => h) (Or.inl ⟨by rfl, ?_⟩) hHeld ?_ ?_
               rotate_left
               ·rintro w' ⟨s0, s1, s2, s3⟩
                go_simp
                with_reducible rfl
               rotate_left
               ·simp only [Act.put, sA1, sA2, sA3, i64_w, i32_w]
                rfl
               refine take_ (i := 14) (N := some 58) (v := ?_) (a' := ?_) #[YY,YY,YY,YY,YY,YY,YY,YY,YY,YY,YY,YY,YY,YY,YY,ZZ,ZZ,ZZ] rfl rfl (take_ofW HT_.out HW_.out (by kernel_rfl)) (fun _ _ _ h => h) (Or.inl ⟨by rfl, ?_⟩) hHeld ?_ ?_
               rotate_left
               ·rintro w' ⟨s0, s1, s2, s3⟩
                go_simp
                with_reducible rfl
               rotate_left
               ·simp only [Act.put, sA1, sA2, sA3, i64_w, i32_w]
                rfl
               refine pU_ 15 59 #[YY,YY,YY,YY,YY,YY,YY,YY,YY,YY,YY,YY,YY,YY,YY,YY,ZZ,ZZ] ?_
               refine pU_ 16 60 #[YY,YY,YY,YY,YY,YY,YY,YY,YY,YY,YY,YY,YY,YY,YY,YY,YY,ZZ] ?_
               refine pU_ 17 43 #[YY,YY,YY,YY,YY,YY,YY,YY,YY,YY,YY,YY,YY,YY,YY,YY,YY,YY] ?_
               refine done_ (done_of HT_.out (by kernel_rfl)) ?_
               have p562 : 0 ≤ (x6_1 : Int) := of_decide_eq_true (by first | (with_reducible assumption) | assumption)
               have q562 : x6_1 < (l0.length : Int) := of_decide_eq_true (by first | (with_reducible assumption) | assumption)
               obtain ⟨ad562, e562, hx562_0, hx562_1⟩ := at_T39 HR0.out x6_1 p562 q562
               obtain rfl : ad560 = ad562 := (by injection e562)
               replace hx562_0 := (HB.out.cell (World.block_lt_of_cell? w _ hx562_0)).trans hx562_0
               replace hx562_1 := (HB.out.cell (World.block_lt_of_cell? w _ hx562_1)).trans hx562_1
               replace p562 := eq_true p562
               replace q562 := eq_true q562
               have hcz35_0 := cz_ BK552.out 0
               have hcz35_1 := cz_ BK552.out 1
               have hcz35_2 := cz_ BK552.out 2
               have hcz35_3 := cz_ BK552.out 3
               have hcz35_4 := cz_ BK552.out 4
               have hfz35_0 := bF BK552.out 0
               have hfz35_1 := bF BK552.out 1
               have hfz35_2 := bF BK552.out 2
               have hfz35_3 := bF BK552.out 3
               have hfz35_4 := bF BK552.out 4
               try go_wp2
               have n0_ : Aside0 (Kd.R k95 95 ((w34.setCell ⟨gb552, 1, none⟩ (.string ((rd_T39 l0 x6_1).f1))).setCell ⟨gb552, 4, none⟩ (.bool true)) w.heap.size (fun k_ => k_ ≠ gb552) u5 x5_1) := ⟨by (with_reducible repeat (first | apply Kd.R_alloc | apply Kd.R_drewN | apply Kd.R_drew)); exact Kd.R_mono (Kd.R_far (p := ⟨gb552, 4, none⟩) (Kd.R_far (p := ⟨gb552, 1, none⟩) (Kd.R_mono HO_5.out (fun k_ hk => (⟨hk, hk⟩ : _ ∧ k_ ≠ gb552))) (fun _ hk => hk.2) (.string ((rd_T39 l0 x6_1).f1))) (fun _ hk => hk.2) (.bool true)) (fun _ hk => hk.1)⟩
               have n1_ : Aside0 (((w34.setCell ⟨gb552, 1, none⟩ (.string ((rd_T39 l0 x6_1).f1))).setCell ⟨gb552, 4, none⟩ (.bool true)).heap[gb552]? = some (.cells #[.string (⟨#[]⟩ : BA), .string ((rd_T39 l0 x6_1).f1), .string (⟨#[]⟩ : BA), .bool false, .bool true] 95 (0, 0))) := ⟨by (with_reducible repeat (first | refine bN ?_ _ | refine bD ?_ | refine bA ?_ _)); refine bP (cs := #[.string (⟨#[]⟩ : BA), .string ((rd_T39 l0 x6_1).f1), .string (⟨#[]⟩ : BA), .bool false, .bool false]) ?_ 4 _ rfl; (with_reducible repeat (first | refine bN ?_ _ | refine bD ?_ | refine bA ?_ _)); refine bP (cs := #[.string (⟨#[]⟩ : BA), .string (⟨#[]⟩ : BA), .string (⟨#[]⟩ : BA), .bool false, .bool false]) ?_ 1 _ rfl; (with_reducible repeat (first | refine bN ?_ _ | refine bD ?_ | refine bA ?_ _)); exact BK552.out⟩
               have n2_ : Aside0 (Below w.heap.size w ((w34.setCell ⟨gb552, 1, none⟩ (.string ((rd_T39 l0 x6_1).f1))).setCell ⟨gb552, 4, none⟩ (.bool true))) := ⟨by repeat (first | (with_reducible first | exact HB.out | apply wA | apply wN | apply w1 | refine wS ?_ GE552.out) | exact HB.out)⟩
               (try clear HO_5)
               (try clear BK552)
               (try clear HB)
               generalize ((w34.setCell ⟨gb552, 1, none⟩ (.string ((rd_T39 l0 x6_1).f1))).setCell ⟨gb552, 4, none⟩ (.bool true)) = w36 at n0_ n1_ n2_ ⊢
               have HO_5 := n0_
               have BK552 := n1_
               have HB := n2_
               clear n0_ n1_ n2_
               have n0_ := Aside0.mk (Kd.R_drew HO_5.out)
               have n1_ := Aside0.mk (bD BK552.out)
               have n2_ := Aside0.mk (w1 HB.out)
               clear HO_5
               clear BK552
               clear HB
               have HO_5 := n0_
               have BK552 := n1_
               have HB := n2_
               clear n0_ n1_ n2_
               have p563 : 0 ≤ (x7_1 : Int) := of_decide_eq_true (by first | (with_reducible assumption) | assumption)
               have q563 : x7_1 < (l1.length : Int) := of_decide_eq_true (by first | (with_reducible assumption) | assumption)
               obtain ⟨ad563, e563, hx563_0, hx563_1⟩ := at_T39 HR1.out x7_1 p563 q563
               have hw563_1 := hx563_1
               have hw563_0 := hx563_0
               obtain rfl : ad561 = ad563 := (by injection e563)
               replace hx563_0 := (HB.out.cell (World.block_lt_of_cell? w _ hx563_0)).trans hx563_0
               replace hx563_1 := (HB.out.cell (World.block_lt_of_cell? w _ hx563_1)).trans hx563_1
               replace p563 := eq_true p563
               replace q563 := eq_true q563
               have p564 : 0 ≤ (x7_1 : Int) := of_decide_eq_true (by first | (with_reducible assumption) | assumption)
               have q564 : x7_1 < (l1.length : Int) := of_decide_eq_true (by first | (with_reducible assumption) | assumption)
               obtain ⟨ad564, e564, hx564_0, hx564_1⟩ := at_T39 HR1.out x7_1 p564 q564
               have hw564_1 := hx564_1
               have hw564_0 := hx564_0
               obtain rfl : ad561 = ad564 := (by injection e564)
               replace hx564_0 := (HB.out.cell (World.block_lt_of_cell? w _ hx564_0)).trans hx564_0
               replace hx564_1 := (HB.out.cell (World.block_lt_of_cell? w _ hx564_1)).trans hx564_1
               replace p564 := eq_true p564
               replace q564 := eq_true q564
               refine start_ (n := 16) (S := fun w' => w'.cell? (ad561.add ((x7_1).toNat * 2)) = some (.string ((rd_T39 l1 x7_1).f0)) ∧ w'.cell? ⟨(ad561.add ((x7_1).toNat * 2)).block, (ad561.add ((x7_1).toNat * 2)).off + 1, none⟩ = some (.string ((rd_T39 l1 x7_1).f1)) ∧ w'.cell? (ad561.add ((x7_1).toNat * 2)) = some (.string ((rd_T39 l1 x7_1).f0)) ∧ w'.cell? ⟨(ad561.add ((x7_1).toNat * 2)).block, (ad561.add ((x7_1).toNat * 2)).off + 1, none⟩ = some (.string ((rd_T39 l1 x7_1).f1))) (ds := []) #[ZZ,ZZ,ZZ,ZZ,ZZ,ZZ,ZZ,ZZ,ZZ,ZZ,ZZ,ZZ,ZZ,ZZ,ZZ,ZZ] (by kernel_rfl) rfl rfl ⟨((HB.out.cell (World.block_lt_of_cell? w _ hw563_0)).trans hw563_0), ((HB.out.cell (World.block_lt_of_cell? w _ hw563_1)).trans hw563_1), ((HB.out.cell (World.block_lt_of_cell? w _ hw564_0)).trans hw564_0), ((HB.out.cell (World.block_lt_of_cell? w _ hw564_1)).trans hw564_1)⟩ (fun hHeld => ?_); refine with_tabW delta_beside.tab11 delta_beside.bits11 (fun HT_ HW_ => ?_)
               generalize w36.drew = w37 at HO_5 BK552 HB hx563_0 hx563_1 hx564_0 hx564_1 hHeld ⊢
               refine pU_ 0 83 #[YY,ZZ,ZZ,ZZ,ZZ,ZZ,ZZ,ZZ,ZZ,ZZ,ZZ,ZZ,ZZ,ZZ,ZZ,ZZ] ?_
               refine pU_ 1 84 #[YY,YY,ZZ,ZZ,ZZ,ZZ,ZZ,ZZ,ZZ,ZZ,ZZ,ZZ,ZZ,ZZ,ZZ,ZZ] ?_
               refine pU_ 2 85 #[YY,YY,YY,ZZ,ZZ,ZZ,ZZ,ZZ,ZZ,ZZ,ZZ,ZZ,ZZ,ZZ,ZZ,ZZ] ?_
               refine pU_ 3 86 #[YY,YY,YY,YY,ZZ,ZZ,ZZ,ZZ,ZZ,ZZ,ZZ,ZZ,ZZ,ZZ,ZZ,ZZ] ?_
               refine pU_ 5 88 #[YY,YY,YY,YY,ZZ,YY,ZZ,ZZ,ZZ,ZZ,ZZ,ZZ,ZZ,ZZ,ZZ,ZZ] ?_
               refine pU_ 6 89 #[YY,YY,YY,YY,ZZ,YY,YY,ZZ,ZZ,ZZ,ZZ,ZZ,ZZ,ZZ,ZZ,ZZ] ?_
               refine pU_ 7 90 #[YY,YY,YY,YY,ZZ,YY,YY,YY,ZZ,ZZ,ZZ,ZZ,ZZ,ZZ,ZZ,ZZ] ?_
               refine pU_ 8 91 #[YY,YY,YY,YY,ZZ,YY,YY,YY,YY,ZZ,ZZ,ZZ,ZZ,ZZ,ZZ,ZZ] ?_
               refine take_ (i := 4) (N := some 87) (v := ?_) (a' := ?_) #[YY,YY,YY,YY,YY,YY,YY,YY,YY,ZZ,ZZ,ZZ,ZZ,ZZ,ZZ,ZZ] rfl rfl (take_ofW HT_.out HW_.out (by kernel_rfl)) (fun _ _ _ h => h) (Or.inl ⟨by rfl, ?_⟩) hHeld ?_ ?_
               rotate_left
               ·rintro w' ⟨s0, s1, s2, s3⟩
                go_simp
                with_reducible rfl
               rotate_left
               ·simp only [Act.put, sA1, sA2, sA3, i64_w, i32_w]
                rfl
               refine pU_ 10 93 #[YY,YY,YY,YY,YY,YY,YY,YY,YY,ZZ,YY,ZZ,ZZ,ZZ,ZZ,ZZ] ?_
               refine take_ (i := 9) (N := some 92) (v := ?_) (a' := ?_) #[YY,YY,YY,YY,YY,YY,YY,YY,YY,YY,YY,ZZ,ZZ,ZZ,ZZ,ZZ] rfl rfl (take_ofW HT_.out HW_.out (by kernel_rfl)) (fun _ _ _ h => h) (Or.inl ⟨by rfl, ?_⟩) hHeld ?_ ?_
               rotate_left
               ·rintro w' ⟨s0, s1, s2, s3⟩
                go_simp
                with_reducible rfl
               rotate_left
               ·simp only [Act.put, sA1, sA2, sA3, i64_w, i32_w]
                rfl
               refine one_ (i := 11) (N := none) #[YY,YY,YY,YY,YY,YY,YY,YY,YY,YY,YY,YY,ZZ,ZZ,ZZ,ZZ] rfl rfl (one_of HT_.out (by kernel_rfl)) (by decide) (fun K hK => ?_)
               have hs38 : w37.cell? ⟨gb552, 0, none⟩ = some (.string (⟨#[]⟩ : BA)) := (bC BK552.out 0).trans rfl
               have hfs38 := bF BK552.out 0
               refine skip_ (w1 := ?_) (by rfl) rfl ?_ ?_
               rotate_left
               ·go_simp
                rfl
               refine hK.out _ _ ⟨((cF (p := ⟨gb552, _, none⟩) (nB_ hw563_0 GW552.out) _).trans (hHeld.1)), ((cF (p := ⟨gb552, _, none⟩) (nB_ hw563_1 GW552.out) _).trans (hHeld.2.1)), ((cF (p := ⟨gb552, _, none⟩) (nB_ hw564_0 GW552.out) _).trans (hHeld.2.2.1)), ((cF (p := ⟨gb552, _, none⟩) (nB_ hw564_1 GW552.out) _).trans (hHeld.2.2.2))⟩ (fun hHeld => ?_)
               clear hK K
               refine pU_ 12 94 #[YY,YY,YY,YY,YY,YY,YY,YY,YY,YY,YY,YY,YY,ZZ,ZZ,ZZ] ?_
               refine one_ (i := 13) (N := none) #[YY,YY,YY,YY,YY,YY,YY,YY,YY,YY,YY,YY,YY,YY,ZZ,ZZ] rfl rfl (one_of HT_.out (by kernel_rfl)) (by decide) (fun K hK => ?_)
               have hs39 : w37.cell? ⟨gb552, 2, none⟩ = some (.string (⟨#[]⟩ : BA)) := (bC BK552.out 2).trans rfl
               have hfs39 := bF BK552.out 2
               refine skip_ (w1 := ?_) (by rfl) rfl ?_ ?_
               rotate_left
               ·go_simp
                rfl
               refine hK.out _ _ ⟨((cF (p := ⟨gb552, _, none⟩) (nB_ hw563_0 GW552.out) _).trans (hHeld.1)), ((cF (p := ⟨gb552, _, none⟩) (nB_ hw563_1 GW552.out) _).trans (hHeld.2.1)), ((cF (p := ⟨gb552, _, none⟩) (nB_ hw564_0 GW552.out) _).trans (hHeld.2.2.1)), ((cF (p := ⟨gb552, _, none⟩) (nB_ hw564_1 GW552.out) _).trans (hHeld.2.2.2))⟩ (fun hHeld => ?_)
               clear hK K
               refine pU_ 14 95 #[YY,YY,YY,YY,YY,YY,YY,YY,YY,YY,YY,YY,YY,YY,YY,ZZ] ?_
               refine one_ (i := 15) (N := none) #[YY,YY,YY,YY,YY,YY,YY,YY,YY,YY,YY,YY,YY,YY,YY,YY] rfl rfl (one_of HT_.out (by kernel_rfl)) (by decide) (fun K hK => ?_)
               have hs40 : w37.cell? ⟨gb552, 3, none⟩ = some (.bool false) := (bC BK552.out 3).trans rfl
               have hfs40 := bF BK552.out 3
               refine skip_ (w1 := ?_) (by rfl) rfl ?_ ?_
               rotate_left
               ·go_simp
                rfl
               refine hK.out _ _ ⟨((cF (p := ⟨gb552, _, none⟩) (nB_ hw563_0 GW552.out) _).trans (hHeld.1)), ((cF (p := ⟨gb552, _, none⟩) (nB_ hw563_1 GW552.out) _).trans (hHeld.2.1)), ((cF (p := ⟨gb552, _, none⟩) (nB_ hw564_0 GW552.out) _).trans (hHeld.2.2.1)), ((cF (p := ⟨gb552, _, none⟩) (nB_ hw564_1 GW552.out) _).trans (hHeld.2.2.2))⟩ (fun hHeld => ?_)
               clear hK K
               refine done_ (done_of HT_.out (by kernel_rfl)) ?_
               have hcz41_0 := cz_ BK552.out 0
               have hcz41_1 := cz_ BK552.out 1
               have hcz41_2 := cz_ BK552.out 2
               have hcz41_3 := cz_ BK552.out 3
               have hcz41_4 := cz_ BK552.out 4
               have hfz41_0 := bF BK552.out 0
               have hfz41_1 := bF BK552.out 1
               have hfz41_2 := bF BK552.out 2
               have hfz41_3 := bF BK552.out 3
               have hfz41_4 := bF BK552.out 4
               try go_wp2_with (first | ((with_reducible refine gate_builtin (b := .append) (xs := #[.tmp 98, .tmp 100]) rfl ?_); (try (refine gate_guard (by rfl) ?_; dsimp only)); at_builtin; refine Kd.R_append k95 (w0 := w) w.heap.size rfl (.tmp 98) (.tmp 100) 92 95 (.agg #[(.string ⟨#[]⟩), (.string ⟨#[]⟩), (.string ⟨#[]⟩), (.bool false), (.bool false)]) 56 rfl Try.underlying92 info95 rfl (by decide) (by omega) u5 x5_1 (⟨(rd_T39 l1 x7_1).f0, (rd_T39 l0 x6_1).f1, (rd_T39 l1 x7_1).f1, true, true⟩ : S95) [.string ((rd_T39 l1 x7_1).f0), .string ((rd_T39 l0 x6_1).f1), .string ((rd_T39 l1 x7_1).f1), .bool true, .bool true] (fun k_ => k_ ≠ gb552) (fun _ => False) rfl (by first | (go_simp; done) | (go_simp; rfl)) ?aP (fun _ hk => hk.elim) ?aF ?aO ?aB ?aS ?aL ?_; (case aP => exact k95_mkM _ _ _ (⟨(rd_T39 l1 x7_1).f0, (rd_T39 l0 x6_1).f1, (rd_T39 l1 x7_1).f1, true, true⟩ : S95)); (case aB => exact (bS1_ GE552.out)); (case aF => exact (fun k_ hk => Kd.freshB (g := gb552) (o := .cells #[.string ((rd_T39 l1 x7_1).f0), .string ((rd_T39 l0 x6_1).f1), .string ((rd_T39 l1 x7_1).f1), .bool true, .bool true] 95 (0, 0)) (by (with_reducible repeat (first | refine bN ?_ _ | refine bD ?_ | refine bA ?_ _)); refine bP (cs := #[.string ((rd_T39 l1 x7_1).f0), .string ((rd_T39 l0 x6_1).f1), .string ((rd_T39 l1 x7_1).f1), .bool false, .bool true]) ?_ 3 _ rfl; (with_reducible repeat (first | refine bN ?_ _ | refine bD ?_ | refine bA ?_ _)); refine bP (cs := #[.string ((rd_T39 l1 x7_1).f0), .string ((rd_T39 l0 x6_1).f1), .string (⟨#[]⟩ : BA), .bool false, .bool true]) ?_ 2 _ rfl; (with_reducible repeat (first | refine bN ?_ _ | refine bD ?_ | refine bA ?_ _)); refine bP (cs := #[.string (⟨#[]⟩ : BA), .string ((rd_T39 l0 x6_1).f1), .string (⟨#[]⟩ : BA), .bool false, .bool true]) ?_ 0 _ rfl; (with_reducible repeat (first | refine bN ?_ _ | refine bD ?_ | refine bA ?_ _)); exact BK552.out) k_ hk)); (case aO => exact (by (with_reducible repeat (first | apply Kd.R_alloc | apply Kd.R_drewN | apply Kd.R_drew)); exact Kd.R_mono (Kd.R_far (p := ⟨gb552, 3, none⟩) (Kd.R_far (p := ⟨gb552, 2, none⟩) (Kd.R_far (p := ⟨gb552, 0, none⟩) (Kd.R_mono HO_5.out (fun k_ hk => (⟨hk, hk⟩ : _ ∧ k_ ≠ gb552))) (fun _ hk => hk.2) (.string ((rd_T39 l1 x7_1).f0))) (fun _ hk => hk.2) (.string ((rd_T39 l1 x7_1).f1))) (fun _ hk => hk.2) (.bool true)) (fun _ hk => hk.1))); (case aS => exact (wZ (bS1_ GE552.out))); (case aL => have := LMc33.out; omega); intro v566 w42 ho hb hg hat; rw [← Ny565.out] at ho; have n0_ := Aside0.mk (blk_grown (g := gb552) (o := .cells #[.string ((rd_T39 l1 x7_1).f0), .string ((rd_T39 l0 x6_1).f1), .string ((rd_T39 l1 x7_1).f1), .bool true, .bool true] 95 (0, 0)) (by (with_reducible repeat (first | refine bN ?_ _ | refine bD ?_ | refine bA ?_ _)); refine bP (cs := #[.string ((rd_T39 l1 x7_1).f0), .string ((rd_T39 l0 x6_1).f1), .string ((rd_T39 l1 x7_1).f1), .bool false, .bool true]) ?_ 3 _ rfl; (with_reducible repeat (first | refine bN ?_ _ | refine bD ?_ | refine bA ?_ _)); refine bP (cs := #[.string ((rd_T39 l1 x7_1).f0), .string ((rd_T39 l0 x6_1).f1), .string (⟨#[]⟩ : BA), .bool false, .bool true]) ?_ 2 _ rfl; (with_reducible repeat (first | refine bN ?_ _ | refine bD ?_ | refine bA ?_ _)); refine bP (cs := #[.string (⟨#[]⟩ : BA), .string ((rd_T39 l0 x6_1).f1), .string (⟨#[]⟩ : BA), .bool false, .bool true]) ?_ 0 _ rfl; (with_reducible repeat (first | refine bN ?_ _ | refine bD ?_ | refine bA ?_ _)); exact BK552.out) hg (Kd.R_away HO_5.out (fun _ hk => hk))); have n1_ := Aside0.mk (hb); have n2_ := Aside0.mk (ho); clear BK552; clear HB; clear HO_5; have BK552 := n0_; have HB := n1_; have HO567 := n2_; clear n0_ n1_ n2_; clear ho hb hg hat))
               go_roundg kj5
               case measure => have := HK1.out; have := HJ2.out; have := HJ5.out; omega
               case rel => exact ⟨(y565), (wrap64 (x6_1 + 1)), (wrap64 (x7_1 + 1)), (by first | rfl | (simp; done) | (simp [*]; done)), (by first | rfl | (simp; done) | (simp [*]; done)), H', ⟨by have := HK1.out; have := HJ2.out; have := HJ5.out; omega⟩, ⟨by (with_reducible repeat (first | apply Kd.R_alloc | apply Kd.R_drewN | apply Kd.R_drew)); exact Kd.R_mono HO567.out (fun _ hk => trivial)⟩, ⟨by repeat (first | (with_reducible first | exact HB.out | apply wA | apply wN | apply w1 | refine wS ?_ GE552.out) | exact HB.out)⟩⟩
              ·rw [if_neg c33] at H
               exact absurd H (by simp)
             ·rw [if_neg c32] at H
              have c32b0 : (((rd_T39 l0 x6_1).f0).toList == ((rd_T39 l1 x7_1).f0).toList) = false := beq_eq_false_iff_ne.mpr c32
              have c32b1 : (((rd_T39 l0 x6_1).f0).toList != ((rd_T39 l1 x7_1).f0).toList) = true := bne_iff_ne.mpr c32
              by_cases c43 : x5_1.length < 2513169434916
              ·rw [if_pos c43] at H
               have LMc43 := Aside0.mk c43
               clear c43
               obtain ⟨y570, hy570⟩ : ∃ y_ : List (S95), y_ = (x5_1 ++ [(⟨(rd_T39 l1 x7_1).f0, (⟨#[]⟩ : BA), (rd_T39 l1 x7_1).f1, true, false⟩ : S95)]) := ⟨_, rfl⟩
               replace H : (delta_beside.l0 kj5 l0 l1 y570 x6_1 (wrap64 (x7_1 + 1))) = some r := by first | (rw [hy570]; with_reducible exact H) | (have H2_ := (Option.bind_some _ _).symm.trans H; rw [hy570]; with_reducible exact H2_) | (have H2_ := (Option.bind_some _ _).symm.trans H; with_reducible exact H2_) | with_reducible exact H | (rw [hy570]; exact H) | exact H
               have Ny570 := Aside0.mk hy570
               clear hy570
               have H' := Aside0.mk H
               clear H
               try go_wp2
               have n0_ := Aside0.mk (Kd.R_drew HO_5.out)
               have n1_ := Aside0.mk (bD BK552.out)
               have n2_ := Aside0.mk (w1 HB.out)
               clear HO_5
               clear BK552
               clear HB
               have HO_5 := n0_
               have BK552 := n1_
               have HB := n2_
               clear n0_ n1_ n2_
               have p560 : 0 ≤ (x6_1 : Int) := of_decide_eq_true (by first | (with_reducible assumption) | assumption)
               have q560 : x6_1 < (l0.length : Int) := of_decide_eq_true (by first | (with_reducible assumption) | assumption)
               obtain ⟨ad560, e560, hx560_0, hx560_1⟩ := at_T39 HR0.out x6_1 p560 q560
               have hw560_1 := hx560_1
               have hw560_0 := hx560_0
               cases e560
               replace hx560_0 := (HB.out.cell (World.block_lt_of_cell? w _ hx560_0)).trans hx560_0
               replace hx560_1 := (HB.out.cell (World.block_lt_of_cell? w _ hx560_1)).trans hx560_1
               replace p560 := eq_true p560
               replace q560 := eq_true q560
               have p561 : 0 ≤ (x7_1 : Int) := of_decide_eq_true (by first | (with_reducible assumption) | assumption)
               have q561 : x7_1 < (l1.length : Int) := of_decide_eq_true (by first | (with_reducible assumption) | assumption)
               obtain ⟨ad561, e561, hx561_0, hx561_1⟩ := at_T39 HR1.out x7_1 p561 q561
               have hw561_1 := hx561_1
               have hw561_0 := hx561_0
               cases e561
               replace hx561_0 := (HB.out.cell (World.block_lt_of_cell? w _ hx561_0)).trans hx561_0
               replace hx561_1 := (HB.out.cell (World.block_lt_of_cell? w _ hx561_1)).trans hx561_1
               replace p561 := eq_true p561
               replace q561 := eq_true q561
               refine start_ (n := 18) (S := fun w' => w'.cell? (ad560.add ((x6_1).toNat * 2)) = some (.string ((rd_T39 l0 x6_1).f0)) ∧ w'.cell? ⟨(ad560.add ((x6_1).toNat * 2)).block, (ad560.add ((x6_1).toNat * 2)).off + 1, none⟩ = some (.string ((rd_T39 l0 x6_1).f1)) ∧ w'.cell? (ad561.add ((x7_1).toNat * 2)) = some (.string ((rd_T39 l1 x7_1).f0)) ∧ w'.cell? ⟨(ad561.add ((x7_1).toNat * 2)).block, (ad561.add ((x7_1).toNat * 2)).off + 1, none⟩ = some (.string ((rd_T39 l1 x7_1).f1))) (ds := []) #[ZZ,ZZ,ZZ,ZZ,ZZ,ZZ,ZZ,ZZ,ZZ,ZZ,ZZ,ZZ,ZZ,ZZ,ZZ,ZZ,ZZ,ZZ] (by kernel_rfl) rfl rfl ⟨((HB.out.cell (World.block_lt_of_cell? w _ hw560_0)).trans hw560_0), ((HB.out.cell (World.block_lt_of_cell? w _ hw560_1)).trans hw560_1), ((HB.out.cell (World.block_lt_of_cell? w _ hw561_0)).trans hw561_0), ((HB.out.cell (World.block_lt_of_cell? w _ hw561_1)).trans hw561_1)⟩ (fun hHeld => ?_); refine with_tabW delta_beside.tab6 delta_beside.bits6 (fun HT_ HW_ => ?_)
               generalize wc.drew = w44 at HO_5 BK552 HB hx560_0 hx560_1 hx561_0 hx561_1 hHeld ⊢
               refine pU_ 0 44 #[YY,ZZ,ZZ,ZZ,ZZ,ZZ,ZZ,ZZ,ZZ,ZZ,ZZ,ZZ,ZZ,ZZ,ZZ,ZZ,ZZ,ZZ] ?_
               refine pU_ 1 45 #[YY,YY,ZZ,ZZ,ZZ,ZZ,ZZ,ZZ,ZZ,ZZ,ZZ,ZZ,ZZ,ZZ,ZZ,ZZ,ZZ,ZZ] ?_
               refine pU_ 2 46 #[YY,YY,YY,ZZ,ZZ,ZZ,ZZ,ZZ,ZZ,ZZ,ZZ,ZZ,ZZ,ZZ,ZZ,ZZ,ZZ,ZZ] ?_
               refine pU_ 3 47 #[YY,YY,YY,YY,ZZ,ZZ,ZZ,ZZ,ZZ,ZZ,ZZ,ZZ,ZZ,ZZ,ZZ,ZZ,ZZ,ZZ] ?_
               refine pU_ 4 48 #[YY,YY,YY,YY,YY,ZZ,ZZ,ZZ,ZZ,ZZ,ZZ,ZZ,ZZ,ZZ,ZZ,ZZ,ZZ,ZZ] ?_
               refine pU_ 5 49 #[YY,YY,YY,YY,YY,YY,ZZ,ZZ,ZZ,ZZ,ZZ,ZZ,ZZ,ZZ,ZZ,ZZ,ZZ,ZZ] ?_
               refine pU_ 6 50 #[YY,YY,YY,YY,YY,YY,YY,ZZ,ZZ,ZZ,ZZ,ZZ,ZZ,ZZ,ZZ,ZZ,ZZ,ZZ] ?_
               refine pU_ 7 51 #[YY,YY,YY,YY,YY,YY,YY,YY,ZZ,ZZ,ZZ,ZZ,ZZ,ZZ,ZZ,ZZ,ZZ,ZZ] ?_
               refine pU_ 8 52 #[YY,YY,YY,YY,YY,YY,YY,YY,YY,ZZ,ZZ,ZZ,ZZ,ZZ,ZZ,ZZ,ZZ,ZZ] ?_
               refine pU_ 10 54 #[YY,YY,YY,YY,YY,YY,YY,YY,YY,ZZ,YY,ZZ,ZZ,ZZ,ZZ,ZZ,ZZ,ZZ] ?_
               refine pU_ 11 55 #[YY,YY,YY,YY,YY,YY,YY,YY,YY,ZZ,YY,YY,ZZ,ZZ,ZZ,ZZ,ZZ,ZZ] ?_
               refine pU_ 12 56 #[YY,YY,YY,YY,YY,YY,YY,YY,YY,ZZ,YY,YY,YY,ZZ,ZZ,ZZ,ZZ,ZZ] ?_
               refine pU_ 13 57 #[YY,YY,YY,YY,YY,YY,YY,YY,YY,ZZ,YY,YY,YY,YY,ZZ,ZZ,ZZ,ZZ] ?_
               refine take_ (i := 9) (N := some 53) (v := ?_) (a' := ?_) #[YY,YY,YY,YY,YY,YY,YY,YY,YY,YY,YY,YY,YY,YY,ZZ,ZZ,ZZ,ZZ] rfl rfl (take_ofW HT_.out HW_.out (by kernel_rfl)) (fun _ _ _ h => h) (Or.inl ⟨by rfl, ?_⟩) hHeld ?_ ?_
               rotate_left
               ·rintro w' ⟨s0, s1, s2, s3⟩
                go_simp
                with_reducible rfl
               rotate_left
               ·simp only [Act.put, sA1, sA2, sA3, i64_w, i32_w]
                rfl
               refine take_ (i := 14) (N := some 58) (v := ?_) (a' := ?_) #[YY,YY,YY,YY,YY,YY,YY,YY,YY,YY,YY,YY,YY,YY,YY,ZZ,ZZ,ZZ] rfl rfl (take_ofW HT_.out HW_.out (by kernel_rfl)) (fun _ _ _ h => h) (Or.inl ⟨by rfl, ?_⟩) hHeld ?_ ?_
               rotate_left
               ·rintro w' ⟨s0, s1, s2, s3⟩
                go_simp
                with_reducible rfl
               rotate_left
               ·simp only [Act.put, sA1, sA2, sA3, i64_w, i32_w]
                rfl
               refine pU_ 15 59 #[YY,YY,YY,YY,YY,YY,YY,YY,YY,YY,YY,YY,YY,YY,YY,YY,ZZ,ZZ] ?_
               refine pU_ 16 60 #[YY,YY,YY,YY,YY,YY,YY,YY,YY,YY,YY,YY,YY,YY,YY,YY,YY,ZZ] ?_
               refine pU_ 17 43 #[YY,YY,YY,YY,YY,YY,YY,YY,YY,YY,YY,YY,YY,YY,YY,YY,YY,YY] ?_
               refine done_ (done_of HT_.out (by kernel_rfl)) ?_
               try go_wp2
               have n0_ := Aside0.mk (Kd.R_drew HO_5.out)
               have n1_ := Aside0.mk (bD BK552.out)
               have n2_ := Aside0.mk (w1 HB.out)
               clear HO_5
               clear BK552
               clear HB
               have HO_5 := n0_
               have BK552 := n1_
               have HB := n2_
               clear n0_ n1_ n2_
               have p568 : 0 ≤ (x7_1 : Int) := of_decide_eq_true (by first | (with_reducible assumption) | assumption)
               have q568 : x7_1 < (l1.length : Int) := of_decide_eq_true (by first | (with_reducible assumption) | assumption)
               obtain ⟨ad568, e568, hx568_0, hx568_1⟩ := at_T39 HR1.out x7_1 p568 q568
               have hw568_1 := hx568_1
               have hw568_0 := hx568_0
               obtain rfl : ad561 = ad568 := (by injection e568)
               replace hx568_0 := (HB.out.cell (World.block_lt_of_cell? w _ hx568_0)).trans hx568_0
               replace hx568_1 := (HB.out.cell (World.block_lt_of_cell? w _ hx568_1)).trans hx568_1
               replace p568 := eq_true p568
               replace q568 := eq_true q568
               have p569 : 0 ≤ (x7_1 : Int) := of_decide_eq_true (by first | (with_reducible assumption) | assumption)
               have q569 : x7_1 < (l1.length : Int) := of_decide_eq_true (by first | (with_reducible assumption) | assumption)
               obtain ⟨ad569, e569, hx569_0, hx569_1⟩ := at_T39 HR1.out x7_1 p569 q569
               have hw569_1 := hx569_1
               have hw569_0 := hx569_0
               obtain rfl : ad561 = ad569 := (by injection e569)
               replace hx569_0 := (HB.out.cell (World.block_lt_of_cell? w _ hx569_0)).trans hx569_0
               replace hx569_1 := (HB.out.cell (World.block_lt_of_cell? w _ hx569_1)).trans hx569_1
               replace p569 := eq_true p569
               replace q569 := eq_true q569
               refine start_ (n := 16) (S := fun w' => w'.cell? (ad561.add ((x7_1).toNat * 2)) = some (.string ((rd_T39 l1 x7_1).f0)) ∧ w'.cell? ⟨(ad561.add ((x7_1).toNat * 2)).block, (ad561.add ((x7_1).toNat * 2)).off + 1, none⟩ = some (.string ((rd_T39 l1 x7_1).f1)) ∧ w'.cell? (ad561.add ((x7_1).toNat * 2)) = some (.string ((rd_T39 l1 x7_1).f0)) ∧ w'.cell? ⟨(ad561.add ((x7_1).toNat * 2)).block, (ad561.add ((x7_1).toNat * 2)).off + 1, none⟩ = some (.string ((rd_T39 l1 x7_1).f1))) (ds := []) #[ZZ,ZZ,ZZ,ZZ,ZZ,ZZ,ZZ,ZZ,ZZ,ZZ,ZZ,ZZ,ZZ,ZZ,ZZ,ZZ] (by kernel_rfl) rfl rfl ⟨((HB.out.cell (World.block_lt_of_cell? w _ hw568_0)).trans hw568_0), ((HB.out.cell (World.block_lt_of_cell? w _ hw568_1)).trans hw568_1), ((HB.out.cell (World.block_lt_of_cell? w _ hw569_0)).trans hw569_0), ((HB.out.cell (World.block_lt_of_cell? w _ hw569_1)).trans hw569_1)⟩ (fun hHeld => ?_); refine with_tabW delta_beside.tab11 delta_beside.bits11 (fun HT_ HW_ => ?_)
               generalize w44.drew = w45 at HO_5 BK552 HB hx568_0 hx568_1 hx569_0 hx569_1 hHeld ⊢
               refine pU_ 0 83 #[YY,ZZ,ZZ,ZZ,ZZ,ZZ,ZZ,ZZ,ZZ,ZZ,ZZ,ZZ,ZZ,ZZ,ZZ,ZZ] ?_
               refine pU_ 1 84 #[YY,YY,ZZ,ZZ,ZZ,ZZ,ZZ,ZZ,ZZ,ZZ,ZZ,ZZ,ZZ,ZZ,ZZ,ZZ] ?_
               refine pU_ 2 85 #[YY,YY,YY,ZZ,ZZ,ZZ,ZZ,ZZ,ZZ,ZZ,ZZ,ZZ,ZZ,ZZ,ZZ,ZZ] ?_
               refine pU_ 3 86 #[YY,YY,YY,YY,ZZ,ZZ,ZZ,ZZ,ZZ,ZZ,ZZ,ZZ,ZZ,ZZ,ZZ,ZZ] ?_
               refine pU_ 5 88 #[YY,YY,YY,YY,ZZ,YY,ZZ,ZZ,ZZ,ZZ,ZZ,ZZ,ZZ,ZZ,ZZ,ZZ] ?_
               refine pU_ 6 89 #[YY,YY,YY,YY,ZZ,YY,YY,ZZ,ZZ,ZZ,ZZ,ZZ,ZZ,ZZ,ZZ,ZZ] ?_
               refine pU_ 7 90 #[YY,YY,YY,YY,ZZ,YY,YY,YY,ZZ,ZZ,ZZ,ZZ,ZZ,ZZ,ZZ,ZZ] ?_
               refine pU_ 8 91 #[YY,YY,YY,YY,ZZ,YY,YY,YY,YY,ZZ,ZZ,ZZ,ZZ,ZZ,ZZ,ZZ] ?_
               refine take_ (i := 4) (N := some 87) (v := ?_) (a' := ?_) #[YY,YY,YY,YY,YY,YY,YY,YY,YY,ZZ,ZZ,ZZ,ZZ,ZZ,ZZ,ZZ] rfl rfl (take_ofW HT_.out HW_.out (by kernel_rfl)) (fun _ _ _ h => h) (Or.inl ⟨by rfl, ?_⟩) hHeld ?_ ?_
               rotate_left
               ·rintro w' ⟨s0, s1, s2, s3⟩
                go_simp
                with_reducible rfl
               rotate_left
               ·simp only [Act.put, sA1, sA2, sA3, i64_w, i32_w]
                rfl
               refine pU_ 10 93 #[YY,YY,YY,YY,YY,YY,YY,YY,YY,ZZ,YY,ZZ,ZZ,ZZ,ZZ,ZZ] ?_
               refine take_ (i := 9) (N := some 92) (v := ?_) (a' := ?_) #[YY,YY,YY,YY,YY,YY,YY,YY,YY,YY,YY,ZZ,ZZ,ZZ,ZZ,ZZ] rfl rfl (take_ofW HT_.out HW_.out (by kernel_rfl)) (fun _ _ _ h => h) (Or.inl ⟨by rfl, ?_⟩) hHeld ?_ ?_
               rotate_left
               ·rintro w' ⟨s0, s1, s2, s3⟩
                go_simp
                with_reducible rfl
               rotate_left
               ·simp only [Act.put, sA1, sA2, sA3, i64_w, i32_w]
                rfl
               refine one_ (i := 11) (N := none) #[YY,YY,YY,YY,YY,YY,YY,YY,YY,YY,YY,YY,ZZ,ZZ,ZZ,ZZ] rfl rfl (one_of HT_.out (by kernel_rfl)) (by decide) (fun K hK => ?_)
               have hs46 : w45.cell? ⟨gb552, 0, none⟩ = some (.string (⟨#[]⟩ : BA)) := (bC BK552.out 0).trans rfl
               have hfs46 := bF BK552.out 0
               refine skip_ (w1 := ?_) (by rfl) rfl ?_ ?_
               rotate_left
               ·go_simp
                rfl
               refine hK.out _ _ ⟨((cF (p := ⟨gb552, _, none⟩) (nB_ hw568_0 GW552.out) _).trans (hHeld.1)), ((cF (p := ⟨gb552, _, none⟩) (nB_ hw568_1 GW552.out) _).trans (hHeld.2.1)), ((cF (p := ⟨gb552, _, none⟩) (nB_ hw569_0 GW552.out) _).trans (hHeld.2.2.1)), ((cF (p := ⟨gb552, _, none⟩) (nB_ hw569_1 GW552.out) _).trans (hHeld.2.2.2))⟩ (fun hHeld => ?_)
               clear hK K
               refine pU_ 12 94 #[YY,YY,YY,YY,YY,YY,YY,YY,YY,YY,YY,YY,YY,ZZ,ZZ,ZZ] ?_
               refine one_ (i := 13) (N := none) #[YY,YY,YY,YY,YY,YY,YY,YY,YY,YY,YY,YY,YY,YY,ZZ,ZZ] rfl rfl (one_of HT_.out (by kernel_rfl)) (by decide) (fun K hK => ?_)
               have hs47 : w45.cell? ⟨gb552, 2, none⟩ = some (.string (⟨#[]⟩ : BA)) := (bC BK552.out 2).trans rfl
               have hfs47 := bF BK552.out 2
               refine skip_ (w1 := ?_) (by rfl) rfl ?_ ?_
               rotate_left
               ·go_simp
                rfl
               refine hK.out _ _ ⟨((cF (p := ⟨gb552, _, none⟩) (nB_ hw568_0 GW552.out) _).trans (hHeld.1)), ((cF (p := ⟨gb552, _, none⟩) (nB_ hw568_1 GW552.out) _).trans (hHeld.2.1)), ((cF (p := ⟨gb552, _, none⟩) (nB_ hw569_0 GW552.out) _).trans (hHeld.2.2.1)), ((cF (p := ⟨gb552, _, none⟩) (nB_ hw569_1 GW552.out) _).trans (hHeld.2.2.2))⟩ (fun hHeld => ?_)
               clear hK K
               refine pU_ 14 95 #[YY,YY,YY,YY,YY,YY,YY,YY,YY,YY,YY,YY,YY,YY,YY,ZZ] ?_
               refine one_ (i := 15) (N := none) #[YY,YY,YY,YY,YY,YY,YY,YY,YY,YY,YY,YY,YY,YY,YY,YY] rfl rfl (one_of HT_.out (by kernel_rfl)) (by decide) (fun K hK => ?_)
               have hs48 : w45.cell? ⟨gb552, 3, none⟩ = some (.bool false) := (bC BK552.out 3).trans rfl
               have hfs48 := bF BK552.out 3
               refine skip_ (w1 := ?_) (by rfl) rfl ?_ ?_
               rotate_left
               ·go_simp
                rfl
               refine hK.out _ _ ⟨((cF (p := ⟨gb552, _, none⟩) (nB_ hw568_0 GW552.out) _).trans (hHeld.1)), ((cF (p := ⟨gb552, _, none⟩) (nB_ hw568_1 GW552.out) _).trans (hHeld.2.1)), ((cF (p := ⟨gb552, _, none⟩) (nB_ hw569_0 GW552.out) _).trans (hHeld.2.2.1)), ((cF (p := ⟨gb552, _, none⟩) (nB_ hw569_1 GW552.out) _).trans (hHeld.2.2.2))⟩ (fun hHeld => ?_)
               clear hK K
               refine done_ (done_of HT_.out (by kernel_rfl)) ?_
               have hcz49_0 := cz_ BK552.out 0
               have hcz49_1 := cz_ BK552.out 1
               have hcz49_2 := cz_ BK552.out 2
               have hcz49_3 := cz_ BK552.out 3
               have hcz49_4 := cz_ BK552.out 4
               have hfz49_0 := bF BK552.out 0
               have hfz49_1 := bF BK552.out 1
               have hfz49_2 := bF BK552.out 2
               have hfz49_3 := bF BK552.out 3
               have hfz49_4 := bF BK552.out 4
               try go_wp2_with (first | ((with_reducible refine gate_builtin (b := .append) (xs := #[.tmp 98, .tmp 100]) rfl ?_); (try (refine gate_guard (by rfl) ?_; dsimp only)); at_builtin; refine Kd.R_append k95 (w0 := w) w.heap.size rfl (.tmp 98) (.tmp 100) 92 95 (.agg #[(.string ⟨#[]⟩), (.string ⟨#[]⟩), (.string ⟨#[]⟩), (.bool false), (.bool false)]) 56 rfl Try.underlying92 info95 rfl (by decide) (by omega) u5 x5_1 (⟨(rd_T39 l1 x7_1).f0, (⟨#[]⟩ : BA), (rd_T39 l1 x7_1).f1, true, false⟩ : S95) [.string ((rd_T39 l1 x7_1).f0), .string (⟨#[]⟩ : BA), .string ((rd_T39 l1 x7_1).f1), .bool true, .bool false] (fun k_ => k_ ≠ gb552) (fun _ => False) rfl (by first | (go_simp; done) | (go_simp; rfl)) ?aP (fun _ hk => hk.elim) ?aF ?aO ?aB ?aS ?aL ?_; (case aP => exact k95_mkM _ _ _ (⟨(rd_T39 l1 x7_1).f0, (⟨#[]⟩ : BA), (rd_T39 l1 x7_1).f1, true, false⟩ : S95)); (case aB => exact (bS1_ GE552.out)); (case aF => exact (fun k_ hk => Kd.freshB (g := gb552) (o := .cells #[.string ((rd_T39 l1 x7_1).f0), .string (⟨#[]⟩ : BA), .string ((rd_T39 l1 x7_1).f1), .bool true, .bool false] 95 (0, 0)) (by (with_reducible repeat (first | refine bN ?_ _ | refine bD ?_ | refine bA ?_ _)); refine bP (cs := #[.string ((rd_T39 l1 x7_1).f0), .string (⟨#[]⟩ : BA), .string ((rd_T39 l1 x7_1).f1), .bool false, .bool false]) ?_ 3 _ rfl; (with_reducible repeat (first | refine bN ?_ _ | refine bD ?_ | refine bA ?_ _)); refine bP (cs := #[.string ((rd_T39 l1 x7_1).f0), .string (⟨#[]⟩ : BA), .string (⟨#[]⟩ : BA), .bool false, .bool false]) ?_ 2 _ rfl; (with_reducible repeat (first | refine bN ?_ _ | refine bD ?_ | refine bA ?_ _)); refine bP (cs := #[.string (⟨#[]⟩ : BA), .string (⟨#[]⟩ : BA), .string (⟨#[]⟩ : BA), .bool false, .bool false]) ?_ 0 _ rfl; (with_reducible repeat (first | refine bN ?_ _ | refine bD ?_ | refine bA ?_ _)); exact BK552.out) k_ hk)); (case aO => exact (by (with_reducible repeat (first | apply Kd.R_alloc | apply Kd.R_drewN | apply Kd.R_drew)); exact Kd.R_mono (Kd.R_far (p := ⟨gb552, 3, none⟩) (Kd.R_far (p := ⟨gb552, 2, none⟩) (Kd.R_far (p := ⟨gb552, 0, none⟩) (Kd.R_mono HO_5.out (fun k_ hk => (⟨hk, hk⟩ : _ ∧ k_ ≠ gb552))) (fun _ hk => hk.2) (.string ((rd_T39 l1 x7_1).f0))) (fun _ hk => hk.2) (.string ((rd_T39 l1 x7_1).f1))) (fun _ hk => hk.2) (.bool true)) (fun _ hk => hk.1))); (case aS => exact (wZ (bS1_ GE552.out))); (case aL => have := LMc43.out; omega); intro v571 w50 ho hb hg hat; rw [← Ny570.out] at ho; have n0_ := Aside0.mk (blk_grown (g := gb552) (o := .cells #[.string ((rd_T39 l1 x7_1).f0), .string (⟨#[]⟩ : BA), .string ((rd_T39 l1 x7_1).f1), .bool true, .bool false] 95 (0, 0)) (by (with_reducible repeat (first | refine bN ?_ _ | refine bD ?_ | refine bA ?_ _)); refine bP (cs := #[.string ((rd_T39 l1 x7_1).f0), .string (⟨#[]⟩ : BA), .string ((rd_T39 l1 x7_1).f1), .bool false, .bool false]) ?_ 3 _ rfl; (with_reducible repeat (first | refine bN ?_ _ | refine bD ?_ | refine bA ?_ _)); refine bP (cs := #[.string ((rd_T39 l1 x7_1).f0), .string (⟨#[]⟩ : BA), .string (⟨#[]⟩ : BA), .bool false, .bool false]) ?_ 2 _ rfl; (with_reducible repeat (first | refine bN ?_ _ | refine bD ?_ | refine bA ?_ _)); refine bP (cs := #[.string (⟨#[]⟩ : BA), .string (⟨#[]⟩ : BA), .string (⟨#[]⟩ : BA), .bool false, .bool false]) ?_ 0 _ rfl; (with_reducible repeat (first | refine bN ?_ _ | refine bD ?_ | refine bA ?_ _)); exact BK552.out) hg (Kd.R_away HO_5.out (fun _ hk => hk))); have n1_ := Aside0.mk (hb); have n2_ := Aside0.mk (ho); clear BK552; clear HB; clear HO_5; have BK552 := n0_; have HB := n1_; have HO572 := n2_; clear n0_ n1_ n2_; clear ho hb hg hat))
               go_roundg kj5
               case measure => have := HK1.out; have := HJ2.out; have := HJ5.out; omega
               case rel => exact ⟨(y570), (x6_1), (wrap64 (x7_1 + 1)), (by first | rfl | (simp; done) | (simp [*]; done)), (by first | rfl | (simp; done) | (simp [*]; done)), H', ⟨by have := HK1.out; have := HJ2.out; have := HJ5.out; omega⟩, ⟨by (with_reducible repeat (first | apply Kd.R_alloc | apply Kd.R_drewN | apply Kd.R_drew)); exact Kd.R_mono HO572.out (fun _ hk => trivial)⟩, ⟨by repeat (first | (with_reducible first | exact HB.out | apply wA | apply wN | apply w1 | refine wS ?_ GE552.out) | exact HB.out)⟩⟩
              ·rw [if_neg c43] at H
               exact absurd H (by simp)
            ·rw [if_neg c31] at H
             exact absurd H (by simp)
           ·rw [if_neg c30] at H
            exact absurd H (by simp)
          ·rw [if_neg c29] at H
           exact absurd H (by simp)
         ·rw [if_neg c28] at H
          have c28b0 : decide (x6_1 < (l0.length : Int)) = false := decide_eq_false c28
          clear c28
          by_cases c51 : 0 ≤ x7_1
          ·rw [if_pos c51] at H
           have c51b0 : decide (0 ≤ x7_1) = true := decide_eq_true c51
           clear c51
           by_cases c52 : x7_1 < (l1.length : Int)
           ·rw [if_pos c52] at H
            have c52b0 : decide (x7_1 < (l1.length : Int)) = true := decide_eq_true c52
            clear c52
            by_cases c53 : x5_1.length < 2513169434916
            ·rw [if_pos c53] at H
             have LMc53 := Aside0.mk c53
             clear c53
             obtain ⟨y575, hy575⟩ : ∃ y_ : List (S95), y_ = (x5_1 ++ [(⟨(rd_T39 l1 x7_1).f0, (⟨#[]⟩ : BA), (rd_T39 l1 x7_1).f1, true, false⟩ : S95)]) := ⟨_, rfl⟩
             replace H : (delta_beside.l0 kj5 l0 l1 y575 x6_1 (wrap64 (x7_1 + 1))) = some r := by first | (rw [hy575]; with_reducible exact H) | (have H2_ := (Option.bind_some _ _).symm.trans H; rw [hy575]; with_reducible exact H2_) | (have H2_ := (Option.bind_some _ _).symm.trans H; with_reducible exact H2_) | with_reducible exact H | (rw [hy575]; exact H) | exact H
             have Ny575 := Aside0.mk hy575
             clear hy575
             have H' := Aside0.mk H
             clear H
             try go_wp2
             have n0_ := Aside0.mk (Kd.R_drew HO_5.out)
             have n1_ := Aside0.mk (bD BK552.out)
             have n2_ := Aside0.mk (w1 HB.out)
             clear HO_5
             clear BK552
             clear HB
             have HO_5 := n0_
             have BK552 := n1_
             have HB := n2_
             clear n0_ n1_ n2_
             refine start_ (n := 18) (S := fun w' => True) (ds := []) #[ZZ,ZZ,ZZ,ZZ,ZZ,ZZ,ZZ,ZZ,ZZ,ZZ,ZZ,ZZ,ZZ,ZZ,ZZ,ZZ,ZZ,ZZ] (by kernel_rfl) rfl rfl trivial (fun hHeld => ?_); refine with_tabW delta_beside.tab6 delta_beside.bits6 (fun HT_ HW_ => ?_)
             generalize wc.drew = w54 at HO_5 BK552 HB hHeld ⊢
             refine pU_ 0 44 #[YY,ZZ,ZZ,ZZ,ZZ,ZZ,ZZ,ZZ,ZZ,ZZ,ZZ,ZZ,ZZ,ZZ,ZZ,ZZ,ZZ,ZZ] ?_
             refine pU_ 1 45 #[YY,YY,ZZ,ZZ,ZZ,ZZ,ZZ,ZZ,ZZ,ZZ,ZZ,ZZ,ZZ,ZZ,ZZ,ZZ,ZZ,ZZ] ?_
             refine pU_ 2 46 #[YY,YY,YY,ZZ,ZZ,ZZ,ZZ,ZZ,ZZ,ZZ,ZZ,ZZ,ZZ,ZZ,ZZ,ZZ,ZZ,ZZ] ?_
             refine pU_ 3 47 #[YY,YY,YY,YY,ZZ,ZZ,ZZ,ZZ,ZZ,ZZ,ZZ,ZZ,ZZ,ZZ,ZZ,ZZ,ZZ,ZZ] ?_
             refine pU_ 4 48 #[YY,YY,YY,YY,YY,ZZ,ZZ,ZZ,ZZ,ZZ,ZZ,ZZ,ZZ,ZZ,ZZ,ZZ,ZZ,ZZ] ?_
             refine oF_ 5 49 #[YY,YY,YY,YY,YY,YY,ZZ,ZZ,ZZ,ZZ,ZZ,ZZ,ZZ,ZZ,ZZ,ZZ,ZZ,ZZ] ?_
             refine oF_ 6 50 #[YY,YY,YY,YY,YY,YY,YY,ZZ,ZZ,ZZ,ZZ,ZZ,ZZ,ZZ,ZZ,ZZ,ZZ,ZZ] ?_
             refine oF_ 7 51 #[YY,YY,YY,YY,YY,YY,YY,YY,ZZ,ZZ,ZZ,ZZ,ZZ,ZZ,ZZ,ZZ,ZZ,ZZ] ?_
             refine oF_ 8 52 #[YY,YY,YY,YY,YY,YY,YY,YY,YY,ZZ,ZZ,ZZ,ZZ,ZZ,ZZ,ZZ,ZZ,ZZ] ?_
             refine oF_ 9 53 #[YY,YY,YY,YY,YY,YY,YY,YY,YY,YY,ZZ,ZZ,ZZ,ZZ,ZZ,ZZ,ZZ,ZZ] ?_
             refine oF_ 10 54 #[YY,YY,YY,YY,YY,YY,YY,YY,YY,YY,YY,ZZ,ZZ,ZZ,ZZ,ZZ,ZZ,ZZ] ?_
             refine oF_ 11 55 #[YY,YY,YY,YY,YY,YY,YY,YY,YY,YY,YY,YY,ZZ,ZZ,ZZ,ZZ,ZZ,ZZ] ?_
             refine oF_ 12 56 #[YY,YY,YY,YY,YY,YY,YY,YY,YY,YY,YY,YY,YY,ZZ,ZZ,ZZ,ZZ,ZZ] ?_
             refine oF_ 13 57 #[YY,YY,YY,YY,YY,YY,YY,YY,YY,YY,YY,YY,YY,YY,ZZ,ZZ,ZZ,ZZ] ?_
             refine oF_ 14 58 #[YY,YY,YY,YY,YY,YY,YY,YY,YY,YY,YY,YY,YY,YY,YY,ZZ,ZZ,ZZ] ?_
             refine oF_ 15 59 #[YY,YY,YY,YY,YY,YY,YY,YY,YY,YY,YY,YY,YY,YY,YY,YY,ZZ,ZZ] ?_
             refine pU_ 16 60 #[YY,YY,YY,YY,YY,YY,YY,YY,YY,YY,YY,YY,YY,YY,YY,YY,YY,ZZ] ?_
             refine pU_ 17 43 #[YY,YY,YY,YY,YY,YY,YY,YY,YY,YY,YY,YY,YY,YY,YY,YY,YY,YY] ?_
             refine done_ (done_of HT_.out (by kernel_rfl)) ?_
             try go_wp2
             have n0_ := Aside0.mk (Kd.R_drew HO_5.out)
             have n1_ := Aside0.mk (bD BK552.out)
             have n2_ := Aside0.mk (w1 HB.out)
             clear HO_5
             clear BK552
             clear HB
             have HO_5 := n0_
             have BK552 := n1_
             have HB := n2_
             clear n0_ n1_ n2_
             have p573 : 0 ≤ (x7_1 : Int) := of_decide_eq_true (by first | (with_reducible assumption) | assumption)
             have q573 : x7_1 < (l1.length : Int) := of_decide_eq_true (by first | (with_reducible assumption) | assumption)
             obtain ⟨ad573, e573, hx573_0, hx573_1⟩ := at_T39 HR1.out x7_1 p573 q573
             have hw573_1 := hx573_1
             have hw573_0 := hx573_0
             cases e573
             replace hx573_0 := (HB.out.cell (World.block_lt_of_cell? w _ hx573_0)).trans hx573_0
             replace hx573_1 := (HB.out.cell (World.block_lt_of_cell? w _ hx573_1)).trans hx573_1
             replace p573 := eq_true p573
             replace q573 := eq_true q573
             have p574 : 0 ≤ (x7_1 : Int) := of_decide_eq_true (by first | (with_reducible assumption) | assumption)
             have q574 : x7_1 < (l1.length : Int) := of_decide_eq_true (by first | (with_reducible assumption) | assumption)
             obtain ⟨ad574, e574, hx574_0, hx574_1⟩ := at_T39 HR1.out x7_1 p574 q574
             have hw574_1 := hx574_1
             have hw574_0 := hx574_0
             obtain rfl : ad573 = ad574 := (by injection e574)
             replace hx574_0 := (HB.out.cell (World.block_lt_of_cell? w _ hx574_0)).trans hx574_0
             replace hx574_1 := (HB.out.cell (World.block_lt_of_cell? w _ hx574_1)).trans hx574_1
             replace p574 := eq_true p574
             replace q574 := eq_true q574
             refine start_ (n := 16) (S := fun w' => w'.cell? (ad573.add ((x7_1).toNat * 2)) = some (.string ((rd_T39 l1 x7_1).f0)) ∧ w'.cell? ⟨(ad573.add ((x7_1).toNat * 2)).block, (ad573.add ((x7_1).toNat * 2)).off + 1, none⟩ = some (.string ((rd_T39 l1 x7_1).f1)) ∧ w'.cell? (ad573.add ((x7_1).toNat * 2)) = some (.string ((rd_T39 l1 x7_1).f0)) ∧ w'.cell? ⟨(ad573.add ((x7_1).toNat * 2)).block, (ad573.add ((x7_1).toNat * 2)).off + 1, none⟩ = some (.string ((rd_T39 l1 x7_1).f1))) (ds := []) #[ZZ,ZZ,ZZ,ZZ,ZZ,ZZ,ZZ,ZZ,ZZ,ZZ,ZZ,ZZ,ZZ,ZZ,ZZ,ZZ] (by kernel_rfl) rfl rfl ⟨((HB.out.cell (World.block_lt_of_cell? w _ hw573_0)).trans hw573_0), ((HB.out.cell (World.block_lt_of_cell? w _ hw573_1)).trans hw573_1), ((HB.out.cell (World.block_lt_of_cell? w _ hw574_0)).trans hw574_0), ((HB.out.cell (World.block_lt_of_cell? w _ hw574_1)).trans hw574_1)⟩ (fun hHeld => ?_); refine with_tabW delta_beside.tab11 delta_beside.bits11 (fun HT_ HW_ => ?_)
             generalize w54.drew = w55 at HO_5 BK552 HB hx573_0 hx573_1 hx574_0 hx574_1 hHeld ⊢
             refine pU_ 0 83 #[YY,ZZ,ZZ,ZZ,ZZ,ZZ,ZZ,ZZ,ZZ,ZZ,ZZ,ZZ,ZZ,ZZ,ZZ,ZZ] ?_
             refine pU_ 1 84 #[YY,YY,ZZ,ZZ,ZZ,ZZ,ZZ,ZZ,ZZ,ZZ,ZZ,ZZ,ZZ,ZZ,ZZ,ZZ] ?_
             refine pU_ 2 85 #[YY,YY,YY,ZZ,ZZ,ZZ,ZZ,ZZ,ZZ,ZZ,ZZ,ZZ,ZZ,ZZ,ZZ,ZZ] ?_
             refine pU_ 3 86 #[YY,YY,YY,YY,ZZ,ZZ,ZZ,ZZ,ZZ,ZZ,ZZ,ZZ,ZZ,ZZ,ZZ,ZZ] ?_
             refine pU_ 5 88 #[YY,YY,YY,YY,ZZ,YY,ZZ,ZZ,ZZ,ZZ,ZZ,ZZ,ZZ,ZZ,ZZ,ZZ] ?_
             refine pU_ 6 89 #[YY,YY,YY,YY,ZZ,YY,YY,ZZ,ZZ,ZZ,ZZ,ZZ,ZZ,ZZ,ZZ,ZZ] ?_
             refine pU_ 7 90 #[YY,YY,YY,YY,ZZ,YY,YY,YY,ZZ,ZZ,ZZ,ZZ,ZZ,ZZ,ZZ,ZZ] ?_
             refine pU_ 8 91 #[YY,YY,YY,YY,ZZ,YY,YY,YY,YY,ZZ,ZZ,ZZ,ZZ,ZZ,ZZ,ZZ] ?_
             refine take_ (i := 4) (N := some 87) (v := ?_) (a' := ?_) #[YY,YY,YY,YY,YY,YY,YY,YY,YY,ZZ,ZZ,ZZ,ZZ,ZZ,ZZ,ZZ] rfl rfl (take_ofW HT_.out HW_.out (by kernel_rfl)) (fun _ _ _ h => h) (Or.inl ⟨by rfl, ?_⟩) hHeld ?_ ?_
             rotate_left
             ·rintro w' ⟨s0, s1, s2, s3⟩
              go_simp
              with_reducible rfl
             rotate_left
             ·simp only [Act.put, sA1, sA2, sA3, i64_w, i32_w]
              rfl
             refine pU_ 10 93 #[YY,YY,YY,YY,YY,YY,YY,YY,YY,ZZ,YY,ZZ,ZZ,ZZ,ZZ,ZZ] ?_
             refine take_ (i := 9) (N := some 92) (v := ?_) (a' := ?_) #[YY,YY,YY,YY,YY,YY,YY,YY,YY,YY,YY,ZZ,ZZ,ZZ,ZZ,ZZ] rfl rfl (take_ofW HT_.out HW_.out (by kernel_rfl)) (fun _ _ _ h => h) (Or.inl ⟨by rfl, ?_⟩) hHeld ?_ ?_
             rotate_left
             ·rintro w' ⟨s0, s1, s2, s3⟩
              go_simp
              with_reducible rfl
             rotate_left
             ·simp only [Act.put, sA1, sA2, sA3, i64_w, i32_w]
              rfl
             refine one_ (i := 11) (N := none) #[YY,YY,YY,YY,YY,YY,YY,YY,YY,YY,YY,YY,ZZ,ZZ,ZZ,ZZ] rfl rfl (one_of HT_.out (by kernel_rfl)) (by decide) (fun K hK => ?_)
             have hs56 : w55.cell? ⟨gb552, 0, none⟩ = some (.string (⟨#[]⟩ : BA)) := (bC BK552.out 0).trans rfl
             have hfs56 := bF BK552.out 0
             refine skip_ (w1 := ?_) (by rfl) rfl ?_ ?_
             rotate_left
             ·go_simp
              rfl
             refine hK.out _ _ ⟨((cF (p := ⟨gb552, _, none⟩) (nB_ hw573_0 GW552.out) _).trans (hHeld.1)), ((cF (p := ⟨gb552, _, none⟩) (nB_ hw573_1 GW552.out) _).trans (hHeld.2.1)), ((cF (p := ⟨gb552, _, none⟩) (nB_ hw574_0 GW552.out) _).trans (hHeld.2.2.1)), ((cF (p := ⟨gb552, _, none⟩) (nB_ hw574_1 GW552.out) _).trans (hHeld.2.2.2))⟩ (fun hHeld => ?_)
             clear hK K
             refine pU_ 12 94 #[YY,YY,YY,YY,YY,YY,YY,YY,YY,YY,YY,YY,YY,ZZ,ZZ,ZZ] ?_
             refine one_ (i := 13) (N := none) #[YY,YY,YY,YY,YY,YY,YY,YY,YY,YY,YY,YY,YY,YY,ZZ,ZZ] rfl rfl (one_of HT_.out (by kernel_rfl)) (by decide) (fun K hK => ?_)
             have hs57 : w55.cell? ⟨gb552, 2, none⟩ = some (.string (⟨#[]⟩ : BA)) := (bC BK552.out 2).trans rfl
             have hfs57 := bF BK552.out 2
             refine skip_ (w1 := ?_) (by rfl) rfl ?_ ?_
             rotate_left
             ·go_simp
              rfl
             refine hK.out _ _ ⟨((cF (p := ⟨gb552, _, none⟩) (nB_ hw573_0 GW552.out) _).trans (hHeld.1)), ((cF (p := ⟨gb552, _, none⟩) (nB_ hw573_1 GW552.out) _).trans (hHeld.2.1)), ((cF (p := ⟨gb552, _, none⟩) (nB_ hw574_0 GW552.out) _).trans (hHeld.2.2.1)), ((cF (p := ⟨gb552, _, none⟩) (nB_ hw574_1 GW552.out) _).trans (hHeld.2.2.2))⟩ (fun hHeld => ?_)
             clear hK K
             refine pU_ 14 95 #[YY,YY,YY,YY,YY,YY,YY,YY,YY,YY,YY,YY,YY,YY,YY,ZZ] ?_
             refine one_ (i := 15) (N := none) #[YY,YY,YY,YY,YY,YY,YY,YY,YY,YY,YY,YY,YY,YY,YY,YY] rfl rfl (one_of HT_.out (by kernel_rfl)) (by decide) (fun K hK => ?_)
             have hs58 : w55.cell? ⟨gb552, 3, none⟩ = some (.bool false) := (bC BK552.out 3).trans rfl
             have hfs58 := bF BK552.out 3
             refine skip_ (w1 := ?_) (by rfl) rfl ?_ ?_
             rotate_left
             ·go_simp
              rfl
             refine hK.out _ _ ⟨((cF (p := ⟨gb552, _, none⟩) (nB_ hw573_0 GW552.out) _).trans (hHeld.1)), ((cF (p := ⟨gb552, _, none⟩) (nB_ hw573_1 GW552.out) _).trans (hHeld.2.1)), ((cF (p := ⟨gb552, _, none⟩) (nB_ hw574_0 GW552.out) _).trans (hHeld.2.2.1)), ((cF (p := ⟨gb552, _, none⟩) (nB_ hw574_1 GW552.out) _).trans (hHeld.2.2.2))⟩ (fun hHeld => ?_)
             clear hK K
             refine done_ (done_of HT_.out (by kernel_rfl)) ?_
             have hcz59_0 := cz_ BK552.out 0
             have hcz59_1 := cz_ BK552.out 1
             have hcz59_2 := cz_ BK552.out 2
             have hcz59_3 := cz_ BK552.out 3
             have hcz59_4 := cz_ BK552.out 4
             have hfz59_0 := bF BK552.out 0
             have hfz59_1 := bF BK552.out 1
             have hfz59_2 := bF BK552.out 2
             have hfz59_3 := bF BK552.out 3
             have hfz59_4 := bF BK552.out 4
             try go_wp2_with (first | ((with_reducible refine gate_builtin (b := .append) (xs := #[.tmp 98, .tmp 100]) rfl ?_); (try (refine gate_guard (by rfl) ?_; dsimp only)); at_builtin; refine Kd.R_append k95 (w0 := w) w.heap.size rfl (.tmp 98) (.tmp 100) 92 95 (.agg #[(.string ⟨#[]⟩), (.string ⟨#[]⟩), (.string ⟨#[]⟩), (.bool false), (.bool false)]) 56 rfl Try.underlying92 info95 rfl (by decide) (by omega) u5 x5_1 (⟨(rd_T39 l1 x7_1).f0, (⟨#[]⟩ : BA), (rd_T39 l1 x7_1).f1, true, false⟩ : S95) [.string ((rd_T39 l1 x7_1).f0), .string (⟨#[]⟩ : BA), .string ((rd_T39 l1 x7_1).f1), .bool true, .bool false] (fun k_ => k_ ≠ gb552) (fun _ => False) rfl (by first | (go_simp; done) | (go_simp; rfl)) ?aP (fun _ hk => hk.elim) ?aF ?aO ?aB ?aS ?aL ?_; (case aP => exact k95_mkM _ _ _ (⟨(rd_T39 l1 x7_1).f0, (⟨#[]⟩ : BA), (rd_T39 l1 x7_1).f1, true, false⟩ : S95)); (case aB => exact (bS1_ GE552.out)); (case aF => exact (fun k_ hk => Kd.freshB (g := gb552) (o := .cells #[.string ((rd_T39 l1 x7_1).f0), .string (⟨#[]⟩ : BA), .string ((rd_T39 l1 x7_1).f1), .bool true, .bool false] 95 (0, 0)) (by (with_reducible repeat (first | refine bN ?_ _ | refine bD ?_ | refine bA ?_ _)); refine bP (cs := #[.string ((rd_T39 l1 x7_1).f0), .string (⟨#[]⟩ : BA), .string ((rd_T39 l1 x7_1).f1), .bool false, .bool false]) ?_ 3 _ rfl; (with_reducible repeat (first | refine bN ?_ _ | refine bD ?_ | refine bA ?_ _)); refine bP (cs := #[.string ((rd_T39 l1 x7_1).f0), .string (⟨#[]⟩ : BA), .string (⟨#[]⟩ : BA), .bool false, .bool false]) ?_ 2 _ rfl; (with_reducible repeat (first | refine bN ?_ _ | refine bD ?_ | refine bA ?_ _)); refine bP (cs := #[.string (⟨#[]⟩ : BA), .string (⟨#[]⟩ : BA), .string (⟨#[]⟩ : BA), .bool false, .bool false]) ?_ 0 _ rfl; (with_reducible repeat (first | refine bN ?_ _ | refine bD ?_ | refine bA ?_ _)); exact BK552.out) k_ hk)); (case aO => exact (by (with_reducible repeat (first | apply Kd.R_alloc | apply Kd.R_drewN | apply Kd.R_drew)); exact Kd.R_mono (Kd.R_far (p := ⟨gb552, 3, none⟩) (Kd.R_far (p := ⟨gb552, 2, none⟩) (Kd.R_far (p := ⟨gb552, 0, none⟩) (Kd.R_mono HO_5.out (fun k_ hk => (⟨hk, hk⟩ : _ ∧ k_ ≠ gb552))) (fun _ hk => hk.2) (.string ((rd_T39 l1 x7_1).f0))) (fun _ hk => hk.2) (.string ((rd_T39 l1 x7_1).f1))) (fun _ hk => hk.2) (.bool true)) (fun _ hk => hk.1))); (case aS => exact (wZ (bS1_ GE552.out))); (case aL => have := LMc53.out; omega); intro v576 w60 ho hb hg hat; rw [← Ny575.out] at ho; have n0_ := Aside0.mk (blk_grown (g := gb552) (o := .cells #[.string ((rd_T39 l1 x7_1).f0), .string (⟨#[]⟩ : BA), .string ((rd_T39 l1 x7_1).f1), .bool true, .bool false] 95 (0, 0)) (by (with_reducible repeat (first | refine bN ?_ _ | refine bD ?_ | refine bA ?_ _)); refine bP (cs := #[.string ((rd_T39 l1 x7_1).f0), .string (⟨#[]⟩ : BA), .string ((rd_T39 l1 x7_1).f1), .bool false, .bool false]) ?_ 3 _ rfl; (with_reducible repeat (first | refine bN ?_ _ | refine bD ?_ | refine bA ?_ _)); refine bP (cs := #[.string ((rd_T39 l1 x7_1).f0), .string (⟨#[]⟩ : BA), .string (⟨#[]⟩ : BA), .bool false, .bool false]) ?_ 2 _ rfl; (with_reducible repeat (first | refine bN ?_ _ | refine bD ?_ | refine bA ?_ _)); refine bP (cs := #[.string (⟨#[]⟩ : BA), .string (⟨#[]⟩ : BA), .string (⟨#[]⟩ : BA), .bool false, .bool false]) ?_ 0 _ rfl; (with_reducible repeat (first | refine bN ?_ _ | refine bD ?_ | refine bA ?_ _)); exact BK552.out) hg (Kd.R_away HO_5.out (fun _ hk => hk))); have n1_ := Aside0.mk (hb); have n2_ := Aside0.mk (ho); clear BK552; clear HB; clear HO_5; have BK552 := n0_; have HB := n1_; have HO577 := n2_; clear n0_ n1_ n2_; clear ho hb hg hat))
             go_roundg kj5
             case measure => have := HK1.out; have := HJ2.out; have := HJ5.out; omega
             case rel => exact ⟨(y575), (x6_1), (wrap64 (x7_1 + 1)), (by first | rfl | (simp; done) | (simp [*]; done)), (by first | rfl | (simp; done) | (simp [*]; done)), H', ⟨by have := HK1.out; have := HJ2.out; have := HJ5.out; omega⟩, ⟨by (with_reducible repeat (first | apply Kd.R_alloc | apply Kd.R_drewN | apply Kd.R_drew)); exact Kd.R_mono HO577.out (fun _ hk => trivial)⟩, ⟨by repeat (first | (with_reducible first | exact HB.out | apply wA | apply wN | apply w1 | refine wS ?_ GE552.out) | exact HB.out)⟩⟩
            ·rw [if_neg c53] at H
             exact absurd H (by simp)
           ·rw [if_neg c52] at H
            exact absurd H (by simp)
          ·rw [if_neg c51] at H
           exact absurd H (by simp)
     ·replace c5 := Bool.eq_false_iff.mpr c5
      subst c5
      have H1 : (some x5_1) = some r := by rw [if_neg (show ¬ (false = true) by decide)] at H; exact H
      clear H
      have H := H1
      clear H1
      obtain rfl := Option.some.inj H
      go_wp2
      go_ret
      exact ⟨_, by first | rfl | (simp [errW_none, errW_some] <;> rfl) | (simp [*, errW_none, errW_some] <;> rfl), by (with_reducible repeat (first | apply Kd.R_alloc | apply Kd.R_drewN | apply Kd.R_drew)); exact HO_5.out, by repeat (first | (with_reducible first | exact HB.out | apply wA | apply wN | apply w1) | exact HB.out)⟩
end Go.Proofs.Ytebejadiaooooaa.P
end
