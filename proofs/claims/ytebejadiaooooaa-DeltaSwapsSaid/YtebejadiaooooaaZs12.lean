/- Texts of one claim (laid by shake.py). -/
import Derived.Test.YtebejadiaooooaaZs4
import Derived.Test.YtebejadiaooooaaZs5
set_option linter.unusedVariables false
set_option linter.unusedSimpArgs false
section
namespace Go.Proofs.Ytebejadiaooooaa.P
open Go.RowKit Go.Proofs.YtebejadiaooooaaW.PrintWords Go.Proofs.YtebejadiaooooaaW.PrintLast Go.Proofs.YtebejadiaooooaaW.PrintMore Go.Proofs.Ytebejadiaooooaa.Own
open Bool renaming true → YY, false → ZZ
open Go.Proofs.YtebejadiaooooaaW.PrintWords renaming pw_below_drewN → wN, below_drew1 → w1, below_alloc → wA, below_step → wT, below_size → wZ
open List renaming setIfInBounds_toArray → sA1, set_cons_zero → sA2, set_cons_succ → sA3, map_toArray → mA1, map_cons → mA2, map_nil → mA3, length_take → mA4, length_drop → mA5
attribute [local go_sem] max2_str max2_int min2_int max_two min_two max_three min_three max_four min_four   -- for this text's walks alone
def catchmentref06_keys.l0 : Nat → List (S32) → List ByteArray → Int → Option (List ByteArray)
 | 0, _, _, _ => none
 | k + 1, x0, x3, x4 => if x4 < (x0.length : Int) then (if 0 ≤ x4 then (if ((rd_T32 x0 x4).f2).size + 1 ≤ 9223372036854775807 then (if ((rd_T32 x0 x4).f3).size + 1 ≤ 9223372036854775807 then ((some (([(rd_T32 x0 x4).f2, (rd_T32 x0 x4).f3, ((rd_T32 x0 x4).f2) ++ (⟨#[0]⟩ : BA), ((rd_T32 x0 x4).f3) ++ (⟨#[0]⟩ : BA)] : List ByteArray) : List ByteArray)).bind fun y849 => (if x3.length + y849.length < 8796093022208 then (catchmentref06_keys.l0 k x0 (x3 ++ y849) (wrap64 (x4 + 1))) else (none))) else (none)) else (none)) else (none)) else (some x3)
def catchmentref06_keys.f (k : Nat) (l0 : List (S32)) : Option (List ByteArray) := catchmentref06_keys.l0 k l0 (([(⟨#[]⟩ : BA), (⟨#[0]⟩ : BA)] : List ByteArray)) 0
def catchmentref06_keys.T5 : Bool × List (List Nat × List Nat) := (true, [([], []), ([], []), ([], []), ([1, 2], [1, 2]), ([3], [3]), ([4], [4]), ([], []), ([], []), ([6, 7], [6, 7]), ([8], [8]), ([9], [9]), ([], []), ([], []), ([11, 12], [11, 12]), ([13], [13]), ([14], [14]), ([15], [15]), ([], []), ([], []), ([17, 18], [17, 18]), ([19], [19]), ([20], [20]), ([21], [21]), ([5, 10, 16, 22], [5, 10, 16, 22]), ([0, 23], [0, 23]), ([24, 24, 0, 1, 2, 3, 4, 5, 6, 7, 8, 9, 10, 11, 12, 13, 14, 15, 16, 17, 18, 19, 20, 21, 22, 23, 24], [0, 24])])
def catchmentref06_keys.B5 : List Nat := [0, 0, 0, 6, 14, 30, 0, 0, 192, 448, 960, 0, 0, 6144, 14336, 30720, 63488, 0, 0, 393216, 917504, 1966080, 4063232, 8388606, 16777215, 33554431]
theorem catchmentref06_keys.tab5 : rtab .any (opsOf Try.f114 5) = catchmentref06_keys.T5 := by kernel_rfl
theorem catchmentref06_keys.bits5 : waitsOk catchmentref06_keys.T5.2 catchmentref06_keys.B5 = true := by kernel_rfl
set_option maxHeartbeats 8000000 in
set_option maxRecDepth 100000 in
theorem catchmentref06_keys.calls (k : Nat) (A0 : Option Addr) (c0 : Nat) (l0 : List (S32)) (r : List ByteArray) (w : World) (hr0 : Kd.C k32 w A0 l0.length l0) (hc0 : l0.length ≤ c0) (h : catchmentref06_keys.f k l0 = some r) :
  Calls Try.prog 114 #[.slice A0 l0.length c0] w fun e w' => ∃ v0_ : Value, e = .returned (v0_) ∧ Kd.R Kd.string 9 w' w.heap.size (fun _ => True) v0_ r ∧ Below w.heap.size w w' := by
 have HR0 := Aside0.mk hr0
 have HC0 := Aside0.mk hc0
 clear hr0 hc0
 have HB := Aside0.mk (Below.refl w.heap.size w)
 have H : (catchmentref06_keys.l0 k l0 (([(⟨#[]⟩ : BA), (⟨#[0]⟩ : BA)] : List ByteArray)) 0) = some r := h
 clear h
 obtain ⟨y842, hy842⟩ : ∃ y_ : List ByteArray, y_ = (([(⟨#[]⟩ : BA), (⟨#[0]⟩ : BA)] : List ByteArray)) := ⟨_, rfl⟩
 replace H : (catchmentref06_keys.l0 k l0 y842 0) = some r := by first | (rw [hy842]; with_reducible exact H) | (have H2_ := (Option.bind_some _ _).symm.trans H; rw [hy842]; with_reducible exact H2_) | (have H2_ := (Option.bind_some _ _).symm.trans H; with_reducible exact H2_) | with_reducible exact H | (rw [hy842]; exact H) | exact H
 have Ny842 := Aside0.mk hy842
 clear hy842
 have H' := Aside0.mk H
 clear H
 go_enter Try.func114, Try.ntmps114
 go_wp2_with (first | ((with_reducible refine gate_dst (N := 5) rfl ?_); refine Kd.R_lit Kd.string _ 9 ?hg (N := 5) ?hd (xs := ([(⟨#[]⟩ : BA), (⟨#[0]⟩ : BA)] : List ByteArray)) (inner := [.string (⟨#[]⟩ : BA), .string (⟨#[0]⟩ : BA)]) (ok := fun _ => True) (okp := fun _ => True) ?hr ?hp (fun _ hk => hk) trivial (Below.refl _ _) (Nat.le_refl _) (by simp) ?_; (case hd => rfl); (case hg => rfl); (case hr => first | (go_simp; done) | (go_simp; rfl)); (case hp => exact (Reps.one (show Kd.M Kd.string _ _ _ (⟨#[]⟩ : BA) [.string (⟨#[]⟩ : BA)] from rfl) (Reps.one (show Kd.M Kd.string _ _ _ (⟨#[0]⟩ : BA) [.string (⟨#[0]⟩ : BA)] from rfl) (Reps.none _ _)))); intro v843 w2 ho3 hb hg_ hnew_; clear hg_ hnew_; (first | rw [← Ny842.out] at ho3 | (simp only [Int.reduceToNat] at ho3; rw [← Ny842.out] at ho3)); have n0_ := Aside0.mk (Kd.R_lower ho3 (wZ bW_)); have n1_ := Aside0.mk (wT bW_ hb); clear HB; have HO844 := n0_; have HB := n1_; clear n0_ n1_; clear hb ho3))
 go_loopg [3, 4] k (fun kq v3 v4 w' => ∃ (x3_1 : List ByteArray) (x4_1 : Int), v4 = .int .i64 x4_1 ∧ Aside0 (catchmentref06_keys.l0 kq l0 x3_1 x4_1 = some r) ∧ Aside0 (kq ≤ k) ∧ Aside0 (Kd.R Kd.string 9 w' w.heap.size (fun _ => True) v3 x3_1) ∧ Aside0 (Below w.heap.size w w'))
 case atStart => exact ⟨(y842), (0), (by first | rfl | (simp; done) | (simp [*]; done)), H', ⟨Nat.le_refl _⟩, ⟨by (with_reducible repeat (first | apply Kd.R_alloc | apply Kd.R_drewN | apply Kd.R_drew)); exact HO844.out⟩, ⟨by repeat (first | (with_reducible first | exact HB.out | apply wA | apply wN | apply w1) | exact HB.out)⟩⟩
 case round =>
  clear H'
  try clear c1
  try clear p2
  obtain ⟨x3_1, x4_1, rfl, HA, HK1, HO_3, HB⟩ := hrel
  cases gk with
  | zero => exact absurd HA.out (by simp [catchmentref06_keys.l0])
  | succ k1 =>
   have H := HA.out
   clear HA
   simp only [catchmentref06_keys.l0] at H
   by_cases c4 : x4_1 < (l0.length : Int)
   ·rw [if_pos c4] at H
    have c4b0 : decide (x4_1 < (l0.length : Int)) = true := decide_eq_true c4
    clear c4
    by_cases c5 : 0 ≤ x4_1
    ·rw [if_pos c5] at H
     have c5b0 : decide (0 ≤ x4_1) = true := decide_eq_true c5
     clear c5
     by_cases c6 : ((rd_T32 l0 x4_1).f2).size + 1 ≤ 9223372036854775807
     ·rw [if_pos c6] at H
      have c6b0 := eq_true c6
      have c6b1 : decide (((rd_T32 l0 x4_1).f2).size + 1 ≤ 9223372036854775807) = true := decide_eq_true c6
      try have c6b2 : (9223372036854775807 < ((rd_T32 l0 x4_1).f2).size + 1) = False := eq_false (Nat.not_lt.2 c6)
      by_cases c7 : ((rd_T32 l0 x4_1).f3).size + 1 ≤ 9223372036854775807
      ·rw [if_pos c7] at H
       have c7b0 := eq_true c7
       have c7b1 : decide (((rd_T32 l0 x4_1).f3).size + 1 ≤ 9223372036854775807) = true := decide_eq_true c7
       try have c7b2 : (9223372036854775807 < ((rd_T32 l0 x4_1).f3).size + 1) = False := eq_false (Nat.not_lt.2 c7)
       obtain ⟨y849, hy849⟩ : ∃ y_ : List ByteArray, y_ = (([(rd_T32 l0 x4_1).f2, (rd_T32 l0 x4_1).f3, ((rd_T32 l0 x4_1).f2) ++ (⟨#[0]⟩ : BA), ((rd_T32 l0 x4_1).f3) ++ (⟨#[0]⟩ : BA)] : List ByteArray)) := ⟨_, rfl⟩
       replace H : (if x3_1.length + y849.length < 8796093022208 then (catchmentref06_keys.l0 k1 l0 (x3_1 ++ y849) (wrap64 (x4_1 + 1))) else (none)) = some r := by first | (rw [hy849]; with_reducible exact H) | (have H2_ := (Option.bind_some _ _).symm.trans H; rw [hy849]; with_reducible exact H2_) | (have H2_ := (Option.bind_some _ _).symm.trans H; with_reducible exact H2_) | with_reducible exact H | (rw [hy849]; exact H) | exact H
       have Ny849 := Aside0.mk hy849
       clear hy849
       by_cases c8 : x3_1.length + y849.length < 8796093022208
       ·rw [if_pos c8] at H
        have LMc8 := Aside0.mk c8
        clear c8
        obtain ⟨y852, hy852⟩ : ∃ y_ : List ByteArray, y_ = (x3_1 ++ y849) := ⟨_, rfl⟩
        replace H : (catchmentref06_keys.l0 k1 l0 y852 (wrap64 (x4_1 + 1))) = some r := by first | (rw [hy852]; with_reducible exact H) | (have H2_ := (Option.bind_some _ _).symm.trans H; rw [hy852]; with_reducible exact H2_) | (have H2_ := (Option.bind_some _ _).symm.trans H; with_reducible exact H2_) | with_reducible exact H | (rw [hy852]; exact H) | exact H
        have Ny852 := Aside0.mk hy852
        clear hy852
        have H' := Aside0.mk H
        clear H
        try go_wp2
        have n0_ := Aside0.mk (Kd.R_drew HO_3.out)
        have n1_ := Aside0.mk (w1 HB.out)
        clear HO_3
        clear HB
        have HO_3 := n0_
        have HB := n1_
        clear n0_ n1_
        have p845 : 0 ≤ (x4_1 : Int) := of_decide_eq_true (by first | (with_reducible assumption) | assumption)
        have q845 : x4_1 < (l0.length : Int) := of_decide_eq_true (by first | (with_reducible assumption) | assumption)
        obtain ⟨ad845, e845, hx845_0, hx845_1, hx845_2, hx845_3, hx845_4, hx845_5⟩ := at_T32 HR0.out x4_1 p845 q845
        have hw845_5 := hx845_5
        have hw845_4 := hx845_4
        have hw845_3 := hx845_3
        have hw845_2 := hx845_2
        have hw845_1 := hx845_1
        have hw845_0 := hx845_0
        cases e845
        replace hx845_0 := (HB.out.cell (World.block_lt_of_cell? w _ hx845_0)).trans hx845_0
        replace hx845_1 := (HB.out.cell (World.block_lt_of_cell? w _ hx845_1)).trans hx845_1
        replace hx845_2 := (HB.out.cell (World.block_lt_of_cell? w _ hx845_2)).trans hx845_2
        replace hx845_3 := (HB.out.cell (World.block_lt_of_cell? w _ hx845_3)).trans hx845_3
        replace hx845_4 := (HB.out.cell (World.block_lt_of_cell? w _ hx845_4)).trans hx845_4
        replace hx845_5 := (HB.out.cell (World.block_lt_of_cell? w _ hx845_5)).trans hx845_5
        replace p845 := eq_true p845
        replace q845 := eq_true q845
        have p846 : 0 ≤ (x4_1 : Int) := of_decide_eq_true (by first | (with_reducible assumption) | assumption)
        have q846 : x4_1 < (l0.length : Int) := of_decide_eq_true (by first | (with_reducible assumption) | assumption)
        obtain ⟨ad846, e846, hx846_0, hx846_1, hx846_2, hx846_3, hx846_4, hx846_5⟩ := at_T32 HR0.out x4_1 p846 q846
        have hw846_5 := hx846_5
        have hw846_4 := hx846_4
        have hw846_3 := hx846_3
        have hw846_2 := hx846_2
        have hw846_1 := hx846_1
        have hw846_0 := hx846_0
        obtain rfl : ad845 = ad846 := (by injection e846)
        replace hx846_0 := (HB.out.cell (World.block_lt_of_cell? w _ hx846_0)).trans hx846_0
        replace hx846_1 := (HB.out.cell (World.block_lt_of_cell? w _ hx846_1)).trans hx846_1
        replace hx846_2 := (HB.out.cell (World.block_lt_of_cell? w _ hx846_2)).trans hx846_2
        replace hx846_3 := (HB.out.cell (World.block_lt_of_cell? w _ hx846_3)).trans hx846_3
        replace hx846_4 := (HB.out.cell (World.block_lt_of_cell? w _ hx846_4)).trans hx846_4
        replace hx846_5 := (HB.out.cell (World.block_lt_of_cell? w _ hx846_5)).trans hx846_5
        replace p846 := eq_true p846
        replace q846 := eq_true q846
        have p847 : 0 ≤ (x4_1 : Int) := of_decide_eq_true (by first | (with_reducible assumption) | assumption)
        have q847 : x4_1 < (l0.length : Int) := of_decide_eq_true (by first | (with_reducible assumption) | assumption)
        obtain ⟨ad847, e847, hx847_0, hx847_1, hx847_2, hx847_3, hx847_4, hx847_5⟩ := at_T32 HR0.out x4_1 p847 q847
        have hw847_5 := hx847_5
        have hw847_4 := hx847_4
        have hw847_3 := hx847_3
        have hw847_2 := hx847_2
        have hw847_1 := hx847_1
        have hw847_0 := hx847_0
        obtain rfl : ad845 = ad847 := (by injection e847)
        replace hx847_0 := (HB.out.cell (World.block_lt_of_cell? w _ hx847_0)).trans hx847_0
        replace hx847_1 := (HB.out.cell (World.block_lt_of_cell? w _ hx847_1)).trans hx847_1
        replace hx847_2 := (HB.out.cell (World.block_lt_of_cell? w _ hx847_2)).trans hx847_2
        replace hx847_3 := (HB.out.cell (World.block_lt_of_cell? w _ hx847_3)).trans hx847_3
        replace hx847_4 := (HB.out.cell (World.block_lt_of_cell? w _ hx847_4)).trans hx847_4
        replace hx847_5 := (HB.out.cell (World.block_lt_of_cell? w _ hx847_5)).trans hx847_5
        replace p847 := eq_true p847
        replace q847 := eq_true q847
        have p848 : 0 ≤ (x4_1 : Int) := of_decide_eq_true (by first | (with_reducible assumption) | assumption)
        have q848 : x4_1 < (l0.length : Int) := of_decide_eq_true (by first | (with_reducible assumption) | assumption)
        obtain ⟨ad848, e848, hx848_0, hx848_1, hx848_2, hx848_3, hx848_4, hx848_5⟩ := at_T32 HR0.out x4_1 p848 q848
        have hw848_5 := hx848_5
        have hw848_4 := hx848_4
        have hw848_3 := hx848_3
        have hw848_2 := hx848_2
        have hw848_1 := hx848_1
        have hw848_0 := hx848_0
        obtain rfl : ad845 = ad848 := (by injection e848)
        replace hx848_0 := (HB.out.cell (World.block_lt_of_cell? w _ hx848_0)).trans hx848_0
        replace hx848_1 := (HB.out.cell (World.block_lt_of_cell? w _ hx848_1)).trans hx848_1
        replace hx848_2 := (HB.out.cell (World.block_lt_of_cell? w _ hx848_2)).trans hx848_2
        replace hx848_3 := (HB.out.cell (World.block_lt_of_cell? w _ hx848_3)).trans hx848_3
        replace hx848_4 := (HB.out.cell (World.block_lt_of_cell? w _ hx848_4)).trans hx848_4
        replace hx848_5 := (HB.out.cell (World.block_lt_of_cell? w _ hx848_5)).trans hx848_5
        replace p848 := eq_true p848
        replace q848 := eq_true q848
        refine start_ (n := 26) (S := fun w' => w'.cell? (ad845.add ((x4_1).toNat * 6)) = some (.int .u8 ((rd_T32 l0 x4_1).f0)) ∧ w'.cell? ⟨(ad845.add ((x4_1).toNat * 6)).block, (ad845.add ((x4_1).toNat * 6)).off + 1, none⟩ = some (.int .i64 ((rd_T32 l0 x4_1).f1)) ∧ w'.cell? ⟨(ad845.add ((x4_1).toNat * 6)).block, (ad845.add ((x4_1).toNat * 6)).off + 2, none⟩ = some (.string ((rd_T32 l0 x4_1).f2)) ∧ w'.cell? ⟨(ad845.add ((x4_1).toNat * 6)).block, (ad845.add ((x4_1).toNat * 6)).off + 3, none⟩ = some (.string ((rd_T32 l0 x4_1).f3)) ∧ w'.cell? ⟨(ad845.add ((x4_1).toNat * 6)).block, (ad845.add ((x4_1).toNat * 6)).off + 4, none⟩ = some (.string ((rd_T32 l0 x4_1).f4)) ∧ w'.cell? ⟨(ad845.add ((x4_1).toNat * 6)).block, (ad845.add ((x4_1).toNat * 6)).off + 5, none⟩ = some (.int .u64 ((rd_T32 l0 x4_1).f5)) ∧ w'.cell? (ad845.add ((x4_1).toNat * 6)) = some (.int .u8 ((rd_T32 l0 x4_1).f0)) ∧ w'.cell? ⟨(ad845.add ((x4_1).toNat * 6)).block, (ad845.add ((x4_1).toNat * 6)).off + 1, none⟩ = some (.int .i64 ((rd_T32 l0 x4_1).f1)) ∧ w'.cell? ⟨(ad845.add ((x4_1).toNat * 6)).block, (ad845.add ((x4_1).toNat * 6)).off + 2, none⟩ = some (.string ((rd_T32 l0 x4_1).f2)) ∧ w'.cell? ⟨(ad845.add ((x4_1).toNat * 6)).block, (ad845.add ((x4_1).toNat * 6)).off + 3, none⟩ = some (.string ((rd_T32 l0 x4_1).f3)) ∧ w'.cell? ⟨(ad845.add ((x4_1).toNat * 6)).block, (ad845.add ((x4_1).toNat * 6)).off + 4, none⟩ = some (.string ((rd_T32 l0 x4_1).f4)) ∧ w'.cell? ⟨(ad845.add ((x4_1).toNat * 6)).block, (ad845.add ((x4_1).toNat * 6)).off + 5, none⟩ = some (.int .u64 ((rd_T32 l0 x4_1).f5)) ∧ w'.cell? (ad845.add ((x4_1).toNat * 6)) = some (.int .u8 ((rd_T32 l0 x4_1).f0)) ∧ w'.cell? ⟨(ad845.add ((x4_1).toNat * 6)).block, (ad845.add ((x4_1).toNat * 6)).off + 1, none⟩ = some (.int .i64 ((rd_T32 l0 x4_1).f1)) ∧ w'.cell? ⟨(ad845.add ((x4_1).toNat * 6)).block, (ad845.add ((x4_1).toNat * 6)).off + 2, none⟩ = some (.string ((rd_T32 l0 x4_1).f2)) ∧ w'.cell? ⟨(ad845.add ((x4_1).toNat * 6)).block, (ad845.add ((x4_1).toNat * 6)).off + 3, none⟩ = some (.string ((rd_T32 l0 x4_1).f3)) ∧ w'.cell? ⟨(ad845.add ((x4_1).toNat * 6)).block, (ad845.add ((x4_1).toNat * 6)).off + 4, none⟩ = some (.string ((rd_T32 l0 x4_1).f4)) ∧ w'.cell? ⟨(ad845.add ((x4_1).toNat * 6)).block, (ad845.add ((x4_1).toNat * 6)).off + 5, none⟩ = some (.int .u64 ((rd_T32 l0 x4_1).f5)) ∧ w'.cell? (ad845.add ((x4_1).toNat * 6)) = some (.int .u8 ((rd_T32 l0 x4_1).f0)) ∧ w'.cell? ⟨(ad845.add ((x4_1).toNat * 6)).block, (ad845.add ((x4_1).toNat * 6)).off + 1, none⟩ = some (.int .i64 ((rd_T32 l0 x4_1).f1)) ∧ w'.cell? ⟨(ad845.add ((x4_1).toNat * 6)).block, (ad845.add ((x4_1).toNat * 6)).off + 2, none⟩ = some (.string ((rd_T32 l0 x4_1).f2)) ∧ w'.cell? ⟨(ad845.add ((x4_1).toNat * 6)).block, (ad845.add ((x4_1).toNat * 6)).off + 3, none⟩ = some (.string ((rd_T32 l0 x4_1).f3)) ∧ w'.cell? ⟨(ad845.add ((x4_1).toNat * 6)).block, (ad845.add ((x4_1).toNat * 6)).off + 4, none⟩ = some (.string ((rd_T32 l0 x4_1).f4)) ∧ w'.cell? ⟨(ad845.add ((x4_1).toNat * 6)).block, (ad845.add ((x4_1).toNat * 6)).off + 5, none⟩ = some (.int .u64 ((rd_T32 l0 x4_1).f5))) (ds := []) #[ZZ,ZZ,ZZ,ZZ,ZZ,ZZ,ZZ,ZZ,ZZ,ZZ,ZZ,ZZ,ZZ,ZZ,ZZ,ZZ,ZZ,ZZ,ZZ,ZZ,ZZ,ZZ,ZZ,ZZ,ZZ,ZZ] (by kernel_rfl) rfl rfl ⟨((HB.out.cell (World.block_lt_of_cell? w _ hw845_0)).trans hw845_0), ((HB.out.cell (World.block_lt_of_cell? w _ hw845_1)).trans hw845_1), ((HB.out.cell (World.block_lt_of_cell? w _ hw845_2)).trans hw845_2), ((HB.out.cell (World.block_lt_of_cell? w _ hw845_3)).trans hw845_3), ((HB.out.cell (World.block_lt_of_cell? w _ hw845_4)).trans hw845_4), ((HB.out.cell (World.block_lt_of_cell? w _ hw845_5)).trans hw845_5), ((HB.out.cell (World.block_lt_of_cell? w _ hw846_0)).trans hw846_0), ((HB.out.cell (World.block_lt_of_cell? w _ hw846_1)).trans hw846_1), ((HB.out.cell (World.block_lt_of_cell? w _ hw846_2)).trans hw846_2), ((HB.out.cell (World.block_lt_of_cell? w _ hw846_3)).trans hw846_3), ((HB.out.cell (World.block_lt_of_cell? w _ hw846_4)).trans hw846_4), ((HB.out.cell (World.block_lt_of_cell? w _ hw846_5)).trans hw846_5), ((HB.out.cell (World.block_lt_of_cell? w _ hw847_0)).trans hw847_0), ((HB.out.cell (World.block_lt_of_cell? w _ hw847_1)).trans hw847_1), ((HB.out.cell (World.block_lt_of_cell? w _ hw847_2)).trans hw847_2), ((HB.out.cell (World.block_lt_of_cell? w _ hw847_3)).trans hw847_3), ((HB.out.cell (World.block_lt_of_cell? w _ hw847_4)).trans hw847_4), ((HB.out.cell (World.block_lt_of_cell? w _ hw847_5)).trans hw847_5), ((HB.out.cell (World.block_lt_of_cell? w _ hw848_0)).trans hw848_0), ((HB.out.cell (World.block_lt_of_cell? w _ hw848_1)).trans hw848_1), ((HB.out.cell (World.block_lt_of_cell? w _ hw848_2)).trans hw848_2), ((HB.out.cell (World.block_lt_of_cell? w _ hw848_3)).trans hw848_3), ((HB.out.cell (World.block_lt_of_cell? w _ hw848_4)).trans hw848_4), ((HB.out.cell (World.block_lt_of_cell? w _ hw848_5)).trans hw848_5)⟩ (fun hHeld => ?_); refine with_tabW catchmentref06_keys.tab5 catchmentref06_keys.bits5 (fun HT_ HW_ => ?_)
        generalize wr.drew = w9 at HO_3 HB hx845_0 hx845_1 hx845_2 hx845_3 hx845_4 hx845_5 hx846_0 hx846_1 hx846_2 hx846_3 hx846_4 hx846_5 hx847_0 hx847_1 hx847_2 hx847_3 hx847_4 hx847_5 hx848_0 hx848_1 hx848_2 hx848_3 hx848_4 hx848_5 hHeld ⊢
        refine pU_ 0 12 #[YY,ZZ,ZZ,ZZ,ZZ,ZZ,ZZ,ZZ,ZZ,ZZ,ZZ,ZZ,ZZ,ZZ,ZZ,ZZ,ZZ,ZZ,ZZ,ZZ,ZZ,ZZ,ZZ,ZZ,ZZ,ZZ] ?_
        refine pU_ 1 13 #[YY,YY,ZZ,ZZ,ZZ,ZZ,ZZ,ZZ,ZZ,ZZ,ZZ,ZZ,ZZ,ZZ,ZZ,ZZ,ZZ,ZZ,ZZ,ZZ,ZZ,ZZ,ZZ,ZZ,ZZ,ZZ] ?_
        refine pU_ 2 14 #[YY,YY,YY,ZZ,ZZ,ZZ,ZZ,ZZ,ZZ,ZZ,ZZ,ZZ,ZZ,ZZ,ZZ,ZZ,ZZ,ZZ,ZZ,ZZ,ZZ,ZZ,ZZ,ZZ,ZZ,ZZ] ?_
        refine pU_ 3 15 #[YY,YY,YY,YY,ZZ,ZZ,ZZ,ZZ,ZZ,ZZ,ZZ,ZZ,ZZ,ZZ,ZZ,ZZ,ZZ,ZZ,ZZ,ZZ,ZZ,ZZ,ZZ,ZZ,ZZ,ZZ] ?_
        refine pU_ 4 16 #[YY,YY,YY,YY,YY,ZZ,ZZ,ZZ,ZZ,ZZ,ZZ,ZZ,ZZ,ZZ,ZZ,ZZ,ZZ,ZZ,ZZ,ZZ,ZZ,ZZ,ZZ,ZZ,ZZ,ZZ] ?_
        refine pU_ 6 18 #[YY,YY,YY,YY,YY,ZZ,YY,ZZ,ZZ,ZZ,ZZ,ZZ,ZZ,ZZ,ZZ,ZZ,ZZ,ZZ,ZZ,ZZ,ZZ,ZZ,ZZ,ZZ,ZZ,ZZ] ?_
        refine pU_ 7 19 #[YY,YY,YY,YY,YY,ZZ,YY,YY,ZZ,ZZ,ZZ,ZZ,ZZ,ZZ,ZZ,ZZ,ZZ,ZZ,ZZ,ZZ,ZZ,ZZ,ZZ,ZZ,ZZ,ZZ] ?_
        refine pU_ 8 20 #[YY,YY,YY,YY,YY,ZZ,YY,YY,YY,ZZ,ZZ,ZZ,ZZ,ZZ,ZZ,ZZ,ZZ,ZZ,ZZ,ZZ,ZZ,ZZ,ZZ,ZZ,ZZ,ZZ] ?_
        refine pU_ 9 21 #[YY,YY,YY,YY,YY,ZZ,YY,YY,YY,YY,ZZ,ZZ,ZZ,ZZ,ZZ,ZZ,ZZ,ZZ,ZZ,ZZ,ZZ,ZZ,ZZ,ZZ,ZZ,ZZ] ?_
        refine pU_ 11 23 #[YY,YY,YY,YY,YY,ZZ,YY,YY,YY,YY,ZZ,YY,ZZ,ZZ,ZZ,ZZ,ZZ,ZZ,ZZ,ZZ,ZZ,ZZ,ZZ,ZZ,ZZ,ZZ] ?_
        refine pU_ 12 24 #[YY,YY,YY,YY,YY,ZZ,YY,YY,YY,YY,ZZ,YY,YY,ZZ,ZZ,ZZ,ZZ,ZZ,ZZ,ZZ,ZZ,ZZ,ZZ,ZZ,ZZ,ZZ] ?_
        refine pU_ 13 25 #[YY,YY,YY,YY,YY,ZZ,YY,YY,YY,YY,ZZ,YY,YY,YY,ZZ,ZZ,ZZ,ZZ,ZZ,ZZ,ZZ,ZZ,ZZ,ZZ,ZZ,ZZ] ?_
        refine pU_ 14 26 #[YY,YY,YY,YY,YY,ZZ,YY,YY,YY,YY,ZZ,YY,YY,YY,YY,ZZ,ZZ,ZZ,ZZ,ZZ,ZZ,ZZ,ZZ,ZZ,ZZ,ZZ] ?_
        refine pU_ 17 29 #[YY,YY,YY,YY,YY,ZZ,YY,YY,YY,YY,ZZ,YY,YY,YY,YY,ZZ,ZZ,YY,ZZ,ZZ,ZZ,ZZ,ZZ,ZZ,ZZ,ZZ] ?_
        refine pU_ 18 30 #[YY,YY,YY,YY,YY,ZZ,YY,YY,YY,YY,ZZ,YY,YY,YY,YY,ZZ,ZZ,YY,YY,ZZ,ZZ,ZZ,ZZ,ZZ,ZZ,ZZ] ?_
        refine pU_ 19 31 #[YY,YY,YY,YY,YY,ZZ,YY,YY,YY,YY,ZZ,YY,YY,YY,YY,ZZ,ZZ,YY,YY,YY,ZZ,ZZ,ZZ,ZZ,ZZ,ZZ] ?_
        refine pU_ 20 32 #[YY,YY,YY,YY,YY,ZZ,YY,YY,YY,YY,ZZ,YY,YY,YY,YY,ZZ,ZZ,YY,YY,YY,YY,ZZ,ZZ,ZZ,ZZ,ZZ] ?_
        refine take_ (i := 5) (N := some 17) (v := ?_) (a' := ?_) #[YY,YY,YY,YY,YY,YY,YY,YY,YY,YY,ZZ,YY,YY,YY,YY,ZZ,ZZ,YY,YY,YY,YY,ZZ,ZZ,ZZ,ZZ,ZZ] rfl rfl (take_ofW HT_.out HW_.out (by kernel_rfl)) (fun _ _ _ h => h) (Or.inl ⟨by rfl, ?_⟩) hHeld ?_ ?_
        rotate_left
        ·rintro w' ⟨s0, s1, s2, s3, s4, s5, s6, s7, s8, s9, s10, s11, s12, s13, s14, s15, s16, s17, s18, s19, s20, s21, s22, s23⟩
         go_simp
         with_reducible rfl
        rotate_left
        ·simp only [Act.put, sA1, sA2, sA3, i64_w, i32_w]
         rfl
        refine take_ (i := 10) (N := some 22) (v := ?_) (a' := ?_) #[YY,YY,YY,YY,YY,YY,YY,YY,YY,YY,YY,YY,YY,YY,YY,ZZ,ZZ,YY,YY,YY,YY,ZZ,ZZ,ZZ,ZZ,ZZ] rfl rfl (take_ofW HT_.out HW_.out (by kernel_rfl)) (fun _ _ _ h => h) (Or.inl ⟨by rfl, ?_⟩) hHeld ?_ ?_
        rotate_left
        ·rintro w' ⟨s0, s1, s2, s3, s4, s5, s6, s7, s8, s9, s10, s11, s12, s13, s14, s15, s16, s17, s18, s19, s20, s21, s22, s23⟩
         go_simp
         with_reducible rfl
        rotate_left
        ·simp only [Act.put, sA1, sA2, sA3, i64_w, i32_w]
         rfl
        refine take_ (i := 15) (N := some 27) (v := ?_) (a' := ?_) #[YY,YY,YY,YY,YY,YY,YY,YY,YY,YY,YY,YY,YY,YY,YY,YY,ZZ,YY,YY,YY,YY,ZZ,ZZ,ZZ,ZZ,ZZ] rfl rfl (take_ofW HT_.out HW_.out (by kernel_rfl)) (fun _ _ _ h => h) (Or.inl ⟨by rfl, ?_⟩) hHeld ?_ ?_
        rotate_left
        ·rintro w' ⟨s0, s1, s2, s3, s4, s5, s6, s7, s8, s9, s10, s11, s12, s13, s14, s15, s16, s17, s18, s19, s20, s21, s22, s23⟩
         go_simp
         with_reducible rfl
        rotate_left
        ·simp only [Act.put, sA1, sA2, sA3, i64_w, i32_w]
         rfl
        refine pU_ 16 28 #[YY,YY,YY,YY,YY,YY,YY,YY,YY,YY,YY,YY,YY,YY,YY,YY,YY,YY,YY,YY,YY,ZZ,ZZ,ZZ,ZZ,ZZ] ?_
        refine take_ (i := 21) (N := some 33) (v := ?_) (a' := ?_) #[YY,YY,YY,YY,YY,YY,YY,YY,YY,YY,YY,YY,YY,YY,YY,YY,YY,YY,YY,YY,YY,YY,ZZ,ZZ,ZZ,ZZ] rfl rfl (take_ofW HT_.out HW_.out (by kernel_rfl)) (fun _ _ _ h => h) (Or.inl ⟨by rfl, ?_⟩) hHeld ?_ ?_
        rotate_left
        ·rintro w' ⟨s0, s1, s2, s3, s4, s5, s6, s7, s8, s9, s10, s11, s12, s13, s14, s15, s16, s17, s18, s19, s20, s21, s22, s23⟩
         go_simp
         with_reducible rfl
        rotate_left
        ·simp only [Act.put, sA1, sA2, sA3, i64_w, i32_w]
         rfl
        refine pU_ 22 34 #[YY,YY,YY,YY,YY,YY,YY,YY,YY,YY,YY,YY,YY,YY,YY,YY,YY,YY,YY,YY,YY,YY,YY,ZZ,ZZ,ZZ] ?_
        refine one_ (i := 23) (N := some 35) #[YY,YY,YY,YY,YY,YY,YY,YY,YY,YY,YY,YY,YY,YY,YY,YY,YY,YY,YY,YY,YY,YY,YY,YY,ZZ,ZZ] rfl rfl (one_of HT_.out (by kernel_rfl)) (by decide) (fun K hK => ?_)
        refine Kd.R_lit_step Kd.string _ 9 ?hg (N := 35) ?hd (xs := ([(rd_T32 l0 x4_1).f2, (rd_T32 l0 x4_1).f3, ((rd_T32 l0 x4_1).f2) ++ (⟨#[0]⟩ : BA), ((rd_T32 l0 x4_1).f3) ++ (⟨#[0]⟩ : BA)] : List ByteArray)) (inner := [.string ((rd_T32 l0 x4_1).f2), .string ((rd_T32 l0 x4_1).f3), .string (((rd_T32 l0 x4_1).f2) ++ (⟨#[0]⟩ : BA)), .string (((rd_T32 l0 x4_1).f3) ++ (⟨#[0]⟩ : BA))]) (ok := fun _ => True) (okp := fun _ => True) ?hr ?hp (fun _ hk => hk) trivial (Below.refl _ _) (Nat.le_refl _) (by simp) ?_; (case hd => rfl); (case hg => rfl); (case hr => first | (go_simp; done) | (go_simp; rfl)); (case hp => exact (Reps.one (show Kd.M Kd.string _ _ _ ((rd_T32 l0 x4_1).f2) [.string ((rd_T32 l0 x4_1).f2)] from rfl) (Reps.one (show Kd.M Kd.string _ _ _ ((rd_T32 l0 x4_1).f3) [.string ((rd_T32 l0 x4_1).f3)] from rfl) (Reps.one (show Kd.M Kd.string _ _ _ (((rd_T32 l0 x4_1).f2) ++ (⟨#[0]⟩ : BA)) [.string (((rd_T32 l0 x4_1).f2) ++ (⟨#[0]⟩ : BA))] from rfl) (Reps.one (show Kd.M Kd.string _ _ _ (((rd_T32 l0 x4_1).f3) ++ (⟨#[0]⟩ : BA)) [.string (((rd_T32 l0 x4_1).f3) ++ (⟨#[0]⟩ : BA))] from rfl) (Reps.none _ _))))))
        intro v850 w10 ho11 hb hg_ hnew_
        clear hg_ hnew_
        (first | rw [← Ny849.out] at ho11 | (simp only [Int.reduceToNat] at ho11; rw [← Ny849.out] at ho11))
        have n0_ := Aside0.mk (Kd.R_elder' (kR_ HO_3.out) (Kd.R_base ho11) hb)
        have n1_ := Aside0.mk (Kd.R_lower (Kd.R_new' ho11 (Kd.R_lt (kR_ HO_3.out))) (wZ bW_))
        have n2_ := Aside0.mk (wT bW_ hb)
        clear HO_3
        clear HB
        have HO_3 := n0_
        have HO851 := n1_
        have HB := n2_
        clear n0_ n1_ n2_
        clear hb ho11
        obtain ⟨Ao13, co13, eo13⟩ := Kd.R_slice HO851.out
        (first | subst eo13 | (injection eo13 with f1_ f2_ f3_; have f4_ := f1_.symm; have f5_ := f3_.symm; clear f1_ f2_ f3_; subst f4_; subst f5_))
        refine hK.out _ _ ⟨((HB.out.cell (World.block_lt_of_cell? w _ hw845_0)).trans hw845_0), ((HB.out.cell (World.block_lt_of_cell? w _ hw845_1)).trans hw845_1), ((HB.out.cell (World.block_lt_of_cell? w _ hw845_2)).trans hw845_2), ((HB.out.cell (World.block_lt_of_cell? w _ hw845_3)).trans hw845_3), ((HB.out.cell (World.block_lt_of_cell? w _ hw845_4)).trans hw845_4), ((HB.out.cell (World.block_lt_of_cell? w _ hw845_5)).trans hw845_5), ((HB.out.cell (World.block_lt_of_cell? w _ hw846_0)).trans hw846_0), ((HB.out.cell (World.block_lt_of_cell? w _ hw846_1)).trans hw846_1), ((HB.out.cell (World.block_lt_of_cell? w _ hw846_2)).trans hw846_2), ((HB.out.cell (World.block_lt_of_cell? w _ hw846_3)).trans hw846_3), ((HB.out.cell (World.block_lt_of_cell? w _ hw846_4)).trans hw846_4), ((HB.out.cell (World.block_lt_of_cell? w _ hw846_5)).trans hw846_5), ((HB.out.cell (World.block_lt_of_cell? w _ hw847_0)).trans hw847_0), ((HB.out.cell (World.block_lt_of_cell? w _ hw847_1)).trans hw847_1), ((HB.out.cell (World.block_lt_of_cell? w _ hw847_2)).trans hw847_2), ((HB.out.cell (World.block_lt_of_cell? w _ hw847_3)).trans hw847_3), ((HB.out.cell (World.block_lt_of_cell? w _ hw847_4)).trans hw847_4), ((HB.out.cell (World.block_lt_of_cell? w _ hw847_5)).trans hw847_5), ((HB.out.cell (World.block_lt_of_cell? w _ hw848_0)).trans hw848_0), ((HB.out.cell (World.block_lt_of_cell? w _ hw848_1)).trans hw848_1), ((HB.out.cell (World.block_lt_of_cell? w _ hw848_2)).trans hw848_2), ((HB.out.cell (World.block_lt_of_cell? w _ hw848_3)).trans hw848_3), ((HB.out.cell (World.block_lt_of_cell? w _ hw848_4)).trans hw848_4), ((HB.out.cell (World.block_lt_of_cell? w _ hw848_5)).trans hw848_5)⟩ (fun hHeld => ?_)
        clear hK K
        refine norm_ (a' := ?_) ?_ ?_
        rotate_left
        ·show Act.put _ (some 35) _ = _
         simp only [Act.put, sA1, sA2, sA3, i64_w, i32_w]
         rfl
        refine one_ (i := 24) (N := some 36) #[YY,YY,YY,YY,YY,YY,YY,YY,YY,YY,YY,YY,YY,YY,YY,YY,YY,YY,YY,YY,YY,YY,YY,YY,YY,ZZ] rfl rfl (one_of HT_.out (by kernel_rfl)) (by decide) (fun K hK => ?_)
        refine Kd.R_append_rows_step Kd.string (w0 := w) w.heap.size (by rfl) (.tmp 12) (.tmp 35) 24 9 (.string ⟨#[]⟩) 16 rfl Try.underlying24 info9 rfl (by decide) (by omega) u3 x3_1 y849 _ _ _ (fun k_ => some k_ ≠ (.slice Ao13 y849.length co13 : Value).ownBlock) (fun _ => False) rfl rfl ?aO ?aR (fun _ _ h => h) (fun _ h => h.elim) ?aF ?aB ?aS ?aL ?_
        (case aR => repeat (first | exact (Kd.R_reads' HO851.out).2.2 | (with_reducible refine Kd.C_alloc ?_ _) | (with_reducible refine Kd.C_drewN ?_ _) | (with_reducible refine Kd.C_drew ?_)))
        (case aB => exact bW_)
        (case aF => exact (fun k_ hk => Kd.fresh' (Kd.R_lt (kR_ HO851.out)) k_ hk))
        (case aO => exact (by (with_reducible repeat (first | apply Kd.R_alloc | apply Kd.R_drewN | apply Kd.R_drew)); exact Kd.R_mono HO_3.out (fun _ hk => hk.2)))
        (case aS => exact (wZ bW_))
        (case aL => have := LMc8.out; omega)
        intro v853 w12 ho hb hg hat
        rw [← Ny852.out] at ho
        have n0_ := Aside0.mk (Kd.R_after (ok := (fun _ => True)) (kR_ HO851.out) hg hat)
        have n1_ := Aside0.mk (hb)
        have n2_ := Aside0.mk (ho)
        clear HO851
        clear HB
        clear HO_3
        have HO851 := n0_
        have HB := n1_
        have HO854 := n2_
        clear n0_ n1_ n2_
        clear ho hb hg hat
        refine hK.out _ _ ⟨((HB.out.cell (World.block_lt_of_cell? w _ hw845_0)).trans hw845_0), ((HB.out.cell (World.block_lt_of_cell? w _ hw845_1)).trans hw845_1), ((HB.out.cell (World.block_lt_of_cell? w _ hw845_2)).trans hw845_2), ((HB.out.cell (World.block_lt_of_cell? w _ hw845_3)).trans hw845_3), ((HB.out.cell (World.block_lt_of_cell? w _ hw845_4)).trans hw845_4), ((HB.out.cell (World.block_lt_of_cell? w _ hw845_5)).trans hw845_5), ((HB.out.cell (World.block_lt_of_cell? w _ hw846_0)).trans hw846_0), ((HB.out.cell (World.block_lt_of_cell? w _ hw846_1)).trans hw846_1), ((HB.out.cell (World.block_lt_of_cell? w _ hw846_2)).trans hw846_2), ((HB.out.cell (World.block_lt_of_cell? w _ hw846_3)).trans hw846_3), ((HB.out.cell (World.block_lt_of_cell? w _ hw846_4)).trans hw846_4), ((HB.out.cell (World.block_lt_of_cell? w _ hw846_5)).trans hw846_5), ((HB.out.cell (World.block_lt_of_cell? w _ hw847_0)).trans hw847_0), ((HB.out.cell (World.block_lt_of_cell? w _ hw847_1)).trans hw847_1), ((HB.out.cell (World.block_lt_of_cell? w _ hw847_2)).trans hw847_2), ((HB.out.cell (World.block_lt_of_cell? w _ hw847_3)).trans hw847_3), ((HB.out.cell (World.block_lt_of_cell? w _ hw847_4)).trans hw847_4), ((HB.out.cell (World.block_lt_of_cell? w _ hw847_5)).trans hw847_5), ((HB.out.cell (World.block_lt_of_cell? w _ hw848_0)).trans hw848_0), ((HB.out.cell (World.block_lt_of_cell? w _ hw848_1)).trans hw848_1), ((HB.out.cell (World.block_lt_of_cell? w _ hw848_2)).trans hw848_2), ((HB.out.cell (World.block_lt_of_cell? w _ hw848_3)).trans hw848_3), ((HB.out.cell (World.block_lt_of_cell? w _ hw848_4)).trans hw848_4), ((HB.out.cell (World.block_lt_of_cell? w _ hw848_5)).trans hw848_5)⟩ (fun hHeld => ?_)
        clear hK K
        refine norm_ (a' := ?_) ?_ ?_
        rotate_left
        ·show Act.put _ (some 36) _ = _
         simp only [Act.put, sA1, sA2, sA3, i64_w, i32_w]
         rfl
        refine pU_ 25 3 #[YY,YY,YY,YY,YY,YY,YY,YY,YY,YY,YY,YY,YY,YY,YY,YY,YY,YY,YY,YY,YY,YY,YY,YY,YY,YY] ?_
        refine done_ (done_of HT_.out (by kernel_rfl)) ?_
        try go_wp2
        go_roundg k1
        case measure => have := HK1.out; omega
        case rel => exact ⟨(y852), (wrap64 (x4_1 + 1)), (by first | rfl | (simp; done) | (simp [*]; done)), H', ⟨by have := HK1.out; omega⟩, ⟨by (with_reducible repeat (first | apply Kd.R_alloc | apply Kd.R_drewN | apply Kd.R_drew)); exact Kd.R_mono HO854.out (fun _ hk => trivial)⟩, ⟨by repeat (first | (with_reducible first | exact HB.out | apply wA | apply wN | apply w1) | exact HB.out)⟩⟩
       ·rw [if_neg c8] at H
        exact absurd H (by simp)
      ·rw [if_neg c7] at H
       exact absurd H (by simp)
     ·rw [if_neg c6] at H
      exact absurd H (by simp)
    ·rw [if_neg c5] at H
     exact absurd H (by simp)
   ·rw [if_neg c4] at H
    have c4b0 : decide (x4_1 < (l0.length : Int)) = false := decide_eq_false c4
    clear c4
    obtain rfl := Option.some.inj H
    go_wp2
    go_ret
    exact ⟨_, by first | rfl | (simp [errW_none, errW_some] <;> rfl) | (simp [*, errW_none, errW_some] <;> rfl), by (with_reducible repeat (first | apply Kd.R_alloc | apply Kd.R_drewN | apply Kd.R_drew)); exact HO_3.out, by repeat (first | (with_reducible first | exact HB.out | apply wA | apply wN | apply w1) | exact HB.out)⟩
def catchmentref06_values.l0 : Nat → List (S32) → List ByteArray → Int → Option (List ByteArray)
 | 0, _, _, _ => none
 | k + 1, x0, x3, x4 => if x4 < (x0.length : Int) then (if 0 ≤ x4 then (if ((rd_T32 x0 x4).f0) = 1 then (if x3.length < 8796093022208 then (catchmentref06_values.l0 k x0 (x3 ++ [(rd_T32 x0 x4).f4]) (wrap64 (x4 + 1))) else (none)) else (catchmentref06_values.l0 k x0 x3 (wrap64 (x4 + 1)))) else (none)) else (some x3)
def catchmentref06_values.f (k : Nat) (l0 : List (S32)) : Option (List ByteArray) := (catchmentref03_Put.f k 0).bind fun t855 => ((catchmentref03_Put.f k 1).bind fun t856 => (catchmentref06_values.l0 k l0 (([(⟨#[]⟩ : BA), t855, t856] : List ByteArray)) 0))
set_option maxHeartbeats 8000000 in
set_option maxRecDepth 100000 in
theorem catchmentref06_values.calls (k : Nat) (A0 : Option Addr) (c0 : Nat) (l0 : List (S32)) (r : List ByteArray) (w : World) (hr0 : Kd.C k32 w A0 l0.length l0) (hc0 : l0.length ≤ c0) (h : catchmentref06_values.f k l0 = some r) :
  Calls Try.prog 115 #[.slice A0 l0.length c0] w fun e w' => ∃ v0_ : Value, e = .returned (v0_) ∧ Kd.R Kd.string 9 w' w.heap.size (fun _ => True) v0_ r ∧ Below w.heap.size w w' := by
 have HR0 := Aside0.mk hr0
 have HC0 := Aside0.mk hc0
 clear hr0 hc0
 have HB := Aside0.mk (Below.refl w.heap.size w)
 have H : ((catchmentref03_Put.f k 0).bind fun t855 => ((catchmentref03_Put.f k 1).bind fun t856 => (catchmentref06_values.l0 k l0 (([(⟨#[]⟩ : BA), t855, t856] : List ByteArray)) 0))) = some r := h
 clear h
 replace H := Option.bind_eq_some_iff.mp H
 obtain ⟨t855, A20, H⟩ := H
 replace H : ((catchmentref03_Put.f k 1).bind fun t856 => (catchmentref06_values.l0 k l0 (([(⟨#[]⟩ : BA), t855, t856] : List ByteArray)) 0)) = some r := H
 have A2 := Aside0.mk A20
 clear A20
 replace H := Option.bind_eq_some_iff.mp H
 obtain ⟨t856, A30, H⟩ := H
 replace H : (catchmentref06_values.l0 k l0 (([(⟨#[]⟩ : BA), t855, t856] : List ByteArray)) 0) = some r := H
 have A3 := Aside0.mk A30
 clear A30
 obtain ⟨y857, hy857⟩ : ∃ y_ : List ByteArray, y_ = (([(⟨#[]⟩ : BA), t855, t856] : List ByteArray)) := ⟨_, rfl⟩
 replace H : (catchmentref06_values.l0 k l0 y857 0) = some r := by first | (rw [hy857]; with_reducible exact H) | (have H2_ := (Option.bind_some _ _).symm.trans H; rw [hy857]; with_reducible exact H2_) | (have H2_ := (Option.bind_some _ _).symm.trans H; with_reducible exact H2_) | with_reducible exact H | (rw [hy857]; exact H) | exact H
 have Ny857 := Aside0.mk hy857
 clear hy857
 have H' := Aside0.mk H
 clear H
 go_enter Try.func115, Try.ntmps115
 go_wp2_with (first | ((with_reducible refine gate_callee (f := 128) rfl ?_); refine goesL_ (some 5) rfl rfl Try.func128 (by kernel_rfl) rfl #[.int .u64 0] rfl mS_ ?_; (with_reducible refine (catchmentref03_Put.calls k 0 t855 _ A2.out).mono ?_); rintro e w4 ⟨rfl, hb⟩; refine ⟨_, rfl, ?_⟩; have n0_ := Aside0.mk (wT bW_ hb); clear HB; have HB := n0_; clear n0_; (try clear hb); (try clear hb2); (try clear hk); (try clear hi)) | ((with_reducible refine gate_callee (f := 128) rfl ?_); refine goesL_ (some 6) rfl rfl Try.func128 (by kernel_rfl) rfl #[.int .u64 1] rfl mS_ ?_; (with_reducible refine (catchmentref03_Put.calls k 1 t856 _ A3.out).mono ?_); rintro e w5 ⟨rfl, hb⟩; refine ⟨_, rfl, ?_⟩; have n0_ := Aside0.mk (wT bW_ hb); clear HB; have HB := n0_; clear n0_; (try clear hb); (try clear hb2); (try clear hk); (try clear hi)) | ((with_reducible refine gate_dst (N := 7) rfl ?_); refine Kd.R_lit Kd.string _ 9 ?hg (N := 7) ?hd (xs := ([(⟨#[]⟩ : BA), t855, t856] : List ByteArray)) (inner := [.string (⟨#[]⟩ : BA), .string t855, .string t856]) (ok := fun _ => True) (okp := fun _ => True) ?hr ?hp (fun _ hk => hk) trivial (Below.refl _ _) (Nat.le_refl _) (by simp) ?_; (case hd => rfl); (case hg => rfl); (case hr => first | (go_simp; done) | (go_simp; rfl)); (case hp => exact (Reps.one (show Kd.M Kd.string _ _ _ (⟨#[]⟩ : BA) [.string (⟨#[]⟩ : BA)] from rfl) (Reps.one (show Kd.M Kd.string _ _ _ t855 [.string t855] from rfl) (Reps.one (show Kd.M Kd.string _ _ _ t856 [.string t856] from rfl) (Reps.none _ _))))); intro v858 w6 ho7 hb hg_ hnew_; clear hg_ hnew_; (first | rw [← Ny857.out] at ho7 | (simp only [Int.reduceToNat] at ho7; rw [← Ny857.out] at ho7)); have n0_ := Aside0.mk (Kd.R_lower ho7 (wZ bW_)); have n1_ := Aside0.mk (wT bW_ hb); clear HB; have HO859 := n0_; have HB := n1_; clear n0_ n1_; clear hb ho7))
 go_loopg [3, 4] k (fun kq v3 v4 w' => ∃ (x3_1 : List ByteArray) (x4_1 : Int), v4 = .int .i64 x4_1 ∧ Aside0 (catchmentref06_values.l0 kq l0 x3_1 x4_1 = some r) ∧ Aside0 (kq ≤ k) ∧ Aside0 (Kd.R Kd.string 9 w' w.heap.size (fun _ => True) v3 x3_1) ∧ Aside0 (Below w.heap.size w w'))
 case atStart => exact ⟨(y857), (0), (by first | rfl | (simp; done) | (simp [*]; done)), H', ⟨Nat.le_refl _⟩, ⟨by (with_reducible repeat (first | apply Kd.R_alloc | apply Kd.R_drewN | apply Kd.R_drew)); exact HO859.out⟩, ⟨by repeat (first | (with_reducible first | exact HB.out | apply wA | apply wN | apply w1) | exact HB.out)⟩⟩
 case round =>
  clear H'
  try clear c1
  try clear p2
  obtain ⟨x3_1, x4_1, rfl, HA, HK1, HO_3, HB⟩ := hrel
  cases gk with
  | zero => exact absurd HA.out (by simp [catchmentref06_values.l0])
  | succ k1 =>
   have H := HA.out
   clear HA
   simp only [catchmentref06_values.l0] at H
   by_cases c8 : x4_1 < (l0.length : Int)
   ·rw [if_pos c8] at H
    have c8b0 : decide (x4_1 < (l0.length : Int)) = true := decide_eq_true c8
    clear c8
    by_cases c9 : 0 ≤ x4_1
    ·rw [if_pos c9] at H
     have c9b0 : decide (0 ≤ x4_1) = true := decide_eq_true c9
     clear c9
     by_cases c10 : ((rd_T32 l0 x4_1).f0) = 1
     ·rw [if_pos c10] at H
      have c10b0 : (((rd_T32 l0 x4_1).f0) == 1) = true := beq_iff_eq.mpr c10
      have c10b1 : (((rd_T32 l0 x4_1).f0) != 1) = false := bne_eq_false_iff_eq.mpr c10
      clear c10
      by_cases c11 : x3_1.length < 8796093022208
      ·rw [if_pos c11] at H
       have LMc11 := Aside0.mk c11
       clear c11
       obtain ⟨y862, hy862⟩ : ∃ y_ : List ByteArray, y_ = (x3_1 ++ [(rd_T32 l0 x4_1).f4]) := ⟨_, rfl⟩
       replace H : (catchmentref06_values.l0 k1 l0 y862 (wrap64 (x4_1 + 1))) = some r := by first | (rw [hy862]; with_reducible exact H) | (have H2_ := (Option.bind_some _ _).symm.trans H; rw [hy862]; with_reducible exact H2_) | (have H2_ := (Option.bind_some _ _).symm.trans H; with_reducible exact H2_) | with_reducible exact H | (rw [hy862]; exact H) | exact H
       have Ny862 := Aside0.mk hy862
       clear hy862
       have H' := Aside0.mk H
       clear H
       have p860 : 0 ≤ (x4_1 : Int) := of_decide_eq_true (by first | (with_reducible assumption) | assumption)
       have q860 : x4_1 < (l0.length : Int) := of_decide_eq_true (by first | (with_reducible assumption) | assumption)
       obtain ⟨ad860, e860, hx860_0, hx860_1, hx860_2, hx860_3, hx860_4, hx860_5⟩ := at_T32 HR0.out x4_1 p860 q860
       cases e860
       replace hx860_0 := (HB.out.cell (World.block_lt_of_cell? w _ hx860_0)).trans hx860_0
       replace hx860_1 := (HB.out.cell (World.block_lt_of_cell? w _ hx860_1)).trans hx860_1
       replace hx860_2 := (HB.out.cell (World.block_lt_of_cell? w _ hx860_2)).trans hx860_2
       replace hx860_3 := (HB.out.cell (World.block_lt_of_cell? w _ hx860_3)).trans hx860_3
       replace hx860_4 := (HB.out.cell (World.block_lt_of_cell? w _ hx860_4)).trans hx860_4
       replace hx860_5 := (HB.out.cell (World.block_lt_of_cell? w _ hx860_5)).trans hx860_5
       replace p860 := eq_true p860
       replace q860 := eq_true q860
       have p861 : 0 ≤ (x4_1 : Int) := of_decide_eq_true (by first | (with_reducible assumption) | assumption)
       have q861 : x4_1 < (l0.length : Int) := of_decide_eq_true (by first | (with_reducible assumption) | assumption)
       obtain ⟨ad861, e861, hx861_0, hx861_1, hx861_2, hx861_3, hx861_4, hx861_5⟩ := at_T32 HR0.out x4_1 p861 q861
       obtain rfl : ad860 = ad861 := (by injection e861)
       replace hx861_0 := (HB.out.cell (World.block_lt_of_cell? w _ hx861_0)).trans hx861_0
       replace hx861_1 := (HB.out.cell (World.block_lt_of_cell? w _ hx861_1)).trans hx861_1
       replace hx861_2 := (HB.out.cell (World.block_lt_of_cell? w _ hx861_2)).trans hx861_2
       replace hx861_3 := (HB.out.cell (World.block_lt_of_cell? w _ hx861_3)).trans hx861_3
       replace hx861_4 := (HB.out.cell (World.block_lt_of_cell? w _ hx861_4)).trans hx861_4
       replace hx861_5 := (HB.out.cell (World.block_lt_of_cell? w _ hx861_5)).trans hx861_5
       replace p861 := eq_true p861
       replace q861 := eq_true q861
       go_wp2_with (first | ((with_reducible refine gate_builtin (b := .append) (xs := #[.tmp 20, .tmp 26]) rfl ?_); at_builtin; refine Kd.R_append Kd.string (w0 := w) w.heap.size rfl (.tmp 20) (.tmp 26) 24 9 (.string ⟨#[]⟩) 16 rfl Try.underlying24 info9 rfl (by decide) (by omega) u3 x3_1 ((rd_T32 l0 x4_1).f4) [.string ((rd_T32 l0 x4_1).f4)] (fun _ => True) (fun _ => False) rfl rfl ?aP (fun _ hk => hk.elim) ?aF ?aO ?aB ?aS ?aL ?_; (case aP => exact rfl); (case aB => exact bW_); (case aF => exact (fun _ _ => trivial)); (case aO => exact (kR_ HO_3.out)); (case aS => exact (wZ bW_)); (case aL => have := LMc11.out; omega); intro v863 w12 ho hb hg hat; rw [← Ny862.out] at ho; have n0_ := Aside0.mk (hb); have n1_ := Aside0.mk (ho); clear HB; clear HO_3; have HB := n0_; have HO864 := n1_; clear n0_ n1_; clear ho hb hg hat))
       go_roundg k1
       case measure => have := HK1.out; omega
       case rel => exact ⟨(y862), (wrap64 (x4_1 + 1)), (by first | rfl | (simp; done) | (simp [*]; done)), H', ⟨by have := HK1.out; omega⟩, ⟨by (with_reducible repeat (first | apply Kd.R_alloc | apply Kd.R_drewN | apply Kd.R_drew)); exact HO864.out⟩, ⟨by repeat (first | (with_reducible first | exact HB.out | apply wA | apply wN | apply w1) | exact HB.out)⟩⟩
      ·rw [if_neg c11] at H
       exact absurd H (by simp)
     ·rw [if_neg c10] at H
      have c10b0 : (((rd_T32 l0 x4_1).f0) == 1) = false := beq_eq_false_iff_ne.mpr c10
      have c10b1 : (((rd_T32 l0 x4_1).f0) != 1) = true := bne_iff_ne.mpr c10
      have H' := Aside0.mk H
      clear H
      have p860 : 0 ≤ (x4_1 : Int) := of_decide_eq_true (by first | (with_reducible assumption) | assumption)
      have q860 : x4_1 < (l0.length : Int) := of_decide_eq_true (by first | (with_reducible assumption) | assumption)
      obtain ⟨ad860, e860, hx860_0, hx860_1, hx860_2, hx860_3, hx860_4, hx860_5⟩ := at_T32 HR0.out x4_1 p860 q860
      cases e860
      replace hx860_0 := (HB.out.cell (World.block_lt_of_cell? w _ hx860_0)).trans hx860_0
      replace hx860_1 := (HB.out.cell (World.block_lt_of_cell? w _ hx860_1)).trans hx860_1
      replace hx860_2 := (HB.out.cell (World.block_lt_of_cell? w _ hx860_2)).trans hx860_2
      replace hx860_3 := (HB.out.cell (World.block_lt_of_cell? w _ hx860_3)).trans hx860_3
      replace hx860_4 := (HB.out.cell (World.block_lt_of_cell? w _ hx860_4)).trans hx860_4
      replace hx860_5 := (HB.out.cell (World.block_lt_of_cell? w _ hx860_5)).trans hx860_5
      replace p860 := eq_true p860
      replace q860 := eq_true q860
      go_wp2
      go_roundg k1
      case measure => have := HK1.out; omega
      case rel => exact ⟨(x3_1), (wrap64 (x4_1 + 1)), (by first | rfl | (simp; done) | (simp [*]; done)), H', ⟨by have := HK1.out; omega⟩, ⟨by (with_reducible repeat (first | apply Kd.R_alloc | apply Kd.R_drewN | apply Kd.R_drew)); exact HO_3.out⟩, ⟨by repeat (first | (with_reducible first | exact HB.out | apply wA | apply wN | apply w1) | exact HB.out)⟩⟩
    ·rw [if_neg c9] at H
     exact absurd H (by simp)
   ·rw [if_neg c8] at H
    have c8b0 : decide (x4_1 < (l0.length : Int)) = false := decide_eq_false c8
    clear c8
    obtain rfl := Option.some.inj H
    go_wp2
    go_ret
    exact ⟨_, by first | rfl | (simp [errW_none, errW_some] <;> rfl) | (simp [*, errW_none, errW_some] <;> rfl), by (with_reducible repeat (first | apply Kd.R_alloc | apply Kd.R_drewN | apply Kd.R_drew)); exact HO_3.out, by repeat (first | (with_reducible first | exact HB.out | apply wA | apply wN | apply w1) | exact HB.out)⟩
end Go.Proofs.Ytebejadiaooooaa.P
end
