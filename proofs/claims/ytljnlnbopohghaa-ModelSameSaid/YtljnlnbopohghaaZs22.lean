/- Texts of one claim (laid by shake.py). -/
import Derived.Test.YtljnlnbopohghaaZs3
import Derived.Test.YtljnlnbopohghaaZs7
import Derived.Test.YtljnlnbopohghaaZs13
import Derived.Test.YtljnlnbopohghaaZs11
set_option linter.unusedVariables false
set_option linter.unusedSimpArgs false
section
namespace Go.Proofs.Ytljnlnbopohghaa.P
open Go.RowKit Go.Proofs.YtljnlnbopohghaaW.PrintWords Go.Proofs.YtljnlnbopohghaaW.PrintLast Go.Proofs.YtljnlnbopohghaaW.PrintMore Go.Proofs.Ytljnlnbopohghaa.Own
attribute [local go_sem] max2_str max2_int min2_int max_two min_two max_three min_three max_four min_four   -- for this text's walks alone
theorem eqA117 (d : Nat) (w : World) (x0 y0 : Int) (x1 y1 : Int) (x2 y2 : BA) (x3 y3 : BA) (x4 y4 : BA) (x5 y5 : Int) :
  (Op.equalIn (d + 2) 117 (.agg #[.int .u8 x0, .int .i64 x1, .string x2, .string x3, .string x4, .int .u64 x5]) (.agg #[.int .u8 y0, .int .i64 y1, .string y2, .string y3, .string y4, .int .u64 y5])).run Try.prog w = .ok (x0 == y0 && (x1 == y1 && (x2.toList == y2.toList && (x3.toList == y3.toList && (x4.toList == y4.toList && (x5 == y5)))))) w := by
 refine eqA_of Try.underlying117 (by kernel_rfl) ?_
 refine eqf_cons (by rfl) (by go_simp; rfl) (by go_simp; rfl) (by go_simp) ?_
 refine eqf_cons (by rfl) (by go_simp; rfl) (by go_simp; rfl) (by go_simp) ?_
 refine eqf_cons (by rfl) (by go_simp; rfl) (by go_simp; rfl) (by go_simp) ?_
 refine eqf_cons (by rfl) (by go_simp; rfl) (by go_simp; rfl) (by go_simp) ?_
 refine eqf_cons (by rfl) (by go_simp; rfl) (by go_simp; rfl) (by go_simp) ?_
 exact eqf_last (by rfl) (by go_simp; rfl) (by go_simp; rfl) (by go_simp)
end Go.Proofs.Ytljnlnbopohghaa.P
end
section
namespace Go.Proofs.Ytljnlnbopohghaa.P
open Go.RowKit Go.Proofs.YtljnlnbopohghaaW.PrintWords Go.Proofs.YtljnlnbopohghaaW.PrintLast Go.Proofs.YtljnlnbopohghaaW.PrintMore Go.Proofs.Ytljnlnbopohghaa.Own
open Go.Proofs.YtljnlnbopohghaaW.PrintWords renaming blk_cell → bC, blk_frozen → bF, blk_drewN → bN, blk_alloc → bA, pw_below_drewN → wN, blk_drew → bD, below_drew1 → w1, below_set → wS, below_alloc → wA, blk_below → bB, below_step → wT, below_size → wZ
open List renaming setIfInBounds_toArray → sA1, set_cons_zero → sA2, set_cons_succ → sA3, map_toArray → mA1, map_cons → mA2, map_nil → mA3, length_take → mA4, length_drop → mA5
attribute [local go_sem] max2_str max2_int min2_int max_two min_two max_three min_three max_four min_four   -- for this text's walks alone
attribute [local go_sem high] eqA117
mutual
def msg_Check.j0 : Nat → Bool → Int → Int → ByteArray → ByteArray → ByteArray → Int → Int → Int → Int → Int → Int → Int → Int → Int → Int → Option (Int)
 | 0, _, _, _, _, _, _, _, _, _, _, _, _, _, _, _, _ => none
 | k + 1, x18, x174000, x174001, x174002, x174003, x174004, x174005, x175000, x175001, x175002, x175003, x175004, x175005, x175006, x175007, x175008 => if x18 = true then (some 3) else (if x174000 = 4 then (if (x174002.size : Int) > x175000 then (msg_Check.j1 k true x174000 x174001 x174002 x174003 x174004 x174005) else (msg_Check.j1 k (decide ((x174003.size : Int) > x175000)) x174000 x174001 x174002 x174003 x174004 x174005)) else (if x174000 = 1 then (if (x174004.size : Int) > x175001 then (some 6) else ((key_Right.f x174002 x175000).bind fun t185 => (if t185 = true then (some 0) else (some 6)))) else ((key_Right.f x174002 x175000).bind fun t181 => (if t181 = true then (some 0) else (some 6)))))
def msg_Check.j1 : Nat → Bool → Int → Int → ByteArray → ByteArray → ByteArray → Int → Option (Int)
 | 0, _, _, _, _, _, _, _ => none
 | k + 1, x38, x174000, x174001, x174002, x174003, x174004, x174005 => if x38 = true then (some 6) else ((msg_Span.f x174000 x174001 x174002 x174003 x174004 x174005).bind fun bt182 => ((key_RightRange.f bt182.1 bt182.2).bind fun t184 => (if t184 = true then (some 0) else (some 7))))
end
def msg_Check.f (k : Nat) (a0_0 : Int) (a0_1 : Int) (a0_2 : BA) (a0_3 : BA) (a0_4 : BA) (a0_5 : Int) (a1_0 : Int) (a1_1 : Int) (a1_2 : Int) (a1_3 : Int) (a1_4 : Int) (a1_5 : Int) (a1_6 : Int) (a1_7 : Int) (a1_8 : Int) : Option (Int) := if a0_0 < 1 then (msg_Check.j0 k true a0_0 a0_1 a0_2 a0_3 a0_4 a0_5 a1_0 a1_1 a1_2 a1_3 a1_4 a1_5 a1_6 a1_7 a1_8) else (if a0_0 > 4 then (msg_Check.j0 k true a0_0 a0_1 a0_2 a0_3 a0_4 a0_5 a1_0 a1_1 a1_2 a1_3 a1_4 a1_5 a1_6 a1_7 a1_8) else ((msg_bare.f a0_0 a0_1 a0_2 a0_3 a0_4 a0_5).bind fun bt175 => (msg_Check.j0 k (!(bt175.1 == 0) || (!(bt175.2.1 == 0) || (!(bt175.2.2.1.toList == ([] : List UInt8)) || (!(bt175.2.2.2.1.toList == ([] : List UInt8)) || (!(bt175.2.2.2.2.1.toList == ([] : List UInt8)) || (!(bt175.2.2.2.2.2 == 0))))))) a0_0 a0_1 a0_2 a0_3 a0_4 a0_5 a1_0 a1_1 a1_2 a1_3 a1_4 a1_5 a1_6 a1_7 a1_8)))
set_option maxHeartbeats 8000000 in
set_option maxRecDepth 100000 in
theorem msg_Check.calls (k : Nat) (a0_0 : Int) (a0_1 : Int) (a0_2 : BA) (a0_3 : BA) (a0_4 : BA) (a0_5 : Int) (a1_0 : Int) (a1_1 : Int) (a1_2 : Int) (a1_3 : Int) (a1_4 : Int) (a1_5 : Int) (a1_6 : Int) (a1_7 : Int) (a1_8 : Int) (r : Int) (w : World) (h : msg_Check.f k a0_0 a0_1 a0_2 a0_3 a0_4 a0_5 a1_0 a1_1 a1_2 a1_3 a1_4 a1_5 a1_6 a1_7 a1_8 = some r) :
  Calls Try.prog 101 #[.agg #[.int .u8 a0_0, .int .i64 a0_1, .string a0_2, .string a0_3, .string a0_4, .int .u64 a0_5], .agg #[.int .i64 a1_0, .int .i64 a1_1, .int .i64 a1_2, .int .i64 a1_3, .int .i64 a1_4, .int .i64 a1_5, .int .i64 a1_6, .int .i64 a1_7, .int .i64 a1_8]] w fun e w' => e = .returned (.int .i64 r) ∧ Below w.heap.size w w' := by
 have hu117 := Try.underlying117
 have hu47 := Try.underlying47
 have HB := Aside0.mk (Below.refl w.heap.size w)
 have H : (if a0_0 < 1 then (msg_Check.j0 k true a0_0 a0_1 a0_2 a0_3 a0_4 a0_5 a1_0 a1_1 a1_2 a1_3 a1_4 a1_5 a1_6 a1_7 a1_8) else (if a0_0 > 4 then (msg_Check.j0 k true a0_0 a0_1 a0_2 a0_3 a0_4 a0_5 a1_0 a1_1 a1_2 a1_3 a1_4 a1_5 a1_6 a1_7 a1_8) else ((msg_bare.f a0_0 a0_1 a0_2 a0_3 a0_4 a0_5).bind fun bt175 => (msg_Check.j0 k (!(bt175.1 == 0) || (!(bt175.2.1 == 0) || (!(bt175.2.2.1.toList == ([] : List UInt8)) || (!(bt175.2.2.2.1.toList == ([] : List UInt8)) || (!(bt175.2.2.2.2.1.toList == ([] : List UInt8)) || (!(bt175.2.2.2.2.2 == 0))))))) a0_0 a0_1 a0_2 a0_3 a0_4 a0_5 a1_0 a1_1 a1_2 a1_3 a1_4 a1_5 a1_6 a1_7 a1_8)))) = some r := h
 clear h
 have HC3 := Aside0.mk H
 clear H
 go_enter Try.func101, Try.ntmps101
 go_upto_region 1 with (first | ((with_reducible refine gate_dst (N := 2) rfl ?_); (try (refine gate_guard (by rfl) ?_; dsimp only)); refine box_event ?hg (N := 2) ?hd (cs := #[.int .u8 a0_0, .int .i64 a0_1, .string a0_2, .string a0_3, .string a0_4, .int .u64 a0_5]) (t := 117) ?hr ?_; (case hd => rfl); (case hg => rfl); (case hr => first | (go_simp; done) | (go_simp; rfl)); intro gb173 hg w4 hbox hb; have n0_ := Aside0.mk (wT bW_ hb); have n1_ := Aside0.mk (hbox); have n2_ := Aside0.mk ((by rw [hg]; exact (wZ bW_) : w.heap.size ≤ gb173)); have n3_ := n2_; clear HB; have HB := n0_; have BK173 := n1_; have GW173 := n2_; have GE173 := n3_; clear n0_ n1_ n2_ n3_; clear hb hbox hg) | ((with_reducible refine gate_dst (N := 3) rfl ?_); (try (refine gate_guard (by rfl) ?_; dsimp only)); refine box_event ?hg (N := 3) ?hd (cs := #[.int .i64 a1_0, .int .i64 a1_1, .int .i64 a1_2, .int .i64 a1_3, .int .i64 a1_4, .int .i64 a1_5, .int .i64 a1_6, .int .i64 a1_7, .int .i64 a1_8]) (t := 47) ?hr ?_; (case hd => rfl); (case hg => rfl); (case hr => first | (go_simp; done) | (go_simp; rfl)); intro gb174 hg w5 hbox hb; have n0_ := Aside0.mk (bB (bX_ BK173.out) hb); have n1_ := Aside0.mk (wT (bS1_ GE173.out) hb); have n2_ := Aside0.mk (hbox); have n3_ := Aside0.mk ((by rw [hg]; exact (wZ (bS1_ GE173.out)) : w.heap.size ≤ gb174)); have n4_ := n3_; have n5_ := Aside0.mk ((by rw [hg]; exact Nat.ne_of_lt (blk_lt (g := gb173) (o := .cells #[.int .u8 a0_0, .int .i64 a0_1, .string a0_2, .string a0_3, .string a0_4, .int .u64 a0_5] 117 (0, 0)) (bX_ BK173.out)) : gb173 ≠ gb174)); have n6_ := Aside0.mk ((by rw [hg]; exact Nat.ne_of_gt (blk_lt (g := gb173) (o := .cells #[.int .u8 a0_0, .int .i64 a0_1, .string a0_2, .string a0_3, .string a0_4, .int .u64 a0_5] 117 (0, 0)) (bX_ BK173.out)) : gb174 ≠ gb173)); clear BK173; clear HB; have BK173 := n0_; have HB := n1_; have BK174 := n2_; have GW174 := n3_; have GE174 := n4_; have NB173_174 := n5_; have NB174_173 := n6_; clear n0_ n1_ n2_ n3_ n4_ n5_ n6_; clear hb hbox hg))
 (try simp only [Act.put, sA1, sA2, sA3])
 go_cut [18] (fun v18 wc => ∃ (kq : Nat) (x18_2 : Bool), v18 = .bool x18_2 ∧ Aside0 (msg_Check.j0 kq x18_2 a0_0 a0_1 a0_2 a0_3 a0_4 a0_5 a1_0 a1_1 a1_2 a1_3 a1_4 a1_5 a1_6 a1_7 a1_8 = some r) ∧ Aside0 (kq ≤ k) ∧ Aside0 (wc.heap[gb173]? = some (.cells #[.int .u8 a0_0, .int .i64 a0_1, .string a0_2, .string a0_3, .string a0_4, .int .u64 a0_5] 117 (0, 0))) ∧ Aside0 (wc.heap[gb174]? = some (.cells #[.int .i64 a1_0, .int .i64 a1_1, .int .i64 a1_2, .int .i64 a1_3, .int .i64 a1_4, .int .i64 a1_5, .int .i64 a1_6, .int .i64 a1_7, .int .i64 a1_8] 47 (0, 0))) ∧ Aside0 (Below w.heap.size w wc))
 case first =>
  have H := HC3.out
  clear HC3
  by_cases c6 : a0_0 < 1
  ·rw [if_pos c6] at H
   have c6b0 : decide (a0_0 < 1) = true := decide_eq_true c6
   clear c6
   (first | rw [c6b0] | (simp only [i64_w, i32_w]; rw [c6b0]) | skip)
   have H' := Aside0.mk H
   clear H
   have hnb7 := NB173_174.out
   have hnc7 := NB174_173.out
   have hcz8_0 := cz_ BK173.out 0
   have hcz8_1 := cz_ BK173.out 1
   have hcz8_2 := cz_ BK173.out 2
   have hcz8_3 := cz_ BK173.out 3
   have hcz8_4 := cz_ BK173.out 4
   have hcz8_5 := cz_ BK173.out 5
   have hfz8_0 := bF BK173.out 0
   have hfz8_1 := bF BK173.out 1
   have hfz8_2 := bF BK173.out 2
   have hfz8_3 := bF BK173.out 3
   have hfz8_4 := bF BK173.out 4
   have hfz8_5 := bF BK173.out 5
   go_wp2
   go_meet
   case rel => exact ⟨_, (true), (by first | rfl | (simp; done) | (simp [*]; done)), H', ⟨by first | omega | exact Nat.le_refl _⟩, ⟨by (with_reducible repeat (first | refine bN ?_ _ | refine bD ?_ | refine bA ?_ _)); exact BK173.out⟩, ⟨by (with_reducible repeat (first | refine bN ?_ _ | refine bD ?_ | refine bA ?_ _)); exact BK174.out⟩, ⟨by repeat (first | (with_reducible first | exact HB.out | apply wA | apply wN | apply w1 | refine wS ?_ GE173.out | refine wS ?_ GE174.out) | exact HB.out)⟩⟩
  ·rw [if_neg c6] at H
   have c6b0 : decide (a0_0 < 1) = false := decide_eq_false c6
   clear c6
   (first | rw [c6b0] | (simp only [i64_w, i32_w]; rw [c6b0]) | skip)
   by_cases c9 : a0_0 > 4
   ·rw [if_pos c9] at H
    have c9b0 : decide (4 < a0_0) = true := decide_eq_true c9
    clear c9
    have H' := Aside0.mk H
    clear H
    have hnb10 := NB173_174.out
    have hnc10 := NB174_173.out
    have hcz11_0 := cz_ BK173.out 0
    have hcz11_1 := cz_ BK173.out 1
    have hcz11_2 := cz_ BK173.out 2
    have hcz11_3 := cz_ BK173.out 3
    have hcz11_4 := cz_ BK173.out 4
    have hcz11_5 := cz_ BK173.out 5
    have hfz11_0 := bF BK173.out 0
    have hfz11_1 := bF BK173.out 1
    have hfz11_2 := bF BK173.out 2
    have hfz11_3 := bF BK173.out 3
    have hfz11_4 := bF BK173.out 4
    have hfz11_5 := bF BK173.out 5
    go_wp2
    go_meet
    case rel => exact ⟨_, (true), (by first | rfl | (simp; done) | (simp [*]; done)), H', ⟨by first | omega | exact Nat.le_refl _⟩, ⟨by (with_reducible repeat (first | refine bN ?_ _ | refine bD ?_ | refine bA ?_ _)); exact BK173.out⟩, ⟨by (with_reducible repeat (first | refine bN ?_ _ | refine bD ?_ | refine bA ?_ _)); exact BK174.out⟩, ⟨by repeat (first | (with_reducible first | exact HB.out | apply wA | apply wN | apply w1 | refine wS ?_ GE173.out | refine wS ?_ GE174.out) | exact HB.out)⟩⟩
   ·rw [if_neg c9] at H
    have c9b0 : decide (4 < a0_0) = false := decide_eq_false c9
    clear c9
    replace H := Option.bind_eq_some_iff.mp H
    obtain ⟨⟨t175, t176, t177, t178, t179, t180⟩, A120, H⟩ := H
    replace H : (msg_Check.j0 k (!(t175 == 0) || (!(t176 == 0) || (!(t177.toList == ([] : List UInt8)) || (!(t178.toList == ([] : List UInt8)) || (!(t179.toList == ([] : List UInt8)) || (!(t180 == 0))))))) a0_0 a0_1 a0_2 a0_3 a0_4 a0_5 a1_0 a1_1 a1_2 a1_3 a1_4 a1_5 a1_6 a1_7 a1_8) = some r := H
    have A12 := Aside0.mk A120
    clear A120
    have H' := Aside0.mk H
    clear H
    have hnb13 := NB173_174.out
    have hnc13 := NB174_173.out
    have hcz14_0 := cz_ BK173.out 0
    have hcz14_1 := cz_ BK173.out 1
    have hcz14_2 := cz_ BK173.out 2
    have hcz14_3 := cz_ BK173.out 3
    have hcz14_4 := cz_ BK173.out 4
    have hcz14_5 := cz_ BK173.out 5
    have hfz14_0 := bF BK173.out 0
    have hfz14_1 := bF BK173.out 1
    have hfz14_2 := bF BK173.out 2
    have hfz14_3 := bF BK173.out 3
    have hfz14_4 := bF BK173.out 4
    have hfz14_5 := bF BK173.out 5
    go_wp2_with (first | (go_at_call 114; (with_reducible refine (msg_bare.calls a0_0 a0_1 a0_2 a0_3 a0_4 a0_5 t175 t176 t177 t178 t179 t180 _ A12.out).mono ?_); rintro e w15 ⟨rfl, hb⟩; have n0_ := Aside0.mk (bB (bX_ BK173.out) hb); have n1_ := Aside0.mk (bB (bX_ BK174.out) hb); have n2_ := Aside0.mk (wT (bS2_ GE173.out GE174.out) hb); clear BK173; clear BK174; clear HB; have BK173 := n0_; have BK174 := n1_; have HB := n2_; clear n0_ n1_ n2_; (try clear hb); (try clear hb2); (try clear hk); (try clear hi)))
    go_meet
    case rel => exact ⟨_, ((!(t175 == 0) || (!(t176 == 0) || (!(t177.toList == ([] : List UInt8)) || (!(t178.toList == ([] : List UInt8)) || (!(t179.toList == ([] : List UInt8)) || (!(t180 == 0)))))))), (by first | rfl | (simp; done) | (simp [*]; done)), H', ⟨by first | omega | exact Nat.le_refl _⟩, ⟨by (with_reducible repeat (first | refine bN ?_ _ | refine bD ?_ | refine bA ?_ _)); exact BK173.out⟩, ⟨by (with_reducible repeat (first | refine bN ?_ _ | refine bD ?_ | refine bA ?_ _)); exact BK174.out⟩, ⟨by repeat (first | (with_reducible first | exact HB.out | apply wA | apply wN | apply w1 | refine wS ?_ GE173.out | refine wS ?_ GE174.out) | exact HB.out)⟩⟩
 case rest =>
  clear HC3
  try clear c1
  try clear p2
  try clear c6
  try clear c6b0
  try clear c7
  try clear c9
  try clear c9b0
  try clear c10
  try clear c13
  try clear hcz11_0
  try clear hcz11_1
  try clear hcz11_2
  try clear hcz11_3
  try clear hcz11_4
  try clear hcz11_5
  try clear hcz14_0
  try clear hcz14_1
  try clear hcz14_2
  try clear hcz14_3
  try clear hcz14_4
  try clear hcz14_5
  try clear hcz8_0
  try clear hcz8_1
  try clear hcz8_2
  try clear hcz8_3
  try clear hcz8_4
  try clear hcz8_5
  try clear hfz11_0
  try clear hfz11_1
  try clear hfz11_2
  try clear hfz11_3
  try clear hfz11_4
  try clear hfz11_5
  try clear hfz14_0
  try clear hfz14_1
  try clear hfz14_2
  try clear hfz14_3
  try clear hfz14_4
  try clear hfz14_5
  try clear hfz8_0
  try clear hfz8_1
  try clear hfz8_2
  try clear hfz8_3
  try clear hfz8_4
  try clear hfz8_5
  obtain ⟨kq, x18_2, rfl, HA, HJ2, BK173, BK174, HB⟩ := hcut
  cases kq with
  | zero => exact absurd HA.out (by simp [msg_Check.j0])
  | succ kj2 =>
   have H := HA.out
   clear HA
   simp only [msg_Check.j0] at H
   by_cases c16 : x18_2 = true
   ·subst c16
    have H1 : (some 3) = some r := by rw [if_pos rfl] at H; exact H
    clear H
    have H := H1
    clear H1
    obtain rfl := Option.some.inj H
    go_wp2
    go_ret
    exact ⟨by first | rfl | (simp [errW_none, errW_some] <;> rfl) | (simp [*, errW_none, errW_some] <;> rfl), by repeat (first | (with_reducible first | exact HB.out | apply wA | apply wN | apply w1 | refine wS ?_ GE173.out | refine wS ?_ GE174.out) | exact HB.out)⟩
   ·replace c16 := Bool.eq_false_iff.mpr c16
    subst c16
    have H1 : (if a0_0 = 4 then (if (a0_2.size : Int) > a1_0 then (msg_Check.j1 kj2 true a0_0 a0_1 a0_2 a0_3 a0_4 a0_5) else (msg_Check.j1 kj2 (decide ((a0_3.size : Int) > a1_0)) a0_0 a0_1 a0_2 a0_3 a0_4 a0_5)) else (if a0_0 = 1 then (if (a0_4.size : Int) > a1_1 then (some 6) else ((key_Right.f a0_2 a1_0).bind fun t185 => (if t185 = true then (some 0) else (some 6)))) else ((key_Right.f a0_2 a1_0).bind fun t181 => (if t181 = true then (some 0) else (some 6))))) = some r := by rw [if_neg (show ¬ (false = true) by decide)] at H; exact H
    clear H
    have H := H1
    clear H1
    by_cases c17 : a0_0 = 4
    ·rw [if_pos c17] at H
     have c17b0 : (a0_0 == 4) = true := beq_iff_eq.mpr c17
     have c17b1 : (a0_0 != 4) = false := bne_eq_false_iff_eq.mpr c17
     clear c17
     have HC18 := Aside0.mk H
     clear H
     have hnb19 := NB173_174.out
     have hnc19 := NB174_173.out
     have hcz20_0 := cz_ BK173.out 0
     have hcz20_1 := cz_ BK173.out 1
     have hcz20_2 := cz_ BK173.out 2
     have hcz20_3 := cz_ BK173.out 3
     have hcz20_4 := cz_ BK173.out 4
     have hcz20_5 := cz_ BK173.out 5
     have hfz20_0 := bF BK173.out 0
     have hfz20_1 := bF BK173.out 1
     have hfz20_2 := bF BK173.out 2
     have hfz20_3 := bF BK173.out 3
     have hfz20_4 := bF BK173.out 4
     have hfz20_5 := bF BK173.out 5
     go_upto_region 6 with (fail)
     go_cut [38] (fun v38 wc => ∃ (kq : Nat) (x38_17 : Bool), v38 = .bool x38_17 ∧ Aside0 (msg_Check.j1 kq x38_17 a0_0 a0_1 a0_2 a0_3 a0_4 a0_5 = some r) ∧ Aside0 (kq ≤ kj2) ∧ Aside0 (wc.heap[gb173]? = some (.cells #[.int .u8 a0_0, .int .i64 a0_1, .string a0_2, .string a0_3, .string a0_4, .int .u64 a0_5] 117 (0, 0))) ∧ Aside0 (wc.heap[gb174]? = some (.cells #[.int .i64 a1_0, .int .i64 a1_1, .int .i64 a1_2, .int .i64 a1_3, .int .i64 a1_4, .int .i64 a1_5, .int .i64 a1_6, .int .i64 a1_7, .int .i64 a1_8] 47 (0, 0))) ∧ Aside0 (Below w.heap.size w wc))
     case first =>
      have H := HC18.out
      clear HC18
      by_cases c21 : (a0_2.size : Int) > a1_0
      ·rw [if_pos c21] at H
       have c21b0 : decide (a1_0 < (a0_2.size : Int)) = true := decide_eq_true c21
       clear c21
       (first | rw [c21b0] | (simp only [i64_w, i32_w]; rw [c21b0]) | skip)
       have H' := Aside0.mk H
       clear H
       have hnb22 := NB173_174.out
       have hnc22 := NB174_173.out
       have hcz23_0 := cz_ BK173.out 0
       have hcz23_1 := cz_ BK173.out 1
       have hcz23_2 := cz_ BK173.out 2
       have hcz23_3 := cz_ BK173.out 3
       have hcz23_4 := cz_ BK173.out 4
       have hcz23_5 := cz_ BK173.out 5
       have hfz23_0 := bF BK173.out 0
       have hfz23_1 := bF BK173.out 1
       have hfz23_2 := bF BK173.out 2
       have hfz23_3 := bF BK173.out 3
       have hfz23_4 := bF BK173.out 4
       have hfz23_5 := bF BK173.out 5
       have hcz24_0 := cz_ BK174.out 0
       have hcz24_1 := cz_ BK174.out 1
       have hcz24_2 := cz_ BK174.out 2
       have hcz24_3 := cz_ BK174.out 3
       have hcz24_4 := cz_ BK174.out 4
       have hcz24_5 := cz_ BK174.out 5
       have hcz24_6 := cz_ BK174.out 6
       have hcz24_7 := cz_ BK174.out 7
       have hcz24_8 := cz_ BK174.out 8
       have hfz24_0 := bF BK174.out 0
       have hfz24_1 := bF BK174.out 1
       have hfz24_2 := bF BK174.out 2
       have hfz24_3 := bF BK174.out 3
       have hfz24_4 := bF BK174.out 4
       have hfz24_5 := bF BK174.out 5
       have hfz24_6 := bF BK174.out 6
       have hfz24_7 := bF BK174.out 7
       have hfz24_8 := bF BK174.out 8
       go_wp2
       go_meet
       case rel => exact ⟨_, (true), (by first | rfl | (simp; done) | (simp [*]; done)), H', ⟨by have := HJ2.out; first | omega | exact Nat.le_refl _⟩, ⟨by (with_reducible repeat (first | refine bN ?_ _ | refine bD ?_ | refine bA ?_ _)); exact BK173.out⟩, ⟨by (with_reducible repeat (first | refine bN ?_ _ | refine bD ?_ | refine bA ?_ _)); exact BK174.out⟩, ⟨by repeat (first | (with_reducible first | exact HB.out | apply wA | apply wN | apply w1 | refine wS ?_ GE173.out | refine wS ?_ GE174.out) | exact HB.out)⟩⟩
      ·rw [if_neg c21] at H
       have c21b0 : decide (a1_0 < (a0_2.size : Int)) = false := decide_eq_false c21
       clear c21
       (first | rw [c21b0] | (simp only [i64_w, i32_w]; rw [c21b0]) | skip)
       have H' := Aside0.mk H
       clear H
       have hnb25 := NB173_174.out
       have hnc25 := NB174_173.out
       have hcz26_0 := cz_ BK173.out 0
       have hcz26_1 := cz_ BK173.out 1
       have hcz26_2 := cz_ BK173.out 2
       have hcz26_3 := cz_ BK173.out 3
       have hcz26_4 := cz_ BK173.out 4
       have hcz26_5 := cz_ BK173.out 5
       have hfz26_0 := bF BK173.out 0
       have hfz26_1 := bF BK173.out 1
       have hfz26_2 := bF BK173.out 2
       have hfz26_3 := bF BK173.out 3
       have hfz26_4 := bF BK173.out 4
       have hfz26_5 := bF BK173.out 5
       have hcz27_0 := cz_ BK174.out 0
       have hcz27_1 := cz_ BK174.out 1
       have hcz27_2 := cz_ BK174.out 2
       have hcz27_3 := cz_ BK174.out 3
       have hcz27_4 := cz_ BK174.out 4
       have hcz27_5 := cz_ BK174.out 5
       have hcz27_6 := cz_ BK174.out 6
       have hcz27_7 := cz_ BK174.out 7
       have hcz27_8 := cz_ BK174.out 8
       have hfz27_0 := bF BK174.out 0
       have hfz27_1 := bF BK174.out 1
       have hfz27_2 := bF BK174.out 2
       have hfz27_3 := bF BK174.out 3
       have hfz27_4 := bF BK174.out 4
       have hfz27_5 := bF BK174.out 5
       have hfz27_6 := bF BK174.out 6
       have hfz27_7 := bF BK174.out 7
       have hfz27_8 := bF BK174.out 8
       go_wp2
       go_meet
       case rel => exact ⟨_, (decide ((a0_3.size : Int) > a1_0)), (by first | rfl | (simp; done) | (simp [*]; done)), H', ⟨by have := HJ2.out; first | omega | exact Nat.le_refl _⟩, ⟨by (with_reducible repeat (first | refine bN ?_ _ | refine bD ?_ | refine bA ?_ _)); exact BK173.out⟩, ⟨by (with_reducible repeat (first | refine bN ?_ _ | refine bD ?_ | refine bA ?_ _)); exact BK174.out⟩, ⟨by repeat (first | (with_reducible first | exact HB.out | apply wA | apply wN | apply w1 | refine wS ?_ GE173.out | refine wS ?_ GE174.out) | exact HB.out)⟩⟩
     case rest =>
      clear HC18
      try clear c1
      try clear c2
      try clear p2
      try clear c6
      try clear c6b0
      try clear c7
      try clear c9
      try clear c9b0
      try clear c10
      try clear c13
      try clear c16
      try clear c17
      try clear c17b0
      try clear c17b1
      try clear c19
      try clear c21
      try clear c21b0
      try clear c22
      try clear c25
      try clear hcz11_0
      try clear hcz11_1
      try clear hcz11_2
      try clear hcz11_3
      try clear hcz11_4
      try clear hcz11_5
      try clear hcz14_0
      try clear hcz14_1
      try clear hcz14_2
      try clear hcz14_3
      try clear hcz14_4
      try clear hcz14_5
      try clear hcz20_0
      try clear hcz20_1
      try clear hcz20_2
      try clear hcz20_3
      try clear hcz20_4
      try clear hcz20_5
      try clear hcz23_0
      try clear hcz23_1
      try clear hcz23_2
      try clear hcz23_3
      try clear hcz23_4
      try clear hcz23_5
      try clear hcz24_0
      try clear hcz24_1
      try clear hcz24_2
      try clear hcz24_3
      try clear hcz24_4
      try clear hcz24_5
      try clear hcz24_6
      try clear hcz24_7
      try clear hcz24_8
      try clear hcz26_0
      try clear hcz26_1
      try clear hcz26_2
      try clear hcz26_3
      try clear hcz26_4
      try clear hcz26_5
      try clear hcz27_0
      try clear hcz27_1
      try clear hcz27_2
      try clear hcz27_3
      try clear hcz27_4
      try clear hcz27_5
      try clear hcz27_6
      try clear hcz27_7
      try clear hcz27_8
      try clear hcz8_0
      try clear hcz8_1
      try clear hcz8_2
      try clear hcz8_3
      try clear hcz8_4
      try clear hcz8_5
      try clear hfz11_0
      try clear hfz11_1
      try clear hfz11_2
      try clear hfz11_3
      try clear hfz11_4
      try clear hfz11_5
      try clear hfz14_0
      try clear hfz14_1
      try clear hfz14_2
      try clear hfz14_3
      try clear hfz14_4
      try clear hfz14_5
      try clear hfz20_0
      try clear hfz20_1
      try clear hfz20_2
      try clear hfz20_3
      try clear hfz20_4
      try clear hfz20_5
      try clear hfz23_0
      try clear hfz23_1
      try clear hfz23_2
      try clear hfz23_3
      try clear hfz23_4
      try clear hfz23_5
      try clear hfz24_0
      try clear hfz24_1
      try clear hfz24_2
      try clear hfz24_3
      try clear hfz24_4
      try clear hfz24_5
      try clear hfz24_6
      try clear hfz24_7
      try clear hfz24_8
      try clear hfz26_0
      try clear hfz26_1
      try clear hfz26_2
      try clear hfz26_3
      try clear hfz26_4
      try clear hfz26_5
      try clear hfz27_0
      try clear hfz27_1
      try clear hfz27_2
      try clear hfz27_3
      try clear hfz27_4
      try clear hfz27_5
      try clear hfz27_6
      try clear hfz27_7
      try clear hfz27_8
      try clear hfz8_0
      try clear hfz8_1
      try clear hfz8_2
      try clear hfz8_3
      try clear hfz8_4
      try clear hfz8_5
      try clear p2
      obtain ⟨kq, x38_17, rfl, HA, HJ17, BK173, BK174, HB⟩ := hcut
      cases kq with
      | zero => exact absurd HA.out (by simp [msg_Check.j1])
      | succ kj17 =>
       have H := HA.out
       clear HA
       simp only [msg_Check.j1] at H
       by_cases c28 : x38_17 = true
       ·subst c28
        have H1 : (some 6) = some r := by rw [if_pos rfl] at H; exact H
        clear H
        have H := H1
        clear H1
        obtain rfl := Option.some.inj H
        go_wp2
        go_ret
        exact ⟨by first | rfl | (simp [errW_none, errW_some] <;> rfl) | (simp [*, errW_none, errW_some] <;> rfl), by repeat (first | (with_reducible first | exact HB.out | apply wA | apply wN | apply w1 | refine wS ?_ GE173.out | refine wS ?_ GE174.out) | exact HB.out)⟩
       ·replace c28 := Bool.eq_false_iff.mpr c28
        subst c28
        have H1 : ((msg_Span.f a0_0 a0_1 a0_2 a0_3 a0_4 a0_5).bind fun bt182 => ((key_RightRange.f bt182.1 bt182.2).bind fun t184 => (if t184 = true then (some 0) else (some 7)))) = some r := by rw [if_neg (show ¬ (false = true) by decide)] at H; exact H
        clear H
        have H := H1
        clear H1
        replace H := Option.bind_eq_some_iff.mp H
        obtain ⟨⟨t182, t183⟩, A290, H⟩ := H
        replace H : ((key_RightRange.f t182 t183).bind fun t184 => (if t184 = true then (some 0) else (some 7))) = some r := H
        have A29 := Aside0.mk A290
        clear A290
        replace H := Option.bind_eq_some_iff.mp H
        obtain ⟨t184, A300, H⟩ := H
        replace H : (if t184 = true then (some 0) else (some 7)) = some r := H
        have A30 := Aside0.mk A300
        clear A300
        by_cases c31 : t184 = true
        ·subst c31
         have H1 : (some 0) = some r := by rw [if_pos rfl] at H; exact H
         clear H
         have H := H1
         clear H1
         obtain rfl := Option.some.inj H
         have hnb32 := NB173_174.out
         have hnc32 := NB174_173.out
         have hcz33_0 := cz_ BK173.out 0
         have hcz33_1 := cz_ BK173.out 1
         have hcz33_2 := cz_ BK173.out 2
         have hcz33_3 := cz_ BK173.out 3
         have hcz33_4 := cz_ BK173.out 4
         have hcz33_5 := cz_ BK173.out 5
         have hfz33_0 := bF BK173.out 0
         have hfz33_1 := bF BK173.out 1
         have hfz33_2 := bF BK173.out 2
         have hfz33_3 := bF BK173.out 3
         have hfz33_4 := bF BK173.out 4
         have hfz33_5 := bF BK173.out 5
         go_wp2_with (first | ((with_reducible refine gate_callee (f := 87) rfl ?_); refine goesL_ (some 40) rfl rfl Try.func87 (by kernel_rfl) rfl #[.agg #[.int .u8 a0_0, .int .i64 a0_1, .string a0_2, .string a0_3, .string a0_4, .int .u64 a0_5]] rfl mS_ ?_; (with_reducible refine (msg_Span.calls a0_0 a0_1 a0_2 a0_3 a0_4 a0_5 t182 t183 _ A29.out).mono ?_); rintro e w34 ⟨rfl, hb⟩; refine ⟨_, rfl, ?_⟩; have n0_ := Aside0.mk (bB (bX_ BK173.out) hb); have n1_ := Aside0.mk (bB (bX_ BK174.out) hb); have n2_ := Aside0.mk (wT (bS2_ GE173.out GE174.out) hb); clear BK173; clear BK174; clear HB; have BK173 := n0_; have BK174 := n1_; have HB := n2_; clear n0_ n1_ n2_; (try clear hb); (try clear hb2); (try clear hk); (try clear hi)) | ((with_reducible refine gate_callee (f := 46) rfl ?_); refine goesL_ (some 41) rfl rfl Try.func46 (by kernel_rfl) rfl #[.agg #[.string t182, .string t183]] rfl mS_ ?_; (with_reducible refine (key_RightRange.calls t182 t183 true _ A30.out).mono ?_); rintro e w35 ⟨rfl, hb⟩; refine ⟨_, rfl, ?_⟩; have n0_ := Aside0.mk (bB (bX_ BK173.out) hb); have n1_ := Aside0.mk (bB (bX_ BK174.out) hb); have n2_ := Aside0.mk (wT (bS2_ GE173.out GE174.out) hb); clear BK173; clear BK174; clear HB; have BK173 := n0_; have BK174 := n1_; have HB := n2_; clear n0_ n1_ n2_; (try clear hb); (try clear hb2); (try clear hk); (try clear hi)))
         go_ret
         exact ⟨by first | rfl | (simp [errW_none, errW_some] <;> rfl) | (simp [*, errW_none, errW_some] <;> rfl), by repeat (first | (with_reducible first | exact HB.out | apply wA | apply wN | apply w1 | refine wS ?_ GE173.out | refine wS ?_ GE174.out) | exact HB.out)⟩
        ·replace c31 := Bool.eq_false_iff.mpr c31
         subst c31
         have H1 : (some 7) = some r := by rw [if_neg (show ¬ (false = true) by decide)] at H; exact H
         clear H
         have H := H1
         clear H1
         obtain rfl := Option.some.inj H
         have hnb36 := NB173_174.out
         have hnc36 := NB174_173.out
         have hcz37_0 := cz_ BK173.out 0
         have hcz37_1 := cz_ BK173.out 1
         have hcz37_2 := cz_ BK173.out 2
         have hcz37_3 := cz_ BK173.out 3
         have hcz37_4 := cz_ BK173.out 4
         have hcz37_5 := cz_ BK173.out 5
         have hfz37_0 := bF BK173.out 0
         have hfz37_1 := bF BK173.out 1
         have hfz37_2 := bF BK173.out 2
         have hfz37_3 := bF BK173.out 3
         have hfz37_4 := bF BK173.out 4
         have hfz37_5 := bF BK173.out 5
         go_wp2_with (first | ((with_reducible refine gate_callee (f := 87) rfl ?_); refine goesL_ (some 40) rfl rfl Try.func87 (by kernel_rfl) rfl #[.agg #[.int .u8 a0_0, .int .i64 a0_1, .string a0_2, .string a0_3, .string a0_4, .int .u64 a0_5]] rfl mS_ ?_; (with_reducible refine (msg_Span.calls a0_0 a0_1 a0_2 a0_3 a0_4 a0_5 t182 t183 _ A29.out).mono ?_); rintro e w38 ⟨rfl, hb⟩; refine ⟨_, rfl, ?_⟩; have n0_ := Aside0.mk (bB (bX_ BK173.out) hb); have n1_ := Aside0.mk (bB (bX_ BK174.out) hb); have n2_ := Aside0.mk (wT (bS2_ GE173.out GE174.out) hb); clear BK173; clear BK174; clear HB; have BK173 := n0_; have BK174 := n1_; have HB := n2_; clear n0_ n1_ n2_; (try clear hb); (try clear hb2); (try clear hk); (try clear hi)) | ((with_reducible refine gate_callee (f := 46) rfl ?_); refine goesL_ (some 41) rfl rfl Try.func46 (by kernel_rfl) rfl #[.agg #[.string t182, .string t183]] rfl mS_ ?_; (with_reducible refine (key_RightRange.calls t182 t183 false _ A30.out).mono ?_); rintro e w39 ⟨rfl, hb⟩; refine ⟨_, rfl, ?_⟩; have n0_ := Aside0.mk (bB (bX_ BK173.out) hb); have n1_ := Aside0.mk (bB (bX_ BK174.out) hb); have n2_ := Aside0.mk (wT (bS2_ GE173.out GE174.out) hb); clear BK173; clear BK174; clear HB; have BK173 := n0_; have BK174 := n1_; have HB := n2_; clear n0_ n1_ n2_; (try clear hb); (try clear hb2); (try clear hk); (try clear hi)))
         go_ret
         exact ⟨by first | rfl | (simp [errW_none, errW_some] <;> rfl) | (simp [*, errW_none, errW_some] <;> rfl), by repeat (first | (with_reducible first | exact HB.out | apply wA | apply wN | apply w1 | refine wS ?_ GE173.out | refine wS ?_ GE174.out) | exact HB.out)⟩
    ·rw [if_neg c17] at H
     have c17b0 : (a0_0 == 4) = false := beq_eq_false_iff_ne.mpr c17
     have c17b1 : (a0_0 != 4) = true := bne_iff_ne.mpr c17
     by_cases c40 : a0_0 = 1
     ·rw [if_pos c40] at H
      have c40b0 : (a0_0 == 1) = true := beq_iff_eq.mpr c40
      have c40b1 : (a0_0 != 1) = false := bne_eq_false_iff_eq.mpr c40
      clear c40
      by_cases c41 : (a0_4.size : Int) > a1_1
      ·rw [if_pos c41] at H
       have c41b0 : decide (a1_1 < (a0_4.size : Int)) = true := decide_eq_true c41
       clear c41
       obtain rfl := Option.some.inj H
       have hnb42 := NB173_174.out
       have hnc42 := NB174_173.out
       have hcz43_0 := cz_ BK173.out 0
       have hcz43_1 := cz_ BK173.out 1
       have hcz43_2 := cz_ BK173.out 2
       have hcz43_3 := cz_ BK173.out 3
       have hcz43_4 := cz_ BK173.out 4
       have hcz43_5 := cz_ BK173.out 5
       have hfz43_0 := bF BK173.out 0
       have hfz43_1 := bF BK173.out 1
       have hfz43_2 := bF BK173.out 2
       have hfz43_3 := bF BK173.out 3
       have hfz43_4 := bF BK173.out 4
       have hfz43_5 := bF BK173.out 5
       have hcz44_0 := cz_ BK174.out 0
       have hcz44_1 := cz_ BK174.out 1
       have hcz44_2 := cz_ BK174.out 2
       have hcz44_3 := cz_ BK174.out 3
       have hcz44_4 := cz_ BK174.out 4
       have hcz44_5 := cz_ BK174.out 5
       have hcz44_6 := cz_ BK174.out 6
       have hcz44_7 := cz_ BK174.out 7
       have hcz44_8 := cz_ BK174.out 8
       have hfz44_0 := bF BK174.out 0
       have hfz44_1 := bF BK174.out 1
       have hfz44_2 := bF BK174.out 2
       have hfz44_3 := bF BK174.out 3
       have hfz44_4 := bF BK174.out 4
       have hfz44_5 := bF BK174.out 5
       have hfz44_6 := bF BK174.out 6
       have hfz44_7 := bF BK174.out 7
       have hfz44_8 := bF BK174.out 8
       go_wp2
       go_ret
       exact ⟨by first | rfl | (simp [errW_none, errW_some] <;> rfl) | (simp [*, errW_none, errW_some] <;> rfl), by repeat (first | (with_reducible first | exact HB.out | apply wA | apply wN | apply w1 | refine wS ?_ GE173.out | refine wS ?_ GE174.out) | exact HB.out)⟩
      ·rw [if_neg c41] at H
       have c41b0 : decide (a1_1 < (a0_4.size : Int)) = false := decide_eq_false c41
       clear c41
       replace H := Option.bind_eq_some_iff.mp H
       obtain ⟨t185, A450, H⟩ := H
       replace H : (if t185 = true then (some 0) else (some 6)) = some r := H
       have A45 := Aside0.mk A450
       clear A450
       by_cases c46 : t185 = true
       ·subst c46
        have H1 : (some 0) = some r := by rw [if_pos rfl] at H; exact H
        clear H
        have H := H1
        clear H1
        obtain rfl := Option.some.inj H
        have hnb47 := NB173_174.out
        have hnc47 := NB174_173.out
        have hcz48_0 := cz_ BK173.out 0
        have hcz48_1 := cz_ BK173.out 1
        have hcz48_2 := cz_ BK173.out 2
        have hcz48_3 := cz_ BK173.out 3
        have hcz48_4 := cz_ BK173.out 4
        have hcz48_5 := cz_ BK173.out 5
        have hfz48_0 := bF BK173.out 0
        have hfz48_1 := bF BK173.out 1
        have hfz48_2 := bF BK173.out 2
        have hfz48_3 := bF BK173.out 3
        have hfz48_4 := bF BK173.out 4
        have hfz48_5 := bF BK173.out 5
        have hcz49_0 := cz_ BK174.out 0
        have hcz49_1 := cz_ BK174.out 1
        have hcz49_2 := cz_ BK174.out 2
        have hcz49_3 := cz_ BK174.out 3
        have hcz49_4 := cz_ BK174.out 4
        have hcz49_5 := cz_ BK174.out 5
        have hcz49_6 := cz_ BK174.out 6
        have hcz49_7 := cz_ BK174.out 7
        have hcz49_8 := cz_ BK174.out 8
        have hfz49_0 := bF BK174.out 0
        have hfz49_1 := bF BK174.out 1
        have hfz49_2 := bF BK174.out 2
        have hfz49_3 := bF BK174.out 3
        have hfz49_4 := bF BK174.out 4
        have hfz49_5 := bF BK174.out 5
        have hfz49_6 := bF BK174.out 6
        have hfz49_7 := bF BK174.out 7
        have hfz49_8 := bF BK174.out 8
        go_wp2_with (first | ((with_reducible refine gate_callee (f := 115) rfl ?_); refine goesL_ (some 53) rfl rfl Try.func115 (by kernel_rfl) rfl #[.string a0_2, .int .i64 a1_0] rfl mS_ ?_; (with_reducible refine (key_Right.calls a0_2 a1_0 true _ A45.out).mono ?_); rintro e w' ⟨rfl, ⟨nd, rfl⟩⟩; refine ⟨_, rfl, ?_⟩))
        go_ret
        exact ⟨by first | rfl | (simp [errW_none, errW_some] <;> rfl) | (simp [*, errW_none, errW_some] <;> rfl), by repeat (first | (with_reducible first | exact HB.out | apply wA | apply wN | apply w1 | refine wS ?_ GE173.out | refine wS ?_ GE174.out) | exact HB.out)⟩
       ·replace c46 := Bool.eq_false_iff.mpr c46
        subst c46
        have H1 : (some 6) = some r := by rw [if_neg (show ¬ (false = true) by decide)] at H; exact H
        clear H
        have H := H1
        clear H1
        obtain rfl := Option.some.inj H
        have hnb50 := NB173_174.out
        have hnc50 := NB174_173.out
        have hcz51_0 := cz_ BK173.out 0
        have hcz51_1 := cz_ BK173.out 1
        have hcz51_2 := cz_ BK173.out 2
        have hcz51_3 := cz_ BK173.out 3
        have hcz51_4 := cz_ BK173.out 4
        have hcz51_5 := cz_ BK173.out 5
        have hfz51_0 := bF BK173.out 0
        have hfz51_1 := bF BK173.out 1
        have hfz51_2 := bF BK173.out 2
        have hfz51_3 := bF BK173.out 3
        have hfz51_4 := bF BK173.out 4
        have hfz51_5 := bF BK173.out 5
        have hcz52_0 := cz_ BK174.out 0
        have hcz52_1 := cz_ BK174.out 1
        have hcz52_2 := cz_ BK174.out 2
        have hcz52_3 := cz_ BK174.out 3
        have hcz52_4 := cz_ BK174.out 4
        have hcz52_5 := cz_ BK174.out 5
        have hcz52_6 := cz_ BK174.out 6
        have hcz52_7 := cz_ BK174.out 7
        have hcz52_8 := cz_ BK174.out 8
        have hfz52_0 := bF BK174.out 0
        have hfz52_1 := bF BK174.out 1
        have hfz52_2 := bF BK174.out 2
        have hfz52_3 := bF BK174.out 3
        have hfz52_4 := bF BK174.out 4
        have hfz52_5 := bF BK174.out 5
        have hfz52_6 := bF BK174.out 6
        have hfz52_7 := bF BK174.out 7
        have hfz52_8 := bF BK174.out 8
        go_wp2_with (first | ((with_reducible refine gate_callee (f := 115) rfl ?_); refine goesL_ (some 53) rfl rfl Try.func115 (by kernel_rfl) rfl #[.string a0_2, .int .i64 a1_0] rfl mS_ ?_; (with_reducible refine (key_Right.calls a0_2 a1_0 false _ A45.out).mono ?_); rintro e w' ⟨rfl, ⟨nd, rfl⟩⟩; refine ⟨_, rfl, ?_⟩))
        go_ret
        exact ⟨by first | rfl | (simp [errW_none, errW_some] <;> rfl) | (simp [*, errW_none, errW_some] <;> rfl), by repeat (first | (with_reducible first | exact HB.out | apply wA | apply wN | apply w1 | refine wS ?_ GE173.out | refine wS ?_ GE174.out) | exact HB.out)⟩
     ·rw [if_neg c40] at H
      have c40b0 : (a0_0 == 1) = false := beq_eq_false_iff_ne.mpr c40
      have c40b1 : (a0_0 != 1) = true := bne_iff_ne.mpr c40
      replace H := Option.bind_eq_some_iff.mp H
      obtain ⟨t181, A530, H⟩ := H
      replace H : (if t181 = true then (some 0) else (some 6)) = some r := H
      have A53 := Aside0.mk A530
      clear A530
      by_cases c54 : t181 = true
      ·subst c54
       have H1 : (some 0) = some r := by rw [if_pos rfl] at H; exact H
       clear H
       have H := H1
       clear H1
       obtain rfl := Option.some.inj H
       have hnb55 := NB173_174.out
       have hnc55 := NB174_173.out
       have hcz56_0 := cz_ BK173.out 0
       have hcz56_1 := cz_ BK173.out 1
       have hcz56_2 := cz_ BK173.out 2
       have hcz56_3 := cz_ BK173.out 3
       have hcz56_4 := cz_ BK173.out 4
       have hcz56_5 := cz_ BK173.out 5
       have hfz56_0 := bF BK173.out 0
       have hfz56_1 := bF BK173.out 1
       have hfz56_2 := bF BK173.out 2
       have hfz56_3 := bF BK173.out 3
       have hfz56_4 := bF BK173.out 4
       have hfz56_5 := bF BK173.out 5
       have hcz57_0 := cz_ BK174.out 0
       have hcz57_1 := cz_ BK174.out 1
       have hcz57_2 := cz_ BK174.out 2
       have hcz57_3 := cz_ BK174.out 3
       have hcz57_4 := cz_ BK174.out 4
       have hcz57_5 := cz_ BK174.out 5
       have hcz57_6 := cz_ BK174.out 6
       have hcz57_7 := cz_ BK174.out 7
       have hcz57_8 := cz_ BK174.out 8
       have hfz57_0 := bF BK174.out 0
       have hfz57_1 := bF BK174.out 1
       have hfz57_2 := bF BK174.out 2
       have hfz57_3 := bF BK174.out 3
       have hfz57_4 := bF BK174.out 4
       have hfz57_5 := bF BK174.out 5
       have hfz57_6 := bF BK174.out 6
       have hfz57_7 := bF BK174.out 7
       have hfz57_8 := bF BK174.out 8
       go_wp2_with (first | ((with_reducible refine gate_callee (f := 115) rfl ?_); refine goesL_ (some 53) rfl rfl Try.func115 (by kernel_rfl) rfl #[.string a0_2, .int .i64 a1_0] rfl mS_ ?_; (with_reducible refine (key_Right.calls a0_2 a1_0 true _ A53.out).mono ?_); rintro e w' ⟨rfl, ⟨nd, rfl⟩⟩; refine ⟨_, rfl, ?_⟩))
       go_ret
       exact ⟨by first | rfl | (simp [errW_none, errW_some] <;> rfl) | (simp [*, errW_none, errW_some] <;> rfl), by repeat (first | (with_reducible first | exact HB.out | apply wA | apply wN | apply w1 | refine wS ?_ GE173.out | refine wS ?_ GE174.out) | exact HB.out)⟩
      ·replace c54 := Bool.eq_false_iff.mpr c54
       subst c54
       have H1 : (some 6) = some r := by rw [if_neg (show ¬ (false = true) by decide)] at H; exact H
       clear H
       have H := H1
       clear H1
       obtain rfl := Option.some.inj H
       have hnb58 := NB173_174.out
       have hnc58 := NB174_173.out
       have hcz59_0 := cz_ BK173.out 0
       have hcz59_1 := cz_ BK173.out 1
       have hcz59_2 := cz_ BK173.out 2
       have hcz59_3 := cz_ BK173.out 3
       have hcz59_4 := cz_ BK173.out 4
       have hcz59_5 := cz_ BK173.out 5
       have hfz59_0 := bF BK173.out 0
       have hfz59_1 := bF BK173.out 1
       have hfz59_2 := bF BK173.out 2
       have hfz59_3 := bF BK173.out 3
       have hfz59_4 := bF BK173.out 4
       have hfz59_5 := bF BK173.out 5
       have hcz60_0 := cz_ BK174.out 0
       have hcz60_1 := cz_ BK174.out 1
       have hcz60_2 := cz_ BK174.out 2
       have hcz60_3 := cz_ BK174.out 3
       have hcz60_4 := cz_ BK174.out 4
       have hcz60_5 := cz_ BK174.out 5
       have hcz60_6 := cz_ BK174.out 6
       have hcz60_7 := cz_ BK174.out 7
       have hcz60_8 := cz_ BK174.out 8
       have hfz60_0 := bF BK174.out 0
       have hfz60_1 := bF BK174.out 1
       have hfz60_2 := bF BK174.out 2
       have hfz60_3 := bF BK174.out 3
       have hfz60_4 := bF BK174.out 4
       have hfz60_5 := bF BK174.out 5
       have hfz60_6 := bF BK174.out 6
       have hfz60_7 := bF BK174.out 7
       have hfz60_8 := bF BK174.out 8
       go_wp2_with (first | ((with_reducible refine gate_callee (f := 115) rfl ?_); refine goesL_ (some 53) rfl rfl Try.func115 (by kernel_rfl) rfl #[.string a0_2, .int .i64 a1_0] rfl mS_ ?_; (with_reducible refine (key_Right.calls a0_2 a1_0 false _ A53.out).mono ?_); rintro e w' ⟨rfl, ⟨nd, rfl⟩⟩; refine ⟨_, rfl, ?_⟩))
       go_ret
       exact ⟨by first | rfl | (simp [errW_none, errW_some] <;> rfl) | (simp [*, errW_none, errW_some] <;> rfl), by repeat (first | (with_reducible first | exact HB.out | apply wA | apply wN | apply w1 | refine wS ?_ GE173.out | refine wS ?_ GE174.out) | exact HB.out)⟩
end Go.Proofs.Ytljnlnbopohghaa.P
end
section
namespace Go.Proofs.Ytljnlnbopohghaa.P
open Go.RowKit Go.Proofs.YtljnlnbopohghaaW.PrintWords Go.Proofs.YtljnlnbopohghaaW.PrintLast Go.Proofs.YtljnlnbopohghaaW.PrintMore Go.Proofs.Ytljnlnbopohghaa.Own
open Go.Proofs.YtljnlnbopohghaaW.PrintWords renaming blk_cell → bC, blk_frozen → bF, blk_drewN → bN, blk_alloc → bA, pw_below_drewN → wN, blk_drew → bD, below_drew1 → w1, below_set → wS, below_alloc → wA, blk_below → bB, below_step → wT, below_size → wZ
open List renaming setIfInBounds_toArray → sA1, set_cons_zero → sA2, set_cons_succ → sA3
attribute [local go_sem] max2_str max2_int min2_int max_two min_two max_three min_three max_four min_four   -- for this text's walks alone
end Go.Proofs.Ytljnlnbopohghaa.P
end
