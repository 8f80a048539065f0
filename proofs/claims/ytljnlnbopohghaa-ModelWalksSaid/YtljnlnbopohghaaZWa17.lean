/- Texts of one claim (laid by shake.py). -/
import Derived.Test.YtljnlnbopohghaaZWa4
import Derived.Test.YtljnlnbopohghaaZWa7
import Derived.Test.YtljnlnbopohghaaZWa12
set_option linter.unusedVariables false
set_option linter.unusedSimpArgs false
section
namespace Go.Proofs.Ytljnlnbopohghaa.P
open Go.RowKit Go.Proofs.YtljnlnbopohghaaW.PrintWords Go.Proofs.YtljnlnbopohghaaW.PrintLast Go.Proofs.YtljnlnbopohghaaW.PrintMore Go.Proofs.Ytljnlnbopohghaa.Own
attribute [local go_sem] max2_str max2_int min2_int max_two min_two max_three min_three max_four min_four   -- for this text's walks alone
theorem eqA117 (d : Nat) (w : World) (x0 y0 : Int) (x1 y1 : Int) (x2 y2 : BA) (x3 y3 : BA) (x4 y4 : BA) (x5 y5 : Int) :
  (Op.equalIn (d + 2) 117 (.agg #[.int .u8 x0, .int .i64 x1, .string x2, .string x3, .string x4, .int .u64 x5]) (.agg #[.int .u8 y0, .int .i64 y1, .string y2, .string y3, .string y4, .int .u64 y5])).run Try.prog w = .ok (x0 == y0 && (x1 == y1 && (x2.toList == y2.toList && (x3.toList == y3.toList && (x4.toList == y4.toList && (x5 == y5)))))) w := by
 refine eqA_of Try.underlying117 (by kernel_rfl) ?_
 refine eqf_cons (by rfl) (by go_simp; rfl) (by go_simp; rfl) (by go_simp) ?_
 refine eqf_cons (by rfl) (by go_simp; rfl) (by go_simp; rfl) (by go_simp) ?_
 refine eqf_cons (by rfl) (by go_simp; rfl) (by go_simp; rfl) (by go_simp) ?_
 refine eqf_cons (by rfl) (by go_simp; rfl) (by go_simp; rfl) (by go_simp) ?_
 refine eqf_cons (by rfl) (by go_simp; rfl) (by go_simp; rfl) (by go_simp) ?_
 exact eqf_last (by rfl) (by go_simp; rfl) (by go_simp; rfl) (by go_simp)
end Go.Proofs.Ytljnlnbopohghaa.P
end
section
namespace Go.Proofs.Ytljnlnbopohghaa.P
open Go.RowKit Go.Proofs.YtljnlnbopohghaaW.PrintWords Go.Proofs.YtljnlnbopohghaaW.PrintLast Go.Proofs.YtljnlnbopohghaaW.PrintMore Go.Proofs.Ytljnlnbopohghaa.Own
open Go.Proofs.YtljnlnbopohghaaW.PrintWords renaming blk_cell → bC, blk_frozen → bF, blk_drewN → bN, blk_alloc → bA, pw_below_drewN → wN, blk_drew → bD, below_drew1 → w1, below_set → wS, below_alloc → wA, blk_below → bB, below_step → wT, below_size → wZ
open List renaming setIfInBounds_toArray → sA1, set_cons_zero → sA2, set_cons_succ → sA3, map_toArray → mA1, map_cons → mA2, map_nil → mA3, length_take → mA4, length_drop → mA5
attribute [local go_sem] max2_str max2_int min2_int max_two min_two max_three min_three max_four min_four   -- for this text's walks alone
attribute [local go_sem high] eqA117
mutual
def msg_Check.j0 : Nat → Bool → Int → Int → ByteArray → ByteArray → ByteArray → Int → Int → Int → Int → Int → Int → Int → Int → Int → Int → Option (Int)
 | 0, _, _, _, _, _, _, _, _, _, _, _, _, _, _, _, _ => none
 | k + 1, x18, x174000, x174001, x174002, x174003, x174004, x174005, x175000, x175001, x175002, x175003, x175004, x175005, x175006, x175007, x175008 => if x18 = true then (some 3) else (if x174000 = 4 then (if (x174002.size : Int) > x175000 then (msg_Check.j1 k true x174000 x174001 x174002 x174003 x174004 x174005) else (msg_Check.j1 k (decide ((x174003.size : Int) > x175000)) x174000 x174001 x174002 x174003 x174004 x174005)) else (if x174000 = 1 then (if (x174004.size : Int) > x175001 then (some 6) else ((key_Right.f x174002 x175000).bind fun t185 => (if t185 = true then (some 0) else (some 6)))) else ((key_Right.f x174002 x175000).bind fun t181 => (if t181 = true then (some 0) else (some 6)))))
def msg_Check.j1 : Nat → Bool → Int → Int → ByteArray → ByteArray → ByteArray → Int → Option (Int)
 | 0, _, _, _, _, _, _, _ => none
 | k + 1, x38, x174000, x174001, x174002, x174003, x174004, x174005 => if x38 = true then (some 6) else ((msg_Span.f x174000 x174001 x174002 x174003 x174004 x174005).bind fun bt182 => ((key_RightRange.f bt182.1 bt182.2).bind fun t184 => (if t184 = true then (some 0) else (some 7))))
end
def msg_Check.f (k : Nat) (a0_0 a0_1 : Int) (a0_2 a0_3 a0_4 : BA) (a0_5 a1_0 a1_1 a1_2 a1_3 a1_4 a1_5 a1_6 a1_7 a1_8 : Int) : Option (Int) := if a0_0 < 1 then (msg_Check.j0 k true a0_0 a0_1 a0_2 a0_3 a0_4 a0_5 a1_0 a1_1 a1_2 a1_3 a1_4 a1_5 a1_6 a1_7 a1_8) else (if a0_0 > 4 then (msg_Check.j0 k true a0_0 a0_1 a0_2 a0_3 a0_4 a0_5 a1_0 a1_1 a1_2 a1_3 a1_4 a1_5 a1_6 a1_7 a1_8) else ((msg_bare.f a0_0 a0_1 a0_2 a0_3 a0_4 a0_5).bind fun bt175 => (msg_Check.j0 k (!(bt175.1 == 0) || (!(bt175.2.1 == 0) || (!(bt175.2.2.1.toList == ([] : List UInt8)) || (!(bt175.2.2.2.1.toList == ([] : List UInt8)) || (!(bt175.2.2.2.2.1.toList == ([] : List UInt8)) || (!(bt175.2.2.2.2.2 == 0))))))) a0_0 a0_1 a0_2 a0_3 a0_4 a0_5 a1_0 a1_1 a1_2 a1_3 a1_4 a1_5 a1_6 a1_7 a1_8)))
set_option maxHeartbeats 8000000 in
set_option maxRecDepth 100000 in
theorem msg_Check.calls (k : Nat) (a0_0 a0_1 : Int) (a0_2 a0_3 a0_4 : BA) (a0_5 a1_0 a1_1 a1_2 a1_3 a1_4 a1_5 a1_6 a1_7 a1_8 r : Int) (w : World) (h : msg_Check.f k a0_0 a0_1 a0_2 a0_3 a0_4 a0_5 a1_0 a1_1 a1_2 a1_3 a1_4 a1_5 a1_6 a1_7 a1_8 = some r) :
  Calls Try.prog 101 #[.agg #[.int .u8 a0_0, .int .i64 a0_1, .string a0_2, .string a0_3, .string a0_4, .int .u64 a0_5], .agg #[.int .i64 a1_0, .int .i64 a1_1, .int .i64 a1_2, .int .i64 a1_3, .int .i64 a1_4, .int .i64 a1_5, .int .i64 a1_6, .int .i64 a1_7, .int .i64 a1_8]] w fun e w' => e = .returned (.int .i64 r) ∧ Below w.heap.size w w' := by
 have hu117 := Try.underlying117
 have hu47 := Try.underlying47
 have HB := aK_ (Below.refl w.heap.size w)
 have H : (if a0_0 < 1 then (msg_Check.j0 k true a0_0 a0_1 a0_2 a0_3 a0_4 a0_5 a1_0 a1_1 a1_2 a1_3 a1_4 a1_5 a1_6 a1_7 a1_8) else (if a0_0 > 4 then (msg_Check.j0 k true a0_0 a0_1 a0_2 a0_3 a0_4 a0_5 a1_0 a1_1 a1_2 a1_3 a1_4 a1_5 a1_6 a1_7 a1_8) else ((msg_bare.f a0_0 a0_1 a0_2 a0_3 a0_4 a0_5).bind fun bt175 => (msg_Check.j0 k (!(bt175.1 == 0) || (!(bt175.2.1 == 0) || (!(bt175.2.2.1.toList == ([] : List UInt8)) || (!(bt175.2.2.2.1.toList == ([] : List UInt8)) || (!(bt175.2.2.2.2.1.toList == ([] : List UInt8)) || (!(bt175.2.2.2.2.2 == 0))))))) a0_0 a0_1 a0_2 a0_3 a0_4 a0_5 a1_0 a1_1 a1_2 a1_3 a1_4 a1_5 a1_6 a1_7 a1_8)))) = some r := h
 clear h
 have HC3 := aK_ H
 clear H
 go_enter Try.func101, Try.ntmps101
 go_upto_region 1 with (first | ((with_reducible refine gate_dst (N := 2) rfl ?_); (try (refine gate_guard (by rfl) ?_; dsimp only)); refine bE_ 2 #[.int .u8 a0_0, .int .i64 a0_1, .string a0_2, .string a0_3, .string a0_4, .int .u64 a0_5] 117 ?_; intro gb173 hg w4 hbox hb; have BK173 := aK_ (hbox); have GW173 := aK_ (gE_ hg); replace HB := aK_ (wT bW_ hb); have GE173 := GW173; clear hb hbox hg) | ((with_reducible refine gate_dst (N := 3) rfl ?_); (try (refine gate_guard (by rfl) ?_; dsimp only)); refine bE_ 3 #[.int .i64 a1_0, .int .i64 a1_1, .int .i64 a1_2, .int .i64 a1_3, .int .i64 a1_4, .int .i64 a1_5, .int .i64 a1_6, .int .i64 a1_7, .int .i64 a1_8] 47 ?_; intro gb174 hg w5 hbox hb; have n0_ := aK_ (bB (bX_ BK173.out) hb); have n1_ := aK_ (wT (bS1_ GE173.out) hb); have n2_ := aK_ (hbox); have n3_ := aK_ ((by rw [hg]; exact (wZ (bS1_ GE173.out)) : w.heap.size ≤ gb174)); have n4_ := n3_; have n5_ := aK_ ((by rw [hg]; exact Nat.ne_of_lt (blk_lt (g := gb173) (o := .cells #[.int .u8 a0_0, .int .i64 a0_1, .string a0_2, .string a0_3, .string a0_4, .int .u64 a0_5] 117 (0, 0)) (bX_ BK173.out)) : gb173 ≠ gb174)); have n6_ := aK_ ((by rw [hg]; exact Nat.ne_of_gt (blk_lt (g := gb173) (o := .cells #[.int .u8 a0_0, .int .i64 a0_1, .string a0_2, .string a0_3, .string a0_4, .int .u64 a0_5] 117 (0, 0)) (bX_ BK173.out)) : gb174 ≠ gb173)); clear BK173; clear HB; have BK173 := n0_; have HB := n1_; have BK174 := n2_; have GW174 := n3_; have GE174 := n4_; have NB173_174 := n5_; have NB174_173 := n6_; clear n0_ n1_ n2_ n3_ n4_ n5_ n6_; clear hb hbox hg))
 (try simp only [Act.put, sA1, sA2, sA3])
 go_cut [18] (fun v18 wc => ∃ (kq : Nat) (x18_2 : Bool), v18 = .bool x18_2 ∧ Aside0 (msg_Check.j0 kq x18_2 a0_0 a0_1 a0_2 a0_3 a0_4 a0_5 a1_0 a1_1 a1_2 a1_3 a1_4 a1_5 a1_6 a1_7 a1_8 = some r) ∧ Aside0 (kq ≤ k) ∧ Aside0 (wc.heap[gb173]? = some (.cells #[.int .u8 a0_0, .int .i64 a0_1, .string a0_2, .string a0_3, .string a0_4, .int .u64 a0_5] 117 (0, 0))) ∧ Aside0 (wc.heap[gb174]? = some (.cells #[.int .i64 a1_0, .int .i64 a1_1, .int .i64 a1_2, .int .i64 a1_3, .int .i64 a1_4, .int .i64 a1_5, .int .i64 a1_6, .int .i64 a1_7, .int .i64 a1_8] 47 (0, 0))) ∧ Aside0 (Below w.heap.size w wc))
 case first =>
  have H := HC3.out
  clear HC3
  by_cases c6 : a0_0 < 1
  ·rw [if_pos c6] at H
   have c6b0 := decide_eq_true c6
   clear c6
   (first | rw [c6b0] | (simp only [i64_w, i32_w]; rw [c6b0]) | skip)
   have H' := aK_ H; clear H
   have hnb7 := NB173_174.out
   have hnc7 := NB174_173.out
   have hz8 := cq6_ BK173.out
   go_wp2
   go_meet
   case rel => exact ⟨_, (true), rZ_, H', ⟨oM_⟩, ⟨bX_ BK173.out⟩, ⟨bX_ BK174.out⟩, ⟨bS2_ GE173.out GE174.out⟩⟩
  rw [if_neg c6] at H
  have c6b0 := decide_eq_false c6
  clear c6
  (first | rw [c6b0] | (simp only [i64_w, i32_w]; rw [c6b0]) | skip)
  by_cases c9 : a0_0 > 4
  ·rw [if_pos c9] at H
   have c9b0 : decide (4 < a0_0) = true := decide_eq_true c9
   clear c9
   have H' := aK_ H; clear H
   have hnb10 := NB173_174.out
   have hnc10 := NB174_173.out
   have hz11 := cq6_ BK173.out
   go_wp2
   go_meet
   case rel => exact ⟨_, (true), rZ_, H', ⟨oM_⟩, ⟨bX_ BK173.out⟩, ⟨bX_ BK174.out⟩, ⟨bS2_ GE173.out GE174.out⟩⟩
  rw [if_neg c9] at H
  have c9b0 : decide (4 < a0_0) = false := decide_eq_false c9
  clear c9
  replace H := Option.bind_eq_some_iff.mp H
  obtain ⟨⟨t175, t176, t177, t178, t179, t180⟩, A120, H⟩ := H
  replace H : (msg_Check.j0 k (!(t175 == 0) || (!(t176 == 0) || (!(t177.toList == ([] : List UInt8)) || (!(t178.toList == ([] : List UInt8)) || (!(t179.toList == ([] : List UInt8)) || (!(t180 == 0))))))) a0_0 a0_1 a0_2 a0_3 a0_4 a0_5 a1_0 a1_1 a1_2 a1_3 a1_4 a1_5 a1_6 a1_7 a1_8) = some r := H
  have A12 := aK_ A120
  clear A120
  have H' := aK_ H; clear H
  have hnb13 := NB173_174.out
  have hnc13 := NB174_173.out
  have hz14 := cq6_ BK173.out
  go_wp2_with (first | (go_at_call 114; (with_reducible refine (msg_bare.calls a0_0 a0_1 a0_2 a0_3 a0_4 a0_5 t175 t176 t177 t178 t179 t180 _ A12.out).mono ?_); rintro e w15 ⟨rfl, hb⟩; replace BK173 := aK_ (bB (bX_ BK173.out) hb); replace BK174 := aK_ (bB (bX_ BK174.out) hb); replace HB := aK_ (wT (bS2_ GE173.out GE174.out) hb); (try clear hb); (try clear hb2); (try clear hk); (try clear hi)))
  go_meet
  case rel => exact ⟨_, ((!(t175 == 0) || (!(t176 == 0) || (!(t177.toList == ([] : List UInt8)) || (!(t178.toList == ([] : List UInt8)) || (!(t179.toList == ([] : List UInt8)) || (!(t180 == 0)))))))), rZ_, H', ⟨oM_⟩, ⟨bX_ BK173.out⟩, ⟨bX_ BK174.out⟩, ⟨bS2_ GE173.out GE174.out⟩⟩
 clear HC3
 try clear c1
 try clear p2
 try clear c6b0
 try clear c7
 try clear c9b0
 try clear c10
 try clear c13
 try clear hz11
 try clear hz14
 try clear hz8
 try clear hz11
 try clear hz14
 try clear hz8
 obtain ⟨kq, x18_2, rfl, HA, HJ2, BK173, BK174, HB⟩ := hcut
 cases kq with
 | zero => exact absurd HA.out (by simp [msg_Check.j0])
 | succ kj2 => ?_
 have H := HA.out
 clear HA
 simp only [msg_Check.j0] at H
 by_cases c16 : x18_2 = true
 ·subst c16
  have H1 : (some 3) = some r := by rw [if_pos rfl] at H; exact H
  clear H
  have H := H1
  clear H1
  obtain rfl := Option.some.inj H
  go_wp2
  go_ret
  exact ⟨eR_, bS2_ GE173.out GE174.out⟩
 replace c16 := Bool.eq_false_iff.mpr c16
 subst c16
 have H1 : (if a0_0 = 4 then (if (a0_2.size : Int) > a1_0 then (msg_Check.j1 kj2 true a0_0 a0_1 a0_2 a0_3 a0_4 a0_5) else (msg_Check.j1 kj2 (decide ((a0_3.size : Int) > a1_0)) a0_0 a0_1 a0_2 a0_3 a0_4 a0_5)) else (if a0_0 = 1 then (if (a0_4.size : Int) > a1_1 then (some 6) else ((key_Right.f a0_2 a1_0).bind fun t185 => (if t185 = true then (some 0) else (some 6)))) else ((key_Right.f a0_2 a1_0).bind fun t181 => (if t181 = true then (some 0) else (some 6))))) = some r := by rw [if_neg (show ¬ (false = true) by decide)] at H; exact H
 clear H
 have H := H1
 clear H1
 by_cases c17 : a0_0 = 4
 ·rw [if_pos c17] at H
  have c17b0 := beq_iff_eq.mpr c17
  have c17b1 := bne_eq_false_iff_eq.mpr c17
  clear c17
  have HC18 := aK_ H
  clear H
  have hnb19 := NB173_174.out
  have hnc19 := NB174_173.out
  have hz20 := cq6_ BK173.out
  go_upto_region 6 with (fail)
  go_cut [38] (fun v38 wc => ∃ (kq : Nat) (x38_17 : Bool), v38 = .bool x38_17 ∧ Aside0 (msg_Check.j1 kq x38_17 a0_0 a0_1 a0_2 a0_3 a0_4 a0_5 = some r) ∧ Aside0 (kq ≤ kj2) ∧ Aside0 (wc.heap[gb173]? = some (.cells #[.int .u8 a0_0, .int .i64 a0_1, .string a0_2, .string a0_3, .string a0_4, .int .u64 a0_5] 117 (0, 0))) ∧ Aside0 (wc.heap[gb174]? = some (.cells #[.int .i64 a1_0, .int .i64 a1_1, .int .i64 a1_2, .int .i64 a1_3, .int .i64 a1_4, .int .i64 a1_5, .int .i64 a1_6, .int .i64 a1_7, .int .i64 a1_8] 47 (0, 0))) ∧ Aside0 (Below w.heap.size w wc))
  case first =>
   have H := HC18.out
   clear HC18
   by_cases c21 : (a0_2.size : Int) > a1_0
   ·rw [if_pos c21] at H
    have c21b0 : decide (a1_0 < (a0_2.size : Int)) = true := decide_eq_true c21
    clear c21
    (first | rw [c21b0] | (simp only [i64_w, i32_w]; rw [c21b0]) | skip)
    have H' := aK_ H; clear H
    have hnb22 := NB173_174.out
    have hnc22 := NB174_173.out
    have hz23 := cq6_ BK173.out
    have hz24 := cq9_ BK174.out
    go_wp2
    go_meet
    case rel => exact ⟨_, (true), rZ_, H', ⟨by have := HJ2.out; first | omega | exact Nat.le_refl _⟩, ⟨bX_ BK173.out⟩, ⟨bX_ BK174.out⟩, ⟨bS2_ GE173.out GE174.out⟩⟩
   rw [if_neg c21] at H
   have c21b0 : decide (a1_0 < (a0_2.size : Int)) = false := decide_eq_false c21
   clear c21
   (first | rw [c21b0] | (simp only [i64_w, i32_w]; rw [c21b0]) | skip)
   have H' := aK_ H; clear H
   have hnb25 := NB173_174.out
   have hnc25 := NB174_173.out
   have hz26 := cq6_ BK173.out
   have hz27 := cq9_ BK174.out
   go_wp2
   go_meet
   case rel => exact ⟨_, (decide ((a0_3.size : Int) > a1_0)), rZ_, H', ⟨by have := HJ2.out; first | omega | exact Nat.le_refl _⟩, ⟨bX_ BK173.out⟩, ⟨bX_ BK174.out⟩, ⟨bS2_ GE173.out GE174.out⟩⟩
  clear HC18
  try clear c1
  try clear c2
  try clear p2
  try clear c6b0
  try clear c7
  try clear c9b0
  try clear c10
  try clear c13
  try clear c16
  try clear c17
  try clear c17b0
  try clear c17b1
  try clear c19
  try clear c21b0
  try clear c22
  try clear c25
  try clear hz11
  try clear hz14
  try clear hz20
  try clear hz23
  try clear hz24
  try clear hz26
  try clear hz27
  try clear hz8
  try clear hz11
  try clear hz14
  try clear hz20
  try clear hz23
  try clear hz24
  try clear hz26
  try clear hz27
  try clear hz8
  try clear p2
  obtain ⟨kq, x38_17, rfl, HA, HJ17, BK173, BK174, HB⟩ := hcut
  cases kq with
  | zero => exact absurd HA.out (by simp [msg_Check.j1])
  | succ kj17 => ?_
  have H := HA.out
  clear HA
  simp only [msg_Check.j1] at H
  by_cases c28 : x38_17 = true
  ·subst c28
   have H1 : (some 6) = some r := by rw [if_pos rfl] at H; exact H
   clear H
   have H := H1
   clear H1
   obtain rfl := Option.some.inj H
   go_wp2
   go_ret
   exact ⟨eR_, bS2_ GE173.out GE174.out⟩
  replace c28 := Bool.eq_false_iff.mpr c28
  subst c28
  have H1 : ((msg_Span.f a0_0 a0_1 a0_2 a0_3 a0_4 a0_5).bind fun bt182 => ((key_RightRange.f bt182.1 bt182.2).bind fun t184 => (if t184 = true then (some 0) else (some 7)))) = some r := by rw [if_neg (show ¬ (false = true) by decide)] at H; exact H
  clear H
  have H := H1
  clear H1
  replace H := Option.bind_eq_some_iff.mp H
  obtain ⟨⟨t182, t183⟩, A290, H⟩ := H
  replace H : ((key_RightRange.f t182 t183).bind fun t184 => (if t184 = true then (some 0) else (some 7))) = some r := H
  have A29 := aK_ A290
  clear A290
  replace H := Option.bind_eq_some_iff.mp H
  obtain ⟨t184, A300, H⟩ := H
  replace H : (if t184 = true then (some 0) else (some 7)) = some r := H
  have A30 := aK_ A300
  clear A300
  by_cases c31 : t184 = true
  ·subst c31
   have H1 : (some 0) = some r := by rw [if_pos rfl] at H; exact H
   clear H
   have H := H1
   clear H1
   obtain rfl := Option.some.inj H
   have hnb32 := NB173_174.out
   have hnc32 := NB174_173.out
   have hz33 := cq6_ BK173.out
   go_wp2_with (first | ((with_reducible refine gate_callee (f := 87) rfl ?_); refine goesL_ (some 40) rfl rfl Try.func87 (by kernel_rfl) rfl #[.agg #[.int .u8 a0_0, .int .i64 a0_1, .string a0_2, .string a0_3, .string a0_4, .int .u64 a0_5]] rfl mS_ ?_; (with_reducible refine (msg_Span.calls a0_0 a0_1 a0_2 a0_3 a0_4 a0_5 t182 t183 _ A29.out).mono ?_); rintro e w34 ⟨rfl, hb⟩; refine ⟨_, rfl, ?_⟩; replace BK173 := aK_ (bB (bX_ BK173.out) hb); replace BK174 := aK_ (bB (bX_ BK174.out) hb); replace HB := aK_ (wT (bS2_ GE173.out GE174.out) hb); (try clear hb); (try clear hb2); (try clear hk); (try clear hi)) | ((with_reducible refine gate_callee (f := 46) rfl ?_); refine goesL_ (some 41) rfl rfl Try.func46 (by kernel_rfl) rfl #[.agg #[.string t182, .string t183]] rfl mS_ ?_; (with_reducible refine (key_RightRange.calls t182 t183 true _ A30.out).mono ?_); rintro e w35 ⟨rfl, hb⟩; refine ⟨_, rfl, ?_⟩; replace BK173 := aK_ (bB (bX_ BK173.out) hb); replace BK174 := aK_ (bB (bX_ BK174.out) hb); replace HB := aK_ (wT (bS2_ GE173.out GE174.out) hb); (try clear hb); (try clear hb2); (try clear hk); (try clear hi)))
   go_ret
   exact ⟨eR_, bS2_ GE173.out GE174.out⟩
  replace c31 := Bool.eq_false_iff.mpr c31
  subst c31
  have H1 : (some 7) = some r := by rw [if_neg (show ¬ (false = true) by decide)] at H; exact H
  clear H
  have H := H1
  clear H1
  obtain rfl := Option.some.inj H
  have hnb36 := NB173_174.out
  have hnc36 := NB174_173.out
  have hz37 := cq6_ BK173.out
  go_wp2_with (first | ((with_reducible refine gate_callee (f := 87) rfl ?_); refine goesL_ (some 40) rfl rfl Try.func87 (by kernel_rfl) rfl #[.agg #[.int .u8 a0_0, .int .i64 a0_1, .string a0_2, .string a0_3, .string a0_4, .int .u64 a0_5]] rfl mS_ ?_; (with_reducible refine (msg_Span.calls a0_0 a0_1 a0_2 a0_3 a0_4 a0_5 t182 t183 _ A29.out).mono ?_); rintro e w38 ⟨rfl, hb⟩; refine ⟨_, rfl, ?_⟩; replace BK173 := aK_ (bB (bX_ BK173.out) hb); replace BK174 := aK_ (bB (bX_ BK174.out) hb); replace HB := aK_ (wT (bS2_ GE173.out GE174.out) hb); (try clear hb); (try clear hb2); (try clear hk); (try clear hi)) | ((with_reducible refine gate_callee (f := 46) rfl ?_); refine goesL_ (some 41) rfl rfl Try.func46 (by kernel_rfl) rfl #[.agg #[.string t182, .string t183]] rfl mS_ ?_; (with_reducible refine (key_RightRange.calls t182 t183 false _ A30.out).mono ?_); rintro e w39 ⟨rfl, hb⟩; refine ⟨_, rfl, ?_⟩; replace BK173 := aK_ (bB (bX_ BK173.out) hb); replace BK174 := aK_ (bB (bX_ BK174.out) hb); replace HB := aK_ (wT (bS2_ GE173.out GE174.out) hb); (try clear hb); (try clear hb2); (try clear hk); (try clear hi)))
  go_ret
  exact ⟨eR_, bS2_ GE173.out GE174.out⟩
 rw [if_neg c17] at H
 have c17b0 := beq_eq_false_iff_ne.mpr c17
 have c17b1 := bne_iff_ne.mpr c17
 by_cases c40 : a0_0 = 1
 ·rw [if_pos c40] at H
  have c40b0 := beq_iff_eq.mpr c40
  have c40b1 := bne_eq_false_iff_eq.mpr c40
  clear c40
  by_cases c41 : (a0_4.size : Int) > a1_1
  ·rw [if_pos c41] at H
   have c41b0 : decide (a1_1 < (a0_4.size : Int)) = true := decide_eq_true c41
   clear c41
   obtain rfl := Option.some.inj H
   have hnb42 := NB173_174.out
   have hnc42 := NB174_173.out
   have hz43 := cq6_ BK173.out
   have hz44 := cq9_ BK174.out
   go_wp2
   go_ret
   exact ⟨eR_, bS2_ GE173.out GE174.out⟩
  rw [if_neg c41] at H
  have c41b0 : decide (a1_1 < (a0_4.size : Int)) = false := decide_eq_false c41
  clear c41
  replace H := Option.bind_eq_some_iff.mp H
  obtain ⟨t185, A450, H⟩ := H
  replace H : (if t185 = true then (some 0) else (some 6)) = some r := H
  have A45 := aK_ A450
  clear A450
  by_cases c46 : t185 = true
  ·subst c46
   have H1 : (some 0) = some r := by rw [if_pos rfl] at H; exact H
   clear H
   have H := H1
   clear H1
   obtain rfl := Option.some.inj H
   have hnb47 := NB173_174.out
   have hnc47 := NB174_173.out
   have hz48 := cq6_ BK173.out
   have hz49 := cq9_ BK174.out
   go_wp2_with (first | ((with_reducible refine gate_callee (f := 115) rfl ?_); refine goesL_ (some 53) rfl rfl Try.func115 (by kernel_rfl) rfl #[.string a0_2, .int .i64 a1_0] rfl mS_ ?_; (with_reducible refine (key_Right.calls a0_2 a1_0 true _ A45.out).mono ?_); rintro e w' ⟨rfl, ⟨nd, rfl⟩⟩; refine ⟨_, rfl, ?_⟩))
   go_ret
   exact ⟨eR_, bS2_ GE173.out GE174.out⟩
  replace c46 := Bool.eq_false_iff.mpr c46
  subst c46
  have H1 : (some 6) = some r := by rw [if_neg (show ¬ (false = true) by decide)] at H; exact H
  clear H
  have H := H1
  clear H1
  obtain rfl := Option.some.inj H
  have hnb50 := NB173_174.out
  have hnc50 := NB174_173.out
  have hz51 := cq6_ BK173.out
  have hz52 := cq9_ BK174.out
  go_wp2_with (first | ((with_reducible refine gate_callee (f := 115) rfl ?_); refine goesL_ (some 53) rfl rfl Try.func115 (by kernel_rfl) rfl #[.string a0_2, .int .i64 a1_0] rfl mS_ ?_; (with_reducible refine (key_Right.calls a0_2 a1_0 false _ A45.out).mono ?_); rintro e w' ⟨rfl, ⟨nd, rfl⟩⟩; refine ⟨_, rfl, ?_⟩))
  go_ret
  exact ⟨eR_, bS2_ GE173.out GE174.out⟩
 rw [if_neg c40] at H
 have c40b0 := beq_eq_false_iff_ne.mpr c40
 have c40b1 := bne_iff_ne.mpr c40
 replace H := Option.bind_eq_some_iff.mp H
 obtain ⟨t181, A530, H⟩ := H
 replace H : (if t181 = true then (some 0) else (some 6)) = some r := H
 have A53 := aK_ A530
 clear A530
 by_cases c54 : t181 = true
 ·subst c54
  have H1 : (some 0) = some r := by rw [if_pos rfl] at H; exact H
  clear H
  have H := H1
  clear H1
  obtain rfl := Option.some.inj H
  have hnb55 := NB173_174.out
  have hnc55 := NB174_173.out
  have hz56 := cq6_ BK173.out
  have hz57 := cq9_ BK174.out
  go_wp2_with (first | ((with_reducible refine gate_callee (f := 115) rfl ?_); refine goesL_ (some 53) rfl rfl Try.func115 (by kernel_rfl) rfl #[.string a0_2, .int .i64 a1_0] rfl mS_ ?_; (with_reducible refine (key_Right.calls a0_2 a1_0 true _ A53.out).mono ?_); rintro e w' ⟨rfl, ⟨nd, rfl⟩⟩; refine ⟨_, rfl, ?_⟩))
  go_ret
  exact ⟨eR_, bS2_ GE173.out GE174.out⟩
 replace c54 := Bool.eq_false_iff.mpr c54
 subst c54
 have H1 : (some 6) = some r := by rw [if_neg (show ¬ (false = true) by decide)] at H; exact H
 clear H
 have H := H1
 clear H1
 obtain rfl := Option.some.inj H
 have hnb58 := NB173_174.out
 have hnc58 := NB174_173.out
 have hz59 := cq6_ BK173.out
 have hz60 := cq9_ BK174.out
 go_wp2_with (first | ((with_reducible refine gate_callee (f := 115) rfl ?_); refine goesL_ (some 53) rfl rfl Try.func115 (by kernel_rfl) rfl #[.string a0_2, .int .i64 a1_0] rfl mS_ ?_; (with_reducible refine (key_Right.calls a0_2 a1_0 false _ A53.out).mono ?_); rintro e w' ⟨rfl, ⟨nd, rfl⟩⟩; refine ⟨_, rfl, ?_⟩))
 go_ret
 exact ⟨eR_, bS2_ GE173.out GE174.out⟩
end Go.Proofs.Ytljnlnbopohghaa.P
end
