/- Texts of one claim (laid by shake.py). -/
import Derived.Test.YtljnlnbopohghaaZWa4
import Derived.Test.YtljnlnbopohghaaZWa5
import Derived.Test.YtljnlnbopohghaaZWa18
set_option linter.unusedVariables false
set_option linter.unusedSimpArgs false
section
namespace Go.Proofs.Ytljnlnbopohghaa.P
open Go.RowKit Go.Proofs.YtljnlnbopohghaaW.PrintWords Go.Proofs.YtljnlnbopohghaaW.PrintLast Go.Proofs.YtljnlnbopohghaaW.PrintMore Go.Proofs.Ytljnlnbopohghaa.Own
open Bool renaming true → YY, false → ZZ
open Go.Proofs.YtljnlnbopohghaaW.PrintWords renaming blk_cell → bC, blk_frozen → bF, blk_drewN → bN, blk_alloc → bA, pw_below_drewN → wN, blk_drew → bD, below_drew1 → w1, below_set → wS, below_alloc → wA, blk_below → bB, below_step → wT, below_size → wZ
open List renaming setIfInBounds_toArray → sA1, set_cons_zero → sA2, set_cons_succ → sA3, map_toArray → mA1, map_cons → mA2, map_nil → mA3, length_take → mA4, length_drop → mA5
attribute [local go_sem] max2_str max2_int min2_int max_two min_two max_three min_three max_four min_four   -- for this text's walks alone
mutual
def catchmentref21_Ask.j0 : Nat → Bool → Int → ByteArray → ByteArray → Int → List (S117) → Int → Int → Int → Int → Int → Int → Int → Int → Int → Option (Int)
 | 0, _, _, _, _, _, _, _, _, _, _, _, _, _, _, _ => none
 | k + 1, x20, x232000, x232001, x232002, x232003, x232004, x233000, x233001, x233002, x233003, x233004, x233005, x233006, x233007, x233008 => if x20 = true then (some 3) else (if x232000 = 1 then (if x232001.toList = ([] : List UInt8) then (catchmentref21_Ask.j1 k true x232000 x232001 x232002 x232003 x232004 x233000 x233001 x233002 x233003 x233004 x233005 x233006 x233007 x233008) else (catchmentref21_Ask.j1 k (decide ((x232001.size : Int) > x233000)) x232000 x232001 x232002 x232003 x232004 x233000 x233001 x233002 x233003 x233004 x233005 x233006 x233007 x233008)) else (catchmentref21_Ask.j1 k false x232000 x232001 x232002 x232003 x232004 x233000 x233001 x233002 x233003 x233004 x233005 x233006 x233007 x233008))
def catchmentref21_Ask.j1 : Nat → Bool → Int → ByteArray → ByteArray → Int → List (S117) → Int → Int → Int → Int → Int → Int → Int → Int → Int → Option (Int)
 | 0, _, _, _, _, _, _, _, _, _, _, _, _, _, _, _ => none
 | k + 1, x36, x232000, x232001, x232002, x232003, x232004, x233000, x233001, x233002, x233003, x233004, x233005, x233006, x233007, x233008 => if x36 = true then (some 6) else (if x232000 = 2 then (catchmentref21_Ask.j2 k (decide ((x232004.length : Int) > 1024)) x232000 x232001 x232002 x232003 x232004 x233000 x233001 x233002 x233003 x233004 x233005 x233006 x233007 x233008) else (catchmentref21_Ask.j2 k false x232000 x232001 x232002 x232003 x232004 x233000 x233001 x233002 x233003 x233004 x233005 x233006 x233007 x233008))
def catchmentref21_Ask.j2 : Nat → Bool → Int → ByteArray → ByteArray → Int → List (S117) → Int → Int → Int → Int → Int → Int → Int → Int → Int → Option (Int)
 | 0, _, _, _, _, _, _, _, _, _, _, _, _, _, _, _ => none
 | k + 1, x45, x232000, x232001, x232002, x232003, x232004, x233000, x233001, x233002, x233003, x233004, x233005, x233006, x233007, x233008 => if x45 = true then (some 8) else (catchmentref21_Ask.l0 k 0 x232000 x232001 x232002 x232003 x232004 x233000 x233001 x233002 x233003 x233004 x233005 x233006 x233007 x233008)
def catchmentref21_Ask.l0 : Nat → Int → Int → ByteArray → ByteArray → Int → List (S117) → Int → Int → Int → Int → Int → Int → Int → Int → Int → Option (Int)
 | 0, _, _, _, _, _, _, _, _, _, _, _, _, _, _, _ => none
 | k + 1, x5, x232000, x232001, x232002, x232003, x232004, x233000, x233001, x233002, x233003, x233004, x233005, x233006, x233007, x233008 => if x5 < (x232004.length : Int) then (if 0 ≤ x5 then (if ((rd_T117 x232004 x5).f1) = 0 then (catchmentref21_Ask.l0 k (wrap64 (x5 + 1)) x232000 x232001 x232002 x232003 x232004 x233000 x233001 x233002 x233003 x233004 x233005 x233006 x233007 x233008) else (some 3)) else (none)) else (catchmentref21_Ask.l1 k 0 x232000 x232001 x232002 x232003 x232004 x233000 x233001 x233002 x233003 x233004 x233005 x233006 x233007 x233008)
def catchmentref21_Ask.l1 : Nat → Int → Int → ByteArray → ByteArray → Int → List (S117) → Int → Int → Int → Int → Int → Int → Int → Int → Int → Option (Int)
 | 0, _, _, _, _, _, _, _, _, _, _, _, _, _, _, _ => none
 | k + 1, x6, x232000, x232001, x232002, x232003, x232004, x233000, x233001, x233002, x233003, x233004, x233005, x233006, x233007, x233008 => if x6 < (x232004.length : Int) then (if 0 ≤ x6 then ((catchmentref04_Check.f k ((rd_T117 x232004 x6).f0) ((rd_T117 x232004 x6).f1) ((rd_T117 x232004 x6).f2) ((rd_T117 x232004 x6).f3) ((rd_T117 x232004 x6).f4) ((rd_T117 x232004 x6).f5) x233000 x233001 x233002 x233003 x233004 x233005 x233006 x233007 x233008).bind fun t236 => (if t236 = 0 then (catchmentref21_Ask.l1 k (wrap64 (x6 + 1)) x232000 x232001 x232002 x232003 x232004 x233000 x233001 x233002 x233003 x233004 x233005 x233006 x233007 x233008) else (some t236))) else (none)) else (if x232000 = 3 then (catchmentref21_Ask.j5 k false x232000 x232001 x232002 x232003 x232004 x233000 x233001 x233002 x233003 x233004 x233005 x233006 x233007 x233008) else (catchmentref21_Ask.j5 k (x232000 != 4) x232000 x232001 x232002 x232003 x232004 x233000 x233001 x233002 x233003 x233004 x233005 x233006 x233007 x233008))
def catchmentref21_Ask.j5 : Nat → Bool → Int → ByteArray → ByteArray → Int → List (S117) → Int → Int → Int → Int → Int → Int → Int → Int → Int → Option (Int)
 | 0, _, _, _, _, _, _, _, _, _, _, _, _, _, _, _ => none
 | k + 1, x84, x232000, x232001, x232002, x232003, x232004, x233000, x233001, x233002, x233003, x233004, x233005, x233006, x233007, x233008 => if x84 = true then (some 0) else (if (x232001.size : Int) > x233000 then (catchmentref21_Ask.j6 k true x232000 x232001 x232002 x232003 x232004 x233000 x233001 x233002 x233003 x233004 x233005 x233006 x233007 x233008) else (catchmentref21_Ask.j6 k (decide ((x232002.size : Int) > x233000)) x232000 x232001 x232002 x232003 x232004 x233000 x233001 x233002 x233003 x233004 x233005 x233006 x233007 x233008))
def catchmentref21_Ask.j6 : Nat → Bool → Int → ByteArray → ByteArray → Int → List (S117) → Int → Int → Int → Int → Int → Int → Int → Int → Int → Option (Int)
 | 0, _, _, _, _, _, _, _, _, _, _, _, _, _, _, _ => none
 | k + 1, x98, x232000, x232001, x232002, x232003, x232004, x233000, x233001, x233002, x233003, x233004, x233005, x233006, x233007, x233008 => if x98 = true then (some 6) else (if x232002.toList = ([] : List UInt8) then (catchmentref21_Ask.j7 k false x232000 x232001 x232002 x232003 x232004 x233000 x233001 x233002 x233003 x233004 x233005 x233006 x233007 x233008) else (catchmentref21_Ask.j7 k (!(Op.bytesLess x232001.toList x232002.toList)) x232000 x232001 x232002 x232003 x232004 x233000 x233001 x233002 x233003 x233004 x233005 x233006 x233007 x233008))
def catchmentref21_Ask.j7 : Nat → Bool → Int → ByteArray → ByteArray → Int → List (S117) → Int → Int → Int → Int → Int → Int → Int → Int → Int → Option (Int)
 | 0, _, _, _, _, _, _, _, _, _, _, _, _, _, _, _ => none
 | k + 1, x108, x232000, x232001, x232002, x232003, x232004, x233000, x233001, x233002, x233003, x233004, x233005, x233006, x233007, x233008 => if x108 = true then (some 7) else (if x232000 = 3 then (if x232003 < 1 then (some 4) else (if x232003 > x233008 then (some 4) else (some 0))) else (some 0))
end
def catchmentref21_Ask.f (k : Nat) (a0_0 : Int) (a0_1 a0_2 : BA) (a0_3 : Int) (l0_4 : List (S117)) (a1_0 a1_1 a1_2 a1_3 a1_4 a1_5 a1_6 a1_7 a1_8 : Int) : Option (Int) := if a0_0 < 1 then (catchmentref21_Ask.j0 k true a0_0 a0_1 a0_2 a0_3 l0_4 a1_0 a1_1 a1_2 a1_3 a1_4 a1_5 a1_6 a1_7 a1_8) else (if a0_0 > 6 then (catchmentref21_Ask.j0 k true a0_0 a0_1 a0_2 a0_3 l0_4 a1_0 a1_1 a1_2 a1_3 a1_4 a1_5 a1_6 a1_7 a1_8) else ((catchmentref21_zero.f a0_0 a0_1 a0_2 a0_3 l0_4).bind fun t233 => (catchmentref21_Ask.j0 k (!t233) a0_0 a0_1 a0_2 a0_3 l0_4 a1_0 a1_1 a1_2 a1_3 a1_4 a1_5 a1_6 a1_7 a1_8)))
def catchmentref21_Ask.T15 : Bool × List (List Nat × List Nat) := (true, [([], []), ([0], [0]), ([], []), ([1, 2], [1, 2]), ([3], [3]), ([], []), ([4, 5], [4, 5]), ([6, 6, 0, 1, 2, 3, 4, 5, 6], [6])])
def catchmentref21_Ask.B15 : List Nat := [0, 1, 0, 7, 15, 0, 63, 127]
theorem catchmentref21_Ask.tab15 : rtab .any (opsOf Try.f24 15) = catchmentref21_Ask.T15 := by kernel_rfl
theorem catchmentref21_Ask.bits15 : waitsOk catchmentref21_Ask.T15.2 catchmentref21_Ask.B15 = true := by kernel_rfl
set_option maxHeartbeats 8000000 in
set_option maxRecDepth 100000 in
theorem catchmentref21_Ask.calls (k : Nat) (a0_0 : Int) (a0_1 a0_2 : BA) (a0_3 : Int) (A0_4 : Option Addr) (c0_4 : Nat) (l0_4 : List (S117)) (a1_0 a1_1 a1_2 a1_3 a1_4 a1_5 a1_6 a1_7 a1_8 r : Int) (w : World) (hr0_4 : Kd.C k117 w A0_4 l0_4.length l0_4) (hc0_4 : l0_4.length ≤ c0_4) (h : catchmentref21_Ask.f k a0_0 a0_1 a0_2 a0_3 l0_4 a1_0 a1_1 a1_2 a1_3 a1_4 a1_5 a1_6 a1_7 a1_8 = some r) :
  Calls Try.prog 24 #[.agg #[.int .u8 a0_0, .string a0_1, .string a0_2, .int .i64 a0_3, .slice A0_4 l0_4.length c0_4], .agg #[.int .i64 a1_0, .int .i64 a1_1, .int .i64 a1_2, .int .i64 a1_3, .int .i64 a1_4, .int .i64 a1_5, .int .i64 a1_6, .int .i64 a1_7, .int .i64 a1_8]] w fun e w' => e = .returned (.int .i64 r) ∧ Below w.heap.size w w' := by
 have hu56 := Try.underlying56
 have hu47 := Try.underlying47
 have hu117 := Try.underlying117
 have HR0_4 := aK_ hr0_4
 have HC0_4 := aK_ hc0_4
 clear hr0_4 hc0_4
 have HB := aK_ (Below.refl w.heap.size w)
 have H : (if a0_0 < 1 then (catchmentref21_Ask.j0 k true a0_0 a0_1 a0_2 a0_3 l0_4 a1_0 a1_1 a1_2 a1_3 a1_4 a1_5 a1_6 a1_7 a1_8) else (if a0_0 > 6 then (catchmentref21_Ask.j0 k true a0_0 a0_1 a0_2 a0_3 l0_4 a1_0 a1_1 a1_2 a1_3 a1_4 a1_5 a1_6 a1_7 a1_8) else ((catchmentref21_zero.f a0_0 a0_1 a0_2 a0_3 l0_4).bind fun t233 => (catchmentref21_Ask.j0 k (!t233) a0_0 a0_1 a0_2 a0_3 l0_4 a1_0 a1_1 a1_2 a1_3 a1_4 a1_5 a1_6 a1_7 a1_8)))) = some r := h
 clear h
 have HC3 := aK_ H
 clear H
 go_enter Try.func24, Try.ntmps24
 go_upto_region 1 with (first | ((with_reducible refine gate_dst (N := 2) rfl ?_); (try (refine gate_guard (by rfl) ?_; dsimp only)); refine bE_ 2 #[.int .u8 a0_0, .string a0_1, .string a0_2, .int .i64 a0_3, .slice A0_4 l0_4.length c0_4] 56 ?_; intro gb231 hg w4 hbox hb; have BK231 := aK_ (hbox); have GW231 := aK_ (gE_ hg); replace HB := aK_ (wT bW_ hb); have GE231 := GW231; clear hb hbox hg) | ((with_reducible refine gate_dst (N := 3) rfl ?_); (try (refine gate_guard (by rfl) ?_; dsimp only)); refine bE_ 3 #[.int .i64 a1_0, .int .i64 a1_1, .int .i64 a1_2, .int .i64 a1_3, .int .i64 a1_4, .int .i64 a1_5, .int .i64 a1_6, .int .i64 a1_7, .int .i64 a1_8] 47 ?_; intro gb232 hg w5 hbox hb; have n0_ := aK_ (bB (bX_ BK231.out) hb); have n1_ := aK_ (wT (bS1_ GE231.out) hb); have n2_ := aK_ (hbox); have n3_ := aK_ ((by rw [hg]; exact (wZ (bS1_ GE231.out)) : w.heap.size ≤ gb232)); have n4_ := n3_; have n5_ := aK_ ((by rw [hg]; exact Nat.ne_of_lt (blk_lt (g := gb231) (o := .cells #[.int .u8 a0_0, .string a0_1, .string a0_2, .int .i64 a0_3, .slice A0_4 l0_4.length c0_4] 56 (0, 0)) (bX_ BK231.out)) : gb231 ≠ gb232)); have n6_ := aK_ ((by rw [hg]; exact Nat.ne_of_gt (blk_lt (g := gb231) (o := .cells #[.int .u8 a0_0, .string a0_1, .string a0_2, .int .i64 a0_3, .slice A0_4 l0_4.length c0_4] 56 (0, 0)) (bX_ BK231.out)) : gb232 ≠ gb231)); clear BK231; clear HB; have BK231 := n0_; have HB := n1_; have BK232 := n2_; have GW232 := n3_; have GE232 := n4_; have NB231_232 := n5_; have NB232_231 := n6_; clear n0_ n1_ n2_ n3_ n4_ n5_ n6_; clear hb hbox hg))
 (try simp only [Act.put, sA1, sA2, sA3])
 go_cut [20] (fun v20 wc => ∃ (kq : Nat) (x20_2 : Bool), v20 = .bool x20_2 ∧ Aside0 (catchmentref21_Ask.j0 kq x20_2 a0_0 a0_1 a0_2 a0_3 l0_4 a1_0 a1_1 a1_2 a1_3 a1_4 a1_5 a1_6 a1_7 a1_8 = some r) ∧ Aside0 (kq ≤ k) ∧ Aside0 (wc.heap[gb231]? = some (.cells #[.int .u8 a0_0, .string a0_1, .string a0_2, .int .i64 a0_3, (.slice A0_4 l0_4.length c0_4)] 56 (0, 0))) ∧ Aside0 (wc.heap[gb232]? = some (.cells #[.int .i64 a1_0, .int .i64 a1_1, .int .i64 a1_2, .int .i64 a1_3, .int .i64 a1_4, .int .i64 a1_5, .int .i64 a1_6, .int .i64 a1_7, .int .i64 a1_8] 47 (0, 0))) ∧ Aside0 (Below w.heap.size w wc))
 case first =>
  have H := HC3.out
  clear HC3
  by_cases c6 : a0_0 < 1
  ·rw [if_pos c6] at H
   have c6b0 := decide_eq_true c6
   clear c6
   (first | rw [c6b0] | (simp only [i64_w, i32_w]; rw [c6b0]) | skip)
   have H' := aK_ H; clear H
   have hnb7 := NB231_232.out
   have hnc7 := NB232_231.out
   have hz8 := cq5_ BK231.out
   go_wp2
   go_meet
   case rel => exact ⟨_, (true), rZ_, H', ⟨oM_⟩, ⟨bX_ BK231.out⟩, ⟨bX_ BK232.out⟩, ⟨bS2_ GE231.out GE232.out⟩⟩
  rw [if_neg c6] at H
  have c6b0 := decide_eq_false c6
  clear c6
  (first | rw [c6b0] | (simp only [i64_w, i32_w]; rw [c6b0]) | skip)
  by_cases c9 : a0_0 > 6
  ·rw [if_pos c9] at H
   have c9b0 : decide (6 < a0_0) = true := decide_eq_true c9
   clear c9
   have H' := aK_ H; clear H
   have hnb10 := NB231_232.out
   have hnc10 := NB232_231.out
   have hz11 := cq5_ BK231.out
   go_wp2
   go_meet
   case rel => exact ⟨_, (true), rZ_, H', ⟨oM_⟩, ⟨bX_ BK231.out⟩, ⟨bX_ BK232.out⟩, ⟨bS2_ GE231.out GE232.out⟩⟩
  rw [if_neg c9] at H
  have c9b0 : decide (6 < a0_0) = false := decide_eq_false c9
  clear c9
  replace H := Option.bind_eq_some_iff.mp H
  obtain ⟨t233, A120, H⟩ := H
  replace H : (catchmentref21_Ask.j0 k (!t233) a0_0 a0_1 a0_2 a0_3 l0_4 a1_0 a1_1 a1_2 a1_3 a1_4 a1_5 a1_6 a1_7 a1_8) = some r := H
  have A12 := aK_ A120
  clear A120
  have H' := aK_ H; clear H
  have hnb13 := NB231_232.out
  have hnc13 := NB232_231.out
  have hz14 := cq5_ BK231.out
  go_wp2_with (first | (go_at_call 60; (with_reducible refine (catchmentref21_zero.calls a0_0 a0_1 a0_2 a0_3 _ _ l0_4 t233 _ ?side1 ?side2 A12.out).mono ?_); (case side1 => repeat (first | exact (Kd.C_below HR0_4.out HB.out) | (with_reducible refine Kd.C_alloc ?_ _) | (with_reducible refine Kd.C_drewN ?_ _) | (with_reducible refine Kd.C_drew ?_))); (case side2 => exact HC0_4.out); rintro e w15 ⟨rfl, hb⟩; replace BK231 := aK_ (bB (bX_ BK231.out) hb); replace BK232 := aK_ (bB (bX_ BK232.out) hb); replace HB := aK_ (wT (bS2_ GE231.out GE232.out) hb); (try clear hb); (try clear hb2); (try clear hk); (try clear hi)))
  go_meet
  case rel => exact ⟨_, (!t233), rZ_, H', ⟨oM_⟩, ⟨bX_ BK231.out⟩, ⟨bX_ BK232.out⟩, ⟨bS2_ GE231.out GE232.out⟩⟩
 clear HC3
 try clear c1
 try clear c2
 try clear p2
 try clear c6b0
 try clear c7
 try clear c9b0
 try clear c10
 try clear c13
 try clear hz11
 try clear hz14
 try clear hz8
 try clear hz11
 try clear hz14
 try clear hz8
 obtain ⟨kq, x20_2, rfl, HA, HJ2, BK231, BK232, HB⟩ := hcut
 cases kq with
 | zero => exact absurd HA.out (by simp [catchmentref21_Ask.j0])
 | succ kj2 => ?_
 have H := HA.out
 clear HA
 simp only [catchmentref21_Ask.j0] at H
 by_cases c16 : x20_2 = true
 ·subst c16
  have H1 : (some 3) = some r := by rw [if_pos rfl] at H; exact H
  clear H
  have H := H1
  clear H1
  obtain rfl := Option.some.inj H
  go_wp2
  go_ret
  exact ⟨eR_, bS2_ GE231.out GE232.out⟩
 replace c16 := Bool.eq_false_iff.mpr c16
 subst c16
 have H1 : (if a0_0 = 1 then (if a0_1.toList = ([] : List UInt8) then (catchmentref21_Ask.j1 kj2 true a0_0 a0_1 a0_2 a0_3 l0_4 a1_0 a1_1 a1_2 a1_3 a1_4 a1_5 a1_6 a1_7 a1_8) else (catchmentref21_Ask.j1 kj2 (decide ((a0_1.size : Int) > a1_0)) a0_0 a0_1 a0_2 a0_3 l0_4 a1_0 a1_1 a1_2 a1_3 a1_4 a1_5 a1_6 a1_7 a1_8)) else (catchmentref21_Ask.j1 kj2 false a0_0 a0_1 a0_2 a0_3 l0_4 a1_0 a1_1 a1_2 a1_3 a1_4 a1_5 a1_6 a1_7 a1_8)) = some r := by rw [if_neg (show ¬ (false = true) by decide)] at H; exact H
 clear H
 have H := H1
 clear H1
 have HC17 := aK_ H
 clear H
 go_upto_region 3 with (fail)
 go_cut [36] (fun v36 wc => ∃ (kq : Nat) (x36_16 : Bool), v36 = .bool x36_16 ∧ Aside0 (catchmentref21_Ask.j1 kq x36_16 a0_0 a0_1 a0_2 a0_3 l0_4 a1_0 a1_1 a1_2 a1_3 a1_4 a1_5 a1_6 a1_7 a1_8 = some r) ∧ Aside0 (kq ≤ kj2) ∧ Aside0 (wc.heap[gb231]? = some (.cells #[.int .u8 a0_0, .string a0_1, .string a0_2, .int .i64 a0_3, (.slice A0_4 l0_4.length c0_4)] 56 (0, 0))) ∧ Aside0 (wc.heap[gb232]? = some (.cells #[.int .i64 a1_0, .int .i64 a1_1, .int .i64 a1_2, .int .i64 a1_3, .int .i64 a1_4, .int .i64 a1_5, .int .i64 a1_6, .int .i64 a1_7, .int .i64 a1_8] 47 (0, 0))) ∧ Aside0 (Below w.heap.size w wc))
 case first =>
  have H := HC17.out
  clear HC17
  by_cases c18 : a0_0 = 1
  ·rw [if_pos c18] at H
   have c18b0 := beq_iff_eq.mpr c18
   have c18b1 := bne_eq_false_iff_eq.mpr c18
   clear c18
   (first | rw [c18b0] | (simp only [i64_w, i32_w]; rw [c18b0]) | skip)
   by_cases c19 : a0_1.toList = ([] : List UInt8)
   ·rw [if_pos c19] at H
    have c19b0 := beq_iff_eq.mpr c19
    have c19b1 := bne_eq_false_iff_eq.mpr c19
    clear c19
    have H' := aK_ H; clear H
    have hnb20 := NB231_232.out
    have hnc20 := NB232_231.out
    have hz21 := cq5_ BK231.out
    go_wp2
    go_meet
    case rel => exact ⟨_, (true), rZ_, H', ⟨by have := HJ2.out; first | omega | exact Nat.le_refl _⟩, ⟨bX_ BK231.out⟩, ⟨bX_ BK232.out⟩, ⟨bS2_ GE231.out GE232.out⟩⟩
   rw [if_neg c19] at H
   have c19b0 := beq_eq_false_iff_ne.mpr c19
   have c19b1 := bne_iff_ne.mpr c19
   have H' := aK_ H; clear H
   have hnb22 := NB231_232.out
   have hnc22 := NB232_231.out
   have hz23 := cq5_ BK231.out
   have hz24 := cq9_ BK232.out
   go_wp2
   go_meet
   case rel => exact ⟨_, (decide ((a0_1.size : Int) > a1_0)), rZ_, H', ⟨by have := HJ2.out; first | omega | exact Nat.le_refl _⟩, ⟨bX_ BK231.out⟩, ⟨bX_ BK232.out⟩, ⟨bS2_ GE231.out GE232.out⟩⟩
  rw [if_neg c18] at H
  have c18b0 := beq_eq_false_iff_ne.mpr c18
  have c18b1 := bne_iff_ne.mpr c18
  (first | rw [c18b0] | (simp only [i64_w, i32_w]; rw [c18b0]) | skip)
  have H' := aK_ H; clear H
  have hnb25 := NB231_232.out
  have hnc25 := NB232_231.out
  have hz26 := cq5_ BK231.out
  go_wp2
  go_meet
  case rel => exact ⟨_, (false), rZ_, H', ⟨by have := HJ2.out; first | omega | exact Nat.le_refl _⟩, ⟨bX_ BK231.out⟩, ⟨bX_ BK232.out⟩, ⟨bS2_ GE231.out GE232.out⟩⟩
 clear HC17
 try clear c1
 try clear c2
 try clear p2
 try clear c6b0
 try clear c7
 try clear c9b0
 try clear c10
 try clear c13
 try clear c16
 try clear c18
 try clear c18b0
 try clear c18b1
 try clear c19
 try clear c19b0
 try clear c19b1
 try clear c20
 try clear c22
 try clear c24
 try clear c25
 try clear hz11
 try clear hz14
 try clear hz21
 try clear hz23
 try clear hz24
 try clear hz26
 try clear hz8
 try clear hz11
 try clear hz14
 try clear hz21
 try clear hz23
 try clear hz24
 try clear hz26
 try clear hz8
 try clear p2
 obtain ⟨kq, x36_16, rfl, HA, HJ16, BK231, BK232, HB⟩ := hcut
 cases kq with
 | zero => exact absurd HA.out (by simp [catchmentref21_Ask.j1])
 | succ kj16 => ?_
 have H := HA.out
 clear HA
 simp only [catchmentref21_Ask.j1] at H
 by_cases c27 : x36_16 = true
 ·subst c27
  have H1 : (some 6) = some r := by rw [if_pos rfl] at H; exact H
  clear H
  have H := H1
  clear H1
  obtain rfl := Option.some.inj H
  go_wp2
  go_ret
  exact ⟨eR_, bS2_ GE231.out GE232.out⟩
 replace c27 := Bool.eq_false_iff.mpr c27
 subst c27
 have H1 : (if a0_0 = 2 then (catchmentref21_Ask.j2 kj16 (decide ((l0_4.length : Int) > 1024)) a0_0 a0_1 a0_2 a0_3 l0_4 a1_0 a1_1 a1_2 a1_3 a1_4 a1_5 a1_6 a1_7 a1_8) else (catchmentref21_Ask.j2 kj16 false a0_0 a0_1 a0_2 a0_3 l0_4 a1_0 a1_1 a1_2 a1_3 a1_4 a1_5 a1_6 a1_7 a1_8)) = some r := by rw [if_neg (show ¬ (false = true) by decide)] at H; exact H
 clear H
 have H := H1
 clear H1
 have HC28 := aK_ H
 clear H
 go_upto_region 5 with (fail)
 go_cut [45] (fun v45 wc => ∃ (kq : Nat) (x45_27 : Bool), v45 = .bool x45_27 ∧ Aside0 (catchmentref21_Ask.j2 kq x45_27 a0_0 a0_1 a0_2 a0_3 l0_4 a1_0 a1_1 a1_2 a1_3 a1_4 a1_5 a1_6 a1_7 a1_8 = some r) ∧ Aside0 (kq ≤ kj16) ∧ Aside0 (wc.heap[gb231]? = some (.cells #[.int .u8 a0_0, .string a0_1, .string a0_2, .int .i64 a0_3, (.slice A0_4 l0_4.length c0_4)] 56 (0, 0))) ∧ Aside0 (wc.heap[gb232]? = some (.cells #[.int .i64 a1_0, .int .i64 a1_1, .int .i64 a1_2, .int .i64 a1_3, .int .i64 a1_4, .int .i64 a1_5, .int .i64 a1_6, .int .i64 a1_7, .int .i64 a1_8] 47 (0, 0))) ∧ Aside0 (Below w.heap.size w wc))
 case first =>
  have H := HC28.out
  clear HC28
  by_cases c29 : a0_0 = 2
  ·rw [if_pos c29] at H
   have c29b0 := beq_iff_eq.mpr c29
   have c29b1 := bne_eq_false_iff_eq.mpr c29
   clear c29
   (first | rw [c29b0] | (simp only [i64_w, i32_w]; rw [c29b0]) | skip)
   have H' := aK_ H; clear H
   have hnb30 := NB231_232.out
   have hnc30 := NB232_231.out
   have hz31 := cq5_ BK231.out
   go_wp2
   go_meet
   case rel => exact ⟨_, (decide ((l0_4.length : Int) > 1024)), rZ_, H', ⟨by have := HJ2.out; have := HJ16.out; first | omega | exact Nat.le_refl _⟩, ⟨bX_ BK231.out⟩, ⟨bX_ BK232.out⟩, ⟨bS2_ GE231.out GE232.out⟩⟩
  rw [if_neg c29] at H
  have c29b0 := beq_eq_false_iff_ne.mpr c29
  have c29b1 := bne_iff_ne.mpr c29
  (first | rw [c29b0] | (simp only [i64_w, i32_w]; rw [c29b0]) | skip)
  have H' := aK_ H; clear H
  have hnb32 := NB231_232.out
  have hnc32 := NB232_231.out
  have hz33 := cq5_ BK231.out
  go_wp2
  go_meet
  case rel => exact ⟨_, (false), rZ_, H', ⟨by have := HJ2.out; have := HJ16.out; first | omega | exact Nat.le_refl _⟩, ⟨bX_ BK231.out⟩, ⟨bX_ BK232.out⟩, ⟨bS2_ GE231.out GE232.out⟩⟩
 clear HC28
 try clear c1
 try clear c2
 try clear p2
 try clear c3
 try clear c6b0
 try clear c7
 try clear c9b0
 try clear c10
 try clear c13
 try clear c16
 try clear c18
 try clear c18b0
 try clear c18b1
 try clear c19
 try clear c19b0
 try clear c19b1
 try clear c20
 try clear c22
 try clear c24
 try clear c25
 try clear c27
 try clear c29
 try clear c29b0
 try clear c29b1
 try clear c30
 try clear c32
 try clear hz11
 try clear hz14
 try clear hz21
 try clear hz23
 try clear hz24
 try clear hz26
 try clear hz31
 try clear hz33
 try clear hz8
 try clear hz11
 try clear hz14
 try clear hz21
 try clear hz23
 try clear hz24
 try clear hz26
 try clear hz31
 try clear hz33
 try clear hz8
 try clear p2
 obtain ⟨kq, x45_27, rfl, HA, HJ27, BK231, BK232, HB⟩ := hcut
 cases kq with
 | zero => exact absurd HA.out (by simp [catchmentref21_Ask.j2])
 | succ kj27 => ?_
 have H := HA.out
 clear HA
 simp only [catchmentref21_Ask.j2] at H
 by_cases c34 : x45_27 = true
 ·subst c34
  have H1 : (some 8) = some r := by rw [if_pos rfl] at H; exact H
  clear H
  have H := H1
  clear H1
  obtain rfl := Option.some.inj H
  go_wp2
  go_ret
  exact ⟨eR_, bS2_ GE231.out GE232.out⟩
 replace c34 := Bool.eq_false_iff.mpr c34
 subst c34
 have H1 : (catchmentref21_Ask.l0 kj27 0 a0_0 a0_1 a0_2 a0_3 l0_4 a1_0 a1_1 a1_2 a1_3 a1_4 a1_5 a1_6 a1_7 a1_8) = some r := by rw [if_neg (show ¬ (false = true) by decide)] at H; exact H
 clear H
 have H := H1
 clear H1
 have H' := aK_ H; clear H
 go_wp2
 go_loopg [5] kj27 (fun kq v5 w' => ∃ (x5_4 : Int), v5 = .int .i64 x5_4 ∧ Aside0 (catchmentref21_Ask.l0 kq x5_4 a0_0 a0_1 a0_2 a0_3 l0_4 a1_0 a1_1 a1_2 a1_3 a1_4 a1_5 a1_6 a1_7 a1_8 = some r) ∧ Aside0 (kq ≤ kj27) ∧ Aside0 (w'.heap[gb231]? = some (.cells #[.int .u8 a0_0, .string a0_1, .string a0_2, .int .i64 a0_3, (.slice A0_4 l0_4.length c0_4)] 56 (0, 0))) ∧ Aside0 (w'.heap[gb232]? = some (.cells #[.int .i64 a1_0, .int .i64 a1_1, .int .i64 a1_2, .int .i64 a1_3, .int .i64 a1_4, .int .i64 a1_5, .int .i64 a1_6, .int .i64 a1_7, .int .i64 a1_8] 47 (0, 0))) ∧ Aside0 (Below w.heap.size w w'))
 case atStart => exact ⟨(0), rZ_, H', ⟨Nat.le_refl _⟩, ⟨bX_ BK231.out⟩, ⟨bX_ BK232.out⟩, ⟨bS2_ GE231.out GE232.out⟩⟩
 clear H'
 try clear c1
 try clear c2
 try clear p2
 try clear c3
 try clear c6b0
 try clear c7
 try clear c9b0
 try clear c10
 try clear c13
 try clear c16
 try clear c18
 try clear c18b0
 try clear c18b1
 try clear c19
 try clear c19b0
 try clear c19b1
 try clear c20
 try clear c22
 try clear c24
 try clear c25
 try clear c27
 try clear c29
 try clear c29b0
 try clear c29b1
 try clear c30
 try clear c32
 try clear c34
 try clear hz11
 try clear hz14
 try clear hz21
 try clear hz23
 try clear hz24
 try clear hz26
 try clear hz31
 try clear hz33
 try clear hz8
 try clear hz11
 try clear hz14
 try clear hz21
 try clear hz23
 try clear hz24
 try clear hz26
 try clear hz31
 try clear hz33
 try clear hz8
 try clear p2
 obtain ⟨x5_4, rfl, HA, HK4, BK231, BK232, HB⟩ := hrel
 cases gk with
 | zero => exact absurd HA.out (by simp [catchmentref21_Ask.l0])
 | succ k4 => ?_
 have H := HA.out
 clear HA
 simp only [catchmentref21_Ask.l0] at H
 by_cases c35 : x5_4 < (l0_4.length : Int)
 ·rw [if_pos c35] at H
  have c35b0 := decide_eq_true c35
  clear c35
  by_cases c36 : 0 ≤ x5_4
  ·rw [if_pos c36] at H
   have c36b0 := decide_eq_true c36
   clear c36
   by_cases c37 : ((rd_T117 l0_4 x5_4).f1) = 0
   ·rw [if_pos c37] at H
    have c37b0 := beq_iff_eq.mpr c37
    have c37b1 := bne_eq_false_iff_eq.mpr c37
    clear c37
    have H' := aK_ H; clear H
    have hnb38 := NB231_232.out
    have hnc38 := NB232_231.out
    have hz39 := cq5_ BK231.out
    have p234 : 0 ≤ (x5_4 : Int) := pD_
    have q234 : x5_4 < (l0_4.length : Int) := pD_
    obtain ⟨ad234, e234, hx234_0, hx234_1, hx234_2, hx234_3, hx234_4, hx234_5⟩ := at_T117 HR0_4.out x5_4 p234 q234
    cases e234
    replace hx234_0 := cB_ hx234_0
    replace hx234_1 := cB_ hx234_1
    replace hx234_2 := cB_ hx234_2
    replace hx234_3 := cB_ hx234_3
    replace hx234_4 := cB_ hx234_4
    replace hx234_5 := cB_ hx234_5
    replace p234 := eq_true p234
    replace q234 := eq_true q234
    go_wp2
    go_roundg k4
    case measure => have := HJ2.out; have := HJ16.out; have := HJ27.out; have := HK4.out; omega
    case rel => exact ⟨(wrap64 (x5_4 + 1)), rZ_, H', ⟨by have := HJ2.out; have := HJ16.out; have := HJ27.out; have := HK4.out; omega⟩, ⟨bX_ BK231.out⟩, ⟨bX_ BK232.out⟩, ⟨bS2_ GE231.out GE232.out⟩⟩
   rw [if_neg c37] at H
   have c37b0 := beq_eq_false_iff_ne.mpr c37
   have c37b1 := bne_iff_ne.mpr c37
   obtain rfl := Option.some.inj H
   have hnb40 := NB231_232.out
   have hnc40 := NB232_231.out
   have hz41 := cq5_ BK231.out
   have p234 : 0 ≤ (x5_4 : Int) := pD_
   have q234 : x5_4 < (l0_4.length : Int) := pD_
   obtain ⟨ad234, e234, hx234_0, hx234_1, hx234_2, hx234_3, hx234_4, hx234_5⟩ := at_T117 HR0_4.out x5_4 p234 q234
   cases e234
   replace hx234_0 := cB_ hx234_0
   replace hx234_1 := cB_ hx234_1
   replace hx234_2 := cB_ hx234_2
   replace hx234_3 := cB_ hx234_3
   replace hx234_4 := cB_ hx234_4
   replace hx234_5 := cB_ hx234_5
   replace p234 := eq_true p234
   replace q234 := eq_true q234
   go_wp2
   go_ret
   exact ⟨eR_, bS2_ GE231.out GE232.out⟩
  rw [if_neg c36] at H
  exact absurd H (by simp)
 rw [if_neg c35] at H
 have c35b0 := decide_eq_false c35
 clear c35
 have H' := aK_ H; clear H
 have hnb42 := NB231_232.out
 have hnc42 := NB232_231.out
 have hz43 := cq5_ BK231.out
 go_wp2
 go_loopg [6] k4 (fun kq v6 w' => ∃ (x6_5 : Int), v6 = .int .i64 x6_5 ∧ Aside0 (catchmentref21_Ask.l1 kq x6_5 a0_0 a0_1 a0_2 a0_3 l0_4 a1_0 a1_1 a1_2 a1_3 a1_4 a1_5 a1_6 a1_7 a1_8 = some r) ∧ Aside0 (kq ≤ k4) ∧ Aside0 (w'.heap[gb231]? = some (.cells #[.int .u8 a0_0, .string a0_1, .string a0_2, .int .i64 a0_3, (.slice A0_4 l0_4.length c0_4)] 56 (0, 0))) ∧ Aside0 (w'.heap[gb232]? = some (.cells #[.int .i64 a1_0, .int .i64 a1_1, .int .i64 a1_2, .int .i64 a1_3, .int .i64 a1_4, .int .i64 a1_5, .int .i64 a1_6, .int .i64 a1_7, .int .i64 a1_8] 47 (0, 0))) ∧ Aside0 (Below w.heap.size w w'))
 case atStart => exact ⟨(0), rZ_, H', ⟨Nat.le_refl _⟩, ⟨bX_ BK231.out⟩, ⟨bX_ BK232.out⟩, ⟨bS2_ GE231.out GE232.out⟩⟩
 clear H'
 try clear c1
 try clear c2
 try clear p2
 try clear q2
 try clear hx2
 try clear c3
 try clear c4
 try clear c6b0
 try clear p6
 try clear c7
 try clear c9b0
 try clear c10
 try clear c13
 try clear c16
 try clear c18
 try clear c18b0
 try clear c18b1
 try clear c19
 try clear c19b0
 try clear c19b1
 try clear c20
 try clear c22
 try clear p23
 try clear q23
 try clear hx23
 try clear c24
 try clear c25
 try clear c27
 try clear c29
 try clear c29b0
 try clear c29b1
 try clear c30
 try clear c32
 try clear c34
 try clear c35b0
 try clear c36
 try clear c36b0
 try clear c37
 try clear c37b0
 try clear c37b1
 try clear c38
 try clear c40
 try clear c42
 try clear hz11
 try clear hz14
 try clear hz21
 try clear hz23
 try clear hz24
 try clear hz26
 try clear hz31
 try clear hz33
 try clear hz39
 try clear hz41
 try clear hz43
 try clear hz8
 try clear hz11
 try clear hz14
 try clear hz21
 try clear hz23
 try clear hz24
 try clear hz26
 try clear hz31
 try clear hz33
 try clear hz39
 try clear hz41
 try clear hz43
 try clear hz8
 try clear hx234_0
 try clear hx234_1
 try clear hx234_2
 try clear hx234_3
 try clear hx234_4
 try clear hx234_5
 try clear p2
 try clear p234
 try clear q234
 obtain ⟨x6_5, rfl, HA, HK5, BK231, BK232, HB⟩ := hrel
 cases gk with
 | zero => exact absurd HA.out (by simp [catchmentref21_Ask.l1])
 | succ k5 => ?_
 have H := HA.out
 clear HA
 simp only [catchmentref21_Ask.l1] at H
 by_cases c44 : x6_5 < (l0_4.length : Int)
 ·rw [if_pos c44] at H
  have c44b0 := decide_eq_true c44
  clear c44
  by_cases c45 : 0 ≤ x6_5
  ·rw [if_pos c45] at H
   have c45b0 := decide_eq_true c45
   clear c45
   replace H := Option.bind_eq_some_iff.mp H
   obtain ⟨t236, A460, H⟩ := H
   replace H : (if t236 = 0 then (catchmentref21_Ask.l1 k5 (wrap64 (x6_5 + 1)) a0_0 a0_1 a0_2 a0_3 l0_4 a1_0 a1_1 a1_2 a1_3 a1_4 a1_5 a1_6 a1_7 a1_8) else (some t236)) = some r := H
   have A46 := aK_ A460
   clear A460
   by_cases c47 : t236 = 0
   ·rw [if_pos c47] at H
    have c47b0 := beq_iff_eq.mpr c47
    have c47b1 := bne_eq_false_iff_eq.mpr c47
    clear c47
    have H' := aK_ H; clear H
    have hnb48 := NB231_232.out
    have hnc48 := NB232_231.out
    have hz49 := cq5_ BK231.out
    try go_wp2
    have n0_ := aK_ (bD BK231.out)
    have n1_ := aK_ (bD BK232.out)
    have n2_ := aK_ (w1 HB.out)
    clear BK231
    clear BK232
    clear HB
    have BK231 := n0_
    have BK232 := n1_
    have HB := n2_
    clear n0_ n1_ n2_
    have p235 : 0 ≤ (x6_5 : Int) := pD_
    have q235 : x6_5 < (l0_4.length : Int) := pD_
    obtain ⟨ad235, e235, hx235_0, hx235_1, hx235_2, hx235_3, hx235_4, hx235_5⟩ := at_T117 HR0_4.out x6_5 p235 q235
    have hw235_5 := hx235_5
    have hw235_4 := hx235_4
    have hw235_3 := hx235_3
    have hw235_2 := hx235_2
    have hw235_1 := hx235_1
    have hw235_0 := hx235_0
    cases e235
    replace hx235_0 := cB_ hx235_0
    replace hx235_1 := cB_ hx235_1
    replace hx235_2 := cB_ hx235_2
    replace hx235_3 := cB_ hx235_3
    replace hx235_4 := cB_ hx235_4
    replace hx235_5 := cB_ hx235_5
    replace p235 := eq_true p235
    replace q235 := eq_true q235
    refine start_ (n := 8) (S := fun w' => w'.cell? ⟨gb231, 0, none⟩ = some (.int .u8 a0_0) ∧ w'.cell? ⟨gb231, 1, none⟩ = some (.string a0_1) ∧ w'.cell? ⟨gb231, 2, none⟩ = some (.string a0_2) ∧ w'.cell? ⟨gb231, 3, none⟩ = some (.int .i64 a0_3) ∧ w'.cell? ⟨gb231, 4, none⟩ = some (.slice (some ad235) l0_4.length c0_4) ∧ w'.cell? ⟨gb232, 0, none⟩ = some (.int .i64 a1_0) ∧ w'.cell? ⟨gb232, 1, none⟩ = some (.int .i64 a1_1) ∧ w'.cell? ⟨gb232, 2, none⟩ = some (.int .i64 a1_2) ∧ w'.cell? ⟨gb232, 3, none⟩ = some (.int .i64 a1_3) ∧ w'.cell? ⟨gb232, 4, none⟩ = some (.int .i64 a1_4) ∧ w'.cell? ⟨gb232, 5, none⟩ = some (.int .i64 a1_5) ∧ w'.cell? ⟨gb232, 6, none⟩ = some (.int .i64 a1_6) ∧ w'.cell? ⟨gb232, 7, none⟩ = some (.int .i64 a1_7) ∧ w'.cell? ⟨gb232, 8, none⟩ = some (.int .i64 a1_8) ∧ w'.cell? (ad235.add ((x6_5).toNat * 6)) = some (.int .u8 ((rd_T117 l0_4 x6_5).f0)) ∧ w'.cell? ⟨(ad235.add ((x6_5).toNat * 6)).block, (ad235.add ((x6_5).toNat * 6)).off + 1, none⟩ = some (.int .i64 ((rd_T117 l0_4 x6_5).f1)) ∧ w'.cell? ⟨(ad235.add ((x6_5).toNat * 6)).block, (ad235.add ((x6_5).toNat * 6)).off + 2, none⟩ = some (.string ((rd_T117 l0_4 x6_5).f2)) ∧ w'.cell? ⟨(ad235.add ((x6_5).toNat * 6)).block, (ad235.add ((x6_5).toNat * 6)).off + 3, none⟩ = some (.string ((rd_T117 l0_4 x6_5).f3)) ∧ w'.cell? ⟨(ad235.add ((x6_5).toNat * 6)).block, (ad235.add ((x6_5).toNat * 6)).off + 4, none⟩ = some (.string ((rd_T117 l0_4 x6_5).f4)) ∧ w'.cell? ⟨(ad235.add ((x6_5).toNat * 6)).block, (ad235.add ((x6_5).toNat * 6)).off + 5, none⟩ = some (.int .u64 ((rd_T117 l0_4 x6_5).f5))) (ds := []) #[ZZ,ZZ,ZZ,ZZ,ZZ,ZZ,ZZ,ZZ] (by kernel_rfl) rfl rfl ⟨(bC BK231.out 0).trans rfl, (bC BK231.out 1).trans rfl, (bC BK231.out 2).trans rfl, (bC BK231.out 3).trans rfl, (bC BK231.out 4).trans rfl, (bC BK232.out 0).trans rfl, (bC BK232.out 1).trans rfl, (bC BK232.out 2).trans rfl, (bC BK232.out 3).trans rfl, (bC BK232.out 4).trans rfl, (bC BK232.out 5).trans rfl, (bC BK232.out 6).trans rfl, (bC BK232.out 7).trans rfl, (bC BK232.out 8).trans rfl, ((HB.out.cell (World.block_lt_of_cell? w _ hw235_0)).trans hw235_0), ((HB.out.cell (World.block_lt_of_cell? w _ hw235_1)).trans hw235_1), ((HB.out.cell (World.block_lt_of_cell? w _ hw235_2)).trans hw235_2), ((HB.out.cell (World.block_lt_of_cell? w _ hw235_3)).trans hw235_3), ((HB.out.cell (World.block_lt_of_cell? w _ hw235_4)).trans hw235_4), ((HB.out.cell (World.block_lt_of_cell? w _ hw235_5)).trans hw235_5)⟩ (fun hHeld => ?_); refine with_tabW catchmentref21_Ask.tab15 catchmentref21_Ask.bits15 (fun HT_ HW_ => ?_)
    generalize wr.drew = w50 at BK231 BK232 HB hx235_0 hx235_1 hx235_2 hx235_3 hx235_4 hx235_5 hHeld ⊢
    refine pU_ 0 67 #[YY,ZZ,ZZ,ZZ,ZZ,ZZ,ZZ,ZZ] ?_
    refine pU_ 2 69 #[YY,ZZ,YY,ZZ,ZZ,ZZ,ZZ,ZZ] ?_
    refine take_ (i := 1) (N := some 68) (v := ?_) (a' := ?_) #[YY,YY,YY,ZZ,ZZ,ZZ,ZZ,ZZ] rfl rfl (take_ofW HT_.out HW_.out (by kernel_rfl)) (fun _ _ _ h => h) (Or.inl ⟨by rfl, ?_⟩) hHeld ?_ ?_
    rotate_left
    ·rintro w' ⟨s0, s1, s2, s3, s4, s5, s6, s7, s8, s9, s10, s11, s12, s13, s14, s15, s16, s17, s18, s19⟩
     go_simp
     with_reducible rfl
    rotate_left
    ·simp only [Act.put, sA1, sA2, sA3, i64_w, i32_w]
     rfl
    refine pU_ 3 70 #[YY,YY,YY,YY,ZZ,ZZ,ZZ,ZZ] ?_
    refine take_ (i := 4) (N := some 71) (v := ?_) (a' := ?_) #[YY,YY,YY,YY,YY,ZZ,ZZ,ZZ] rfl rfl (take_ofW HT_.out HW_.out (by kernel_rfl)) (fun _ _ _ h => h) (Or.inl ⟨by rfl, ?_⟩) hHeld ?_ ?_
    rotate_left
    ·rintro w' ⟨s0, s1, s2, s3, s4, s5, s6, s7, s8, s9, s10, s11, s12, s13, s14, s15, s16, s17, s18, s19⟩
     go_simp
     with_reducible rfl
    rotate_left
    ·simp only [Act.put, sA1, sA2, sA3, i64_w, i32_w]
     rfl
    refine take_ (i := 5) (N := some 72) (v := ?_) (a' := ?_) #[YY,YY,YY,YY,YY,YY,ZZ,ZZ] rfl rfl (take_ofW HT_.out HW_.out (by kernel_rfl)) (fun _ _ _ h => h) (Or.inl ⟨by rfl, ?_⟩) hHeld ?_ ?_
    rotate_left
    ·rintro w' ⟨s0, s1, s2, s3, s4, s5, s6, s7, s8, s9, s10, s11, s12, s13, s14, s15, s16, s17, s18, s19⟩
     go_simp
     with_reducible rfl
    rotate_left
    ·simp only [Act.put, sA1, sA2, sA3, i64_w, i32_w]
     rfl
    refine one_ (i := 6) (N := some 73) #[YY,YY,YY,YY,YY,YY,YY,ZZ] rfl rfl (one_of HT_.out (by kernel_rfl)) (by decide) (fun K hK => ?_)
    refine goes_ Try.func61 (by kernel_rfl) rfl #[.agg #[.int .u8 ((rd_T117 l0_4 x6_5).f0), .int .i64 ((rd_T117 l0_4 x6_5).f1), .string ((rd_T117 l0_4 x6_5).f2), .string ((rd_T117 l0_4 x6_5).f3), .string ((rd_T117 l0_4 x6_5).f4), .int .u64 ((rd_T117 l0_4 x6_5).f5)], .agg #[.int .i64 a1_0, .int .i64 a1_1, .int .i64 a1_2, .int .i64 a1_3, .int .i64 a1_4, .int .i64 a1_5, .int .i64 a1_6, .int .i64 a1_7, .int .i64 a1_8]] (by rfl) rfl rfl mS_ ?_
    with_reducible refine (catchmentref04_Check.calls k5 ((rd_T117 l0_4 x6_5).f0) ((rd_T117 l0_4 x6_5).f1) ((rd_T117 l0_4 x6_5).f2) ((rd_T117 l0_4 x6_5).f3) ((rd_T117 l0_4 x6_5).f4) ((rd_T117 l0_4 x6_5).f5) a1_0 a1_1 a1_2 a1_3 a1_4 a1_5 a1_6 a1_7 a1_8 t236 _ A46.out).mono ?_
    rintro e w51 ⟨rfl, hb⟩
    refine ⟨_, rfl, ?_⟩
    have n0_ := aK_ (bB (bX_ BK231.out) hb)
    have n1_ := aK_ (bB (bX_ BK232.out) hb)
    have n2_ := aK_ (wT (bS2_ GE231.out GE232.out) hb)
    clear BK231
    clear BK232
    clear HB
    have BK231 := n0_
    have BK232 := n1_
    have HB := n2_
    clear n0_ n1_ n2_
    (try clear hb)
    (try clear hb2)
    (try clear hk)
    (try clear hi)
    refine hK.out _ _ ⟨(bC BK231.out 0).trans rfl, (bC BK231.out 1).trans rfl, (bC BK231.out 2).trans rfl, (bC BK231.out 3).trans rfl, (bC BK231.out 4).trans rfl, (bC BK232.out 0).trans rfl, (bC BK232.out 1).trans rfl, (bC BK232.out 2).trans rfl, (bC BK232.out 3).trans rfl, (bC BK232.out 4).trans rfl, (bC BK232.out 5).trans rfl, (bC BK232.out 6).trans rfl, (bC BK232.out 7).trans rfl, (bC BK232.out 8).trans rfl, ((HB.out.cell (World.block_lt_of_cell? w _ hw235_0)).trans hw235_0), ((HB.out.cell (World.block_lt_of_cell? w _ hw235_1)).trans hw235_1), ((HB.out.cell (World.block_lt_of_cell? w _ hw235_2)).trans hw235_2), ((HB.out.cell (World.block_lt_of_cell? w _ hw235_3)).trans hw235_3), ((HB.out.cell (World.block_lt_of_cell? w _ hw235_4)).trans hw235_4), ((HB.out.cell (World.block_lt_of_cell? w _ hw235_5)).trans hw235_5)⟩ (fun hHeld => ?_)
    clear hK K
    refine norm_ (a' := ?_) ?_ ?_
    rotate_left
    ·show Act.put _ (some 73) _ = _
     simp only [Act.put, sA1, sA2, sA3, i64_w, i32_w]
     rfl
    refine pU_ 7 7 #[YY,YY,YY,YY,YY,YY,YY,YY] ?_
    refine done_ (done_of HT_.out (by kernel_rfl)) ?_
    try go_wp2
    go_roundg k5
    case measure => have := HJ2.out; have := HJ16.out; have := HJ27.out; have := HK4.out; have := HK5.out; omega
    case rel => exact ⟨(wrap64 (x6_5 + 1)), rZ_, H', ⟨by have := HJ2.out; have := HJ16.out; have := HJ27.out; have := HK4.out; have := HK5.out; omega⟩, ⟨bX_ BK231.out⟩, ⟨bX_ BK232.out⟩, ⟨bS2_ GE231.out GE232.out⟩⟩
   rw [if_neg c47] at H
   have c47b0 := beq_eq_false_iff_ne.mpr c47
   have c47b1 := bne_iff_ne.mpr c47
   obtain rfl := Option.some.inj H
   have hnb52 := NB231_232.out
   have hnc52 := NB232_231.out
   have hz53 := cq5_ BK231.out
   try go_wp2
   have n0_ := aK_ (bD BK231.out)
   have n1_ := aK_ (bD BK232.out)
   have n2_ := aK_ (w1 HB.out)
   clear BK231
   clear BK232
   clear HB
   have BK231 := n0_
   have BK232 := n1_
   have HB := n2_
   clear n0_ n1_ n2_
   have p235 : 0 ≤ (x6_5 : Int) := pD_
   have q235 : x6_5 < (l0_4.length : Int) := pD_
   obtain ⟨ad235, e235, hx235_0, hx235_1, hx235_2, hx235_3, hx235_4, hx235_5⟩ := at_T117 HR0_4.out x6_5 p235 q235
   have hw235_5 := hx235_5
   have hw235_4 := hx235_4
   have hw235_3 := hx235_3
   have hw235_2 := hx235_2
   have hw235_1 := hx235_1
   have hw235_0 := hx235_0
   cases e235
   replace hx235_0 := cB_ hx235_0
   replace hx235_1 := cB_ hx235_1
   replace hx235_2 := cB_ hx235_2
   replace hx235_3 := cB_ hx235_3
   replace hx235_4 := cB_ hx235_4
   replace hx235_5 := cB_ hx235_5
   replace p235 := eq_true p235
   replace q235 := eq_true q235
   refine start_ (n := 8) (S := fun w' => w'.cell? ⟨gb231, 0, none⟩ = some (.int .u8 a0_0) ∧ w'.cell? ⟨gb231, 1, none⟩ = some (.string a0_1) ∧ w'.cell? ⟨gb231, 2, none⟩ = some (.string a0_2) ∧ w'.cell? ⟨gb231, 3, none⟩ = some (.int .i64 a0_3) ∧ w'.cell? ⟨gb231, 4, none⟩ = some (.slice (some ad235) l0_4.length c0_4) ∧ w'.cell? ⟨gb232, 0, none⟩ = some (.int .i64 a1_0) ∧ w'.cell? ⟨gb232, 1, none⟩ = some (.int .i64 a1_1) ∧ w'.cell? ⟨gb232, 2, none⟩ = some (.int .i64 a1_2) ∧ w'.cell? ⟨gb232, 3, none⟩ = some (.int .i64 a1_3) ∧ w'.cell? ⟨gb232, 4, none⟩ = some (.int .i64 a1_4) ∧ w'.cell? ⟨gb232, 5, none⟩ = some (.int .i64 a1_5) ∧ w'.cell? ⟨gb232, 6, none⟩ = some (.int .i64 a1_6) ∧ w'.cell? ⟨gb232, 7, none⟩ = some (.int .i64 a1_7) ∧ w'.cell? ⟨gb232, 8, none⟩ = some (.int .i64 a1_8) ∧ w'.cell? (ad235.add ((x6_5).toNat * 6)) = some (.int .u8 ((rd_T117 l0_4 x6_5).f0)) ∧ w'.cell? ⟨(ad235.add ((x6_5).toNat * 6)).block, (ad235.add ((x6_5).toNat * 6)).off + 1, none⟩ = some (.int .i64 ((rd_T117 l0_4 x6_5).f1)) ∧ w'.cell? ⟨(ad235.add ((x6_5).toNat * 6)).block, (ad235.add ((x6_5).toNat * 6)).off + 2, none⟩ = some (.string ((rd_T117 l0_4 x6_5).f2)) ∧ w'.cell? ⟨(ad235.add ((x6_5).toNat * 6)).block, (ad235.add ((x6_5).toNat * 6)).off + 3, none⟩ = some (.string ((rd_T117 l0_4 x6_5).f3)) ∧ w'.cell? ⟨(ad235.add ((x6_5).toNat * 6)).block, (ad235.add ((x6_5).toNat * 6)).off + 4, none⟩ = some (.string ((rd_T117 l0_4 x6_5).f4)) ∧ w'.cell? ⟨(ad235.add ((x6_5).toNat * 6)).block, (ad235.add ((x6_5).toNat * 6)).off + 5, none⟩ = some (.int .u64 ((rd_T117 l0_4 x6_5).f5))) (ds := []) #[ZZ,ZZ,ZZ,ZZ,ZZ,ZZ,ZZ,ZZ] (by kernel_rfl) rfl rfl ⟨(bC BK231.out 0).trans rfl, (bC BK231.out 1).trans rfl, (bC BK231.out 2).trans rfl, (bC BK231.out 3).trans rfl, (bC BK231.out 4).trans rfl, (bC BK232.out 0).trans rfl, (bC BK232.out 1).trans rfl, (bC BK232.out 2).trans rfl, (bC BK232.out 3).trans rfl, (bC BK232.out 4).trans rfl, (bC BK232.out 5).trans rfl, (bC BK232.out 6).trans rfl, (bC BK232.out 7).trans rfl, (bC BK232.out 8).trans rfl, ((HB.out.cell (World.block_lt_of_cell? w _ hw235_0)).trans hw235_0), ((HB.out.cell (World.block_lt_of_cell? w _ hw235_1)).trans hw235_1), ((HB.out.cell (World.block_lt_of_cell? w _ hw235_2)).trans hw235_2), ((HB.out.cell (World.block_lt_of_cell? w _ hw235_3)).trans hw235_3), ((HB.out.cell (World.block_lt_of_cell? w _ hw235_4)).trans hw235_4), ((HB.out.cell (World.block_lt_of_cell? w _ hw235_5)).trans hw235_5)⟩ (fun hHeld => ?_); refine with_tabW catchmentref21_Ask.tab15 catchmentref21_Ask.bits15 (fun HT_ HW_ => ?_)
   generalize wr.drew = w54 at BK231 BK232 HB hx235_0 hx235_1 hx235_2 hx235_3 hx235_4 hx235_5 hHeld ⊢
   refine pU_ 0 67 #[YY,ZZ,ZZ,ZZ,ZZ,ZZ,ZZ,ZZ] ?_
   refine pU_ 2 69 #[YY,ZZ,YY,ZZ,ZZ,ZZ,ZZ,ZZ] ?_
   refine take_ (i := 1) (N := some 68) (v := ?_) (a' := ?_) #[YY,YY,YY,ZZ,ZZ,ZZ,ZZ,ZZ] rfl rfl (take_ofW HT_.out HW_.out (by kernel_rfl)) (fun _ _ _ h => h) (Or.inl ⟨by rfl, ?_⟩) hHeld ?_ ?_
   rotate_left
   ·rintro w' ⟨s0, s1, s2, s3, s4, s5, s6, s7, s8, s9, s10, s11, s12, s13, s14, s15, s16, s17, s18, s19⟩
    go_simp
    with_reducible rfl
   rotate_left
   ·simp only [Act.put, sA1, sA2, sA3, i64_w, i32_w]
    rfl
   refine pU_ 3 70 #[YY,YY,YY,YY,ZZ,ZZ,ZZ,ZZ] ?_
   refine take_ (i := 4) (N := some 71) (v := ?_) (a' := ?_) #[YY,YY,YY,YY,YY,ZZ,ZZ,ZZ] rfl rfl (take_ofW HT_.out HW_.out (by kernel_rfl)) (fun _ _ _ h => h) (Or.inl ⟨by rfl, ?_⟩) hHeld ?_ ?_
   rotate_left
   ·rintro w' ⟨s0, s1, s2, s3, s4, s5, s6, s7, s8, s9, s10, s11, s12, s13, s14, s15, s16, s17, s18, s19⟩
    go_simp
    with_reducible rfl
   rotate_left
   ·simp only [Act.put, sA1, sA2, sA3, i64_w, i32_w]
    rfl
   refine take_ (i := 5) (N := some 72) (v := ?_) (a' := ?_) #[YY,YY,YY,YY,YY,YY,ZZ,ZZ] rfl rfl (take_ofW HT_.out HW_.out (by kernel_rfl)) (fun _ _ _ h => h) (Or.inl ⟨by rfl, ?_⟩) hHeld ?_ ?_
   rotate_left
   ·rintro w' ⟨s0, s1, s2, s3, s4, s5, s6, s7, s8, s9, s10, s11, s12, s13, s14, s15, s16, s17, s18, s19⟩
    go_simp
    with_reducible rfl
   rotate_left
   ·simp only [Act.put, sA1, sA2, sA3, i64_w, i32_w]
    rfl
   refine one_ (i := 6) (N := some 73) #[YY,YY,YY,YY,YY,YY,YY,ZZ] rfl rfl (one_of HT_.out (by kernel_rfl)) (by decide) (fun K hK => ?_)
   refine goes_ Try.func61 (by kernel_rfl) rfl #[.agg #[.int .u8 ((rd_T117 l0_4 x6_5).f0), .int .i64 ((rd_T117 l0_4 x6_5).f1), .string ((rd_T117 l0_4 x6_5).f2), .string ((rd_T117 l0_4 x6_5).f3), .string ((rd_T117 l0_4 x6_5).f4), .int .u64 ((rd_T117 l0_4 x6_5).f5)], .agg #[.int .i64 a1_0, .int .i64 a1_1, .int .i64 a1_2, .int .i64 a1_3, .int .i64 a1_4, .int .i64 a1_5, .int .i64 a1_6, .int .i64 a1_7, .int .i64 a1_8]] (by rfl) rfl rfl mS_ ?_
   with_reducible refine (catchmentref04_Check.calls k5 ((rd_T117 l0_4 x6_5).f0) ((rd_T117 l0_4 x6_5).f1) ((rd_T117 l0_4 x6_5).f2) ((rd_T117 l0_4 x6_5).f3) ((rd_T117 l0_4 x6_5).f4) ((rd_T117 l0_4 x6_5).f5) a1_0 a1_1 a1_2 a1_3 a1_4 a1_5 a1_6 a1_7 a1_8 t236 _ A46.out).mono ?_
   rintro e w55 ⟨rfl, hb⟩
   refine ⟨_, rfl, ?_⟩
   have n0_ := aK_ (bB (bX_ BK231.out) hb)
   have n1_ := aK_ (bB (bX_ BK232.out) hb)
   have n2_ := aK_ (wT (bS2_ GE231.out GE232.out) hb)
   clear BK231
   clear BK232
   clear HB
   have BK231 := n0_
   have BK232 := n1_
   have HB := n2_
   clear n0_ n1_ n2_
   (try clear hb)
   (try clear hb2)
   (try clear hk)
   (try clear hi)
   refine hK.out _ _ ⟨(bC BK231.out 0).trans rfl, (bC BK231.out 1).trans rfl, (bC BK231.out 2).trans rfl, (bC BK231.out 3).trans rfl, (bC BK231.out 4).trans rfl, (bC BK232.out 0).trans rfl, (bC BK232.out 1).trans rfl, (bC BK232.out 2).trans rfl, (bC BK232.out 3).trans rfl, (bC BK232.out 4).trans rfl, (bC BK232.out 5).trans rfl, (bC BK232.out 6).trans rfl, (bC BK232.out 7).trans rfl, (bC BK232.out 8).trans rfl, ((HB.out.cell (World.block_lt_of_cell? w _ hw235_0)).trans hw235_0), ((HB.out.cell (World.block_lt_of_cell? w _ hw235_1)).trans hw235_1), ((HB.out.cell (World.block_lt_of_cell? w _ hw235_2)).trans hw235_2), ((HB.out.cell (World.block_lt_of_cell? w _ hw235_3)).trans hw235_3), ((HB.out.cell (World.block_lt_of_cell? w _ hw235_4)).trans hw235_4), ((HB.out.cell (World.block_lt_of_cell? w _ hw235_5)).trans hw235_5)⟩ (fun hHeld => ?_)
   clear hK K
   refine norm_ (a' := ?_) ?_ ?_
   rotate_left
   ·show Act.put _ (some 73) _ = _
    simp only [Act.put, sA1, sA2, sA3, i64_w, i32_w]
    rfl
   refine pU_ 7 7 #[YY,YY,YY,YY,YY,YY,YY,YY] ?_
   refine done_ (done_of HT_.out (by kernel_rfl)) ?_
   try go_wp2
   go_ret
   exact ⟨eR_, bS2_ GE231.out GE232.out⟩
  rw [if_neg c45] at H
  exact absurd H (by simp)
 rw [if_neg c44] at H
 have c44b0 := decide_eq_false c44
 clear c44
 have HC56 := aK_ H
 clear H
 have hnb57 := NB231_232.out
 have hnc57 := NB232_231.out
 have hz58 := cq5_ BK231.out
 go_upto_region 18 with (fail)
 go_cut [84] (fun v84 wc => ∃ (kq : Nat) (x84_55 : Bool), v84 = .bool x84_55 ∧ Aside0 (catchmentref21_Ask.j5 kq x84_55 a0_0 a0_1 a0_2 a0_3 l0_4 a1_0 a1_1 a1_2 a1_3 a1_4 a1_5 a1_6 a1_7 a1_8 = some r) ∧ Aside0 (kq ≤ k5) ∧ Aside0 (wc.heap[gb231]? = some (.cells #[.int .u8 a0_0, .string a0_1, .string a0_2, .int .i64 a0_3, (.slice A0_4 l0_4.length c0_4)] 56 (0, 0))) ∧ Aside0 (wc.heap[gb232]? = some (.cells #[.int .i64 a1_0, .int .i64 a1_1, .int .i64 a1_2, .int .i64 a1_3, .int .i64 a1_4, .int .i64 a1_5, .int .i64 a1_6, .int .i64 a1_7, .int .i64 a1_8] 47 (0, 0))) ∧ Aside0 (Below w.heap.size w wc))
 case first =>
  have H := HC56.out
  clear HC56
  by_cases c59 : a0_0 = 3
  ·rw [if_pos c59] at H
   have c59b0 := beq_iff_eq.mpr c59
   have c59b1 := bne_eq_false_iff_eq.mpr c59
   clear c59
   (first | rw [c59b0] | (simp only [i64_w, i32_w]; rw [c59b0]) | skip)
   have H' := aK_ H; clear H
   have hnb60 := NB231_232.out
   have hnc60 := NB232_231.out
   have hz61 := cq5_ BK231.out
   go_wp2
   go_meet
   case rel => exact ⟨_, (false), rZ_, H', ⟨by have := HJ2.out; have := HJ16.out; have := HJ27.out; have := HK4.out; have := HK5.out; first | omega | exact Nat.le_refl _⟩, ⟨bX_ BK231.out⟩, ⟨bX_ BK232.out⟩, ⟨bS2_ GE231.out GE232.out⟩⟩
  rw [if_neg c59] at H
  have c59b0 := beq_eq_false_iff_ne.mpr c59
  have c59b1 := bne_iff_ne.mpr c59
  (first | rw [c59b0] | (simp only [i64_w, i32_w]; rw [c59b0]) | skip)
  have H' := aK_ H; clear H
  have hnb62 := NB231_232.out
  have hnc62 := NB232_231.out
  have hz63 := cq5_ BK231.out
  go_wp2
  go_meet
  case rel => exact ⟨_, ((a0_0 != 4)), rZ_, H', ⟨by have := HJ2.out; have := HJ16.out; have := HJ27.out; have := HK4.out; have := HK5.out; first | omega | exact Nat.le_refl _⟩, ⟨bX_ BK231.out⟩, ⟨bX_ BK232.out⟩, ⟨bS2_ GE231.out GE232.out⟩⟩
 clear HC56
 try clear c1
 try clear c2
 try clear p2
 try clear q2
 try clear hx2
 try clear c3
 try clear c4
 try clear c5
 try clear c6b0
 try clear p6
 try clear c7
 try clear c9b0
 try clear c10
 try clear c13
 try clear c16
 try clear c18
 try clear c18b0
 try clear c18b1
 try clear c19
 try clear c19b0
 try clear c19b1
 try clear c20
 try clear c22
 try clear p23
 try clear q23
 try clear hx23
 try clear c24
 try clear c25
 try clear c27
 try clear c29
 try clear c29b0
 try clear c29b1
 try clear c30
 try clear c32
 try clear c34
 try clear c35b0
 try clear c36
 try clear c36b0
 try clear c37
 try clear c37b0
 try clear c37b1
 try clear c38
 try clear c40
 try clear c42
 try clear c44b0
 try clear c45
 try clear c45b0
 try clear c47
 try clear c47b0
 try clear c47b1
 try clear c48
 try clear c52
 try clear c57
 try clear c59
 try clear c59b0
 try clear c59b1
 try clear c60
 try clear c61
 try clear c62
 try clear hz11
 try clear hz14
 try clear hz21
 try clear hz23
 try clear hz24
 try clear hz26
 try clear hz31
 try clear hz33
 try clear hz39
 try clear hz41
 try clear hz43
 try clear hz49
 try clear hz53
 try clear hz58
 try clear hz61
 try clear hz63
 try clear hz8
 try clear hz11
 try clear hz14
 try clear hz21
 try clear hz23
 try clear hz24
 try clear hz26
 try clear hz31
 try clear hz33
 try clear hz39
 try clear hz41
 try clear hz43
 try clear hz49
 try clear hz53
 try clear hz58
 try clear hz61
 try clear hz63
 try clear hz8
 try clear hx234_0
 try clear hx234_1
 try clear hx234_2
 try clear hx234_3
 try clear hx234_4
 try clear hx234_5
 try clear hx235_0
 try clear hx235_1
 try clear hx235_2
 try clear hx235_3
 try clear hx235_4
 try clear hx235_5
 try clear p2
 try clear p23
 try clear p234
 try clear p235
 try clear p6
 try clear q2
 try clear q23
 try clear q234
 try clear q235
 obtain ⟨kq, x84_55, rfl, HA, HJ55, BK231, BK232, HB⟩ := hcut
 cases kq with
 | zero => exact absurd HA.out (by simp [catchmentref21_Ask.j5])
 | succ kj55 => ?_
 have H := HA.out
 clear HA
 simp only [catchmentref21_Ask.j5] at H
 by_cases c64 : x84_55 = true
 ·subst c64
  have H1 : (some 0) = some r := by rw [if_pos rfl] at H; exact H
  clear H
  have H := H1
  clear H1
  obtain rfl := Option.some.inj H
  go_wp2
  go_ret
  exact ⟨eR_, bS2_ GE231.out GE232.out⟩
 replace c64 := Bool.eq_false_iff.mpr c64
 subst c64
 have H1 : (if (a0_1.size : Int) > a1_0 then (catchmentref21_Ask.j6 kj55 true a0_0 a0_1 a0_2 a0_3 l0_4 a1_0 a1_1 a1_2 a1_3 a1_4 a1_5 a1_6 a1_7 a1_8) else (catchmentref21_Ask.j6 kj55 (decide ((a0_2.size : Int) > a1_0)) a0_0 a0_1 a0_2 a0_3 l0_4 a1_0 a1_1 a1_2 a1_3 a1_4 a1_5 a1_6 a1_7 a1_8)) = some r := by rw [if_neg (show ¬ (false = true) by decide)] at H; exact H
 clear H
 have H := H1
 clear H1
 have HC65 := aK_ H
 clear H
 go_upto_region 20 with (fail)
 go_cut [98] (fun v98 wc => ∃ (kq : Nat) (x98_64 : Bool), v98 = .bool x98_64 ∧ Aside0 (catchmentref21_Ask.j6 kq x98_64 a0_0 a0_1 a0_2 a0_3 l0_4 a1_0 a1_1 a1_2 a1_3 a1_4 a1_5 a1_6 a1_7 a1_8 = some r) ∧ Aside0 (kq ≤ kj55) ∧ Aside0 (wc.heap[gb231]? = some (.cells #[.int .u8 a0_0, .string a0_1, .string a0_2, .int .i64 a0_3, (.slice A0_4 l0_4.length c0_4)] 56 (0, 0))) ∧ Aside0 (wc.heap[gb232]? = some (.cells #[.int .i64 a1_0, .int .i64 a1_1, .int .i64 a1_2, .int .i64 a1_3, .int .i64 a1_4, .int .i64 a1_5, .int .i64 a1_6, .int .i64 a1_7, .int .i64 a1_8] 47 (0, 0))) ∧ Aside0 (Below w.heap.size w wc))
 case first =>
  have H := HC65.out
  clear HC65
  by_cases c66 : (a0_1.size : Int) > a1_0
  ·rw [if_pos c66] at H
   have c66b0 : decide (a1_0 < (a0_1.size : Int)) = true := decide_eq_true c66
   clear c66
   (first | rw [c66b0] | (simp only [i64_w, i32_w]; rw [c66b0]) | skip)
   have H' := aK_ H; clear H
   have hnb67 := NB231_232.out
   have hnc67 := NB232_231.out
   have hz68 := cq5_ BK231.out
   have hz69 := cq9_ BK232.out
   go_wp2
   go_meet
   case rel => exact ⟨_, (true), rZ_, H', ⟨by have := HJ2.out; have := HJ16.out; have := HJ27.out; have := HK4.out; have := HK5.out; have := HJ55.out; first | omega | exact Nat.le_refl _⟩, ⟨bX_ BK231.out⟩, ⟨bX_ BK232.out⟩, ⟨bS2_ GE231.out GE232.out⟩⟩
  rw [if_neg c66] at H
  have c66b0 : decide (a1_0 < (a0_1.size : Int)) = false := decide_eq_false c66
  clear c66
  (first | rw [c66b0] | (simp only [i64_w, i32_w]; rw [c66b0]) | skip)
  have H' := aK_ H; clear H
  have hnb70 := NB231_232.out
  have hnc70 := NB232_231.out
  have hz71 := cq5_ BK231.out
  have hz72 := cq9_ BK232.out
  go_wp2
  go_meet
  case rel => exact ⟨_, (decide ((a0_2.size : Int) > a1_0)), rZ_, H', ⟨by have := HJ2.out; have := HJ16.out; have := HJ27.out; have := HK4.out; have := HK5.out; have := HJ55.out; first | omega | exact Nat.le_refl _⟩, ⟨bX_ BK231.out⟩, ⟨bX_ BK232.out⟩, ⟨bS2_ GE231.out GE232.out⟩⟩
 clear HC65
 try clear c1
 try clear c2
 try clear p2
 try clear q2
 try clear hx2
 try clear c3
 try clear c4
 try clear c5
 try clear c6b0
 try clear p6
 try clear c7
 try clear c9b0
 try clear c10
 try clear c13
 try clear c16
 try clear c18
 try clear c18b0
 try clear c18b1
 try clear c19
 try clear c19b0
 try clear c19b1
 try clear c20
 try clear c22
 try clear p23
 try clear q23
 try clear hx23
 try clear c24
 try clear c25
 try clear c27
 try clear c29
 try clear c29b0
 try clear c29b1
 try clear c30
 try clear c32
 try clear c34
 try clear c35b0
 try clear c36
 try clear c36b0
 try clear c37
 try clear c37b0
 try clear c37b1
 try clear c38
 try clear c40
 try clear c42
 try clear c44b0
 try clear c45
 try clear c45b0
 try clear c47
 try clear c47b0
 try clear c47b1
 try clear c48
 try clear c52
 try clear c57
 try clear c59
 try clear c59b0
 try clear c59b1
 try clear c60
 try clear c61
 try clear c62
 try clear c64
 try clear p64
 try clear c66b0
 try clear c67
 try clear c70
 try clear hz11
 try clear hz14
 try clear hz21
 try clear hz23
 try clear hz24
 try clear hz26
 try clear hz31
 try clear hz33
 try clear hz39
 try clear hz41
 try clear hz43
 try clear hz49
 try clear hz53
 try clear hz58
 try clear hz61
 try clear hz63
 try clear hz68
 try clear hz69
 try clear hz71
 try clear hz72
 try clear hz8
 try clear hz11
 try clear hz14
 try clear hz21
 try clear hz23
 try clear hz24
 try clear hz26
 try clear hz31
 try clear hz33
 try clear hz39
 try clear hz41
 try clear hz43
 try clear hz49
 try clear hz53
 try clear hz58
 try clear hz61
 try clear hz63
 try clear hz68
 try clear hz69
 try clear hz71
 try clear hz72
 try clear hz8
 try clear hx234_0
 try clear hx234_1
 try clear hx234_2
 try clear hx234_3
 try clear hx234_4
 try clear hx234_5
 try clear hx235_0
 try clear hx235_1
 try clear hx235_2
 try clear hx235_3
 try clear hx235_4
 try clear hx235_5
 try clear p2
 try clear p23
 try clear p234
 try clear p235
 try clear p6
 try clear q2
 try clear q23
 try clear q234
 try clear q235
 obtain ⟨kq, x98_64, rfl, HA, HJ64, BK231, BK232, HB⟩ := hcut
 cases kq with
 | zero => exact absurd HA.out (by simp [catchmentref21_Ask.j6])
 | succ kj64 => ?_
 have H := HA.out
 clear HA
 simp only [catchmentref21_Ask.j6] at H
 by_cases c73 : x98_64 = true
 ·subst c73
  have H1 : (some 6) = some r := by rw [if_pos rfl] at H; exact H
  clear H
  have H := H1
  clear H1
  obtain rfl := Option.some.inj H
  go_wp2
  go_ret
  exact ⟨eR_, bS2_ GE231.out GE232.out⟩
 replace c73 := Bool.eq_false_iff.mpr c73
 subst c73
 have H1 : (if a0_2.toList = ([] : List UInt8) then (catchmentref21_Ask.j7 kj64 false a0_0 a0_1 a0_2 a0_3 l0_4 a1_0 a1_1 a1_2 a1_3 a1_4 a1_5 a1_6 a1_7 a1_8) else (catchmentref21_Ask.j7 kj64 (!(Op.bytesLess a0_1.toList a0_2.toList)) a0_0 a0_1 a0_2 a0_3 l0_4 a1_0 a1_1 a1_2 a1_3 a1_4 a1_5 a1_6 a1_7 a1_8)) = some r := by rw [if_neg (show ¬ (false = true) by decide)] at H; exact H
 clear H
 have H := H1
 clear H1
 have HC74 := aK_ H
 clear H
 go_upto_region 22 with (fail)
 go_cut [108] (fun v108 wc => ∃ (kq : Nat) (x108_73 : Bool), v108 = .bool x108_73 ∧ Aside0 (catchmentref21_Ask.j7 kq x108_73 a0_0 a0_1 a0_2 a0_3 l0_4 a1_0 a1_1 a1_2 a1_3 a1_4 a1_5 a1_6 a1_7 a1_8 = some r) ∧ Aside0 (kq ≤ kj64) ∧ Aside0 (wc.heap[gb231]? = some (.cells #[.int .u8 a0_0, .string a0_1, .string a0_2, .int .i64 a0_3, (.slice A0_4 l0_4.length c0_4)] 56 (0, 0))) ∧ Aside0 (wc.heap[gb232]? = some (.cells #[.int .i64 a1_0, .int .i64 a1_1, .int .i64 a1_2, .int .i64 a1_3, .int .i64 a1_4, .int .i64 a1_5, .int .i64 a1_6, .int .i64 a1_7, .int .i64 a1_8] 47 (0, 0))) ∧ Aside0 (Below w.heap.size w wc))
 case first =>
  have H := HC74.out
  clear HC74
  by_cases c75 : a0_2.toList = ([] : List UInt8)
  ·rw [if_pos c75] at H
   have c75b0 := beq_iff_eq.mpr c75
   have c75b1 := bne_eq_false_iff_eq.mpr c75
   clear c75
   (first | rw [c75b0] | (simp only [i64_w, i32_w]; rw [c75b0]) | skip)
   have H' := aK_ H; clear H
   have hnb76 := NB231_232.out
   have hnc76 := NB232_231.out
   have hz77 := cq5_ BK231.out
   go_wp2
   go_meet
   case rel => exact ⟨_, (false), rZ_, H', ⟨by have := HJ2.out; have := HJ16.out; have := HJ27.out; have := HK4.out; have := HK5.out; have := HJ55.out; have := HJ64.out; first | omega | exact Nat.le_refl _⟩, ⟨bX_ BK231.out⟩, ⟨bX_ BK232.out⟩, ⟨bS2_ GE231.out GE232.out⟩⟩
  rw [if_neg c75] at H
  have c75b0 := beq_eq_false_iff_ne.mpr c75
  have c75b1 := bne_iff_ne.mpr c75
  (first | rw [c75b0] | (simp only [i64_w, i32_w]; rw [c75b0]) | skip)
  have H' := aK_ H; clear H
  have hnb78 := NB231_232.out
  have hnc78 := NB232_231.out
  have hz79 := cq5_ BK231.out
  go_wp2
  go_meet
  case rel => exact ⟨_, (!(Op.bytesLess a0_1.toList a0_2.toList)), rZ_, H', ⟨by have := HJ2.out; have := HJ16.out; have := HJ27.out; have := HK4.out; have := HK5.out; have := HJ55.out; have := HJ64.out; first | omega | exact Nat.le_refl _⟩, ⟨bX_ BK231.out⟩, ⟨bX_ BK232.out⟩, ⟨bS2_ GE231.out GE232.out⟩⟩
 clear HC74
 try clear c1
 try clear c2
 try clear p2
 try clear q2
 try clear hx2
 try clear c3
 try clear c4
 try clear c5
 try clear c6b0
 try clear p6
 try clear c7
 try clear c9b0
 try clear c10
 try clear c13
 try clear c16
 try clear c18
 try clear c18b0
 try clear c18b1
 try clear c19
 try clear c19b0
 try clear c19b1
 try clear c20
 try clear c22
 try clear p23
 try clear q23
 try clear hx23
 try clear c24
 try clear c25
 try clear c27
 try clear c29
 try clear c29b0
 try clear c29b1
 try clear c30
 try clear c32
 try clear c34
 try clear c35b0
 try clear c36
 try clear c36b0
 try clear c37
 try clear c37b0
 try clear c37b1
 try clear c38
 try clear c40
 try clear c42
 try clear c44b0
 try clear c45
 try clear c45b0
 try clear c47
 try clear c47b0
 try clear c47b1
 try clear c48
 try clear c52
 try clear c57
 try clear c59
 try clear c59b0
 try clear c59b1
 try clear c60
 try clear c61
 try clear c62
 try clear c64
 try clear p64
 try clear c66b0
 try clear c67
 try clear c70
 try clear c73
 try clear c75
 try clear c75b0
 try clear c75b1
 try clear c76
 try clear c78
 try clear hz11
 try clear hz14
 try clear hz21
 try clear hz23
 try clear hz24
 try clear hz26
 try clear hz31
 try clear hz33
 try clear hz39
 try clear hz41
 try clear hz43
 try clear hz49
 try clear hz53
 try clear hz58
 try clear hz61
 try clear hz63
 try clear hz68
 try clear hz69
 try clear hz71
 try clear hz72
 try clear hz77
 try clear hz79
 try clear hz8
 try clear hz11
 try clear hz14
 try clear hz21
 try clear hz23
 try clear hz24
 try clear hz26
 try clear hz31
 try clear hz33
 try clear hz39
 try clear hz41
 try clear hz43
 try clear hz49
 try clear hz53
 try clear hz58
 try clear hz61
 try clear hz63
 try clear hz68
 try clear hz69
 try clear hz71
 try clear hz72
 try clear hz77
 try clear hz79
 try clear hz8
 try clear hx234_0
 try clear hx234_1
 try clear hx234_2
 try clear hx234_3
 try clear hx234_4
 try clear hx234_5
 try clear hx235_0
 try clear hx235_1
 try clear hx235_2
 try clear hx235_3
 try clear hx235_4
 try clear hx235_5
 try clear p2
 try clear p23
 try clear p234
 try clear p235
 try clear p6
 try clear p64
 try clear q2
 try clear q23
 try clear q234
 try clear q235
 obtain ⟨kq, x108_73, rfl, HA, HJ73, BK231, BK232, HB⟩ := hcut
 cases kq with
 | zero => exact absurd HA.out (by simp [catchmentref21_Ask.j7])
 | succ kj73 => ?_
 have H := HA.out
 clear HA
 simp only [catchmentref21_Ask.j7] at H
 by_cases c80 : x108_73 = true
 ·subst c80
  have H1 : (some 7) = some r := by rw [if_pos rfl] at H; exact H
  clear H
  have H := H1
  clear H1
  obtain rfl := Option.some.inj H
  go_wp2
  go_ret
  exact ⟨eR_, bS2_ GE231.out GE232.out⟩
 replace c80 := Bool.eq_false_iff.mpr c80
 subst c80
 have H1 : (if a0_0 = 3 then (if a0_3 < 1 then (some 4) else (if a0_3 > a1_8 then (some 4) else (some 0))) else (some 0)) = some r := by rw [if_neg (show ¬ (false = true) by decide)] at H; exact H
 clear H
 have H := H1
 clear H1
 by_cases c81 : a0_0 = 3
 ·rw [if_pos c81] at H
  have c81b0 := beq_iff_eq.mpr c81
  have c81b1 := bne_eq_false_iff_eq.mpr c81
  clear c81
  by_cases c82 : a0_3 < 1
  ·rw [if_pos c82] at H
   have c82b0 := decide_eq_true c82
   clear c82
   obtain rfl := Option.some.inj H
   have hnb83 := NB231_232.out
   have hnc83 := NB232_231.out
   have hz84 := cq5_ BK231.out
   go_wp2
   go_ret
   exact ⟨eR_, bS2_ GE231.out GE232.out⟩
  rw [if_neg c82] at H
  have c82b0 := decide_eq_false c82
  clear c82
  by_cases c85 : a0_3 > a1_8
  ·rw [if_pos c85] at H
   have c85b0 : decide (a1_8 < a0_3) = true := decide_eq_true c85
   clear c85
   obtain rfl := Option.some.inj H
   have hnb86 := NB231_232.out
   have hnc86 := NB232_231.out
   have hz87 := cq5_ BK231.out
   have hz88 := cq9_ BK232.out
   go_wp2
   go_ret
   exact ⟨eR_, bS2_ GE231.out GE232.out⟩
  rw [if_neg c85] at H
  have c85b0 : decide (a1_8 < a0_3) = false := decide_eq_false c85
  clear c85
  obtain rfl := Option.some.inj H
  have hnb89 := NB231_232.out
  have hnc89 := NB232_231.out
  have hz90 := cq5_ BK231.out
  have hz91 := cq9_ BK232.out
  go_wp2
  go_ret
  exact ⟨eR_, bS2_ GE231.out GE232.out⟩
 rw [if_neg c81] at H
 have c81b0 := beq_eq_false_iff_ne.mpr c81
 have c81b1 := bne_iff_ne.mpr c81
 obtain rfl := Option.some.inj H
 have hnb92 := NB231_232.out
 have hnc92 := NB232_231.out
 have hz93 := cq5_ BK231.out
 go_wp2
 go_ret
 exact ⟨eR_, bS2_ GE231.out GE232.out⟩
end Go.Proofs.Ytljnlnbopohghaa.P
end
