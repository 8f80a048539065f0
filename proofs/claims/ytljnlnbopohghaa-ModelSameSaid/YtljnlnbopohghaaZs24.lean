/- Texts of one claim (laid by shake.py). -/
import Derived.Test.YtljnlnbopohghaaZs3
import Derived.Test.YtljnlnbopohghaaZs13
import Derived.Test.YtljnlnbopohghaaZs23
set_option linter.unusedVariables false
set_option linter.unusedSimpArgs false
section
namespace Go.Proofs.Ytljnlnbopohghaa.P
open Go.RowKit Go.Proofs.YtljnlnbopohghaaW.PrintWords Go.Proofs.YtljnlnbopohghaaW.PrintLast Go.Proofs.YtljnlnbopohghaaW.PrintMore Go.Proofs.Ytljnlnbopohghaa.Own
open Go.Proofs.YtljnlnbopohghaaW.PrintWords renaming blk_cell → bC, blk_frozen → bF, blk_drewN → bN, blk_alloc → bA, pw_below_drewN → wN, blk_drew → bD, below_drew1 → w1, below_set → wS, below_alloc → wA, blk_below → bB, below_step → wT, below_size → wZ, blk_far → bR, blk_put → bP
open List renaming setIfInBounds_toArray → sA1, set_cons_zero → sA2, set_cons_succ → sA3, map_toArray → mA1, map_cons → mA2, map_nil → mA3, length_take → mA4, length_drop → mA5
attribute [local go_sem] max2_str max2_int min2_int max_two min_two max_three min_three max_four min_four   -- for this text's walks alone
mutual
def room_Ask.j0 : Nat → Bool → Int → ByteArray → ByteArray → Int → List (S117) → Int → Int → Int → Int → Int → Int → Int → Int → Int → Option (Int)
 | 0, _, _, _, _, _, _, _, _, _, _, _, _, _, _, _ => none
 | k + 1, x33, x193000, x193001, x193002, x193003, x193004, x194000, x194001, x194002, x194003, x194004, x194005, x194006, x194007, x194008 => if x33 = true then (some 3) else (if x193000 = 1 then ((room_in.f (x193001.size : Int) 1 x194000).bind fun t203 => (if t203 = true then (some 0) else (some 6))) else (if x193000 = 2 then ((room_batch.f k x193004 x194000 x194001 x194002 x194003 x194004 x194005 x194006 x194007 x194008).bind fun t204 => (some t204)) else (if x193000 = 3 then (room_Ask.j1 k (x193000 == 3) x193000 x193001 x193002 x193003 x193004 x194000 x194001 x194002 x194003 x194004 x194005 x194006 x194007 x194008) else (room_Ask.j1 k (x193000 == 4) x193000 x193001 x193002 x193003 x193004 x194000 x194001 x194002 x194003 x194004 x194005 x194006 x194007 x194008))))
def room_Ask.j1 : Nat → Bool → Int → ByteArray → ByteArray → Int → List (S117) → Int → Int → Int → Int → Int → Int → Int → Int → Int → Option (Int)
 | 0, _, _, _, _, _, _, _, _, _, _, _, _, _, _, _ => none
 | k + 1, x51, x193000, x193001, x193002, x193003, x193004, x194000, x194001, x194002, x194003, x194004, x194005, x194006, x194007, x194008 => if x51 = true then (if (x193001.size : Int) > x194000 then (room_Ask.j2 k true x193000 x193001 x193002 x193003 x193004 x194000 x194001 x194002 x194003 x194004 x194005 x194006 x194007 x194008) else (room_Ask.j2 k (decide ((x193002.size : Int) > x194000)) x193000 x193001 x193002 x193003 x193004 x194000 x194001 x194002 x194003 x194004 x194005 x194006 x194007 x194008)) else (some 0)
def room_Ask.j2 : Nat → Bool → Int → ByteArray → ByteArray → Int → List (S117) → Int → Int → Int → Int → Int → Int → Int → Int → Int → Option (Int)
 | 0, _, _, _, _, _, _, _, _, _, _, _, _, _, _, _ => none
 | k + 1, x54, x193000, x193001, x193002, x193003, x193004, x194000, x194001, x194002, x194003, x194004, x194005, x194006, x194007, x194008 => if x54 = true then (some 6) else (if x193002.toList = ([] : List UInt8) then (room_Ask.j3 k false x193000 x193001 x193002 x193003 x193004 x194000 x194001 x194002 x194003 x194004 x194005 x194006 x194007 x194008) else (room_Ask.j3 k (!(Op.bytesLess x193001.toList x193002.toList)) x193000 x193001 x193002 x193003 x193004 x194000 x194001 x194002 x194003 x194004 x194005 x194006 x194007 x194008))
def room_Ask.j3 : Nat → Bool → Int → ByteArray → ByteArray → Int → List (S117) → Int → Int → Int → Int → Int → Int → Int → Int → Int → Option (Int)
 | 0, _, _, _, _, _, _, _, _, _, _, _, _, _, _, _ => none
 | k + 1, x69, x193000, x193001, x193002, x193003, x193004, x194000, x194001, x194002, x194003, x194004, x194005, x194006, x194007, x194008 => if x69 = true then (some 7) else (if x193000 = 3 then ((room_in.f x193003 1 x194008).bind fun t205 => (if t205 = true then (some 0) else (some 4))) else (some 0))
end
def room_Ask.f (k : Nat) (a0_0 : Int) (a0_1 : BA) (a0_2 : BA) (a0_3 : Int) (l0_4 : List (S117)) (a1_0 : Int) (a1_1 : Int) (a1_2 : Int) (a1_3 : Int) (a1_4 : Int) (a1_5 : Int) (a1_6 : Int) (a1_7 : Int) (a1_8 : Int) : Option (Int) := (room_spare.f a0_0 a0_1 a0_2 a0_3 l0_4).bind fun bt194 => ((room_in.f (wrap64 (a0_0)) 1 6).bind fun t202 => (if t202 = true then (if bt194.2.1.toList = ([] : List UInt8) then (if bt194.2.2.1.toList = ([] : List UInt8) then (if bt194.2.2.2.1 = 0 then (room_Ask.j0 k (decide ((bt194.2.2.2.2.length : Int) > 0)) a0_0 a0_1 a0_2 a0_3 l0_4 a1_0 a1_1 a1_2 a1_3 a1_4 a1_5 a1_6 a1_7 a1_8) else (room_Ask.j0 k true a0_0 a0_1 a0_2 a0_3 l0_4 a1_0 a1_1 a1_2 a1_3 a1_4 a1_5 a1_6 a1_7 a1_8)) else (room_Ask.j0 k true a0_0 a0_1 a0_2 a0_3 l0_4 a1_0 a1_1 a1_2 a1_3 a1_4 a1_5 a1_6 a1_7 a1_8)) else (room_Ask.j0 k true a0_0 a0_1 a0_2 a0_3 l0_4 a1_0 a1_1 a1_2 a1_3 a1_4 a1_5 a1_6 a1_7 a1_8)) else (room_Ask.j0 k true a0_0 a0_1 a0_2 a0_3 l0_4 a1_0 a1_1 a1_2 a1_3 a1_4 a1_5 a1_6 a1_7 a1_8)))
set_option maxHeartbeats 8000000 in
set_option maxRecDepth 100000 in
theorem room_Ask.calls (k : Nat) (a0_0 : Int) (a0_1 : BA) (a0_2 : BA) (a0_3 : Int) (A0_4 : Option Addr) (c0_4 : Nat) (l0_4 : List (S117)) (a1_0 : Int) (a1_1 : Int) (a1_2 : Int) (a1_3 : Int) (a1_4 : Int) (a1_5 : Int) (a1_6 : Int) (a1_7 : Int) (a1_8 : Int) (r : Int) (w : World) (hr0_4 : Kd.C k117 w A0_4 l0_4.length l0_4) (hc0_4 : l0_4.length ≤ c0_4) (h : room_Ask.f k a0_0 a0_1 a0_2 a0_3 l0_4 a1_0 a1_1 a1_2 a1_3 a1_4 a1_5 a1_6 a1_7 a1_8 = some r) :
  Calls Try.prog 55 #[.agg #[.int .u8 a0_0, .string a0_1, .string a0_2, .int .i64 a0_3, .slice A0_4 l0_4.length c0_4], .agg #[.int .i64 a1_0, .int .i64 a1_1, .int .i64 a1_2, .int .i64 a1_3, .int .i64 a1_4, .int .i64 a1_5, .int .i64 a1_6, .int .i64 a1_7, .int .i64 a1_8]] w fun e w' => e = .returned (.int .i64 r) ∧ Below w.heap.size w w' := by
 have hu56 := Try.underlying56
 have hu47 := Try.underlying47
 have HR0_4 := Aside0.mk hr0_4
 have HC0_4 := Aside0.mk hc0_4
 clear hr0_4 hc0_4
 have HB := Aside0.mk (Below.refl w.heap.size w)
 have H : ((room_spare.f a0_0 a0_1 a0_2 a0_3 l0_4).bind fun bt194 => ((room_in.f (wrap64 (a0_0)) 1 6).bind fun t202 => (if t202 = true then (if bt194.2.1.toList = ([] : List UInt8) then (if bt194.2.2.1.toList = ([] : List UInt8) then (if bt194.2.2.2.1 = 0 then (room_Ask.j0 k (decide ((bt194.2.2.2.2.length : Int) > 0)) a0_0 a0_1 a0_2 a0_3 l0_4 a1_0 a1_1 a1_2 a1_3 a1_4 a1_5 a1_6 a1_7 a1_8) else (room_Ask.j0 k true a0_0 a0_1 a0_2 a0_3 l0_4 a1_0 a1_1 a1_2 a1_3 a1_4 a1_5 a1_6 a1_7 a1_8)) else (room_Ask.j0 k true a0_0 a0_1 a0_2 a0_3 l0_4 a1_0 a1_1 a1_2 a1_3 a1_4 a1_5 a1_6 a1_7 a1_8)) else (room_Ask.j0 k true a0_0 a0_1 a0_2 a0_3 l0_4 a1_0 a1_1 a1_2 a1_3 a1_4 a1_5 a1_6 a1_7 a1_8)) else (room_Ask.j0 k true a0_0 a0_1 a0_2 a0_3 l0_4 a1_0 a1_1 a1_2 a1_3 a1_4 a1_5 a1_6 a1_7 a1_8)))) = some r := h
 clear h
 replace H := Option.bind_eq_some_iff.mp H
 obtain ⟨⟨t194, t195, t196, t197, t198⟩, A30, H⟩ := H
 replace H : ((room_in.f (wrap64 (a0_0)) 1 6).bind fun t202 => (if t202 = true then (if t195.toList = ([] : List UInt8) then (if t196.toList = ([] : List UInt8) then (if t197 = 0 then (room_Ask.j0 k (decide ((t198.length : Int) > 0)) a0_0 a0_1 a0_2 a0_3 l0_4 a1_0 a1_1 a1_2 a1_3 a1_4 a1_5 a1_6 a1_7 a1_8) else (room_Ask.j0 k true a0_0 a0_1 a0_2 a0_3 l0_4 a1_0 a1_1 a1_2 a1_3 a1_4 a1_5 a1_6 a1_7 a1_8)) else (room_Ask.j0 k true a0_0 a0_1 a0_2 a0_3 l0_4 a1_0 a1_1 a1_2 a1_3 a1_4 a1_5 a1_6 a1_7 a1_8)) else (room_Ask.j0 k true a0_0 a0_1 a0_2 a0_3 l0_4 a1_0 a1_1 a1_2 a1_3 a1_4 a1_5 a1_6 a1_7 a1_8)) else (room_Ask.j0 k true a0_0 a0_1 a0_2 a0_3 l0_4 a1_0 a1_1 a1_2 a1_3 a1_4 a1_5 a1_6 a1_7 a1_8))) = some r := H
 have A3 := Aside0.mk A30
 clear A30
 have HC4 := Aside0.mk H
 clear H
 go_enter Try.func55, Try.ntmps55
 go_upto_region 2 with (first | ((with_reducible refine gate_dst (N := 2) rfl ?_); (try (refine gate_guard (by rfl) ?_; dsimp only)); refine box_event ?hg (N := 2) ?hd (cs := #[.int .u8 a0_0, .string a0_1, .string a0_2, .int .i64 a0_3, .slice A0_4 l0_4.length c0_4]) (t := 56) ?hr ?_; (case hd => rfl); (case hg => rfl); (case hr => first | (go_simp; done) | (go_simp; rfl)); intro gb192 hg w5 hbox hb; have n0_ := Aside0.mk (wT bW_ hb); have n1_ := Aside0.mk (hbox); have n2_ := Aside0.mk ((by rw [hg]; exact (wZ bW_) : w.heap.size ≤ gb192)); have n3_ := n2_; clear HB; have HB := n0_; have BK192 := n1_; have GW192 := n2_; have GE192 := n3_; clear n0_ n1_ n2_ n3_; clear hb hbox hg) | ((with_reducible refine gate_dst (N := 3) rfl ?_); (try (refine gate_guard (by rfl) ?_; dsimp only)); refine box_event ?hg (N := 3) ?hd (cs := #[.int .i64 a1_0, .int .i64 a1_1, .int .i64 a1_2, .int .i64 a1_3, .int .i64 a1_4, .int .i64 a1_5, .int .i64 a1_6, .int .i64 a1_7, .int .i64 a1_8]) (t := 47) ?hr ?_; (case hd => rfl); (case hg => rfl); (case hr => first | (go_simp; done) | (go_simp; rfl)); intro gb193 hg w6 hbox hb; have n0_ := Aside0.mk (bB (bX_ BK192.out) hb); have n1_ := Aside0.mk (wT (bS1_ GE192.out) hb); have n2_ := Aside0.mk (hbox); have n3_ := Aside0.mk ((by rw [hg]; exact (wZ (bS1_ GE192.out)) : w.heap.size ≤ gb193)); have n4_ := n3_; have n5_ := Aside0.mk ((by rw [hg]; exact Nat.ne_of_lt (blk_lt (g := gb192) (o := .cells #[.int .u8 a0_0, .string a0_1, .string a0_2, .int .i64 a0_3, .slice A0_4 l0_4.length c0_4] 56 (0, 0)) (bX_ BK192.out)) : gb192 ≠ gb193)); have n6_ := Aside0.mk ((by rw [hg]; exact Nat.ne_of_gt (blk_lt (g := gb192) (o := .cells #[.int .u8 a0_0, .string a0_1, .string a0_2, .int .i64 a0_3, .slice A0_4 l0_4.length c0_4] 56 (0, 0)) (bX_ BK192.out)) : gb193 ≠ gb192)); clear BK192; clear HB; have BK192 := n0_; have HB := n1_; have BK193 := n2_; have GW193 := n3_; have GE193 := n4_; have NB192_193 := n5_; have NB193_192 := n6_; clear n0_ n1_ n2_ n3_ n4_ n5_ n6_; clear hb hbox hg; have hnb7 := NB192_193.out; have hnc7 := NB193_192.out; have hcz8_0 := cz_ BK192.out 0; have hcz8_1 := cz_ BK192.out 1; have hcz8_2 := cz_ BK192.out 2; have hcz8_3 := cz_ BK192.out 3; have hcz8_4 := cz_ BK192.out 4; have hfz8_0 := bF BK192.out 0; have hfz8_1 := bF BK192.out 1; have hfz8_2 := bF BK192.out 2; have hfz8_3 := bF BK192.out 3; have hfz8_4 := bF BK192.out 4) | ((with_reducible refine gate_callee (f := 83) rfl ?_); refine goesL_ (some 7) rfl rfl Try.func83 (by kernel_rfl) rfl #[.agg #[.int .u8 a0_0, .string a0_1, .string a0_2, .int .i64 a0_3, .slice A0_4 l0_4.length c0_4]] rfl mS_ ?_; (with_reducible refine (room_spare.calls a0_0 a0_1 a0_2 a0_3 (fun k_ => k_ < w.heap.size) _ _ l0_4 t194 t195 t196 t197 t198 _ ?side1 A3.out).mono ?_); (case side1 => exact Kd.V_mk HC0_4.out (Kd.F_below (Kd.C_F k117_heap HR0_4.out) (bS2_ GE192.out GE193.out))); rintro e w9 ⟨v199, rfl, ho0, hb⟩; refine ⟨_, rfl, ?_⟩; have n0_ := Aside0.mk (Kd.V_lower (Kd.V_mono (ok' := fun k_ => k_ ≠ gb192 ∧ k_ ≠ gb193) ho0 (fun k_ hk_ => ⟨Or.elim hk_ (fun hs_ => fun e_ => Nat.not_le.2 hs_ (by rw [e_]; exact GW192.out)) (fun hn_ => (Kd.freshB (g := gb192) (o := .cells #[.int .u8 a0_0, .string a0_1, .string a0_2, .int .i64 a0_3, .slice A0_4 l0_4.length c0_4] 56 (0, 0)) (bX_ BK192.out) k_ hn_)), Or.elim hk_ (fun hs_ => fun e_ => Nat.not_le.2 hs_ (by rw [e_]; exact GW193.out)) (fun hn_ => (Kd.freshB (g := gb193) (o := .cells #[.int .i64 a1_0, .int .i64 a1_1, .int .i64 a1_2, .int .i64 a1_3, .int .i64 a1_4, .int .i64 a1_5, .int .i64 a1_6, .int .i64 a1_7, .int .i64 a1_8] 47 (0, 0)) (bX_ BK193.out) k_ hn_))⟩)) (wZ (bS2_ GE192.out GE193.out))); have n1_ := Aside0.mk (bB (bX_ BK192.out) hb); have n2_ := Aside0.mk (bB (bX_ BK193.out) hb); have n3_ := Aside0.mk (wT (bS2_ GE192.out GE193.out) hb); clear BK192; clear BK193; clear HB; have HO200 := n0_; have BK192 := n1_; have BK193 := n2_; have HB := n3_; clear n0_ n1_ n2_ n3_; (try clear hb); (try clear hb2); (try clear hk); (try clear hi); (try clear ho0)) | ((with_reducible refine gate_dst (N := 5) rfl ?_); (try (refine gate_guard (by rfl) ?_; dsimp only)); refine box_event ?hg (N := 5) ?hd (cs := #[.int .u8 0, .string (⟨#[]⟩ : BA), .string (⟨#[]⟩ : BA), .int .i64 0, .slice none 0 0]) (t := 56) ?hr ?_; (case hd => rfl); (case hg => rfl); (case hr => first | (go_simp; done) | (go_simp; rfl)); intro gb201 hg w10 hbox hb; have n0_ := Aside0.mk (Kd.V_below (Kd.V_elderB (kV_ HO200.out) gb201 (Nat.le_of_eq hg.symm)) hb); have n1_ := Aside0.mk (bB (bX_ BK192.out) hb); have n2_ := Aside0.mk (bB (bX_ BK193.out) hb); have n3_ := Aside0.mk (wT (bS2_ GE192.out GE193.out) hb); have n4_ := Aside0.mk (hbox); have n5_ := Aside0.mk ((by rw [hg]; exact (wZ (bS2_ GE192.out GE193.out)) : w.heap.size ≤ gb201)); have n6_ := n5_; have n7_ := Aside0.mk ((by rw [hg]; exact Nat.ne_of_lt (blk_lt (g := gb192) (o := .cells #[.int .u8 a0_0, .string a0_1, .string a0_2, .int .i64 a0_3, .slice A0_4 l0_4.length c0_4] 56 (0, 0)) (bX_ BK192.out)) : gb192 ≠ gb201)); have n8_ := Aside0.mk ((by rw [hg]; exact Nat.ne_of_gt (blk_lt (g := gb192) (o := .cells #[.int .u8 a0_0, .string a0_1, .string a0_2, .int .i64 a0_3, .slice A0_4 l0_4.length c0_4] 56 (0, 0)) (bX_ BK192.out)) : gb201 ≠ gb192)); have n9_ := Aside0.mk ((by rw [hg]; exact Nat.ne_of_lt (blk_lt (g := gb193) (o := .cells #[.int .i64 a1_0, .int .i64 a1_1, .int .i64 a1_2, .int .i64 a1_3, .int .i64 a1_4, .int .i64 a1_5, .int .i64 a1_6, .int .i64 a1_7, .int .i64 a1_8] 47 (0, 0)) (bX_ BK193.out)) : gb193 ≠ gb201)); have n10_ := Aside0.mk ((by rw [hg]; exact Nat.ne_of_gt (blk_lt (g := gb193) (o := .cells #[.int .i64 a1_0, .int .i64 a1_1, .int .i64 a1_2, .int .i64 a1_3, .int .i64 a1_4, .int .i64 a1_5, .int .i64 a1_6, .int .i64 a1_7, .int .i64 a1_8] 47 (0, 0)) (bX_ BK193.out)) : gb201 ≠ gb193)); clear HO200; clear BK192; clear BK193; clear HB; have HO200 := n0_; have BK192 := n1_; have BK193 := n2_; have HB := n3_; have BK201 := n4_; have GW201 := n5_; have GE201 := n6_; have NB192_201 := n7_; have NB201_192 := n8_; have NB193_201 := n9_; have NB201_193 := n10_; clear n0_ n1_ n2_ n3_ n4_ n5_ n6_ n7_ n8_ n9_ n10_; clear hb hbox hg; have hnb11 := NB201_192.out; have hnc11 := NB192_201.out; have hnb12 := NB201_193.out; have hnc12 := NB193_201.out; have hcz13_0 := cz_ BK201.out 0; have hcz13_1 := cz_ BK201.out 1; have hcz13_2 := cz_ BK201.out 2; have hcz13_3 := cz_ BK201.out 3; have hcz13_4 := cz_ BK201.out 4; have hfz13_0 := bF BK201.out 0; have hfz13_1 := bF BK201.out 1; have hfz13_2 := bF BK201.out 2; have hfz13_3 := bF BK201.out 3; have hfz13_4 := bF BK201.out 4; obtain ⟨Ao14, co14, eo14⟩ := Kd.V_slice HO200.out; subst eo14))
 (try simp only [Act.put, sA1, sA2, sA3])
 go_cut [33] (fun v33 wc => ∃ (kq : Nat) (x33_3 : Bool), v33 = .bool x33_3 ∧ Aside0 (room_Ask.j0 kq x33_3 a0_0 a0_1 a0_2 a0_3 l0_4 a1_0 a1_1 a1_2 a1_3 a1_4 a1_5 a1_6 a1_7 a1_8 = some r) ∧ Aside0 (kq ≤ k) ∧ Aside0 (Kd.V k117 117 wc w.heap.size (fun k_ => k_ ≠ gb192 ∧ k_ ≠ gb193 ∧ k_ ≠ gb201) (.slice Ao14 t198.length co14) t198) ∧ Aside0 (wc.heap[gb192]? = some (.cells #[.int .u8 a0_0, .string a0_1, .string a0_2, .int .i64 a0_3, (.slice A0_4 l0_4.length c0_4)] 56 (0, 0))) ∧ Aside0 (wc.heap[gb193]? = some (.cells #[.int .i64 a1_0, .int .i64 a1_1, .int .i64 a1_2, .int .i64 a1_3, .int .i64 a1_4, .int .i64 a1_5, .int .i64 a1_6, .int .i64 a1_7, .int .i64 a1_8] 47 (0, 0))) ∧ Aside0 (wc.heap[gb201]? = some (.cells #[.int .u8 t194, .string t195, .string t196, .int .i64 t197, (.slice Ao14 t198.length co14)] 56 (0, 0))) ∧ Aside0 (Below w.heap.size w wc))
 case first =>
  have H := HC4.out
  clear HC4
  replace H := Option.bind_eq_some_iff.mp H
  obtain ⟨t202, A150, H⟩ := H
  replace H : (if t202 = true then (if t195.toList = ([] : List UInt8) then (if t196.toList = ([] : List UInt8) then (if t197 = 0 then (room_Ask.j0 k (decide ((t198.length : Int) > 0)) a0_0 a0_1 a0_2 a0_3 l0_4 a1_0 a1_1 a1_2 a1_3 a1_4 a1_5 a1_6 a1_7 a1_8) else (room_Ask.j0 k true a0_0 a0_1 a0_2 a0_3 l0_4 a1_0 a1_1 a1_2 a1_3 a1_4 a1_5 a1_6 a1_7 a1_8)) else (room_Ask.j0 k true a0_0 a0_1 a0_2 a0_3 l0_4 a1_0 a1_1 a1_2 a1_3 a1_4 a1_5 a1_6 a1_7 a1_8)) else (room_Ask.j0 k true a0_0 a0_1 a0_2 a0_3 l0_4 a1_0 a1_1 a1_2 a1_3 a1_4 a1_5 a1_6 a1_7 a1_8)) else (room_Ask.j0 k true a0_0 a0_1 a0_2 a0_3 l0_4 a1_0 a1_1 a1_2 a1_3 a1_4 a1_5 a1_6 a1_7 a1_8)) = some r := H
  have A15 := Aside0.mk A150
  clear A150
  by_cases c16 : t202 = true
  ·subst c16
   have H1 : (if t195.toList = ([] : List UInt8) then (if t196.toList = ([] : List UInt8) then (if t197 = 0 then (room_Ask.j0 k (decide ((t198.length : Int) > 0)) a0_0 a0_1 a0_2 a0_3 l0_4 a1_0 a1_1 a1_2 a1_3 a1_4 a1_5 a1_6 a1_7 a1_8) else (room_Ask.j0 k true a0_0 a0_1 a0_2 a0_3 l0_4 a1_0 a1_1 a1_2 a1_3 a1_4 a1_5 a1_6 a1_7 a1_8)) else (room_Ask.j0 k true a0_0 a0_1 a0_2 a0_3 l0_4 a1_0 a1_1 a1_2 a1_3 a1_4 a1_5 a1_6 a1_7 a1_8)) else (room_Ask.j0 k true a0_0 a0_1 a0_2 a0_3 l0_4 a1_0 a1_1 a1_2 a1_3 a1_4 a1_5 a1_6 a1_7 a1_8)) = some r := by rw [if_pos rfl] at H; exact H
   clear H
   have H := H1
   clear H1
   by_cases c17 : t195.toList = ([] : List UInt8)
   ·rw [if_pos c17] at H
    have c17b0 : (t195.toList == ([] : List UInt8)) = true := beq_iff_eq.mpr c17
    have c17b1 : (t195.toList != ([] : List UInt8)) = false := bne_eq_false_iff_eq.mpr c17
    clear c17
    (first | rw [c17b0] | (simp only [i64_w, i32_w]; rw [c17b0]) | skip)
    by_cases c18 : t196.toList = ([] : List UInt8)
    ·rw [if_pos c18] at H
     have c18b0 : (t196.toList == ([] : List UInt8)) = true := beq_iff_eq.mpr c18
     have c18b1 : (t196.toList != ([] : List UInt8)) = false := bne_eq_false_iff_eq.mpr c18
     clear c18
     by_cases c19 : t197 = 0
     ·rw [if_pos c19] at H
      have c19b0 : (t197 == 0) = true := beq_iff_eq.mpr c19
      have c19b1 : (t197 != 0) = false := bne_eq_false_iff_eq.mpr c19
      clear c19
      have H' := Aside0.mk H
      clear H
      have hnb20 := NB192_193.out
      have hnc20 := NB193_192.out
      have hnb21 := NB192_201.out
      have hnc21 := NB201_192.out
      have hcz22_0 := cz_ BK192.out 0
      have hcz22_1 := cz_ BK192.out 1
      have hcz22_2 := cz_ BK192.out 2
      have hcz22_3 := cz_ BK192.out 3
      have hcz22_4 := cz_ BK192.out 4
      have hfz22_0 := bF BK192.out 0
      have hfz22_1 := bF BK192.out 1
      have hfz22_2 := bF BK192.out 2
      have hfz22_3 := bF BK192.out 3
      have hfz22_4 := bF BK192.out 4
      go_wp2_with (first | ((with_reducible refine gate_callee (f := 84) rfl ?_); refine goesL_ (some 11) rfl rfl Try.func84 (by kernel_rfl) rfl #[.int .i64 (wrap64 (a0_0)), .int .i64 1, .int .i64 6] rfl mS_ ?_; (with_reducible refine (room_in.calls (wrap64 (a0_0)) 1 6 true _ A15.out).mono ?_); rintro e w' ⟨rfl, ⟨nd, rfl⟩⟩; refine ⟨_, rfl, ?_⟩; have hnb23 := NB201_193.out; have hnc23 := NB193_201.out; have hcz24_0 := cz_ BK201.out 0; have hcz24_1 := cz_ BK201.out 1; have hcz24_2 := cz_ BK201.out 2; have hcz24_3 := cz_ BK201.out 3; have hcz24_4 := cz_ BK201.out 4; have hfz24_0 := bF BK201.out 0; have hfz24_1 := bF BK201.out 1; have hfz24_2 := bF BK201.out 2; have hfz24_3 := bF BK201.out 3; have hfz24_4 := bF BK201.out 4))
      go_meet
      case rel => exact ⟨_, (decide ((t198.length : Int) > 0)), (by first | rfl | (simp; done) | (simp [*]; done)), H', ⟨by first | omega | exact Nat.le_refl _⟩, ⟨by (with_reducible repeat (first | apply Kd.V_alloc | apply Kd.V_drewN | apply Kd.V_drew)); exact Kd.V_mono (Kd.V_far (p := ⟨gb201, 4, none⟩) (Kd.V_far (p := ⟨gb201, 3, none⟩) (Kd.V_far (p := ⟨gb201, 2, none⟩) (Kd.V_far (p := ⟨gb201, 1, none⟩) (Kd.V_far (p := ⟨gb201, 0, none⟩) (Kd.V_mono HO200.out (fun k_ hk => (⟨hk, hk.2⟩ : _ ∧ k_ ≠ gb201))) (fun _ hk => hk.2) (.int .u8 t194)) (fun _ hk => hk.2) (.string t195)) (fun _ hk => hk.2) (.string t196)) (fun _ hk => hk.2) (.int .i64 t197)) (fun _ hk => hk.2) (.slice Ao14 t198.length co14)) (fun _ hk => ⟨hk.1.1.1, ⟨hk.1.1.2, hk.1.2⟩⟩)⟩, ⟨by (with_reducible repeat (first | refine bN ?_ _ | refine bD ?_ | refine bA ?_ _)); refine bR ?_ NB192_201.out _; (with_reducible repeat (first | refine bN ?_ _ | refine bD ?_ | refine bA ?_ _)); refine bR ?_ NB192_201.out _; (with_reducible repeat (first | refine bN ?_ _ | refine bD ?_ | refine bA ?_ _)); refine bR ?_ NB192_201.out _; (with_reducible repeat (first | refine bN ?_ _ | refine bD ?_ | refine bA ?_ _)); refine bR ?_ NB192_201.out _; (with_reducible repeat (first | refine bN ?_ _ | refine bD ?_ | refine bA ?_ _)); refine bR ?_ NB192_201.out _; (with_reducible repeat (first | refine bN ?_ _ | refine bD ?_ | refine bA ?_ _)); exact BK192.out⟩, ⟨by (with_reducible repeat (first | refine bN ?_ _ | refine bD ?_ | refine bA ?_ _)); refine bR ?_ NB193_201.out _; (with_reducible repeat (first | refine bN ?_ _ | refine bD ?_ | refine bA ?_ _)); refine bR ?_ NB193_201.out _; (with_reducible repeat (first | refine bN ?_ _ | refine bD ?_ | refine bA ?_ _)); refine bR ?_ NB193_201.out _; (with_reducible repeat (first | refine bN ?_ _ | refine bD ?_ | refine bA ?_ _)); refine bR ?_ NB193_201.out _; (with_reducible repeat (first | refine bN ?_ _ | refine bD ?_ | refine bA ?_ _)); refine bR ?_ NB193_201.out _; (with_reducible repeat (first | refine bN ?_ _ | refine bD ?_ | refine bA ?_ _)); exact BK193.out⟩, ⟨by (with_reducible repeat (first | refine bN ?_ _ | refine bD ?_ | refine bA ?_ _)); refine bP (cs := #[.int .u8 t194, .string t195, .string t196, .int .i64 t197, .slice none 0 0]) ?_ 4 _ rfl; (with_reducible repeat (first | refine bN ?_ _ | refine bD ?_ | refine bA ?_ _)); refine bP (cs := #[.int .u8 t194, .string t195, .string t196, .int .i64 0, .slice none 0 0]) ?_ 3 _ rfl; (with_reducible repeat (first | refine bN ?_ _ | refine bD ?_ | refine bA ?_ _)); refine bP (cs := #[.int .u8 t194, .string t195, .string (⟨#[]⟩ : BA), .int .i64 0, .slice none 0 0]) ?_ 2 _ rfl; (with_reducible repeat (first | refine bN ?_ _ | refine bD ?_ | refine bA ?_ _)); refine bP (cs := #[.int .u8 t194, .string (⟨#[]⟩ : BA), .string (⟨#[]⟩ : BA), .int .i64 0, .slice none 0 0]) ?_ 1 _ rfl; (with_reducible repeat (first | refine bN ?_ _ | refine bD ?_ | refine bA ?_ _)); refine bP (cs := #[.int .u8 0, .string (⟨#[]⟩ : BA), .string (⟨#[]⟩ : BA), .int .i64 0, .slice none 0 0]) ?_ 0 _ rfl; (with_reducible repeat (first | refine bN ?_ _ | refine bD ?_ | refine bA ?_ _)); exact BK201.out⟩, ⟨by repeat (first | (with_reducible first | exact HB.out | apply wA | apply wN | apply w1 | refine wS ?_ GE192.out | refine wS ?_ GE193.out | refine wS ?_ GE201.out) | exact HB.out)⟩⟩
     ·rw [if_neg c19] at H
      have c19b0 : (t197 == 0) = false := beq_eq_false_iff_ne.mpr c19
      have c19b1 : (t197 != 0) = true := bne_iff_ne.mpr c19
      have H' := Aside0.mk H
      clear H
      have hnb25 := NB192_193.out
      have hnc25 := NB193_192.out
      have hnb26 := NB192_201.out
      have hnc26 := NB201_192.out
      have hcz27_0 := cz_ BK192.out 0
      have hcz27_1 := cz_ BK192.out 1
      have hcz27_2 := cz_ BK192.out 2
      have hcz27_3 := cz_ BK192.out 3
      have hcz27_4 := cz_ BK192.out 4
      have hfz27_0 := bF BK192.out 0
      have hfz27_1 := bF BK192.out 1
      have hfz27_2 := bF BK192.out 2
      have hfz27_3 := bF BK192.out 3
      have hfz27_4 := bF BK192.out 4
      go_wp2_with (first | ((with_reducible refine gate_callee (f := 84) rfl ?_); refine goesL_ (some 11) rfl rfl Try.func84 (by kernel_rfl) rfl #[.int .i64 (wrap64 (a0_0)), .int .i64 1, .int .i64 6] rfl mS_ ?_; (with_reducible refine (room_in.calls (wrap64 (a0_0)) 1 6 true _ A15.out).mono ?_); rintro e w' ⟨rfl, ⟨nd, rfl⟩⟩; refine ⟨_, rfl, ?_⟩; have hnb28 := NB201_193.out; have hnc28 := NB193_201.out; have hcz29_0 := cz_ BK201.out 0; have hcz29_1 := cz_ BK201.out 1; have hcz29_2 := cz_ BK201.out 2; have hcz29_3 := cz_ BK201.out 3; have hcz29_4 := cz_ BK201.out 4; have hfz29_0 := bF BK201.out 0; have hfz29_1 := bF BK201.out 1; have hfz29_2 := bF BK201.out 2; have hfz29_3 := bF BK201.out 3; have hfz29_4 := bF BK201.out 4))
      go_meet
      case rel => exact ⟨_, (true), (by first | rfl | (simp; done) | (simp [*]; done)), H', ⟨by first | omega | exact Nat.le_refl _⟩, ⟨by (with_reducible repeat (first | apply Kd.V_alloc | apply Kd.V_drewN | apply Kd.V_drew)); exact Kd.V_mono (Kd.V_far (p := ⟨gb201, 4, none⟩) (Kd.V_far (p := ⟨gb201, 3, none⟩) (Kd.V_far (p := ⟨gb201, 2, none⟩) (Kd.V_far (p := ⟨gb201, 1, none⟩) (Kd.V_far (p := ⟨gb201, 0, none⟩) (Kd.V_mono HO200.out (fun k_ hk => (⟨hk, hk.2⟩ : _ ∧ k_ ≠ gb201))) (fun _ hk => hk.2) (.int .u8 t194)) (fun _ hk => hk.2) (.string t195)) (fun _ hk => hk.2) (.string t196)) (fun _ hk => hk.2) (.int .i64 t197)) (fun _ hk => hk.2) (.slice Ao14 t198.length co14)) (fun _ hk => ⟨hk.1.1.1, ⟨hk.1.1.2, hk.1.2⟩⟩)⟩, ⟨by (with_reducible repeat (first | refine bN ?_ _ | refine bD ?_ | refine bA ?_ _)); refine bR ?_ NB192_201.out _; (with_reducible repeat (first | refine bN ?_ _ | refine bD ?_ | refine bA ?_ _)); refine bR ?_ NB192_201.out _; (with_reducible repeat (first | refine bN ?_ _ | refine bD ?_ | refine bA ?_ _)); refine bR ?_ NB192_201.out _; (with_reducible repeat (first | refine bN ?_ _ | refine bD ?_ | refine bA ?_ _)); refine bR ?_ NB192_201.out _; (with_reducible repeat (first | refine bN ?_ _ | refine bD ?_ | refine bA ?_ _)); refine bR ?_ NB192_201.out _; (with_reducible repeat (first | refine bN ?_ _ | refine bD ?_ | refine bA ?_ _)); exact BK192.out⟩, ⟨by (with_reducible repeat (first | refine bN ?_ _ | refine bD ?_ | refine bA ?_ _)); refine bR ?_ NB193_201.out _; (with_reducible repeat (first | refine bN ?_ _ | refine bD ?_ | refine bA ?_ _)); refine bR ?_ NB193_201.out _; (with_reducible repeat (first | refine bN ?_ _ | refine bD ?_ | refine bA ?_ _)); refine bR ?_ NB193_201.out _; (with_reducible repeat (first | refine bN ?_ _ | refine bD ?_ | refine bA ?_ _)); refine bR ?_ NB193_201.out _; (with_reducible repeat (first | refine bN ?_ _ | refine bD ?_ | refine bA ?_ _)); refine bR ?_ NB193_201.out _; (with_reducible repeat (first | refine bN ?_ _ | refine bD ?_ | refine bA ?_ _)); exact BK193.out⟩, ⟨by (with_reducible repeat (first | refine bN ?_ _ | refine bD ?_ | refine bA ?_ _)); refine bP (cs := #[.int .u8 t194, .string t195, .string t196, .int .i64 t197, .slice none 0 0]) ?_ 4 _ rfl; (with_reducible repeat (first | refine bN ?_ _ | refine bD ?_ | refine bA ?_ _)); refine bP (cs := #[.int .u8 t194, .string t195, .string t196, .int .i64 0, .slice none 0 0]) ?_ 3 _ rfl; (with_reducible repeat (first | refine bN ?_ _ | refine bD ?_ | refine bA ?_ _)); refine bP (cs := #[.int .u8 t194, .string t195, .string (⟨#[]⟩ : BA), .int .i64 0, .slice none 0 0]) ?_ 2 _ rfl; (with_reducible repeat (first | refine bN ?_ _ | refine bD ?_ | refine bA ?_ _)); refine bP (cs := #[.int .u8 t194, .string (⟨#[]⟩ : BA), .string (⟨#[]⟩ : BA), .int .i64 0, .slice none 0 0]) ?_ 1 _ rfl; (with_reducible repeat (first | refine bN ?_ _ | refine bD ?_ | refine bA ?_ _)); refine bP (cs := #[.int .u8 0, .string (⟨#[]⟩ : BA), .string (⟨#[]⟩ : BA), .int .i64 0, .slice none 0 0]) ?_ 0 _ rfl; (with_reducible repeat (first | refine bN ?_ _ | refine bD ?_ | refine bA ?_ _)); exact BK201.out⟩, ⟨by repeat (first | (with_reducible first | exact HB.out | apply wA | apply wN | apply w1 | refine wS ?_ GE192.out | refine wS ?_ GE193.out | refine wS ?_ GE201.out) | exact HB.out)⟩⟩
    ·rw [if_neg c18] at H
     have c18b0 : (t196.toList == ([] : List UInt8)) = false := beq_eq_false_iff_ne.mpr c18
     have c18b1 : (t196.toList != ([] : List UInt8)) = true := bne_iff_ne.mpr c18
     have H' := Aside0.mk H
     clear H
     have hnb30 := NB192_193.out
     have hnc30 := NB193_192.out
     have hnb31 := NB192_201.out
     have hnc31 := NB201_192.out
     have hcz32_0 := cz_ BK192.out 0
     have hcz32_1 := cz_ BK192.out 1
     have hcz32_2 := cz_ BK192.out 2
     have hcz32_3 := cz_ BK192.out 3
     have hcz32_4 := cz_ BK192.out 4
     have hfz32_0 := bF BK192.out 0
     have hfz32_1 := bF BK192.out 1
     have hfz32_2 := bF BK192.out 2
     have hfz32_3 := bF BK192.out 3
     have hfz32_4 := bF BK192.out 4
     go_wp2_with (first | ((with_reducible refine gate_callee (f := 84) rfl ?_); refine goesL_ (some 11) rfl rfl Try.func84 (by kernel_rfl) rfl #[.int .i64 (wrap64 (a0_0)), .int .i64 1, .int .i64 6] rfl mS_ ?_; (with_reducible refine (room_in.calls (wrap64 (a0_0)) 1 6 true _ A15.out).mono ?_); rintro e w' ⟨rfl, ⟨nd, rfl⟩⟩; refine ⟨_, rfl, ?_⟩; have hnb33 := NB201_193.out; have hnc33 := NB193_201.out; have hcz34_0 := cz_ BK201.out 0; have hcz34_1 := cz_ BK201.out 1; have hcz34_2 := cz_ BK201.out 2; have hcz34_3 := cz_ BK201.out 3; have hcz34_4 := cz_ BK201.out 4; have hfz34_0 := bF BK201.out 0; have hfz34_1 := bF BK201.out 1; have hfz34_2 := bF BK201.out 2; have hfz34_3 := bF BK201.out 3; have hfz34_4 := bF BK201.out 4))
     go_meet
     case rel => exact ⟨_, (true), (by first | rfl | (simp; done) | (simp [*]; done)), H', ⟨by first | omega | exact Nat.le_refl _⟩, ⟨by (with_reducible repeat (first | apply Kd.V_alloc | apply Kd.V_drewN | apply Kd.V_drew)); exact Kd.V_mono (Kd.V_far (p := ⟨gb201, 4, none⟩) (Kd.V_far (p := ⟨gb201, 3, none⟩) (Kd.V_far (p := ⟨gb201, 2, none⟩) (Kd.V_far (p := ⟨gb201, 1, none⟩) (Kd.V_far (p := ⟨gb201, 0, none⟩) (Kd.V_mono HO200.out (fun k_ hk => (⟨hk, hk.2⟩ : _ ∧ k_ ≠ gb201))) (fun _ hk => hk.2) (.int .u8 t194)) (fun _ hk => hk.2) (.string t195)) (fun _ hk => hk.2) (.string t196)) (fun _ hk => hk.2) (.int .i64 t197)) (fun _ hk => hk.2) (.slice Ao14 t198.length co14)) (fun _ hk => ⟨hk.1.1.1, ⟨hk.1.1.2, hk.1.2⟩⟩)⟩, ⟨by (with_reducible repeat (first | refine bN ?_ _ | refine bD ?_ | refine bA ?_ _)); refine bR ?_ NB192_201.out _; (with_reducible repeat (first | refine bN ?_ _ | refine bD ?_ | refine bA ?_ _)); refine bR ?_ NB192_201.out _; (with_reducible repeat (first | refine bN ?_ _ | refine bD ?_ | refine bA ?_ _)); refine bR ?_ NB192_201.out _; (with_reducible repeat (first | refine bN ?_ _ | refine bD ?_ | refine bA ?_ _)); refine bR ?_ NB192_201.out _; (with_reducible repeat (first | refine bN ?_ _ | refine bD ?_ | refine bA ?_ _)); refine bR ?_ NB192_201.out _; (with_reducible repeat (first | refine bN ?_ _ | refine bD ?_ | refine bA ?_ _)); exact BK192.out⟩, ⟨by (with_reducible repeat (first | refine bN ?_ _ | refine bD ?_ | refine bA ?_ _)); refine bR ?_ NB193_201.out _; (with_reducible repeat (first | refine bN ?_ _ | refine bD ?_ | refine bA ?_ _)); refine bR ?_ NB193_201.out _; (with_reducible repeat (first | refine bN ?_ _ | refine bD ?_ | refine bA ?_ _)); refine bR ?_ NB193_201.out _; (with_reducible repeat (first | refine bN ?_ _ | refine bD ?_ | refine bA ?_ _)); refine bR ?_ NB193_201.out _; (with_reducible repeat (first | refine bN ?_ _ | refine bD ?_ | refine bA ?_ _)); refine bR ?_ NB193_201.out _; (with_reducible repeat (first | refine bN ?_ _ | refine bD ?_ | refine bA ?_ _)); exact BK193.out⟩, ⟨by (with_reducible repeat (first | refine bN ?_ _ | refine bD ?_ | refine bA ?_ _)); refine bP (cs := #[.int .u8 t194, .string t195, .string t196, .int .i64 t197, .slice none 0 0]) ?_ 4 _ rfl; (with_reducible repeat (first | refine bN ?_ _ | refine bD ?_ | refine bA ?_ _)); refine bP (cs := #[.int .u8 t194, .string t195, .string t196, .int .i64 0, .slice none 0 0]) ?_ 3 _ rfl; (with_reducible repeat (first | refine bN ?_ _ | refine bD ?_ | refine bA ?_ _)); refine bP (cs := #[.int .u8 t194, .string t195, .string (⟨#[]⟩ : BA), .int .i64 0, .slice none 0 0]) ?_ 2 _ rfl; (with_reducible repeat (first | refine bN ?_ _ | refine bD ?_ | refine bA ?_ _)); refine bP (cs := #[.int .u8 t194, .string (⟨#[]⟩ : BA), .string (⟨#[]⟩ : BA), .int .i64 0, .slice none 0 0]) ?_ 1 _ rfl; (with_reducible repeat (first | refine bN ?_ _ | refine bD ?_ | refine bA ?_ _)); refine bP (cs := #[.int .u8 0, .string (⟨#[]⟩ : BA), .string (⟨#[]⟩ : BA), .int .i64 0, .slice none 0 0]) ?_ 0 _ rfl; (with_reducible repeat (first | refine bN ?_ _ | refine bD ?_ | refine bA ?_ _)); exact BK201.out⟩, ⟨by repeat (first | (with_reducible first | exact HB.out | apply wA | apply wN | apply w1 | refine wS ?_ GE192.out | refine wS ?_ GE193.out | refine wS ?_ GE201.out) | exact HB.out)⟩⟩
   ·rw [if_neg c17] at H
    have c17b0 : (t195.toList == ([] : List UInt8)) = false := beq_eq_false_iff_ne.mpr c17
    have c17b1 : (t195.toList != ([] : List UInt8)) = true := bne_iff_ne.mpr c17
    (first | rw [c17b0] | (simp only [i64_w, i32_w]; rw [c17b0]) | skip)
    have H' := Aside0.mk H
    clear H
    have hnb35 := NB192_193.out
    have hnc35 := NB193_192.out
    have hnb36 := NB192_201.out
    have hnc36 := NB201_192.out
    have hcz37_0 := cz_ BK192.out 0
    have hcz37_1 := cz_ BK192.out 1
    have hcz37_2 := cz_ BK192.out 2
    have hcz37_3 := cz_ BK192.out 3
    have hcz37_4 := cz_ BK192.out 4
    have hfz37_0 := bF BK192.out 0
    have hfz37_1 := bF BK192.out 1
    have hfz37_2 := bF BK192.out 2
    have hfz37_3 := bF BK192.out 3
    have hfz37_4 := bF BK192.out 4
    go_wp2_with (first | ((with_reducible refine gate_callee (f := 84) rfl ?_); refine goesL_ (some 11) rfl rfl Try.func84 (by kernel_rfl) rfl #[.int .i64 (wrap64 (a0_0)), .int .i64 1, .int .i64 6] rfl mS_ ?_; (with_reducible refine (room_in.calls (wrap64 (a0_0)) 1 6 true _ A15.out).mono ?_); rintro e w' ⟨rfl, ⟨nd, rfl⟩⟩; refine ⟨_, rfl, ?_⟩; have hnb38 := NB201_193.out; have hnc38 := NB193_201.out; have hcz39_0 := cz_ BK201.out 0; have hcz39_1 := cz_ BK201.out 1; have hcz39_2 := cz_ BK201.out 2; have hcz39_3 := cz_ BK201.out 3; have hcz39_4 := cz_ BK201.out 4; have hfz39_0 := bF BK201.out 0; have hfz39_1 := bF BK201.out 1; have hfz39_2 := bF BK201.out 2; have hfz39_3 := bF BK201.out 3; have hfz39_4 := bF BK201.out 4))
    go_meet
    case rel => exact ⟨_, (true), (by first | rfl | (simp; done) | (simp [*]; done)), H', ⟨by first | omega | exact Nat.le_refl _⟩, ⟨by (with_reducible repeat (first | apply Kd.V_alloc | apply Kd.V_drewN | apply Kd.V_drew)); exact Kd.V_mono (Kd.V_far (p := ⟨gb201, 4, none⟩) (Kd.V_far (p := ⟨gb201, 3, none⟩) (Kd.V_far (p := ⟨gb201, 2, none⟩) (Kd.V_far (p := ⟨gb201, 1, none⟩) (Kd.V_far (p := ⟨gb201, 0, none⟩) (Kd.V_mono HO200.out (fun k_ hk => (⟨hk, hk.2⟩ : _ ∧ k_ ≠ gb201))) (fun _ hk => hk.2) (.int .u8 t194)) (fun _ hk => hk.2) (.string t195)) (fun _ hk => hk.2) (.string t196)) (fun _ hk => hk.2) (.int .i64 t197)) (fun _ hk => hk.2) (.slice Ao14 t198.length co14)) (fun _ hk => ⟨hk.1.1.1, ⟨hk.1.1.2, hk.1.2⟩⟩)⟩, ⟨by (with_reducible repeat (first | refine bN ?_ _ | refine bD ?_ | refine bA ?_ _)); refine bR ?_ NB192_201.out _; (with_reducible repeat (first | refine bN ?_ _ | refine bD ?_ | refine bA ?_ _)); refine bR ?_ NB192_201.out _; (with_reducible repeat (first | refine bN ?_ _ | refine bD ?_ | refine bA ?_ _)); refine bR ?_ NB192_201.out _; (with_reducible repeat (first | refine bN ?_ _ | refine bD ?_ | refine bA ?_ _)); refine bR ?_ NB192_201.out _; (with_reducible repeat (first | refine bN ?_ _ | refine bD ?_ | refine bA ?_ _)); refine bR ?_ NB192_201.out _; (with_reducible repeat (first | refine bN ?_ _ | refine bD ?_ | refine bA ?_ _)); exact BK192.out⟩, ⟨by (with_reducible repeat (first | refine bN ?_ _ | refine bD ?_ | refine bA ?_ _)); refine bR ?_ NB193_201.out _; (with_reducible repeat (first | refine bN ?_ _ | refine bD ?_ | refine bA ?_ _)); refine bR ?_ NB193_201.out _; (with_reducible repeat (first | refine bN ?_ _ | refine bD ?_ | refine bA ?_ _)); refine bR ?_ NB193_201.out _; (with_reducible repeat (first | refine bN ?_ _ | refine bD ?_ | refine bA ?_ _)); refine bR ?_ NB193_201.out _; (with_reducible repeat (first | refine bN ?_ _ | refine bD ?_ | refine bA ?_ _)); refine bR ?_ NB193_201.out _; (with_reducible repeat (first | refine bN ?_ _ | refine bD ?_ | refine bA ?_ _)); exact BK193.out⟩, ⟨by (with_reducible repeat (first | refine bN ?_ _ | refine bD ?_ | refine bA ?_ _)); refine bP (cs := #[.int .u8 t194, .string t195, .string t196, .int .i64 t197, .slice none 0 0]) ?_ 4 _ rfl; (with_reducible repeat (first | refine bN ?_ _ | refine bD ?_ | refine bA ?_ _)); refine bP (cs := #[.int .u8 t194, .string t195, .string t196, .int .i64 0, .slice none 0 0]) ?_ 3 _ rfl; (with_reducible repeat (first | refine bN ?_ _ | refine bD ?_ | refine bA ?_ _)); refine bP (cs := #[.int .u8 t194, .string t195, .string (⟨#[]⟩ : BA), .int .i64 0, .slice none 0 0]) ?_ 2 _ rfl; (with_reducible repeat (first | refine bN ?_ _ | refine bD ?_ | refine bA ?_ _)); refine bP (cs := #[.int .u8 t194, .string (⟨#[]⟩ : BA), .string (⟨#[]⟩ : BA), .int .i64 0, .slice none 0 0]) ?_ 1 _ rfl; (with_reducible repeat (first | refine bN ?_ _ | refine bD ?_ | refine bA ?_ _)); refine bP (cs := #[.int .u8 0, .string (⟨#[]⟩ : BA), .string (⟨#[]⟩ : BA), .int .i64 0, .slice none 0 0]) ?_ 0 _ rfl; (with_reducible repeat (first | refine bN ?_ _ | refine bD ?_ | refine bA ?_ _)); exact BK201.out⟩, ⟨by repeat (first | (with_reducible first | exact HB.out | apply wA | apply wN | apply w1 | refine wS ?_ GE192.out | refine wS ?_ GE193.out | refine wS ?_ GE201.out) | exact HB.out)⟩⟩
  ·replace c16 := Bool.eq_false_iff.mpr c16
   subst c16
   have H1 : (room_Ask.j0 k true a0_0 a0_1 a0_2 a0_3 l0_4 a1_0 a1_1 a1_2 a1_3 a1_4 a1_5 a1_6 a1_7 a1_8) = some r := by rw [if_neg (show ¬ (false = true) by decide)] at H; exact H
   clear H
   have H := H1
   clear H1
   have H' := Aside0.mk H
   clear H
   have hnb40 := NB192_193.out
   have hnc40 := NB193_192.out
   have hnb41 := NB192_201.out
   have hnc41 := NB201_192.out
   have hcz42_0 := cz_ BK192.out 0
   have hcz42_1 := cz_ BK192.out 1
   have hcz42_2 := cz_ BK192.out 2
   have hcz42_3 := cz_ BK192.out 3
   have hcz42_4 := cz_ BK192.out 4
   have hfz42_0 := bF BK192.out 0
   have hfz42_1 := bF BK192.out 1
   have hfz42_2 := bF BK192.out 2
   have hfz42_3 := bF BK192.out 3
   have hfz42_4 := bF BK192.out 4
   go_wp2_with (first | ((with_reducible refine gate_callee (f := 84) rfl ?_); refine goesL_ (some 11) rfl rfl Try.func84 (by kernel_rfl) rfl #[.int .i64 (wrap64 (a0_0)), .int .i64 1, .int .i64 6] rfl mS_ ?_; (with_reducible refine (room_in.calls (wrap64 (a0_0)) 1 6 false _ A15.out).mono ?_); rintro e w' ⟨rfl, ⟨nd, rfl⟩⟩; refine ⟨_, rfl, ?_⟩))
   go_meet
   case rel => exact ⟨_, (true), (by first | rfl | (simp; done) | (simp [*]; done)), H', ⟨by first | omega | exact Nat.le_refl _⟩, ⟨by (with_reducible repeat (first | apply Kd.V_alloc | apply Kd.V_drewN | apply Kd.V_drew)); exact Kd.V_mono (Kd.V_far (p := ⟨gb201, 4, none⟩) (Kd.V_far (p := ⟨gb201, 3, none⟩) (Kd.V_far (p := ⟨gb201, 2, none⟩) (Kd.V_far (p := ⟨gb201, 1, none⟩) (Kd.V_far (p := ⟨gb201, 0, none⟩) (Kd.V_mono HO200.out (fun k_ hk => (⟨hk, hk.2⟩ : _ ∧ k_ ≠ gb201))) (fun _ hk => hk.2) (.int .u8 t194)) (fun _ hk => hk.2) (.string t195)) (fun _ hk => hk.2) (.string t196)) (fun _ hk => hk.2) (.int .i64 t197)) (fun _ hk => hk.2) (.slice Ao14 t198.length co14)) (fun _ hk => ⟨hk.1.1.1, ⟨hk.1.1.2, hk.1.2⟩⟩)⟩, ⟨by (with_reducible repeat (first | refine bN ?_ _ | refine bD ?_ | refine bA ?_ _)); refine bR ?_ NB192_201.out _; (with_reducible repeat (first | refine bN ?_ _ | refine bD ?_ | refine bA ?_ _)); refine bR ?_ NB192_201.out _; (with_reducible repeat (first | refine bN ?_ _ | refine bD ?_ | refine bA ?_ _)); refine bR ?_ NB192_201.out _; (with_reducible repeat (first | refine bN ?_ _ | refine bD ?_ | refine bA ?_ _)); refine bR ?_ NB192_201.out _; (with_reducible repeat (first | refine bN ?_ _ | refine bD ?_ | refine bA ?_ _)); refine bR ?_ NB192_201.out _; (with_reducible repeat (first | refine bN ?_ _ | refine bD ?_ | refine bA ?_ _)); exact BK192.out⟩, ⟨by (with_reducible repeat (first | refine bN ?_ _ | refine bD ?_ | refine bA ?_ _)); refine bR ?_ NB193_201.out _; (with_reducible repeat (first | refine bN ?_ _ | refine bD ?_ | refine bA ?_ _)); refine bR ?_ NB193_201.out _; (with_reducible repeat (first | refine bN ?_ _ | refine bD ?_ | refine bA ?_ _)); refine bR ?_ NB193_201.out _; (with_reducible repeat (first | refine bN ?_ _ | refine bD ?_ | refine bA ?_ _)); refine bR ?_ NB193_201.out _; (with_reducible repeat (first | refine bN ?_ _ | refine bD ?_ | refine bA ?_ _)); refine bR ?_ NB193_201.out _; (with_reducible repeat (first | refine bN ?_ _ | refine bD ?_ | refine bA ?_ _)); exact BK193.out⟩, ⟨by (with_reducible repeat (first | refine bN ?_ _ | refine bD ?_ | refine bA ?_ _)); refine bP (cs := #[.int .u8 t194, .string t195, .string t196, .int .i64 t197, .slice none 0 0]) ?_ 4 _ rfl; (with_reducible repeat (first | refine bN ?_ _ | refine bD ?_ | refine bA ?_ _)); refine bP (cs := #[.int .u8 t194, .string t195, .string t196, .int .i64 0, .slice none 0 0]) ?_ 3 _ rfl; (with_reducible repeat (first | refine bN ?_ _ | refine bD ?_ | refine bA ?_ _)); refine bP (cs := #[.int .u8 t194, .string t195, .string (⟨#[]⟩ : BA), .int .i64 0, .slice none 0 0]) ?_ 2 _ rfl; (with_reducible repeat (first | refine bN ?_ _ | refine bD ?_ | refine bA ?_ _)); refine bP (cs := #[.int .u8 t194, .string (⟨#[]⟩ : BA), .string (⟨#[]⟩ : BA), .int .i64 0, .slice none 0 0]) ?_ 1 _ rfl; (with_reducible repeat (first | refine bN ?_ _ | refine bD ?_ | refine bA ?_ _)); refine bP (cs := #[.int .u8 0, .string (⟨#[]⟩ : BA), .string (⟨#[]⟩ : BA), .int .i64 0, .slice none 0 0]) ?_ 0 _ rfl; (with_reducible repeat (first | refine bN ?_ _ | refine bD ?_ | refine bA ?_ _)); exact BK201.out⟩, ⟨by repeat (first | (with_reducible first | exact HB.out | apply wA | apply wN | apply w1 | refine wS ?_ GE192.out | refine wS ?_ GE193.out | refine wS ?_ GE201.out) | exact HB.out)⟩⟩
 case rest =>
  clear HC4
  try clear c1
  try clear c2
  try clear p2
  try clear c3
  try clear c4
  try clear c5
  try clear p6
  try clear c7
  try clear c8
  try clear c11
  try clear c12
  try clear c16
  try clear c17
  try clear c17b0
  try clear c17b1
  try clear c18
  try clear c18b0
  try clear c18b1
  try clear c19
  try clear c19b0
  try clear c19b1
  try clear c20
  try clear c21
  try clear c23
  try clear c25
  try clear c26
  try clear c28
  try clear c30
  try clear c31
  try clear c33
  try clear c35
  try clear c36
  try clear c38
  try clear c40
  try clear c41
  try clear hcz13_0
  try clear hcz13_1
  try clear hcz13_2
  try clear hcz13_3
  try clear hcz13_4
  try clear hcz22_0
  try clear hcz22_1
  try clear hcz22_2
  try clear hcz22_3
  try clear hcz22_4
  try clear hcz24_0
  try clear hcz24_1
  try clear hcz24_2
  try clear hcz24_3
  try clear hcz24_4
  try clear hcz27_0
  try clear hcz27_1
  try clear hcz27_2
  try clear hcz27_3
  try clear hcz27_4
  try clear hcz29_0
  try clear hcz29_1
  try clear hcz29_2
  try clear hcz29_3
  try clear hcz29_4
  try clear hcz32_0
  try clear hcz32_1
  try clear hcz32_2
  try clear hcz32_3
  try clear hcz32_4
  try clear hcz34_0
  try clear hcz34_1
  try clear hcz34_2
  try clear hcz34_3
  try clear hcz34_4
  try clear hcz37_0
  try clear hcz37_1
  try clear hcz37_2
  try clear hcz37_3
  try clear hcz37_4
  try clear hcz39_0
  try clear hcz39_1
  try clear hcz39_2
  try clear hcz39_3
  try clear hcz39_4
  try clear hcz42_0
  try clear hcz42_1
  try clear hcz42_2
  try clear hcz42_3
  try clear hcz42_4
  try clear hcz8_0
  try clear hcz8_1
  try clear hcz8_2
  try clear hcz8_3
  try clear hcz8_4
  try clear hfz13_0
  try clear hfz13_1
  try clear hfz13_2
  try clear hfz13_3
  try clear hfz13_4
  try clear hfz22_0
  try clear hfz22_1
  try clear hfz22_2
  try clear hfz22_3
  try clear hfz22_4
  try clear hfz24_0
  try clear hfz24_1
  try clear hfz24_2
  try clear hfz24_3
  try clear hfz24_4
  try clear hfz27_0
  try clear hfz27_1
  try clear hfz27_2
  try clear hfz27_3
  try clear hfz27_4
  try clear hfz29_0
  try clear hfz29_1
  try clear hfz29_2
  try clear hfz29_3
  try clear hfz29_4
  try clear hfz32_0
  try clear hfz32_1
  try clear hfz32_2
  try clear hfz32_3
  try clear hfz32_4
  try clear hfz34_0
  try clear hfz34_1
  try clear hfz34_2
  try clear hfz34_3
  try clear hfz34_4
  try clear hfz37_0
  try clear hfz37_1
  try clear hfz37_2
  try clear hfz37_3
  try clear hfz37_4
  try clear hfz39_0
  try clear hfz39_1
  try clear hfz39_2
  try clear hfz39_3
  try clear hfz39_4
  try clear hfz42_0
  try clear hfz42_1
  try clear hfz42_2
  try clear hfz42_3
  try clear hfz42_4
  try clear hfz8_0
  try clear hfz8_1
  try clear hfz8_2
  try clear hfz8_3
  try clear hfz8_4
  obtain ⟨kq, x33_3, rfl, HA, HJ3, HO_202004, BK192, BK193, BK201, HB⟩ := hcut
  cases kq with
  | zero => exact absurd HA.out (by simp [room_Ask.j0])
  | succ kj3 =>
   have H := HA.out
   clear HA
   simp only [room_Ask.j0] at H
   by_cases c43 : x33_3 = true
   ·subst c43
    have H1 : (some 3) = some r := by rw [if_pos rfl] at H; exact H
    clear H
    have H := H1
    clear H1
    obtain rfl := Option.some.inj H
    go_wp2
    go_ret
    exact ⟨by first | rfl | (simp [errW_none, errW_some] <;> rfl) | (simp [*, errW_none, errW_some] <;> rfl), by repeat (first | (with_reducible first | exact HB.out | apply wA | apply wN | apply w1 | refine wS ?_ GE192.out | refine wS ?_ GE193.out | refine wS ?_ GE201.out) | exact HB.out)⟩
   ·replace c43 := Bool.eq_false_iff.mpr c43
    subst c43
    have H1 : (if a0_0 = 1 then ((room_in.f (a0_1.size : Int) 1 a1_0).bind fun t203 => (if t203 = true then (some 0) else (some 6))) else (if a0_0 = 2 then ((room_batch.f kj3 l0_4 a1_0 a1_1 a1_2 a1_3 a1_4 a1_5 a1_6 a1_7 a1_8).bind fun t204 => (some t204)) else (if a0_0 = 3 then (room_Ask.j1 kj3 (a0_0 == 3) a0_0 a0_1 a0_2 a0_3 l0_4 a1_0 a1_1 a1_2 a1_3 a1_4 a1_5 a1_6 a1_7 a1_8) else (room_Ask.j1 kj3 (a0_0 == 4) a0_0 a0_1 a0_2 a0_3 l0_4 a1_0 a1_1 a1_2 a1_3 a1_4 a1_5 a1_6 a1_7 a1_8)))) = some r := by rw [if_neg (show ¬ (false = true) by decide)] at H; exact H
    clear H
    have H := H1
    clear H1
    by_cases c44 : a0_0 = 1
    ·rw [if_pos c44] at H
     have c44b0 : (a0_0 == 1) = true := beq_iff_eq.mpr c44
     have c44b1 : (a0_0 != 1) = false := bne_eq_false_iff_eq.mpr c44
     clear c44
     replace H := Option.bind_eq_some_iff.mp H
     obtain ⟨t203, A450, H⟩ := H
     replace H : (if t203 = true then (some 0) else (some 6)) = some r := H
     have A45 := Aside0.mk A450
     clear A450
     by_cases c46 : t203 = true
     ·subst c46
      have H1 : (some 0) = some r := by rw [if_pos rfl] at H; exact H
      clear H
      have H := H1
      clear H1
      obtain rfl := Option.some.inj H
      have hnb47 := NB192_193.out
      have hnc47 := NB193_192.out
      have hnb48 := NB192_201.out
      have hnc48 := NB201_192.out
      have hcz49_0 := cz_ BK192.out 0
      have hcz49_1 := cz_ BK192.out 1
      have hcz49_2 := cz_ BK192.out 2
      have hcz49_3 := cz_ BK192.out 3
      have hcz49_4 := cz_ BK192.out 4
      have hfz49_0 := bF BK192.out 0
      have hfz49_1 := bF BK192.out 1
      have hfz49_2 := bF BK192.out 2
      have hfz49_3 := bF BK192.out 3
      have hfz49_4 := bF BK192.out 4
      have hnb50 := NB193_201.out
      have hnc50 := NB201_193.out
      have hcz51_0 := cz_ BK193.out 0
      have hcz51_1 := cz_ BK193.out 1
      have hcz51_2 := cz_ BK193.out 2
      have hcz51_3 := cz_ BK193.out 3
      have hcz51_4 := cz_ BK193.out 4
      have hcz51_5 := cz_ BK193.out 5
      have hcz51_6 := cz_ BK193.out 6
      have hcz51_7 := cz_ BK193.out 7
      have hcz51_8 := cz_ BK193.out 8
      have hfz51_0 := bF BK193.out 0
      have hfz51_1 := bF BK193.out 1
      have hfz51_2 := bF BK193.out 2
      have hfz51_3 := bF BK193.out 3
      have hfz51_4 := bF BK193.out 4
      have hfz51_5 := bF BK193.out 5
      have hfz51_6 := bF BK193.out 6
      have hfz51_7 := bF BK193.out 7
      have hfz51_8 := bF BK193.out 8
      go_wp2_with (first | ((with_reducible refine gate_callee (f := 84) rfl ?_); refine goesL_ (some 43) rfl rfl Try.func84 (by kernel_rfl) rfl #[.int .i64 (a0_1.size : Int), .int .i64 1, .int .i64 a1_0] rfl mS_ ?_; (with_reducible refine (room_in.calls (a0_1.size : Int) 1 a1_0 true _ A45.out).mono ?_); rintro e w' ⟨rfl, ⟨nd, rfl⟩⟩; refine ⟨_, rfl, ?_⟩))
      go_ret
      exact ⟨by first | rfl | (simp [errW_none, errW_some] <;> rfl) | (simp [*, errW_none, errW_some] <;> rfl), by repeat (first | (with_reducible first | exact HB.out | apply wA | apply wN | apply w1 | refine wS ?_ GE192.out | refine wS ?_ GE193.out | refine wS ?_ GE201.out) | exact HB.out)⟩
     ·replace c46 := Bool.eq_false_iff.mpr c46
      subst c46
      have H1 : (some 6) = some r := by rw [if_neg (show ¬ (false = true) by decide)] at H; exact H
      clear H
      have H := H1
      clear H1
      obtain rfl := Option.some.inj H
      have hnb52 := NB192_193.out
      have hnc52 := NB193_192.out
      have hnb53 := NB192_201.out
      have hnc53 := NB201_192.out
      have hcz54_0 := cz_ BK192.out 0
      have hcz54_1 := cz_ BK192.out 1
      have hcz54_2 := cz_ BK192.out 2
      have hcz54_3 := cz_ BK192.out 3
      have hcz54_4 := cz_ BK192.out 4
      have hfz54_0 := bF BK192.out 0
      have hfz54_1 := bF BK192.out 1
      have hfz54_2 := bF BK192.out 2
      have hfz54_3 := bF BK192.out 3
      have hfz54_4 := bF BK192.out 4
      have hnb55 := NB193_201.out
      have hnc55 := NB201_193.out
      have hcz56_0 := cz_ BK193.out 0
      have hcz56_1 := cz_ BK193.out 1
      have hcz56_2 := cz_ BK193.out 2
      have hcz56_3 := cz_ BK193.out 3
      have hcz56_4 := cz_ BK193.out 4
      have hcz56_5 := cz_ BK193.out 5
      have hcz56_6 := cz_ BK193.out 6
      have hcz56_7 := cz_ BK193.out 7
      have hcz56_8 := cz_ BK193.out 8
      have hfz56_0 := bF BK193.out 0
      have hfz56_1 := bF BK193.out 1
      have hfz56_2 := bF BK193.out 2
      have hfz56_3 := bF BK193.out 3
      have hfz56_4 := bF BK193.out 4
      have hfz56_5 := bF BK193.out 5
      have hfz56_6 := bF BK193.out 6
      have hfz56_7 := bF BK193.out 7
      have hfz56_8 := bF BK193.out 8
      go_wp2_with (first | ((with_reducible refine gate_callee (f := 84) rfl ?_); refine goesL_ (some 43) rfl rfl Try.func84 (by kernel_rfl) rfl #[.int .i64 (a0_1.size : Int), .int .i64 1, .int .i64 a1_0] rfl mS_ ?_; (with_reducible refine (room_in.calls (a0_1.size : Int) 1 a1_0 false _ A45.out).mono ?_); rintro e w' ⟨rfl, ⟨nd, rfl⟩⟩; refine ⟨_, rfl, ?_⟩))
      go_ret
      exact ⟨by first | rfl | (simp [errW_none, errW_some] <;> rfl) | (simp [*, errW_none, errW_some] <;> rfl), by repeat (first | (with_reducible first | exact HB.out | apply wA | apply wN | apply w1 | refine wS ?_ GE192.out | refine wS ?_ GE193.out | refine wS ?_ GE201.out) | exact HB.out)⟩
    ·rw [if_neg c44] at H
     have c44b0 : (a0_0 == 1) = false := beq_eq_false_iff_ne.mpr c44
     have c44b1 : (a0_0 != 1) = true := bne_iff_ne.mpr c44
     by_cases c57 : a0_0 = 2
     ·rw [if_pos c57] at H
      have c57b0 : (a0_0 == 2) = true := beq_iff_eq.mpr c57
      have c57b1 : (a0_0 != 2) = false := bne_eq_false_iff_eq.mpr c57
      clear c57
      replace H := Option.bind_eq_some_iff.mp H
      obtain ⟨t204, A580, H⟩ := H
      replace H : (some t204) = some r := H
      have A58 := Aside0.mk A580
      clear A580
      obtain rfl := Option.some.inj H
      have hnb59 := NB192_193.out
      have hnc59 := NB193_192.out
      have hnb60 := NB192_201.out
      have hnc60 := NB201_192.out
      have hcz61_0 := cz_ BK192.out 0
      have hcz61_1 := cz_ BK192.out 1
      have hcz61_2 := cz_ BK192.out 2
      have hcz61_3 := cz_ BK192.out 3
      have hcz61_4 := cz_ BK192.out 4
      have hfz61_0 := bF BK192.out 0
      have hfz61_1 := bF BK192.out 1
      have hfz61_2 := bF BK192.out 2
      have hfz61_3 := bF BK192.out 3
      have hfz61_4 := bF BK192.out 4
      have hnb62 := NB193_201.out
      have hnc62 := NB201_193.out
      have hcz63_0 := cz_ BK193.out 0
      have hcz63_1 := cz_ BK193.out 1
      have hcz63_2 := cz_ BK193.out 2
      have hcz63_3 := cz_ BK193.out 3
      have hcz63_4 := cz_ BK193.out 4
      have hcz63_5 := cz_ BK193.out 5
      have hcz63_6 := cz_ BK193.out 6
      have hcz63_7 := cz_ BK193.out 7
      have hcz63_8 := cz_ BK193.out 8
      have hfz63_0 := bF BK193.out 0
      have hfz63_1 := bF BK193.out 1
      have hfz63_2 := bF BK193.out 2
      have hfz63_3 := bF BK193.out 3
      have hfz63_4 := bF BK193.out 4
      have hfz63_5 := bF BK193.out 5
      have hfz63_6 := bF BK193.out 6
      have hfz63_7 := bF BK193.out 7
      have hfz63_8 := bF BK193.out 8
      go_wp2_with (first | ((with_reducible refine gate_callee (f := 85) rfl ?_); refine goesL_ (some 50) rfl rfl Try.func85 (by kernel_rfl) rfl #[.slice A0_4 l0_4.length c0_4, .agg #[.int .i64 a1_0, .int .i64 a1_1, .int .i64 a1_2, .int .i64 a1_3, .int .i64 a1_4, .int .i64 a1_5, .int .i64 a1_6, .int .i64 a1_7, .int .i64 a1_8]] rfl mS_ ?_; (with_reducible refine (room_batch.calls kj3 _ _ l0_4 a1_0 a1_1 a1_2 a1_3 a1_4 a1_5 a1_6 a1_7 a1_8 t204 _ ?side1 ?side2 A58.out).mono ?_); (case side1 => repeat (first | exact (Kd.C_below HR0_4.out HB.out) | (with_reducible refine Kd.C_alloc ?_ _) | (with_reducible refine Kd.C_drewN ?_ _) | (with_reducible refine Kd.C_drew ?_))); (case side2 => exact HC0_4.out); rintro e w64 ⟨rfl, hb⟩; refine ⟨_, rfl, ?_⟩; have n0_ := Aside0.mk (Kd.V_below (kV_ HO_202004.out) hb); have n1_ := Aside0.mk (bB (bX_ BK192.out) hb); have n2_ := Aside0.mk (bB (bX_ BK193.out) hb); have n3_ := Aside0.mk (bB (bX_ BK201.out) hb); have n4_ := Aside0.mk (wT (bS3_ GE192.out GE193.out GE201.out) hb); clear HO_202004; clear BK192; clear BK193; clear BK201; clear HB; have HO_202004 := n0_; have BK192 := n1_; have BK193 := n2_; have BK201 := n3_; have HB := n4_; clear n0_ n1_ n2_ n3_ n4_; (try clear hb); (try clear hb2); (try clear hk); (try clear hi)))
      go_ret
      exact ⟨by first | rfl | (simp [errW_none, errW_some] <;> rfl) | (simp [*, errW_none, errW_some] <;> rfl), by repeat (first | (with_reducible first | exact HB.out | apply wA | apply wN | apply w1 | refine wS ?_ GE192.out | refine wS ?_ GE193.out | refine wS ?_ GE201.out) | exact HB.out)⟩
     ·rw [if_neg c57] at H
      have c57b0 : (a0_0 == 2) = false := beq_eq_false_iff_ne.mpr c57
      have c57b1 : (a0_0 != 2) = true := bne_iff_ne.mpr c57
      have HC65 := Aside0.mk H
      clear H
      have hnb66 := NB192_193.out
      have hnc66 := NB193_192.out
      have hnb67 := NB192_201.out
      have hnc67 := NB201_192.out
      have hcz68_0 := cz_ BK192.out 0
      have hcz68_1 := cz_ BK192.out 1
      have hcz68_2 := cz_ BK192.out 2
      have hcz68_3 := cz_ BK192.out 3
      have hcz68_4 := cz_ BK192.out 4
      have hfz68_0 := bF BK192.out 0
      have hfz68_1 := bF BK192.out 1
      have hfz68_2 := bF BK192.out 2
      have hfz68_3 := bF BK192.out 3
      have hfz68_4 := bF BK192.out 4
      go_upto_if 51 with (fail)
      go_cut [51] (fun v51 wc => ∃ (kq : Nat) (x51_64 : Bool), v51 = .bool x51_64 ∧ Aside0 (room_Ask.j1 kq x51_64 a0_0 a0_1 a0_2 a0_3 l0_4 a1_0 a1_1 a1_2 a1_3 a1_4 a1_5 a1_6 a1_7 a1_8 = some r) ∧ Aside0 (kq ≤ kj3) ∧ Aside0 (Kd.V k117 117 wc w.heap.size (fun k_ => k_ ≠ gb192 ∧ k_ ≠ gb193 ∧ k_ ≠ gb201) (.slice Ao14 t198.length co14) t198) ∧ Aside0 (wc.heap[gb192]? = some (.cells #[.int .u8 a0_0, .string a0_1, .string a0_2, .int .i64 a0_3, (.slice A0_4 l0_4.length c0_4)] 56 (0, 0))) ∧ Aside0 (wc.heap[gb193]? = some (.cells #[.int .i64 a1_0, .int .i64 a1_1, .int .i64 a1_2, .int .i64 a1_3, .int .i64 a1_4, .int .i64 a1_5, .int .i64 a1_6, .int .i64 a1_7, .int .i64 a1_8] 47 (0, 0))) ∧ Aside0 (wc.heap[gb201]? = some (.cells #[.int .u8 t194, .string t195, .string t196, .int .i64 t197, (.slice Ao14 t198.length co14)] 56 (0, 0))) ∧ Aside0 (Below w.heap.size w wc))
      case first =>
       have H := HC65.out
       clear HC65
       by_cases c69 : a0_0 = 3
       ·rw [if_pos c69] at H
        have c69b0 : (a0_0 == 3) = true := beq_iff_eq.mpr c69
        have c69b1 : (a0_0 != 3) = false := bne_eq_false_iff_eq.mpr c69
        clear c69
        (first | rw [c69b0] | (simp only [i64_w, i32_w]; rw [c69b0]) | skip)
        have H' := Aside0.mk H
        clear H
        go_wp2
        go_meet
        case rel => exact ⟨_, ((a0_0 == 3)), (by first | rfl | (simp; done) | (simp [*]; done)), H', ⟨by have := HJ3.out; first | omega | exact Nat.le_refl _⟩, ⟨by (with_reducible repeat (first | apply Kd.V_alloc | apply Kd.V_drewN | apply Kd.V_drew)); exact HO_202004.out⟩, ⟨by (with_reducible repeat (first | refine bN ?_ _ | refine bD ?_ | refine bA ?_ _)); exact BK192.out⟩, ⟨by (with_reducible repeat (first | refine bN ?_ _ | refine bD ?_ | refine bA ?_ _)); exact BK193.out⟩, ⟨by (with_reducible repeat (first | refine bN ?_ _ | refine bD ?_ | refine bA ?_ _)); exact BK201.out⟩, ⟨by repeat (first | (with_reducible first | exact HB.out | apply wA | apply wN | apply w1 | refine wS ?_ GE192.out | refine wS ?_ GE193.out | refine wS ?_ GE201.out) | exact HB.out)⟩⟩
       ·rw [if_neg c69] at H
        have c69b0 : (a0_0 == 3) = false := beq_eq_false_iff_ne.mpr c69
        have c69b1 : (a0_0 != 3) = true := bne_iff_ne.mpr c69
        (first | rw [c69b0] | (simp only [i64_w, i32_w]; rw [c69b0]) | skip)
        have H' := Aside0.mk H
        clear H
        go_wp2
        go_meet
        case rel => exact ⟨_, ((a0_0 == 4)), (by first | rfl | (simp; done) | (simp [*]; done)), H', ⟨by have := HJ3.out; first | omega | exact Nat.le_refl _⟩, ⟨by (with_reducible repeat (first | apply Kd.V_alloc | apply Kd.V_drewN | apply Kd.V_drew)); exact HO_202004.out⟩, ⟨by (with_reducible repeat (first | refine bN ?_ _ | refine bD ?_ | refine bA ?_ _)); exact BK192.out⟩, ⟨by (with_reducible repeat (first | refine bN ?_ _ | refine bD ?_ | refine bA ?_ _)); exact BK193.out⟩, ⟨by (with_reducible repeat (first | refine bN ?_ _ | refine bD ?_ | refine bA ?_ _)); exact BK201.out⟩, ⟨by repeat (first | (with_reducible first | exact HB.out | apply wA | apply wN | apply w1 | refine wS ?_ GE192.out | refine wS ?_ GE193.out | refine wS ?_ GE201.out) | exact HB.out)⟩⟩
      case rest =>
       clear HC65
       try clear c1
       try clear c2
       try clear p2
       try clear c3
       try clear c4
       try clear c5
       try clear c6
       try clear p6
       try clear c7
       try clear c8
       try clear c11
       try clear c12
       try clear c16
       try clear c17
       try clear c17b0
       try clear c17b1
       try clear c18
       try clear c18b0
       try clear c18b1
       try clear c19
       try clear c19b0
       try clear c19b1
       try clear c20
       try clear c21
       try clear c23
       try clear c25
       try clear c26
       try clear c28
       try clear c30
       try clear c31
       try clear c33
       try clear c35
       try clear c36
       try clear c38
       try clear c40
       try clear c41
       try clear c43
       try clear c44
       try clear c44b0
       try clear c44b1
       try clear c46
       try clear c47
       try clear c48
       try clear c50
       try clear c52
       try clear c53
       try clear c55
       try clear c57
       try clear c57b0
       try clear c57b1
       try clear c59
       try clear c60
       try clear c62
       try clear p64
       try clear c66
       try clear c67
       try clear c69
       try clear c69b0
       try clear c69b1
       try clear hcz13_0
       try clear hcz13_1
       try clear hcz13_2
       try clear hcz13_3
       try clear hcz13_4
       try clear hcz22_0
       try clear hcz22_1
       try clear hcz22_2
       try clear hcz22_3
       try clear hcz22_4
       try clear hcz24_0
       try clear hcz24_1
       try clear hcz24_2
       try clear hcz24_3
       try clear hcz24_4
       try clear hcz27_0
       try clear hcz27_1
       try clear hcz27_2
       try clear hcz27_3
       try clear hcz27_4
       try clear hcz29_0
       try clear hcz29_1
       try clear hcz29_2
       try clear hcz29_3
       try clear hcz29_4
       try clear hcz32_0
       try clear hcz32_1
       try clear hcz32_2
       try clear hcz32_3
       try clear hcz32_4
       try clear hcz34_0
       try clear hcz34_1
       try clear hcz34_2
       try clear hcz34_3
       try clear hcz34_4
       try clear hcz37_0
       try clear hcz37_1
       try clear hcz37_2
       try clear hcz37_3
       try clear hcz37_4
       try clear hcz39_0
       try clear hcz39_1
       try clear hcz39_2
       try clear hcz39_3
       try clear hcz39_4
       try clear hcz42_0
       try clear hcz42_1
       try clear hcz42_2
       try clear hcz42_3
       try clear hcz42_4
       try clear hcz49_0
       try clear hcz49_1
       try clear hcz49_2
       try clear hcz49_3
       try clear hcz49_4
       try clear hcz51_0
       try clear hcz51_1
       try clear hcz51_2
       try clear hcz51_3
       try clear hcz51_4
       try clear hcz51_5
       try clear hcz51_6
       try clear hcz51_7
       try clear hcz51_8
       try clear hcz54_0
       try clear hcz54_1
       try clear hcz54_2
       try clear hcz54_3
       try clear hcz54_4
       try clear hcz56_0
       try clear hcz56_1
       try clear hcz56_2
       try clear hcz56_3
       try clear hcz56_4
       try clear hcz56_5
       try clear hcz56_6
       try clear hcz56_7
       try clear hcz56_8
       try clear hcz61_0
       try clear hcz61_1
       try clear hcz61_2
       try clear hcz61_3
       try clear hcz61_4
       try clear hcz63_0
       try clear hcz63_1
       try clear hcz63_2
       try clear hcz63_3
       try clear hcz63_4
       try clear hcz63_5
       try clear hcz63_6
       try clear hcz63_7
       try clear hcz63_8
       try clear hcz68_0
       try clear hcz68_1
       try clear hcz68_2
       try clear hcz68_3
       try clear hcz68_4
       try clear hcz8_0
       try clear hcz8_1
       try clear hcz8_2
       try clear hcz8_3
       try clear hcz8_4
       try clear hfz13_0
       try clear hfz13_1
       try clear hfz13_2
       try clear hfz13_3
       try clear hfz13_4
       try clear hfz22_0
       try clear hfz22_1
       try clear hfz22_2
       try clear hfz22_3
       try clear hfz22_4
       try clear hfz24_0
       try clear hfz24_1
       try clear hfz24_2
       try clear hfz24_3
       try clear hfz24_4
       try clear hfz27_0
       try clear hfz27_1
       try clear hfz27_2
       try clear hfz27_3
       try clear hfz27_4
       try clear hfz29_0
       try clear hfz29_1
       try clear hfz29_2
       try clear hfz29_3
       try clear hfz29_4
       try clear hfz32_0
       try clear hfz32_1
       try clear hfz32_2
       try clear hfz32_3
       try clear hfz32_4
       try clear hfz34_0
       try clear hfz34_1
       try clear hfz34_2
       try clear hfz34_3
       try clear hfz34_4
       try clear hfz37_0
       try clear hfz37_1
       try clear hfz37_2
       try clear hfz37_3
       try clear hfz37_4
       try clear hfz39_0
       try clear hfz39_1
       try clear hfz39_2
       try clear hfz39_3
       try clear hfz39_4
       try clear hfz42_0
       try clear hfz42_1
       try clear hfz42_2
       try clear hfz42_3
       try clear hfz42_4
       try clear hfz49_0
       try clear hfz49_1
       try clear hfz49_2
       try clear hfz49_3
       try clear hfz49_4
       try clear hfz51_0
       try clear hfz51_1
       try clear hfz51_2
       try clear hfz51_3
       try clear hfz51_4
       try clear hfz51_5
       try clear hfz51_6
       try clear hfz51_7
       try clear hfz51_8
       try clear hfz54_0
       try clear hfz54_1
       try clear hfz54_2
       try clear hfz54_3
       try clear hfz54_4
       try clear hfz56_0
       try clear hfz56_1
       try clear hfz56_2
       try clear hfz56_3
       try clear hfz56_4
       try clear hfz56_5
       try clear hfz56_6
       try clear hfz56_7
       try clear hfz56_8
       try clear hfz61_0
       try clear hfz61_1
       try clear hfz61_2
       try clear hfz61_3
       try clear hfz61_4
       try clear hfz63_0
       try clear hfz63_1
       try clear hfz63_2
       try clear hfz63_3
       try clear hfz63_4
       try clear hfz63_5
       try clear hfz63_6
       try clear hfz63_7
       try clear hfz63_8
       try clear hfz68_0
       try clear hfz68_1
       try clear hfz68_2
       try clear hfz68_3
       try clear hfz68_4
       try clear hfz8_0
       try clear hfz8_1
       try clear hfz8_2
       try clear hfz8_3
       try clear hfz8_4
       try clear p2
       try clear p6
       obtain ⟨kq, x51_64, rfl, HA, HJ64, HO_202004, BK192, BK193, BK201, HB⟩ := hcut
       cases kq with
       | zero => exact absurd HA.out (by simp [room_Ask.j1])
       | succ kj64 =>
        have H := HA.out
        clear HA
        simp only [room_Ask.j1] at H
        by_cases c70 : x51_64 = true
        ·subst c70
         have H1 : (if (a0_1.size : Int) > a1_0 then (room_Ask.j2 kj64 true a0_0 a0_1 a0_2 a0_3 l0_4 a1_0 a1_1 a1_2 a1_3 a1_4 a1_5 a1_6 a1_7 a1_8) else (room_Ask.j2 kj64 (decide ((a0_2.size : Int) > a1_0)) a0_0 a0_1 a0_2 a0_3 l0_4 a1_0 a1_1 a1_2 a1_3 a1_4 a1_5 a1_6 a1_7 a1_8)) = some r := by rw [if_pos rfl] at H; exact H
         clear H
         have H := H1
         clear H1
         have HC71 := Aside0.mk H
         clear H
         go_upto_region 12 with (fail)
         go_cut [54] (fun v54 wc => ∃ (kq : Nat) (x54_70 : Bool), v54 = .bool x54_70 ∧ Aside0 (room_Ask.j2 kq x54_70 a0_0 a0_1 a0_2 a0_3 l0_4 a1_0 a1_1 a1_2 a1_3 a1_4 a1_5 a1_6 a1_7 a1_8 = some r) ∧ Aside0 (kq ≤ kj64) ∧ Aside0 (Kd.V k117 117 wc w.heap.size (fun k_ => k_ ≠ gb192 ∧ k_ ≠ gb193 ∧ k_ ≠ gb201) (.slice Ao14 t198.length co14) t198) ∧ Aside0 (wc.heap[gb192]? = some (.cells #[.int .u8 a0_0, .string a0_1, .string a0_2, .int .i64 a0_3, (.slice A0_4 l0_4.length c0_4)] 56 (0, 0))) ∧ Aside0 (wc.heap[gb193]? = some (.cells #[.int .i64 a1_0, .int .i64 a1_1, .int .i64 a1_2, .int .i64 a1_3, .int .i64 a1_4, .int .i64 a1_5, .int .i64 a1_6, .int .i64 a1_7, .int .i64 a1_8] 47 (0, 0))) ∧ Aside0 (wc.heap[gb201]? = some (.cells #[.int .u8 t194, .string t195, .string t196, .int .i64 t197, (.slice Ao14 t198.length co14)] 56 (0, 0))) ∧ Aside0 (Below w.heap.size w wc))
         case first =>
          have H := HC71.out
          clear HC71
          by_cases c72 : (a0_1.size : Int) > a1_0
          ·rw [if_pos c72] at H
           have c72b0 : decide (a1_0 < (a0_1.size : Int)) = true := decide_eq_true c72
           clear c72
           (first | rw [c72b0] | (simp only [i64_w, i32_w]; rw [c72b0]) | skip)
           have H' := Aside0.mk H
           clear H
           have hnb73 := NB192_193.out
           have hnc73 := NB193_192.out
           have hnb74 := NB192_201.out
           have hnc74 := NB201_192.out
           have hcz75_0 := cz_ BK192.out 0
           have hcz75_1 := cz_ BK192.out 1
           have hcz75_2 := cz_ BK192.out 2
           have hcz75_3 := cz_ BK192.out 3
           have hcz75_4 := cz_ BK192.out 4
           have hfz75_0 := bF BK192.out 0
           have hfz75_1 := bF BK192.out 1
           have hfz75_2 := bF BK192.out 2
           have hfz75_3 := bF BK192.out 3
           have hfz75_4 := bF BK192.out 4
           have hnb76 := NB193_201.out
           have hnc76 := NB201_193.out
           have hcz77_0 := cz_ BK193.out 0
           have hcz77_1 := cz_ BK193.out 1
           have hcz77_2 := cz_ BK193.out 2
           have hcz77_3 := cz_ BK193.out 3
           have hcz77_4 := cz_ BK193.out 4
           have hcz77_5 := cz_ BK193.out 5
           have hcz77_6 := cz_ BK193.out 6
           have hcz77_7 := cz_ BK193.out 7
           have hcz77_8 := cz_ BK193.out 8
           have hfz77_0 := bF BK193.out 0
           have hfz77_1 := bF BK193.out 1
           have hfz77_2 := bF BK193.out 2
           have hfz77_3 := bF BK193.out 3
           have hfz77_4 := bF BK193.out 4
           have hfz77_5 := bF BK193.out 5
           have hfz77_6 := bF BK193.out 6
           have hfz77_7 := bF BK193.out 7
           have hfz77_8 := bF BK193.out 8
           go_wp2
           go_meet
           case rel => exact ⟨_, (true), (by first | rfl | (simp; done) | (simp [*]; done)), H', ⟨by have := HJ3.out; have := HJ64.out; first | omega | exact Nat.le_refl _⟩, ⟨by (with_reducible repeat (first | apply Kd.V_alloc | apply Kd.V_drewN | apply Kd.V_drew)); exact HO_202004.out⟩, ⟨by (with_reducible repeat (first | refine bN ?_ _ | refine bD ?_ | refine bA ?_ _)); exact BK192.out⟩, ⟨by (with_reducible repeat (first | refine bN ?_ _ | refine bD ?_ | refine bA ?_ _)); exact BK193.out⟩, ⟨by (with_reducible repeat (first | refine bN ?_ _ | refine bD ?_ | refine bA ?_ _)); exact BK201.out⟩, ⟨by repeat (first | (with_reducible first | exact HB.out | apply wA | apply wN | apply w1 | refine wS ?_ GE192.out | refine wS ?_ GE193.out | refine wS ?_ GE201.out) | exact HB.out)⟩⟩
          ·rw [if_neg c72] at H
           have c72b0 : decide (a1_0 < (a0_1.size : Int)) = false := decide_eq_false c72
           clear c72
           (first | rw [c72b0] | (simp only [i64_w, i32_w]; rw [c72b0]) | skip)
           have H' := Aside0.mk H
           clear H
           have hnb78 := NB192_193.out
           have hnc78 := NB193_192.out
           have hnb79 := NB192_201.out
           have hnc79 := NB201_192.out
           have hcz80_0 := cz_ BK192.out 0
           have hcz80_1 := cz_ BK192.out 1
           have hcz80_2 := cz_ BK192.out 2
           have hcz80_3 := cz_ BK192.out 3
           have hcz80_4 := cz_ BK192.out 4
           have hfz80_0 := bF BK192.out 0
           have hfz80_1 := bF BK192.out 1
           have hfz80_2 := bF BK192.out 2
           have hfz80_3 := bF BK192.out 3
           have hfz80_4 := bF BK192.out 4
           have hnb81 := NB193_201.out
           have hnc81 := NB201_193.out
           have hcz82_0 := cz_ BK193.out 0
           have hcz82_1 := cz_ BK193.out 1
           have hcz82_2 := cz_ BK193.out 2
           have hcz82_3 := cz_ BK193.out 3
           have hcz82_4 := cz_ BK193.out 4
           have hcz82_5 := cz_ BK193.out 5
           have hcz82_6 := cz_ BK193.out 6
           have hcz82_7 := cz_ BK193.out 7
           have hcz82_8 := cz_ BK193.out 8
           have hfz82_0 := bF BK193.out 0
           have hfz82_1 := bF BK193.out 1
           have hfz82_2 := bF BK193.out 2
           have hfz82_3 := bF BK193.out 3
           have hfz82_4 := bF BK193.out 4
           have hfz82_5 := bF BK193.out 5
           have hfz82_6 := bF BK193.out 6
           have hfz82_7 := bF BK193.out 7
           have hfz82_8 := bF BK193.out 8
           go_wp2
           go_meet
           case rel => exact ⟨_, (decide ((a0_2.size : Int) > a1_0)), (by first | rfl | (simp; done) | (simp [*]; done)), H', ⟨by have := HJ3.out; have := HJ64.out; first | omega | exact Nat.le_refl _⟩, ⟨by (with_reducible repeat (first | apply Kd.V_alloc | apply Kd.V_drewN | apply Kd.V_drew)); exact HO_202004.out⟩, ⟨by (with_reducible repeat (first | refine bN ?_ _ | refine bD ?_ | refine bA ?_ _)); exact BK192.out⟩, ⟨by (with_reducible repeat (first | refine bN ?_ _ | refine bD ?_ | refine bA ?_ _)); exact BK193.out⟩, ⟨by (with_reducible repeat (first | refine bN ?_ _ | refine bD ?_ | refine bA ?_ _)); exact BK201.out⟩, ⟨by repeat (first | (with_reducible first | exact HB.out | apply wA | apply wN | apply w1 | refine wS ?_ GE192.out | refine wS ?_ GE193.out | refine wS ?_ GE201.out) | exact HB.out)⟩⟩
         case rest =>
          clear HC71
          try clear c1
          try clear c2
          try clear p2
          try clear c3
          try clear c4
          try clear c5
          try clear c6
          try clear p6
          try clear c7
          try clear c8
          try clear c11
          try clear c12
          try clear c16
          try clear c17
          try clear c17b0
          try clear c17b1
          try clear c18
          try clear c18b0
          try clear c18b1
          try clear c19
          try clear c19b0
          try clear c19b1
          try clear c20
          try clear c21
          try clear c23
          try clear c25
          try clear c26
          try clear c28
          try clear c30
          try clear c31
          try clear c33
          try clear c35
          try clear c36
          try clear c38
          try clear c40
          try clear c41
          try clear c43
          try clear c44
          try clear c44b0
          try clear c44b1
          try clear c46
          try clear c47
          try clear c48
          try clear c50
          try clear c52
          try clear c53
          try clear c55
          try clear c57
          try clear c57b0
          try clear c57b1
          try clear c59
          try clear c60
          try clear c62
          try clear p64
          try clear c66
          try clear c67
          try clear c69
          try clear c69b0
          try clear c69b1
          try clear c70
          try clear c72
          try clear c72b0
          try clear c73
          try clear c74
          try clear c76
          try clear c78
          try clear c79
          try clear c81
          try clear hcz13_0
          try clear hcz13_1
          try clear hcz13_2
          try clear hcz13_3
          try clear hcz13_4
          try clear hcz22_0
          try clear hcz22_1
          try clear hcz22_2
          try clear hcz22_3
          try clear hcz22_4
          try clear hcz24_0
          try clear hcz24_1
          try clear hcz24_2
          try clear hcz24_3
          try clear hcz24_4
          try clear hcz27_0
          try clear hcz27_1
          try clear hcz27_2
          try clear hcz27_3
          try clear hcz27_4
          try clear hcz29_0
          try clear hcz29_1
          try clear hcz29_2
          try clear hcz29_3
          try clear hcz29_4
          try clear hcz32_0
          try clear hcz32_1
          try clear hcz32_2
          try clear hcz32_3
          try clear hcz32_4
          try clear hcz34_0
          try clear hcz34_1
          try clear hcz34_2
          try clear hcz34_3
          try clear hcz34_4
          try clear hcz37_0
          try clear hcz37_1
          try clear hcz37_2
          try clear hcz37_3
          try clear hcz37_4
          try clear hcz39_0
          try clear hcz39_1
          try clear hcz39_2
          try clear hcz39_3
          try clear hcz39_4
          try clear hcz42_0
          try clear hcz42_1
          try clear hcz42_2
          try clear hcz42_3
          try clear hcz42_4
          try clear hcz49_0
          try clear hcz49_1
          try clear hcz49_2
          try clear hcz49_3
          try clear hcz49_4
          try clear hcz51_0
          try clear hcz51_1
          try clear hcz51_2
          try clear hcz51_3
          try clear hcz51_4
          try clear hcz51_5
          try clear hcz51_6
          try clear hcz51_7
          try clear hcz51_8
          try clear hcz54_0
          try clear hcz54_1
          try clear hcz54_2
          try clear hcz54_3
          try clear hcz54_4
          try clear hcz56_0
          try clear hcz56_1
          try clear hcz56_2
          try clear hcz56_3
          try clear hcz56_4
          try clear hcz56_5
          try clear hcz56_6
          try clear hcz56_7
          try clear hcz56_8
          try clear hcz61_0
          try clear hcz61_1
          try clear hcz61_2
          try clear hcz61_3
          try clear hcz61_4
          try clear hcz63_0
          try clear hcz63_1
          try clear hcz63_2
          try clear hcz63_3
          try clear hcz63_4
          try clear hcz63_5
          try clear hcz63_6
          try clear hcz63_7
          try clear hcz63_8
          try clear hcz68_0
          try clear hcz68_1
          try clear hcz68_2
          try clear hcz68_3
          try clear hcz68_4
          try clear hcz75_0
          try clear hcz75_1
          try clear hcz75_2
          try clear hcz75_3
          try clear hcz75_4
          try clear hcz77_0
          try clear hcz77_1
          try clear hcz77_2
          try clear hcz77_3
          try clear hcz77_4
          try clear hcz77_5
          try clear hcz77_6
          try clear hcz77_7
          try clear hcz77_8
          try clear hcz80_0
          try clear hcz80_1
          try clear hcz80_2
          try clear hcz80_3
          try clear hcz80_4
          try clear hcz82_0
          try clear hcz82_1
          try clear hcz82_2
          try clear hcz82_3
          try clear hcz82_4
          try clear hcz82_5
          try clear hcz82_6
          try clear hcz82_7
          try clear hcz82_8
          try clear hcz8_0
          try clear hcz8_1
          try clear hcz8_2
          try clear hcz8_3
          try clear hcz8_4
          try clear hfz13_0
          try clear hfz13_1
          try clear hfz13_2
          try clear hfz13_3
          try clear hfz13_4
          try clear hfz22_0
          try clear hfz22_1
          try clear hfz22_2
          try clear hfz22_3
          try clear hfz22_4
          try clear hfz24_0
          try clear hfz24_1
          try clear hfz24_2
          try clear hfz24_3
          try clear hfz24_4
          try clear hfz27_0
          try clear hfz27_1
          try clear hfz27_2
          try clear hfz27_3
          try clear hfz27_4
          try clear hfz29_0
          try clear hfz29_1
          try clear hfz29_2
          try clear hfz29_3
          try clear hfz29_4
          try clear hfz32_0
          try clear hfz32_1
          try clear hfz32_2
          try clear hfz32_3
          try clear hfz32_4
          try clear hfz34_0
          try clear hfz34_1
          try clear hfz34_2
          try clear hfz34_3
          try clear hfz34_4
          try clear hfz37_0
          try clear hfz37_1
          try clear hfz37_2
          try clear hfz37_3
          try clear hfz37_4
          try clear hfz39_0
          try clear hfz39_1
          try clear hfz39_2
          try clear hfz39_3
          try clear hfz39_4
          try clear hfz42_0
          try clear hfz42_1
          try clear hfz42_2
          try clear hfz42_3
          try clear hfz42_4
          try clear hfz49_0
          try clear hfz49_1
          try clear hfz49_2
          try clear hfz49_3
          try clear hfz49_4
          try clear hfz51_0
          try clear hfz51_1
          try clear hfz51_2
          try clear hfz51_3
          try clear hfz51_4
          try clear hfz51_5
          try clear hfz51_6
          try clear hfz51_7
          try clear hfz51_8
          try clear hfz54_0
          try clear hfz54_1
          try clear hfz54_2
          try clear hfz54_3
          try clear hfz54_4
          try clear hfz56_0
          try clear hfz56_1
          try clear hfz56_2
          try clear hfz56_3
          try clear hfz56_4
          try clear hfz56_5
          try clear hfz56_6
          try clear hfz56_7
          try clear hfz56_8
          try clear hfz61_0
          try clear hfz61_1
          try clear hfz61_2
          try clear hfz61_3
          try clear hfz61_4
          try clear hfz63_0
          try clear hfz63_1
          try clear hfz63_2
          try clear hfz63_3
          try clear hfz63_4
          try clear hfz63_5
          try clear hfz63_6
          try clear hfz63_7
          try clear hfz63_8
          try clear hfz68_0
          try clear hfz68_1
          try clear hfz68_2
          try clear hfz68_3
          try clear hfz68_4
          try clear hfz75_0
          try clear hfz75_1
          try clear hfz75_2
          try clear hfz75_3
          try clear hfz75_4
          try clear hfz77_0
          try clear hfz77_1
          try clear hfz77_2
          try clear hfz77_3
          try clear hfz77_4
          try clear hfz77_5
          try clear hfz77_6
          try clear hfz77_7
          try clear hfz77_8
          try clear hfz80_0
          try clear hfz80_1
          try clear hfz80_2
          try clear hfz80_3
          try clear hfz80_4
          try clear hfz82_0
          try clear hfz82_1
          try clear hfz82_2
          try clear hfz82_3
          try clear hfz82_4
          try clear hfz82_5
          try clear hfz82_6
          try clear hfz82_7
          try clear hfz82_8
          try clear hfz8_0
          try clear hfz8_1
          try clear hfz8_2
          try clear hfz8_3
          try clear hfz8_4
          try clear p2
          try clear p6
          try clear p64
          obtain ⟨kq, x54_70, rfl, HA, HJ70, HO_202004, BK192, BK193, BK201, HB⟩ := hcut
          cases kq with
          | zero => exact absurd HA.out (by simp [room_Ask.j2])
          | succ kj70 =>
           have H := HA.out
           clear HA
           simp only [room_Ask.j2] at H
           by_cases c83 : x54_70 = true
           ·subst c83
            have H1 : (some 6) = some r := by rw [if_pos rfl] at H; exact H
            clear H
            have H := H1
            clear H1
            obtain rfl := Option.some.inj H
            go_wp2
            go_ret
            exact ⟨by first | rfl | (simp [errW_none, errW_some] <;> rfl) | (simp [*, errW_none, errW_some] <;> rfl), by repeat (first | (with_reducible first | exact HB.out | apply wA | apply wN | apply w1 | refine wS ?_ GE192.out | refine wS ?_ GE193.out | refine wS ?_ GE201.out) | exact HB.out)⟩
           ·replace c83 := Bool.eq_false_iff.mpr c83
            subst c83
            have H1 : (if a0_2.toList = ([] : List UInt8) then (room_Ask.j3 kj70 false a0_0 a0_1 a0_2 a0_3 l0_4 a1_0 a1_1 a1_2 a1_3 a1_4 a1_5 a1_6 a1_7 a1_8) else (room_Ask.j3 kj70 (!(Op.bytesLess a0_1.toList a0_2.toList)) a0_0 a0_1 a0_2 a0_3 l0_4 a1_0 a1_1 a1_2 a1_3 a1_4 a1_5 a1_6 a1_7 a1_8)) = some r := by rw [if_neg (show ¬ (false = true) by decide)] at H; exact H
            clear H
            have H := H1
            clear H1
            have HC84 := Aside0.mk H
            clear H
            go_upto_region 14 with (fail)
            go_cut [69] (fun v69 wc => ∃ (kq : Nat) (x69_83 : Bool), v69 = .bool x69_83 ∧ Aside0 (room_Ask.j3 kq x69_83 a0_0 a0_1 a0_2 a0_3 l0_4 a1_0 a1_1 a1_2 a1_3 a1_4 a1_5 a1_6 a1_7 a1_8 = some r) ∧ Aside0 (kq ≤ kj70) ∧ Aside0 (Kd.V k117 117 wc w.heap.size (fun k_ => k_ ≠ gb192 ∧ k_ ≠ gb193 ∧ k_ ≠ gb201) (.slice Ao14 t198.length co14) t198) ∧ Aside0 (wc.heap[gb192]? = some (.cells #[.int .u8 a0_0, .string a0_1, .string a0_2, .int .i64 a0_3, (.slice A0_4 l0_4.length c0_4)] 56 (0, 0))) ∧ Aside0 (wc.heap[gb193]? = some (.cells #[.int .i64 a1_0, .int .i64 a1_1, .int .i64 a1_2, .int .i64 a1_3, .int .i64 a1_4, .int .i64 a1_5, .int .i64 a1_6, .int .i64 a1_7, .int .i64 a1_8] 47 (0, 0))) ∧ Aside0 (wc.heap[gb201]? = some (.cells #[.int .u8 t194, .string t195, .string t196, .int .i64 t197, (.slice Ao14 t198.length co14)] 56 (0, 0))) ∧ Aside0 (Below w.heap.size w wc))
            case first =>
             have H := HC84.out
             clear HC84
             by_cases c85 : a0_2.toList = ([] : List UInt8)
             ·rw [if_pos c85] at H
              have c85b0 : (a0_2.toList == ([] : List UInt8)) = true := beq_iff_eq.mpr c85
              have c85b1 : (a0_2.toList != ([] : List UInt8)) = false := bne_eq_false_iff_eq.mpr c85
              clear c85
              (first | rw [c85b0] | (simp only [i64_w, i32_w]; rw [c85b0]) | skip)
              have H' := Aside0.mk H
              clear H
              have hnb86 := NB192_193.out
              have hnc86 := NB193_192.out
              have hnb87 := NB192_201.out
              have hnc87 := NB201_192.out
              have hcz88_0 := cz_ BK192.out 0
              have hcz88_1 := cz_ BK192.out 1
              have hcz88_2 := cz_ BK192.out 2
              have hcz88_3 := cz_ BK192.out 3
              have hcz88_4 := cz_ BK192.out 4
              have hfz88_0 := bF BK192.out 0
              have hfz88_1 := bF BK192.out 1
              have hfz88_2 := bF BK192.out 2
              have hfz88_3 := bF BK192.out 3
              have hfz88_4 := bF BK192.out 4
              go_wp2
              go_meet
              case rel => exact ⟨_, (false), (by first | rfl | (simp; done) | (simp [*]; done)), H', ⟨by have := HJ3.out; have := HJ64.out; have := HJ70.out; first | omega | exact Nat.le_refl _⟩, ⟨by (with_reducible repeat (first | apply Kd.V_alloc | apply Kd.V_drewN | apply Kd.V_drew)); exact HO_202004.out⟩, ⟨by (with_reducible repeat (first | refine bN ?_ _ | refine bD ?_ | refine bA ?_ _)); exact BK192.out⟩, ⟨by (with_reducible repeat (first | refine bN ?_ _ | refine bD ?_ | refine bA ?_ _)); exact BK193.out⟩, ⟨by (with_reducible repeat (first | refine bN ?_ _ | refine bD ?_ | refine bA ?_ _)); exact BK201.out⟩, ⟨by repeat (first | (with_reducible first | exact HB.out | apply wA | apply wN | apply w1 | refine wS ?_ GE192.out | refine wS ?_ GE193.out | refine wS ?_ GE201.out) | exact HB.out)⟩⟩
             ·rw [if_neg c85] at H
              have c85b0 : (a0_2.toList == ([] : List UInt8)) = false := beq_eq_false_iff_ne.mpr c85
              have c85b1 : (a0_2.toList != ([] : List UInt8)) = true := bne_iff_ne.mpr c85
              (first | rw [c85b0] | (simp only [i64_w, i32_w]; rw [c85b0]) | skip)
              have H' := Aside0.mk H
              clear H
              have hnb89 := NB192_193.out
              have hnc89 := NB193_192.out
              have hnb90 := NB192_201.out
              have hnc90 := NB201_192.out
              have hcz91_0 := cz_ BK192.out 0
              have hcz91_1 := cz_ BK192.out 1
              have hcz91_2 := cz_ BK192.out 2
              have hcz91_3 := cz_ BK192.out 3
              have hcz91_4 := cz_ BK192.out 4
              have hfz91_0 := bF BK192.out 0
              have hfz91_1 := bF BK192.out 1
              have hfz91_2 := bF BK192.out 2
              have hfz91_3 := bF BK192.out 3
              have hfz91_4 := bF BK192.out 4
              go_wp2
              go_meet
              case rel => exact ⟨_, (!(Op.bytesLess a0_1.toList a0_2.toList)), (by first | rfl | (simp; done) | (simp [*]; done)), H', ⟨by have := HJ3.out; have := HJ64.out; have := HJ70.out; first | omega | exact Nat.le_refl _⟩, ⟨by (with_reducible repeat (first | apply Kd.V_alloc | apply Kd.V_drewN | apply Kd.V_drew)); exact HO_202004.out⟩, ⟨by (with_reducible repeat (first | refine bN ?_ _ | refine bD ?_ | refine bA ?_ _)); exact BK192.out⟩, ⟨by (with_reducible repeat (first | refine bN ?_ _ | refine bD ?_ | refine bA ?_ _)); exact BK193.out⟩, ⟨by (with_reducible repeat (first | refine bN ?_ _ | refine bD ?_ | refine bA ?_ _)); exact BK201.out⟩, ⟨by repeat (first | (with_reducible first | exact HB.out | apply wA | apply wN | apply w1 | refine wS ?_ GE192.out | refine wS ?_ GE193.out | refine wS ?_ GE201.out) | exact HB.out)⟩⟩
            case rest =>
             clear HC84
             try clear c1
             try clear c2
             try clear p2
             try clear c3
             try clear c4
             try clear c5
             try clear c6
             try clear p6
             try clear c7
             try clear c8
             try clear c9
             try clear c11
             try clear c12
             try clear c16
             try clear c17
             try clear c17b0
             try clear c17b1
             try clear c18
             try clear c18b0
             try clear c18b1
             try clear c19
             try clear c19b0
             try clear c19b1
             try clear c20
             try clear c21
             try clear c23
             try clear c25
             try clear c26
             try clear c28
             try clear c30
             try clear c31
             try clear c33
             try clear c35
             try clear c36
             try clear c38
             try clear c40
             try clear c41
             try clear c43
             try clear c44
             try clear c44b0
             try clear c44b1
             try clear c46
             try clear c47
             try clear c48
             try clear c50
             try clear c52
             try clear c53
             try clear c55
             try clear c57
             try clear c57b0
             try clear c57b1
             try clear c59
             try clear c60
             try clear c62
             try clear p64
             try clear c66
             try clear c67
             try clear c69
             try clear c69b0
             try clear c69b1
             try clear c70
             try clear c72
             try clear c72b0
             try clear c73
             try clear c74
             try clear c76
             try clear c78
             try clear c79
             try clear c81
             try clear c83
             try clear c85
             try clear c85b0
             try clear c85b1
             try clear c86
             try clear c87
             try clear c89
             try clear c90
             try clear hcz13_0
             try clear hcz13_1
             try clear hcz13_2
             try clear hcz13_3
             try clear hcz13_4
             try clear hcz22_0
             try clear hcz22_1
             try clear hcz22_2
             try clear hcz22_3
             try clear hcz22_4
             try clear hcz24_0
             try clear hcz24_1
             try clear hcz24_2
             try clear hcz24_3
             try clear hcz24_4
             try clear hcz27_0
             try clear hcz27_1
             try clear hcz27_2
             try clear hcz27_3
             try clear hcz27_4
             try clear hcz29_0
             try clear hcz29_1
             try clear hcz29_2
             try clear hcz29_3
             try clear hcz29_4
             try clear hcz32_0
             try clear hcz32_1
             try clear hcz32_2
             try clear hcz32_3
             try clear hcz32_4
             try clear hcz34_0
             try clear hcz34_1
             try clear hcz34_2
             try clear hcz34_3
             try clear hcz34_4
             try clear hcz37_0
             try clear hcz37_1
             try clear hcz37_2
             try clear hcz37_3
             try clear hcz37_4
             try clear hcz39_0
             try clear hcz39_1
             try clear hcz39_2
             try clear hcz39_3
             try clear hcz39_4
             try clear hcz42_0
             try clear hcz42_1
             try clear hcz42_2
             try clear hcz42_3
             try clear hcz42_4
             try clear hcz49_0
             try clear hcz49_1
             try clear hcz49_2
             try clear hcz49_3
             try clear hcz49_4
             try clear hcz51_0
             try clear hcz51_1
             try clear hcz51_2
             try clear hcz51_3
             try clear hcz51_4
             try clear hcz51_5
             try clear hcz51_6
             try clear hcz51_7
             try clear hcz51_8
             try clear hcz54_0
             try clear hcz54_1
             try clear hcz54_2
             try clear hcz54_3
             try clear hcz54_4
             try clear hcz56_0
             try clear hcz56_1
             try clear hcz56_2
             try clear hcz56_3
             try clear hcz56_4
             try clear hcz56_5
             try clear hcz56_6
             try clear hcz56_7
             try clear hcz56_8
             try clear hcz61_0
             try clear hcz61_1
             try clear hcz61_2
             try clear hcz61_3
             try clear hcz61_4
             try clear hcz63_0
             try clear hcz63_1
             try clear hcz63_2
             try clear hcz63_3
             try clear hcz63_4
             try clear hcz63_5
             try clear hcz63_6
             try clear hcz63_7
             try clear hcz63_8
             try clear hcz68_0
             try clear hcz68_1
             try clear hcz68_2
             try clear hcz68_3
             try clear hcz68_4
             try clear hcz75_0
             try clear hcz75_1
             try clear hcz75_2
             try clear hcz75_3
             try clear hcz75_4
             try clear hcz77_0
             try clear hcz77_1
             try clear hcz77_2
             try clear hcz77_3
             try clear hcz77_4
             try clear hcz77_5
             try clear hcz77_6
             try clear hcz77_7
             try clear hcz77_8
             try clear hcz80_0
             try clear hcz80_1
             try clear hcz80_2
             try clear hcz80_3
             try clear hcz80_4
             try clear hcz82_0
             try clear hcz82_1
             try clear hcz82_2
             try clear hcz82_3
             try clear hcz82_4
             try clear hcz82_5
             try clear hcz82_6
             try clear hcz82_7
             try clear hcz82_8
             try clear hcz88_0
             try clear hcz88_1
             try clear hcz88_2
             try clear hcz88_3
             try clear hcz88_4
             try clear hcz8_0
             try clear hcz8_1
             try clear hcz8_2
             try clear hcz8_3
             try clear hcz8_4
             try clear hcz91_0
             try clear hcz91_1
             try clear hcz91_2
             try clear hcz91_3
             try clear hcz91_4
             try clear hfz13_0
             try clear hfz13_1
             try clear hfz13_2
             try clear hfz13_3
             try clear hfz13_4
             try clear hfz22_0
             try clear hfz22_1
             try clear hfz22_2
             try clear hfz22_3
             try clear hfz22_4
             try clear hfz24_0
             try clear hfz24_1
             try clear hfz24_2
             try clear hfz24_3
             try clear hfz24_4
             try clear hfz27_0
             try clear hfz27_1
             try clear hfz27_2
             try clear hfz27_3
             try clear hfz27_4
             try clear hfz29_0
             try clear hfz29_1
             try clear hfz29_2
             try clear hfz29_3
             try clear hfz29_4
             try clear hfz32_0
             try clear hfz32_1
             try clear hfz32_2
             try clear hfz32_3
             try clear hfz32_4
             try clear hfz34_0
             try clear hfz34_1
             try clear hfz34_2
             try clear hfz34_3
             try clear hfz34_4
             try clear hfz37_0
             try clear hfz37_1
             try clear hfz37_2
             try clear hfz37_3
             try clear hfz37_4
             try clear hfz39_0
             try clear hfz39_1
             try clear hfz39_2
             try clear hfz39_3
             try clear hfz39_4
             try clear hfz42_0
             try clear hfz42_1
             try clear hfz42_2
             try clear hfz42_3
             try clear hfz42_4
             try clear hfz49_0
             try clear hfz49_1
             try clear hfz49_2
             try clear hfz49_3
             try clear hfz49_4
             try clear hfz51_0
             try clear hfz51_1
             try clear hfz51_2
             try clear hfz51_3
             try clear hfz51_4
             try clear hfz51_5
             try clear hfz51_6
             try clear hfz51_7
             try clear hfz51_8
             try clear hfz54_0
             try clear hfz54_1
             try clear hfz54_2
             try clear hfz54_3
             try clear hfz54_4
             try clear hfz56_0
             try clear hfz56_1
             try clear hfz56_2
             try clear hfz56_3
             try clear hfz56_4
             try clear hfz56_5
             try clear hfz56_6
             try clear hfz56_7
             try clear hfz56_8
             try clear hfz61_0
             try clear hfz61_1
             try clear hfz61_2
             try clear hfz61_3
             try clear hfz61_4
             try clear hfz63_0
             try clear hfz63_1
             try clear hfz63_2
             try clear hfz63_3
             try clear hfz63_4
             try clear hfz63_5
             try clear hfz63_6
             try clear hfz63_7
             try clear hfz63_8
             try clear hfz68_0
             try clear hfz68_1
             try clear hfz68_2
             try clear hfz68_3
             try clear hfz68_4
             try clear hfz75_0
             try clear hfz75_1
             try clear hfz75_2
             try clear hfz75_3
             try clear hfz75_4
             try clear hfz77_0
             try clear hfz77_1
             try clear hfz77_2
             try clear hfz77_3
             try clear hfz77_4
             try clear hfz77_5
             try clear hfz77_6
             try clear hfz77_7
             try clear hfz77_8
             try clear hfz80_0
             try clear hfz80_1
             try clear hfz80_2
             try clear hfz80_3
             try clear hfz80_4
             try clear hfz82_0
             try clear hfz82_1
             try clear hfz82_2
             try clear hfz82_3
             try clear hfz82_4
             try clear hfz82_5
             try clear hfz82_6
             try clear hfz82_7
             try clear hfz82_8
             try clear hfz88_0
             try clear hfz88_1
             try clear hfz88_2
             try clear hfz88_3
             try clear hfz88_4
             try clear hfz8_0
             try clear hfz8_1
             try clear hfz8_2
             try clear hfz8_3
             try clear hfz8_4
             try clear hfz91_0
             try clear hfz91_1
             try clear hfz91_2
             try clear hfz91_3
             try clear hfz91_4
             try clear p2
             try clear p6
             try clear p64
             obtain ⟨kq, x69_83, rfl, HA, HJ83, HO_202004, BK192, BK193, BK201, HB⟩ := hcut
             cases kq with
             | zero => exact absurd HA.out (by simp [room_Ask.j3])
             | succ kj83 =>
              have H := HA.out
              clear HA
              simp only [room_Ask.j3] at H
              by_cases c92 : x69_83 = true
              ·subst c92
               have H1 : (some 7) = some r := by rw [if_pos rfl] at H; exact H
               clear H
               have H := H1
               clear H1
               obtain rfl := Option.some.inj H
               go_wp2
               go_ret
               exact ⟨by first | rfl | (simp [errW_none, errW_some] <;> rfl) | (simp [*, errW_none, errW_some] <;> rfl), by repeat (first | (with_reducible first | exact HB.out | apply wA | apply wN | apply w1 | refine wS ?_ GE192.out | refine wS ?_ GE193.out | refine wS ?_ GE201.out) | exact HB.out)⟩
              ·replace c92 := Bool.eq_false_iff.mpr c92
               subst c92
               have H1 : (if a0_0 = 3 then ((room_in.f a0_3 1 a1_8).bind fun t205 => (if t205 = true then (some 0) else (some 4))) else (some 0)) = some r := by rw [if_neg (show ¬ (false = true) by decide)] at H; exact H
               clear H
               have H := H1
               clear H1
               by_cases c93 : a0_0 = 3
               ·rw [if_pos c93] at H
                have c93b0 : (a0_0 == 3) = true := beq_iff_eq.mpr c93
                have c93b1 : (a0_0 != 3) = false := bne_eq_false_iff_eq.mpr c93
                clear c93
                replace H := Option.bind_eq_some_iff.mp H
                obtain ⟨t205, A940, H⟩ := H
                replace H : (if t205 = true then (some 0) else (some 4)) = some r := H
                have A94 := Aside0.mk A940
                clear A940
                by_cases c95 : t205 = true
                ·subst c95
                 have H1 : (some 0) = some r := by rw [if_pos rfl] at H; exact H
                 clear H
                 have H := H1
                 clear H1
                 obtain rfl := Option.some.inj H
                 have hnb96 := NB192_193.out
                 have hnc96 := NB193_192.out
                 have hnb97 := NB192_201.out
                 have hnc97 := NB201_192.out
                 have hcz98_0 := cz_ BK192.out 0
                 have hcz98_1 := cz_ BK192.out 1
                 have hcz98_2 := cz_ BK192.out 2
                 have hcz98_3 := cz_ BK192.out 3
                 have hcz98_4 := cz_ BK192.out 4
                 have hfz98_0 := bF BK192.out 0
                 have hfz98_1 := bF BK192.out 1
                 have hfz98_2 := bF BK192.out 2
                 have hfz98_3 := bF BK192.out 3
                 have hfz98_4 := bF BK192.out 4
                 have hnb99 := NB193_201.out
                 have hnc99 := NB201_193.out
                 have hcz100_0 := cz_ BK193.out 0
                 have hcz100_1 := cz_ BK193.out 1
                 have hcz100_2 := cz_ BK193.out 2
                 have hcz100_3 := cz_ BK193.out 3
                 have hcz100_4 := cz_ BK193.out 4
                 have hcz100_5 := cz_ BK193.out 5
                 have hcz100_6 := cz_ BK193.out 6
                 have hcz100_7 := cz_ BK193.out 7
                 have hcz100_8 := cz_ BK193.out 8
                 have hfz100_0 := bF BK193.out 0
                 have hfz100_1 := bF BK193.out 1
                 have hfz100_2 := bF BK193.out 2
                 have hfz100_3 := bF BK193.out 3
                 have hfz100_4 := bF BK193.out 4
                 have hfz100_5 := bF BK193.out 5
                 have hfz100_6 := bF BK193.out 6
                 have hfz100_7 := bF BK193.out 7
                 have hfz100_8 := bF BK193.out 8
                 go_wp2_with (first | (go_at_call 84; (with_reducible refine (room_in.calls a0_3 1 a1_8 true _ A94.out).mono ?_); rintro e w' ⟨rfl, ⟨nd, rfl⟩⟩))
                 go_ret
                 exact ⟨by first | rfl | (simp [errW_none, errW_some] <;> rfl) | (simp [*, errW_none, errW_some] <;> rfl), by repeat (first | (with_reducible first | exact HB.out | apply wA | apply wN | apply w1 | refine wS ?_ GE192.out | refine wS ?_ GE193.out | refine wS ?_ GE201.out) | exact HB.out)⟩
                ·replace c95 := Bool.eq_false_iff.mpr c95
                 subst c95
                 have H1 : (some 4) = some r := by rw [if_neg (show ¬ (false = true) by decide)] at H; exact H
                 clear H
                 have H := H1
                 clear H1
                 obtain rfl := Option.some.inj H
                 have hnb101 := NB192_193.out
                 have hnc101 := NB193_192.out
                 have hnb102 := NB192_201.out
                 have hnc102 := NB201_192.out
                 have hcz103_0 := cz_ BK192.out 0
                 have hcz103_1 := cz_ BK192.out 1
                 have hcz103_2 := cz_ BK192.out 2
                 have hcz103_3 := cz_ BK192.out 3
                 have hcz103_4 := cz_ BK192.out 4
                 have hfz103_0 := bF BK192.out 0
                 have hfz103_1 := bF BK192.out 1
                 have hfz103_2 := bF BK192.out 2
                 have hfz103_3 := bF BK192.out 3
                 have hfz103_4 := bF BK192.out 4
                 have hnb104 := NB193_201.out
                 have hnc104 := NB201_193.out
                 have hcz105_0 := cz_ BK193.out 0
                 have hcz105_1 := cz_ BK193.out 1
                 have hcz105_2 := cz_ BK193.out 2
                 have hcz105_3 := cz_ BK193.out 3
                 have hcz105_4 := cz_ BK193.out 4
                 have hcz105_5 := cz_ BK193.out 5
                 have hcz105_6 := cz_ BK193.out 6
                 have hcz105_7 := cz_ BK193.out 7
                 have hcz105_8 := cz_ BK193.out 8
                 have hfz105_0 := bF BK193.out 0
                 have hfz105_1 := bF BK193.out 1
                 have hfz105_2 := bF BK193.out 2
                 have hfz105_3 := bF BK193.out 3
                 have hfz105_4 := bF BK193.out 4
                 have hfz105_5 := bF BK193.out 5
                 have hfz105_6 := bF BK193.out 6
                 have hfz105_7 := bF BK193.out 7
                 have hfz105_8 := bF BK193.out 8
                 go_wp2_with (first | (go_at_call 84; (with_reducible refine (room_in.calls a0_3 1 a1_8 false _ A94.out).mono ?_); rintro e w' ⟨rfl, ⟨nd, rfl⟩⟩))
                 go_ret
                 exact ⟨by first | rfl | (simp [errW_none, errW_some] <;> rfl) | (simp [*, errW_none, errW_some] <;> rfl), by repeat (first | (with_reducible first | exact HB.out | apply wA | apply wN | apply w1 | refine wS ?_ GE192.out | refine wS ?_ GE193.out | refine wS ?_ GE201.out) | exact HB.out)⟩
               ·rw [if_neg c93] at H
                have c93b0 : (a0_0 == 3) = false := beq_eq_false_iff_ne.mpr c93
                have c93b1 : (a0_0 != 3) = true := bne_iff_ne.mpr c93
                obtain rfl := Option.some.inj H
                have hnb106 := NB192_193.out
                have hnc106 := NB193_192.out
                have hnb107 := NB192_201.out
                have hnc107 := NB201_192.out
                have hcz108_0 := cz_ BK192.out 0
                have hcz108_1 := cz_ BK192.out 1
                have hcz108_2 := cz_ BK192.out 2
                have hcz108_3 := cz_ BK192.out 3
                have hcz108_4 := cz_ BK192.out 4
                have hfz108_0 := bF BK192.out 0
                have hfz108_1 := bF BK192.out 1
                have hfz108_2 := bF BK192.out 2
                have hfz108_3 := bF BK192.out 3
                have hfz108_4 := bF BK192.out 4
                go_wp2
                go_ret
                exact ⟨by first | rfl | (simp [errW_none, errW_some] <;> rfl) | (simp [*, errW_none, errW_some] <;> rfl), by repeat (first | (with_reducible first | exact HB.out | apply wA | apply wN | apply w1 | refine wS ?_ GE192.out | refine wS ?_ GE193.out | refine wS ?_ GE201.out) | exact HB.out)⟩
        ·replace c70 := Bool.eq_false_iff.mpr c70
         subst c70
         have H1 : (some 0) = some r := by rw [if_neg (show ¬ (false = true) by decide)] at H; exact H
         clear H
         have H := H1
         clear H1
         obtain rfl := Option.some.inj H
         go_wp2
         go_ret
         exact ⟨by first | rfl | (simp [errW_none, errW_some] <;> rfl) | (simp [*, errW_none, errW_some] <;> rfl), by repeat (first | (with_reducible first | exact HB.out | apply wA | apply wN | apply w1 | refine wS ?_ GE192.out | refine wS ?_ GE193.out | refine wS ?_ GE201.out) | exact HB.out)⟩
end Go.Proofs.Ytljnlnbopohghaa.P
end
