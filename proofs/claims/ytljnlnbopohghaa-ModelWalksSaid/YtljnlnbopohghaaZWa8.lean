/- Texts of one claim (laid by shake.py). -/
import Derived.Test.YtljnlnbopohghaaZWa4
import Derived.Test.YtljnlnbopohghaaZWa5
import Derived.Test.YtljnlnbopohghaaZWa7
set_option linter.unusedVariables false
set_option linter.unusedSimpArgs false
section
namespace Go.Proofs.Ytljnlnbopohghaa.P
open Go.RowKit Go.Proofs.YtljnlnbopohghaaW.PrintWords Go.Proofs.YtljnlnbopohghaaW.PrintLast Go.Proofs.YtljnlnbopohghaaW.PrintMore Go.Proofs.Ytljnlnbopohghaa.Own
open Go.Proofs.YtljnlnbopohghaaW.PrintWords renaming pw_below_drewN → wN, below_drew1 → w1, below_alloc → wA, below_step → wT, below_size → wZ, blk_cell → bC, blk_frozen → bF, blk_drewN → bN, blk_alloc → bA, blk_drew → bD, below_set → wS, blk_below → bB
open List renaming map_toArray → mA1, map_cons → mA2, map_nil → mA3, length_take → mA4, length_drop → mA5, setIfInBounds_toArray → sA1, set_cons_zero → sA2, set_cons_succ → sA3
attribute [local go_sem] max2_str max2_int min2_int max_two min_two max_three min_three max_four min_four   -- for this text's walks alone
open Bool renaming true → YY, false → ZZ
def catchmentref05_Into.l0 : Nat → List ByteArray → ByteArray → Int → Option (List ByteArray)
 | 0, _, _, _ => none
 | k + 1, x0, x1, x5 => if x5 < (x0.length : Int) then (if 0 ≤ x5 then (if (Op.bytesLess ((rdOf ByteArray.empty x0 x5).toList) x1.toList) = true then (catchmentref05_Into.l0 k x0 x1 (wrap64 (x5 + 1))) else (if (rdOf ByteArray.empty x0 x5).toList = x1.toList then (some x0) else ((some (([] : List ByteArray) : List ByteArray)).bind fun y256 => (if x5 ≤ (x0.length : Int) then ((some (x0.take (x5 : Int).toNat : List ByteArray)).bind fun y259 => (if y256.length + y259.length < 8796093022208 then ((some (y256 ++ y259 : List ByteArray)).bind fun y264 => (if y264.length < 8796093022208 then ((some (y264 ++ [x1] : List ByteArray)).bind fun y267 => ((some (x0.drop (x5 : Int).toNat : List ByteArray)).bind fun y270 => (if y267.length + y270.length < 8796093022208 then (some (y267 ++ y270)) else (none)))) else (none))) else (none))) else (none))))) else (none)) else ((some (([] : List ByteArray) : List ByteArray)).bind fun y278 => (if 0 ≤ x5 then (if x5 ≤ (x0.length : Int) then ((some (x0.take (x5 : Int).toNat : List ByteArray)).bind fun y281 => (if y278.length + y281.length < 8796093022208 then ((some (y278 ++ y281 : List ByteArray)).bind fun y286 => (if y286.length < 8796093022208 then ((some (y286 ++ [x1] : List ByteArray)).bind fun y289 => ((some (x0.drop (x5 : Int).toNat : List ByteArray)).bind fun y292 => (if y289.length + y292.length < 8796093022208 then (some (y289 ++ y292)) else (none)))) else (none))) else (none))) else (none)) else (none)))
def catchmentref05_Into.f (k : Nat) (l0 : List ByteArray) (a1 : BA) : Option (List ByteArray) := catchmentref05_Into.l0 k l0 a1 0
set_option maxHeartbeats 8000000 in
set_option maxRecDepth 100000 in
theorem catchmentref05_Into.calls (k : Nat) (P0_ : Nat → Prop) (A0 : Option Addr) (c0 : Nat) (l0 : List ByteArray) (a1 : BA) (r : List ByteArray) (w : World) (hs0 : Kd.V Kd.string 9 w w.heap.size (fun k_ => P0_ k_) (.slice A0 l0.length c0) l0) (h : catchmentref05_Into.f k l0 a1 = some r) :
  Calls Try.prog 95 #[.slice A0 l0.length c0, .string a1] w fun e w' => ∃ v0_ : Value, e = .returned (v0_) ∧ Kd.V Kd.string 9 w' w.heap.size (fun k_ => (P0_ k_ ∨ w.heap.size ≤ k_)) v0_ r ∧ Below w.heap.size w w' := by
 have HO0 := aK_ (show Kd.V Kd.string 9 w w.heap.size (fun k_ => (P0_ k_ ∨ w.heap.size ≤ k_)) (.slice A0 l0.length c0) l0 from Kd.V_mono hs0 (fun k_ hk => .inl hk))
 have HB := aK_ (Below.refl w.heap.size w)
 have H : (catchmentref05_Into.l0 k l0 a1 0) = some r := h
 clear h
 have H' := aK_ H; clear H
 go_enter Try.func95, Try.ntmps95
 go_wp2
 go_loopg [5] k (fun kq v5 w' => ∃ (x5_1 : Int), v5 = .int .i64 x5_1 ∧ Aside0 (catchmentref05_Into.l0 kq l0 a1 x5_1 = some r) ∧ Aside0 (kq ≤ k) ∧ Aside0 (Kd.V Kd.string 9 w' w.heap.size (fun k_ => (P0_ k_ ∨ w.heap.size ≤ k_)) (.slice A0 l0.length c0) l0) ∧ Aside0 (Below w.heap.size w w'))
 case atStart => exact ⟨(0), rZ_, H', ⟨Nat.le_refl _⟩, ⟨kV_ HO0.out⟩, ⟨bW_⟩⟩
 clear H'
 try clear p2
 obtain ⟨x5_1, rfl, HA, HK1, HO_0, HB⟩ := hrel
 cases gk with
 | zero => exact absurd HA.out (by simp [catchmentref05_Into.l0])
 | succ k1 => ?_
 have H := HA.out
 clear HA
 simp only [catchmentref05_Into.l0] at H
 by_cases c3 : x5_1 < (l0.length : Int)
 ·rw [if_pos c3] at H
  have c3b0 := decide_eq_true c3
  clear c3
  by_cases c4 : 0 ≤ x5_1
  ·rw [if_pos c4] at H
   have c4b0 := decide_eq_true c4
   clear c4
   by_cases c5 : (Op.bytesLess ((rdOf ByteArray.empty l0 x5_1).toList) a1.toList) = true
   ·rw [if_pos c5] at H
    have c5b0 : (Op.bytesLess ((rdOf ByteArray.empty l0 x5_1).toList) a1.toList) = true := c5
    clear c5
    have H' := aK_ H; clear H
    have p254 : 0 ≤ (x5_1 : Int) := pD_
    have q254 : x5_1 < (l0.length : Int) := pD_
    obtain ⟨ad254, e254, hx254_0⟩ := Kd.at_string (Kd.V_reads' HO_0.out).2.2 x5_1 p254 q254
    cases e254
    replace p254 := eq_true p254
    replace q254 := eq_true q254
    go_wp2
    go_roundg k1
    case measure => have := HK1.out; omega
    case rel => exact ⟨(wrap64 (x5_1 + 1)), rZ_, H', ⟨by have := HK1.out; omega⟩, ⟨kV_ HO_0.out⟩, ⟨bW_⟩⟩
   rw [if_neg c5] at H
   have c5b0 : (Op.bytesLess ((rdOf ByteArray.empty l0 x5_1).toList) a1.toList) = false := by simpa using c5
   clear c5
   by_cases c6 : (rdOf ByteArray.empty l0 x5_1).toList = a1.toList
   ·rw [if_pos c6] at H
    have c6b0 := beq_iff_eq.mpr c6
    have c6b1 := bne_eq_false_iff_eq.mpr c6
    clear c6
    obtain rfl := Option.some.inj H
    have p254 : 0 ≤ (x5_1 : Int) := pD_
    have q254 : x5_1 < (l0.length : Int) := pD_
    obtain ⟨ad254, e254, hx254_0⟩ := Kd.at_string (Kd.V_reads' HO_0.out).2.2 x5_1 p254 q254
    cases e254
    replace p254 := eq_true p254
    replace q254 := eq_true q254
    have p255 : 0 ≤ (x5_1 : Int) := pD_
    have q255 : x5_1 < (l0.length : Int) := pD_
    obtain ⟨ad255, e255, hx255_0⟩ := Kd.at_string (Kd.V_reads' HO_0.out).2.2 x5_1 p255 q255
    obtain rfl : ad254 = ad255 := (by injection e255)
    replace p255 := eq_true p255
    replace q255 := eq_true q255
    go_wp2
    go_ret
    exact ⟨_, by first | rfl | (simp [errW_none, errW_some] <;> rfl) | (simp [*, errW_none, errW_some] <;> rfl), by (with_reducible repeat (first | apply Kd.V_alloc | apply Kd.V_drewN | apply Kd.V_drew)); exact HO_0.out, bW_⟩
   rw [if_neg c6] at H
   have c6b0 := beq_eq_false_iff_ne.mpr c6
   have c6b1 := bne_iff_ne.mpr c6
   obtain ⟨y256, hy256⟩ : ∃ y_ : List ByteArray, y_ = (([] : List ByteArray)) := ⟨_, rfl⟩
   replace H : (if x5_1 ≤ (l0.length : Int) then ((some (l0.take (x5_1 : Int).toNat : List ByteArray)).bind fun y259 => (if y256.length + y259.length < 8796093022208 then ((some (y256 ++ y259 : List ByteArray)).bind fun y264 => (if y264.length < 8796093022208 then ((some (y264 ++ [a1] : List ByteArray)).bind fun y267 => ((some (l0.drop (x5_1 : Int).toNat : List ByteArray)).bind fun y270 => (if y267.length + y270.length < 8796093022208 then (some (y267 ++ y270)) else (none)))) else (none))) else (none))) else (none)) = some r := by first | (rw [hy256]; with_reducible exact H) | (have H2_ := (Option.bind_some _ _).symm.trans H; rw [hy256]; with_reducible exact H2_) | (have H2_ := (Option.bind_some _ _).symm.trans H; with_reducible exact H2_) | with_reducible exact H | (rw [hy256]; exact H) | exact H
   have Ny256 := aK_ hy256
   clear hy256
   have c7b0 := eq_true (pD_ : 0 ≤ x5_1)
   by_cases c8 : x5_1 ≤ (l0.length : Int)
   ·rw [if_pos c8] at H
    have c8b0 := eq_true c8
    have c8b1 := decide_eq_true c8
    clear c8
    obtain ⟨y259, hy259⟩ : ∃ y_ : List ByteArray, y_ = (l0.take (x5_1 : Int).toNat) := ⟨_, rfl⟩
    replace H : (if y256.length + y259.length < 8796093022208 then ((some (y256 ++ y259 : List ByteArray)).bind fun y264 => (if y264.length < 8796093022208 then ((some (y264 ++ [a1] : List ByteArray)).bind fun y267 => ((some (l0.drop (x5_1 : Int).toNat : List ByteArray)).bind fun y270 => (if y267.length + y270.length < 8796093022208 then (some (y267 ++ y270)) else (none)))) else (none))) else (none)) = some r := by first | (rw [hy259]; with_reducible exact H) | (have H2_ := (Option.bind_some _ _).symm.trans H; rw [hy259]; with_reducible exact H2_) | (have H2_ := (Option.bind_some _ _).symm.trans H; with_reducible exact H2_) | with_reducible exact H | (rw [hy259]; exact H) | exact H
    have Ny259 := aK_ hy259
    clear hy259
    by_cases c9 : y256.length + y259.length < 8796093022208
    ·rw [if_pos c9] at H
     have LMc9 := aK_ c9
     clear c9
     obtain ⟨y264, hy264⟩ : ∃ y_ : List ByteArray, y_ = (y256 ++ y259) := ⟨_, rfl⟩
     replace H : (if y264.length < 8796093022208 then ((some (y264 ++ [a1] : List ByteArray)).bind fun y267 => ((some (l0.drop (x5_1 : Int).toNat : List ByteArray)).bind fun y270 => (if y267.length + y270.length < 8796093022208 then (some (y267 ++ y270)) else (none)))) else (none)) = some r := by first | (rw [hy264]; with_reducible exact H) | (have H2_ := (Option.bind_some _ _).symm.trans H; rw [hy264]; with_reducible exact H2_) | (have H2_ := (Option.bind_some _ _).symm.trans H; with_reducible exact H2_) | with_reducible exact H | (rw [hy264]; exact H) | exact H
     have Ny264 := aK_ hy264
     clear hy264
     by_cases c10 : y264.length < 8796093022208
     ·rw [if_pos c10] at H
      have LMc10 := aK_ c10
      clear c10
      obtain ⟨y267, hy267⟩ : ∃ y_ : List ByteArray, y_ = (y264 ++ [a1]) := ⟨_, rfl⟩
      replace H : ((some (l0.drop (x5_1 : Int).toNat : List ByteArray)).bind fun y270 => (if y267.length + y270.length < 8796093022208 then (some (y267 ++ y270)) else (none))) = some r := by first | (rw [hy267]; with_reducible exact H) | (have H2_ := (Option.bind_some _ _).symm.trans H; rw [hy267]; with_reducible exact H2_) | (have H2_ := (Option.bind_some _ _).symm.trans H; with_reducible exact H2_) | with_reducible exact H | (rw [hy267]; exact H) | exact H
      have Ny267 := aK_ hy267
      clear hy267
      have c11b0 := eq_true (pD_ : 0 ≤ x5_1)
      have c12b0 := eq_true (pD_ : x5_1 ≤ (l0.length : Int))
      obtain ⟨y270, hy270⟩ : ∃ y_ : List ByteArray, y_ = (l0.drop (x5_1 : Int).toNat) := ⟨_, rfl⟩
      replace H : (if y267.length + y270.length < 8796093022208 then (some (y267 ++ y270)) else (none)) = some r := by first | (rw [hy270]; with_reducible exact H) | (have H2_ := (Option.bind_some _ _).symm.trans H; rw [hy270]; with_reducible exact H2_) | (have H2_ := (Option.bind_some _ _).symm.trans H; with_reducible exact H2_) | with_reducible exact H | (rw [hy270]; exact H) | exact H
      have Ny270 := aK_ hy270
      clear hy270
      by_cases c13 : y267.length + y270.length < 8796093022208
      ·rw [if_pos c13] at H
       have LMc13 := aK_ c13
       clear c13
       obtain ⟨y275, hy275⟩ : ∃ y_ : List ByteArray, y_ = (y267 ++ y270) := ⟨_, rfl⟩
       replace H : (some y275) = some r := by first | (rw [hy275]; with_reducible exact H) | (have H2_ := (Option.bind_some _ _).symm.trans H; rw [hy275]; with_reducible exact H2_) | (have H2_ := (Option.bind_some _ _).symm.trans H; with_reducible exact H2_) | with_reducible exact H | (rw [hy275]; exact H) | exact H
       have Ny275 := aK_ hy275
       clear hy275
       obtain rfl := Option.some.inj H
       have p254 : 0 ≤ (x5_1 : Int) := pD_
       have q254 : x5_1 < (l0.length : Int) := pD_
       obtain ⟨ad254, e254, hx254_0⟩ := Kd.at_string (Kd.V_reads' HO_0.out).2.2 x5_1 p254 q254
       cases e254
       replace p254 := eq_true p254
       replace q254 := eq_true q254
       have p255 : 0 ≤ (x5_1 : Int) := pD_
       have q255 : x5_1 < (l0.length : Int) := pD_
       obtain ⟨ad255, e255, hx255_0⟩ := Kd.at_string (Kd.V_reads' HO_0.out).2.2 x5_1 p255 q255
       obtain rfl : ad254 = ad255 := (by injection e255)
       replace p255 := eq_true p255
       replace q255 := eq_true q255
       go_wp2_with (first | ((with_reducible refine gate_dst (N := 34) rfl ?_); refine Kd.R_lit Kd.string _ 9 ?hg (N := 34) ?hd (xs := ([] : List ByteArray)) (inner := []) (ok := fun _ => True) (okp := fun _ => True) ?hr ?hp (fun _ hk => hk) trivial (Below.refl _ _) (Nat.le_refl _) (by simp) ?_; (case hd => rfl); (case hg => rfl); (case hr => first | (go_simp; done) | (go_simp; rfl)); (case hp => exact (Reps.none _ _)); intro v257 w14 ho15 hb hg_ hnew_; clear hg_ hnew_; (first | rw [← Ny256.out] at ho15 | (simp only [Int.reduceToNat] at ho15; rw [← Ny256.out] at ho15)); replace HO_0 := aK_ (Kd.V_elder' (kV_ HO_0.out) (Kd.R_base ho15) hb); have HO258 := aK_ (Kd.R_lower (Kd.R_newM (M := fun k_ => (w.heap.size ≤ k_)) ho15 (wZ bW_) (fun k_ h_ => h_)) (wZ bW_)); replace HB := aK_ (wT bW_ hb); clear hb ho15; have q16 : (x5_1 : Int) ≤ ((l0.length : Int) : Int) := pD_; obtain ⟨i016, hi016, _, hsz16, _⟩ := info_parts info9; have hroom16 : l0.length ≤ c0 := (Kd.V_reads' HO_0.out).2.1; have hC16 : Kd.F Kd.string _ _ (some ad254) l0.length l0 := (Kd.V_at (base := w.heap.size) HO_0.out).2.2; have hcut16 := cut_to (P := Try.prog) 129 9 .i64 Try.underlying129 hi016 (some ad254) l0.length c0 x5_1 (pD_) q16 hroom16; have hr16 := Kd.F_take (m := (x5_1 : Int).toNat) hC16 (by omega); have hy16 : y259.length = (x5_1 : Int).toNat := (by rw [Ny259.out, mA4]; omega); rw [← Ny259.out] at hr16; rw [← hy16] at hcut16; have HO263 := aK_ (show Kd.V Kd.string 9 _ w.heap.size _ (.slice (some ad254) y259.length c0) y259 from Kd.V_mk (by omega) hr16); have HC263 := aK_ (show y259.length ≤ c0 from by omega); clear hr16 hC16 hroom16 hi016 hsz16; have KY16 := aK_ hy16; clear hy16; replace q16 := eq_true q16) | ((with_reducible refine gate_builtin (b := .append) (xs := #[.tmp 34, .tmp 37]) rfl ?_); at_builtin; refine Kd.R_append_rows Kd.string (w0 := w) w.heap.size rfl (.tmp 34) (.tmp 37) 129 9 (.string ⟨#[]⟩) 16 rfl Try.underlying129 info9 rfl (by decide) (by omega) v257 y256 y259 _ _ _ (fun k_ => (w.heap.size ≤ k_)) (fun _ => False) rfl rfl ?aO ?aR (fun _ _ h => h) (fun _ h => h.elim) ?aF ?aB ?aS ?aL ?_; (case aR => repeat (first | exact (Kd.V_reads' HO263.out).2.2 | (with_reducible refine Kd.C_alloc ?_ _) | (with_reducible refine Kd.C_drewN ?_ _) | (with_reducible refine Kd.C_drew ?_))); (case aB => exact bW_); (case aF => exact (fun k_ hk => (Nat.le_trans (wZ bW_) hk))); (case aO => exact (by (with_reducible repeat (first | apply Kd.R_alloc | apply Kd.R_drewN | apply Kd.R_drew)); exact Kd.R_mono HO258.out (fun _ hk => hk.1))); (case aS => exact (wZ bW_)); (case aL => have := LMc9.out; omega); intro v265 w17 ho hb hg hat; rw [← Ny264.out] at ho; have n0_ := aK_ (Kd.V_afterv (ok := (fun k_ => (P0_ k_ ∨ w.heap.size ≤ k_))) (kV_ HO_0.out) hg hat); have n1_ := aK_ (Kd.V_afterv (ok := (fun k_ => (P0_ k_ ∨ w.heap.size ≤ k_))) (kV_ HO263.out) hg hat); have n2_ := aK_ (hb); have n3_ := aK_ (ho); clear HO_0; clear HO263; clear HB; clear HO258; have HO_0 := n0_; have HO263 := n1_; have HB := n2_; have HO266 := n3_; clear n0_ n1_ n2_ n3_; clear ho hb hg hat) | ((with_reducible refine gate_builtin (b := .append) (xs := #[.tmp 39, .tmp 41]) rfl ?_); at_builtin; refine Kd.R_append Kd.string (w0 := w) w.heap.size rfl (.tmp 39) (.tmp 41) 129 9 (.string ⟨#[]⟩) 16 rfl Try.underlying129 info9 rfl (by decide) (by omega) v265 y264 a1 [.string a1] (fun k_ => (w.heap.size ≤ k_)) (fun _ => False) rfl rfl ?aP (fun _ hk => hk.elim) ?aF ?aO ?aB ?aS ?aL ?_; (case aP => exact rfl); (case aB => exact bW_); (case aF => exact (fun k_ hk => (Nat.le_trans (wZ bW_) hk))); (case aO => exact (kR_ HO266.out)); (case aS => exact (wZ bW_)); (case aL => have := LMc10.out; omega); intro v268 w18 ho hb hg hat; rw [← Ny267.out] at ho; have n0_ := aK_ (Kd.V_afterv (ok := (fun k_ => (P0_ k_ ∨ w.heap.size ≤ k_))) (kV_ HO_0.out) hg hat); have n1_ := aK_ (Kd.V_afterv (ok := (fun k_ => (P0_ k_ ∨ w.heap.size ≤ k_))) (kV_ HO263.out) hg hat); have n2_ := aK_ (hb); have n3_ := aK_ (ho); clear HO_0; clear HO263; clear HB; clear HO266; have HO_0 := n0_; have HO263 := n1_; have HB := n2_; have HO269 := n3_; clear n0_ n1_ n2_ n3_; clear ho hb hg hat; have q19 : (x5_1 : Int) ≤ ((l0.length : Int) : Int) := pD_; obtain ⟨i019, hi019, _, hsz19, _⟩ := info_parts info9; have hroom19 : l0.length ≤ c0 := (Kd.V_reads' HO_0.out).2.1; have hC19 : Kd.F Kd.string _ _ (some ad254) l0.length l0 := (Kd.V_at (base := w.heap.size) HO_0.out).2.2; have q019 : (0 : Int) ≤ (x5_1 : Int) := pD_; have hcut19 := cut_from (P := Try.prog) 129 9 .i64 Try.underlying129 hi019 1 hsz19 (some ad254) l0.length c0 x5_1 q019 q19; have hr19 := Kd.F_cut (m := (x5_1 : Int).toNat) (c := c0) hC19 (by omega) hroom19; obtain ⟨A19, hA19⟩ : ∃ A1, A1 = (if c0 = (x5_1 : Int).toNat then (some ad254) else ((some ad254) : Option Addr).map (·.add ((x5_1 : Int).toNat * 1))) := ⟨_, rfl⟩; obtain ⟨c19, hc19⟩ : ∃ c1, c1 = c0 - (x5_1 : Int).toNat := ⟨_, rfl⟩; have hy19 : y270.length = l0.length - (x5_1 : Int).toNat := (by rw [Ny270.out, mA5] <;> omega); rw [show (l0).drop (x5_1 : Int).toNat = y270 from Ny270.out.symm] at hr19; replace hr19 : Kd.F Kd.string _ _ A19 y270.length y270 := (by rw [hA19]; exact hr19); rw [← hy19, ← hA19, ← hc19] at hcut19; have HO274 := aK_ (show Kd.V Kd.string 9 _ w.heap.size _ (.slice A19 y270.length c19) y270 from Kd.V_mk (by rw [hy19, hc19]; exact Nat.sub_le_sub_right hroom19 _) hr19); have HC274 := aK_ (show y270.length ≤ c19 from by rw [hy19, hc19]; exact Nat.sub_le_sub_right hroom19 _); clear hr19 hC19 hroom19 hi019 hsz19 hc19; have KY19 := aK_ hy19; have KA19 := aK_ hA19; clear hy19 hA19; replace q19 := eq_true q19) | ((with_reducible refine gate_builtin (b := .append) (xs := #[.tmp 43, .tmp 46]) rfl ?_); at_builtin; refine Kd.R_append_rows Kd.string (w0 := w) w.heap.size rfl (.tmp 43) (.tmp 46) 129 9 (.string ⟨#[]⟩) 16 rfl Try.underlying129 info9 rfl (by decide) (by omega) v268 y267 y270 _ _ _ (fun k_ => (w.heap.size ≤ k_)) (fun _ => False) rfl rfl ?aO ?aR (fun _ _ h => h) (fun _ h => h.elim) ?aF ?aB ?aS ?aL ?_; (case aR => repeat (first | exact (Kd.V_reads' HO274.out).2.2 | (with_reducible refine Kd.C_alloc ?_ _) | (with_reducible refine Kd.C_drewN ?_ _) | (with_reducible refine Kd.C_drew ?_))); (case aB => exact bW_); (case aF => exact (fun k_ hk => (Nat.le_trans (wZ bW_) hk))); (case aO => exact (kR_ HO269.out)); (case aS => exact (wZ bW_)); (case aL => have := LMc13.out; omega); intro v276 w20 ho hb hg hat; rw [← Ny275.out] at ho; have n0_ := aK_ (Kd.V_afterv (ok := (fun k_ => (P0_ k_ ∨ w.heap.size ≤ k_))) (kV_ HO_0.out) hg hat); have n1_ := aK_ (Kd.V_afterv (ok := (fun k_ => (P0_ k_ ∨ w.heap.size ≤ k_))) (kV_ HO263.out) hg hat); have n2_ := aK_ (Kd.V_afterv (ok := (fun k_ => (P0_ k_ ∨ w.heap.size ≤ k_))) (kV_ HO274.out) hg hat); have n3_ := aK_ (hb); have n4_ := aK_ (ho); clear HO_0; clear HO263; clear HO274; clear HB; clear HO269; have HO_0 := n0_; have HO263 := n1_; have HO274 := n2_; have HB := n3_; have HO277 := n4_; clear n0_ n1_ n2_ n3_ n4_; clear ho hb hg hat))
       go_ret
       exact ⟨_, by first | rfl | (simp [errW_none, errW_some] <;> rfl) | (simp [*, errW_none, errW_some] <;> rfl), Kd.V_mono (Kd.R_V (kR_ HO277.out)) (fun k_ hk => by first | exact ⟨(.inr (hk.1)), hk.2⟩ | exact (.inr (hk))), bW_⟩
      rw [if_neg c13] at H
      exact absurd H (by simp)
     rw [if_neg c10] at H
     exact absurd H (by simp)
    rw [if_neg c9] at H
    exact absurd H (by simp)
   rw [if_neg c8] at H
   exact absurd H (by simp)
  rw [if_neg c4] at H
  exact absurd H (by simp)
 rw [if_neg c3] at H
 have c3b0 := decide_eq_false c3
 clear c3
 obtain ⟨y278, hy278⟩ : ∃ y_ : List ByteArray, y_ = (([] : List ByteArray)) := ⟨_, rfl⟩
 replace H : (if 0 ≤ x5_1 then (if x5_1 ≤ (l0.length : Int) then ((some (l0.take (x5_1 : Int).toNat : List ByteArray)).bind fun y281 => (if y278.length + y281.length < 8796093022208 then ((some (y278 ++ y281 : List ByteArray)).bind fun y286 => (if y286.length < 8796093022208 then ((some (y286 ++ [a1] : List ByteArray)).bind fun y289 => ((some (l0.drop (x5_1 : Int).toNat : List ByteArray)).bind fun y292 => (if y289.length + y292.length < 8796093022208 then (some (y289 ++ y292)) else (none)))) else (none))) else (none))) else (none)) else (none)) = some r := by first | (rw [hy278]; with_reducible exact H) | (have H2_ := (Option.bind_some _ _).symm.trans H; rw [hy278]; with_reducible exact H2_) | (have H2_ := (Option.bind_some _ _).symm.trans H; with_reducible exact H2_) | with_reducible exact H | (rw [hy278]; exact H) | exact H
 have Ny278 := aK_ hy278
 clear hy278
 by_cases c21 : 0 ≤ x5_1
 ·rw [if_pos c21] at H
  have c21b0 := eq_true c21
  have c21b1 := decide_eq_true c21
  clear c21
  by_cases c22 : x5_1 ≤ (l0.length : Int)
  ·rw [if_pos c22] at H
   have c22b0 := eq_true c22
   have c22b1 := decide_eq_true c22
   clear c22
   obtain ⟨y281, hy281⟩ : ∃ y_ : List ByteArray, y_ = (l0.take (x5_1 : Int).toNat) := ⟨_, rfl⟩
   replace H : (if y278.length + y281.length < 8796093022208 then ((some (y278 ++ y281 : List ByteArray)).bind fun y286 => (if y286.length < 8796093022208 then ((some (y286 ++ [a1] : List ByteArray)).bind fun y289 => ((some (l0.drop (x5_1 : Int).toNat : List ByteArray)).bind fun y292 => (if y289.length + y292.length < 8796093022208 then (some (y289 ++ y292)) else (none)))) else (none))) else (none)) = some r := by first | (rw [hy281]; with_reducible exact H) | (have H2_ := (Option.bind_some _ _).symm.trans H; rw [hy281]; with_reducible exact H2_) | (have H2_ := (Option.bind_some _ _).symm.trans H; with_reducible exact H2_) | with_reducible exact H | (rw [hy281]; exact H) | exact H
   have Ny281 := aK_ hy281
   clear hy281
   by_cases c23 : y278.length + y281.length < 8796093022208
   ·rw [if_pos c23] at H
    have LMc23 := aK_ c23
    clear c23
    obtain ⟨y286, hy286⟩ : ∃ y_ : List ByteArray, y_ = (y278 ++ y281) := ⟨_, rfl⟩
    replace H : (if y286.length < 8796093022208 then ((some (y286 ++ [a1] : List ByteArray)).bind fun y289 => ((some (l0.drop (x5_1 : Int).toNat : List ByteArray)).bind fun y292 => (if y289.length + y292.length < 8796093022208 then (some (y289 ++ y292)) else (none)))) else (none)) = some r := by first | (rw [hy286]; with_reducible exact H) | (have H2_ := (Option.bind_some _ _).symm.trans H; rw [hy286]; with_reducible exact H2_) | (have H2_ := (Option.bind_some _ _).symm.trans H; with_reducible exact H2_) | with_reducible exact H | (rw [hy286]; exact H) | exact H
    have Ny286 := aK_ hy286
    clear hy286
    by_cases c24 : y286.length < 8796093022208
    ·rw [if_pos c24] at H
     have LMc24 := aK_ c24
     clear c24
     obtain ⟨y289, hy289⟩ : ∃ y_ : List ByteArray, y_ = (y286 ++ [a1]) := ⟨_, rfl⟩
     replace H : ((some (l0.drop (x5_1 : Int).toNat : List ByteArray)).bind fun y292 => (if y289.length + y292.length < 8796093022208 then (some (y289 ++ y292)) else (none))) = some r := by first | (rw [hy289]; with_reducible exact H) | (have H2_ := (Option.bind_some _ _).symm.trans H; rw [hy289]; with_reducible exact H2_) | (have H2_ := (Option.bind_some _ _).symm.trans H; with_reducible exact H2_) | with_reducible exact H | (rw [hy289]; exact H) | exact H
     have Ny289 := aK_ hy289
     clear hy289
     have c25b0 := eq_true (pD_ : 0 ≤ x5_1)
     have c26b0 := eq_true (pD_ : x5_1 ≤ (l0.length : Int))
     obtain ⟨y292, hy292⟩ : ∃ y_ : List ByteArray, y_ = (l0.drop (x5_1 : Int).toNat) := ⟨_, rfl⟩
     replace H : (if y289.length + y292.length < 8796093022208 then (some (y289 ++ y292)) else (none)) = some r := by first | (rw [hy292]; with_reducible exact H) | (have H2_ := (Option.bind_some _ _).symm.trans H; rw [hy292]; with_reducible exact H2_) | (have H2_ := (Option.bind_some _ _).symm.trans H; with_reducible exact H2_) | with_reducible exact H | (rw [hy292]; exact H) | exact H
     have Ny292 := aK_ hy292
     clear hy292
     by_cases c27 : y289.length + y292.length < 8796093022208
     ·rw [if_pos c27] at H
      have LMc27 := aK_ c27
      clear c27
      obtain ⟨y297, hy297⟩ : ∃ y_ : List ByteArray, y_ = (y289 ++ y292) := ⟨_, rfl⟩
      replace H : (some y297) = some r := by first | (rw [hy297]; with_reducible exact H) | (have H2_ := (Option.bind_some _ _).symm.trans H; rw [hy297]; with_reducible exact H2_) | (have H2_ := (Option.bind_some _ _).symm.trans H; with_reducible exact H2_) | with_reducible exact H | (rw [hy297]; exact H) | exact H
      have Ny297 := aK_ hy297
      clear hy297
      obtain rfl := Option.some.inj H
      go_wp2_with (first | ((with_reducible refine gate_dst (N := 34) rfl ?_); refine Kd.R_lit Kd.string _ 9 ?hg (N := 34) ?hd (xs := ([] : List ByteArray)) (inner := []) (ok := fun _ => True) (okp := fun _ => True) ?hr ?hp (fun _ hk => hk) trivial (Below.refl _ _) (Nat.le_refl _) (by simp) ?_; (case hd => rfl); (case hg => rfl); (case hr => first | (go_simp; done) | (go_simp; rfl)); (case hp => exact (Reps.none _ _)); intro v279 w28 ho29 hb hg_ hnew_; clear hg_ hnew_; (first | rw [← Ny278.out] at ho29 | (simp only [Int.reduceToNat] at ho29; rw [← Ny278.out] at ho29)); replace HO_0 := aK_ (Kd.V_elder' (kV_ HO_0.out) (Kd.R_base ho29) hb); have HO280 := aK_ (Kd.R_lower (Kd.R_newM (M := fun k_ => (w.heap.size ≤ k_)) ho29 (wZ bW_) (fun k_ h_ => h_)) (wZ bW_)); replace HB := aK_ (wT bW_ hb); clear hb ho29; have q30 : (x5_1 : Int) ≤ ((l0.length : Int) : Int) := pD_; obtain ⟨i030, hi030, _, hsz30, _⟩ := info_parts info9; have hroom30 : l0.length ≤ c0 := (Kd.V_reads' HO_0.out).2.1; have hC30 : Kd.F Kd.string _ _ A0 l0.length l0 := (Kd.V_at (base := w.heap.size) HO_0.out).2.2; have hcut30 := cut_to (P := Try.prog) 129 9 .i64 Try.underlying129 hi030 A0 l0.length c0 x5_1 (pD_) q30 hroom30; have hr30 := Kd.F_take (m := (x5_1 : Int).toNat) hC30 (by omega); have hy30 : y281.length = (x5_1 : Int).toNat := (by rw [Ny281.out, mA4]; omega); rw [← Ny281.out] at hr30; rw [← hy30] at hcut30; have HO285 := aK_ (show Kd.V Kd.string 9 _ w.heap.size _ (.slice A0 y281.length c0) y281 from Kd.V_mk (by omega) hr30); have HC285 := aK_ (show y281.length ≤ c0 from by omega); clear hr30 hC30 hroom30 hi030 hsz30; have KY30 := aK_ hy30; clear hy30; replace q30 := eq_true q30) | ((with_reducible refine gate_builtin (b := .append) (xs := #[.tmp 34, .tmp 37]) rfl ?_); at_builtin; refine Kd.R_append_rows Kd.string (w0 := w) w.heap.size rfl (.tmp 34) (.tmp 37) 129 9 (.string ⟨#[]⟩) 16 rfl Try.underlying129 info9 rfl (by decide) (by omega) v279 y278 y281 _ _ _ (fun k_ => (w.heap.size ≤ k_)) (fun _ => False) rfl rfl ?aO ?aR (fun _ _ h => h) (fun _ h => h.elim) ?aF ?aB ?aS ?aL ?_; (case aR => repeat (first | exact (Kd.V_reads' HO285.out).2.2 | (with_reducible refine Kd.C_alloc ?_ _) | (with_reducible refine Kd.C_drewN ?_ _) | (with_reducible refine Kd.C_drew ?_))); (case aB => exact bW_); (case aF => exact (fun k_ hk => (Nat.le_trans (wZ bW_) hk))); (case aO => exact (by (with_reducible repeat (first | apply Kd.R_alloc | apply Kd.R_drewN | apply Kd.R_drew)); exact Kd.R_mono HO280.out (fun _ hk => hk.1))); (case aS => exact (wZ bW_)); (case aL => have := LMc23.out; omega); intro v287 w31 ho hb hg hat; rw [← Ny286.out] at ho; have n0_ := aK_ (Kd.V_afterv (ok := (fun k_ => (P0_ k_ ∨ w.heap.size ≤ k_))) (kV_ HO_0.out) hg hat); have n1_ := aK_ (Kd.V_afterv (ok := (fun k_ => (P0_ k_ ∨ w.heap.size ≤ k_))) (kV_ HO285.out) hg hat); have n2_ := aK_ (hb); have n3_ := aK_ (ho); clear HO_0; clear HO285; clear HB; clear HO280; have HO_0 := n0_; have HO285 := n1_; have HB := n2_; have HO288 := n3_; clear n0_ n1_ n2_ n3_; clear ho hb hg hat) | ((with_reducible refine gate_builtin (b := .append) (xs := #[.tmp 39, .tmp 41]) rfl ?_); at_builtin; refine Kd.R_append Kd.string (w0 := w) w.heap.size rfl (.tmp 39) (.tmp 41) 129 9 (.string ⟨#[]⟩) 16 rfl Try.underlying129 info9 rfl (by decide) (by omega) v287 y286 a1 [.string a1] (fun k_ => (w.heap.size ≤ k_)) (fun _ => False) rfl rfl ?aP (fun _ hk => hk.elim) ?aF ?aO ?aB ?aS ?aL ?_; (case aP => exact rfl); (case aB => exact bW_); (case aF => exact (fun k_ hk => (Nat.le_trans (wZ bW_) hk))); (case aO => exact (kR_ HO288.out)); (case aS => exact (wZ bW_)); (case aL => have := LMc24.out; omega); intro v290 w32 ho hb hg hat; rw [← Ny289.out] at ho; have n0_ := aK_ (Kd.V_afterv (ok := (fun k_ => (P0_ k_ ∨ w.heap.size ≤ k_))) (kV_ HO_0.out) hg hat); have n1_ := aK_ (Kd.V_afterv (ok := (fun k_ => (P0_ k_ ∨ w.heap.size ≤ k_))) (kV_ HO285.out) hg hat); have n2_ := aK_ (hb); have n3_ := aK_ (ho); clear HO_0; clear HO285; clear HB; clear HO288; have HO_0 := n0_; have HO285 := n1_; have HB := n2_; have HO291 := n3_; clear n0_ n1_ n2_ n3_; clear ho hb hg hat; have q33 : (x5_1 : Int) ≤ ((l0.length : Int) : Int) := pD_; obtain ⟨i033, hi033, _, hsz33, _⟩ := info_parts info9; have hroom33 : l0.length ≤ c0 := (Kd.V_reads' HO_0.out).2.1; have hC33 : Kd.F Kd.string _ _ A0 l0.length l0 := (Kd.V_at (base := w.heap.size) HO_0.out).2.2; have q033 : (0 : Int) ≤ (x5_1 : Int) := pD_; have hcut33 := cut_from (P := Try.prog) 129 9 .i64 Try.underlying129 hi033 1 hsz33 A0 l0.length c0 x5_1 q033 q33; have hr33 := Kd.F_cut (m := (x5_1 : Int).toNat) (c := c0) hC33 (by omega) hroom33; obtain ⟨A33, hA33⟩ : ∃ A1, A1 = (if c0 = (x5_1 : Int).toNat then A0 else (A0 : Option Addr).map (·.add ((x5_1 : Int).toNat * 1))) := ⟨_, rfl⟩; obtain ⟨c33, hc33⟩ : ∃ c1, c1 = c0 - (x5_1 : Int).toNat := ⟨_, rfl⟩; have hy33 : y292.length = l0.length - (x5_1 : Int).toNat := (by rw [Ny292.out, mA5] <;> omega); rw [show (l0).drop (x5_1 : Int).toNat = y292 from Ny292.out.symm] at hr33; replace hr33 : Kd.F Kd.string _ _ A33 y292.length y292 := (by rw [hA33]; exact hr33); rw [← hy33, ← hA33, ← hc33] at hcut33; have HO296 := aK_ (show Kd.V Kd.string 9 _ w.heap.size _ (.slice A33 y292.length c33) y292 from Kd.V_mk (by rw [hy33, hc33]; exact Nat.sub_le_sub_right hroom33 _) hr33); have HC296 := aK_ (show y292.length ≤ c33 from by rw [hy33, hc33]; exact Nat.sub_le_sub_right hroom33 _); clear hr33 hC33 hroom33 hi033 hsz33 hc33; have KY33 := aK_ hy33; have KA33 := aK_ hA33; clear hy33 hA33; replace q33 := eq_true q33) | ((with_reducible refine gate_builtin (b := .append) (xs := #[.tmp 43, .tmp 46]) rfl ?_); at_builtin; refine Kd.R_append_rows Kd.string (w0 := w) w.heap.size rfl (.tmp 43) (.tmp 46) 129 9 (.string ⟨#[]⟩) 16 rfl Try.underlying129 info9 rfl (by decide) (by omega) v290 y289 y292 _ _ _ (fun k_ => (w.heap.size ≤ k_)) (fun _ => False) rfl rfl ?aO ?aR (fun _ _ h => h) (fun _ h => h.elim) ?aF ?aB ?aS ?aL ?_; (case aR => repeat (first | exact (Kd.V_reads' HO296.out).2.2 | (with_reducible refine Kd.C_alloc ?_ _) | (with_reducible refine Kd.C_drewN ?_ _) | (with_reducible refine Kd.C_drew ?_))); (case aB => exact bW_); (case aF => exact (fun k_ hk => (Nat.le_trans (wZ bW_) hk))); (case aO => exact (kR_ HO291.out)); (case aS => exact (wZ bW_)); (case aL => have := LMc27.out; omega); intro v298 w34 ho hb hg hat; rw [← Ny297.out] at ho; have n0_ := aK_ (Kd.V_afterv (ok := (fun k_ => (P0_ k_ ∨ w.heap.size ≤ k_))) (kV_ HO_0.out) hg hat); have n1_ := aK_ (Kd.V_afterv (ok := (fun k_ => (P0_ k_ ∨ w.heap.size ≤ k_))) (kV_ HO285.out) hg hat); have n2_ := aK_ (Kd.V_afterv (ok := (fun k_ => (P0_ k_ ∨ w.heap.size ≤ k_))) (kV_ HO296.out) hg hat); have n3_ := aK_ (hb); have n4_ := aK_ (ho); clear HO_0; clear HO285; clear HO296; clear HB; clear HO291; have HO_0 := n0_; have HO285 := n1_; have HO296 := n2_; have HB := n3_; have HO299 := n4_; clear n0_ n1_ n2_ n3_ n4_; clear ho hb hg hat))
      go_ret
      exact ⟨_, by first | rfl | (simp [errW_none, errW_some] <;> rfl) | (simp [*, errW_none, errW_some] <;> rfl), Kd.V_mono (Kd.R_V (kR_ HO299.out)) (fun k_ hk => by first | exact ⟨(.inr (hk.1)), hk.2⟩ | exact (.inr (hk))), bW_⟩
     rw [if_neg c27] at H
     exact absurd H (by simp)
    rw [if_neg c24] at H
    exact absurd H (by simp)
   rw [if_neg c23] at H
   exact absurd H (by simp)
  rw [if_neg c22] at H
  exact absurd H (by simp)
 rw [if_neg c21] at H
 exact absurd H (by simp)
def catchmentref05_Keys.l0 : Nat → List (S117) → List ByteArray → Int → Option (List ByteArray)
 | 0, _, _, _ => none
 | k + 1, x0, x3, x4 => if x4 < (x0.length : Int) then (if 0 ≤ x4 then ((catchmentref04_Point.f ((rd_T117 x0 x4).f0) ((rd_T117 x0 x4).f1) ((rd_T117 x0 x4).f2) ((rd_T117 x0 x4).f3) ((rd_T117 x0 x4).f4) ((rd_T117 x0 x4).f5)).bind fun t304 => (if t304 = true then ((catchmentref05_Into.f k x3 ((rd_T117 x0 x4).f2)).bind fun t306 => (catchmentref05_Keys.l0 k x0 t306 (wrap64 (x4 + 1)))) else (catchmentref05_Keys.l0 k x0 x3 (wrap64 (x4 + 1))))) else (none)) else (some x3)
def catchmentref05_Keys.f (k : Nat) (l0 : List (S117)) : Option (List ByteArray) := catchmentref05_Keys.l0 k l0 (([] : List ByteArray)) 0
set_option maxHeartbeats 8000000 in
set_option maxRecDepth 100000 in
theorem catchmentref05_Keys.calls (k : Nat) (A0 : Option Addr) (c0 : Nat) (l0 : List (S117)) (r : List ByteArray) (w : World) (hr0 : Kd.C k117 w A0 l0.length l0) (hc0 : l0.length ≤ c0) (h : catchmentref05_Keys.f k l0 = some r) :
  Calls Try.prog 94 #[.slice A0 l0.length c0] w fun e w' => ∃ v0_ : Value, e = .returned (v0_) ∧ Kd.V Kd.string 9 w' w.heap.size (fun k_ => (w.heap.size ≤ k_)) v0_ r ∧ Below w.heap.size w w' := by
 have hu117 := Try.underlying117
 have HR0 := aK_ hr0
 have HC0 := aK_ hc0
 clear hr0 hc0
 have HB := aK_ (Below.refl w.heap.size w)
 have H : (catchmentref05_Keys.l0 k l0 (([] : List ByteArray)) 0) = some r := h
 clear h
 obtain ⟨y300, hy300⟩ : ∃ y_ : List ByteArray, y_ = (([] : List ByteArray)) := ⟨_, rfl⟩
 replace H : (catchmentref05_Keys.l0 k l0 y300 0) = some r := by first | (rw [hy300]; with_reducible exact H) | (have H2_ := (Option.bind_some _ _).symm.trans H; rw [hy300]; with_reducible exact H2_) | (have H2_ := (Option.bind_some _ _).symm.trans H; with_reducible exact H2_) | with_reducible exact H | (rw [hy300]; exact H) | exact H
 have Ny300 := aK_ hy300
 clear hy300
 have H' := aK_ H; clear H
 go_enter Try.func94, Try.ntmps94
 go_wp2_with (first | ((with_reducible refine gate_dst (N := 5) rfl ?_); refine Kd.R_lit Kd.string _ 9 ?hg (N := 5) ?hd (xs := ([] : List ByteArray)) (inner := []) (ok := fun _ => True) (okp := fun _ => True) ?hr ?hp (fun _ hk => hk) trivial (Below.refl _ _) (Nat.le_refl _) (by simp) ?_; (case hd => rfl); (case hg => rfl); (case hr => first | (go_simp; done) | (go_simp; rfl)); (case hp => exact (Reps.none _ _)); intro v301 w2 ho3 hb hg_ hnew_; clear hg_ hnew_; (first | rw [← Ny300.out] at ho3 | (simp only [Int.reduceToNat] at ho3; rw [← Ny300.out] at ho3)); have HO302 := aK_ (Kd.R_lower (Kd.R_newM (M := fun k_ => (w.heap.size ≤ k_)) ho3 (wZ bW_) (fun k_ h_ => h_)) (wZ bW_)); replace HB := aK_ (wT bW_ hb); clear hb ho3))
 go_loopg [3, 4] k (fun kq v3 v4 w' => ∃ (x3_1 : List ByteArray) (x4_1 : Int), v4 = .int .i64 x4_1 ∧ Aside0 (catchmentref05_Keys.l0 kq l0 x3_1 x4_1 = some r) ∧ Aside0 (kq ≤ k) ∧ Aside0 (Kd.V Kd.string 9 w' w.heap.size (fun k_ => (w.heap.size ≤ k_)) v3 x3_1) ∧ Aside0 (Below w.heap.size w w'))
 case atStart => exact ⟨(y300), (0), rZ_, H', ⟨Nat.le_refl _⟩, ⟨Kd.R_V (by (with_reducible repeat (first | apply Kd.R_alloc | apply Kd.R_drewN | apply Kd.R_drew)); exact Kd.R_mono HO302.out (fun _ hk => hk.1))⟩, ⟨bW_⟩⟩
 clear H'
 try clear p2
 obtain ⟨x3_1, x4_1, rfl, HA, HK1, HO_3, HB⟩ := hrel
 cases gk with
 | zero => exact absurd HA.out (by simp [catchmentref05_Keys.l0])
 | succ k1 => ?_
 have H := HA.out
 clear HA
 simp only [catchmentref05_Keys.l0] at H
 by_cases c4 : x4_1 < (l0.length : Int)
 ·rw [if_pos c4] at H
  have c4b0 := decide_eq_true c4
  clear c4
  by_cases c5 : 0 ≤ x4_1
  ·rw [if_pos c5] at H
   have c5b0 := decide_eq_true c5
   clear c5
   replace H := Option.bind_eq_some_iff.mp H
   obtain ⟨t304, A60, H⟩ := H
   replace H : (if t304 = true then ((catchmentref05_Into.f k1 x3_1 ((rd_T117 l0 x4_1).f2)).bind fun t306 => (catchmentref05_Keys.l0 k1 l0 t306 (wrap64 (x4_1 + 1)))) else (catchmentref05_Keys.l0 k1 l0 x3_1 (wrap64 (x4_1 + 1)))) = some r := H
   have A6 := aK_ A60
   clear A60
   by_cases c7 : t304 = true
   ·subst c7
    have H1 : ((catchmentref05_Into.f k1 x3_1 ((rd_T117 l0 x4_1).f2)).bind fun t306 => (catchmentref05_Keys.l0 k1 l0 t306 (wrap64 (x4_1 + 1)))) = some r := by rw [if_pos rfl] at H; exact H
    clear H
    have H := H1
    clear H1
    replace H := Option.bind_eq_some_iff.mp H
    obtain ⟨t306, A80, H⟩ := H
    replace H : (catchmentref05_Keys.l0 k1 l0 t306 (wrap64 (x4_1 + 1))) = some r := H
    have A8 := aK_ A80
    clear A80
    have H' := aK_ H; clear H
    have p303 : 0 ≤ (x4_1 : Int) := pD_
    have q303 : x4_1 < (l0.length : Int) := pD_
    obtain ⟨ad303, e303, hx303_0, hx303_1, hx303_2, hx303_3, hx303_4, hx303_5⟩ := at_T117 HR0.out x4_1 p303 q303
    cases e303
    replace hx303_0 := cB_ hx303_0
    replace hx303_1 := cB_ hx303_1
    replace hx303_2 := cB_ hx303_2
    replace hx303_3 := cB_ hx303_3
    replace hx303_4 := cB_ hx303_4
    replace hx303_5 := cB_ hx303_5
    replace p303 := eq_true p303
    replace q303 := eq_true q303
    go_wp2_with (first | ((with_reducible refine gate_callee (f := 91) rfl ?_); refine goesL_ (some 16) rfl rfl Try.func91 (by kernel_rfl) rfl #[.agg #[.int .u8 ((rd_T117 l0 x4_1).f0), .int .i64 ((rd_T117 l0 x4_1).f1), .string ((rd_T117 l0 x4_1).f2), .string ((rd_T117 l0 x4_1).f3), .string ((rd_T117 l0 x4_1).f4), .int .u64 ((rd_T117 l0 x4_1).f5)]] rfl mS_ ?_; (with_reducible refine (catchmentref04_Point.calls ((rd_T117 l0 x4_1).f0) ((rd_T117 l0 x4_1).f1) ((rd_T117 l0 x4_1).f2) ((rd_T117 l0 x4_1).f3) ((rd_T117 l0 x4_1).f4) ((rd_T117 l0 x4_1).f5) true _ A6.out).mono ?_); rintro e w9 ⟨rfl, hb⟩; refine ⟨_, rfl, ?_⟩; replace HO_3 := aK_ (Kd.V_below (kV_ HO_3.out) hb); replace HB := aK_ (wT bW_ hb); (try clear hb); (try clear hb2); (try clear hk); (try clear hi); have p305 : 0 ≤ (x4_1 : Int) := pD_; have q305 : x4_1 < (l0.length : Int) := pD_; obtain ⟨ad305, e305, hx305_0, hx305_1, hx305_2, hx305_3, hx305_4, hx305_5⟩ := at_T117 HR0.out x4_1 p305 q305; obtain rfl : ad303 = ad305 := (by injection e305); replace hx305_0 := cB_ hx305_0; replace hx305_1 := cB_ hx305_1; replace hx305_2 := cB_ hx305_2; replace hx305_3 := cB_ hx305_3; replace hx305_4 := cB_ hx305_4; replace hx305_5 := cB_ hx305_5; replace p305 := eq_true p305; replace q305 := eq_true q305; obtain ⟨Ao10, co10, eo10⟩ := Kd.V_slice HO_3.out; subst eo10) | ((with_reducible refine gate_callee (f := 95) rfl ?_); refine goesL_ (some 23) rfl rfl Try.func95 (by kernel_rfl) rfl #[.slice Ao10 x3_1.length co10, .string ((rd_T117 l0 x4_1).f2)] rfl mS_ ?_; (with_reducible refine (catchmentref05_Into.calls k1 (fun k_ => (w.heap.size ≤ k_)) _ _ x3_1 ((rd_T117 l0 x4_1).f2) t306 _ ?side1 A8.out).mono ?_); (case side1 => exact HO_3.out); rintro e w11 ⟨v307, rfl, ho0, hb⟩; refine ⟨_, rfl, ?_⟩; replace HO_3 := aK_ (Kd.V_below (kV_ HO_3.out) hb); have HO308 := aK_ (Kd.V_lower (Kd.V_mono (ok' := fun k_ => (w.heap.size ≤ k_)) ho0 (fun k_ hk_ => Or.elim hk_ (fun hs_ => hs_) (fun hn_ => (Nat.le_trans (wZ bW_) hn_)))) (wZ bW_)); replace HB := aK_ (wT bW_ hb); (try clear hb); (try clear hb2); (try clear hk); (try clear hi); (try clear ho0)))
    go_roundg k1
    case measure => have := HK1.out; omega
    case rel => exact ⟨(t306), (wrap64 (x4_1 + 1)), rZ_, H', ⟨by have := HK1.out; omega⟩, ⟨kV_ HO308.out⟩, ⟨bW_⟩⟩
   replace c7 := Bool.eq_false_iff.mpr c7
   subst c7
   have H1 : (catchmentref05_Keys.l0 k1 l0 x3_1 (wrap64 (x4_1 + 1))) = some r := by rw [if_neg (show ¬ (false = true) by decide)] at H; exact H
   clear H
   have H := H1
   clear H1
   have H' := aK_ H; clear H
   have p303 : 0 ≤ (x4_1 : Int) := pD_
   have q303 : x4_1 < (l0.length : Int) := pD_
   obtain ⟨ad303, e303, hx303_0, hx303_1, hx303_2, hx303_3, hx303_4, hx303_5⟩ := at_T117 HR0.out x4_1 p303 q303
   cases e303
   replace hx303_0 := cB_ hx303_0
   replace hx303_1 := cB_ hx303_1
   replace hx303_2 := cB_ hx303_2
   replace hx303_3 := cB_ hx303_3
   replace hx303_4 := cB_ hx303_4
   replace hx303_5 := cB_ hx303_5
   replace p303 := eq_true p303
   replace q303 := eq_true q303
   go_wp2_with (first | ((with_reducible refine gate_callee (f := 91) rfl ?_); refine goesL_ (some 16) rfl rfl Try.func91 (by kernel_rfl) rfl #[.agg #[.int .u8 ((rd_T117 l0 x4_1).f0), .int .i64 ((rd_T117 l0 x4_1).f1), .string ((rd_T117 l0 x4_1).f2), .string ((rd_T117 l0 x4_1).f3), .string ((rd_T117 l0 x4_1).f4), .int .u64 ((rd_T117 l0 x4_1).f5)]] rfl mS_ ?_; (with_reducible refine (catchmentref04_Point.calls ((rd_T117 l0 x4_1).f0) ((rd_T117 l0 x4_1).f1) ((rd_T117 l0 x4_1).f2) ((rd_T117 l0 x4_1).f3) ((rd_T117 l0 x4_1).f4) ((rd_T117 l0 x4_1).f5) false _ A6.out).mono ?_); rintro e w12 ⟨rfl, hb⟩; refine ⟨_, rfl, ?_⟩; replace HO_3 := aK_ (Kd.V_below (kV_ HO_3.out) hb); replace HB := aK_ (wT bW_ hb); (try clear hb); (try clear hb2); (try clear hk); (try clear hi)))
   go_roundg k1
   case measure => have := HK1.out; omega
   case rel => exact ⟨(x3_1), (wrap64 (x4_1 + 1)), rZ_, H', ⟨by have := HK1.out; omega⟩, ⟨kV_ HO_3.out⟩, ⟨bW_⟩⟩
  rw [if_neg c5] at H
  exact absurd H (by simp)
 rw [if_neg c4] at H
 have c4b0 := decide_eq_false c4
 clear c4
 obtain rfl := Option.some.inj H
 go_wp2
 go_ret
 exact ⟨_, by first | rfl | (simp [errW_none, errW_some] <;> rfl) | (simp [*, errW_none, errW_some] <;> rfl), by (with_reducible repeat (first | apply Kd.V_alloc | apply Kd.V_drewN | apply Kd.V_drew)); exact HO_3.out, bW_⟩
def catchmentref05_Named.l0 : Nat → List (S103) → List ByteArray → Int → Option (List ByteArray)
 | 0, _, _, _ => none
 | k + 1, x1, x5, x6 => if x6 < (x1.length : Int) then (if 0 ≤ x6 then ((catchmentref05_Into.f k x5 ((rd_T103 x1 x6).f0)).bind fun t313 => (catchmentref05_Named.l0 k x1 t313 (wrap64 (x6 + 1)))) else (none)) else (some x5)
def catchmentref05_Named.f (k : Nat) (l0 : List (S117)) (l1 : List (S103)) : Option (List ByteArray) := (catchmentref05_Keys.f k l0).bind fun t309 => (catchmentref05_Named.l0 k l1 t309 0)
set_option maxHeartbeats 8000000 in
set_option maxRecDepth 100000 in
theorem catchmentref05_Named.calls (k : Nat) (A0 : Option Addr) (c0 : Nat) (l0 : List (S117)) (A1 : Option Addr) (c1 : Nat) (l1 : List (S103)) (r : List ByteArray) (w : World) (hr0 : Kd.C k117 w A0 l0.length l0) (hc0 : l0.length ≤ c0) (hr1 : Kd.C k103 w A1 l1.length l1) (hc1 : l1.length ≤ c1) (h : catchmentref05_Named.f k l0 l1 = some r) :
  Calls Try.prog 63 #[.slice A0 l0.length c0, .slice A1 l1.length c1] w fun e w' => ∃ v0_ : Value, e = .returned (v0_) ∧ Kd.V Kd.string 9 w' w.heap.size (fun k_ => (w.heap.size ≤ k_)) v0_ r ∧ Below w.heap.size w w' := by
 have HR0 := aK_ hr0
 have HC0 := aK_ hc0
 clear hr0 hc0
 have HR1 := aK_ hr1
 have HC1 := aK_ hc1
 clear hr1 hc1
 have HB := aK_ (Below.refl w.heap.size w)
 have H : ((catchmentref05_Keys.f k l0).bind fun t309 => (catchmentref05_Named.l0 k l1 t309 0)) = some r := h
 clear h
 replace H := Option.bind_eq_some_iff.mp H
 obtain ⟨t309, A30, H⟩ := H
 replace H : (catchmentref05_Named.l0 k l1 t309 0) = some r := H
 have A3 := aK_ A30
 clear A30
 have H' := aK_ H; clear H
 go_enter Try.func63, Try.ntmps63
 go_wp2_with (first | ((with_reducible refine gate_callee (f := 94) rfl ?_); refine goesL_ (some 8) rfl rfl Try.func94 (by kernel_rfl) rfl #[.slice A0 l0.length c0] rfl mS_ ?_; (with_reducible refine (catchmentref05_Keys.calls k _ _ l0 t309 _ ?side1 ?side2 A3.out).mono ?_); (case side1 => repeat (first | exact HR0.out | (with_reducible refine Kd.C_alloc ?_ _) | (with_reducible refine Kd.C_drewN ?_ _) | (with_reducible refine Kd.C_drew ?_))); (case side2 => exact HC0.out); rintro e w4 ⟨v310, rfl, ho0, hb⟩; refine ⟨_, rfl, ?_⟩; have HO311 := aK_ (Kd.V_lower (Kd.V_mono (ok' := fun k_ => (w.heap.size ≤ k_)) ho0 (fun k_ hk_ => (Nat.le_trans (wZ bW_) hk_))) (wZ bW_)); replace HB := aK_ (wT bW_ hb); (try clear hb); (try clear hb2); (try clear hk); (try clear hi); (try clear ho0)))
 go_loopg [5, 6] k (fun kq v5 v6 w' => ∃ (x5_1 : List ByteArray) (x6_1 : Int), v6 = .int .i64 x6_1 ∧ Aside0 (catchmentref05_Named.l0 kq l1 x5_1 x6_1 = some r) ∧ Aside0 (kq ≤ k) ∧ Aside0 (Kd.V Kd.string 9 w' w.heap.size (fun k_ => (w.heap.size ≤ k_)) v5 x5_1) ∧ Aside0 (Below w.heap.size w w'))
 case atStart => exact ⟨(t309), (0), rZ_, H', ⟨Nat.le_refl _⟩, ⟨kV_ HO311.out⟩, ⟨bW_⟩⟩
 clear H'
 try clear c1
 try clear p2
 obtain ⟨x5_1, x6_1, rfl, HA, HK1, HO_5, HB⟩ := hrel
 cases gk with
 | zero => exact absurd HA.out (by simp [catchmentref05_Named.l0])
 | succ k1 => ?_
 have H := HA.out
 clear HA
 simp only [catchmentref05_Named.l0] at H
 by_cases c5 : x6_1 < (l1.length : Int)
 ·rw [if_pos c5] at H
  have c5b0 := decide_eq_true c5
  clear c5
  by_cases c6 : 0 ≤ x6_1
  ·rw [if_pos c6] at H
   have c6b0 := decide_eq_true c6
   clear c6
   replace H := Option.bind_eq_some_iff.mp H
   obtain ⟨t313, A70, H⟩ := H
   replace H : (catchmentref05_Named.l0 k1 l1 t313 (wrap64 (x6_1 + 1))) = some r := H
   have A7 := aK_ A70
   clear A70
   have H' := aK_ H; clear H
   have p312 : 0 ≤ (x6_1 : Int) := pD_
   have q312 : x6_1 < (l1.length : Int) := pD_
   obtain ⟨ad312, e312, hx312_0, hx312_1⟩ := at_T103 HR1.out x6_1 p312 q312
   cases e312
   replace hx312_0 := cB_ hx312_0
   replace hx312_1 := cB_ hx312_1
   replace p312 := eq_true p312
   replace q312 := eq_true q312
   obtain ⟨Ao8, co8, eo8⟩ := Kd.V_slice HO_5.out
   subst eo8
   go_wp2_with (first | ((with_reducible refine gate_callee (f := 95) rfl ?_); refine goesL_ (some 21) rfl rfl Try.func95 (by kernel_rfl) rfl #[.slice Ao8 x5_1.length co8, .string ((rd_T103 l1 x6_1).f0)] rfl mS_ ?_; (with_reducible refine (catchmentref05_Into.calls k1 (fun k_ => (w.heap.size ≤ k_)) _ _ x5_1 ((rd_T103 l1 x6_1).f0) t313 _ ?side1 A7.out).mono ?_); (case side1 => exact HO_5.out); rintro e w9 ⟨v314, rfl, ho0, hb⟩; refine ⟨_, rfl, ?_⟩; replace HO_5 := aK_ (Kd.V_below (kV_ HO_5.out) hb); have HO315 := aK_ (Kd.V_lower (Kd.V_mono (ok' := fun k_ => (w.heap.size ≤ k_)) ho0 (fun k_ hk_ => Or.elim hk_ (fun hs_ => hs_) (fun hn_ => (Nat.le_trans (wZ bW_) hn_)))) (wZ bW_)); replace HB := aK_ (wT bW_ hb); (try clear hb); (try clear hb2); (try clear hk); (try clear hi); (try clear ho0)))
   go_roundg k1
   case measure => have := HK1.out; omega
   case rel => exact ⟨(t313), (wrap64 (x6_1 + 1)), rZ_, H', ⟨by have := HK1.out; omega⟩, ⟨kV_ HO315.out⟩, ⟨bW_⟩⟩
  rw [if_neg c6] at H
  exact absurd H (by simp)
 rw [if_neg c5] at H
 have c5b0 := decide_eq_false c5
 clear c5
 obtain rfl := Option.some.inj H
 go_wp2
 go_ret
 exact ⟨_, by first | rfl | (simp [errW_none, errW_some] <;> rfl) | (simp [*, errW_none, errW_some] <;> rfl), by (with_reducible repeat (first | apply Kd.V_alloc | apply Kd.V_drewN | apply Kd.V_drew)); exact HO_5.out, bW_⟩
def catchmentref05_Entries.l0 : Nat → List (S117) → List (S103) → List (S103) → List ByteArray → Int → ByteArray → ByteArray → Option ((List (S103)))
 | 0, _, _, _, _, _, _, _ => none
 | k + 1, x0, x1, x7, x8, x9, x317000, x317001 => if x9 < (x8.length : Int) then (if 0 ≤ x9 then ((catchmentref05_Find.f k x1 (rdOf ByteArray.empty x8 x9)).bind fun bt324 => ((catchmentref05_Value.f k x0 (rdOf ByteArray.empty x8 x9) bt324.1 bt324.2).bind fun bt327 => (if bt327.2 = true then ((catchmentref02_Right.f x317000 x317001).bind fun t329 => (if t329 = true then ((catchmentref02_Holds.f x317000 x317001 (rdOf ByteArray.empty x8 x9)).bind fun t331 => (if t331 = true then (if x7.length < 4398046511104 then (catchmentref05_Entries.l0 k x0 x1 (x7 ++ [(⟨rdOf ByteArray.empty x8 x9, bt327.1⟩ : S103)]) x8 (wrap64 (x9 + 1)) x317000 x317001) else (none)) else (catchmentref05_Entries.l0 k x0 x1 x7 x8 (wrap64 (x9 + 1)) x317000 x317001))) else (catchmentref05_Entries.l0 k x0 x1 x7 x8 (wrap64 (x9 + 1)) x317000 x317001))) else (catchmentref05_Entries.l0 k x0 x1 x7 x8 (wrap64 (x9 + 1)) x317000 x317001)))) else (none)) else (some x7)
def catchmentref05_Entries.f (k : Nat) (l0 : List (S117)) (l1 : List (S103)) (a2_0 a2_1 : BA) : Option ((List (S103))) := (catchmentref05_Named.f k l0 l1).bind fun t320 => (catchmentref05_Entries.l0 k l0 l1 (([] : List (S103))) t320 0 a2_0 a2_1)
def catchmentref05_Entries.T8 : Bool × List (List Nat × List Nat) := (true, [([], []), ([0], [0]), ([1], [1]), ([2, 1, 1], [1, 2]), ([1, 3], [1, 3]), ([4, 3], [4]), ([5], [5]), ([5], [5]), ([5], [5]), ([7, 8, 5], [5, 7, 8]), ([9, 5], [5, 9]), ([6, 10, 5, 5], [5, 6, 10]), ([5, 11], [5, 11])])
def catchmentref05_Entries.B8 : List Nat := [0, 1, 3, 7, 15, 31, 63, 63, 63, 447, 959, 2047, 4095]
theorem catchmentref05_Entries.tab8 : rtab .any (opsOf Try.f30 8) = catchmentref05_Entries.T8 := by kernel_rfl
theorem catchmentref05_Entries.bits8 : waitsOk catchmentref05_Entries.T8.2 catchmentref05_Entries.B8 = true := by kernel_rfl
set_option maxHeartbeats 8000000 in
set_option maxRecDepth 100000 in
theorem catchmentref05_Entries.calls (k : Nat) (A0 : Option Addr) (c0 : Nat) (l0 : List (S117)) (A1 : Option Addr) (c1 : Nat) (l1 : List (S103)) (a2_0 a2_1 : BA) (r : List (S103)) (w : World) (hr0 : Kd.C k117 w A0 l0.length l0) (hc0 : l0.length ≤ c0) (hr1 : Kd.C k103 w A1 l1.length l1) (hc1 : l1.length ≤ c1) (h : catchmentref05_Entries.f k l0 l1 a2_0 a2_1 = some r) :
  Calls Try.prog 30 #[.slice A0 l0.length c0, .slice A1 l1.length c1, .agg #[.string a2_0, .string a2_1]] w fun e w' => ∃ v0_ : Value, e = .returned (v0_) ∧ Kd.R k103 103 w' w.heap.size (fun _ => True) v0_ r ∧ Below w.heap.size w w' := by
 have hu29 := Try.underlying29
 have hu103 := Try.underlying103
 have HR0 := aK_ hr0
 have HC0 := aK_ hc0
 clear hr0 hc0
 have HR1 := aK_ hr1
 have HC1 := aK_ hc1
 clear hr1 hc1
 have HB := aK_ (Below.refl w.heap.size w)
 have H : ((catchmentref05_Named.f k l0 l1).bind fun t320 => (catchmentref05_Entries.l0 k l0 l1 (([] : List (S103))) t320 0 a2_0 a2_1)) = some r := h
 clear h
 obtain ⟨y317, hy317⟩ : ∃ y_ : List (S103), y_ = (([] : List (S103))) := ⟨_, rfl⟩
 replace H : ((catchmentref05_Named.f k l0 l1).bind fun t320 => (catchmentref05_Entries.l0 k l0 l1 y317 t320 0 a2_0 a2_1)) = some r := by first | (rw [hy317]; with_reducible exact H) | (have H2_ := (Option.bind_some _ _).symm.trans H; rw [hy317]; with_reducible exact H2_) | (have H2_ := (Option.bind_some _ _).symm.trans H; with_reducible exact H2_) | with_reducible exact H | (rw [hy317]; exact H) | exact H
 have Ny317 := aK_ hy317
 clear hy317
 replace H := Option.bind_eq_some_iff.mp H
 obtain ⟨t320, A40, H⟩ := H
 replace H : (catchmentref05_Entries.l0 k l0 l1 y317 t320 0 a2_0 a2_1) = some r := H
 have A4 := aK_ A40
 clear A40
 have H' := aK_ H; clear H
 go_enter Try.func30, Try.ntmps30
 go_wp2_with (first | ((with_reducible refine gate_dst (N := 5) rfl ?_); refine bE_ 5 #[.string a2_0, .string a2_1] 29 ?_; intro gb316 hg w5 hbox hb; have BK316 := aK_ (hbox); have GW316 := aK_ (gE_ hg); replace HB := aK_ (wT bW_ hb); have GE316 := GW316; clear hb hbox hg) | ((with_reducible refine gate_dst (N := 12) rfl ?_); refine Kd.R_lit k103 _ 103 ?hg (N := 12) ?hd (xs := ([] : List (S103))) (inner := []) (ok := fun _ => True) (okp := fun _ => True) ?hr ?hp (fun _ hk => hk) trivial (Below.refl _ _) (Nat.le_refl _) (by simp) ?_; (case hd => rfl); (case hg => rfl); (case hr => first | (go_simp; done) | (go_simp; rfl)); (case hp => exact (Reps.none _ _)); intro v318 w6 ho7 hb hg_ hnew_; clear hg_ hnew_; (first | rw [← Ny317.out] at ho7 | (simp only [Int.reduceToNat] at ho7; rw [← Ny317.out] at ho7)); have HO319 := aK_ (Kd.R_lower ho7 (wZ (bS1_ GE316.out))); replace BK316 := aK_ (bB (bX_ BK316.out) hb); replace HB := aK_ (wT (bS1_ GE316.out) hb); clear hb ho7) | ((with_reducible refine gate_callee (f := 63) rfl ?_); refine goesL_ (some 15) rfl rfl Try.func63 (by kernel_rfl) rfl #[.slice A0 l0.length c0, .slice A1 l1.length c1] rfl mS_ ?_; (with_reducible refine (catchmentref05_Named.calls k _ _ l0 _ _ l1 t320 _ ?side1 ?side2 ?side3 ?side4 A4.out).mono ?_); (case side1 => repeat (first | exact (Kd.C_below HR0.out HB.out) | (with_reducible refine Kd.C_alloc ?_ _) | (with_reducible refine Kd.C_drewN ?_ _) | (with_reducible refine Kd.C_drew ?_))); (case side2 => exact HC0.out); (case side3 => repeat (first | exact (Kd.C_below HR1.out HB.out) | (with_reducible refine Kd.C_alloc ?_ _) | (with_reducible refine Kd.C_drewN ?_ _) | (with_reducible refine Kd.C_drew ?_))); (case side4 => exact HC1.out); rintro e w8 ⟨v321, rfl, ho0, hb⟩; refine ⟨_, rfl, ?_⟩; have HO322 := aK_ (Kd.V_lower (Kd.V_mono (ok' := fun k_ => some k_ ≠ (v318 : Value).ownBlock ∧ k_ ≠ gb316) ho0 (fun k_ hk_ => ⟨(Kd.fresh' (Kd.R_lt (kR_ HO319.out)) k_ hk_), (Kd.freshB (g := gb316) (o := .cells #[.string a2_0, .string a2_1] 29 (0, 0)) (bX_ BK316.out) k_ hk_)⟩)) (wZ (bS1_ GE316.out))); replace HO319 := aK_ (Kd.R_below (kR_ HO319.out) hb); replace BK316 := aK_ (bB (bX_ BK316.out) hb); replace HB := aK_ (wT (bS1_ GE316.out) hb); (try clear hb); (try clear hb2); (try clear hk); (try clear hi); (try clear ho0)))
 go_loopg [7, 9] k (fun kq v7 v9 w' => ∃ (x7_1 : List (S103)) (x9_1 : Int), v9 = .int .i64 x9_1 ∧ Aside0 (catchmentref05_Entries.l0 kq l0 l1 x7_1 t320 x9_1 a2_0 a2_1 = some r) ∧ Aside0 (kq ≤ k) ∧ Aside0 (Kd.R k103 103 w' w.heap.size (fun _ => True) v7 x7_1) ∧ Aside0 (Kd.V Kd.string 9 w' w.heap.size (fun k_ => some k_ ≠ (v7 : Value).ownBlock ∧ k_ ≠ gb316) v321 t320) ∧ Aside0 (w'.heap[gb316]? = some (.cells #[.string a2_0, .string a2_1] 29 (0, 0))) ∧ Aside0 (Below w.heap.size w w'))
 case atStart => exact ⟨(y317), (0), rZ_, H', ⟨Nat.le_refl _⟩, ⟨kR_ HO319.out⟩, ⟨kV_ HO322.out⟩, ⟨bX_ BK316.out⟩, ⟨bS1_ GE316.out⟩⟩
 clear H'
 try clear c1
 try clear p2
 try clear c3
 try clear c6
 obtain ⟨x7_1, x9_1, rfl, HA, HK1, HO_7, HO_8, BK316, HB⟩ := hrel
 cases gk with
 | zero => exact absurd HA.out (by simp [catchmentref05_Entries.l0])
 | succ k1 => ?_
 have H := HA.out
 clear HA
 simp only [catchmentref05_Entries.l0] at H
 by_cases c9 : x9_1 < (t320.length : Int)
 ·rw [if_pos c9] at H
  have c9b0 := decide_eq_true c9
  clear c9
  by_cases c10 : 0 ≤ x9_1
  ·rw [if_pos c10] at H
   have c10b0 := decide_eq_true c10
   clear c10
   replace H := Option.bind_eq_some_iff.mp H
   obtain ⟨⟨t324, t325⟩, A110, H⟩ := H
   replace H : ((catchmentref05_Value.f k1 l0 (rdOf ByteArray.empty t320 x9_1) t324 t325).bind fun bt327 => (if bt327.2 = true then ((catchmentref02_Right.f a2_0 a2_1).bind fun t329 => (if t329 = true then ((catchmentref02_Holds.f a2_0 a2_1 (rdOf ByteArray.empty t320 x9_1)).bind fun t331 => (if t331 = true then (if x7_1.length < 4398046511104 then (catchmentref05_Entries.l0 k1 l0 l1 (x7_1 ++ [(⟨rdOf ByteArray.empty t320 x9_1, bt327.1⟩ : S103)]) t320 (wrap64 (x9_1 + 1)) a2_0 a2_1) else (none)) else (catchmentref05_Entries.l0 k1 l0 l1 x7_1 t320 (wrap64 (x9_1 + 1)) a2_0 a2_1))) else (catchmentref05_Entries.l0 k1 l0 l1 x7_1 t320 (wrap64 (x9_1 + 1)) a2_0 a2_1))) else (catchmentref05_Entries.l0 k1 l0 l1 x7_1 t320 (wrap64 (x9_1 + 1)) a2_0 a2_1))) = some r := H
   have A11 := aK_ A110
   clear A110
   replace H := Option.bind_eq_some_iff.mp H
   obtain ⟨⟨t327, t328⟩, A120, H⟩ := H
   replace H : (if t328 = true then ((catchmentref02_Right.f a2_0 a2_1).bind fun t329 => (if t329 = true then ((catchmentref02_Holds.f a2_0 a2_1 (rdOf ByteArray.empty t320 x9_1)).bind fun t331 => (if t331 = true then (if x7_1.length < 4398046511104 then (catchmentref05_Entries.l0 k1 l0 l1 (x7_1 ++ [(⟨rdOf ByteArray.empty t320 x9_1, t327⟩ : S103)]) t320 (wrap64 (x9_1 + 1)) a2_0 a2_1) else (none)) else (catchmentref05_Entries.l0 k1 l0 l1 x7_1 t320 (wrap64 (x9_1 + 1)) a2_0 a2_1))) else (catchmentref05_Entries.l0 k1 l0 l1 x7_1 t320 (wrap64 (x9_1 + 1)) a2_0 a2_1))) else (catchmentref05_Entries.l0 k1 l0 l1 x7_1 t320 (wrap64 (x9_1 + 1)) a2_0 a2_1)) = some r := H
   have A12 := aK_ A120
   clear A120
   by_cases c13 : t328 = true
   ·subst c13
    have H1 : ((catchmentref02_Right.f a2_0 a2_1).bind fun t329 => (if t329 = true then ((catchmentref02_Holds.f a2_0 a2_1 (rdOf ByteArray.empty t320 x9_1)).bind fun t331 => (if t331 = true then (if x7_1.length < 4398046511104 then (catchmentref05_Entries.l0 k1 l0 l1 (x7_1 ++ [(⟨rdOf ByteArray.empty t320 x9_1, t327⟩ : S103)]) t320 (wrap64 (x9_1 + 1)) a2_0 a2_1) else (none)) else (catchmentref05_Entries.l0 k1 l0 l1 x7_1 t320 (wrap64 (x9_1 + 1)) a2_0 a2_1))) else (catchmentref05_Entries.l0 k1 l0 l1 x7_1 t320 (wrap64 (x9_1 + 1)) a2_0 a2_1))) = some r := by rw [if_pos rfl] at H; exact H
    clear H
    have H := H1
    clear H1
    replace H := Option.bind_eq_some_iff.mp H
    obtain ⟨t329, A140, H⟩ := H
    replace H : (if t329 = true then ((catchmentref02_Holds.f a2_0 a2_1 (rdOf ByteArray.empty t320 x9_1)).bind fun t331 => (if t331 = true then (if x7_1.length < 4398046511104 then (catchmentref05_Entries.l0 k1 l0 l1 (x7_1 ++ [(⟨rdOf ByteArray.empty t320 x9_1, t327⟩ : S103)]) t320 (wrap64 (x9_1 + 1)) a2_0 a2_1) else (none)) else (catchmentref05_Entries.l0 k1 l0 l1 x7_1 t320 (wrap64 (x9_1 + 1)) a2_0 a2_1))) else (catchmentref05_Entries.l0 k1 l0 l1 x7_1 t320 (wrap64 (x9_1 + 1)) a2_0 a2_1)) = some r := H
    have A14 := aK_ A140
    clear A140
    by_cases c15 : t329 = true
    ·subst c15
     have H1 : ((catchmentref02_Holds.f a2_0 a2_1 (rdOf ByteArray.empty t320 x9_1)).bind fun t331 => (if t331 = true then (if x7_1.length < 4398046511104 then (catchmentref05_Entries.l0 k1 l0 l1 (x7_1 ++ [(⟨rdOf ByteArray.empty t320 x9_1, t327⟩ : S103)]) t320 (wrap64 (x9_1 + 1)) a2_0 a2_1) else (none)) else (catchmentref05_Entries.l0 k1 l0 l1 x7_1 t320 (wrap64 (x9_1 + 1)) a2_0 a2_1))) = some r := by rw [if_pos rfl] at H; exact H
     clear H
     have H := H1
     clear H1
     replace H := Option.bind_eq_some_iff.mp H
     obtain ⟨t331, A160, H⟩ := H
     replace H : (if t331 = true then (if x7_1.length < 4398046511104 then (catchmentref05_Entries.l0 k1 l0 l1 (x7_1 ++ [(⟨rdOf ByteArray.empty t320 x9_1, t327⟩ : S103)]) t320 (wrap64 (x9_1 + 1)) a2_0 a2_1) else (none)) else (catchmentref05_Entries.l0 k1 l0 l1 x7_1 t320 (wrap64 (x9_1 + 1)) a2_0 a2_1)) = some r := H
     have A16 := aK_ A160
     clear A160
     by_cases c17 : t331 = true
     ·subst c17
      have H1 : (if x7_1.length < 4398046511104 then (catchmentref05_Entries.l0 k1 l0 l1 (x7_1 ++ [(⟨rdOf ByteArray.empty t320 x9_1, t327⟩ : S103)]) t320 (wrap64 (x9_1 + 1)) a2_0 a2_1) else (none)) = some r := by rw [if_pos rfl] at H; exact H
      clear H
      have H := H1
      clear H1
      by_cases c18 : x7_1.length < 4398046511104
      ·rw [if_pos c18] at H
       have LMc18 := aK_ c18
       clear c18
       obtain ⟨y333, hy333⟩ : ∃ y_ : List (S103), y_ = (x7_1 ++ [(⟨rdOf ByteArray.empty t320 x9_1, t327⟩ : S103)]) := ⟨_, rfl⟩
       replace H : (catchmentref05_Entries.l0 k1 l0 l1 y333 t320 (wrap64 (x9_1 + 1)) a2_0 a2_1) = some r := by first | (rw [hy333]; with_reducible exact H) | (have H2_ := (Option.bind_some _ _).symm.trans H; rw [hy333]; with_reducible exact H2_) | (have H2_ := (Option.bind_some _ _).symm.trans H; with_reducible exact H2_) | with_reducible exact H | (rw [hy333]; exact H) | exact H
       have Ny333 := aK_ hy333
       clear hy333
       have H' := aK_ H; clear H
       obtain ⟨Ao19, co19, eo19⟩ := Kd.V_slice HO_8.out
       subst eo19
       have p323 : 0 ≤ (x9_1 : Int) := pD_
       have q323 : x9_1 < (t320.length : Int) := pD_
       obtain ⟨ad323, e323, hx323_0⟩ := Kd.at_string (Kd.V_reads' HO_8.out).2.2 x9_1 p323 q323
       cases e323
       replace p323 := eq_true p323
       replace q323 := eq_true q323
       try go_wp2_with (first | ((with_reducible refine gate_callee (f := 27) rfl ?_); refine goesL_ (some 28) rfl rfl Try.func27 (by kernel_rfl) rfl #[.slice A1 l1.length c1, .string (rdOf ByteArray.empty t320 x9_1)] rfl mS_ ?_; (with_reducible refine (catchmentref05_Find.calls k1 _ _ l1 (rdOf ByteArray.empty t320 x9_1) t324 t325 _ ?side1 ?side2 A11.out).mono ?_); (case side1 => repeat (first | exact (Kd.C_below HR1.out HB.out) | (with_reducible refine Kd.C_alloc ?_ _) | (with_reducible refine Kd.C_drewN ?_ _) | (with_reducible refine Kd.C_drew ?_))); (case side2 => exact HC1.out); rintro e w' ⟨rfl, ⟨nd, rfl⟩⟩; refine ⟨_, rfl, ?_⟩; have p326 : 0 ≤ (x9_1 : Int) := pD_; have q326 : x9_1 < (t320.length : Int) := pD_; obtain ⟨ad326, e326, hx326_0⟩ := Kd.at_string (Kd.V_reads' HO_8.out).2.2 x9_1 p326 q326; obtain rfl : ad323 = ad326 := (by injection e326); replace p326 := eq_true p326; replace q326 := eq_true q326) | ((with_reducible refine gate_callee (f := 28) rfl ?_); refine goesL_ (some 39) rfl rfl Try.func28 (by kernel_rfl) rfl #[.slice A0 l0.length c0, .string (rdOf ByteArray.empty t320 x9_1), .string t324, .bool t325] rfl mS_ ?_; (with_reducible refine (catchmentref05_Value.calls k1 _ _ l0 (rdOf ByteArray.empty t320 x9_1) t324 t325 t327 true _ ?side1 ?side2 A12.out).mono ?_); (case side1 => repeat (first | exact (Kd.C_below HR0.out (bS1_ GE316.out)) | (with_reducible refine Kd.C_alloc ?_ _) | (with_reducible refine Kd.C_drewN ?_ _) | (with_reducible refine Kd.C_drew ?_))); (case side2 => exact HC0.out); rintro e w20 ⟨rfl, hb⟩; refine ⟨_, rfl, ?_⟩; replace HO_7 := aK_ (Kd.R_below (kR_ HO_7.out) hb); replace HO_8 := aK_ (Kd.V_below (kV_ HO_8.out) hb); replace BK316 := aK_ (bB (bX_ BK316.out) hb); replace HB := aK_ (wT (bS1_ GE316.out) hb); (try clear hb); (try clear hb2); (try clear hk); (try clear hi)))
       have n0_ := aK_ (Kd.R_drew HO_7.out)
       have n1_ := aK_ (Kd.V_drew HO_8.out)
       have n2_ := aK_ (bD BK316.out)
       have n3_ := aK_ (w1 HB.out)
       clear HO_7
       clear HO_8
       clear BK316
       clear HB
       have HO_7 := n0_
       have HO_8 := n1_
       have BK316 := n2_
       have HB := n3_
       clear n0_ n1_ n2_ n3_
       have p330 : 0 ≤ (x9_1 : Int) := pD_
       have q330 : x9_1 < (t320.length : Int) := pD_
       obtain ⟨ad330, e330, hx330_0⟩ := Kd.at_string (Kd.V_reads' HO_8.out).2.2 x9_1 p330 q330
       obtain rfl : ad323 = ad330 := (by injection e330)
       replace p330 := eq_true p330
       replace q330 := eq_true q330
       refine start_ (n := 13) (S := fun w' => w'.cell? ⟨gb316, 0, none⟩ = some (.string a2_0) ∧ w'.cell? ⟨gb316, 1, none⟩ = some (.string a2_1) ∧ w'.cell? (ad323.add (x9_1).toNat) = some (.string (rdOf ByteArray.empty t320 x9_1))) (ds := []) #[ZZ,ZZ,ZZ,ZZ,ZZ,ZZ,ZZ,ZZ,ZZ,ZZ,ZZ,ZZ,ZZ] (by kernel_rfl) rfl rfl ⟨(bC BK316.out 0).trans rfl, (bC BK316.out 1).trans rfl, hx330_0⟩ (fun hHeld => ?_); refine with_tabW catchmentref05_Entries.tab8 catchmentref05_Entries.bits8 (fun HT_ HW_ => ?_)
       generalize w20.drew = w21 at HO_7 HO_8 BK316 HB hx330_0 hHeld ⊢
       refine pU_ 0 42 #[YY,ZZ,ZZ,ZZ,ZZ,ZZ,ZZ,ZZ,ZZ,ZZ,ZZ,ZZ,ZZ] ?_
       refine pU_ 1 43 #[YY,YY,ZZ,ZZ,ZZ,ZZ,ZZ,ZZ,ZZ,ZZ,ZZ,ZZ,ZZ] ?_
       refine take_ (i := 2) (N := some 44) (v := ?_) (a' := ?_) #[YY,YY,YY,ZZ,ZZ,ZZ,ZZ,ZZ,ZZ,ZZ,ZZ,ZZ,ZZ] rfl rfl (take_ofW HT_.out HW_.out (by kernel_rfl)) (fun _ _ _ h => h) (Or.inl ⟨by rfl, ?_⟩) hHeld ?_ ?_
       rotate_left
       ·rintro w' ⟨s0, s1, s2⟩
        go_simp
        with_reducible rfl
       rotate_left
       ·simp only [Act.put, sA1, sA2, sA3, i64_w, i32_w]
        rfl
       refine one_ (i := 3) (N := some 45) #[YY,YY,YY,YY,ZZ,ZZ,ZZ,ZZ,ZZ,ZZ,ZZ,ZZ,ZZ] rfl rfl (one_of HT_.out (by kernel_rfl)) (by decide) (fun K hK => ?_)
       refine goes_ Try.func64 (by kernel_rfl) rfl #[.agg #[.string a2_0, .string a2_1]] (by rfl) rfl rfl mS_ ?_
       with_reducible refine (catchmentref02_Right.calls a2_0 a2_1 true _ A14.out).mono ?_
       rintro e w22 ⟨rfl, hb⟩
       have HS2_ := (hb.cell (World.block_lt_of_cell? _ _ (hHeld.2.2))).trans (hHeld.2.2)
       refine ⟨_, rfl, ?_⟩
       have n0_ := aK_ (Kd.R_below (kR_ HO_7.out) hb)
       have n1_ := aK_ (Kd.V_below (kV_ HO_8.out) hb)
       have n2_ := aK_ (bB (bX_ BK316.out) hb)
       have n3_ := aK_ (wT (bS1_ GE316.out) hb)
       clear HO_7
       clear HO_8
       clear BK316
       clear HB
       have HO_7 := n0_
       have HO_8 := n1_
       have BK316 := n2_
       have HB := n3_
       clear n0_ n1_ n2_ n3_
       (try clear hb)
       (try clear hb2)
       (try clear hk)
       (try clear hi)
       refine hK.out _ _ ⟨(bC BK316.out 0).trans rfl, (bC BK316.out 1).trans rfl, HS2_⟩ (fun hHeld => ?_)
       clear hK K
       refine norm_ (a' := ?_) ?_ ?_
       rotate_left
       ·show Act.put _ (some 45) _ = _
        simp only [Act.put, sA1, sA2, sA3, i64_w, i32_w]
        rfl
       refine pU_ 4 46 #[YY,YY,YY,YY,YY,ZZ,ZZ,ZZ,ZZ,ZZ,ZZ,ZZ,ZZ] ?_
       refine pU_ 5 47 #[YY,YY,YY,YY,YY,YY,ZZ,ZZ,ZZ,ZZ,ZZ,ZZ,ZZ] ?_
       refine pU_ 7 49 #[YY,YY,YY,YY,YY,YY,ZZ,YY,ZZ,ZZ,ZZ,ZZ,ZZ] ?_
       refine pU_ 8 50 #[YY,YY,YY,YY,YY,YY,ZZ,YY,YY,ZZ,ZZ,ZZ,ZZ] ?_
       refine pU_ 9 51 #[YY,YY,YY,YY,YY,YY,ZZ,YY,YY,YY,ZZ,ZZ,ZZ] ?_
       refine take_ (i := 6) (N := some 48) (v := ?_) (a' := ?_) #[YY,YY,YY,YY,YY,YY,YY,YY,YY,YY,ZZ,ZZ,ZZ] rfl rfl (take_ofW HT_.out HW_.out (by kernel_rfl)) (fun _ _ _ h => h) (Or.inl ⟨by rfl, ?_⟩) hHeld ?_ ?_
       rotate_left
       ·rintro w' ⟨s0, s1, s2⟩
        go_simp
        with_reducible rfl
       rotate_left
       ·simp only [Act.put, sA1, sA2, sA3, i64_w, i32_w]
        rfl
       refine take_ (i := 10) (N := some 52) (v := ?_) (a' := ?_) #[YY,YY,YY,YY,YY,YY,YY,YY,YY,YY,YY,ZZ,ZZ] rfl rfl (take_ofW HT_.out HW_.out (by kernel_rfl)) (fun _ _ _ h => h) (Or.inl ⟨by rfl, ?_⟩) hHeld ?_ ?_
       rotate_left
       ·rintro w' ⟨s0, s1, s2⟩
        go_simp
        with_reducible rfl
       rotate_left
       ·simp only [Act.put, sA1, sA2, sA3, i64_w, i32_w]
        rfl
       refine one_ (i := 11) (N := some 53) #[YY,YY,YY,YY,YY,YY,YY,YY,YY,YY,YY,YY,ZZ] rfl rfl (one_of HT_.out (by kernel_rfl)) (by decide) (fun K hK => ?_)
       refine goes_ Try.func65 (by kernel_rfl) rfl #[.agg #[.string a2_0, .string a2_1], .string (rdOf ByteArray.empty t320 x9_1)] (by rfl) rfl rfl mS_ ?_
       with_reducible refine (catchmentref02_Holds.calls a2_0 a2_1 (rdOf ByteArray.empty t320 x9_1) true _ A16.out).mono ?_
       rintro e w23 ⟨rfl, hb⟩
       have HS2_ := (hb.cell (World.block_lt_of_cell? _ _ (hHeld.2.2))).trans (hHeld.2.2)
       refine ⟨_, rfl, ?_⟩
       have n0_ := aK_ (Kd.R_below (kR_ HO_7.out) hb)
       have n1_ := aK_ (Kd.V_below (kV_ HO_8.out) hb)
       have n2_ := aK_ (bB (bX_ BK316.out) hb)
       have n3_ := aK_ (wT (bS1_ GE316.out) hb)
       clear HO_7
       clear HO_8
       clear BK316
       clear HB
       have HO_7 := n0_
       have HO_8 := n1_
       have BK316 := n2_
       have HB := n3_
       clear n0_ n1_ n2_ n3_
       (try clear hb)
       (try clear hb2)
       (try clear hk)
       (try clear hi)
       refine hK.out _ _ ⟨(bC BK316.out 0).trans rfl, (bC BK316.out 1).trans rfl, HS2_⟩ (fun hHeld => ?_)
       clear hK K
       refine norm_ (a' := ?_) ?_ ?_
       rotate_left
       ·show Act.put _ (some 53) _ = _
        simp only [Act.put, sA1, sA2, sA3, i64_w, i32_w]
        rfl
       refine pU_ 12 54 #[YY,YY,YY,YY,YY,YY,YY,YY,YY,YY,YY,YY,YY] ?_
       refine done_ (done_of HT_.out (by kernel_rfl)) ?_
       have p332 : 0 ≤ (x9_1 : Int) := pD_
       have q332 : x9_1 < (t320.length : Int) := pD_
       obtain ⟨ad332, e332, hx332_0⟩ := Kd.at_string (Kd.V_reads' HO_8.out).2.2 x9_1 p332 q332
       obtain rfl : ad323 = ad332 := (by injection e332)
       replace p332 := eq_true p332
       replace q332 := eq_true q332
       try go_wp2_with (first | ((with_reducible refine gate_builtin (b := .append) (xs := #[.tmp 55, .tmp 62]) rfl ?_); at_builtin; refine Kd.R_append k103 (w0 := w) w.heap.size rfl (.tmp 55) (.tmp 62) 30 103 (.agg #[(.string ⟨#[]⟩), (.string ⟨#[]⟩)]) 32 rfl Try.underlying30 info103 rfl (by decide) (by omega) u7 x7_1 (⟨rdOf ByteArray.empty t320 x9_1, t327⟩ : S103) [.string (rdOf ByteArray.empty t320 x9_1), .string t327] (fun _ => True) (fun _ => False) rfl rfl ?aP (fun _ hk => hk.elim) ?aF ?aO ?aB ?aS ?aL ?_; (case aP => exact k103_mkM _ _ _ (⟨rdOf ByteArray.empty t320 x9_1, t327⟩ : S103)); (case aB => exact (bS1_ GE316.out)); (case aF => exact (fun _ _ => trivial)); (case aO => exact (kR_ HO_7.out)); (case aS => exact (wZ (bS1_ GE316.out))); (case aL => have := LMc18.out; omega); intro v334 w24 ho hb hg hat; rw [← Ny333.out] at ho; have n0_ := aK_ (Kd.V_afterv (ok := (fun k_ => k_ ≠ gb316)) (by (with_reducible repeat (first | apply Kd.V_alloc | apply Kd.V_drewN | apply Kd.V_drew)); exact Kd.V_mono HO_8.out (fun _ hk => ⟨hk.2, hk.1⟩)) hg hat); have n1_ := aK_ (blk_grown (g := gb316) (o := .cells #[.string a2_0, .string a2_1] 29 (0, 0)) (bX_ BK316.out) hg (Kd.R_ne HO_7.out BK316.out (by decide))); have n2_ := aK_ (hb); have n3_ := aK_ (ho); clear HO_8; clear BK316; clear HB; clear HO_7; have HO_8 := n0_; have BK316 := n1_; have HB := n2_; have HO335 := n3_; clear n0_ n1_ n2_ n3_; clear ho hb hg hat))
       go_roundg k1
       case measure => have := HK1.out; omega
       case rel => exact ⟨(y333), (wrap64 (x9_1 + 1)), rZ_, H', ⟨by have := HK1.out; omega⟩, ⟨kR_ HO335.out⟩, ⟨by (with_reducible repeat (first | apply Kd.V_alloc | apply Kd.V_drewN | apply Kd.V_drew)); exact Kd.V_mono HO_8.out (fun _ hk => ⟨hk.2, hk.1⟩)⟩, ⟨bX_ BK316.out⟩, ⟨bS1_ GE316.out⟩⟩
      rw [if_neg c18] at H
      exact absurd H (by simp)
     replace c17 := Bool.eq_false_iff.mpr c17
     subst c17
     have H1 : (catchmentref05_Entries.l0 k1 l0 l1 x7_1 t320 (wrap64 (x9_1 + 1)) a2_0 a2_1) = some r := by rw [if_neg (show ¬ (false = true) by decide)] at H; exact H
     clear H
     have H := H1
     clear H1
     have H' := aK_ H; clear H
     obtain ⟨Ao25, co25, eo25⟩ := Kd.V_slice HO_8.out
     subst eo25
     have p323 : 0 ≤ (x9_1 : Int) := pD_
     have q323 : x9_1 < (t320.length : Int) := pD_
     obtain ⟨ad323, e323, hx323_0⟩ := Kd.at_string (Kd.V_reads' HO_8.out).2.2 x9_1 p323 q323
     cases e323
     replace p323 := eq_true p323
     replace q323 := eq_true q323
     try go_wp2_with (first | ((with_reducible refine gate_callee (f := 27) rfl ?_); refine goesL_ (some 28) rfl rfl Try.func27 (by kernel_rfl) rfl #[.slice A1 l1.length c1, .string (rdOf ByteArray.empty t320 x9_1)] rfl mS_ ?_; (with_reducible refine (catchmentref05_Find.calls k1 _ _ l1 (rdOf ByteArray.empty t320 x9_1) t324 t325 _ ?side1 ?side2 A11.out).mono ?_); (case side1 => repeat (first | exact (Kd.C_below HR1.out HB.out) | (with_reducible refine Kd.C_alloc ?_ _) | (with_reducible refine Kd.C_drewN ?_ _) | (with_reducible refine Kd.C_drew ?_))); (case side2 => exact HC1.out); rintro e w' ⟨rfl, ⟨nd, rfl⟩⟩; refine ⟨_, rfl, ?_⟩; have p326 : 0 ≤ (x9_1 : Int) := pD_; have q326 : x9_1 < (t320.length : Int) := pD_; obtain ⟨ad326, e326, hx326_0⟩ := Kd.at_string (Kd.V_reads' HO_8.out).2.2 x9_1 p326 q326; obtain rfl : ad323 = ad326 := (by injection e326); replace p326 := eq_true p326; replace q326 := eq_true q326) | ((with_reducible refine gate_callee (f := 28) rfl ?_); refine goesL_ (some 39) rfl rfl Try.func28 (by kernel_rfl) rfl #[.slice A0 l0.length c0, .string (rdOf ByteArray.empty t320 x9_1), .string t324, .bool t325] rfl mS_ ?_; (with_reducible refine (catchmentref05_Value.calls k1 _ _ l0 (rdOf ByteArray.empty t320 x9_1) t324 t325 t327 true _ ?side1 ?side2 A12.out).mono ?_); (case side1 => repeat (first | exact (Kd.C_below HR0.out (bS1_ GE316.out)) | (with_reducible refine Kd.C_alloc ?_ _) | (with_reducible refine Kd.C_drewN ?_ _) | (with_reducible refine Kd.C_drew ?_))); (case side2 => exact HC0.out); rintro e w26 ⟨rfl, hb⟩; refine ⟨_, rfl, ?_⟩; replace HO_7 := aK_ (Kd.R_below (kR_ HO_7.out) hb); replace HO_8 := aK_ (Kd.V_below (kV_ HO_8.out) hb); replace BK316 := aK_ (bB (bX_ BK316.out) hb); replace HB := aK_ (wT (bS1_ GE316.out) hb); (try clear hb); (try clear hb2); (try clear hk); (try clear hi)))
     have n0_ := aK_ (Kd.R_drew HO_7.out)
     have n1_ := aK_ (Kd.V_drew HO_8.out)
     have n2_ := aK_ (bD BK316.out)
     have n3_ := aK_ (w1 HB.out)
     clear HO_7
     clear HO_8
     clear BK316
     clear HB
     have HO_7 := n0_
     have HO_8 := n1_
     have BK316 := n2_
     have HB := n3_
     clear n0_ n1_ n2_ n3_
     have p330 : 0 ≤ (x9_1 : Int) := pD_
     have q330 : x9_1 < (t320.length : Int) := pD_
     obtain ⟨ad330, e330, hx330_0⟩ := Kd.at_string (Kd.V_reads' HO_8.out).2.2 x9_1 p330 q330
     obtain rfl : ad323 = ad330 := (by injection e330)
     replace p330 := eq_true p330
     replace q330 := eq_true q330
     refine start_ (n := 13) (S := fun w' => w'.cell? ⟨gb316, 0, none⟩ = some (.string a2_0) ∧ w'.cell? ⟨gb316, 1, none⟩ = some (.string a2_1) ∧ w'.cell? (ad323.add (x9_1).toNat) = some (.string (rdOf ByteArray.empty t320 x9_1))) (ds := []) #[ZZ,ZZ,ZZ,ZZ,ZZ,ZZ,ZZ,ZZ,ZZ,ZZ,ZZ,ZZ,ZZ] (by kernel_rfl) rfl rfl ⟨(bC BK316.out 0).trans rfl, (bC BK316.out 1).trans rfl, hx330_0⟩ (fun hHeld => ?_); refine with_tabW catchmentref05_Entries.tab8 catchmentref05_Entries.bits8 (fun HT_ HW_ => ?_)
     generalize w26.drew = w27 at HO_7 HO_8 BK316 HB hx330_0 hHeld ⊢
     refine pU_ 0 42 #[YY,ZZ,ZZ,ZZ,ZZ,ZZ,ZZ,ZZ,ZZ,ZZ,ZZ,ZZ,ZZ] ?_
     refine pU_ 1 43 #[YY,YY,ZZ,ZZ,ZZ,ZZ,ZZ,ZZ,ZZ,ZZ,ZZ,ZZ,ZZ] ?_
     refine take_ (i := 2) (N := some 44) (v := ?_) (a' := ?_) #[YY,YY,YY,ZZ,ZZ,ZZ,ZZ,ZZ,ZZ,ZZ,ZZ,ZZ,ZZ] rfl rfl (take_ofW HT_.out HW_.out (by kernel_rfl)) (fun _ _ _ h => h) (Or.inl ⟨by rfl, ?_⟩) hHeld ?_ ?_
     rotate_left
     ·rintro w' ⟨s0, s1, s2⟩
      go_simp
      with_reducible rfl
     rotate_left
     ·simp only [Act.put, sA1, sA2, sA3, i64_w, i32_w]
      rfl
     refine one_ (i := 3) (N := some 45) #[YY,YY,YY,YY,ZZ,ZZ,ZZ,ZZ,ZZ,ZZ,ZZ,ZZ,ZZ] rfl rfl (one_of HT_.out (by kernel_rfl)) (by decide) (fun K hK => ?_)
     refine goes_ Try.func64 (by kernel_rfl) rfl #[.agg #[.string a2_0, .string a2_1]] (by rfl) rfl rfl mS_ ?_
     with_reducible refine (catchmentref02_Right.calls a2_0 a2_1 true _ A14.out).mono ?_
     rintro e w28 ⟨rfl, hb⟩
     have HS2_ := (hb.cell (World.block_lt_of_cell? _ _ (hHeld.2.2))).trans (hHeld.2.2)
     refine ⟨_, rfl, ?_⟩
     have n0_ := aK_ (Kd.R_below (kR_ HO_7.out) hb)
     have n1_ := aK_ (Kd.V_below (kV_ HO_8.out) hb)
     have n2_ := aK_ (bB (bX_ BK316.out) hb)
     have n3_ := aK_ (wT (bS1_ GE316.out) hb)
     clear HO_7
     clear HO_8
     clear BK316
     clear HB
     have HO_7 := n0_
     have HO_8 := n1_
     have BK316 := n2_
     have HB := n3_
     clear n0_ n1_ n2_ n3_
     (try clear hb)
     (try clear hb2)
     (try clear hk)
     (try clear hi)
     refine hK.out _ _ ⟨(bC BK316.out 0).trans rfl, (bC BK316.out 1).trans rfl, HS2_⟩ (fun hHeld => ?_)
     clear hK K
     refine norm_ (a' := ?_) ?_ ?_
     rotate_left
     ·show Act.put _ (some 45) _ = _
      simp only [Act.put, sA1, sA2, sA3, i64_w, i32_w]
      rfl
     refine pU_ 4 46 #[YY,YY,YY,YY,YY,ZZ,ZZ,ZZ,ZZ,ZZ,ZZ,ZZ,ZZ] ?_
     refine pU_ 5 47 #[YY,YY,YY,YY,YY,YY,ZZ,ZZ,ZZ,ZZ,ZZ,ZZ,ZZ] ?_
     refine pU_ 7 49 #[YY,YY,YY,YY,YY,YY,ZZ,YY,ZZ,ZZ,ZZ,ZZ,ZZ] ?_
     refine pU_ 8 50 #[YY,YY,YY,YY,YY,YY,ZZ,YY,YY,ZZ,ZZ,ZZ,ZZ] ?_
     refine pU_ 9 51 #[YY,YY,YY,YY,YY,YY,ZZ,YY,YY,YY,ZZ,ZZ,ZZ] ?_
     refine take_ (i := 6) (N := some 48) (v := ?_) (a' := ?_) #[YY,YY,YY,YY,YY,YY,YY,YY,YY,YY,ZZ,ZZ,ZZ] rfl rfl (take_ofW HT_.out HW_.out (by kernel_rfl)) (fun _ _ _ h => h) (Or.inl ⟨by rfl, ?_⟩) hHeld ?_ ?_
     rotate_left
     ·rintro w' ⟨s0, s1, s2⟩
      go_simp
      with_reducible rfl
     rotate_left
     ·simp only [Act.put, sA1, sA2, sA3, i64_w, i32_w]
      rfl
     refine take_ (i := 10) (N := some 52) (v := ?_) (a' := ?_) #[YY,YY,YY,YY,YY,YY,YY,YY,YY,YY,YY,ZZ,ZZ] rfl rfl (take_ofW HT_.out HW_.out (by kernel_rfl)) (fun _ _ _ h => h) (Or.inl ⟨by rfl, ?_⟩) hHeld ?_ ?_
     rotate_left
     ·rintro w' ⟨s0, s1, s2⟩
      go_simp
      with_reducible rfl
     rotate_left
     ·simp only [Act.put, sA1, sA2, sA3, i64_w, i32_w]
      rfl
     refine one_ (i := 11) (N := some 53) #[YY,YY,YY,YY,YY,YY,YY,YY,YY,YY,YY,YY,ZZ] rfl rfl (one_of HT_.out (by kernel_rfl)) (by decide) (fun K hK => ?_)
     refine goes_ Try.func65 (by kernel_rfl) rfl #[.agg #[.string a2_0, .string a2_1], .string (rdOf ByteArray.empty t320 x9_1)] (by rfl) rfl rfl mS_ ?_
     with_reducible refine (catchmentref02_Holds.calls a2_0 a2_1 (rdOf ByteArray.empty t320 x9_1) false _ A16.out).mono ?_
     rintro e w29 ⟨rfl, hb⟩
     have HS2_ := (hb.cell (World.block_lt_of_cell? _ _ (hHeld.2.2))).trans (hHeld.2.2)
     refine ⟨_, rfl, ?_⟩
     have n0_ := aK_ (Kd.R_below (kR_ HO_7.out) hb)
     have n1_ := aK_ (Kd.V_below (kV_ HO_8.out) hb)
     have n2_ := aK_ (bB (bX_ BK316.out) hb)
     have n3_ := aK_ (wT (bS1_ GE316.out) hb)
     clear HO_7
     clear HO_8
     clear BK316
     clear HB
     have HO_7 := n0_
     have HO_8 := n1_
     have BK316 := n2_
     have HB := n3_
     clear n0_ n1_ n2_ n3_
     (try clear hb)
     (try clear hb2)
     (try clear hk)
     (try clear hi)
     refine hK.out _ _ ⟨(bC BK316.out 0).trans rfl, (bC BK316.out 1).trans rfl, HS2_⟩ (fun hHeld => ?_)
     clear hK K
     refine norm_ (a' := ?_) ?_ ?_
     rotate_left
     ·show Act.put _ (some 53) _ = _
      simp only [Act.put, sA1, sA2, sA3, i64_w, i32_w]
      rfl
     refine pU_ 12 54 #[YY,YY,YY,YY,YY,YY,YY,YY,YY,YY,YY,YY,YY] ?_
     refine done_ (done_of HT_.out (by kernel_rfl)) ?_
     try go_wp2
     go_roundg k1
     case measure => have := HK1.out; omega
     case rel => exact ⟨(x7_1), (wrap64 (x9_1 + 1)), rZ_, H', ⟨by have := HK1.out; omega⟩, ⟨kR_ HO_7.out⟩, ⟨kV_ HO_8.out⟩, ⟨bX_ BK316.out⟩, ⟨bS1_ GE316.out⟩⟩
    replace c15 := Bool.eq_false_iff.mpr c15
    subst c15
    have H1 : (catchmentref05_Entries.l0 k1 l0 l1 x7_1 t320 (wrap64 (x9_1 + 1)) a2_0 a2_1) = some r := by rw [if_neg (show ¬ (false = true) by decide)] at H; exact H
    clear H
    have H := H1
    clear H1
    have H' := aK_ H; clear H
    obtain ⟨Ao30, co30, eo30⟩ := Kd.V_slice HO_8.out
    subst eo30
    have p323 : 0 ≤ (x9_1 : Int) := pD_
    have q323 : x9_1 < (t320.length : Int) := pD_
    obtain ⟨ad323, e323, hx323_0⟩ := Kd.at_string (Kd.V_reads' HO_8.out).2.2 x9_1 p323 q323
    cases e323
    replace p323 := eq_true p323
    replace q323 := eq_true q323
    try go_wp2_with (first | ((with_reducible refine gate_callee (f := 27) rfl ?_); refine goesL_ (some 28) rfl rfl Try.func27 (by kernel_rfl) rfl #[.slice A1 l1.length c1, .string (rdOf ByteArray.empty t320 x9_1)] rfl mS_ ?_; (with_reducible refine (catchmentref05_Find.calls k1 _ _ l1 (rdOf ByteArray.empty t320 x9_1) t324 t325 _ ?side1 ?side2 A11.out).mono ?_); (case side1 => repeat (first | exact (Kd.C_below HR1.out HB.out) | (with_reducible refine Kd.C_alloc ?_ _) | (with_reducible refine Kd.C_drewN ?_ _) | (with_reducible refine Kd.C_drew ?_))); (case side2 => exact HC1.out); rintro e w' ⟨rfl, ⟨nd, rfl⟩⟩; refine ⟨_, rfl, ?_⟩; have p326 : 0 ≤ (x9_1 : Int) := pD_; have q326 : x9_1 < (t320.length : Int) := pD_; obtain ⟨ad326, e326, hx326_0⟩ := Kd.at_string (Kd.V_reads' HO_8.out).2.2 x9_1 p326 q326; obtain rfl : ad323 = ad326 := (by injection e326); replace p326 := eq_true p326; replace q326 := eq_true q326) | ((with_reducible refine gate_callee (f := 28) rfl ?_); refine goesL_ (some 39) rfl rfl Try.func28 (by kernel_rfl) rfl #[.slice A0 l0.length c0, .string (rdOf ByteArray.empty t320 x9_1), .string t324, .bool t325] rfl mS_ ?_; (with_reducible refine (catchmentref05_Value.calls k1 _ _ l0 (rdOf ByteArray.empty t320 x9_1) t324 t325 t327 true _ ?side1 ?side2 A12.out).mono ?_); (case side1 => repeat (first | exact (Kd.C_below HR0.out (bS1_ GE316.out)) | (with_reducible refine Kd.C_alloc ?_ _) | (with_reducible refine Kd.C_drewN ?_ _) | (with_reducible refine Kd.C_drew ?_))); (case side2 => exact HC0.out); rintro e w31 ⟨rfl, hb⟩; refine ⟨_, rfl, ?_⟩; replace HO_7 := aK_ (Kd.R_below (kR_ HO_7.out) hb); replace HO_8 := aK_ (Kd.V_below (kV_ HO_8.out) hb); replace BK316 := aK_ (bB (bX_ BK316.out) hb); replace HB := aK_ (wT (bS1_ GE316.out) hb); (try clear hb); (try clear hb2); (try clear hk); (try clear hi)))
    have n0_ := aK_ (Kd.R_drew HO_7.out)
    have n1_ := aK_ (Kd.V_drew HO_8.out)
    have n2_ := aK_ (bD BK316.out)
    have n3_ := aK_ (w1 HB.out)
    clear HO_7
    clear HO_8
    clear BK316
    clear HB
    have HO_7 := n0_
    have HO_8 := n1_
    have BK316 := n2_
    have HB := n3_
    clear n0_ n1_ n2_ n3_
    refine start_ (n := 13) (S := fun w' => w'.cell? ⟨gb316, 0, none⟩ = some (.string a2_0) ∧ w'.cell? ⟨gb316, 1, none⟩ = some (.string a2_1)) (ds := []) #[ZZ,ZZ,ZZ,ZZ,ZZ,ZZ,ZZ,ZZ,ZZ,ZZ,ZZ,ZZ,ZZ] (by kernel_rfl) rfl rfl ⟨(bC BK316.out 0).trans rfl, (bC BK316.out 1).trans rfl⟩ (fun hHeld => ?_); refine with_tabW catchmentref05_Entries.tab8 catchmentref05_Entries.bits8 (fun HT_ HW_ => ?_)
    generalize w31.drew = w32 at HO_7 HO_8 BK316 HB hHeld ⊢
    refine pU_ 0 42 #[YY,ZZ,ZZ,ZZ,ZZ,ZZ,ZZ,ZZ,ZZ,ZZ,ZZ,ZZ,ZZ] ?_
    refine pU_ 1 43 #[YY,YY,ZZ,ZZ,ZZ,ZZ,ZZ,ZZ,ZZ,ZZ,ZZ,ZZ,ZZ] ?_
    refine take_ (i := 2) (N := some 44) (v := ?_) (a' := ?_) #[YY,YY,YY,ZZ,ZZ,ZZ,ZZ,ZZ,ZZ,ZZ,ZZ,ZZ,ZZ] rfl rfl (take_ofW HT_.out HW_.out (by kernel_rfl)) (fun _ _ _ h => h) (Or.inl ⟨by rfl, ?_⟩) hHeld ?_ ?_
    rotate_left
    ·rintro w' ⟨s0, s1⟩
     go_simp
     with_reducible rfl
    rotate_left
    ·simp only [Act.put, sA1, sA2, sA3, i64_w, i32_w]
     rfl
    refine one_ (i := 3) (N := some 45) #[YY,YY,YY,YY,ZZ,ZZ,ZZ,ZZ,ZZ,ZZ,ZZ,ZZ,ZZ] rfl rfl (one_of HT_.out (by kernel_rfl)) (by decide) (fun K hK => ?_)
    refine goes_ Try.func64 (by kernel_rfl) rfl #[.agg #[.string a2_0, .string a2_1]] (by rfl) rfl rfl mS_ ?_
    with_reducible refine (catchmentref02_Right.calls a2_0 a2_1 false _ A14.out).mono ?_
    rintro e w33 ⟨rfl, hb⟩
    refine ⟨_, rfl, ?_⟩
    have n0_ := aK_ (Kd.R_below (kR_ HO_7.out) hb)
    have n1_ := aK_ (Kd.V_below (kV_ HO_8.out) hb)
    have n2_ := aK_ (bB (bX_ BK316.out) hb)
    have n3_ := aK_ (wT (bS1_ GE316.out) hb)
    clear HO_7
    clear HO_8
    clear BK316
    clear HB
    have HO_7 := n0_
    have HO_8 := n1_
    have BK316 := n2_
    have HB := n3_
    clear n0_ n1_ n2_ n3_
    (try clear hb)
    (try clear hb2)
    (try clear hk)
    (try clear hi)
    refine hK.out _ _ ⟨(bC BK316.out 0).trans rfl, (bC BK316.out 1).trans rfl⟩ (fun hHeld => ?_)
    clear hK K
    refine norm_ (a' := ?_) ?_ ?_
    rotate_left
    ·show Act.put _ (some 45) _ = _
     simp only [Act.put, sA1, sA2, sA3, i64_w, i32_w]
     rfl
    refine pU_ 4 46 #[YY,YY,YY,YY,YY,ZZ,ZZ,ZZ,ZZ,ZZ,ZZ,ZZ,ZZ] ?_
    refine pU_ 5 47 #[YY,YY,YY,YY,YY,YY,ZZ,ZZ,ZZ,ZZ,ZZ,ZZ,ZZ] ?_
    refine oF_ 6 48 #[YY,YY,YY,YY,YY,YY,YY,ZZ,ZZ,ZZ,ZZ,ZZ,ZZ] ?_
    refine oF_ 7 49 #[YY,YY,YY,YY,YY,YY,YY,YY,ZZ,ZZ,ZZ,ZZ,ZZ] ?_
    refine oF_ 8 50 #[YY,YY,YY,YY,YY,YY,YY,YY,YY,ZZ,ZZ,ZZ,ZZ] ?_
    refine oF_ 9 51 #[YY,YY,YY,YY,YY,YY,YY,YY,YY,YY,ZZ,ZZ,ZZ] ?_
    refine oF_ 10 52 #[YY,YY,YY,YY,YY,YY,YY,YY,YY,YY,YY,ZZ,ZZ] ?_
    refine oF_ 11 53 #[YY,YY,YY,YY,YY,YY,YY,YY,YY,YY,YY,YY,ZZ] ?_
    refine pU_ 12 54 #[YY,YY,YY,YY,YY,YY,YY,YY,YY,YY,YY,YY,YY] ?_
    refine done_ (done_of HT_.out (by kernel_rfl)) ?_
    try go_wp2
    go_roundg k1
    case measure => have := HK1.out; omega
    case rel => exact ⟨(x7_1), (wrap64 (x9_1 + 1)), rZ_, H', ⟨by have := HK1.out; omega⟩, ⟨kR_ HO_7.out⟩, ⟨kV_ HO_8.out⟩, ⟨bX_ BK316.out⟩, ⟨bS1_ GE316.out⟩⟩
   replace c13 := Bool.eq_false_iff.mpr c13
   subst c13
   have H1 : (catchmentref05_Entries.l0 k1 l0 l1 x7_1 t320 (wrap64 (x9_1 + 1)) a2_0 a2_1) = some r := by rw [if_neg (show ¬ (false = true) by decide)] at H; exact H
   clear H
   have H := H1
   clear H1
   have H' := aK_ H; clear H
   obtain ⟨Ao34, co34, eo34⟩ := Kd.V_slice HO_8.out
   subst eo34
   have p323 : 0 ≤ (x9_1 : Int) := pD_
   have q323 : x9_1 < (t320.length : Int) := pD_
   obtain ⟨ad323, e323, hx323_0⟩ := Kd.at_string (Kd.V_reads' HO_8.out).2.2 x9_1 p323 q323
   cases e323
   replace p323 := eq_true p323
   replace q323 := eq_true q323
   try go_wp2_with (first | ((with_reducible refine gate_callee (f := 27) rfl ?_); refine goesL_ (some 28) rfl rfl Try.func27 (by kernel_rfl) rfl #[.slice A1 l1.length c1, .string (rdOf ByteArray.empty t320 x9_1)] rfl mS_ ?_; (with_reducible refine (catchmentref05_Find.calls k1 _ _ l1 (rdOf ByteArray.empty t320 x9_1) t324 t325 _ ?side1 ?side2 A11.out).mono ?_); (case side1 => repeat (first | exact (Kd.C_below HR1.out HB.out) | (with_reducible refine Kd.C_alloc ?_ _) | (with_reducible refine Kd.C_drewN ?_ _) | (with_reducible refine Kd.C_drew ?_))); (case side2 => exact HC1.out); rintro e w' ⟨rfl, ⟨nd, rfl⟩⟩; refine ⟨_, rfl, ?_⟩; have p326 : 0 ≤ (x9_1 : Int) := pD_; have q326 : x9_1 < (t320.length : Int) := pD_; obtain ⟨ad326, e326, hx326_0⟩ := Kd.at_string (Kd.V_reads' HO_8.out).2.2 x9_1 p326 q326; obtain rfl : ad323 = ad326 := (by injection e326); replace p326 := eq_true p326; replace q326 := eq_true q326) | ((with_reducible refine gate_callee (f := 28) rfl ?_); refine goesL_ (some 39) rfl rfl Try.func28 (by kernel_rfl) rfl #[.slice A0 l0.length c0, .string (rdOf ByteArray.empty t320 x9_1), .string t324, .bool t325] rfl mS_ ?_; (with_reducible refine (catchmentref05_Value.calls k1 _ _ l0 (rdOf ByteArray.empty t320 x9_1) t324 t325 t327 false _ ?side1 ?side2 A12.out).mono ?_); (case side1 => repeat (first | exact (Kd.C_below HR0.out (bS1_ GE316.out)) | (with_reducible refine Kd.C_alloc ?_ _) | (with_reducible refine Kd.C_drewN ?_ _) | (with_reducible refine Kd.C_drew ?_))); (case side2 => exact HC0.out); rintro e w35 ⟨rfl, hb⟩; refine ⟨_, rfl, ?_⟩; replace HO_7 := aK_ (Kd.R_below (kR_ HO_7.out) hb); replace HO_8 := aK_ (Kd.V_below (kV_ HO_8.out) hb); replace BK316 := aK_ (bB (bX_ BK316.out) hb); replace HB := aK_ (wT (bS1_ GE316.out) hb); (try clear hb); (try clear hb2); (try clear hk); (try clear hi)))
   have n0_ := aK_ (Kd.R_drew HO_7.out)
   have n1_ := aK_ (Kd.V_drew HO_8.out)
   have n2_ := aK_ (bD BK316.out)
   have n3_ := aK_ (w1 HB.out)
   clear HO_7
   clear HO_8
   clear BK316
   clear HB
   have HO_7 := n0_
   have HO_8 := n1_
   have BK316 := n2_
   have HB := n3_
   clear n0_ n1_ n2_ n3_
   refine start_ (n := 13) (S := fun w' => True) (ds := []) #[ZZ,ZZ,ZZ,ZZ,ZZ,ZZ,ZZ,ZZ,ZZ,ZZ,ZZ,ZZ,ZZ] (by kernel_rfl) rfl rfl trivial (fun hHeld => ?_); refine with_tabW catchmentref05_Entries.tab8 catchmentref05_Entries.bits8 (fun HT_ HW_ => ?_)
   generalize w35.drew = w36 at HO_7 HO_8 BK316 HB hHeld ⊢
   refine pU_ 0 42 #[YY,ZZ,ZZ,ZZ,ZZ,ZZ,ZZ,ZZ,ZZ,ZZ,ZZ,ZZ,ZZ] ?_
   refine pU_ 1 43 #[YY,YY,ZZ,ZZ,ZZ,ZZ,ZZ,ZZ,ZZ,ZZ,ZZ,ZZ,ZZ] ?_
   refine oF_ 2 44 #[YY,YY,YY,ZZ,ZZ,ZZ,ZZ,ZZ,ZZ,ZZ,ZZ,ZZ,ZZ] ?_
   refine oF_ 3 45 #[YY,YY,YY,YY,ZZ,ZZ,ZZ,ZZ,ZZ,ZZ,ZZ,ZZ,ZZ] ?_
   refine pU_ 4 46 #[YY,YY,YY,YY,YY,ZZ,ZZ,ZZ,ZZ,ZZ,ZZ,ZZ,ZZ] ?_
   refine pU_ 5 47 #[YY,YY,YY,YY,YY,YY,ZZ,ZZ,ZZ,ZZ,ZZ,ZZ,ZZ] ?_
   refine oF_ 6 48 #[YY,YY,YY,YY,YY,YY,YY,ZZ,ZZ,ZZ,ZZ,ZZ,ZZ] ?_
   refine oF_ 7 49 #[YY,YY,YY,YY,YY,YY,YY,YY,ZZ,ZZ,ZZ,ZZ,ZZ] ?_
   refine oF_ 8 50 #[YY,YY,YY,YY,YY,YY,YY,YY,YY,ZZ,ZZ,ZZ,ZZ] ?_
   refine oF_ 9 51 #[YY,YY,YY,YY,YY,YY,YY,YY,YY,YY,ZZ,ZZ,ZZ] ?_
   refine oF_ 10 52 #[YY,YY,YY,YY,YY,YY,YY,YY,YY,YY,YY,ZZ,ZZ] ?_
   refine oF_ 11 53 #[YY,YY,YY,YY,YY,YY,YY,YY,YY,YY,YY,YY,ZZ] ?_
   refine pU_ 12 54 #[YY,YY,YY,YY,YY,YY,YY,YY,YY,YY,YY,YY,YY] ?_
   refine done_ (done_of HT_.out (by kernel_rfl)) ?_
   try go_wp2
   go_roundg k1
   case measure => have := HK1.out; omega
   case rel => exact ⟨(x7_1), (wrap64 (x9_1 + 1)), rZ_, H', ⟨by have := HK1.out; omega⟩, ⟨kR_ HO_7.out⟩, ⟨kV_ HO_8.out⟩, ⟨bX_ BK316.out⟩, ⟨bS1_ GE316.out⟩⟩
  rw [if_neg c10] at H
  exact absurd H (by simp)
 rw [if_neg c9] at H
 have c9b0 := decide_eq_false c9
 clear c9
 obtain rfl := Option.some.inj H
 obtain ⟨Ao37, co37, eo37⟩ := Kd.V_slice HO_8.out
 subst eo37
 go_wp2
 go_ret
 exact ⟨_, by first | rfl | (simp [errW_none, errW_some] <;> rfl) | (simp [*, errW_none, errW_some] <;> rfl), by (with_reducible repeat (first | apply Kd.R_alloc | apply Kd.R_drewN | apply Kd.R_drew)); exact HO_7.out, bS1_ GE316.out⟩
def catchmentref05_Some.f (k : Nat) (l0 : List (S117)) (l1 : List (S103)) (a2_0 a2_1 : BA) (a3 : Int) : Option ((List (S103))) := (catchmentref05_Entries.f k l0 l1 a2_0 a2_1).bind fun t337 => (if a3 < 0 then (if (t337.length : Int) > 0 then (if 0 ≤ (t337.length : Int) then (some (t337.take (0 : Int).toNat)) else (none)) else (some t337)) else (if (t337.length : Int) > a3 then (if 0 ≤ a3 then (if a3 ≤ (t337.length : Int) then (some (t337.take (a3 : Int).toNat)) else (none)) else (none)) else (some t337)))
set_option maxHeartbeats 8000000 in
set_option maxRecDepth 100000 in
theorem catchmentref05_Some.calls (k : Nat) (A0 : Option Addr) (c0 : Nat) (l0 : List (S117)) (A1 : Option Addr) (c1 : Nat) (l1 : List (S103)) (a2_0 a2_1 : BA) (a3 : Int) (r : List (S103)) (w : World) (hr0 : Kd.C k117 w A0 l0.length l0) (hc0 : l0.length ≤ c0) (hr1 : Kd.C k103 w A1 l1.length l1) (hc1 : l1.length ≤ c1) (h : catchmentref05_Some.f k l0 l1 a2_0 a2_1 a3 = some r) :
  Calls Try.prog 70 #[.slice A0 l0.length c0, .slice A1 l1.length c1, .agg #[.string a2_0, .string a2_1], .int .i64 a3] w fun e w' => ∃ v0_ : Value, e = .returned (v0_) ∧ Kd.R k103 103 w' w.heap.size (fun _ => True) v0_ r ∧ Below w.heap.size w w' := by
 have hu29 := Try.underlying29
 have HR0 := aK_ hr0
 have HC0 := aK_ hc0
 clear hr0 hc0
 have HR1 := aK_ hr1
 have HC1 := aK_ hc1
 clear hr1 hc1
 have HB := aK_ (Below.refl w.heap.size w)
 have H : ((catchmentref05_Entries.f k l0 l1 a2_0 a2_1).bind fun t337 => (if a3 < 0 then (if (t337.length : Int) > 0 then (if 0 ≤ (t337.length : Int) then (some (t337.take (0 : Int).toNat)) else (none)) else (some t337)) else (if (t337.length : Int) > a3 then (if 0 ≤ a3 then (if a3 ≤ (t337.length : Int) then (some (t337.take (a3 : Int).toNat)) else (none)) else (none)) else (some t337)))) = some r := h
 clear h
 replace H := Option.bind_eq_some_iff.mp H
 obtain ⟨t337, A50, H⟩ := H
 replace H : (if a3 < 0 then (if (t337.length : Int) > 0 then (if 0 ≤ (t337.length : Int) then (some (t337.take (0 : Int).toNat)) else (none)) else (some t337)) else (if (t337.length : Int) > a3 then (if 0 ≤ a3 then (if a3 ≤ (t337.length : Int) then (some (t337.take (a3 : Int).toNat)) else (none)) else (none)) else (some t337))) = some r := H
 have A5 := aK_ A50
 clear A50
 by_cases c6 : a3 < 0
 ·rw [if_pos c6] at H
  have c6b0 := decide_eq_true c6
  clear c6
  by_cases c7 : (t337.length : Int) > 0
  ·rw [if_pos c7] at H
   have c7b0 : decide (0 < (t337.length : Int)) = true := decide_eq_true c7
   have c7b1 : decide (0 < t337.length) = true := decide_eq_true (by omega)
   clear c7
   by_cases c8 : 0 ≤ (t337.length : Int)
   ·rw [if_pos c8] at H
    have c8b0 := eq_true c8
    have c8b1 := decide_eq_true c8
    clear c8
    obtain ⟨y340, hy340⟩ : ∃ y_ : List (S103), y_ = (t337.take (0 : Int).toNat) := ⟨_, rfl⟩
    replace H : (some y340) = some r := by first | (rw [hy340]; with_reducible exact H) | (have H2_ := (Option.bind_some _ _).symm.trans H; rw [hy340]; with_reducible exact H2_) | (have H2_ := (Option.bind_some _ _).symm.trans H; with_reducible exact H2_) | with_reducible exact H | (rw [hy340]; exact H) | exact H
    have Ny340 := aK_ hy340
    clear hy340
    obtain rfl := Option.some.inj H
    go_enter Try.func70, Try.ntmps70
    go_wp2_with (first | ((with_reducible refine gate_dst (N := 6) rfl ?_); refine bE_ 6 #[.string a2_0, .string a2_1] 29 ?_; intro gb336 hg w9 hbox hb; have BK336 := aK_ (hbox); have GW336 := aK_ (gE_ hg); replace HB := aK_ (wT bW_ hb); have GE336 := GW336; clear hb hbox hg; have hz10 := cq2_ BK336.out) | ((with_reducible refine gate_callee (f := 30) rfl ?_); refine goesL_ (some 13) rfl rfl Try.func30 (by kernel_rfl) rfl #[.slice A0 l0.length c0, .slice A1 l1.length c1, .agg #[.string a2_0, .string a2_1]] rfl mS_ ?_; (with_reducible refine (catchmentref05_Entries.calls k _ _ l0 _ _ l1 a2_0 a2_1 t337 _ ?side1 ?side2 ?side3 ?side4 A5.out).mono ?_); (case side1 => repeat (first | exact (Kd.C_below HR0.out HB.out) | (with_reducible refine Kd.C_alloc ?_ _) | (with_reducible refine Kd.C_drewN ?_ _) | (with_reducible refine Kd.C_drew ?_))); (case side2 => exact HC0.out); (case side3 => repeat (first | exact (Kd.C_below HR1.out HB.out) | (with_reducible refine Kd.C_alloc ?_ _) | (with_reducible refine Kd.C_drewN ?_ _) | (with_reducible refine Kd.C_drew ?_))); (case side4 => exact HC1.out); rintro e w11 ⟨v338, rfl, ho0, hb⟩; refine ⟨_, rfl, ?_⟩; have HO339 := aK_ (Kd.R_lower ho0 (wZ (bS1_ GE336.out))); replace BK336 := aK_ (bB (bX_ BK336.out) hb); replace HB := aK_ (wT (bS1_ GE336.out) hb); (try clear hb); (try clear hb2); (try clear hk); (try clear hi); (try clear ho0); obtain ⟨Ao12, co12, eo12⟩ := Kd.R_slice HO339.out; subst eo12; have q13 : (0 : Int) ≤ ((t337.length : Int) : Int) := pD_; obtain ⟨i013, hi013, _, hsz13, _⟩ := info_parts info103; have hcut13 := cut_to (P := Try.prog) 30 103 .i64 Try.underlying30 hi013 Ao12 t337.length co12 0 (by omega) q13 (Kd.R_reads' HO339.out).2.1; have hr13 := Kd.R_take (m := (0 : Int).toNat) HO339.out (by omega); have hy13 : y340.length = (0 : Int).toNat := (by rw [Ny340.out, mA4]; omega); rw [← Ny340.out] at hr13; rw [← hy13] at hr13 hcut13; clear hy13 hi013 hsz13 HO339; have HO342 := aK_ hr13; clear hr13; replace q13 := eq_true q13))
    go_ret
    exact ⟨_, by first | rfl | (simp [errW_none, errW_some] <;> rfl) | (simp [*, errW_none, errW_some] <;> rfl), by (with_reducible repeat (first | apply Kd.R_alloc | apply Kd.R_drewN | apply Kd.R_drew)); exact HO342.out, bS1_ GE336.out⟩
   rw [if_neg c8] at H
   exact absurd H (by simp)
  rw [if_neg c7] at H
  have c7b0 : decide (0 < (t337.length : Int)) = false := decide_eq_false c7
  have c7b1 : decide (0 < t337.length) = false := decide_eq_false (by omega)
  clear c7
  obtain rfl := Option.some.inj H
  go_enter Try.func70, Try.ntmps70
  go_wp2_with (first | ((with_reducible refine gate_dst (N := 6) rfl ?_); refine bE_ 6 #[.string a2_0, .string a2_1] 29 ?_; intro gb336 hg w14 hbox hb; have BK336 := aK_ (hbox); have GW336 := aK_ (gE_ hg); replace HB := aK_ (wT bW_ hb); have GE336 := GW336; clear hb hbox hg; have hz15 := cq2_ BK336.out) | ((with_reducible refine gate_callee (f := 30) rfl ?_); refine goesL_ (some 13) rfl rfl Try.func30 (by kernel_rfl) rfl #[.slice A0 l0.length c0, .slice A1 l1.length c1, .agg #[.string a2_0, .string a2_1]] rfl mS_ ?_; (with_reducible refine (catchmentref05_Entries.calls k _ _ l0 _ _ l1 a2_0 a2_1 t337 _ ?side1 ?side2 ?side3 ?side4 A5.out).mono ?_); (case side1 => repeat (first | exact (Kd.C_below HR0.out HB.out) | (with_reducible refine Kd.C_alloc ?_ _) | (with_reducible refine Kd.C_drewN ?_ _) | (with_reducible refine Kd.C_drew ?_))); (case side2 => exact HC0.out); (case side3 => repeat (first | exact (Kd.C_below HR1.out HB.out) | (with_reducible refine Kd.C_alloc ?_ _) | (with_reducible refine Kd.C_drewN ?_ _) | (with_reducible refine Kd.C_drew ?_))); (case side4 => exact HC1.out); rintro e w16 ⟨v338, rfl, ho0, hb⟩; refine ⟨_, rfl, ?_⟩; have HO339 := aK_ (Kd.R_lower ho0 (wZ (bS1_ GE336.out))); replace BK336 := aK_ (bB (bX_ BK336.out) hb); replace HB := aK_ (wT (bS1_ GE336.out) hb); (try clear hb); (try clear hb2); (try clear hk); (try clear hi); (try clear ho0); obtain ⟨Ao17, co17, eo17⟩ := Kd.R_slice HO339.out; subst eo17))
  go_ret
  exact ⟨_, by first | rfl | (simp [errW_none, errW_some] <;> rfl) | (simp [*, errW_none, errW_some] <;> rfl), by (with_reducible repeat (first | apply Kd.R_alloc | apply Kd.R_drewN | apply Kd.R_drew)); exact HO339.out, bS1_ GE336.out⟩
 rw [if_neg c6] at H
 have c6b0 := decide_eq_false c6
 clear c6
 by_cases c18 : (t337.length : Int) > a3
 ·rw [if_pos c18] at H
  have c18b0 : decide (a3 < (t337.length : Int)) = true := decide_eq_true c18
  clear c18
  by_cases c19 : 0 ≤ a3
  ·rw [if_pos c19] at H
   have c19b0 := eq_true c19
   have c19b1 := decide_eq_true c19
   clear c19
   by_cases c20 : a3 ≤ (t337.length : Int)
   ·rw [if_pos c20] at H
    have c20b0 := eq_true c20
    have c20b1 := decide_eq_true c20
    clear c20
    obtain ⟨y343, hy343⟩ : ∃ y_ : List (S103), y_ = (t337.take (a3 : Int).toNat) := ⟨_, rfl⟩
    replace H : (some y343) = some r := by first | (rw [hy343]; with_reducible exact H) | (have H2_ := (Option.bind_some _ _).symm.trans H; rw [hy343]; with_reducible exact H2_) | (have H2_ := (Option.bind_some _ _).symm.trans H; with_reducible exact H2_) | with_reducible exact H | (rw [hy343]; exact H) | exact H
    have Ny343 := aK_ hy343
    clear hy343
    obtain rfl := Option.some.inj H
    go_enter Try.func70, Try.ntmps70
    go_wp2_with (first | ((with_reducible refine gate_dst (N := 6) rfl ?_); refine bE_ 6 #[.string a2_0, .string a2_1] 29 ?_; intro gb336 hg w21 hbox hb; have BK336 := aK_ (hbox); have GW336 := aK_ (gE_ hg); replace HB := aK_ (wT bW_ hb); have GE336 := GW336; clear hb hbox hg; have hz22 := cq2_ BK336.out) | ((with_reducible refine gate_callee (f := 30) rfl ?_); refine goesL_ (some 13) rfl rfl Try.func30 (by kernel_rfl) rfl #[.slice A0 l0.length c0, .slice A1 l1.length c1, .agg #[.string a2_0, .string a2_1]] rfl mS_ ?_; (with_reducible refine (catchmentref05_Entries.calls k _ _ l0 _ _ l1 a2_0 a2_1 t337 _ ?side1 ?side2 ?side3 ?side4 A5.out).mono ?_); (case side1 => repeat (first | exact (Kd.C_below HR0.out HB.out) | (with_reducible refine Kd.C_alloc ?_ _) | (with_reducible refine Kd.C_drewN ?_ _) | (with_reducible refine Kd.C_drew ?_))); (case side2 => exact HC0.out); (case side3 => repeat (first | exact (Kd.C_below HR1.out HB.out) | (with_reducible refine Kd.C_alloc ?_ _) | (with_reducible refine Kd.C_drewN ?_ _) | (with_reducible refine Kd.C_drew ?_))); (case side4 => exact HC1.out); rintro e w23 ⟨v338, rfl, ho0, hb⟩; refine ⟨_, rfl, ?_⟩; have HO339 := aK_ (Kd.R_lower ho0 (wZ (bS1_ GE336.out))); replace BK336 := aK_ (bB (bX_ BK336.out) hb); replace HB := aK_ (wT (bS1_ GE336.out) hb); (try clear hb); (try clear hb2); (try clear hk); (try clear hi); (try clear ho0); obtain ⟨Ao24, co24, eo24⟩ := Kd.R_slice HO339.out; subst eo24; have q25 : (a3 : Int) ≤ ((t337.length : Int) : Int) := pD_; obtain ⟨i025, hi025, _, hsz25, _⟩ := info_parts info103; have hcut25 := cut_to (P := Try.prog) 30 103 .i64 Try.underlying30 hi025 Ao24 t337.length co24 a3 (pD_) q25 (Kd.R_reads' HO339.out).2.1; have hr25 := Kd.R_take (m := (a3 : Int).toNat) HO339.out (by omega); have hy25 : y343.length = (a3 : Int).toNat := (by rw [Ny343.out, mA4]; omega); rw [← Ny343.out] at hr25; rw [← hy25] at hr25 hcut25; clear hy25 hi025 hsz25 HO339; have HO345 := aK_ hr25; clear hr25; replace q25 := eq_true q25))
    go_ret
    exact ⟨_, by first | rfl | (simp [errW_none, errW_some] <;> rfl) | (simp [*, errW_none, errW_some] <;> rfl), by (with_reducible repeat (first | apply Kd.R_alloc | apply Kd.R_drewN | apply Kd.R_drew)); exact HO345.out, bS1_ GE336.out⟩
   rw [if_neg c20] at H
   exact absurd H (by simp)
  rw [if_neg c19] at H
  exact absurd H (by simp)
 rw [if_neg c18] at H
 have c18b0 : decide (a3 < (t337.length : Int)) = false := decide_eq_false c18
 clear c18
 obtain rfl := Option.some.inj H
 go_enter Try.func70, Try.ntmps70
 go_wp2_with (first | ((with_reducible refine gate_dst (N := 6) rfl ?_); refine bE_ 6 #[.string a2_0, .string a2_1] 29 ?_; intro gb336 hg w26 hbox hb; have BK336 := aK_ (hbox); have GW336 := aK_ (gE_ hg); replace HB := aK_ (wT bW_ hb); have GE336 := GW336; clear hb hbox hg; have hz27 := cq2_ BK336.out) | ((with_reducible refine gate_callee (f := 30) rfl ?_); refine goesL_ (some 13) rfl rfl Try.func30 (by kernel_rfl) rfl #[.slice A0 l0.length c0, .slice A1 l1.length c1, .agg #[.string a2_0, .string a2_1]] rfl mS_ ?_; (with_reducible refine (catchmentref05_Entries.calls k _ _ l0 _ _ l1 a2_0 a2_1 t337 _ ?side1 ?side2 ?side3 ?side4 A5.out).mono ?_); (case side1 => repeat (first | exact (Kd.C_below HR0.out HB.out) | (with_reducible refine Kd.C_alloc ?_ _) | (with_reducible refine Kd.C_drewN ?_ _) | (with_reducible refine Kd.C_drew ?_))); (case side2 => exact HC0.out); (case side3 => repeat (first | exact (Kd.C_below HR1.out HB.out) | (with_reducible refine Kd.C_alloc ?_ _) | (with_reducible refine Kd.C_drewN ?_ _) | (with_reducible refine Kd.C_drew ?_))); (case side4 => exact HC1.out); rintro e w28 ⟨v338, rfl, ho0, hb⟩; refine ⟨_, rfl, ?_⟩; have HO339 := aK_ (Kd.R_lower ho0 (wZ (bS1_ GE336.out))); replace BK336 := aK_ (bB (bX_ BK336.out) hb); replace HB := aK_ (wT (bS1_ GE336.out) hb); (try clear hb); (try clear hb2); (try clear hk); (try clear hi); (try clear ho0); obtain ⟨Ao29, co29, eo29⟩ := Kd.R_slice HO339.out; subst eo29))
 go_ret
 exact ⟨_, by first | rfl | (simp [errW_none, errW_some] <;> rfl) | (simp [*, errW_none, errW_some] <;> rfl), by (with_reducible repeat (first | apply Kd.R_alloc | apply Kd.R_drewN | apply Kd.R_drew)); exact HO339.out, bS1_ GE336.out⟩
end Go.Proofs.Ytljnlnbopohghaa.P
end
