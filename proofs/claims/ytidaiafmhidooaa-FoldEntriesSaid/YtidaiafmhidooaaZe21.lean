/- Texts of this seat's own and of the kit's print program, of one claim: only what the claim uses (laid by wip/tools/shake.py; Lean checks them). -/
import Derived.Test.YtidaiafmhidooaaZe20
import Derived.Test.YtidaiafmhidooaaZe2
import Derived.Test.YtidaiafmhidooaaZe7
section
set_option linter.unusedVariables false
set_option linter.unusedSimpArgs false
namespace Go.Proofs.Ytidaiafmhidooaa.Fo
open Go.RowKit Go.Shelf Go.Proofs.YtidaiafmhidooaaW.PrintWords Go.Proofs.YtidaiafmhidooaaW.PrintLast Go.Proofs.YtidaiafmhidooaaW.PrintMore Go.Proofs.Ytidaiafmhidooaa.Own Go.Proofs.Ytidaiafmhidooaa.Ord Go.Proofs.Ytidaiafmhidooaa Go.Proofs.Ytidaiafmhidooaa.P
open Go.Proofs.Ytidaiafmhidooaa.OrdSs (cell_two_new own_empty run_eql_func_nil)
attribute [local go_sem] Oper.semAt_some
set_option maxHeartbeats 2000000
set_option maxRecDepth 100000
theorem lawall_any {w : World} {A A2 : Option Addr} {c c2 : Nat} {l : List Ms} {e : List En} (f t : ByteArray) (hC : Kd.C P.k33 w A l.length l) (hcap : l.length ≤ c) (hC2 : Kd.C P.k55 w A2 e.length e) (hcap2 : e.length ≤ c2) (hlen : l.length ≤ 100000) (hlen2 : e.length ≤ 100000) (hsz : ∀ x ∈ l, x.f2.size ≤ 140737488351232) :
    Calls Try.prog 28 #[.slice A l.length c, .slice A2 e.length c2, .agg #[.string f, .string t]] w fun r w' => ∃ v, r = .returned v ∧ P.k55.R 55 w' w.heap.size (fun _ => True) v ((heldV f t (foldV l e)).map toE) ∧ Below w.heap.size w w' := by
  have hur := Try.underlying38
  have hnil := fun f x y w => run_eql_func_nil _ _ _ _ f x y w Try.underlying71
  obtain ⟨i0, hi, hz0, hz1, hz2⟩ := info_parts P.info55
  refine (callsIn_wide (n := 5)).1 ?_
  refine callsIn_of_wp_marks Try.func28 rfl trivial ?_ rfl
  simp only [Try.ntmps28, List.size_toArray, List.length_cons, List.length_nil, Nat.reduceAdd, Nat.reduceSub, Array.replicate_succ, Array.replicate_zero, List.push_toArray, List.append_toArray, List.nil_append, List.cons_append]
  gi_wp2_with (refine ⟨trivial, ?_⟩; gi_at_call 59; refine (foldall_made _ A A2 l.length c e.length c2 f t _).mono ?_; rintro r w' ⟨rfl, rfl⟩)
  have bO := Boxed.new ((w.alloc (.cells #[.string f, .string t] 38)).alloc (.cells #[] 55)) 36 (.slice (some ⟨w.heap.size + 1, 0, none⟩) 0 0)
  have oE : (((w.alloc (.cells #[.string f, .string t] 38)).alloc (.cells #[] 55)).alloc (.cells #[.slice (some ⟨w.heap.size + 1, 0, none⟩) 0 0] 36)).ownsRow w.heap.size 55 2 (.slice (some ⟨w.heap.size + 1, 0, none⟩) 0 0) 0 [] := by
    have h1 := blk_new (w.alloc (.cells #[.string f, .string t] 38)) (.cells #[] 55)
    rw [World.size_alloc] at h1
    exact (own_empty h1 (by omega)).alloc _
  rw [World.size_alloc, World.size_alloc] at bO
  generalize hw1 : ((w.alloc (.cells #[.string f, .string t] 38)).alloc (.cells #[] 55)).alloc (.cells #[.slice (some ⟨w.heap.size + 1, 0, none⟩) 0 0] 36) = w1 at bO oE ⊢
  have hs1 : w1.heap.size = w.heap.size + 1 + 1 + 1 := by rw [← hw1]; simp
  have hB1 : Below w.heap.size w w1 := by rw [← hw1]; exact (((Below.refl _ w).alloc (Nat.le_refl _) _).alloc (by simp) _).alloc (by simp; omega) _
  have g1 := blk_alloc (blk_alloc (blk_new w1 (.cells #[.slice A l.length c] 22)) (.cells #[.slice A2 e.length c2] 36)) (.cells #[.string f, .string t] 38)
  have g2 := blk_alloc (blk_new (w1.alloc (.cells #[.slice A l.length c] 22)) (.cells #[.slice A2 e.length c2] 36)) (.cells #[.string f, .string t] 38)
  have g3 := blk_new ((w1.alloc (.cells #[.slice A l.length c] 22)).alloc (.cells #[.slice A2 e.length c2] 36)) (.cells #[.string f, .string t] 38)
  rw [World.size_alloc] at g2
  rw [World.size_alloc, World.size_alloc] at g3
  have bO2 := ((bO.alloc (.cells #[.slice A l.length c] 22)).alloc (.cells #[.slice A2 e.length c2] 36)).alloc (.cells #[.string f, .string t] 38)
  have oE2 := ((oE.alloc (.cells #[.slice A l.length c] 22)).alloc (.cells #[.slice A2 e.length c2] 36)).alloc (.cells #[.string f, .string t] 38)
  have hB2 : Below w.heap.size w (((w1.alloc (.cells #[.slice A l.length c] 22)).alloc (.cells #[.slice A2 e.length c2] 36)).alloc (.cells #[.string f, .string t] 38)) :=
    ((hB1.alloc (by omega) _).alloc (by simp; omega) _).alloc (by simp; omega) _
  generalize hw2 : ((w1.alloc (.cells #[.slice A l.length c] 22)).alloc (.cells #[.slice A2 e.length c2] 36)).alloc (.cells #[.string f, .string t] 38) = w2 at g1 g2 g3 bO2 oE2 hB2 ⊢
  have hs2 : w2.heap.size = w.heap.size + 1 + 1 + 1 + 1 + 1 + 1 := by rw [← hw2]; simp; omega
  rw [hs1] at g1 g2 g3
  clear hw1 hw2 bO oE
  have hIt := foldall_iter 4 (S := fun k => k < w.heap.size ∨ k = w.heap.size + 1 + 1 + 1 ∨ k = w.heap.size + 1 + 1 + 1 + 1 ∨ k = w.heap.size + 1 + 1 + 1 + 1 + 1) hB2 hC hcap hC2 hcap2 hlen hlen2 hsz (by intro k hk; omega) (fun k hk => .inl hk) (.inr (.inr (.inr rfl))) (.inr (.inl rfl)) (.inr (.inr (.inl rfl))) g3 g1 g2
  have hhl := held_len f t l e
  have hmx : maxLen = 9223372036854775807 := rfl
  apply It.range_iter rfl (by omega) (gf := 86) (lb := #[.pointer (some ⟨w.heap.size + 1 + 1 + 1 + 1 + 1, 0, none⟩), .pointer (some ⟨w.heap.size + 1 + 1 + 1, 0, none⟩), .pointer (some ⟨w.heap.size + 1 + 1 + 1 + 1, 0, none⟩)]) rfl trivial (enters_of Try.func86 (by kernel_rfl) rfl)
    hIt (It.FrM.refl _ _) (fun k => k = w.heap.size + 1 ∨ k = w.heap.size + 1 + 1) (fun k hk => ⟨by omega, by omega⟩) (fun k hk => by omega) (fun _ => rfl)
    (fun pre M V => It.OutC 36 55 2 w.heap.size (w.heap.size + 1 + 1) pre.length (flatE pre) M V) (fun _ _ _ _ => False)
    (It.OutC.stab _ _ _ _ _ _ _ _) (fun _ _ _ _ _ h _ => h) ⟨_, bO2, oE2, .inr rfl, fun g hg => .inl (by simpa [Value.ownBlock] using hg.symm)⟩
  case hassign =>
    intro ll x V K hK
    gi_wp2
    exact hK
  case hbody =>
    rintro ll pre x M1 V ⟨v, hv, hrow, hMB, hMg⟩ hMb hF hlt
    have hc1 := hv.cell
    have hsV := hF.size
    gi_wp2_with (gi_at_builtin; refine wpListIn_append_own_at _ rfl _ _ 36 rfl w.heap.size 55 i0 (.agg #[(.string ⟨#[]⟩), (.string ⟨#[]⟩)]) 2 32 underE hi hz0 hz1 hz2 rfl (by decide) _ _ _ rfl (hrow.alloc _) ⟨V.heap.size, 0, none⟩ 1 1 [.string x.1, .string x.2] rfl rfl (cell_two_new _ _ _ _) (by simp [Value.oneCell']) (by omega) (by omega) (by simp; omega) ?_; intro v' w1 hown' hgrow _ hat; obtain ⟨g', cap', rfl⟩ := ownsRow_succ hown'; obtain ⟨hv1, hq⟩ := It.OutC.next hv hrow hMB hMg (fun k hk => (hMb k hk).2) (by decide) (by omega) (by omega) hown' hgrow hat; have hc2 := hv1.cell; have hf2 := hv1.frozen)
    obtain ⟨M', q1, q2, q3⟩ := hq
    exact ⟨M', q1, q2, by show It.OutC _ _ _ _ _ (pre ++ [x]).length (flatE (pre ++ [x])) _ _; rw [List.length_append, flatE_snoc]; exact q3⟩
  case hstop =>
    intro D cd pre M1 V _ _ _ _ _ _ h _
    exact h.elim
  case hdone =>
    rintro D ys M1 V hD hDV hDM hMb hF rfl ⟨v, hv, hrow, hMB, hMg⟩ hK
    have hc1 := hv.cell
    have hBV : Below w.heap.size w V := hB2.trans (hF.below (base := w.heap.size) (fun k hk => by omega) (by omega))
    gi_wp2
    refine ⟨by simp, .inl ⟨_, _, rfl, run_takeDeferred hK, ?_⟩⟩
    exact ⟨_, results_tmp rfl _ _ _, v, rfl, R_of_flatE (ownsRow_putObj hrow _ hK rfl), hBV.trans (belowK_b (w := w) (Nat.le_refl _) V D _ _ (by omega) hK rfl rfl)⟩
end Go.Proofs.Ytidaiafmhidooaa.Fo
end
section
set_option linter.unusedVariables false
set_option linter.unusedSimpArgs false
namespace Go.Proofs.Ytidaiafmhidooaa.Fo
open Go.RowKit Go.Proofs.YtidaiafmhidooaaW.PrintWords Go.Proofs.YtidaiafmhidooaaW.PrintLast Go.Proofs.YtidaiafmhidooaaW.PrintMore Go.Proofs.Ytidaiafmhidooaa.Own Go.Proofs.Ytidaiafmhidooaa
def okF (l : List Ms) (e : List En) : Bool := decide (l.length ≤ 100000) && decide (e.length ≤ 100000) && l.all (fun x => decide (x.f2.size ≤ 140737488351232))
theorem okF_iff {l : List Ms} {e : List En} : okF l e = true ↔ l.length ≤ 100000 ∧ e.length ≤ 100000 ∧ ∀ x ∈ l, x.f2.size ≤ 140737488351232 := by
  unfold okF
  rw [Bool.and_eq_true, Bool.and_eq_true, decide_eq_true_eq, decide_eq_true_eq, List.all_eq_true]
  simp only [decide_eq_true_eq, and_assoc]
def entriesF (l : List Ms) (e : List En) (f t : ByteArray) : Option (List En) := if okF l e = true then some ((heldV f t (foldV l e)).map toE) else none
def someF (l : List Ms) (e : List En) (f t : ByteArray) (n : Int) : Option (List En) := if okF l e = true then some (((heldV f t (foldV l e)).take n.toNat).map toE) else none
def changedF (l : List Ms) (e : List En) : Option (List ByteArray) := if okF l e = true then some (((bothB (tabV e) (foldV l e)).map (·.1)).filter (chg (tabV e) (foldV l e))) else none
section
variable {A0 A1 : Option Addr} {c0 c1 : Nat} {l0 : List Ms} {l1 : List En} {w : World}
theorem entriesF_calls {f t : ByteArray} {r : List En} (hr0 : Kd.C P.k33 w A0 l0.length l0) (hc0 : l0.length ≤ c0) (hr1 : Kd.C P.k55 w A1 l1.length l1) (hc1 : l1.length ≤ c1) (h : entriesF l0 l1 f t = some r) :
    Calls Try.prog 25 #[.slice A0 l0.length c0, .slice A1 l1.length c1, .agg #[.string f, .string t]] w fun e w' => ∃ v0_ : Value, e = .returned (v0_) ∧ Kd.R P.k55 55 w' w.heap.size (fun _ => True) v0_ r ∧ Below w.heap.size w w' := by
  unfold entriesF at h
  split at h
  · rename_i hq
    cases h
    obtain ⟨h1, h2, h3⟩ := okF_iff.1 hq
    exact entries_any f t hr0 hc0 hr1 hc1 h1 h2 h3
  · cases h
theorem someF_calls {f t : ByteArray} {n : Int} {r : List En} (hr0 : Kd.C P.k33 w A0 l0.length l0) (hc0 : l0.length ≤ c0) (hr1 : Kd.C P.k55 w A1 l1.length l1) (hc1 : l1.length ≤ c1) (h : someF l0 l1 f t n = some r) :
    Calls Try.prog 29 #[.slice A0 l0.length c0, .slice A1 l1.length c1, .agg #[.string f, .string t], .int .i64 n] w fun e w' => ∃ v0_ : Value, e = .returned (v0_) ∧ Kd.R P.k55 55 w' w.heap.size (fun _ => True) v0_ r ∧ Below w.heap.size w w' := by
  unfold someF at h
  split at h
  · rename_i hq
    cases h
    obtain ⟨h1, h2, h3⟩ := okF_iff.1 hq
    exact some_any f t n hr0 hc0 hr1 hc1 h1 h2 h3
  · cases h
theorem changedF_calls {r : List ByteArray} (hr0 : Kd.C P.k33 w A0 l0.length l0) (hc0 : l0.length ≤ c0) (hr1 : Kd.C P.k55 w A1 l1.length l1) (hc1 : l1.length ≤ c1) (h : changedF l0 l1 = some r) :
    Calls Try.prog 32 #[.slice A0 l0.length c0, .slice A1 l1.length c1] w fun e w' => ∃ v0_ : Value, e = .returned (v0_) ∧ Kd.R Kd.string 9 w' w.heap.size (fun _ => True) v0_ r ∧ Below w.heap.size w w' := by
  unfold changedF at h
  split at h
  · rename_i hq
    cases h
    obtain ⟨h1, h2, h3⟩ := okF_iff.1 hq
    exact changed_any hr0 hc0 hr1 hc1 h1 h2 h3
  · cases h
theorem lawallF_calls {f t : ByteArray} {r : List En} (hr0 : Kd.C P.k33 w A0 l0.length l0) (hc0 : l0.length ≤ c0) (hr1 : Kd.C P.k55 w A1 l1.length l1) (hc1 : l1.length ≤ c1) (h : entriesF l0 l1 f t = some r) :
    Calls Try.prog 28 #[.slice A0 l0.length c0, .slice A1 l1.length c1, .agg #[.string f, .string t]] w fun e w' => ∃ v0_ : Value, e = .returned (v0_) ∧ Kd.R P.k55 55 w' w.heap.size (fun _ => True) v0_ r ∧ Below w.heap.size w w' := by
  unfold entriesF at h
  split at h
  · rename_i hq
    cases h
    obtain ⟨h1, h2, h3⟩ := okF_iff.1 hq
    exact lawall_any f t hr0 hc0 hr1 hc1 h1 h2 h3
  · cases h
end
end Go.Proofs.Ytidaiafmhidooaa.Fo
end
section
namespace Go.Proofs.Ytidaiafmhidooaa.P
open Go.RowKit Go.Proofs.YtidaiafmhidooaaW.PrintWords Go.Proofs.YtidaiafmhidooaaW.PrintLast Go.Proofs.YtidaiafmhidooaaW.PrintMore Go.Proofs.Ytidaiafmhidooaa.Own
open Bool renaming true → YY, false → ZZ
open Go.Proofs.YtidaiafmhidooaaW.PrintWords renaming blk_cell → bC, blk_drewN → bN, blk_alloc → bA, pw_below_drewN → wN, blk_drew → bD, below_drew1 → w1, below_set → wS, below_alloc → wA, blk_below → bB, below_step → wT, below_size → wZ
open List renaming setIfInBounds_toArray → sA1, set_cons_zero → sA2, set_cons_succ → sA3, map_toArray → mA1, map_cons → mA2, map_nil → mA3, length_take → mA4, length_drop → mA5
attribute [local go_sem] max2_str max2_int min2_int max_two min_two max_three min_three max_four min_four   -- for this text's walks alone
set_option linter.unusedVariables false
set_option linter.unusedSimpArgs false
attribute [local go_sem high] eqA55
def fold_Entries.f (l0 : List S33) (l1 : List S55) (a2_0 : BA) (a2_1 : BA) : Option (List S55) := Fo.entriesF l0 l1 a2_0 a2_1
theorem fold_Entries.calls (A0 : Option Addr) (c0 : Nat) (l0 : List S33) (A1 : Option Addr) (c1 : Nat) (l1 : List S55) (a2_0 : BA) (a2_1 : BA) (r : List S55) (w : World) (hr0 : Kd.C k33 w A0 l0.length l0) (hc0 : l0.length ≤ c0) (hr1 : Kd.C k55 w A1 l1.length l1) (hc1 : l1.length ≤ c1) (h : fold_Entries.f l0 l1 a2_0 a2_1 = some r) :
  Calls Try.prog 25 #[.slice A0 l0.length c0, .slice A1 l1.length c1, .agg #[.string a2_0, .string a2_1]] w fun e w' => ∃ v0_ : Value, e = .returned (v0_) ∧ Kd.R k55 55 w' w.heap.size (fun _ => True) v0_ r ∧ Below w.heap.size w w' :=
 Fo.entriesF_calls hr0 hc0 hr1 hc1 h
def catchmentlaw05_live.f  : Option (Bool) := (fold_Entries.f (([(⟨1, 0, (⟨#[98]⟩ : BA), (⟨#[]⟩ : BA), (⟨#[50]⟩ : BA), 0⟩ : S33), (⟨4, 0, (⟨#[97]⟩ : BA), (⟨#[98]⟩ : BA), (⟨#[]⟩ : BA), 0⟩ : S33)] : List (S33))) (([(⟨(⟨#[97]⟩ : BA), (⟨#[49]⟩ : BA)⟩ : S55)] : List (S55))) (⟨#[]⟩ : BA) (⟨#[]⟩ : BA)).bind fun t287 => (if (t287.length : Int) = 1 then (if 0 < (t287.length : Int) then (some ((((rd_T55 t287 0).f0).toList) == ([98] : List UInt8) && ((((rd_T55 t287 0).f1).toList) == ([50] : List UInt8)))) else (none)) else (some false))
set_option maxHeartbeats 8000000 in
set_option maxRecDepth 100000 in
theorem catchmentlaw05_live.calls  (r : Bool) (w : World) (h : catchmentlaw05_live.f  = some r) :
  Calls Try.prog 23 #[] w fun e w' => e = .returned (.bool r) ∧ Below w.heap.size w w' := by
 have hu33 := Try.underlying33
 have hu55 := Try.underlying55
 have hu38 := Try.underlying38
 have HB := Aside0.mk (Below.refl w.heap.size w)
 have H : ((fold_Entries.f (([(⟨1, 0, (⟨#[98]⟩ : BA), (⟨#[]⟩ : BA), (⟨#[50]⟩ : BA), 0⟩ : S33), (⟨4, 0, (⟨#[97]⟩ : BA), (⟨#[98]⟩ : BA), (⟨#[]⟩ : BA), 0⟩ : S33)] : List (S33))) (([(⟨(⟨#[97]⟩ : BA), (⟨#[49]⟩ : BA)⟩ : S55)] : List (S55))) (⟨#[]⟩ : BA) (⟨#[]⟩ : BA)).bind fun t287 => (if (t287.length : Int) = 1 then (if 0 < (t287.length : Int) then (some ((((rd_T55 t287 0).f0).toList) == ([98] : List UInt8) && ((((rd_T55 t287 0).f1).toList) == ([50] : List UInt8)))) else (none)) else (some false))) = some r := h
 clear h
 obtain ⟨y281, hy281⟩ : ∃ y_ : List (S33), y_ = (([(⟨1, 0, (⟨#[98]⟩ : BA), (⟨#[]⟩ : BA), (⟨#[50]⟩ : BA), 0⟩ : S33), (⟨4, 0, (⟨#[97]⟩ : BA), (⟨#[98]⟩ : BA), (⟨#[]⟩ : BA), 0⟩ : S33)] : List (S33))) := ⟨_, rfl⟩
 replace H : ((fold_Entries.f y281 (([(⟨(⟨#[97]⟩ : BA), (⟨#[49]⟩ : BA)⟩ : S55)] : List (S55))) (⟨#[]⟩ : BA) (⟨#[]⟩ : BA)).bind fun t287 => (if (t287.length : Int) = 1 then (if 0 < (t287.length : Int) then (some ((((rd_T55 t287 0).f0).toList) == ([98] : List UInt8) && ((((rd_T55 t287 0).f1).toList) == ([50] : List UInt8)))) else (none)) else (some false))) = some r := by first | (rw [hy281]; with_reducible exact H) | (have H2_ := (Option.bind_some _ _).symm.trans H; rw [hy281]; with_reducible exact H2_) | (have H2_ := (Option.bind_some _ _).symm.trans H; with_reducible exact H2_) | with_reducible exact H | (rw [hy281]; exact H) | exact H
 have Ny281 := Aside0.mk hy281
 clear hy281
 obtain ⟨y284, hy284⟩ : ∃ y_ : List (S55), y_ = (([(⟨(⟨#[97]⟩ : BA), (⟨#[49]⟩ : BA)⟩ : S55)] : List (S55))) := ⟨_, rfl⟩
 replace H : ((fold_Entries.f y281 y284 (⟨#[]⟩ : BA) (⟨#[]⟩ : BA)).bind fun t287 => (if (t287.length : Int) = 1 then (if 0 < (t287.length : Int) then (some ((((rd_T55 t287 0).f0).toList) == ([98] : List UInt8) && ((((rd_T55 t287 0).f1).toList) == ([50] : List UInt8)))) else (none)) else (some false))) = some r := by first | (rw [hy284]; with_reducible exact H) | (have H2_ := (Option.bind_some _ _).symm.trans H; rw [hy284]; with_reducible exact H2_) | (have H2_ := (Option.bind_some _ _).symm.trans H; with_reducible exact H2_) | with_reducible exact H | (rw [hy284]; exact H) | exact H
 have Ny284 := Aside0.mk hy284
 clear hy284
 replace H := Option.bind_eq_some_iff.mp H
 obtain ⟨t287, A10, H⟩ := H
 replace H : (if (t287.length : Int) = 1 then (if 0 < (t287.length : Int) then (some ((((rd_T55 t287 0).f0).toList) == ([98] : List UInt8) && ((((rd_T55 t287 0).f1).toList) == ([50] : List UInt8)))) else (none)) else (some false)) = some r := H
 have A1 := Aside0.mk A10
 clear A10
 by_cases c2 : (t287.length : Int) = 1
 ·rw [if_pos c2] at H
  have c2b0 : ((t287.length : Int) == 1) = true := beq_iff_eq.mpr c2
  have c2b1 : ((t287.length : Int) != 1) = false := bne_eq_false_iff_eq.mpr c2
  clear c2
  by_cases c3 : 0 < (t287.length : Int)
  ·rw [if_pos c3] at H
   have c3b0 : decide (0 < (t287.length : Int)) = true := decide_eq_true c3
   have c3b1 : decide (0 < t287.length) = true := decide_eq_true (by omega)
   clear c3
   obtain rfl := Option.some.inj H
   go_enter Try.func23, Try.ntmps23
   go_wp2_with (first | ((with_reducible refine gate_dst (N := 4) rfl ?_); refine Kd.R_lit k33 _ 33 ?hg (N := 4) ?hd (xs := ([(⟨1, 0, (⟨#[98]⟩ : BA), (⟨#[]⟩ : BA), (⟨#[50]⟩ : BA), 0⟩ : S33), (⟨4, 0, (⟨#[97]⟩ : BA), (⟨#[98]⟩ : BA), (⟨#[]⟩ : BA), 0⟩ : S33)] : List (S33))) (inner := [.int .u8 1, .int .i64 0, .string (⟨#[98]⟩ : BA), .string (⟨#[]⟩ : BA), .string (⟨#[50]⟩ : BA), .int .u64 0, .int .u8 4, .int .i64 0, .string (⟨#[97]⟩ : BA), .string (⟨#[98]⟩ : BA), .string (⟨#[]⟩ : BA), .int .u64 0]) (ok := fun _ => True) (okp := fun _ => True) ?hr ?hp (fun _ hk => hk) trivial (Below.refl _ _) (Nat.le_refl _) (by simp) ?_; (case hd => rfl); (case hg => rfl); (case hr => first | (go_simp; done) | (go_simp; rfl)); (case hp => exact (Reps.c6 (show Kd.M k33 _ _ _ (⟨1, 0, (⟨#[98]⟩ : BA), (⟨#[]⟩ : BA), (⟨#[50]⟩ : BA), 0⟩ : S33) [.int .u8 1, .int .i64 0, .string (⟨#[98]⟩ : BA), .string (⟨#[]⟩ : BA), .string (⟨#[50]⟩ : BA), .int .u64 0] from (k33_mkM _ _ _ (⟨1, 0, (⟨#[98]⟩ : BA), (⟨#[]⟩ : BA), (⟨#[50]⟩ : BA), 0⟩ : S33) )) (Reps.c6 (show Kd.M k33 _ _ _ (⟨4, 0, (⟨#[97]⟩ : BA), (⟨#[98]⟩ : BA), (⟨#[]⟩ : BA), 0⟩ : S33) [.int .u8 4, .int .i64 0, .string (⟨#[97]⟩ : BA), .string (⟨#[98]⟩ : BA), .string (⟨#[]⟩ : BA), .int .u64 0] from (k33_mkM _ _ _ (⟨4, 0, (⟨#[97]⟩ : BA), (⟨#[98]⟩ : BA), (⟨#[]⟩ : BA), 0⟩ : S33) )) (Reps.none _ _)))); intro v282 w4 ho5 hb hg_ hnew_; clear hg_ hnew_; (first | rw [← Ny281.out] at ho5 | (simp only [Int.reduceToNat] at ho5; rw [← Ny281.out] at ho5)); have n0_ := Aside0.mk (Kd.R_lower ho5 (wZ (by repeat (first | (with_reducible first | exact HB.out | apply wA | apply wN | apply w1) | exact HB.out)))); have n1_ := Aside0.mk (wT (by repeat (first | (with_reducible first | exact HB.out | apply wA | apply wN | apply w1) | exact HB.out)) hb); clear HB; have HO283 := n0_; have HB := n1_; clear n0_ n1_; clear hb ho5) | ((with_reducible refine gate_dst (N := 6) rfl ?_); refine Kd.R_lit k55 _ 55 ?hg (N := 6) ?hd (xs := ([(⟨(⟨#[97]⟩ : BA), (⟨#[49]⟩ : BA)⟩ : S55)] : List (S55))) (inner := [.string (⟨#[97]⟩ : BA), .string (⟨#[49]⟩ : BA)]) (ok := fun _ => True) (okp := fun _ => True) ?hr ?hp (fun _ hk => hk) trivial (Below.refl _ _) (Nat.le_refl _) (by simp) ?_; (case hd => rfl); (case hg => rfl); (case hr => first | (go_simp; done) | (go_simp; rfl)); (case hp => exact (Reps.c2 (show Kd.M k55 _ _ _ (⟨(⟨#[97]⟩ : BA), (⟨#[49]⟩ : BA)⟩ : S55) [.string (⟨#[97]⟩ : BA), .string (⟨#[49]⟩ : BA)] from (k55_mkM _ _ _ (⟨(⟨#[97]⟩ : BA), (⟨#[49]⟩ : BA)⟩ : S55) )) (Reps.none _ _))); intro v285 w6 ho7 hb hg_ hnew_; clear hg_ hnew_; (first | rw [← Ny284.out] at ho7 | (simp only [Int.reduceToNat] at ho7; rw [← Ny284.out] at ho7)); have n0_ := Aside0.mk (Kd.R_below (by (with_reducible repeat (first | apply Kd.R_alloc | apply Kd.R_drewN | apply Kd.R_drew)); exact HO283.out) hb); have n1_ := Aside0.mk (Kd.R_lower ho7 (wZ (by repeat (first | (with_reducible first | exact HB.out | apply wA | apply wN | apply w1) | exact HB.out)))); have n2_ := Aside0.mk (wT (by repeat (first | (with_reducible first | exact HB.out | apply wA | apply wN | apply w1) | exact HB.out)) hb); clear HO283; clear HB; have HO283 := n0_; have HO286 := n1_; have HB := n2_; clear n0_ n1_ n2_; clear hb ho7; obtain ⟨Ao8, co8, eo8⟩ := Kd.R_slice HO283.out; subst eo8; obtain ⟨Ao9, co9, eo9⟩ := Kd.R_slice HO286.out; subst eo9) | ((with_reducible refine gate_callee (f := 25) rfl ?_); refine goesL_ (some 8) rfl rfl Try.func25 (by kernel_rfl) rfl #[.slice Ao8 y281.length co8, .slice Ao9 y284.length co9, .agg #[.string (⟨#[]⟩ : BA), .string (⟨#[]⟩ : BA)]] rfl (by (try simp only [mA1, mA2, mA3]); first | done | rfl | (simp only [mA5, mA4]; rfl)) ?_; (with_reducible refine (fold_Entries.calls _ _ y281 _ _ y284 (⟨#[]⟩ : BA) (⟨#[]⟩ : BA) t287 _ ?side1 ?side2 ?side3 ?side4 A1.out).mono ?_); (case side1 => repeat (first | exact (Kd.R_reads' HO283.out).2.2 | (with_reducible refine Kd.C_alloc ?_ _) | (with_reducible refine Kd.C_drewN ?_ _) | (with_reducible refine Kd.C_drew ?_))); (case side2 => exact (Kd.R_reads' HO283.out).2.1); (case side3 => repeat (first | exact (Kd.R_reads' HO286.out).2.2 | (with_reducible refine Kd.C_alloc ?_ _) | (with_reducible refine Kd.C_drewN ?_ _) | (with_reducible refine Kd.C_drew ?_))); (case side4 => exact (Kd.R_reads' HO286.out).2.1); rintro e w10 ⟨v288, rfl, ho0, hb⟩; refine ⟨_, rfl, ?_⟩; have n0_ := Aside0.mk (Kd.R_below (by (with_reducible repeat (first | apply Kd.R_alloc | apply Kd.R_drewN | apply Kd.R_drew)); exact HO283.out) hb); have n1_ := Aside0.mk (Kd.R_elder' (by (with_reducible repeat (first | apply Kd.R_alloc | apply Kd.R_drewN | apply Kd.R_drew)); exact HO286.out) (Kd.R_base ho0) hb); have n2_ := Aside0.mk (Kd.R_lower (Kd.R_new' ho0 (Kd.R_lt (by (with_reducible repeat (first | apply Kd.R_alloc | apply Kd.R_drewN | apply Kd.R_drew)); exact HO286.out))) (wZ (by repeat (first | (with_reducible first | exact HB.out | apply wA | apply wN | apply w1) | exact HB.out)))); have n3_ := Aside0.mk (wT (by repeat (first | (with_reducible first | exact HB.out | apply wA | apply wN | apply w1) | exact HB.out)) hb); clear HO283; clear HO286; clear HB; have HO283 := n0_; have HO286 := n1_; have HO289 := n2_; have HB := n3_; clear n0_ n1_ n2_ n3_; (try clear hb); (try clear hb2); (try clear hk); (try clear hi); (try clear ho0); obtain ⟨Ao11, co11, eo11⟩ := Kd.R_slice HO289.out; subst eo11; have p290 : 0 ≤ (0 : Int) := (by omega); have q290 : 0 < (t287.length : Int) := of_decide_eq_true (by first | (with_reducible assumption) | assumption); obtain ⟨ad290, e290, hx290_0, hx290_1⟩ := at_T55 (Kd.R_reads' HO289.out).2.2 0 p290 q290; cases e290; have qi290 : (0 < t287.length) = True := eq_true (by omega); (try rw [show ((0 : Int)).toNat = 0 from rfl] at hx290_0); (try rw [show 0 * 2 = 0 from rfl] at hx290_0); (try rw [Addr.add_zero'] at hx290_0); (try rw [show ((0 : Int)).toNat = 0 from rfl] at hx290_1); (try rw [show 0 * 2 = 0 from rfl] at hx290_1); (try rw [Addr.add_zero'] at hx290_1); replace p290 := eq_true p290; replace q290 := eq_true q290))
   go_ret
   exact ⟨by first | rfl | (simp [errW_none, errW_some] <;> rfl) | (simp [*, errW_none, errW_some] <;> rfl), by repeat (first | (with_reducible first | exact HB.out | apply wA | apply wN | apply w1) | exact HB.out)⟩
  ·rw [if_neg c3] at H
   exact absurd H (by simp)
 ·rw [if_neg c2] at H
  have c2b0 : ((t287.length : Int) == 1) = false := beq_eq_false_iff_ne.mpr c2
  have c2b1 : ((t287.length : Int) != 1) = true := bne_iff_ne.mpr c2
  obtain rfl := Option.some.inj H
  go_enter Try.func23, Try.ntmps23
  go_wp2_with (first | ((with_reducible refine gate_dst (N := 4) rfl ?_); refine Kd.R_lit k33 _ 33 ?hg (N := 4) ?hd (xs := ([(⟨1, 0, (⟨#[98]⟩ : BA), (⟨#[]⟩ : BA), (⟨#[50]⟩ : BA), 0⟩ : S33), (⟨4, 0, (⟨#[97]⟩ : BA), (⟨#[98]⟩ : BA), (⟨#[]⟩ : BA), 0⟩ : S33)] : List (S33))) (inner := [.int .u8 1, .int .i64 0, .string (⟨#[98]⟩ : BA), .string (⟨#[]⟩ : BA), .string (⟨#[50]⟩ : BA), .int .u64 0, .int .u8 4, .int .i64 0, .string (⟨#[97]⟩ : BA), .string (⟨#[98]⟩ : BA), .string (⟨#[]⟩ : BA), .int .u64 0]) (ok := fun _ => True) (okp := fun _ => True) ?hr ?hp (fun _ hk => hk) trivial (Below.refl _ _) (Nat.le_refl _) (by simp) ?_; (case hd => rfl); (case hg => rfl); (case hr => first | (go_simp; done) | (go_simp; rfl)); (case hp => exact (Reps.c6 (show Kd.M k33 _ _ _ (⟨1, 0, (⟨#[98]⟩ : BA), (⟨#[]⟩ : BA), (⟨#[50]⟩ : BA), 0⟩ : S33) [.int .u8 1, .int .i64 0, .string (⟨#[98]⟩ : BA), .string (⟨#[]⟩ : BA), .string (⟨#[50]⟩ : BA), .int .u64 0] from (k33_mkM _ _ _ (⟨1, 0, (⟨#[98]⟩ : BA), (⟨#[]⟩ : BA), (⟨#[50]⟩ : BA), 0⟩ : S33) )) (Reps.c6 (show Kd.M k33 _ _ _ (⟨4, 0, (⟨#[97]⟩ : BA), (⟨#[98]⟩ : BA), (⟨#[]⟩ : BA), 0⟩ : S33) [.int .u8 4, .int .i64 0, .string (⟨#[97]⟩ : BA), .string (⟨#[98]⟩ : BA), .string (⟨#[]⟩ : BA), .int .u64 0] from (k33_mkM _ _ _ (⟨4, 0, (⟨#[97]⟩ : BA), (⟨#[98]⟩ : BA), (⟨#[]⟩ : BA), 0⟩ : S33) )) (Reps.none _ _)))); intro v282 w12 ho13 hb hg_ hnew_; clear hg_ hnew_; (first | rw [← Ny281.out] at ho13 | (simp only [Int.reduceToNat] at ho13; rw [← Ny281.out] at ho13)); have n0_ := Aside0.mk (Kd.R_lower ho13 (wZ (by repeat (first | (with_reducible first | exact HB.out | apply wA | apply wN | apply w1) | exact HB.out)))); have n1_ := Aside0.mk (wT (by repeat (first | (with_reducible first | exact HB.out | apply wA | apply wN | apply w1) | exact HB.out)) hb); clear HB; have HO283 := n0_; have HB := n1_; clear n0_ n1_; clear hb ho13) | ((with_reducible refine gate_dst (N := 6) rfl ?_); refine Kd.R_lit k55 _ 55 ?hg (N := 6) ?hd (xs := ([(⟨(⟨#[97]⟩ : BA), (⟨#[49]⟩ : BA)⟩ : S55)] : List (S55))) (inner := [.string (⟨#[97]⟩ : BA), .string (⟨#[49]⟩ : BA)]) (ok := fun _ => True) (okp := fun _ => True) ?hr ?hp (fun _ hk => hk) trivial (Below.refl _ _) (Nat.le_refl _) (by simp) ?_; (case hd => rfl); (case hg => rfl); (case hr => first | (go_simp; done) | (go_simp; rfl)); (case hp => exact (Reps.c2 (show Kd.M k55 _ _ _ (⟨(⟨#[97]⟩ : BA), (⟨#[49]⟩ : BA)⟩ : S55) [.string (⟨#[97]⟩ : BA), .string (⟨#[49]⟩ : BA)] from (k55_mkM _ _ _ (⟨(⟨#[97]⟩ : BA), (⟨#[49]⟩ : BA)⟩ : S55) )) (Reps.none _ _))); intro v285 w14 ho15 hb hg_ hnew_; clear hg_ hnew_; (first | rw [← Ny284.out] at ho15 | (simp only [Int.reduceToNat] at ho15; rw [← Ny284.out] at ho15)); have n0_ := Aside0.mk (Kd.R_below (by (with_reducible repeat (first | apply Kd.R_alloc | apply Kd.R_drewN | apply Kd.R_drew)); exact HO283.out) hb); have n1_ := Aside0.mk (Kd.R_lower ho15 (wZ (by repeat (first | (with_reducible first | exact HB.out | apply wA | apply wN | apply w1) | exact HB.out)))); have n2_ := Aside0.mk (wT (by repeat (first | (with_reducible first | exact HB.out | apply wA | apply wN | apply w1) | exact HB.out)) hb); clear HO283; clear HB; have HO283 := n0_; have HO286 := n1_; have HB := n2_; clear n0_ n1_ n2_; clear hb ho15; obtain ⟨Ao16, co16, eo16⟩ := Kd.R_slice HO283.out; subst eo16; obtain ⟨Ao17, co17, eo17⟩ := Kd.R_slice HO286.out; subst eo17) | ((with_reducible refine gate_callee (f := 25) rfl ?_); refine goesL_ (some 8) rfl rfl Try.func25 (by kernel_rfl) rfl #[.slice Ao16 y281.length co16, .slice Ao17 y284.length co17, .agg #[.string (⟨#[]⟩ : BA), .string (⟨#[]⟩ : BA)]] rfl (by (try simp only [mA1, mA2, mA3]); first | done | rfl | (simp only [mA5, mA4]; rfl)) ?_; (with_reducible refine (fold_Entries.calls _ _ y281 _ _ y284 (⟨#[]⟩ : BA) (⟨#[]⟩ : BA) t287 _ ?side1 ?side2 ?side3 ?side4 A1.out).mono ?_); (case side1 => repeat (first | exact (Kd.R_reads' HO283.out).2.2 | (with_reducible refine Kd.C_alloc ?_ _) | (with_reducible refine Kd.C_drewN ?_ _) | (with_reducible refine Kd.C_drew ?_))); (case side2 => exact (Kd.R_reads' HO283.out).2.1); (case side3 => repeat (first | exact (Kd.R_reads' HO286.out).2.2 | (with_reducible refine Kd.C_alloc ?_ _) | (with_reducible refine Kd.C_drewN ?_ _) | (with_reducible refine Kd.C_drew ?_))); (case side4 => exact (Kd.R_reads' HO286.out).2.1); rintro e w18 ⟨v288, rfl, ho0, hb⟩; refine ⟨_, rfl, ?_⟩; have n0_ := Aside0.mk (Kd.R_below (by (with_reducible repeat (first | apply Kd.R_alloc | apply Kd.R_drewN | apply Kd.R_drew)); exact HO283.out) hb); have n1_ := Aside0.mk (Kd.R_elder' (by (with_reducible repeat (first | apply Kd.R_alloc | apply Kd.R_drewN | apply Kd.R_drew)); exact HO286.out) (Kd.R_base ho0) hb); have n2_ := Aside0.mk (Kd.R_lower (Kd.R_new' ho0 (Kd.R_lt (by (with_reducible repeat (first | apply Kd.R_alloc | apply Kd.R_drewN | apply Kd.R_drew)); exact HO286.out))) (wZ (by repeat (first | (with_reducible first | exact HB.out | apply wA | apply wN | apply w1) | exact HB.out)))); have n3_ := Aside0.mk (wT (by repeat (first | (with_reducible first | exact HB.out | apply wA | apply wN | apply w1) | exact HB.out)) hb); clear HO283; clear HO286; clear HB; have HO283 := n0_; have HO286 := n1_; have HO289 := n2_; have HB := n3_; clear n0_ n1_ n2_ n3_; (try clear hb); (try clear hb2); (try clear hk); (try clear hi); (try clear ho0); obtain ⟨Ao19, co19, eo19⟩ := Kd.R_slice HO289.out; subst eo19))
  go_ret
  exact ⟨by first | rfl | (simp [errW_none, errW_some] <;> rfl) | (simp [*, errW_none, errW_some] <;> rfl), by repeat (first | (with_reducible first | exact HB.out | apply wA | apply wN | apply w1) | exact HB.out)⟩
end Go.Proofs.Ytidaiafmhidooaa.P
end
section
namespace Go.Proofs.Ytidaiafmhidooaa.P
open Go.RowKit Go.Proofs.YtidaiafmhidooaaW.PrintWords Go.Proofs.YtidaiafmhidooaaW.PrintLast Go.Proofs.YtidaiafmhidooaaW.PrintMore Go.Proofs.Ytidaiafmhidooaa.Own
attribute [local go_sem] max2_str max2_int min2_int max_two min_two max_three min_three max_four min_four   -- for this text's walks alone
set_option linter.unusedVariables false
set_option linter.unusedSimpArgs false
def catchmentlaw05_all.f (l0 : List S33) (l1 : List S55) (a2_0 : BA) (a2_1 : BA) : Option (List S55) := Fo.entriesF l0 l1 a2_0 a2_1
theorem catchmentlaw05_all.calls (A0 : Option Addr) (c0 : Nat) (l0 : List S33) (A1 : Option Addr) (c1 : Nat) (l1 : List S55) (a2_0 : BA) (a2_1 : BA) (r : List S55) (w : World) (hr0 : Kd.C k33 w A0 l0.length l0) (hc0 : l0.length ≤ c0) (hr1 : Kd.C k55 w A1 l1.length l1) (hc1 : l1.length ≤ c1) (h : catchmentlaw05_all.f l0 l1 a2_0 a2_1 = some r) :
  Calls Try.prog 28 #[.slice A0 l0.length c0, .slice A1 l1.length c1, .agg #[.string a2_0, .string a2_1]] w fun e w' => ∃ v0_ : Value, e = .returned (v0_) ∧ Kd.R k55 55 w' w.heap.size (fun _ => True) v0_ r ∧ Below w.heap.size w w' :=
 Fo.lawallF_calls hr0 hc0 hr1 hc1 h
def fold_Some.f (l0 : List S33) (l1 : List S55) (a2_0 : BA) (a2_1 : BA) (a3 : Int) : Option (List S55) := Fo.someF l0 l1 a2_0 a2_1 a3
theorem fold_Some.calls (A0 : Option Addr) (c0 : Nat) (l0 : List S33) (A1 : Option Addr) (c1 : Nat) (l1 : List S55) (a2_0 : BA) (a2_1 : BA) (a3 : Int) (r : List S55) (w : World) (hr0 : Kd.C k33 w A0 l0.length l0) (hc0 : l0.length ≤ c0) (hr1 : Kd.C k55 w A1 l1.length l1) (hc1 : l1.length ≤ c1) (h : fold_Some.f l0 l1 a2_0 a2_1 a3 = some r) :
  Calls Try.prog 29 #[.slice A0 l0.length c0, .slice A1 l1.length c1, .agg #[.string a2_0, .string a2_1], .int .i64 a3] w fun e w' => ∃ v0_ : Value, e = .returned (v0_) ∧ Kd.R k55 55 w' w.heap.size (fun _ => True) v0_ r ∧ Below w.heap.size w w' :=
 Fo.someF_calls hr0 hc0 hr1 hc1 h
def fold_Changed.f (l0 : List S33) (l1 : List S55) : Option (List ByteArray) := Fo.changedF l0 l1
theorem fold_Changed.calls (A0 : Option Addr) (c0 : Nat) (l0 : List S33) (A1 : Option Addr) (c1 : Nat) (l1 : List S55) (r : List ByteArray) (w : World) (hr0 : Kd.C k33 w A0 l0.length l0) (hc0 : l0.length ≤ c0) (hr1 : Kd.C k55 w A1 l1.length l1) (hc1 : l1.length ≤ c1) (h : fold_Changed.f l0 l1 = some r) :
  Calls Try.prog 32 #[.slice A0 l0.length c0, .slice A1 l1.length c1] w fun e w' => ∃ v0_ : Value, e = .returned (v0_) ∧ Kd.R Kd.string 9 w' w.heap.size (fun _ => True) v0_ r ∧ Below w.heap.size w w' :=
 Fo.changedF_calls hr0 hc0 hr1 hc1 h
end Go.Proofs.Ytidaiafmhidooaa.P
end
