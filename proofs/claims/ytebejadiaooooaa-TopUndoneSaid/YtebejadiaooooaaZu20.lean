/- Texts of one claim (laid by shake.py). -/
import Derived.Test.YtebejadiaooooaaZu19
import Derived.Test.YtebejadiaooooaaZu3
import Derived.Test.YtebejadiaooooaaZu10
import Derived.Test.YtebejadiaooooaaZu1
import Derived.Test.YtebejadiaooooaaZu2
import Derived.WalkKit
import Derived.Below
import Derived.Maps.AppendAt
import Derived.Lib.SliceRun
import Derived.Shelf.RegionOpenPlain
import Derived.Deep.RegionLaw
set_option linter.unusedVariables false
set_option linter.unusedSimpArgs false
section
namespace Go.Proofs.Ytebejadiaooooaa.Fo
open Go.RowKit Go.Shelf Go.Proofs.YtebejadiaooooaaW.PrintWords Go.Proofs.YtebejadiaooooaaW.PrintLast Go.Proofs.YtebejadiaooooaaW.PrintMore Go.Proofs.Ytebejadiaooooaa.Own Go.Proofs.Ytebejadiaooooaa.Ord Go.Proofs.Ytebejadiaooooaa Go.Proofs.Ytebejadiaooooaa.P
open Go.Proofs.Ytebejadiaooooaa.OrdSs (infoStr underS)
attribute [local go_sem] Oper.semAt_some
set_option maxHeartbeats 2000000
set_option maxRecDepth 100000
def putKeys : RowB → List ByteArray → RowB
 | L, [] => L
 | L, k :: l => putKeys (ins OrdSb.lt k true L) l
theorem putKeys_snoc : ∀ (l : List ByteArray) (L : RowB) (k : ByteArray), putKeys L (l ++ [k]) = ins OrdSb.lt k true (putKeys L l)
 | [], _, _ => rfl
 | y :: l, L, k => putKeys_snoc l _ k
theorem putKeys_rise : ∀ (l : List ByteArray) {L : RowB}, Rise OrdSb.lt L → Rise OrdSb.lt (putKeys L l) ∧ (putKeys L l).length ≤ L.length + l.length
 | [], L, h => ⟨h, by simp [putKeys]⟩
 | k :: l, L, h => by
  obtain ⟨c, d⟩ := putKeys_rise l (ins_rise OrdSb.lin k true h)
  have := insB_len k true L h
  exact ⟨c, by simp only [putKeys, List.length_cons]; omega⟩
def bothB (a b : Row) : RowB := putKeys (putKeys [] (a.map (·.1))) (b.map (·.1))
def chg (a b : Row) (k : ByteArray) : Bool := !(((lookK OrdSs.lt k a).getD ByteArray.empty).toList == ((lookK OrdSs.lt k b).getD ByteArray.empty).toList) || !((lookK OrdSs.lt k a).isSome == (lookK OrdSs.lt k b).isSome)
theorem both_len {a b : Row} : (bothB a b).length ≤ a.length + b.length := by
 obtain ⟨c, d⟩ := putKeys_rise (a.map (·.1)) (L := []) List.Pairwise.nil
 obtain ⟨c2, d2⟩ := putKeys_rise (b.map (·.1)) c
 simp only [List.length_map, List.length_nil] at d d2
 unfold bothB
 omega
theorem hold_stab {α : Type} (B m : Nat) (L : α → RowB) : It.Stab B (fun (s : α) M V => OrdSb.Hold M V m (L s)) := fun s M V V' h f => h.frm f (fun k hk _ q => q.1 hk)
theorem hold_putM {M : Nat → Prop} {V : World} {m : Nat} {L : RowB} (h : OrdSb.Hold M V m L) (hM : ∀ k, M k → k < V.heap.size) (hl : L.length < 1000000) (k : ByteArray) (v : Bool) :
  Calls Try.prog 70 #[.pointer (some ⟨m, 0, none⟩), .string k, .bool v] V fun e V' => (∃ b, e = .returned (.bool b)) ∧ ∃ M', (∀ k, M' k → (M k ∨ V.heap.size ≤ k) ∧ k < V'.heap.size) ∧ It.FrM M V V' ∧ OrdSb.Hold M' V' m (ins OrdSb.lt k v L) := by
 refine (OrdSb.hold_put (U := fun k => M k ∨ V.heap.size ≤ k) (h.mono (fun k hk => .inl hk)) (fun k hk => .inr hk) hl k v).mono ?_
 rintro e V' ⟨hb, hH, hF⟩
 exact ⟨hb, _, fun k hk => hk, hF.mono (fun i hi => hi), hH.bound⟩
theorem changed_any {w : World} {A A2 : Option Addr} {c c2 : Nat} {l : List Ms} {e : List En} (hC : Kd.C P.k32 w A l.length l) (hcap : l.length ≤ c) (hC2 : Kd.C P.k39 w A2 e.length e) (hcap2 : e.length ≤ c2) (hlen : l.length ≤ 100000) (hlen2 : e.length ≤ 100000) (hsz : ∀ x ∈ l, x.f2.size ≤ 140737488351232) :
  Calls Try.prog 29 #[.slice A l.length c, .slice A2 e.length c2] w fun r w' => ∃ v, r = .returned v ∧ Kd.string.R 9 w' w.heap.size (fun _ => True) v (((bothB (tabV e) (foldV l e)).map (·.1)).filter (chg (tabV e) (foldV l e))) ∧ Below w.heap.size w w' := by
 obtain ⟨i0, hi, hz0, hz1, hz2⟩ := info_parts infoStr
 have hmx : maxLen = 9223372036854775807 := rfl
 refine (callsIn_wide (n := 5)).1 ?_
 refine callsIn_of_wp_marks Try.func29 rfl trivial ?_ rfl
 simp only [Try.ntmps29, List.size_toArray, List.length_cons, List.length_nil, Nat.reduceAdd, Nat.reduceSub, Array.replicate_succ, Array.replicate_zero, List.push_toArray, List.append_toArray, List.nil_append, List.cons_append]
 have TB := table_any hC2 hcap2 hlen2
 gi_wp2_with (first
  | (refine ⟨trivial, ?_⟩; gi_at_call 66; refine (callsIn_wide.2 TB).mono ?_; clear TB; rintro r w1 ⟨m1, rfl, hH1, hB1⟩; have FD := folded_any (Kd.C_below hC hB1) hcap (Kd.C_below hC2 hB1) hcap2 hlen hlen2 hsz)
  | (refine ⟨trivial, ?_⟩; gi_at_call 67; refine (callsIn_wide.2 FD).mono ?_; clear FD; rintro r w2 ⟨m2, rfl, hH2, hB2⟩)
  | (refine ⟨trivial, ?_⟩; gi_at_call 68; refine (callsIn_wide.2 (OrdSb.hold_new _)).mono ?_; rintro r w3 ⟨m3, rfl, hH3, hB3⟩; have g5 := blk_alloc (blk_below (blk_alloc (blk_new w2 (.cells #[.pointer (some ⟨m1, 0, none⟩)] 78)) (.cells #[.pointer (some ⟨m2, 0, none⟩)] 78)) hB3) (.cells #[.pointer (some ⟨m3, 0, none⟩)] 81); have g6 := blk_alloc (blk_below (blk_new (w2.alloc (.cells #[.pointer (some ⟨m1, 0, none⟩)] 78)) (.cells #[.pointer (some ⟨m2, 0, none⟩)] 78)) hB3) (.cells #[.pointer (some ⟨m3, 0, none⟩)] 81); rw [World.size_alloc] at g6; have c5 := blk_cell g5 0; simp at c5)
  | (refine ⟨trivial, ?_⟩; gi_at_call 69; refine (OrdSs.all_in _ (some ⟨m1, 0, none⟩) _).mono ?_; rintro r w' ⟨rfl, tt, rfl⟩))
 have hs1 := hB1.size
 have hs2 := hB2.size
 have hs3 := hB3.size
 rw [World.size_alloc, World.size_alloc] at hs3 hH3
 have hBa : Below w2.heap.size w2 ((w3.alloc (.cells #[.pointer (some ⟨m3, 0, none⟩)] 81)).alloc (.cells #[.pointer (some ⟨m1, 0, none⟩)] tt)) :=
  ((((Below.refl _ w2).alloc (Nat.le_refl _) _).alloc (by simp) _).trans (hB3.mono (by simp; omega))).alloc (by omega) _ |>.alloc (by simp; omega) _
 have bN := Boxed.new (w3.alloc (.cells #[.pointer (some ⟨m3, 0, none⟩)] 81)) tt (.pointer (some ⟨m1, 0, none⟩))
 rw [World.size_alloc] at bN
 have g7 := blk_alloc (blk_new w3 (.cells #[.pointer (some ⟨m3, 0, none⟩)] 81)) (.cells #[.pointer (some ⟨m1, 0, none⟩)] tt)
 have g5 := blk_alloc g5 (.cells #[.pointer (some ⟨m1, 0, none⟩)] tt)
 have g6 := blk_alloc g6 (.cells #[.pointer (some ⟨m1, 0, none⟩)] tt)
 have hH3' := OrdSb.Hold.below hH3.bound (((Below.refl _ w3).alloc (Nat.le_refl _) (.cells #[.pointer (some ⟨m3, 0, none⟩)] 81)).alloc (by simp) (.cells #[.pointer (some ⟨m1, 0, none⟩)] tt))
 generalize hw4 : (w3.alloc (.cells #[.pointer (some ⟨m3, 0, none⟩)] 81)).alloc (.cells #[.pointer (some ⟨m1, 0, none⟩)] tt) = w4 at hBa bN g5 g6 g7 hH3' ⊢
 have hs4 : w4.heap.size = w3.heap.size + 1 + 1 := by rw [← hw4]; simp
 clear hw4 hH3 c5
 have hH1b := hH1.bound
 have hH2b := hH2.bound
 have hB14 : Below w1.heap.size w1 w4 := hB2.trans (hBa.mono hs2)
 have hl1 := (tab_rise e).2
 have hl2 := (fold_rise l e).2
 have hr1 := (tab_rise e).1
 obtain ⟨S1, hS1, hIt1⟩ := OrdSs.hold_all_iter 4 (w3.heap.size + 1) hH1b hB14 (by omega) bN.cell
 apply It.range_iter rfl (by omega) (gf := 101) (lb := #[.pointer (some ⟨w3.heap.size + 1, 0, none⟩)]) rfl trivial (enters_of Try.func101 (by kernel_rfl) rfl)
  hIt1 (It.FrM.refl _ _) (fun k => w2.heap.size + 1 + 1 ≤ k ∧ k < w3.heap.size) (fun k hk => ⟨(hS1 k hk).2, fun q => by have := (hS1 k hk).1; omega⟩) (fun k hk => by omega) (fun _ => rfl)
  (fun pre M V => OrdSb.Hold M V m3 (putKeys [] (pre.map (·.1)))) (fun _ _ _ _ => False)
  (hold_stab _ _ _) (fun _ _ _ _ _ h _ => h) (by simpa [putKeys] using hH3')
 case hassign =>
  intro ll x V K hK
  gi_wp2
  exact hK
 case hbody =>
  rintro ll pre x M1 V hHV hMb hF hlt
  replace hlt : pre.length < (tabV e).length := hlt
  have g7v := hF.blk g7 (by omega)
  have c7 := blk_cell g7v 0
  simp at c7
  have hpl := (putKeys_rise (pre.map (·.1)) (L := []) List.Pairwise.nil).2
  rw [List.length_map, List.length_nil] at hpl
  have PT := hold_putM hHV (fun k hk => (hMb k hk).2) (by omega) x.1 true
  have hsn : Aside (putKeys [] ((pre ++ [x]).map (·.1)) = ins OrdSb.lt x.1 true (putKeys [] (pre.map (·.1)))) := by
   show _ = _
   rw [List.map_append]; exact putKeys_snoc _ _ _
  clear hHV
  gi_wp2_with (refine ⟨trivial, ?_⟩; gi_at_call 70; refine (CallsIn.inRound ll (callsIn_wide.2 PT)).mono ?_; clear PT; rintro r V2 ⟨⟨b2, rfl⟩, hq⟩)
  obtain ⟨M', q1, q2, q3⟩ := hq
  exact ⟨M', q1, q2, by show OrdSb.Hold _ _ _ _; rw [hsn.out]; exact q3⟩
 case hstop =>
  intro D cd pre M1 V _ _ _ _ _ _ h _
  exact h.elim
 case hdone =>
  rintro D1 ys M1 V1 hD1 hDV1 hDM1 hMb1 hF1 rfl hHV1 hK1
  have g5b := hF1.blk g5 (by omega)
  have g6b := hF1.blk g6 (by omega)
  have g7b := hF1.blk g7 (by omega)
  have c6 := blk_cell g6b 0
  simp at c6
  have hHV1A := Aside0.mk hHV1
  clear hIt1 hS1 bN hB3
  gi_wp2_with (refine ⟨trivial, ?_⟩; gi_at_call 69; refine (OrdSs.all_in _ (some ⟨m2, 0, none⟩) _).mono ?_; rintro r w' ⟨rfl, tt2, rfl⟩)
  have hb5 : Below w2.heap.size w2 (V1.alloc (.cells #[.pointer (some ⟨m2, 0, none⟩)] tt2)) := (hBa.trans (hF1.below (base := w2.heap.size) (fun k hk => by omega) (by omega))).alloc (by have := hF1.size; omega) _
  have hsV1 := hF1.size
  have bN2 := Boxed.new V1 tt2 (.pointer (some ⟨m2, 0, none⟩))
  have g5c := blk_alloc g5b (.cells #[.pointer (some ⟨m2, 0, none⟩)] tt2)
  have g6c := blk_alloc g6b (.cells #[.pointer (some ⟨m2, 0, none⟩)] tt2)
  have g7c := blk_alloc g7b (.cells #[.pointer (some ⟨m2, 0, none⟩)] tt2)
  have hK1c := blk_alloc hK1 (.cells #[.pointer (some ⟨m2, 0, none⟩)] tt2)
  have hH3c := OrdSb.Hold.below hHV1A.out ((Below.refl _ V1).alloc (Nat.le_refl _) (.cells #[.pointer (some ⟨m2, 0, none⟩)] tt2))
  generalize hw5 : V1.alloc (.cells #[.pointer (some ⟨m2, 0, none⟩)] tt2) = w5 at hb5 bN2 g5c g6c g7c hK1c hH3c ⊢
  have hs5 : w5.heap.size = V1.heap.size + 1 := by rw [← hw5]; simp
  clear hw5 g5b g6b g7b c6 hHV1 hHV1A
  have hM1A : Aside (∀ k, M1 k → w2.heap.size + 1 + 1 ≤ k ∧ k < V1.heap.size ∧ k ≠ D1 ∧ k ≠ w3.heap.size) := fun k hk => by
   have h1 := hMb1 k hk
   refine ⟨by omega, h1.2, fun q => hDM1 (q ▸ hk), ?_⟩
   rintro rfl
   omega
  obtain ⟨S2, hS2, hIt2⟩ := OrdSs.hold_all_iter 4 V1.heap.size hH2b hb5 (by omega) bN2.cell
  apply It.range_iter rfl (by omega) (gf := 101) (lb := #[.pointer (some ⟨V1.heap.size, 0, none⟩)]) rfl trivial (enters_of Try.func101 (by kernel_rfl) rfl)
   hIt2 (It.FrM.refl _ _) M1 (fun k hk => ⟨(hS2 k hk).2, fun q => by have := (hS2 k hk).1; have := hM1A.out k q; omega⟩) (fun k hk => by have := hM1A.out k hk; omega) (fun _ => rfl)
   (fun pre M V => OrdSb.Hold M V m3 (putKeys (putKeys [] ((tabV e).map (·.1))) (pre.map (·.1)))) (fun _ _ _ _ => False)
   (hold_stab _ _ _) (fun _ _ _ _ _ h _ => h) (by simpa [putKeys] using hH3c)
  case hassign =>
   intro ll x V K hK
   gi_wp2
   exact hK
  case hbody =>
   rintro ll pre x M2 V hHV hMb hF hlt
   replace hlt : pre.length < (foldV l e).length := hlt
   have g7v := hF.blk g7c (fun q => (hM1A.out _ q).2.2.2 rfl)
   have c7 := blk_cell g7v 0
   simp at c7
   have hp0 := putKeys_rise ((tabV e).map (·.1)) (L := []) List.Pairwise.nil
   have hpl := (putKeys_rise (pre.map (·.1)) hp0.1).2
   have hp2 := hp0.2
   rw [List.length_map] at hpl hp2
   rw [List.length_nil] at hp2
   have PT := hold_putM hHV (fun k hk => (hMb k hk).2) (by omega) x.1 true
   have hsn : Aside (putKeys (putKeys [] ((tabV e).map (·.1))) ((pre ++ [x]).map (·.1)) = ins OrdSb.lt x.1 true (putKeys (putKeys [] ((tabV e).map (·.1))) (pre.map (·.1)))) := by
    show _ = _
    rw [List.map_append]; exact putKeys_snoc _ _ _
   clear hHV
   gi_wp2_with (refine ⟨trivial, ?_⟩; gi_at_call 70; refine (CallsIn.inRound ll (callsIn_wide.2 PT)).mono ?_; clear PT; rintro r V2 ⟨⟨b2, rfl⟩, hq⟩)
   obtain ⟨M', q1, q2, q3⟩ := hq
   exact ⟨M', q1, q2, by show OrdSb.Hold _ _ _ _; rw [hsn.out]; exact q3⟩
  case hstop =>
   intro D cd pre M1 V _ _ _ _ _ _ h _
   exact h.elim
  case hdone =>
   rintro D2 ys M2 V2 hD2 hDV2 hDM2 hMb2 hF2 rfl hHV2 hK2
   have hsV2 := hF2.size
   have g5d := hF2.blk g5c (fun q => by have := hM1A.out _ q; omega)
   have g6d := hF2.blk g6c (fun q => by have := hM1A.out _ q; omega)
   have g7d := hF2.blk g7c (fun q => (hM1A.out _ q).2.2.2 rfl)
   have hK1d := hF2.blk hK1c hDM1
   have hDlt := (Array.getElem?_eq_some_iff.1 hK1c).1
   have c7 := blk_cell (blk_alloc g7d (.cells #[.slice none 0 0] 24)) 0
   simp at c7
   have hb6 : Below w2.heap.size w2 V2 := hb5.trans (hF2.below (base := w2.heap.size) (fun k hk => by have := hM1A.out k hk; omega) (by omega))
   have hHV2A := Aside0.mk hHV2
   clear hIt2 hS2 bN2 hH3c
   gi_wp2_with (refine ⟨trivial, ?_⟩; gi_at_call 71; refine (OrdSb.all_in _ (some ⟨m3, 0, none⟩) _).mono ?_; rintro r w' ⟨rfl, tt3, rfl⟩)
   have bO := (Boxed.new V2 24 (.slice none 0 0)).alloc (.cells #[.pointer (some ⟨m3, 0, none⟩)] tt3)
   have bN3 := Boxed.new (V2.alloc (.cells #[.slice none 0 0] 24)) tt3 (.pointer (some ⟨m3, 0, none⟩))
   rw [World.size_alloc] at bN3
   have hB7 : Below V2.heap.size V2 ((V2.alloc (.cells #[.slice none 0 0] 24)).alloc (.cells #[.pointer (some ⟨m3, 0, none⟩)] tt3)) := ((Below.refl _ V2).alloc (Nat.le_refl _) _).alloc (by simp) _
   have g5e := blk_below g5d hB7
   have g6e := blk_below g6d hB7
   have hK1e := blk_below hK1d hB7
   have hK2e := blk_below hK2 hB7
   generalize hw7 : (V2.alloc (.cells #[.slice none 0 0] 24)).alloc (.cells #[.pointer (some ⟨m3, 0, none⟩)] tt3) = w7 at bO bN3 hB7 g5e g6e hK1e hK2e ⊢
   have hs7 : w7.heap.size = V2.heap.size + 1 + 1 := by rw [← hw7]; simp
   clear hw7 c7
   have hb7 : Below w2.heap.size w2 w7 := hb6.trans (hB7.mono (by omega))
   have hb71 : Below w1.heap.size w1 w7 := hB2.trans (hb7.mono hs2)
   have hb70 : Below w.heap.size w w7 := hB1.trans (hb71.mono hs1)
   have hH1w := OrdSs.Hold.below hH1b hb71
   have hH2w := OrdSs.Hold.below hH2b hb7
   have hbl := both_len (a := tabV e) (b := foldV l e)
   obtain ⟨S3, hS3, hIt3⟩ := OrdSb.hold_all_iter 4 (V2.heap.size + 1) hHV2A.out hB7 (by omega) bN3.cell
   replace hIt3 : It.Iter Fence.wide 4 Try.prog 105 #[.pointer (some ⟨V2.heap.size + 1, 0, none⟩)] (fun x : ByteArray × Bool => #[.string x.1, .bool x.2]) (fun ys => ys = bothB (tabV e) (foldV l e)) (fun pre => pre <+: bothB (tabV e) (foldV l e)) (bothB (tabV e) (foldV l e)).length S3 w7 := hIt3
   apply It.range_iter rfl (by omega) (gf := 105) (lb := #[.pointer (some ⟨V2.heap.size + 1, 0, none⟩)]) rfl trivial (enters_of Try.func105 (by kernel_rfl) rfl)
    hIt3 (It.FrM.refl _ _) (fun k => k = V2.heap.size) (fun k hk => ⟨(hS3 k hk).2, fun q => by have := (hS3 k hk).1; omega⟩) (fun k hk => by omega) (fun _ => rfl)
    (fun pre M V => It.OutC 24 9 1 w.heap.size V2.heap.size ((pre.map (·.1)).filter (chg (tabV e) (foldV l e))).length (((pre.map (·.1)).filter (chg (tabV e) (foldV l e))).map Value.string) M V) (fun _ _ _ _ => False)
    (It.OutC.stab _ _ _ _ _ _ _ _) (fun _ _ _ _ _ h _ => h) (It.OutC.start bO)
   case hassign =>
    intro ll x V K hK
    gi_wp2
    exact hK
   case hbody =>
    rintro ll pre x M3 V ⟨v, hv, hrow, hMB, hMg⟩ hMb hF hlt
    have hc1 := hv.cell
    have hsV := hF.size
    have hfl : ((pre.map (·.1)).filter (chg (tabV e) (foldV l e))).length ≤ pre.length := by have := List.length_filter_le (chg (tabV e) (foldV l e)) (pre.map (·.1)); rwa [List.length_map] at this
    have g5f := hF.blk g5e (by omega)
    have g6f := hF.blk g6e (by omega)
    have c5 := blk_cell g5f 0
    have c6 := blk_cell g6f 0
    simp at c5 c6
    have GT1 := OrdSs.hold_get (OrdSs.Hold.frm hH1w hF (fun k hk _ q => by omega)) x.1
    have GT2 := OrdSs.hold_get (OrdSs.Hold.frm hH2w hF (fun k hk _ q => by omega)) x.1
    have hch : chg (tabV e) (foldV l e) x.1 = (!(((lookK OrdSs.lt x.1 (tabV e)).getD ByteArray.empty).toList == ((lookK OrdSs.lt x.1 (foldV l e)).getD ByteArray.empty).toList) || !((lookK OrdSs.lt x.1 (tabV e)).isSome == (lookK OrdSs.lt x.1 (foldV l e)).isSome)) := rfl
    have hflt : ((pre ++ [x]).map (·.1)).filter (chg (tabV e) (foldV l e)) = (pre.map (·.1)).filter (chg (tabV e) (foldV l e)) ++ (if chg (tabV e) (foldV l e) x.1 = true then [x.1] else []) := by
     rw [List.map_append, List.filter_append]
     congr 1
     rw [List.map_cons, List.map_nil, List.filter_cons]
     split <;> rfl
    generalize (lookK OrdSs.lt x.1 (tabV e)).getD ByteArray.empty = v1 at GT1 hch
    generalize (lookK OrdSs.lt x.1 (tabV e)).isSome = i1 at GT1 hch
    generalize (lookK OrdSs.lt x.1 (foldV l e)).getD ByteArray.empty = v2 at GT2 hch
    generalize (lookK OrdSs.lt x.1 (foldV l e)).isSome = i2 at GT2 hch
    by_cases hcg : chg (tabV e) (foldV l e) x.1 = true
    ·have hyes : Aside (((pre ++ [x]).map (·.1)).filter (chg (tabV e) (foldV l e)) = (pre.map (·.1)).filter (chg (tabV e) (foldV l e)) ++ [x.1]) := by show _ = _; rw [hflt, if_pos hcg]
     rw [hcg] at hch
     by_cases hvv : v1.toList = v2.toList
     ·have z0 : (v1.toList == v2.toList) = true := by simpa using hvv
      have z1 : (v1.toList != v2.toList) = false := by simp [z0, bne]
      have hii : i1 ≠ i2 := by rintro rfl; rw [z0] at hch; simp at hch
      clear hvv hch hflt hcg
      cases i1 <;> cases i2 <;> first | exact absurd rfl hii | skip
      all_goals
       clear hii
       gi_wp2_with (first
        | (refine ⟨trivial, ?_⟩; gi_at_call 72; refine (CallsIn.inRound ll (callsIn_wide.2 GT1)).mono ?_; clear GT1; rintro r w' ⟨rfl, hw⟩; obtain rfl := hw.symm)
        | (refine ⟨trivial, ?_⟩; gi_at_call 72; refine (CallsIn.inRound ll (callsIn_wide.2 GT2)).mono ?_; clear GT2; rintro r w' ⟨rfl, hw⟩; obtain rfl := hw.symm)
        | (gi_at_builtin; refine wpListIn_append_own_at _ rfl _ _ 24 rfl w.heap.size 9 i0 (.string ⟨#[]⟩) 1 16 underS hi hz0 hz1 hz2 rfl (by decide) _ _ _ rfl (hrow.alloc _) ⟨V.heap.size, 0, none⟩ 1 1 [.string x.1] rfl rfl (cell_one_new _ _ _) (by simp [Value.oneCell']) (by omega) (by omega) (by simp; omega) ?_; intro v' w1 hown' hgrow _ hat; obtain ⟨g', cap', rfl⟩ := ownsRow_succ hown'; obtain ⟨hv1, hq⟩ := It.OutC.next hv hrow hMB hMg (fun k hk => (hMb k hk).2) (by decide) (by omega) (by omega) hown' hgrow hat; have hc2 := hv1.cell; have hf2 := hv1.frozen))
       obtain ⟨M', q1, q2, q3⟩ := hq
       exact ⟨M', q1, q2, by show It.OutC _ _ _ _ _ (((pre ++ [x]).map (·.1)).filter (chg (tabV e) (foldV l e))).length ((((pre ++ [x]).map (·.1)).filter (chg (tabV e) (foldV l e))).map Value.string) _ _; rw [hyes.out, List.length_append, List.map_append]; exact q3⟩
     ·have z0 : (v1.toList == v2.toList) = false := by simpa using hvv
      have z1 : (v1.toList != v2.toList) = true := by simp [z0, bne]
      clear hvv hch hflt hcg
      gi_wp2_with (first
       | (refine ⟨trivial, ?_⟩; gi_at_call 72; refine (CallsIn.inRound ll (callsIn_wide.2 GT1)).mono ?_; clear GT1; rintro r w' ⟨rfl, hw⟩; obtain rfl := hw.symm)
       | (refine ⟨trivial, ?_⟩; gi_at_call 72; refine (CallsIn.inRound ll (callsIn_wide.2 GT2)).mono ?_; clear GT2; rintro r w' ⟨rfl, hw⟩; obtain rfl := hw.symm)
       | (gi_at_builtin; refine wpListIn_append_own_at _ rfl _ _ 24 rfl w.heap.size 9 i0 (.string ⟨#[]⟩) 1 16 underS hi hz0 hz1 hz2 rfl (by decide) _ _ _ rfl (hrow.alloc _) ⟨V.heap.size, 0, none⟩ 1 1 [.string x.1] rfl rfl (cell_one_new _ _ _) (by simp [Value.oneCell']) (by omega) (by omega) (by simp; omega) ?_; intro v' w1 hown' hgrow _ hat; obtain ⟨g', cap', rfl⟩ := ownsRow_succ hown'; obtain ⟨hv1, hq⟩ := It.OutC.next hv hrow hMB hMg (fun k hk => (hMb k hk).2) (by decide) (by omega) (by omega) hown' hgrow hat; have hc2 := hv1.cell; have hf2 := hv1.frozen))
      obtain ⟨M', q1, q2, q3⟩ := hq
      exact ⟨M', q1, q2, by show It.OutC _ _ _ _ _ (((pre ++ [x]).map (·.1)).filter (chg (tabV e) (foldV l e))).length ((((pre ++ [x]).map (·.1)).filter (chg (tabV e) (foldV l e))).map Value.string) _ _; rw [hyes.out, List.length_append, List.map_append]; exact q3⟩
    ·have hno : Aside (((pre ++ [x]).map (·.1)).filter (chg (tabV e) (foldV l e)) = (pre.map (·.1)).filter (chg (tabV e) (foldV l e))) := by show _ = _; rw [hflt, if_neg hcg, List.append_nil]
     rw [Bool.not_eq_true] at hcg
     rw [hcg] at hch
     have hvv : v1.toList = v2.toList := by
      by_cases q : v1.toList = v2.toList
      ·exact q
      ·have : (v1.toList == v2.toList) = false := by simpa using q
       rw [this] at hch; simp at hch
     have z0 : (v1.toList == v2.toList) = true := by simpa using hvv
     have z1 : (v1.toList != v2.toList) = false := by simp [z0, bne]
     have hii : i1 = i2 := by
      rw [z0] at hch
      cases i1 <;> cases i2 <;> first | rfl | simp at hch
     subst hii
     clear hvv hch hflt hcg
     cases i1 <;>
     ·gi_wp2_with (first
       | (refine ⟨trivial, ?_⟩; gi_at_call 72; refine (CallsIn.inRound ll (callsIn_wide.2 GT1)).mono ?_; clear GT1; rintro r w' ⟨rfl, hw⟩; obtain rfl := hw.symm)
       | (refine ⟨trivial, ?_⟩; gi_at_call 72; refine (CallsIn.inRound ll (callsIn_wide.2 GT2)).mono ?_; clear GT2; rintro r w' ⟨rfl, hw⟩; obtain rfl := hw.symm))
      exact ⟨M3, fun k hk => ⟨.inl hk, (hMb k hk).2⟩, It.FrM.refl _ _, by show It.OutC _ _ _ _ _ (((pre ++ [x]).map (·.1)).filter (chg (tabV e) (foldV l e))).length ((((pre ++ [x]).map (·.1)).filter (chg (tabV e) (foldV l e))).map Value.string) _ _; rw [hno.out]; exact ⟨v, hv, hrow, hMB, hMg⟩⟩
   case hstop =>
    intro D cd pre M1 V _ _ _ _ _ _ h _
    exact h.elim
   case hdone =>
    rintro D3 ys M3 V3 hD3 hDV3 hDM3 hMb3 hF3 rfl ⟨v, hv, hrow, hMB, hMg⟩ hK3
    have hc1 := hv.cell
    have hDlt2 := (Array.getElem?_eq_some_iff.1 hK2).1
    have hDlt1 := (Array.getElem?_eq_some_iff.1 hK1d).1
    have k1 := hF3.blk hK1e (by omega)
    have k2 := hF3.blk hK2e (by omega)
    have hB0 : Below w.heap.size w V3 := hb70.trans (hF3.below (base := w.heap.size) (fun k hk => by omega) (by omega))
    gi_wp2
    have k2' : (V3.putObj D3 (.deferred none)).heap[D2]? = some (.deferred (some [])) := (World.putObj_heap_other (by omega)).trans k2
    have k1' : ((V3.putObj D3 (.deferred none)).putObj D2 (.deferred none)).heap[D1]? = some (.deferred (some [])) := (World.putObj_heap_other (by omega)).trans ((World.putObj_heap_other (by omega)).trans k1)
    refine ⟨by simp, .inl ⟨_, _, rfl, run_takeDeferred hK3, ?_⟩⟩
    refine ⟨by simp, .inl ⟨_, _, rfl, run_takeDeferred k2', ?_⟩⟩
    refine ⟨by simp, .inl ⟨_, _, rfl, run_takeDeferred k1', ?_⟩⟩
    exact ⟨_, results_tmp rfl _ _ _, v, rfl, own_strs (ownsRow_putObj (ownsRow_putObj (ownsRow_putObj hrow _ hK3 rfl) _ k2' rfl) _ k1' rfl) rfl,
     ((hB0.trans (belowK_b (w := w) (Nat.le_refl _) V3 D3 _ _ (by omega) hK3 rfl rfl)).trans (belowK_b (w := w) (Nat.le_refl _) _ D2 _ _ (by omega) k2' rfl rfl)).trans (belowK_b (w := w) (Nat.le_refl _) _ D1 _ _ (by omega) k1' rfl rfl)⟩
end Go.Proofs.Ytebejadiaooooaa.Fo
end
section
namespace Go.Proofs.Ytebejadiaooooaa.Fo
open Go.RowKit Go.Shelf Go.Proofs.YtebejadiaooooaaW.PrintWords Go.Proofs.YtebejadiaooooaaW.PrintLast Go.Proofs.YtebejadiaooooaaW.PrintMore Go.Proofs.Ytebejadiaooooaa.Own Go.Proofs.Ytebejadiaooooaa.Ord Go.Proofs.Ytebejadiaooooaa Go.Proofs.Ytebejadiaooooaa.P
open Go.Proofs.Ytebejadiaooooaa.OrdSs (cell_two_new own_empty run_eql_func_nil)
attribute [local go_sem] Oper.semAt_some
set_option maxHeartbeats 2000000
set_option maxRecDepth 100000
end Go.Proofs.Ytebejadiaooooaa.Fo
end
section
namespace Go.Proofs.Ytebejadiaooooaa.Fo
open Go.RowKit Go.Proofs.YtebejadiaooooaaW.PrintWords Go.Proofs.YtebejadiaooooaaW.PrintLast Go.Proofs.YtebejadiaooooaaW.PrintMore Go.Proofs.Ytebejadiaooooaa.Own Go.Proofs.Ytebejadiaooooaa
def okF (l : List Ms) (e : List En) : Bool := decide (l.length ≤ 100000) && decide (e.length ≤ 100000) && l.all (fun x => decide (x.f2.size ≤ 140737488351232))
theorem okF_iff {l : List Ms} {e : List En} : okF l e = true ↔ l.length ≤ 100000 ∧ e.length ≤ 100000 ∧ ∀ x ∈ l, x.f2.size ≤ 140737488351232 := by
 unfold okF
 rw [Bool.and_eq_true, Bool.and_eq_true, decide_eq_true_eq, decide_eq_true_eq, List.all_eq_true]
 simp only [decide_eq_true_eq, and_assoc]
def entriesF (l : List Ms) (e : List En) (f t : ByteArray) : Option (List En) := if okF l e = true then some ((heldV f t (foldV l e)).map toE) else none
def changedF (l : List Ms) (e : List En) : Option (List ByteArray) := if okF l e = true then some (((bothB (tabV e) (foldV l e)).map (·.1)).filter (chg (tabV e) (foldV l e))) else none
section
variable {A0 A1 : Option Addr} {c0 c1 : Nat} {l0 : List Ms} {l1 : List En} {w : World}
theorem entriesF_calls {f t : ByteArray} {r : List En} (hr0 : Kd.C P.k32 w A0 l0.length l0) (hc0 : l0.length ≤ c0) (hr1 : Kd.C P.k39 w A1 l1.length l1) (hc1 : l1.length ≤ c1) (h : entriesF l0 l1 f t = some r) :
  Calls Try.prog 15 #[.slice A0 l0.length c0, .slice A1 l1.length c1, .agg #[.string f, .string t]] w fun e w' => ∃ v0_ : Value, e = .returned (v0_) ∧ Kd.R P.k39 39 w' w.heap.size (fun _ => True) v0_ r ∧ Below w.heap.size w w' := by
 unfold entriesF at h
 split at h
 ·rename_i hq
  cases h
  obtain ⟨h1, h2, h3⟩ := okF_iff.1 hq
  exact entries_any f t hr0 hc0 hr1 hc1 h1 h2 h3
 ·cases h
theorem changedF_calls {r : List ByteArray} (hr0 : Kd.C P.k32 w A0 l0.length l0) (hc0 : l0.length ≤ c0) (hr1 : Kd.C P.k39 w A1 l1.length l1) (hc1 : l1.length ≤ c1) (h : changedF l0 l1 = some r) :
  Calls Try.prog 29 #[.slice A0 l0.length c0, .slice A1 l1.length c1] w fun e w' => ∃ v0_ : Value, e = .returned (v0_) ∧ Kd.R Kd.string 9 w' w.heap.size (fun _ => True) v0_ r ∧ Below w.heap.size w w' := by
 unfold changedF at h
 split at h
 ·rename_i hq
  cases h
  obtain ⟨h1, h2, h3⟩ := okF_iff.1 hq
  exact changed_any hr0 hc0 hr1 hc1 h1 h2 h3
 ·cases h
end
end Go.Proofs.Ytebejadiaooooaa.Fo
end
section
namespace Go.Proofs.Ytebejadiaooooaa.Cp
open Go.RowKit Go.Proofs.YtebejadiaooooaaW.PrintWords Go.Proofs.YtebejadiaooooaaW.PrintLast Go.Proofs.YtebejadiaooooaaW.PrintMore Go.Proofs.Ytebejadiaooooaa.Own Go.Proofs.Ytebejadiaooooaa
abbrev Ms := P.S32
def enc (m : Ms) : List Value := [.int .u8 m.f0, .int .i64 m.f1, .string m.f2, .string m.f3, .string m.f4, .int .u64 m.f5]
def flat (l : List Ms) : List Value := l.flatMap enc
theorem enc_length (m : Ms) : (enc m).length = 6 := rfl
theorem flat_nil : flat [] = [] := rfl
theorem flat_cons (m : Ms) (l : List Ms) : flat (m :: l) = enc m ++ flat l := rfl
theorem flat_append (a b : List Ms) : flat (a ++ b) = flat a ++ flat b := by simp [flat]
theorem flat_snoc (l : List Ms) (m : Ms) : flat (l ++ [m]) = flat l ++ enc m := by rw [flat_append, flat_cons, flat_nil, List.append_nil]
theorem flat_length : ∀ l : List Ms, (flat l).length = l.length * 6
 | [] => rfl
 | m :: l => by rw [flat_cons, List.length_append, enc_length, flat_length l, List.length_cons]; omega
theorem flat_take : ∀ (l : List Ms) (n : Nat), (flat l).take (n * 6) = flat (l.take n)
 | l, 0 => by simp [flat_nil]
 | [], n + 1 => by simp [flat_nil]
 | m :: l, n + 1 => by
  rw [flat_cons, List.take_succ_cons, flat_cons, ← flat_take l n, List.take_append, enc_length, List.take_of_length_le (by rw [enc_length]; omega)]
  congr 2
  omega
theorem flat_drop : ∀ (l : List Ms) (n : Nat), (flat l).drop (n * 6) = flat (l.drop n)
 | l, 0 => by simp
 | [], n + 1 => by simp [flat_nil]
 | m :: l, n + 1 => by
  rw [flat_cons, List.drop_succ_cons, ← flat_drop l n, List.drop_append, enc_length, List.drop_of_length_le (by rw [enc_length]; omega), List.nil_append]
  congr 1
  omega
theorem flat_one {u : Value} : ∀ {l : List Ms}, u ∈ flat l → u.oneCell' = true
 | [], h => by simp [flat_nil] at h
 | m :: l, h => by
  rw [flat_cons, List.mem_append] at h
  rcases h with h | h
  ·simp only [enc, List.mem_cons, List.not_mem_nil, or_false] at h
   rcases h with rfl | rfl | rfl | rfl | rfl | rfl <;> rfl
  ·exact flat_one h
abbrev Rw (W : World) (base : Nat) (v : Value) (l : List Ms) : Prop := W.ownsRow base 32 6 v l.length (flat l)
theorem reps_flat (w : World) (base : Nat) (ok : Nat → Prop) (xs : List Ms) : Reps (P.k32.M w base ok) 6 xs (flat xs) := by
 have key : ∀ l : List Ms, Reps (P.k32.M w base ok) 6 l.reverse (flat l.reverse) := fun l => by
  induction l with
  | nil => exact Reps.none _ _
  | cons x l ih =>
   rw [List.reverse_cons, flat_snoc]
   exact Reps.snoc ih (P.k32_mkM w base ok x) rfl
 simpa using key xs.reverse
theorem R_of_Rw {w : World} {base : Nat} {v : Value} {xs : List Ms} (ho : Rw w base v xs) : P.k32.R 32 w base (fun _ => True) v xs :=
 ⟨fun _ _ => trivial, flat xs, ho, reps_flat _ _ _ _⟩
theorem C_of_Rw {w : World} {base : Nat} {A : Option Addr} {n c : Nat} {xs : List Ms} (ho : Rw w base (.slice A n c) xs) : n = xs.length ∧ n ≤ c ∧ P.k32.C w A xs.length xs := Kd.R_reads' (R_of_Rw ho)
theorem Rw.slice {w : World} {base : Nat} {v : Value} {xs : List Ms} (ho : Rw w base v xs) : ∃ A c, v = .slice A xs.length c := Kd.R_slice (R_of_Rw ho)
theorem Rw.block {w : World} {base : Nat} {v : Value} {xs : List Ms} (ho : Rw w base v xs) (hn : 0 < xs.length) :
  ∃ g cap cur, v = .slice (some ⟨g, 0, none⟩) xs.length cap ∧ base ≤ g ∧ w.heap[g]? = some (.cells cur 32 (0, 0)) ∧ xs.length ≤ cap ∧ cap ≤ maxLen ∧ cur.size = cap * 6 ∧ cur.toList.take (xs.length * 6) = flat xs := by
 rcases ho.2 with ⟨_, h⟩ | h
 ·omega
 ·exact h
theorem Rw.mk {w : World} {base g cap : Nat} {cur : Array Value} {xs : List Ms} (hb : base ≤ g) (hh : w.heap[g]? = some (.cells cur 32 (0, 0))) (hc : xs.length ≤ cap) (hm : cap ≤ maxLen) (hs : cur.size = cap * 6) (ht : cur.toList.take (xs.length * 6) = flat xs) : Rw w base (.slice (some ⟨g, 0, none⟩) xs.length cap) xs :=
 ⟨flat_length xs, .inr ⟨g, cap, cur, rfl, hb, hh, hc, hm, hs, ht⟩⟩
theorem Rw.below {w W : World} {base : Nat} {v : Value} {xs : List Ms} (ho : Rw w base v xs) (hb : Below w.heap.size w W) : Rw W base v xs :=
 own_move ho (fun k hk => hb.block k (own_lt ho k hk))
theorem heap_setCells {g e : Nat} : ∀ (vs : List Value) (o : Nat) (w : World) (cur : Array Value), w.heap[g]? = some (.cells cur e (0, 0)) → o + vs.length ≤ cur.size →
  ∃ cur', (w.setCells g o vs).heap[g]? = some (.cells cur' e (0, 0)) ∧ cur'.toList = cur.toList.take o ++ vs ++ cur.toList.drop (o + vs.length)
 | [], o, w, cur, h, _ => ⟨cur, h, by simp⟩
 | v :: vs, o, w, cur, h, hl => by
  simp only [List.length_cons] at hl
  have h1 := blk_set h o v
  obtain ⟨cur', h2, h3⟩ := heap_setCells vs (o + 1) (w.setCell ⟨g, o, none⟩ v) _ h1 (by rw [Array.size_setIfInBounds]; omega)
  refine ⟨cur', h2, h3.trans ?_⟩
  have hlt : o < cur.toList.length := by rw [Array.length_toList]; omega
  rw [Array.toList_setIfInBounds, List.take_set, List.drop_set, if_pos (by omega)]
  rw [List.take_add_one, List.getElem?_eq_getElem hlt]
  simp only [Option.toList_some, List.length_cons]
  rw [List.set_append_right _ _ (by rw [List.length_take]; exact Nat.min_le_left _ _), List.length_take, Nat.min_eq_left (by omega), Nat.sub_self]
  simp only [List.set_cons_zero, List.append_assoc, List.cons_append, List.nil_append]
  rw [show o + 1 + vs.length = o + (vs.length + 1) by omega]
theorem grown_setCell (g i : Nat) (W : World) (v : Value) : W.grownBy (W.setCell ⟨g, i, none⟩ v) (some g) :=
 ⟨rfl, rfl, rfl, by simp, fun k _ hk => Below.heap_setCell W _ v k (fun e => hk (by rw [e]))⟩
theorem grown_setCells (g : Nat) : ∀ (vs : List Value) (o : Nat) (W : World), W.grownBy (W.setCells g o vs) (some g)
 | [], _, W => World.grownBy.refl _ _
 | v :: vs, o, W => (grown_setCell g o W v).trans (grown_setCells g vs (o + 1) _)
theorem grown_drew (W : World) (row : Option Nat) : W.grownBy W.drew row := ⟨rfl, rfl, rfl, Nat.le_refl _, fun _ _ _ => rfl⟩
theorem grown_below {W W' : World} (h : Below W.heap.size W W') (row : Option Nat) : W.grownBy W' row := ⟨h.os, h.tape, h.output, h.size, fun k hk _ => h.block k hk⟩
theorem grown_then {a b c : World} {row row' : Option Nat} (h : a.grownBy b row) (k : b.grownBy c row') (hr : ∀ j, row' = some j → a.heap.size ≤ j ∨ row = some j) : a.grownBy c row :=
 ⟨k.os.trans h.os, k.tape.trans h.tape, k.output.trans h.output, Nat.le_trans h.size k.size, fun i hi hne => (k.block i (Nat.lt_of_lt_of_le hi h.size) (fun e => by
  rcases hr i e.symm with q | q
  ·omega
  ·exact hne q.symm)).trans (h.block i hi hne)⟩
theorem cell_of_take {w : World} {g e : Nat} {cur : Array Value} {xs : List Value} (hh : w.heap[g]? = some (.cells cur e (0, 0))) (ht : cur.toList.take xs.length = xs) {i : Nat} {u : Value} (h : xs[i]? = some u) : w.cell? ⟨g, i, none⟩ = some u := by
 have hlt := (List.getElem?_eq_some_iff.1 h).1
 rw [← ht, List.getElem?_take, if_pos hlt, Array.getElem?_toList] at h
 rw [cell_of_row w g i cur e (0, 0) hh]
 exact h
end Go.Proofs.Ytebejadiaooooaa.Cp
end
