/- Texts of this seat's own and of the kit's print program, of one claim: only what the claim uses (laid by wip/tools/shake.py; Lean checks them). -/
import Derived.Test.YtidaiafmhidooaaZv19
import Derived.Test.YtidaiafmhidooaaZv2
import Derived.Test.YtidaiafmhidooaaZv8
section
set_option linter.unusedVariables false
set_option linter.unusedSimpArgs false
namespace Go.Proofs.Ytidaiafmhidooaa.Fo
open Go.RowKit Go.Shelf Go.Proofs.YtidaiafmhidooaaW.PrintWords Go.Proofs.YtidaiafmhidooaaW.PrintLast Go.Proofs.YtidaiafmhidooaaW.PrintMore Go.Proofs.Ytidaiafmhidooaa.Own Go.Proofs.Ytidaiafmhidooaa.Ord Go.Proofs.Ytidaiafmhidooaa Go.Proofs.Ytidaiafmhidooaa.P
open Go.Proofs.Ytidaiafmhidooaa.OrdSs (infoStr underS)
attribute [local go_sem] Oper.semAt_some
set_option maxHeartbeats 2000000
set_option maxRecDepth 100000
def putKeys : RowB → List ByteArray → RowB
  | L, [] => L
  | L, k :: l => putKeys (ins OrdSb.lt k true L) l
theorem putKeys_snoc : ∀ (l : List ByteArray) (L : RowB) (k : ByteArray), putKeys L (l ++ [k]) = ins OrdSb.lt k true (putKeys L l)
  | [], _, _ => rfl
  | y :: l, L, k => putKeys_snoc l _ k
theorem putKeys_rise : ∀ (l : List ByteArray) {L : RowB}, Rise OrdSb.lt L → Rise OrdSb.lt (putKeys L l) ∧ (putKeys L l).length ≤ L.length + l.length
  | [], L, h => ⟨h, by simp [putKeys]⟩
  | k :: l, L, h => by
    obtain ⟨c, d⟩ := putKeys_rise l (ins_rise OrdSb.lin k true h)
    have := insB_len k true L h
    exact ⟨c, by simp only [putKeys, List.length_cons]; omega⟩
def bothB (a b : Row) : RowB := putKeys (putKeys [] (a.map (·.1))) (b.map (·.1))
def chg (a b : Row) (k : ByteArray) : Bool := !(((lookK OrdSs.lt k a).getD ByteArray.empty).toList == ((lookK OrdSs.lt k b).getD ByteArray.empty).toList) || !((lookK OrdSs.lt k a).isSome == (lookK OrdSs.lt k b).isSome)
theorem both_len {a b : Row} : (bothB a b).length ≤ a.length + b.length := by
  obtain ⟨c, d⟩ := putKeys_rise (a.map (·.1)) (L := []) List.Pairwise.nil
  obtain ⟨c2, d2⟩ := putKeys_rise (b.map (·.1)) c
  simp only [List.length_map, List.length_nil] at d d2
  unfold bothB
  omega
theorem hold_stab {α : Type} (B m : Nat) (L : α → RowB) : It.Stab B (fun (s : α) M V => OrdSb.Hold M V m (L s)) := fun s M V V' h f => h.frm f (fun k hk _ q => q.1 hk)
theorem hold_putM {M : Nat → Prop} {V : World} {m : Nat} {L : RowB} (h : OrdSb.Hold M V m L) (hM : ∀ k, M k → k < V.heap.size) (hl : L.length < 1000000) (k : ByteArray) (v : Bool) :
    Calls Try.prog 67 #[.pointer (some ⟨m, 0, none⟩), .string k, .bool v] V fun e V' => (∃ b, e = .returned (.bool b)) ∧ ∃ M', (∀ k, M' k → (M k ∨ V.heap.size ≤ k) ∧ k < V'.heap.size) ∧ It.FrM M V V' ∧ OrdSb.Hold M' V' m (ins OrdSb.lt k v L) := by
  refine (OrdSb.hold_put (U := fun k => M k ∨ V.heap.size ≤ k) (h.mono (fun k hk => .inl hk)) (fun k hk => .inr hk) hl k v).mono ?_
  rintro e V' ⟨hb, hH, hF⟩
  exact ⟨hb, _, fun k hk => hk, hF.mono (fun i hi => hi), hH.bound⟩
theorem changed_any {w : World} {A A2 : Option Addr} {c c2 : Nat} {l : List Ms} {e : List En} (hC : Kd.C P.k33 w A l.length l) (hcap : l.length ≤ c) (hC2 : Kd.C P.k55 w A2 e.length e) (hcap2 : e.length ≤ c2) (hlen : l.length ≤ 100000) (hlen2 : e.length ≤ 100000) (hsz : ∀ x ∈ l, x.f2.size ≤ 140737488351232) :
    Calls Try.prog 32 #[.slice A l.length c, .slice A2 e.length c2] w fun r w' => ∃ v, r = .returned v ∧ Kd.string.R 9 w' w.heap.size (fun _ => True) v (((bothB (tabV e) (foldV l e)).map (·.1)).filter (chg (tabV e) (foldV l e))) ∧ Below w.heap.size w w' := by
  obtain ⟨i0, hi, hz0, hz1, hz2⟩ := info_parts infoStr
  have hmx : maxLen = 9223372036854775807 := rfl
  refine (callsIn_wide (n := 5)).1 ?_
  refine callsIn_of_wp_marks Try.func32 rfl trivial ?_ rfl
  simp only [Try.ntmps32, List.size_toArray, List.length_cons, List.length_nil, Nat.reduceAdd, Nat.reduceSub, Array.replicate_succ, Array.replicate_zero, List.push_toArray, List.append_toArray, List.nil_append, List.cons_append]
  have TB := table_any hC2 hcap2 hlen2
  gi_wp2_with (first
    | (refine ⟨trivial, ?_⟩; gi_at_call 63; refine (callsIn_wide.2 TB).mono ?_; clear TB; rintro r w1 ⟨m1, rfl, hH1, hB1⟩; have FD := folded_any (Kd.C_below hC hB1) hcap (Kd.C_below hC2 hB1) hcap2 hlen hlen2 hsz)
    | (refine ⟨trivial, ?_⟩; gi_at_call 64; refine (callsIn_wide.2 FD).mono ?_; clear FD; rintro r w2 ⟨m2, rfl, hH2, hB2⟩)
    | (refine ⟨trivial, ?_⟩; gi_at_call 65; refine (callsIn_wide.2 (OrdSb.hold_new _)).mono ?_; rintro r w3 ⟨m3, rfl, hH3, hB3⟩; have g5 := blk_alloc (blk_below (blk_alloc (blk_new w2 (.cells #[.pointer (some ⟨m1, 0, none⟩)] 75)) (.cells #[.pointer (some ⟨m2, 0, none⟩)] 75)) hB3) (.cells #[.pointer (some ⟨m3, 0, none⟩)] 78); have g6 := blk_alloc (blk_below (blk_new (w2.alloc (.cells #[.pointer (some ⟨m1, 0, none⟩)] 75)) (.cells #[.pointer (some ⟨m2, 0, none⟩)] 75)) hB3) (.cells #[.pointer (some ⟨m3, 0, none⟩)] 78); rw [World.size_alloc] at g6; have c5 := blk_cell g5 0; simp at c5)
    | (refine ⟨trivial, ?_⟩; gi_at_call 66; refine (OrdSs.all_in _ (some ⟨m1, 0, none⟩) _).mono ?_; rintro r w' ⟨rfl, tt, rfl⟩))
  have hs1 := hB1.size
  have hs2 := hB2.size
  have hs3 := hB3.size
  rw [World.size_alloc, World.size_alloc] at hs3 hH3
  have hBa : Below w2.heap.size w2 ((w3.alloc (.cells #[.pointer (some ⟨m3, 0, none⟩)] 78)).alloc (.cells #[.pointer (some ⟨m1, 0, none⟩)] tt)) :=
    ((((Below.refl _ w2).alloc (Nat.le_refl _) _).alloc (by simp) _).trans (hB3.mono (by simp; omega))).alloc (by omega) _ |>.alloc (by simp; omega) _
  have bN := Boxed.new (w3.alloc (.cells #[.pointer (some ⟨m3, 0, none⟩)] 78)) tt (.pointer (some ⟨m1, 0, none⟩))
  rw [World.size_alloc] at bN
  have g7 := blk_alloc (blk_new w3 (.cells #[.pointer (some ⟨m3, 0, none⟩)] 78)) (.cells #[.pointer (some ⟨m1, 0, none⟩)] tt)
  have g5 := blk_alloc g5 (.cells #[.pointer (some ⟨m1, 0, none⟩)] tt)
  have g6 := blk_alloc g6 (.cells #[.pointer (some ⟨m1, 0, none⟩)] tt)
  have hH3' := OrdSb.Hold.below hH3.bound (((Below.refl _ w3).alloc (Nat.le_refl _) (.cells #[.pointer (some ⟨m3, 0, none⟩)] 78)).alloc (by simp) (.cells #[.pointer (some ⟨m1, 0, none⟩)] tt))
  generalize hw4 : (w3.alloc (.cells #[.pointer (some ⟨m3, 0, none⟩)] 78)).alloc (.cells #[.pointer (some ⟨m1, 0, none⟩)] tt) = w4 at hBa bN g5 g6 g7 hH3' ⊢
  have hs4 : w4.heap.size = w3.heap.size + 1 + 1 := by rw [← hw4]; simp
  clear hw4 hH3 c5
  have hH1b := hH1.bound
  have hH2b := hH2.bound
  have hB14 : Below w1.heap.size w1 w4 := hB2.trans (hBa.mono hs2)
  have hl1 := (tab_rise e).2
  have hl2 := (fold_rise l e).2
  have hr1 := (tab_rise e).1
  obtain ⟨S1, hS1, hIt1⟩ := OrdSs.hold_all_iter 4 (w3.heap.size + 1) hH1b hB14 (by omega) bN.cell
  apply It.range_iter rfl (by omega) (gf := 93) (lb := #[.pointer (some ⟨w3.heap.size + 1, 0, none⟩)]) rfl trivial (enters_of Try.func93 (by kernel_rfl) rfl)
    hIt1 (It.FrM.refl _ _) (fun k => w2.heap.size + 1 + 1 ≤ k ∧ k < w3.heap.size) (fun k hk => ⟨(hS1 k hk).2, fun q => by have := (hS1 k hk).1; omega⟩) (fun k hk => by omega) (fun _ => rfl)
    (fun pre M V => OrdSb.Hold M V m3 (putKeys [] (pre.map (·.1)))) (fun _ _ _ _ => False)
    (hold_stab _ _ _) (fun _ _ _ _ _ h _ => h) (by simpa [putKeys] using hH3')
  case hassign =>
    intro ll x V K hK
    gi_wp2
    exact hK
  case hbody =>
    rintro ll pre x M1 V hHV hMb hF hlt
    replace hlt : pre.length < (tabV e).length := hlt
    have g7v := hF.blk g7 (by omega)
    have c7 := blk_cell g7v 0
    simp at c7
    have hpl := (putKeys_rise (pre.map (·.1)) (L := []) List.Pairwise.nil).2
    rw [List.length_map, List.length_nil] at hpl
    have PT := hold_putM hHV (fun k hk => (hMb k hk).2) (by omega) x.1 true
    have hsn : Aside (putKeys [] ((pre ++ [x]).map (·.1)) = ins OrdSb.lt x.1 true (putKeys [] (pre.map (·.1)))) := by
      show _ = _
      rw [List.map_append]; exact putKeys_snoc _ _ _
    clear hHV
    gi_wp2_with (refine ⟨trivial, ?_⟩; gi_at_call 67; refine (CallsIn.inRound ll (callsIn_wide.2 PT)).mono ?_; clear PT; rintro r V2 ⟨⟨b2, rfl⟩, hq⟩)
    obtain ⟨M', q1, q2, q3⟩ := hq
    exact ⟨M', q1, q2, by show OrdSb.Hold _ _ _ _; rw [hsn.out]; exact q3⟩
  case hstop =>
    intro D cd pre M1 V _ _ _ _ _ _ h _
    exact h.elim
  case hdone =>
    rintro D1 ys M1 V1 hD1 hDV1 hDM1 hMb1 hF1 rfl hHV1 hK1
    have g5b := hF1.blk g5 (by omega)
    have g6b := hF1.blk g6 (by omega)
    have g7b := hF1.blk g7 (by omega)
    have c6 := blk_cell g6b 0
    simp at c6
    have hHV1A := Aside0.mk hHV1
    clear hIt1 hS1 bN hB3
    gi_wp2_with (refine ⟨trivial, ?_⟩; gi_at_call 66; refine (OrdSs.all_in _ (some ⟨m2, 0, none⟩) _).mono ?_; rintro r w' ⟨rfl, tt2, rfl⟩)
    have hb5 : Below w2.heap.size w2 (V1.alloc (.cells #[.pointer (some ⟨m2, 0, none⟩)] tt2)) := (hBa.trans (hF1.below (base := w2.heap.size) (fun k hk => by omega) (by omega))).alloc (by have := hF1.size; omega) _
    have hsV1 := hF1.size
    have bN2 := Boxed.new V1 tt2 (.pointer (some ⟨m2, 0, none⟩))
    have g5c := blk_alloc g5b (.cells #[.pointer (some ⟨m2, 0, none⟩)] tt2)
    have g6c := blk_alloc g6b (.cells #[.pointer (some ⟨m2, 0, none⟩)] tt2)
    have g7c := blk_alloc g7b (.cells #[.pointer (some ⟨m2, 0, none⟩)] tt2)
    have hK1c := blk_alloc hK1 (.cells #[.pointer (some ⟨m2, 0, none⟩)] tt2)
    have hH3c := OrdSb.Hold.below hHV1A.out ((Below.refl _ V1).alloc (Nat.le_refl _) (.cells #[.pointer (some ⟨m2, 0, none⟩)] tt2))
    generalize hw5 : V1.alloc (.cells #[.pointer (some ⟨m2, 0, none⟩)] tt2) = w5 at hb5 bN2 g5c g6c g7c hK1c hH3c ⊢
    have hs5 : w5.heap.size = V1.heap.size + 1 := by rw [← hw5]; simp
    clear hw5 g5b g6b g7b c6 hHV1 hHV1A
    have hM1A : Aside (∀ k, M1 k → w2.heap.size + 1 + 1 ≤ k ∧ k < V1.heap.size ∧ k ≠ D1 ∧ k ≠ w3.heap.size) := fun k hk => by
      have h1 := hMb1 k hk
      refine ⟨by omega, h1.2, fun q => hDM1 (q ▸ hk), ?_⟩
      rintro rfl
      omega
    obtain ⟨S2, hS2, hIt2⟩ := OrdSs.hold_all_iter 4 V1.heap.size hH2b hb5 (by omega) bN2.cell
    apply It.range_iter rfl (by omega) (gf := 93) (lb := #[.pointer (some ⟨V1.heap.size, 0, none⟩)]) rfl trivial (enters_of Try.func93 (by kernel_rfl) rfl)
      hIt2 (It.FrM.refl _ _) M1 (fun k hk => ⟨(hS2 k hk).2, fun q => by have := (hS2 k hk).1; have := hM1A.out k q; omega⟩) (fun k hk => by have := hM1A.out k hk; omega) (fun _ => rfl)
      (fun pre M V => OrdSb.Hold M V m3 (putKeys (putKeys [] ((tabV e).map (·.1))) (pre.map (·.1)))) (fun _ _ _ _ => False)
      (hold_stab _ _ _) (fun _ _ _ _ _ h _ => h) (by simpa [putKeys] using hH3c)
    case hassign =>
      intro ll x V K hK
      gi_wp2
      exact hK
    case hbody =>
      rintro ll pre x M2 V hHV hMb hF hlt
      replace hlt : pre.length < (foldV l e).length := hlt
      have g7v := hF.blk g7c (fun q => (hM1A.out _ q).2.2.2 rfl)
      have c7 := blk_cell g7v 0
      simp at c7
      have hp0 := putKeys_rise ((tabV e).map (·.1)) (L := []) List.Pairwise.nil
      have hpl := (putKeys_rise (pre.map (·.1)) hp0.1).2
      have hp2 := hp0.2
      rw [List.length_map] at hpl hp2
      rw [List.length_nil] at hp2
      have PT := hold_putM hHV (fun k hk => (hMb k hk).2) (by omega) x.1 true
      have hsn : Aside (putKeys (putKeys [] ((tabV e).map (·.1))) ((pre ++ [x]).map (·.1)) = ins OrdSb.lt x.1 true (putKeys (putKeys [] ((tabV e).map (·.1))) (pre.map (·.1)))) := by
        show _ = _
        rw [List.map_append]; exact putKeys_snoc _ _ _
      clear hHV
      gi_wp2_with (refine ⟨trivial, ?_⟩; gi_at_call 67; refine (CallsIn.inRound ll (callsIn_wide.2 PT)).mono ?_; clear PT; rintro r V2 ⟨⟨b2, rfl⟩, hq⟩)
      obtain ⟨M', q1, q2, q3⟩ := hq
      exact ⟨M', q1, q2, by show OrdSb.Hold _ _ _ _; rw [hsn.out]; exact q3⟩
    case hstop =>
      intro D cd pre M1 V _ _ _ _ _ _ h _
      exact h.elim
    case hdone =>
      rintro D2 ys M2 V2 hD2 hDV2 hDM2 hMb2 hF2 rfl hHV2 hK2
      have hsV2 := hF2.size
      have g5d := hF2.blk g5c (fun q => by have := hM1A.out _ q; omega)
      have g6d := hF2.blk g6c (fun q => by have := hM1A.out _ q; omega)
      have g7d := hF2.blk g7c (fun q => (hM1A.out _ q).2.2.2 rfl)
      have hK1d := hF2.blk hK1c hDM1
      have hDlt := (Array.getElem?_eq_some_iff.1 hK1c).1
      have c7 := blk_cell (blk_alloc g7d (.cells #[.slice none 0 0] 48)) 0
      simp at c7
      have hb6 : Below w2.heap.size w2 V2 := hb5.trans (hF2.below (base := w2.heap.size) (fun k hk => by have := hM1A.out k hk; omega) (by omega))
      have hHV2A := Aside0.mk hHV2
      clear hIt2 hS2 bN2 hH3c
      gi_wp2_with (refine ⟨trivial, ?_⟩; gi_at_call 68; refine (OrdSb.all_in _ (some ⟨m3, 0, none⟩) _).mono ?_; rintro r w' ⟨rfl, tt3, rfl⟩)
      have bO := (Boxed.new V2 48 (.slice none 0 0)).alloc (.cells #[.pointer (some ⟨m3, 0, none⟩)] tt3)
      have bN3 := Boxed.new (V2.alloc (.cells #[.slice none 0 0] 48)) tt3 (.pointer (some ⟨m3, 0, none⟩))
      rw [World.size_alloc] at bN3
      have hB7 : Below V2.heap.size V2 ((V2.alloc (.cells #[.slice none 0 0] 48)).alloc (.cells #[.pointer (some ⟨m3, 0, none⟩)] tt3)) := ((Below.refl _ V2).alloc (Nat.le_refl _) _).alloc (by simp) _
      have g5e := blk_below g5d hB7
      have g6e := blk_below g6d hB7
      have hK1e := blk_below hK1d hB7
      have hK2e := blk_below hK2 hB7
      generalize hw7 : (V2.alloc (.cells #[.slice none 0 0] 48)).alloc (.cells #[.pointer (some ⟨m3, 0, none⟩)] tt3) = w7 at bO bN3 hB7 g5e g6e hK1e hK2e ⊢
      have hs7 : w7.heap.size = V2.heap.size + 1 + 1 := by rw [← hw7]; simp
      clear hw7 c7
      have hb7 : Below w2.heap.size w2 w7 := hb6.trans (hB7.mono (by omega))
      have hb71 : Below w1.heap.size w1 w7 := hB2.trans (hb7.mono hs2)
      have hb70 : Below w.heap.size w w7 := hB1.trans (hb71.mono hs1)
      have hH1w := OrdSs.Hold.below hH1b hb71
      have hH2w := OrdSs.Hold.below hH2b hb7
      have hbl := both_len (a := tabV e) (b := foldV l e)
      obtain ⟨S3, hS3, hIt3⟩ := OrdSb.hold_all_iter 4 (V2.heap.size + 1) hHV2A.out hB7 (by omega) bN3.cell
      replace hIt3 : It.Iter Fence.wide 4 Try.prog 97 #[.pointer (some ⟨V2.heap.size + 1, 0, none⟩)] (fun x : ByteArray × Bool => #[.string x.1, .bool x.2]) (fun ys => ys = bothB (tabV e) (foldV l e)) (fun pre => pre <+: bothB (tabV e) (foldV l e)) (bothB (tabV e) (foldV l e)).length S3 w7 := hIt3
      apply It.range_iter rfl (by omega) (gf := 97) (lb := #[.pointer (some ⟨V2.heap.size + 1, 0, none⟩)]) rfl trivial (enters_of Try.func97 (by kernel_rfl) rfl)
        hIt3 (It.FrM.refl _ _) (fun k => k = V2.heap.size) (fun k hk => ⟨(hS3 k hk).2, fun q => by have := (hS3 k hk).1; omega⟩) (fun k hk => by omega) (fun _ => rfl)
        (fun pre M V => It.OutC 48 9 1 w.heap.size V2.heap.size ((pre.map (·.1)).filter (chg (tabV e) (foldV l e))).length (((pre.map (·.1)).filter (chg (tabV e) (foldV l e))).map Value.string) M V) (fun _ _ _ _ => False)
        (It.OutC.stab _ _ _ _ _ _ _ _) (fun _ _ _ _ _ h _ => h) (It.OutC.start bO)
      case hassign =>
        intro ll x V K hK
        gi_wp2
        exact hK
      case hbody =>
        rintro ll pre x M3 V ⟨v, hv, hrow, hMB, hMg⟩ hMb hF hlt
        have hc1 := hv.cell
        have hsV := hF.size
        have hfl : ((pre.map (·.1)).filter (chg (tabV e) (foldV l e))).length ≤ pre.length := by have := List.length_filter_le (chg (tabV e) (foldV l e)) (pre.map (·.1)); rwa [List.length_map] at this
        have g5f := hF.blk g5e (by omega)
        have g6f := hF.blk g6e (by omega)
        have c5 := blk_cell g5f 0
        have c6 := blk_cell g6f 0
        simp at c5 c6
        have GT1 := OrdSs.hold_get (OrdSs.Hold.frm hH1w hF (fun k hk _ q => by omega)) x.1
        have GT2 := OrdSs.hold_get (OrdSs.Hold.frm hH2w hF (fun k hk _ q => by omega)) x.1
        have hch : chg (tabV e) (foldV l e) x.1 = (!(((lookK OrdSs.lt x.1 (tabV e)).getD ByteArray.empty).toList == ((lookK OrdSs.lt x.1 (foldV l e)).getD ByteArray.empty).toList) || !((lookK OrdSs.lt x.1 (tabV e)).isSome == (lookK OrdSs.lt x.1 (foldV l e)).isSome)) := rfl
        have hflt : ((pre ++ [x]).map (·.1)).filter (chg (tabV e) (foldV l e)) = (pre.map (·.1)).filter (chg (tabV e) (foldV l e)) ++ (if chg (tabV e) (foldV l e) x.1 = true then [x.1] else []) := by
          rw [List.map_append, List.filter_append]
          congr 1
          rw [List.map_cons, List.map_nil, List.filter_cons]
          split <;> rfl
        generalize (lookK OrdSs.lt x.1 (tabV e)).getD ByteArray.empty = v1 at GT1 hch
        generalize (lookK OrdSs.lt x.1 (tabV e)).isSome = i1 at GT1 hch
        generalize (lookK OrdSs.lt x.1 (foldV l e)).getD ByteArray.empty = v2 at GT2 hch
        generalize (lookK OrdSs.lt x.1 (foldV l e)).isSome = i2 at GT2 hch
        by_cases hcg : chg (tabV e) (foldV l e) x.1 = true
        · have hyes : Aside (((pre ++ [x]).map (·.1)).filter (chg (tabV e) (foldV l e)) = (pre.map (·.1)).filter (chg (tabV e) (foldV l e)) ++ [x.1]) := by show _ = _; rw [hflt, if_pos hcg]
          rw [hcg] at hch
          by_cases hvv : v1.toList = v2.toList
          · have z0 : (v1.toList == v2.toList) = true := by simpa using hvv
            have z1 : (v1.toList != v2.toList) = false := by simp [z0, bne]
            have hii : i1 ≠ i2 := by rintro rfl; rw [z0] at hch; simp at hch
            clear hvv hch hflt hcg
            cases i1 <;> cases i2 <;> first | exact absurd rfl hii | skip
            all_goals
              clear hii
              gi_wp2_with (first
                | (refine ⟨trivial, ?_⟩; gi_at_call 69; refine (CallsIn.inRound ll (callsIn_wide.2 GT1)).mono ?_; clear GT1; rintro r w' ⟨rfl, hw⟩; obtain rfl := hw.symm)
                | (refine ⟨trivial, ?_⟩; gi_at_call 69; refine (CallsIn.inRound ll (callsIn_wide.2 GT2)).mono ?_; clear GT2; rintro r w' ⟨rfl, hw⟩; obtain rfl := hw.symm)
                | (gi_at_builtin; refine wpListIn_append_own_at _ rfl _ _ 48 rfl w.heap.size 9 i0 (.string ⟨#[]⟩) 1 16 underS hi hz0 hz1 hz2 rfl (by decide) _ _ _ rfl (hrow.alloc _) ⟨V.heap.size, 0, none⟩ 1 1 [.string x.1] rfl rfl (cell_one_new _ _ _) (by simp [Value.oneCell']) (by omega) (by omega) (by simp; omega) ?_; intro v' w1 hown' hgrow _ hat; obtain ⟨g', cap', rfl⟩ := ownsRow_succ hown'; obtain ⟨hv1, hq⟩ := It.OutC.next hv hrow hMB hMg (fun k hk => (hMb k hk).2) (by decide) (by omega) (by omega) hown' hgrow hat; have hc2 := hv1.cell; have hf2 := hv1.frozen))
              obtain ⟨M', q1, q2, q3⟩ := hq
              exact ⟨M', q1, q2, by show It.OutC _ _ _ _ _ (((pre ++ [x]).map (·.1)).filter (chg (tabV e) (foldV l e))).length ((((pre ++ [x]).map (·.1)).filter (chg (tabV e) (foldV l e))).map Value.string) _ _; rw [hyes.out, List.length_append, List.map_append]; exact q3⟩
          · have z0 : (v1.toList == v2.toList) = false := by simpa using hvv
            have z1 : (v1.toList != v2.toList) = true := by simp [z0, bne]
            clear hvv hch hflt hcg
            gi_wp2_with (first
              | (refine ⟨trivial, ?_⟩; gi_at_call 69; refine (CallsIn.inRound ll (callsIn_wide.2 GT1)).mono ?_; clear GT1; rintro r w' ⟨rfl, hw⟩; obtain rfl := hw.symm)
              | (refine ⟨trivial, ?_⟩; gi_at_call 69; refine (CallsIn.inRound ll (callsIn_wide.2 GT2)).mono ?_; clear GT2; rintro r w' ⟨rfl, hw⟩; obtain rfl := hw.symm)
              | (gi_at_builtin; refine wpListIn_append_own_at _ rfl _ _ 48 rfl w.heap.size 9 i0 (.string ⟨#[]⟩) 1 16 underS hi hz0 hz1 hz2 rfl (by decide) _ _ _ rfl (hrow.alloc _) ⟨V.heap.size, 0, none⟩ 1 1 [.string x.1] rfl rfl (cell_one_new _ _ _) (by simp [Value.oneCell']) (by omega) (by omega) (by simp; omega) ?_; intro v' w1 hown' hgrow _ hat; obtain ⟨g', cap', rfl⟩ := ownsRow_succ hown'; obtain ⟨hv1, hq⟩ := It.OutC.next hv hrow hMB hMg (fun k hk => (hMb k hk).2) (by decide) (by omega) (by omega) hown' hgrow hat; have hc2 := hv1.cell; have hf2 := hv1.frozen))
            obtain ⟨M', q1, q2, q3⟩ := hq
            exact ⟨M', q1, q2, by show It.OutC _ _ _ _ _ (((pre ++ [x]).map (·.1)).filter (chg (tabV e) (foldV l e))).length ((((pre ++ [x]).map (·.1)).filter (chg (tabV e) (foldV l e))).map Value.string) _ _; rw [hyes.out, List.length_append, List.map_append]; exact q3⟩
        · have hno : Aside (((pre ++ [x]).map (·.1)).filter (chg (tabV e) (foldV l e)) = (pre.map (·.1)).filter (chg (tabV e) (foldV l e))) := by show _ = _; rw [hflt, if_neg hcg, List.append_nil]
          rw [Bool.not_eq_true] at hcg
          rw [hcg] at hch
          have hvv : v1.toList = v2.toList := by
            by_cases q : v1.toList = v2.toList
            · exact q
            · have : (v1.toList == v2.toList) = false := by simpa using q
              rw [this] at hch; simp at hch
          have z0 : (v1.toList == v2.toList) = true := by simpa using hvv
          have z1 : (v1.toList != v2.toList) = false := by simp [z0, bne]
          have hii : i1 = i2 := by
            rw [z0] at hch
            cases i1 <;> cases i2 <;> first | rfl | simp at hch
          subst hii
          clear hvv hch hflt hcg
          cases i1 <;>
          · gi_wp2_with (first
              | (refine ⟨trivial, ?_⟩; gi_at_call 69; refine (CallsIn.inRound ll (callsIn_wide.2 GT1)).mono ?_; clear GT1; rintro r w' ⟨rfl, hw⟩; obtain rfl := hw.symm)
              | (refine ⟨trivial, ?_⟩; gi_at_call 69; refine (CallsIn.inRound ll (callsIn_wide.2 GT2)).mono ?_; clear GT2; rintro r w' ⟨rfl, hw⟩; obtain rfl := hw.symm))
            exact ⟨M3, fun k hk => ⟨.inl hk, (hMb k hk).2⟩, It.FrM.refl _ _, by show It.OutC _ _ _ _ _ (((pre ++ [x]).map (·.1)).filter (chg (tabV e) (foldV l e))).length ((((pre ++ [x]).map (·.1)).filter (chg (tabV e) (foldV l e))).map Value.string) _ _; rw [hno.out]; exact ⟨v, hv, hrow, hMB, hMg⟩⟩
      case hstop =>
        intro D cd pre M1 V _ _ _ _ _ _ h _
        exact h.elim
      case hdone =>
        rintro D3 ys M3 V3 hD3 hDV3 hDM3 hMb3 hF3 rfl ⟨v, hv, hrow, hMB, hMg⟩ hK3
        have hc1 := hv.cell
        have hDlt2 := (Array.getElem?_eq_some_iff.1 hK2).1
        have hDlt1 := (Array.getElem?_eq_some_iff.1 hK1d).1
        have k1 := hF3.blk hK1e (by omega)
        have k2 := hF3.blk hK2e (by omega)
        have hB0 : Below w.heap.size w V3 := hb70.trans (hF3.below (base := w.heap.size) (fun k hk => by omega) (by omega))
        gi_wp2
        have k2' : (V3.putObj D3 (.deferred none)).heap[D2]? = some (.deferred (some [])) := (World.putObj_heap_other (by omega)).trans k2
        have k1' : ((V3.putObj D3 (.deferred none)).putObj D2 (.deferred none)).heap[D1]? = some (.deferred (some [])) := (World.putObj_heap_other (by omega)).trans ((World.putObj_heap_other (by omega)).trans k1)
        refine ⟨by simp, .inl ⟨_, _, rfl, run_takeDeferred hK3, ?_⟩⟩
        refine ⟨by simp, .inl ⟨_, _, rfl, run_takeDeferred k2', ?_⟩⟩
        refine ⟨by simp, .inl ⟨_, _, rfl, run_takeDeferred k1', ?_⟩⟩
        exact ⟨_, results_tmp rfl _ _ _, v, rfl, own_strs (ownsRow_putObj (ownsRow_putObj (ownsRow_putObj hrow _ hK3 rfl) _ k2' rfl) _ k1' rfl) rfl,
          ((hB0.trans (belowK_b (w := w) (Nat.le_refl _) V3 D3 _ _ (by omega) hK3 rfl rfl)).trans (belowK_b (w := w) (Nat.le_refl _) _ D2 _ _ (by omega) k2' rfl rfl)).trans (belowK_b (w := w) (Nat.le_refl _) _ D1 _ _ (by omega) k1' rfl rfl)⟩
end Go.Proofs.Ytidaiafmhidooaa.Fo
end
section
set_option linter.unusedVariables false
set_option linter.unusedSimpArgs false
namespace Go.Proofs.Ytidaiafmhidooaa.Fo
open Go.RowKit Go.Shelf Go.Proofs.YtidaiafmhidooaaW.PrintWords Go.Proofs.YtidaiafmhidooaaW.PrintLast Go.Proofs.YtidaiafmhidooaaW.PrintMore Go.Proofs.Ytidaiafmhidooaa.Own Go.Proofs.Ytidaiafmhidooaa.Ord Go.Proofs.Ytidaiafmhidooaa Go.Proofs.Ytidaiafmhidooaa.P
open Go.Proofs.Ytidaiafmhidooaa.OrdSs (cell_two_new own_empty run_eql_func_nil)
attribute [local go_sem] Oper.semAt_some
set_option maxHeartbeats 2000000
set_option maxRecDepth 100000
end Go.Proofs.Ytidaiafmhidooaa.Fo
end
section
set_option linter.unusedVariables false
set_option linter.unusedSimpArgs false
namespace Go.Proofs.Ytidaiafmhidooaa.Fo
open Go.RowKit Go.Proofs.YtidaiafmhidooaaW.PrintWords Go.Proofs.YtidaiafmhidooaaW.PrintLast Go.Proofs.YtidaiafmhidooaaW.PrintMore Go.Proofs.Ytidaiafmhidooaa.Own Go.Proofs.Ytidaiafmhidooaa
def okF (l : List Ms) (e : List En) : Bool := decide (l.length ≤ 100000) && decide (e.length ≤ 100000) && l.all (fun x => decide (x.f2.size ≤ 140737488351232))
theorem okF_iff {l : List Ms} {e : List En} : okF l e = true ↔ l.length ≤ 100000 ∧ e.length ≤ 100000 ∧ ∀ x ∈ l, x.f2.size ≤ 140737488351232 := by
  unfold okF
  rw [Bool.and_eq_true, Bool.and_eq_true, decide_eq_true_eq, decide_eq_true_eq, List.all_eq_true]
  simp only [decide_eq_true_eq, and_assoc]
def entriesF (l : List Ms) (e : List En) (f t : ByteArray) : Option (List En) := if okF l e = true then some ((heldV f t (foldV l e)).map toE) else none
def keysF (l : List Ms) : Option (List ByteArray) := if okF l [] = true then some ((keysB l).map (·.1)) else none
def changedF (l : List Ms) (e : List En) : Option (List ByteArray) := if okF l e = true then some (((bothB (tabV e) (foldV l e)).map (·.1)).filter (chg (tabV e) (foldV l e))) else none
section
variable {A0 A1 : Option Addr} {c0 c1 : Nat} {l0 : List Ms} {l1 : List En} {w : World}
theorem entriesF_calls {f t : ByteArray} {r : List En} (hr0 : Kd.C P.k33 w A0 l0.length l0) (hc0 : l0.length ≤ c0) (hr1 : Kd.C P.k55 w A1 l1.length l1) (hc1 : l1.length ≤ c1) (h : entriesF l0 l1 f t = some r) :
    Calls Try.prog 25 #[.slice A0 l0.length c0, .slice A1 l1.length c1, .agg #[.string f, .string t]] w fun e w' => ∃ v0_ : Value, e = .returned (v0_) ∧ Kd.R P.k55 55 w' w.heap.size (fun _ => True) v0_ r ∧ Below w.heap.size w w' := by
  unfold entriesF at h
  split at h
  · rename_i hq
    cases h
    obtain ⟨h1, h2, h3⟩ := okF_iff.1 hq
    exact entries_any f t hr0 hc0 hr1 hc1 h1 h2 h3
  · cases h
theorem keysF_calls {r : List ByteArray} (hr0 : Kd.C P.k33 w A0 l0.length l0) (hc0 : l0.length ≤ c0) (h : keysF l0 = some r) :
    Calls Try.prog 39 #[.slice A0 l0.length c0] w fun e w' => ∃ v0_ : Value, e = .returned (v0_) ∧ Kd.R Kd.string 9 w' w.heap.size (fun _ => True) v0_ r ∧ Below w.heap.size w w' := by
  unfold keysF at h
  split at h
  · rename_i hq
    cases h
    exact keys_any hr0 hc0 (okF_iff.1 hq).1
  · cases h
theorem changedF_calls {r : List ByteArray} (hr0 : Kd.C P.k33 w A0 l0.length l0) (hc0 : l0.length ≤ c0) (hr1 : Kd.C P.k55 w A1 l1.length l1) (hc1 : l1.length ≤ c1) (h : changedF l0 l1 = some r) :
    Calls Try.prog 32 #[.slice A0 l0.length c0, .slice A1 l1.length c1] w fun e w' => ∃ v0_ : Value, e = .returned (v0_) ∧ Kd.R Kd.string 9 w' w.heap.size (fun _ => True) v0_ r ∧ Below w.heap.size w w' := by
  unfold changedF at h
  split at h
  · rename_i hq
    cases h
    obtain ⟨h1, h2, h3⟩ := okF_iff.1 hq
    exact changed_any hr0 hc0 hr1 hc1 h1 h2 h3
  · cases h
end
end Go.Proofs.Ytidaiafmhidooaa.Fo
end
section
namespace Go.Proofs.Ytidaiafmhidooaa.P
open Go.RowKit Go.Proofs.YtidaiafmhidooaaW.PrintWords Go.Proofs.YtidaiafmhidooaaW.PrintLast Go.Proofs.YtidaiafmhidooaaW.PrintMore Go.Proofs.Ytidaiafmhidooaa.Own
open Bool renaming true → YY, false → ZZ
open Go.Proofs.YtidaiafmhidooaaW.PrintWords renaming blk_cell → bC, blk_drewN → bN, blk_alloc → bA, pw_below_drewN → wN, blk_drew → bD, below_drew1 → w1, below_set → wS, below_alloc → wA, blk_below → bB, below_step → wT, below_size → wZ
open List renaming setIfInBounds_toArray → sA1, set_cons_zero → sA2, set_cons_succ → sA3, map_toArray → mA1, map_cons → mA2, map_nil → mA3, length_take → mA4, length_drop → mA5
attribute [local go_sem] max2_str max2_int min2_int max_two min_two max_three min_three max_four min_four   -- for this text's walks alone
set_option linter.unusedVariables false
set_option linter.unusedSimpArgs false
attribute [local go_sem high] eqA55
def fold_Entries.f (l0 : List S33) (l1 : List S55) (a2_0 : BA) (a2_1 : BA) : Option (List S55) := Fo.entriesF l0 l1 a2_0 a2_1
theorem fold_Entries.calls (A0 : Option Addr) (c0 : Nat) (l0 : List S33) (A1 : Option Addr) (c1 : Nat) (l1 : List S55) (a2_0 : BA) (a2_1 : BA) (r : List S55) (w : World) (hr0 : Kd.C k33 w A0 l0.length l0) (hc0 : l0.length ≤ c0) (hr1 : Kd.C k55 w A1 l1.length l1) (hc1 : l1.length ≤ c1) (h : fold_Entries.f l0 l1 a2_0 a2_1 = some r) :
  Calls Try.prog 25 #[.slice A0 l0.length c0, .slice A1 l1.length c1, .agg #[.string a2_0, .string a2_1]] w fun e w' => ∃ v0_ : Value, e = .returned (v0_) ∧ Kd.R k55 55 w' w.heap.size (fun _ => True) v0_ r ∧ Below w.heap.size w w' :=
 Fo.entriesF_calls hr0 hc0 hr1 hc1 h
def catchmentlaw05_live.f  : Option (Bool) := (fold_Entries.f (([(⟨1, 0, (⟨#[98]⟩ : BA), (⟨#[]⟩ : BA), (⟨#[50]⟩ : BA), 0⟩ : S33), (⟨4, 0, (⟨#[97]⟩ : BA), (⟨#[98]⟩ : BA), (⟨#[]⟩ : BA), 0⟩ : S33)] : List (S33))) (([(⟨(⟨#[97]⟩ : BA), (⟨#[49]⟩ : BA)⟩ : S55)] : List (S55))) (⟨#[]⟩ : BA) (⟨#[]⟩ : BA)).bind fun t287 => (if (t287.length : Int) = 1 then (if 0 < (t287.length : Int) then (some ((((rd_T55 t287 0).f0).toList) == ([98] : List UInt8) && ((((rd_T55 t287 0).f1).toList) == ([50] : List UInt8)))) else (none)) else (some false))
set_option maxHeartbeats 8000000 in
set_option maxRecDepth 100000 in
theorem catchmentlaw05_live.calls  (r : Bool) (w : World) (h : catchmentlaw05_live.f  = some r) :
  Calls Try.prog 23 #[] w fun e w' => e = .returned (.bool r) ∧ Below w.heap.size w w' := by
 have hu33 := Try.underlying33
 have hu55 := Try.underlying55
 have hu38 := Try.underlying38
 have HB := Aside0.mk (Below.refl w.heap.size w)
 have H : ((fold_Entries.f (([(⟨1, 0, (⟨#[98]⟩ : BA), (⟨#[]⟩ : BA), (⟨#[50]⟩ : BA), 0⟩ : S33), (⟨4, 0, (⟨#[97]⟩ : BA), (⟨#[98]⟩ : BA), (⟨#[]⟩ : BA), 0⟩ : S33)] : List (S33))) (([(⟨(⟨#[97]⟩ : BA), (⟨#[49]⟩ : BA)⟩ : S55)] : List (S55))) (⟨#[]⟩ : BA) (⟨#[]⟩ : BA)).bind fun t287 => (if (t287.length : Int) = 1 then (if 0 < (t287.length : Int) then (some ((((rd_T55 t287 0).f0).toList) == ([98] : List UInt8) && ((((rd_T55 t287 0).f1).toList) == ([50] : List UInt8)))) else (none)) else (some false))) = some r := h
 clear h
 obtain ⟨y281, hy281⟩ : ∃ y_ : List (S33), y_ = (([(⟨1, 0, (⟨#[98]⟩ : BA), (⟨#[]⟩ : BA), (⟨#[50]⟩ : BA), 0⟩ : S33), (⟨4, 0, (⟨#[97]⟩ : BA), (⟨#[98]⟩ : BA), (⟨#[]⟩ : BA), 0⟩ : S33)] : List (S33))) := ⟨_, rfl⟩
 replace H : ((fold_Entries.f y281 (([(⟨(⟨#[97]⟩ : BA), (⟨#[49]⟩ : BA)⟩ : S55)] : List (S55))) (⟨#[]⟩ : BA) (⟨#[]⟩ : BA)).bind fun t287 => (if (t287.length : Int) = 1 then (if 0 < (t287.length : Int) then (some ((((rd_T55 t287 0).f0).toList) == ([98] : List UInt8) && ((((rd_T55 t287 0).f1).toList) == ([50] : List UInt8)))) else (none)) else (some false))) = some r := by first | (rw [hy281]; with_reducible exact H) | (have H2_ := (Option.bind_some _ _).symm.trans H; rw [hy281]; with_reducible exact H2_) | (have H2_ := (Option.bind_some _ _).symm.trans H; with_reducible exact H2_) | with_reducible exact H | (rw [hy281]; exact H) | exact H
 have Ny281 := Aside0.mk hy281
 clear hy281
 obtain ⟨y284, hy284⟩ : ∃ y_ : List (S55), y_ = (([(⟨(⟨#[97]⟩ : BA), (⟨#[49]⟩ : BA)⟩ : S55)] : List (S55))) := ⟨_, rfl⟩
 replace H : ((fold_Entries.f y281 y284 (⟨#[]⟩ : BA) (⟨#[]⟩ : BA)).bind fun t287 => (if (t287.length : Int) = 1 then (if 0 < (t287.length : Int) then (some ((((rd_T55 t287 0).f0).toList) == ([98] : List UInt8) && ((((rd_T55 t287 0).f1).toList) == ([50] : List UInt8)))) else (none)) else (some false))) = some r := by first | (rw [hy284]; with_reducible exact H) | (have H2_ := (Option.bind_some _ _).symm.trans H; rw [hy284]; with_reducible exact H2_) | (have H2_ := (Option.bind_some _ _).symm.trans H; with_reducible exact H2_) | with_reducible exact H | (rw [hy284]; exact H) | exact H
 have Ny284 := Aside0.mk hy284
 clear hy284
 replace H := Option.bind_eq_some_iff.mp H
 obtain ⟨t287, A10, H⟩ := H
 replace H : (if (t287.length : Int) = 1 then (if 0 < (t287.length : Int) then (some ((((rd_T55 t287 0).f0).toList) == ([98] : List UInt8) && ((((rd_T55 t287 0).f1).toList) == ([50] : List UInt8)))) else (none)) else (some false)) = some r := H
 have A1 := Aside0.mk A10
 clear A10
 by_cases c2 : (t287.length : Int) = 1
 ·rw [if_pos c2] at H
  have c2b0 : ((t287.length : Int) == 1) = true := beq_iff_eq.mpr c2
  have c2b1 : ((t287.length : Int) != 1) = false := bne_eq_false_iff_eq.mpr c2
  clear c2
  by_cases c3 : 0 < (t287.length : Int)
  ·rw [if_pos c3] at H
   have c3b0 : decide (0 < (t287.length : Int)) = true := decide_eq_true c3
   have c3b1 : decide (0 < t287.length) = true := decide_eq_true (by omega)
   clear c3
   obtain rfl := Option.some.inj H
   go_enter Try.func23, Try.ntmps23
   go_wp2_with (first | ((with_reducible refine gate_dst (N := 4) rfl ?_); refine Kd.R_lit k33 _ 33 ?hg (N := 4) ?hd (xs := ([(⟨1, 0, (⟨#[98]⟩ : BA), (⟨#[]⟩ : BA), (⟨#[50]⟩ : BA), 0⟩ : S33), (⟨4, 0, (⟨#[97]⟩ : BA), (⟨#[98]⟩ : BA), (⟨#[]⟩ : BA), 0⟩ : S33)] : List (S33))) (inner := [.int .u8 1, .int .i64 0, .string (⟨#[98]⟩ : BA), .string (⟨#[]⟩ : BA), .string (⟨#[50]⟩ : BA), .int .u64 0, .int .u8 4, .int .i64 0, .string (⟨#[97]⟩ : BA), .string (⟨#[98]⟩ : BA), .string (⟨#[]⟩ : BA), .int .u64 0]) (ok := fun _ => True) (okp := fun _ => True) ?hr ?hp (fun _ hk => hk) trivial (Below.refl _ _) (Nat.le_refl _) (by simp) ?_; (case hd => rfl); (case hg => rfl); (case hr => first | (go_simp; done) | (go_simp; rfl)); (case hp => exact (Reps.c6 (show Kd.M k33 _ _ _ (⟨1, 0, (⟨#[98]⟩ : BA), (⟨#[]⟩ : BA), (⟨#[50]⟩ : BA), 0⟩ : S33) [.int .u8 1, .int .i64 0, .string (⟨#[98]⟩ : BA), .string (⟨#[]⟩ : BA), .string (⟨#[50]⟩ : BA), .int .u64 0] from (k33_mkM _ _ _ (⟨1, 0, (⟨#[98]⟩ : BA), (⟨#[]⟩ : BA), (⟨#[50]⟩ : BA), 0⟩ : S33) )) (Reps.c6 (show Kd.M k33 _ _ _ (⟨4, 0, (⟨#[97]⟩ : BA), (⟨#[98]⟩ : BA), (⟨#[]⟩ : BA), 0⟩ : S33) [.int .u8 4, .int .i64 0, .string (⟨#[97]⟩ : BA), .string (⟨#[98]⟩ : BA), .string (⟨#[]⟩ : BA), .int .u64 0] from (k33_mkM _ _ _ (⟨4, 0, (⟨#[97]⟩ : BA), (⟨#[98]⟩ : BA), (⟨#[]⟩ : BA), 0⟩ : S33) )) (Reps.none _ _)))); intro v282 w4 ho5 hb hg_ hnew_; clear hg_ hnew_; (first | rw [← Ny281.out] at ho5 | (simp only [Int.reduceToNat] at ho5; rw [← Ny281.out] at ho5)); have n0_ := Aside0.mk (Kd.R_lower ho5 (wZ (by repeat (first | (with_reducible first | exact HB.out | apply wA | apply wN | apply w1) | exact HB.out)))); have n1_ := Aside0.mk (wT (by repeat (first | (with_reducible first | exact HB.out | apply wA | apply wN | apply w1) | exact HB.out)) hb); clear HB; have HO283 := n0_; have HB := n1_; clear n0_ n1_; clear hb ho5) | ((with_reducible refine gate_dst (N := 6) rfl ?_); refine Kd.R_lit k55 _ 55 ?hg (N := 6) ?hd (xs := ([(⟨(⟨#[97]⟩ : BA), (⟨#[49]⟩ : BA)⟩ : S55)] : List (S55))) (inner := [.string (⟨#[97]⟩ : BA), .string (⟨#[49]⟩ : BA)]) (ok := fun _ => True) (okp := fun _ => True) ?hr ?hp (fun _ hk => hk) trivial (Below.refl _ _) (Nat.le_refl _) (by simp) ?_; (case hd => rfl); (case hg => rfl); (case hr => first | (go_simp; done) | (go_simp; rfl)); (case hp => exact (Reps.c2 (show Kd.M k55 _ _ _ (⟨(⟨#[97]⟩ : BA), (⟨#[49]⟩ : BA)⟩ : S55) [.string (⟨#[97]⟩ : BA), .string (⟨#[49]⟩ : BA)] from (k55_mkM _ _ _ (⟨(⟨#[97]⟩ : BA), (⟨#[49]⟩ : BA)⟩ : S55) )) (Reps.none _ _))); intro v285 w6 ho7 hb hg_ hnew_; clear hg_ hnew_; (first | rw [← Ny284.out] at ho7 | (simp only [Int.reduceToNat] at ho7; rw [← Ny284.out] at ho7)); have n0_ := Aside0.mk (Kd.R_below (by (with_reducible repeat (first | apply Kd.R_alloc | apply Kd.R_drewN | apply Kd.R_drew)); exact HO283.out) hb); have n1_ := Aside0.mk (Kd.R_lower ho7 (wZ (by repeat (first | (with_reducible first | exact HB.out | apply wA | apply wN | apply w1) | exact HB.out)))); have n2_ := Aside0.mk (wT (by repeat (first | (with_reducible first | exact HB.out | apply wA | apply wN | apply w1) | exact HB.out)) hb); clear HO283; clear HB; have HO283 := n0_; have HO286 := n1_; have HB := n2_; clear n0_ n1_ n2_; clear hb ho7; obtain ⟨Ao8, co8, eo8⟩ := Kd.R_slice HO283.out; subst eo8; obtain ⟨Ao9, co9, eo9⟩ := Kd.R_slice HO286.out; subst eo9) | ((with_reducible refine gate_callee (f := 25) rfl ?_); refine goesL_ (some 8) rfl rfl Try.func25 (by kernel_rfl) rfl #[.slice Ao8 y281.length co8, .slice Ao9 y284.length co9, .agg #[.string (⟨#[]⟩ : BA), .string (⟨#[]⟩ : BA)]] rfl (by (try simp only [mA1, mA2, mA3]); first | done | rfl | (simp only [mA5, mA4]; rfl)) ?_; (with_reducible refine (fold_Entries.calls _ _ y281 _ _ y284 (⟨#[]⟩ : BA) (⟨#[]⟩ : BA) t287 _ ?side1 ?side2 ?side3 ?side4 A1.out).mono ?_); (case side1 => repeat (first | exact (Kd.R_reads' HO283.out).2.2 | (with_reducible refine Kd.C_alloc ?_ _) | (with_reducible refine Kd.C_drewN ?_ _) | (with_reducible refine Kd.C_drew ?_))); (case side2 => exact (Kd.R_reads' HO283.out).2.1); (case side3 => repeat (first | exact (Kd.R_reads' HO286.out).2.2 | (with_reducible refine Kd.C_alloc ?_ _) | (with_reducible refine Kd.C_drewN ?_ _) | (with_reducible refine Kd.C_drew ?_))); (case side4 => exact (Kd.R_reads' HO286.out).2.1); rintro e w10 ⟨v288, rfl, ho0, hb⟩; refine ⟨_, rfl, ?_⟩; have n0_ := Aside0.mk (Kd.R_below (by (with_reducible repeat (first | apply Kd.R_alloc | apply Kd.R_drewN | apply Kd.R_drew)); exact HO283.out) hb); have n1_ := Aside0.mk (Kd.R_elder' (by (with_reducible repeat (first | apply Kd.R_alloc | apply Kd.R_drewN | apply Kd.R_drew)); exact HO286.out) (Kd.R_base ho0) hb); have n2_ := Aside0.mk (Kd.R_lower (Kd.R_new' ho0 (Kd.R_lt (by (with_reducible repeat (first | apply Kd.R_alloc | apply Kd.R_drewN | apply Kd.R_drew)); exact HO286.out))) (wZ (by repeat (first | (with_reducible first | exact HB.out | apply wA | apply wN | apply w1) | exact HB.out)))); have n3_ := Aside0.mk (wT (by repeat (first | (with_reducible first | exact HB.out | apply wA | apply wN | apply w1) | exact HB.out)) hb); clear HO283; clear HO286; clear HB; have HO283 := n0_; have HO286 := n1_; have HO289 := n2_; have HB := n3_; clear n0_ n1_ n2_ n3_; (try clear hb); (try clear hb2); (try clear hk); (try clear hi); (try clear ho0); obtain ⟨Ao11, co11, eo11⟩ := Kd.R_slice HO289.out; subst eo11; have p290 : 0 ≤ (0 : Int) := (by omega); have q290 : 0 < (t287.length : Int) := of_decide_eq_true (by first | (with_reducible assumption) | assumption); obtain ⟨ad290, e290, hx290_0, hx290_1⟩ := at_T55 (Kd.R_reads' HO289.out).2.2 0 p290 q290; cases e290; have qi290 : (0 < t287.length) = True := eq_true (by omega); (try rw [show ((0 : Int)).toNat = 0 from rfl] at hx290_0); (try rw [show 0 * 2 = 0 from rfl] at hx290_0); (try rw [Addr.add_zero'] at hx290_0); (try rw [show ((0 : Int)).toNat = 0 from rfl] at hx290_1); (try rw [show 0 * 2 = 0 from rfl] at hx290_1); (try rw [Addr.add_zero'] at hx290_1); replace p290 := eq_true p290; replace q290 := eq_true q290))
   go_ret
   exact ⟨by first | rfl | (simp [errW_none, errW_some] <;> rfl) | (simp [*, errW_none, errW_some] <;> rfl), by repeat (first | (with_reducible first | exact HB.out | apply wA | apply wN | apply w1) | exact HB.out)⟩
  ·rw [if_neg c3] at H
   exact absurd H (by simp)
 ·rw [if_neg c2] at H
  have c2b0 : ((t287.length : Int) == 1) = false := beq_eq_false_iff_ne.mpr c2
  have c2b1 : ((t287.length : Int) != 1) = true := bne_iff_ne.mpr c2
  obtain rfl := Option.some.inj H
  go_enter Try.func23, Try.ntmps23
  go_wp2_with (first | ((with_reducible refine gate_dst (N := 4) rfl ?_); refine Kd.R_lit k33 _ 33 ?hg (N := 4) ?hd (xs := ([(⟨1, 0, (⟨#[98]⟩ : BA), (⟨#[]⟩ : BA), (⟨#[50]⟩ : BA), 0⟩ : S33), (⟨4, 0, (⟨#[97]⟩ : BA), (⟨#[98]⟩ : BA), (⟨#[]⟩ : BA), 0⟩ : S33)] : List (S33))) (inner := [.int .u8 1, .int .i64 0, .string (⟨#[98]⟩ : BA), .string (⟨#[]⟩ : BA), .string (⟨#[50]⟩ : BA), .int .u64 0, .int .u8 4, .int .i64 0, .string (⟨#[97]⟩ : BA), .string (⟨#[98]⟩ : BA), .string (⟨#[]⟩ : BA), .int .u64 0]) (ok := fun _ => True) (okp := fun _ => True) ?hr ?hp (fun _ hk => hk) trivial (Below.refl _ _) (Nat.le_refl _) (by simp) ?_; (case hd => rfl); (case hg => rfl); (case hr => first | (go_simp; done) | (go_simp; rfl)); (case hp => exact (Reps.c6 (show Kd.M k33 _ _ _ (⟨1, 0, (⟨#[98]⟩ : BA), (⟨#[]⟩ : BA), (⟨#[50]⟩ : BA), 0⟩ : S33) [.int .u8 1, .int .i64 0, .string (⟨#[98]⟩ : BA), .string (⟨#[]⟩ : BA), .string (⟨#[50]⟩ : BA), .int .u64 0] from (k33_mkM _ _ _ (⟨1, 0, (⟨#[98]⟩ : BA), (⟨#[]⟩ : BA), (⟨#[50]⟩ : BA), 0⟩ : S33) )) (Reps.c6 (show Kd.M k33 _ _ _ (⟨4, 0, (⟨#[97]⟩ : BA), (⟨#[98]⟩ : BA), (⟨#[]⟩ : BA), 0⟩ : S33) [.int .u8 4, .int .i64 0, .string (⟨#[97]⟩ : BA), .string (⟨#[98]⟩ : BA), .string (⟨#[]⟩ : BA), .int .u64 0] from (k33_mkM _ _ _ (⟨4, 0, (⟨#[97]⟩ : BA), (⟨#[98]⟩ : BA), (⟨#[]⟩ : BA), 0⟩ : S33) )) (Reps.none _ _)))); intro v282 w12 ho13 hb hg_ hnew_; clear hg_ hnew_; (first | rw [← Ny281.out] at ho13 | (simp only [Int.reduceToNat] at ho13; rw [← Ny281.out] at ho13)); have n0_ := Aside0.mk (Kd.R_lower ho13 (wZ (by repeat (first | (with_reducible first | exact HB.out | apply wA | apply wN | apply w1) | exact HB.out)))); have n1_ := Aside0.mk (wT (by repeat (first | (with_reducible first | exact HB.out | apply wA | apply wN | apply w1) | exact HB.out)) hb); clear HB; have HO283 := n0_; have HB := n1_; clear n0_ n1_; clear hb ho13) | ((with_reducible refine gate_dst (N := 6) rfl ?_); refine Kd.R_lit k55 _ 55 ?hg (N := 6) ?hd (xs := ([(⟨(⟨#[97]⟩ : BA), (⟨#[49]⟩ : BA)⟩ : S55)] : List (S55))) (inner := [.string (⟨#[97]⟩ : BA), .string (⟨#[49]⟩ : BA)]) (ok := fun _ => True) (okp := fun _ => True) ?hr ?hp (fun _ hk => hk) trivial (Below.refl _ _) (Nat.le_refl _) (by simp) ?_; (case hd => rfl); (case hg => rfl); (case hr => first | (go_simp; done) | (go_simp; rfl)); (case hp => exact (Reps.c2 (show Kd.M k55 _ _ _ (⟨(⟨#[97]⟩ : BA), (⟨#[49]⟩ : BA)⟩ : S55) [.string (⟨#[97]⟩ : BA), .string (⟨#[49]⟩ : BA)] from (k55_mkM _ _ _ (⟨(⟨#[97]⟩ : BA), (⟨#[49]⟩ : BA)⟩ : S55) )) (Reps.none _ _))); intro v285 w14 ho15 hb hg_ hnew_; clear hg_ hnew_; (first | rw [← Ny284.out] at ho15 | (simp only [Int.reduceToNat] at ho15; rw [← Ny284.out] at ho15)); have n0_ := Aside0.mk (Kd.R_below (by (with_reducible repeat (first | apply Kd.R_alloc | apply Kd.R_drewN | apply Kd.R_drew)); exact HO283.out) hb); have n1_ := Aside0.mk (Kd.R_lower ho15 (wZ (by repeat (first | (with_reducible first | exact HB.out | apply wA | apply wN | apply w1) | exact HB.out)))); have n2_ := Aside0.mk (wT (by repeat (first | (with_reducible first | exact HB.out | apply wA | apply wN | apply w1) | exact HB.out)) hb); clear HO283; clear HB; have HO283 := n0_; have HO286 := n1_; have HB := n2_; clear n0_ n1_ n2_; clear hb ho15; obtain ⟨Ao16, co16, eo16⟩ := Kd.R_slice HO283.out; subst eo16; obtain ⟨Ao17, co17, eo17⟩ := Kd.R_slice HO286.out; subst eo17) | ((with_reducible refine gate_callee (f := 25) rfl ?_); refine goesL_ (some 8) rfl rfl Try.func25 (by kernel_rfl) rfl #[.slice Ao16 y281.length co16, .slice Ao17 y284.length co17, .agg #[.string (⟨#[]⟩ : BA), .string (⟨#[]⟩ : BA)]] rfl (by (try simp only [mA1, mA2, mA3]); first | done | rfl | (simp only [mA5, mA4]; rfl)) ?_; (with_reducible refine (fold_Entries.calls _ _ y281 _ _ y284 (⟨#[]⟩ : BA) (⟨#[]⟩ : BA) t287 _ ?side1 ?side2 ?side3 ?side4 A1.out).mono ?_); (case side1 => repeat (first | exact (Kd.R_reads' HO283.out).2.2 | (with_reducible refine Kd.C_alloc ?_ _) | (with_reducible refine Kd.C_drewN ?_ _) | (with_reducible refine Kd.C_drew ?_))); (case side2 => exact (Kd.R_reads' HO283.out).2.1); (case side3 => repeat (first | exact (Kd.R_reads' HO286.out).2.2 | (with_reducible refine Kd.C_alloc ?_ _) | (with_reducible refine Kd.C_drewN ?_ _) | (with_reducible refine Kd.C_drew ?_))); (case side4 => exact (Kd.R_reads' HO286.out).2.1); rintro e w18 ⟨v288, rfl, ho0, hb⟩; refine ⟨_, rfl, ?_⟩; have n0_ := Aside0.mk (Kd.R_below (by (with_reducible repeat (first | apply Kd.R_alloc | apply Kd.R_drewN | apply Kd.R_drew)); exact HO283.out) hb); have n1_ := Aside0.mk (Kd.R_elder' (by (with_reducible repeat (first | apply Kd.R_alloc | apply Kd.R_drewN | apply Kd.R_drew)); exact HO286.out) (Kd.R_base ho0) hb); have n2_ := Aside0.mk (Kd.R_lower (Kd.R_new' ho0 (Kd.R_lt (by (with_reducible repeat (first | apply Kd.R_alloc | apply Kd.R_drewN | apply Kd.R_drew)); exact HO286.out))) (wZ (by repeat (first | (with_reducible first | exact HB.out | apply wA | apply wN | apply w1) | exact HB.out)))); have n3_ := Aside0.mk (wT (by repeat (first | (with_reducible first | exact HB.out | apply wA | apply wN | apply w1) | exact HB.out)) hb); clear HO283; clear HO286; clear HB; have HO283 := n0_; have HO286 := n1_; have HO289 := n2_; have HB := n3_; clear n0_ n1_ n2_ n3_; (try clear hb); (try clear hb2); (try clear hk); (try clear hi); (try clear ho0); obtain ⟨Ao19, co19, eo19⟩ := Kd.R_slice HO289.out; subst eo19))
  go_ret
  exact ⟨by first | rfl | (simp [errW_none, errW_some] <;> rfl) | (simp [*, errW_none, errW_some] <;> rfl), by repeat (first | (with_reducible first | exact HB.out | apply wA | apply wN | apply w1) | exact HB.out)⟩
end Go.Proofs.Ytidaiafmhidooaa.P
end
section
namespace Go.Proofs.Ytidaiafmhidooaa.P
open Go.RowKit Go.Proofs.YtidaiafmhidooaaW.PrintWords Go.Proofs.YtidaiafmhidooaaW.PrintLast Go.Proofs.YtidaiafmhidooaaW.PrintMore Go.Proofs.Ytidaiafmhidooaa.Own
attribute [local go_sem] max2_str max2_int min2_int max_two min_two max_three min_three max_four min_four   -- for this text's walks alone
set_option linter.unusedVariables false
set_option linter.unusedSimpArgs false
def fold_Changed.f (l0 : List S33) (l1 : List S55) : Option (List ByteArray) := Fo.changedF l0 l1
theorem fold_Changed.calls (A0 : Option Addr) (c0 : Nat) (l0 : List S33) (A1 : Option Addr) (c1 : Nat) (l1 : List S55) (r : List ByteArray) (w : World) (hr0 : Kd.C k33 w A0 l0.length l0) (hc0 : l0.length ≤ c0) (hr1 : Kd.C k55 w A1 l1.length l1) (hc1 : l1.length ≤ c1) (h : fold_Changed.f l0 l1 = some r) :
  Calls Try.prog 32 #[.slice A0 l0.length c0, .slice A1 l1.length c1] w fun e w' => ∃ v0_ : Value, e = .returned (v0_) ∧ Kd.R Kd.string 9 w' w.heap.size (fun _ => True) v0_ r ∧ Below w.heap.size w w' :=
 Fo.changedF_calls hr0 hc0 hr1 hc1 h
end Go.Proofs.Ytidaiafmhidooaa.P
end
