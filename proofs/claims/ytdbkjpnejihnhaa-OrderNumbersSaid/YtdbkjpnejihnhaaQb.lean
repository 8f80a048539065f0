/- Cut: the keys of a range are dropped. -/
import Derived.Test.YtdbkjpnejihnhaaQa
import Derived.Maps.OwnIn
set_option linter.unusedVariables false
set_option linter.unusedSimpArgs false
namespace Go.Proofs.Ytdbkjpnejihnhaa.OrdSi
open Go.RowKit Go.Shelf Go.Proofs.YtdbkjpnejihnhaaW.PrintWords Go.Proofs.YtdbkjpnejihnhaaW.PrintLast Go.Proofs.YtdbkjpnejihnhaaW.PrintMore Go.Proofs.Ytdbkjpnejihnhaa.Own Go.Proofs.Ytdbkjpnejihnhaa.Ord
attribute [local go_sem] Oper.semAt_some
set_option maxHeartbeats 2000000
set_option maxRecDepth 100000
def mb : Option Addr → List Nat
  | none => []
  | some a => [a.block]
/-- The keys that Cut drops. -/
def cutL (a b : ByteArray) (T : Kn ByteArray Int) : List ByteArray := ((walkB a T).takeWhile (fun x => lt x.1 b)).map (·.1)
def dropAll (l : List ByteArray) (T : Kn ByteArray Int) : Kn ByteArray Int := l.foldl (fun T k => Kn.drop lt k T) T
theorem dropAll_snoc (l : List ByteArray) (k : ByteArray) (T : Kn ByteArray Int) : dropAll (l ++ [k]) T = Kn.drop lt k (dropAll l T) := by simp [dropAll]
theorem dropAll_mem : ∀ (l : List ByteArray) (T : Kn ByteArray Int) (x : Nat), x ∈ (dropAll l T).bs → x ∈ T.bs
  | [], _, _, h => h
  | k :: l, T, x, h => Kn.drop_mem (dropAll_mem l (Kn.drop lt k T) x h)
theorem dropAll_cnt : ∀ (l : List ByteArray) (T : Kn ByteArray Int), (dropAll l T).cnt ≤ T.cnt
  | [], _ => Int.le_refl _
  | k :: l, T => Int.le_trans (dropAll_cnt l (Kn.drop lt k T)) (Kn.drop_cnt lt k T)
theorem MpN.fr {w w' : World} {p : Option Addr} {T : Kn ByteArray Int} {B : List Nat} (h : MpN w p T) (f : Fr B w w') (hm : ∀ a, p = some a → a.block ∉ B) (hn : ∀ x ∈ T.bs, x ∉ B) : MpN w' p T := by
  cases p with
  | none => exact h
  | some a => exact ⟨h.1, h.2.fr f (hm a rfl) hn⟩
theorem MpN.below {w w' : World} {p : Option Addr} {T : Kn ByteArray Int} (h : MpN w p T) (f : Below w.heap.size w w') : MpN w' p T := h.fr (B := []) (Fr.of_below f) (by simp) (by simp)
theorem MpN.lt {w : World} {p : Option Addr} {T : Kn ByteArray Int} (h : MpN w p T) : ∀ x ∈ mb p ++ T.bs, x < w.heap.size := by
  cases p with
  | none => obtain rfl : T = .nil := h; simp [mb, Kn.bs]
  | some a =>
    intro x hx
    simp only [mb, List.singleton_append, List.mem_cons] at hx
    rcases hx with rfl | hx
    · exact blk_lt h.2.blk
    · exact in_lt h.2.inn x hx
/-- The row of strings in the box: keys, and not in the two other boxes of strings. -/
abbrev CutI (w : World) (b : ByteArray) (s : ByteArray) (pre : List (ByteArray × Int)) (W : World) : Prop :=
  ((∃ v, Boxed W (w.heap.size + 1) 88 v ∧ W.ownsRow w.heap.size 9 1 v pre.length (pre.map (fun x => Value.string x.1)) ∧ (v.ownBlock ≠ some w.heap.size ∧ v.ownBlock ≠ some (w.heap.size + 1 + 1 + 1))) ∧ Below w.heap.size w W) ∧
  Boxed W w.heap.size 9 (.string b) ∧ Boxed W (w.heap.size + 1 + 1 + 1) 9 (.string s)
theorem cutI_own (w : World) (b s : ByteArray) (n : Nat) (hn : w.heap.size ≤ n) : OwnFrom n (CutI w b s) :=
  OwnFrom.and (OwnFrom.and (Own.from (holdsRow_own w.heap.size (w.heap.size + 1) 88 9 1 (fun pre : List (ByteArray × Int) => pre.length) (fun pre => pre.map (fun x => Value.string x.1)) (fun pre v => v.ownBlock ≠ some w.heap.size ∧ v.ownBlock ≠ some (w.heap.size + 1 + 1 + 1))) _) (ownFrom_below (Nat.le_refl _) hn))
    (OwnFrom.and (Own.from (boxed_own _ _ (fun _ => .string b)) _) (Own.from (boxed_own _ _ (fun _ => .string s)) _))
theorem infoStr : (Try.prog.info? 9).map (fun i => (i.zero, i.size, i.bytes)) = some (some (.string ⟨#[]⟩), 1, 16) := by kernel_rfl
theorem underS : Try.prog.underlying 88 = some (.slice 9) := Try.underlying88
theorem Fr.one_put (w : World) (D : Nat) (o : Obj) : Fr [D] w (w.putObj D o) := ⟨rfl, rfl, rfl, by simp, fun k _ hn => World.putObj_heap_other (by simp at hn; omega)⟩
theorem Fr.putObj {B : List Nat} {w w' : World} (h : Fr B w w') {D : Nat} (hD : w.heap.size ≤ D) (o : Obj) : Fr B w (w'.putObj D o) :=
  h.trans (B := B) (C := [D]) (Fr.one_put _ _ _) (fun x hx => .inr (by simp at hx; omega))
theorem row_open {W : World} {base e n : Nat} {v : Value} {xs : List Value} (h : W.ownsRow base e 1 v n xs) : ∃ A c, v = .slice A n c ∧ n ≤ c ∧ ∀ (j : Nat) (u : Value), xs[j]? = some u → ∃ g, A = some ⟨g, 0, none⟩ ∧ base ≤ g ∧ g < W.heap.size ∧ W.cell? ⟨g, j, none⟩ = some u := by
  obtain ⟨hl, h⟩ := h
  rcases h with ⟨rfl, rfl⟩ | ⟨g, cap, cur, rfl, hb, hg, hn, hm, hs, ht⟩
  · refine ⟨none, 0, rfl, Nat.le_refl _, fun j u hj => ?_⟩
    have := (List.getElem?_eq_some_iff.1 hj).1
    omega
  · refine ⟨_, cap, rfl, hn, fun j u hj => ⟨g, rfl, hb, blk_lt hg, ?_⟩⟩
    rw [← ht, List.getElem?_take] at hj
    split at hj
    · simp [World.cell?, hg]
      simpa using hj
    · simp at hj
theorem Kn.dropAll_cnt' (l : List ByteArray) (T : Kn ByteArray Int) (h : T.cnt < 4294967296) : (dropAll l T).cnt < 4611686018427387904 := by have := dropAll_cnt l T; omega
theorem cut_any (s b : ByteArray) {w : World} {p : Option Addr} {T : Kn ByteArray Int} (h : MpN w p T) (hc : T.cnt < 4294967296) (hwl : ((walkB s T).length : Int) ≤ T.cnt) :
    Calls Try.prog 29 #[.pointer p, .string s, .string b] w fun e w' => e = .returned (.int .i64 (cutL s b T).length) ∧ MpN w' p (dropAll (cutL s b T) T) ∧ Fr (mb p ++ T.bs) w w' := by
  obtain ⟨i0, hi, hz0, hz1, hz2⟩ := info_parts infoStr
  have hmax : maxLen = 9223372036854775807 := rfl
  refine (callsIn_wide (n := 5)).1 ?_
  refine callsIn_of_wp_marks Try.func29 rfl trivial ?_ rfl
  simp only [Try.ntmps29, List.size_toArray, List.length_cons, List.length_nil, Nat.reduceAdd, Nat.reduceSub, Array.replicate_succ, Array.replicate_zero, List.push_toArray, List.append_toArray, List.nil_append, List.cons_append]
  gi_wp2_with (refine ⟨trivial, ?_⟩; gi_at_call 17; refine (from_in _ p s _).mono ?_; rintro e w' ⟨rfl, t, rfl⟩)
  have bT := Boxed.new w 9 (.string b)
  have bO := Boxed.new (w.alloc (.cells #[.string b] 9)) 88 (.slice none 0 0)
  rw [World.size_alloc] at bO
  have bN := Boxed.new ((w.alloc (.cells #[.string b] 9)).alloc (.cells #[.slice none 0 0] 88)) t (.pointer p)
  rw [World.size_alloc, World.size_alloc] at bN
  have bK := Boxed.new (((w.alloc (.cells #[.string b] 9)).alloc (.cells #[.slice none 0 0] 88)).alloc (.cells #[.pointer p] t)) 9 (.string s)
  rw [World.size_alloc, World.size_alloc, World.size_alloc] at bK
  have hB0 : Below w.heap.size w ((((w.alloc (.cells #[.string b] 9)).alloc (.cells #[.slice none 0 0] 88)).alloc (.cells #[.pointer p] t)).alloc (.cells #[.string s] 9)) :=
    ((((Below.refl _ w).alloc (Nat.le_refl _) _).alloc (by simp) _).alloc (by simp; omega) _).alloc (by simp; omega) _
  have hT := MpI.wide (S' := fun k => k < w.heap.size ∨ k = w.heap.size + 1 + 1 + 1) (fun k hk => .inl hk) ((MpN.mpI h).kee (S := fun k => k < w.heap.size) ⟨hB0.size, fun k hk => hB0.block k hk⟩)
  refine wpIn_rangeFunc_ownG rfl (by omega) (gf := 35) (lb := #[.pointer (some ⟨w.heap.size + 1 + 1, 0, none⟩), .pointer (some ⟨w.heap.size + 1 + 1 + 1, 0, none⟩)]) rfl trivial (enters_of Try.func35 (by kernel_rfl) rfl)
    (from_stops _ (w.heap.size + 1 + 1) (w.heap.size + 1 + 1 + 1) (fun k => k < w.heap.size ∨ k = w.heap.size + 1 + 1 + 1) p s T _ (fun k hk => by simp; omega) (by simp) (bN.alloc _).cell bK.cell (.inr rfl) hT) (fun h k => h.trans k)
    (fun W l o o' hl ho _ _ => ⟨by simp, fun k hk => World.putObj_heap_other (by simp at hl; omega)⟩) (Below.refl _ _) (fun _ => rfl)
    (fun pre W => CutI w b s pre W ∧ ∀ x ∈ pre, lt x.1 b = true)
    (fun c pre W => c = .exit 0 ∧ ∃ pre' x, pre = pre' ++ [x] ∧ CutI w b s pre' W ∧ (∀ y ∈ pre', lt y.1 b = true) ∧ lt x.1 b = false)
    (OwnFrom.and (cutI_own w b s _ (by simp; omega)) (ownFrom_pure _ _))
    (fun c pre X Y row hs hg hr => by obtain ⟨hc, pre', x, e, hi, h1, h2⟩ := hs; exact ⟨hc, pre', x, e, cutI_own w b s _ (by simp; omega) pre' X Y row hi hg hr, h1, h2⟩)
    ⟨⟨⟨⟨_, (bO.alloc _).alloc _, World.ownsRow_nil _ _ _ _, by simp [Value.ownBlock]⟩, hB0⟩, ((bT.alloc _).alloc _).alloc _, bK⟩, by simp⟩
    (fun x => { tmps := #[.pointer p, .string s, .string b, undef, undef, .pointer (some ⟨w.heap.size, 0, none⟩), .int .i64 0, .pointer (some ⟨w.heap.size + 1, 0, none⟩), .string x.1, undef, undef, .pointer p, .string s, .func (.func 35) #[] #[.pointer (some ⟨w.heap.size + 1 + 1, 0, none⟩), .pointer (some ⟨w.heap.size + 1 + 1 + 1, 0, none⟩)], .string x.1, .int .i64 x.2, undef, undef, undef, undef, undef, undef, undef, undef, undef, undef, undef, undef, undef, undef, undef, undef, undef, undef, undef, undef], defers := [] }) ?assign ?body ?done ?stop
  case assign =>
    intro l x W K hK
    gi_wp2
    exact hK
  case body =>
    rintro l pre x W ⟨⟨⟨⟨v, hv, hrow, hg1, hg2⟩, hB⟩, hbT, hbK⟩, hall⟩ hlt
    have hc0 := hbT.cell
    have hc1 := hv.cell
    by_cases hx : lt x.1 b = true
    · have hl : ∀ W, Calls Try.prog 45 #[.string x.1, .string b] W fun e w' => e = .returned (.bool true) ∧ w' = W := fun W => by
        have := less_any x.1 b W; rw [hx] at this; exact this
      gi_wp2_with (first
        | (refine ⟨trivial, ?_⟩; gi_at_call 45; refine (CallsIn.inRound l (callsIn_wide.2 (hl W))).mono ?_; rintro e w1 ⟨rfl, hw⟩; obtain rfl := hw.symm)
        | (gi_at_builtin; refine wpListIn_append_own_at _ rfl _ _ 88 rfl w.heap.size 9 i0 (.string ⟨#[]⟩) 1 16 underS hi hz0 hz1 hz2 rfl (by decide) _ _ _ rfl (hrow.alloc _) ⟨W.heap.size, 0, none⟩ 1 1 [.string x.1] rfl rfl (cell_one_new _ _ _) (by simp [Value.oneCell']) (by omega) (by omega) (by have := hB.size; simp; omega) ?_; intro v' w1 hown' hgrow _ hat; obtain ⟨g', cap', rfl⟩ := ownsRow_succ hown'; obtain ⟨hv1, hv2, hr2, hk2, hb2⟩ := hv.appended (by decide) hrow hB.size (by omega) hown' hgrow; have hc2 := hv1.cell; have hf2 := hv1.frozen; have hk1 := ((hbK.alloc _).kept hgrow (Ne.symm hg2)).other (B' := w.heap.size + 1) (by omega) (.slice (some ⟨g', 0, none⟩) (pre.length + 1) cap'); have ht1 := ((hbT.alloc _).kept hgrow (Ne.symm hg1)).other (B' := w.heap.size + 1) (by omega) (.slice (some ⟨g', 0, none⟩) (pre.length + 1) cap')))
      have hn4 := hbK.lt
      have hG : ∀ q, q < W.heap.size → v.ownBlock ≠ some q → some g' ≠ some q := fun q hq hn e => by
        have e' : (Value.slice (some ⟨g', 0, none⟩) (pre.length + 1) cap').ownBlock = some q := e
        rcases hat with h | h
        · exact hn (h.symm.trans e')
        · rw [h] at e'; simp at e'; omega
      exact ⟨hk2.from _, ⟨hb2.size, fun k h => h.elim (hb2.block k) (fun e => by subst e; exact hk1.trans hbK.symm)⟩,
        ⟨⟨⟨_, hv2, by rw [List.map_append, List.length_append]; exact hr2, hG _ (by omega) hg1, hG _ hn4 hg2⟩, hB.trans hb2⟩, ht1, hk1⟩, fun y hy => by
          rcases List.mem_append.1 hy with hy | hy
          · exact hall y hy
          · simp at hy; subst hy; exact hx⟩
    · have hx' : lt x.1 b = false := by simpa using hx
      have hl : ∀ W, Calls Try.prog 45 #[.string x.1, .string b] W fun e w' => e = .returned (.bool false) ∧ w' = W := fun W => by
        have := less_any x.1 b W; rw [hx'] at this; exact this
      gi_wp2_with (refine ⟨trivial, ?_⟩; gi_at_call 45; refine (CallsIn.inRound l (callsIn_wide.2 (hl W))).mono ?_; rintro e w1 ⟨rfl, hw⟩; obtain rfl := hw.symm)
      exact ⟨KeepsFrom.refl _ _, rfl, pre, x, rfl, ⟨⟨⟨v, hv, hrow, hg1, hg2⟩, hB⟩, hbT, hbK⟩, hall, hx'⟩
  case done =>
    rintro D ys W hD rfl ⟨⟨⟨⟨v, hv, hrow, _, _⟩, hB⟩, hbT, hbK⟩, hall⟩ hK
    have hL : (walkB s T).map (·.1) = cutL s b T := by
      unfold cutL
      have := List.takeWhile_append_of_pos (p := fun x : ByteArray × Int => lt x.1 b) (l₁ := walkB s T) (l₂ := []) (by simpa using hall)
      rw [List.append_nil] at this
      rw [this]; simp
    clear hall hbT hbK
    obtain ⟨L, hLe⟩ : ∃ L, L = cutL s b T := ⟨_, rfl⟩
    rw [← hLe] at hL
    have hLA : Aside (L = cutL s b T) := hLe
    clear hLe
    rw [← List.length_map (f := fun x : ByteArray × Int => x.1), hL, show (walkB s T).map (fun x => Value.string x.1) = L.map Value.string from by rw [← hL]; simp] at hrow
    obtain ⟨A, cp, rfl, hcp, hrd⟩ := row_open hrow
    have hMW := h.below hB
    have hlt := h.lt
    have hsz := hB.size
    have hDk := (Array.getElem?_eq_some_iff.1 hK).1
    have hD' : w.heap.size + 1 + 1 + 1 < D := by simp at hD; omega
    have hbx := hv
    have hbl := hv.lt
    have hLn : (L.length : Int) < 4294967296 := by rw [← hL, List.length_map]; omega
    have hc1 := hv.cell
    clear hrow hv
    gi_wp2
    refine wpIn_wide.2 ?_
    go_loopg [26] L.length (fun g i wr => ∃ j : Int, i = .int .i64 j ∧ 0 ≤ j ∧ j.toNat + g = L.length ∧ MpN wr p (dropAll (L.take j.toNat) T) ∧ Fr (mb p ++ T.bs) W wr)
    case atStart => exact ⟨0, rfl, Int.le_refl _, by simp, by simpa [dropAll] using hMW, Fr.refl _ _⟩
    case round =>
      obtain ⟨j, rfl, h0j, hj, hM, hf⟩ := hrel
      have hin : ∀ q, w.heap.size ≤ q → q ∉ mb p ++ T.bs := fun q hq hm => by have := hlt q hm; omega
      cases gk with
      | zero =>
        have hd : decide (j < (L.length : Int)) = false := decide_eq_false (by omega)
        have hbw : Boxed wr (w.heap.size + 1) 88 (.slice A L.length cp) := (hf.block _ hbl (hin _ (by omega))).trans hbx
        have hcw := hbw.cell
        have hKw := (hf.block D hDk (hin _ (by omega))).trans hK
        rw [show j.toNat = L.length by omega, List.take_length] at hM
        clear hrd hc1 hbx
        go_wp2
        gi_wp2
        refine ⟨by simp, .inl ⟨_, _, rfl, run_takeDeferred hKw, ?_⟩⟩
        obtain rfl := hLA.out
        have fw : Fr (mb p ++ T.bs) w wr := (Fr.of_below hB).trans hf (fun x hx => .inl hx)
        refine ⟨_, results_tmp rfl _ _ _, rfl, hM.fr (B := [D]) (Fr.one_put _ _ _) ?_ ?_, Fr.putObj fw (by omega) _⟩
        · rintro a rfl
          have := hlt a.block (by simp [mb])
          simp; omega
        · intro x hx
          have := hlt x (by simp [dropAll_mem _ _ _ hx])
          simp; omega
      | succ g =>
        have hd : decide (j < (L.length : Int)) = true := decide_eq_true (by omega)
        obtain ⟨k, hk⟩ : ∃ k, L[j.toNat]? = some k := ⟨_, List.getElem?_eq_getElem (by omega)⟩
        obtain ⟨gb, rfl, hgb, hgl, hcell⟩ := hrd j.toNat (.string k) (by rw [List.getElem?_map, hk]; rfl)
        have hcw : wr.cell? ⟨gb, j.toNat, none⟩ = some (.string k) := by
          have := hf.block gb hgl (hin _ hgb)
          unfold World.cell? at hcell ⊢
          rw [this]; exact hcell
        have e1 : L.take (j + 1).toNat = L.take j.toNat ++ [k] := by rw [show (j + 1).toNat = j.toNat + 1 by omega, List.take_add_one, hk]; rfl
        have e1A : Aside (L.take (j + 1).toNat = L.take j.toNat ++ [k]) := e1
        clear e1
        clear hrd hc1 hbx hk
        cases p with
        | none =>
          exfalso
          obtain rfl : T = .nil := h
          have : L = [] := by
            rw [← hL]
            simp [walkB] -- s (.nil : Kn ByteArray Int) = [] from rfl)
          rw [this] at hj; simp at hj
        | some a =>
          obtain ⟨ha, hM⟩ := hM
          obtain ⟨m, rfl⟩ : ∃ m, a = ⟨m, 0, none⟩ := ⟨a.block, ha⟩
          have hjA : Aside (0 ≤ j ∧ j.toNat + (g + 1) = L.length) := ⟨h0j, hj⟩
          clear ha h hin hL
          replace hM : Mp wr m _ := hM
          have W1 := mdrop_any k hM (Kn.dropAll_cnt' _ _ hc)
          have d0 : decide (0 ≤ j) = true := decide_eq_true h0j
          have d1 := eq_true h0j
          have d2 := eq_true (show j < (L.length : Int) by omega)
          clear h0j hj
          clear bT bO bN bK hB0 hT hD hMW hlt hc hwl hi hz0 hz1 hz2 hB hK hmax hcell hsz hDk hD' hbl hgb hgl
          go_wp2_with (go_at_call 28; refine W1.mono ?_; clear W1; rintro e w1 ⟨rfl, hM1, hf1⟩)
          go_roundg g
          case measure => omega
          case rel =>
            refine ⟨j + 1, ?_, by have := hjA.out.1; omega, by have := hjA.out; omega, ⟨rfl, by rw [e1A.out, dropAll_snoc]; exact hM1⟩, hf.trans hf1 (fun x hx => .inl ?_)⟩
            · have : wrap64 (j + 1) = j + 1 := by have hj := hjA.out; rw [IntWalk.wrap64_in _ (by omega)]
              rw [this]
            · simp only [mb, List.singleton_append, List.mem_cons] at hx ⊢
              exact hx.imp id (dropAll_mem _ _ _)
  case stop =>
    rintro D c ys W hD hpre ⟨rfl, pre', x, rfl, ⟨⟨⟨v, hv, hrow, _, _⟩, hB⟩, hbT, hbK⟩, hall, hx'⟩ hK
    have hL : pre'.map (·.1) = cutL s b T := by
      obtain ⟨r, hr⟩ := hpre
      unfold cutL
      rw [← hr, List.append_assoc, List.takeWhile_append_of_pos (by simpa using hall)]
      simp [hx']
    clear hall hbT hbK hx'
    obtain ⟨L, hLe⟩ : ∃ L, L = cutL s b T := ⟨_, rfl⟩
    rw [← hLe] at hL
    have hLA : Aside (L = cutL s b T) := hLe
    clear hLe
    rw [← List.length_map (f := fun x : ByteArray × Int => x.1), hL, show pre'.map (fun x => Value.string x.1) = L.map Value.string from by rw [← hL]; simp] at hrow
    obtain ⟨A, cp, rfl, hcp, hrd⟩ := row_open hrow
    have hMW := h.below hB
    have hlt := h.lt
    have hsz := hB.size
    have hDk := (Array.getElem?_eq_some_iff.1 hK).1
    have hD' : w.heap.size + 1 + 1 + 1 < D := by simp at hD; omega
    have hbx := hv
    have hbl := hv.lt
    have hLn : (L.length : Int) < 4294967296 := by rw [← hL, List.length_map]; obtain ⟨r, hr⟩ := hpre; have := congrArg List.length hr; simp at this; omega
    have hc1 := hv.cell
    clear hrow hv
    gi_wp2
    refine wpIn_wide.2 ?_
    go_loopg [26] L.length (fun g i wr => ∃ j : Int, i = .int .i64 j ∧ 0 ≤ j ∧ j.toNat + g = L.length ∧ MpN wr p (dropAll (L.take j.toNat) T) ∧ Fr (mb p ++ T.bs) W wr)
    case atStart => exact ⟨0, rfl, Int.le_refl _, by simp, by simpa [dropAll] using hMW, Fr.refl _ _⟩
    case round =>
      obtain ⟨j, rfl, h0j, hj, hM, hf⟩ := hrel
      have hin : ∀ q, w.heap.size ≤ q → q ∉ mb p ++ T.bs := fun q hq hm => by have := hlt q hm; omega
      cases gk with
      | zero =>
        have hd : decide (j < (L.length : Int)) = false := decide_eq_false (by omega)
        have hbw : Boxed wr (w.heap.size + 1) 88 (.slice A L.length cp) := (hf.block _ hbl (hin _ (by omega))).trans hbx
        have hcw := hbw.cell
        have hKw := (hf.block D hDk (hin _ (by omega))).trans hK
        rw [show j.toNat = L.length by omega, List.take_length] at hM
        clear hrd hc1 hbx
        go_wp2
        gi_wp2
        refine ⟨by simp, .inl ⟨_, _, rfl, run_takeDeferred hKw, ?_⟩⟩
        obtain rfl := hLA.out
        have fw : Fr (mb p ++ T.bs) w wr := (Fr.of_below hB).trans hf (fun x hx => .inl hx)
        refine ⟨_, results_tmp rfl _ _ _, rfl, hM.fr (B := [D]) (Fr.one_put _ _ _) ?_ ?_, Fr.putObj fw (by omega) _⟩
        · rintro a rfl
          have := hlt a.block (by simp [mb])
          simp; omega
        · intro x hx
          have := hlt x (by simp [dropAll_mem _ _ _ hx])
          simp; omega
      | succ g =>
        have hd : decide (j < (L.length : Int)) = true := decide_eq_true (by omega)
        obtain ⟨k, hk⟩ : ∃ k, L[j.toNat]? = some k := ⟨_, List.getElem?_eq_getElem (by omega)⟩
        obtain ⟨gb, rfl, hgb, hgl, hcell⟩ := hrd j.toNat (.string k) (by rw [List.getElem?_map, hk]; rfl)
        have hcw : wr.cell? ⟨gb, j.toNat, none⟩ = some (.string k) := by
          have := hf.block gb hgl (hin _ hgb)
          unfold World.cell? at hcell ⊢
          rw [this]; exact hcell
        have e1 : L.take (j + 1).toNat = L.take j.toNat ++ [k] := by rw [show (j + 1).toNat = j.toNat + 1 by omega, List.take_add_one, hk]; rfl
        have e1A : Aside (L.take (j + 1).toNat = L.take j.toNat ++ [k]) := e1
        clear e1
        clear hrd hc1 hbx hk
        cases p with
        | none =>
          exfalso
          obtain rfl : T = .nil := h
          have : L = [] := by
            rw [← hL]
            simpa [walkB] using (by obtain ⟨r, hr⟩ := hpre; simp [walkB] at hr : pre' = [])
          rw [this] at hj; simp at hj
        | some a =>
          obtain ⟨ha, hM⟩ := hM
          obtain ⟨m, rfl⟩ : ∃ m, a = ⟨m, 0, none⟩ := ⟨a.block, ha⟩
          have hjA : Aside (0 ≤ j ∧ j.toNat + (g + 1) = L.length) := ⟨h0j, hj⟩
          clear ha h hin hL
          replace hM : Mp wr m _ := hM
          have W1 := mdrop_any k hM (Kn.dropAll_cnt' _ _ hc)
          have d0 : decide (0 ≤ j) = true := decide_eq_true h0j
          have d1 := eq_true h0j
          have d2 := eq_true (show j < (L.length : Int) by omega)
          clear h0j hj
          clear bT bO bN bK hB0 hT hD hMW hlt hc hwl hi hz0 hz1 hz2 hB hK hmax hcell hsz hDk hD' hbl hgb hgl
          go_wp2_with (go_at_call 28; refine W1.mono ?_; clear W1; rintro e w1 ⟨rfl, hM1, hf1⟩)
          go_roundg g
          case measure => omega
          case rel =>
            refine ⟨j + 1, ?_, by have := hjA.out.1; omega, by have := hjA.out; omega, ⟨rfl, by rw [e1A.out, dropAll_snoc]; exact hM1⟩, hf.trans hf1 (fun x hx => .inl ?_)⟩
            · have : wrap64 (j + 1) = j + 1 := by have hj := hjA.out; rw [IntWalk.wrap64_in _ (by omega)]
              rw [this]
            · simp only [mb, List.singleton_append, List.mem_cons] at hx ⊢
              exact hx.imp id (dropAll_mem _ _ _)
end Go.Proofs.Ytdbkjpnejihnhaa.OrdSi
