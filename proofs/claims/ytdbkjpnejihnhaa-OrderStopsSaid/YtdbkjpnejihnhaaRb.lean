/- The law OrderStops, walked. -/
import Derived.Test.YtdbkjpnejihnhaaQy
set_option linter.unusedVariables false
set_option linter.unusedSimpArgs false
namespace Go.Proofs.Ytdbkjpnejihnhaa.OrdSi
open Go.RowKit Go.Shelf Go.Proofs.YtdbkjpnejihnhaaW.PrintWords Go.Proofs.YtdbkjpnejihnhaaW.PrintLast Go.Proofs.YtdbkjpnejihnhaaW.PrintMore Go.Proofs.Ytdbkjpnejihnhaa.Own Go.Proofs.Ytdbkjpnejihnhaa.Ord
attribute [local go_sem] Oper.semAt_some
set_option maxHeartbeats 4000000
set_option maxRecDepth 100000
/-- How far the walk has come: so many have been seen. -/
abbrev StopC (W2 : World) (m : Nat) (v : Value) (s : ByteArray) (pre : List (ByteArray × Int)) (W : World) : Prop :=
  Boxed W (W2.heap.size + 1) 3 (.int .i64 pre.length) ∧ Boxed W W2.heap.size 37 v ∧ Boxed W (W2.heap.size + 1 + 1 + 1) 9 (.string s) ∧ Below W2.heap.size W2 W
theorem stopC_own (W2 : World) (m : Nat) (v : Value) (s : ByteArray) (n : Nat) (hn : W2.heap.size ≤ n) : OwnFrom n (StopC W2 m v s) :=
  OwnFrom.and (Own.from (boxed_own _ _ (fun pre : List (ByteArray × Int) => .int .i64 pre.length)) _) (OwnFrom.and (Own.from (boxed_own _ _ (fun _ => v)) _) (OwnFrom.and (Own.from (boxed_own _ _ (fun _ => .string s)) _) (ownFrom_below (Nat.le_refl _) hn)))
theorem pre_next {X pre : List (ByteArray × Int)} {x : ByteArray × Int} (h : pre <+: X) (hx : X[pre.length]? = some x) : pre ++ [x] <+: X := by
  obtain ⟨r, rfl⟩ := h
  rw [List.getElem?_append_right (Nat.le_refl _), Nat.sub_self] at hx
  cases r with
  | nil => simp at hx
  | cons y r => simp at hx; subst hx; exact ⟨r, by simp⟩
theorem pre_get {X pre : List (ByteArray × Int)} {x : ByteArray × Int} (h : pre ++ [x] <+: X) : X[pre.length]? = some x := by
  obtain ⟨r, rfl⟩ := h
  rw [List.append_assoc, List.getElem?_append_right (Nat.le_refl _)]
  simp
theorem stops_any {w : World} {A : Option Addr} {c : Nat} {l : List Dd} (s : ByteArray) (q : Int) (hq0 : 0 ≤ q) (hq1 : q < 256) (hC : Kd.C P.k49 w A l.length l) (hcap : l.length ≤ c) :
    Calls Try.prog 4 #[.slice A l.length c, .string s, .int .u8 q] w fun e w' => e = .returned (.bool true) ∧ Below w.heap.size w w' := by
  have hnil := fun f x y w => run_eql_func_nil _ _ _ _ f x y w Try.underlying40
  have hw0 : Below w.heap.size w ((w.alloc (.cells #[.int .u8 q] 5)).alloc (.cells #[.bool false] 4)) := ((Below.refl _ w).alloc (Nat.le_refl _) _).alloc (by simp) _
  have z0 := Boxed.new w 5 (.int .u8 q)
  have z1 := Boxed.new (w.alloc (.cells #[.int .u8 q] 5)) 4 (.bool false)
  rw [World.size_alloc] at z1
  have PC := (callsIn_wide (n := 4)).2 ((played_any (Kd.C_below hC hw0) hcap).mono (R' := fun e w1 => ∃ m L, e = .returned (.pointer (some ⟨m, 0, none⟩)) ∧ Calls Try.prog 16 #[.pointer (some ⟨m, 0, none⟩), .string s] w1 fun e w2 =>
      ∃ T X A2 c2, X = walkB s T ∧ e = .returned (.slice A2 X.length c2) ∧ Row w2 (.slice A2 X.length c2) X ∧ Mp w2 m T ∧ Rise lt T.toL ∧ T.toL.length ≤ 80 ∧ Below w.heap.size w w2 ∧
        Boxed w2 w.heap.size 5 (.int .u8 q) ∧ Boxed w2 (w.heap.size + 1) 4 (.bool false)) (by
    rintro e w1 ⟨m, L, rfl, hH, hL, b1⟩
    obtain ⟨T, hM, rfl, hr, hB⟩ := hH
    refine ⟨m, T.toL, rfl, (hold_from ⟨T, hM, rfl, hr, hB⟩ (by omega) s).mono ?_⟩
    rintro e w2 ⟨v, rfl, r2, b2⟩
    obtain ⟨A2, c2, rfl⟩ := r2.slice
    have q0 : Boxed w2 w.heap.size _ _ := (b2.block _ (Nat.lt_of_lt_of_le (by simp; omega) b1.size)).trans ((b1.block _ (by simp; omega)).trans (z0.alloc _))
    have q1 : Boxed w2 (w.heap.size + 1) _ _ := (b2.block _ (Nat.lt_of_lt_of_le (by simp) b1.size)).trans ((b1.block _ (by simp)).trans z1)
    exact ⟨T, _, A2, c2, (walkB_toL s T hr).symm, rfl, r2, hM.below b2, hr, hL, (hw0.trans (b1.mono (by simp; omega))).trans (b2.mono (Nat.le_trans (by simp; omega) b1.size)), q0, q1⟩))
  clear hC hcap hw0 z0 z1
  have hqw : wrap64 q = q := IntWalk.wrap64_in _ (by omega)
  refine (callsIn_wide (n := 5)).1 ?_
  refine callsIn_of_wp_marks Try.func4 rfl trivial ?_ rfl
  simp only [Try.ntmps4, List.size_toArray, List.length_cons, List.length_nil, Nat.reduceAdd, Nat.reduceSub, Array.replicate_succ, Array.replicate_zero, List.push_toArray, List.append_toArray, List.nil_append, List.cons_append]
  gi_wp2_with (first
    | (refine ⟨trivial, ?_⟩; gi_at_call 15; refine PC.mono ?_; clear PC; rintro e w1 ⟨m, L, rfl, FC⟩)
    | (refine ⟨trivial, ?_⟩; gi_at_call 16; refine (callsIn_wide.2 FC).mono ?_; clear FC; rintro e W2 ⟨T, X, A2, c2, hX, rfl, r2, hM, hr, hL, hB, x0, x1⟩; have hXA : Aside (X = walkB s T) := hX; clear hX)
    | (refine ⟨trivial, ?_⟩; gi_at_call 17; refine (from_in _ (some ⟨m, 0, none⟩) s _).mono ?_; rintro e w' ⟨rfl, t, rfl⟩))
  have hXl : Aside (X.length ≤ 80) := by
    show X.length ≤ 80
    have := walkB_len s T hr
    have h2 := Kn.cnt_len T
    rw [hXA.out]; omega
  have bX := Boxed.new W2 37 (.slice A2 X.length c2)
  have bS := Boxed.new (W2.alloc (.cells #[.slice A2 X.length c2] 37)) 3 (.int .i64 0)
  rw [World.size_alloc] at bS
  have bN := Boxed.new ((W2.alloc (.cells #[.slice A2 X.length c2] 37)).alloc (.cells #[.int .i64 0] 3)) t (.pointer (some ⟨m, 0, none⟩))
  rw [World.size_alloc, World.size_alloc] at bN
  have bK := Boxed.new (((W2.alloc (.cells #[.slice A2 X.length c2] 37)).alloc (.cells #[.int .i64 0] 3)).alloc (.cells #[.pointer (some ⟨m, 0, none⟩)] t)) 9 (.string s)
  rw [World.size_alloc, World.size_alloc, World.size_alloc] at bK
  have hB0 : Below W2.heap.size W2 ((((W2.alloc (.cells #[.slice A2 X.length c2] 37)).alloc (.cells #[.int .i64 0] 3)).alloc (.cells #[.pointer (some ⟨m, 0, none⟩)] t)).alloc (.cells #[.string s] 9)) := ((((Below.refl _ W2).alloc (Nat.le_refl _) _).alloc (by simp) _).alloc (by simp; omega) _).alloc (by simp; omega) _
  have hT := MpI.wide (S' := fun k => k < W2.heap.size ∨ k = W2.heap.size + 1 + 1 + 1) (fun k hk => .inl hk) ((MpN.mpI (p := some ⟨m, 0, none⟩) ⟨rfl, hM⟩).kee (S := fun k => k < W2.heap.size) ⟨hB0.size, fun k hk => hB0.block k hk⟩)
  refine wpIn_rangeFunc_ownG rfl (by omega) (gf := 35) (lb := #[.pointer (some ⟨W2.heap.size + 1 + 1, 0, none⟩), .pointer (some ⟨W2.heap.size + 1 + 1 + 1, 0, none⟩)]) rfl trivial (enters_of Try.func35 (by kernel_rfl) rfl)
    (from_stops _ (W2.heap.size + 1 + 1) (W2.heap.size + 1 + 1 + 1) (fun k => k < W2.heap.size ∨ k = W2.heap.size + 1 + 1 + 1) (some ⟨m, 0, none⟩) s T _ (fun k hk => by simp; omega) (by simp) (bN.alloc _).cell bK.cell (.inr rfl) hT) (fun h k => h.trans k)
    (fun W l o o' hl ho _ _ => ⟨by simp, fun k hk => World.putObj_heap_other (by simp at hl; omega)⟩) (Below.refl _ _) (fun _ => rfl)
    (fun pre W => StopC W2 m (.slice A2 X.length c2) s pre W ∧ (pre <+: X ∧ (pre.length : Int) ≤ q))
    (fun c pre W => (c = .ret ∧ ¬ (pre <+: X)) ∨ (c = .exit 0 ∧ ∃ pre' x, pre = pre' ++ [x] ∧ StopC W2 m (.slice A2 X.length c2) s pre' W ∧ (pre'.length : Int) = q))
    (OwnFrom.and (stopC_own W2 m _ s _ (by simp; omega)) (ownFrom_pure _ _))
    (fun c pre Y Z row hs hg hr => by
      rcases hs with hs | ⟨hc, pre', x, e, hi, h2⟩
      · exact .inl hs
      · exact .inr ⟨hc, pre', x, e, stopC_own W2 m _ s _ (by simp; omega) pre' Y Z row hi hg hr, h2⟩)
    ⟨⟨(bS.alloc _).alloc _, ((bX.alloc _).alloc _).alloc _, bK, hB0⟩, List.nil_prefix, by simpa using hq0⟩
    (fun x => { tmps := #[.slice A l.length c, .string s, .int .u8 q, undef, undef, .pointer (some ⟨w.heap.size, 0, none⟩), .pointer (some ⟨w.heap.size + 1, 0, none⟩), .pointer (some ⟨m, 0, none⟩), .pointer (some ⟨W2.heap.size, 0, none⟩), .pointer (some ⟨W2.heap.size + 1, 0, none⟩), .func (.func 35) #[] #[.pointer (some ⟨W2.heap.size + 1 + 1, 0, none⟩), .pointer (some ⟨W2.heap.size + 1 + 1 + 1, 0, none⟩)], .string x.1, .int .i64 x.2, .slice A l.length c, .pointer (some ⟨m, 0, none⟩), .pointer (some ⟨m, 0, none⟩), .string s, .slice A2 X.length c2, .pointer (some ⟨m, 0, none⟩), .string s, .func (.func 35) #[] #[.pointer (some ⟨W2.heap.size + 1 + 1, 0, none⟩), .pointer (some ⟨W2.heap.size + 1 + 1 + 1, 0, none⟩)], .func (.func 35) #[] #[.pointer (some ⟨W2.heap.size + 1 + 1, 0, none⟩), .pointer (some ⟨W2.heap.size + 1 + 1 + 1, 0, none⟩)], .bool false, .func (.func 35) #[] #[.pointer (some ⟨W2.heap.size + 1 + 1, 0, none⟩), .pointer (some ⟨W2.heap.size + 1 + 1 + 1, 0, none⟩)], .string x.1, .int .i64 x.2, undef, undef, undef, undef, undef, undef, undef, undef, undef, undef, undef, undef, undef, undef, undef, undef, undef, undef, undef, undef, undef, undef, undef, undef, undef, undef, undef, undef, undef, undef, undef, undef, undef, undef, undef, undef, undef, undef], defers := [] }) ?assign ?body ?done ?stop
  case assign =>
    intro l x W K hK
    gi_wp2
    exact hK
  case body =>
    rintro l pre x W ⟨⟨b9, b8, bk, hb⟩, hpre, hle⟩ hlt
    rw [← hXA.out] at hlt
    have hX80 := hXl.out
    have x5 : Boxed W w.heap.size 5 (.int .u8 q) := (hb.block _ x0.lt).trans x0
    have x6 : Boxed W (w.heap.size + 1) 4 (.bool false) := (hb.block _ x1.lt).trans x1
    have c5 := x5.cell
    have c6 := x6.cell
    have f6 := x6.frozen
    have c8 := b8.cell
    have c9 := b9.cell
    have f9 := b9.frozen
    by_cases hge : q ≤ (pre.length : Int)
    · have d1 := decide_eq_true hge
      clear hlt hX80
      gi_wp2
      exact ⟨KeepsFrom.refl _ _, .inr ⟨rfl, pre, x, rfl, ⟨b9, b8, bk, hb⟩, by omega⟩⟩
    · have d1 := decide_eq_false hge
      have d2 : decide ((X.length : Int) ≤ (pre.length : Int)) = false := decide_eq_false (by omega)
      have d2n : decide (X.length ≤ pre.length) = false := decide_eq_false (by omega)
      obtain ⟨ad, k, v, rfl, hk, e1, e2⟩ := (r2.below hb).at (pre.length : Int) (by omega) (by omega)
      rw [Int.toNat_natCast] at hk e1 e2
      have p0 := eq_true (show (0 : Int) ≤ (pre.length : Int) by omega)
      have p1 := eq_true (show (pre.length : Int) < (X.length : Int) by omega)
      have d3 := decide_eq_true (show (pre.length : Int) < (X.length : Int) by omega)
      have p2 := eq_true hlt
      have hwi : wrap64 ((pre.length : Int) + 1) = ((pre.length + 1 : Nat) : Int) := by rw [IntWalk.wrap64_in _ (by omega)]; omega
      have hle2 : ((pre.length + 1 : Nat) : Int) ≤ q := by omega
      have hno : (k, v) ≠ x → ¬ (pre ++ [x] <+: X) := fun hne hp => by
        have := pre_get hp
        rw [hk] at this
        exact hne (Option.some.inj this)
      by_cases hkx : k.toList = x.1.toList
      · have k1 : (k.toList == x.1.toList) = true := beq_iff_eq.mpr hkx
        have k2 : (k.toList != x.1.toList) = false := bne_eq_false_iff_eq.mpr hkx
        by_cases hvx : v = x.2
        · have v1 : (v == x.2) = true := beq_iff_eq.mpr hvx
          have v2 : (v != x.2) = false := bne_eq_false_iff_eq.mpr hvx
          have hxx : x = (k, v) := by rw [hvx, ba_ext hkx]
          have hnx : Aside (pre ++ [x] <+: X) := pre_next hpre (by rw [hxx]; exact hk)
          clear hge hlt hX80 hno hxx hkx hvx hk hpre hle
          gi_wp2
          have hb' := hb.setCell (p := ⟨W2.heap.size + 1, 0, none⟩) (by simp) (.int .i64 ((pre.length : Int) + 1))
          have bk' := bk.other (B' := W2.heap.size + 1) (by omega) (.int .i64 ((pre.length : Int) + 1))
          have bB := (Below.refl W2.heap.size W).setCell (p := ⟨W2.heap.size + 1, 0, none⟩) (by simp) (.int .i64 ((pre.length : Int) + 1))
          exact ⟨(KeepsOthers.setCell _ _ _).from _, ⟨bB.size, fun z h => h.elim (bB.block z) (fun e => by subst e; exact bk'.trans bk.symm)⟩, ⟨by simpa using b9.set (.int .i64 ((pre.length : Int) + 1)), b8.other (by omega) _, bk', hb'⟩, hnx.out, by simpa using hle2⟩
        · have v1 : (v == x.2) = false := beq_eq_false_iff_ne.mpr hvx
          have v2 : (v != x.2) = true := bne_iff_ne.mpr hvx
          have hn := hno (fun e => hvx (by rw [← e]))
          clear hge hlt hX80 hno hkx hvx
          gi_wp2
          exact ⟨(KeepsOthers.setCell _ _ _).from _, .inl ⟨rfl, hn⟩⟩
      · have k1 : (k.toList == x.1.toList) = false := beq_eq_false_iff_ne.mpr hkx
        have k2 : (k.toList != x.1.toList) = true := bne_iff_ne.mpr hkx
        have hn := hno (fun e => hkx (by rw [← e]))
        clear hge hlt hX80 hno hkx
        gi_wp2
        exact ⟨(KeepsOthers.setCell _ _ _).from _, .inl ⟨rfl, hn⟩⟩
  case done =>
    rintro D ys W hD rfl ⟨⟨b9, b8, bk, hb⟩, hpre, hle⟩ hK
    have hX80 := hXl.out
    rw [← hXA.out] at b9 hpre hle
    obtain ⟨N, hN⟩ : ∃ N : Int, N = X.length := ⟨_, rfl⟩
    rw [← hN] at b9
    have hb0 := hB0
    have m1 : decide (q < (X.length : Int)) = false := decide_eq_false (by omega)
    have hNA : Aside (N = X.length ∧ (X.length : Int) ≤ q) := ⟨hN, hle⟩
    have b4c : ∀ W4, Below W.heap.size W W4 → W4.cell? ⟨w.heap.size, 0, none⟩ = some (.int .u8 q) ∧ W4.cell? ⟨w.heap.size + 1, 0, none⟩ = some (.bool false) ∧ W4.frozen? ⟨w.heap.size + 1, 0, none⟩ = false ∧ W4.cell? ⟨W2.heap.size, 0, none⟩ = some (.slice A2 X.length c2) ∧ W4.cell? ⟨W2.heap.size + 1, 0, none⟩ = some (.int .i64 N) := fun W4 h4 => by
      have x5 : Boxed W w.heap.size 5 (.int .u8 q) := (hb.block _ x0.lt).trans x0
      have x6 : Boxed W (w.heap.size + 1) 4 (.bool false) := (hb.block _ x1.lt).trans x1
      have y6 : Boxed W4 (w.heap.size + 1) 4 (.bool false) := (h4.block _ x6.lt).trans x6
      exact ⟨Boxed.cell (t := 5) ((h4.block _ x5.lt).trans x5), y6.cell, y6.frozen, Boxed.cell (t := 37) ((h4.block _ b8.lt).trans b8), Boxed.cell (t := 3) ((h4.block _ b9.lt).trans b9)⟩
    have hbW := hB.trans (hb.mono hB.size)
    have hDl := (Array.getElem?_eq_some_iff.1 hK).1
    have hDA : Aside (w.heap.size ≤ D) := by have := hB.size; have h3 := hb0.size; show w.heap.size ≤ D; omega
    clear b9 b8 bk hb hpre hle hN hX80 hD x0 x1 r2 hM hr hL hB hT hB0 bX bS bN bK
    gi_wp2_with (refine ⟨trivial, ?_⟩; gi_at_call 13; refine (callsIn_wide.2 (live_any W)).mono ?_; rintro e W4 ⟨rfl, h4⟩; obtain ⟨q1, q2, q3, q4, q5⟩ := b4c W4 h4; clear b4c)
    all_goals (
        have hN := hNA.out
        have e1 : (N == q) = true ∨ (N == (X.length : Int)) = true := by simp only [beq_iff_eq]; omega
        first
          | rw [show (N == q) = true by simp only [beq_iff_eq]; omega]
          | rw [show (N == (X.length : Int)) = true by simp only [beq_iff_eq]; omega]
        clear e1 hN
        have hK4 : W4.heap[D]? = some (.deferred (some [])) := (h4.block D hDl).trans hK
        have hK' := (KeepsOthers.setCell W4 ⟨w.heap.size + 1, 0, none⟩ (.bool true)).same D _ hK4 rfl
        refine ⟨by simp, .inl ⟨_, _, rfl, run_takeDeferred hK', ?_⟩⟩
        have hc5 := cell_kept (World.cell?_setCell_same' W4 ⟨w.heap.size + 1, 0, none⟩ (.bool true) (by rw [q2]; rfl)) (grownBy_putObj' _ D (.deferred none)) (fun r e => by cases e; exact ⟨_, hK', rfl⟩)
        refine ⟨.bool true, by simp [results, Try.f4, go_sem, hc5], rfl, ?_⟩
        exact ((hbW.trans (h4.mono hbW.size)).setCell (p := ⟨w.heap.size + 1, 0, none⟩) (by simp) _).trans (belowK_b (w := w) (Nat.le_refl _) _ D _ _ hDA.out hK' rfl rfl)
    )
  case stop =>
    rintro D cc ys W hD hsp hix hK
    rcases hix with ⟨_, hn⟩ | ⟨rfl, pre', x, rfl, ⟨b9, b8, bk, hb⟩, hqe⟩
    · rw [← hXA.out] at hsp; exact absurd hsp hn
    rw [← hXA.out] at hsp
    have hpl : pre'.length < X.length := by obtain ⟨r, hr⟩ := hsp; rw [← hr]; simp
    have hX80 := hXl.out
    obtain ⟨N, hN⟩ : ∃ N : Int, N = pre'.length := ⟨_, rfl⟩
    rw [← hN] at b9
    have hb0 := hB0
    have m1 : decide (q < (X.length : Int)) = true := decide_eq_true (by omega)
    have hNA : Aside (N = q ∧ q < (X.length : Int)) := ⟨by omega, by omega⟩
    have b4c : ∀ W4, Below W.heap.size W W4 → W4.cell? ⟨w.heap.size, 0, none⟩ = some (.int .u8 q) ∧ W4.cell? ⟨w.heap.size + 1, 0, none⟩ = some (.bool false) ∧ W4.frozen? ⟨w.heap.size + 1, 0, none⟩ = false ∧ W4.cell? ⟨W2.heap.size, 0, none⟩ = some (.slice A2 X.length c2) ∧ W4.cell? ⟨W2.heap.size + 1, 0, none⟩ = some (.int .i64 N) := fun W4 h4 => by
      have x5 : Boxed W w.heap.size 5 (.int .u8 q) := (hb.block _ x0.lt).trans x0
      have x6 : Boxed W (w.heap.size + 1) 4 (.bool false) := (hb.block _ x1.lt).trans x1
      have y6 : Boxed W4 (w.heap.size + 1) 4 (.bool false) := (h4.block _ x6.lt).trans x6
      exact ⟨Boxed.cell (t := 5) ((h4.block _ x5.lt).trans x5), y6.cell, y6.frozen, Boxed.cell (t := 37) ((h4.block _ b8.lt).trans b8), Boxed.cell (t := 3) ((h4.block _ b9.lt).trans b9)⟩
    have hbW := hB.trans (hb.mono hB.size)
    have hDl := (Array.getElem?_eq_some_iff.1 hK).1
    have hDA : Aside (w.heap.size ≤ D) := by have := hB.size; have h3 := hb0.size; show w.heap.size ≤ D; omega
    clear b9 b8 bk hb hsp hqe hpl hN hX80 hD x0 x1 r2 hM hr hL hB hT hB0 bX bS bN bK
    gi_wp2_with (refine ⟨trivial, ?_⟩; gi_at_call 13; refine (callsIn_wide.2 (live_any W)).mono ?_; rintro e W4 ⟨rfl, h4⟩; obtain ⟨q1, q2, q3, q4, q5⟩ := b4c W4 h4; clear b4c)
    all_goals (
        have hN := hNA.out
        have e1 : (N == q) = true ∨ (N == (X.length : Int)) = true := by simp only [beq_iff_eq]; omega
        first
          | rw [show (N == q) = true by simp only [beq_iff_eq]; omega]
          | rw [show (N == (X.length : Int)) = true by simp only [beq_iff_eq]; omega]
        clear e1 hN
        have hK4 : W4.heap[D]? = some (.deferred (some [])) := (h4.block D hDl).trans hK
        have hK' := (KeepsOthers.setCell W4 ⟨w.heap.size + 1, 0, none⟩ (.bool true)).same D _ hK4 rfl
        refine ⟨by simp, .inl ⟨_, _, rfl, run_takeDeferred hK', ?_⟩⟩
        have hc5 := cell_kept (World.cell?_setCell_same' W4 ⟨w.heap.size + 1, 0, none⟩ (.bool true) (by rw [q2]; rfl)) (grownBy_putObj' _ D (.deferred none)) (fun r e => by cases e; exact ⟨_, hK', rfl⟩)
        refine ⟨.bool true, by simp [results, Try.f4, go_sem, hc5], rfl, ?_⟩
        exact ((hbW.trans (h4.mono hbW.size)).setCell (p := ⟨w.heap.size + 1, 0, none⟩) (by simp) _).trans (belowK_b (w := w) (Nat.le_refl _) _ D _ _ hDA.out hK' rfl rfl)
    )
end Go.Proofs.Ytdbkjpnejihnhaa.OrdSi
