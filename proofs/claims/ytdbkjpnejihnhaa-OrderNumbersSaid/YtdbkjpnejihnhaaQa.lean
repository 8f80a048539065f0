/- The law's own walks over a map's iterators: all, from. -/
import Derived.Test.YtdbkjpnejihnhaaOpSi
import Derived.Maps.AppendAt
import Derived.Test.YtdbkjpnejihnhaaP
set_option linter.unusedVariables false
set_option linter.unusedSimpArgs false
namespace Go.Proofs.Ytdbkjpnejihnhaa.OrdSi
open Go.RowKit Go.Shelf Go.Proofs.YtdbkjpnejihnhaaW.PrintWords Go.Proofs.YtdbkjpnejihnhaaW.PrintLast Go.Proofs.YtdbkjpnejihnhaaW.PrintMore Go.Proofs.Ytdbkjpnejihnhaa.Own Go.Proofs.Ytdbkjpnejihnhaa.Ord
attribute [local go_sem] Oper.semAt_some
set_option maxHeartbeats 2000000
set_option maxRecDepth 100000
/-- A map's pointer: none, or the map at its block. -/
def MpN (w : World) : Option Addr → Kn ByteArray Int → Prop
  | none, T => T = .nil
  | some a, T => a = ⟨a.block, 0, none⟩ ∧ Mp w a.block T
theorem MpN.mpI {w : World} {p : Option Addr} {T : Kn ByteArray Int} (h : MpN w p T) : MpI (fun k => k < w.heap.size) w p T := by
  cases p with
  | none => exact h
  | some a =>
    obtain ⟨h1, h2⟩ := h
    exact ⟨blk_lt h2.blk, by rw [h1]; exact blk_cell h2.blk 0, h2.inn, in_lt h2.inn⟩
theorem MpI.wide {S S' : Nat → Prop} {w : World} (hS : ∀ k, S k → S' k) : ∀ {p : Option Addr} {T : Kn ByteArray Int}, MpI S w p T → MpI S' w p T
  | none, _, h => h
  | some _, _, ⟨h1, h2, h3, h4⟩ => ⟨hS _ h1, h2, h3, fun x hx => hS _ (h4 x hx)⟩
def flatP (xs : List (ByteArray × Int)) : List Value := xs.flatMap fun x => [.string x.1, .int .i64 x.2]
def toS (x : ByteArray × Int) : P.S43 := ⟨x.1, x.2⟩
theorem flatP_snoc (xs : List (ByteArray × Int)) (x : ByteArray × Int) : flatP (xs ++ [x]) = flatP xs ++ [.string x.1, .int .i64 x.2] := by simp [flatP]
theorem flatP_len (xs : List (ByteArray × Int)) : (flatP xs).length = xs.length * 2 := by
  induction xs with
  | nil => rfl
  | cons x l ih => rw [show flatP (x :: l) = [.string x.1, .int .i64 x.2] ++ flatP l from by simp [flatP], List.length_append, ih, List.length_cons]; simp; omega
theorem reps_flat (w : World) (base : Nat) (ok : Nat → Prop) (xs : List (ByteArray × Int)) : Reps (P.k43.M w base ok) 2 (xs.map toS) (flatP xs) := by
  have key : ∀ l : List (ByteArray × Int), Reps (P.k43.M w base ok) 2 (l.reverse.map toS) (flatP l.reverse) := fun l => by
    induction l with
    | nil => exact Reps.none _ _
    | cons x l ih =>
      rw [List.reverse_cons, List.map_append, flatP_snoc]
      exact Reps.snoc ih (P.k43_mkM w base ok (toS x)) rfl
  simpa using key xs.reverse
theorem R_of_flat {w : World} {base : Nat} {v : Value} {xs : List (ByteArray × Int)} (ho : w.ownsRow base 43 2 v xs.length (flatP xs)) :
    P.k43.R 43 w base (fun _ => True) v (xs.map toS) :=
  ⟨fun _ _ => trivial, flatP xs, by rw [List.length_map]; exact ho, reps_flat _ _ _ _⟩
theorem run_eql_func_nil (t : TypeId) (ps rs : Array TypeId) (vd : Bool) (f : Fn) (x y : Array Value) (w : World) (h : Try.prog.underlying t = some (.func ps rs vd)) :
    (binOp .eql t (.func f x y) .nilFunc).run Try.prog w = .ok (.bool false) w := by
  have h1 : ∀ d, (Op.equalIn (d + 1) t (.func f x y) .nilFunc).run Try.prog w = .ok false w := fun d => by simp [Op.equalIn, run_underlying h]
  simp only [binOp]
  simp [Op.equal, Op.maxDepth, h1 9999]
theorem own_empty {w : World} {g base e size : Nat} (h : w.heap[g]? = some (.cells #[] e (0, 0))) (hb : base ≤ g) : w.ownsRow base e size (.slice (some ⟨g, 0, none⟩) 0 0) 0 [] :=
  ⟨by simp, .inr ⟨g, 0, #[], rfl, hb, h, Nat.le_refl _, Nat.zero_le _, by simp, by simp⟩⟩
theorem cell_two_new (w : World) (x y : Value) (t : TypeId) : ∀ j u, [x, y][j]? = some u → (w.alloc (.cells #[x, y] t)).cell? ((⟨w.heap.size, 0, none⟩ : Addr).add j) = some u := by
  intro j u hj
  match j, hj with
  | 0, hj => simp at hj; subst hj; simp [Addr.add]
  | 1, hj => simp at hj; subst hj; simp [Addr.add]
  | _ + 2, hj => simp at hj
theorem underP : Try.prog.underlying 37 = some (.slice 43) := Try.underlying37
abbrev OutI (w : World) (B : Nat) (pre : List (ByteArray × Int)) (W : World) : Prop :=
  (∃ v, Boxed W B 37 v ∧ W.ownsRow w.heap.size 43 2 v pre.length (flatP pre) ∧ True) ∧ Below w.heap.size w W
theorem lawall_any {w : World} {p : Option Addr} {T : Kn ByteArray Int} (h : MpN w p T) (hc : (walkA T).length < 4294967296) :
    Calls Try.prog 22 #[.pointer p] w fun e w' => ∃ v, e = .returned v ∧ P.k43.R 43 w' w.heap.size (fun _ => True) v ((walkA T).map toS) ∧ Below w.heap.size w w' := by
  have hnil := fun f x y w => run_eql_func_nil _ _ _ _ f x y w Try.underlying40
  obtain ⟨i0, hi, hz0, hz1, hz2⟩ := info_parts P.info43
  refine (callsIn_wide (n := 5)).1 ?_
  refine callsIn_of_wp_marks Try.func22 rfl trivial ?_ rfl
  simp only [Try.ntmps22, List.size_toArray, List.length_cons, List.length_nil, Nat.reduceAdd, Nat.reduceSub, Array.replicate_succ, Array.replicate_zero, List.push_toArray, List.append_toArray, List.nil_append, List.cons_append]
  gi_wp2_with (refine ⟨trivial, ?_⟩; gi_at_call 44; refine (all_in _ p _).mono ?_; rintro e w' ⟨rfl, t, rfl⟩)
  have bO := Boxed.new (w.alloc (.cells #[] 43)) 37 (.slice (some ⟨w.heap.size, 0, none⟩) 0 0)
  rw [World.size_alloc] at bO
  have bN := Boxed.new ((w.alloc (.cells #[] 43)).alloc (.cells #[.slice (some ⟨w.heap.size, 0, none⟩) 0 0] 37)) t (.pointer p)
  rw [World.size_alloc, World.size_alloc] at bN
  have oE : ((w.alloc (.cells #[] 43)).alloc (.cells #[.slice (some ⟨w.heap.size, 0, none⟩) 0 0] 37)).ownsRow w.heap.size 43 2 (.slice (some ⟨w.heap.size, 0, none⟩) 0 0) 0 [] :=
    (own_empty (blk_new _ _) (Nat.le_refl _)).alloc _
  have hB0 : Below w.heap.size w (((w.alloc (.cells #[] 43)).alloc (.cells #[.slice (some ⟨w.heap.size, 0, none⟩) 0 0] 37)).alloc (.cells #[.pointer p] t)) :=
    (((Below.refl _ w).alloc (Nat.le_refl _) _).alloc (by simp) _).alloc (by simp; omega) _
  have hT := (MpN.mpI h).kee (S := fun k => k < w.heap.size) ⟨hB0.size, fun k hk => hB0.block k hk⟩
  refine wpIn_rangeFunc_ownG rfl (by omega) (gf := 54) (lb := #[.pointer (some ⟨w.heap.size + 1 + 1, 0, none⟩)]) rfl trivial (enters_of Try.func54 (by kernel_rfl) rfl)
    (all_stops _ (w.heap.size + 1 + 1) (fun k => k < w.heap.size) p T _ (fun k hk => by simp; omega) (by simp) bN.cell hT) (fun h k => h.trans k)
    (fun W l o o' hl ho _ _ => ⟨by simp, fun k hk => World.putObj_heap_other (by simp at hl; omega)⟩) (Below.refl _ _) (fun _ => rfl)
    (OutI w (w.heap.size + 1)) (fun _ _ _ => False)
    (OwnFrom.and (Own.from (holdsRow_own w.heap.size (w.heap.size + 1) 37 43 2 (fun pre => pre.length) (fun pre => flatP pre) (fun pre v => True)) _) (ownFrom_below (Nat.le_refl _) (by simp; omega)))
    (fun _ _ _ _ _ hs _ _ => hs)
    ⟨⟨_, bO.alloc _, oE.alloc _, trivial⟩, hB0⟩
    (fun x => { tmps := #[.pointer p, undef, .slice none 0 0, .pointer (some ⟨w.heap.size + 1, 0, none⟩), .func (.func 54) #[] #[.pointer (some ⟨w.heap.size + 1 + 1, 0, none⟩)], .string x.1, .int .i64 x.2, .slice (some ⟨w.heap.size, 0, none⟩) 0 0, .pointer p, .func (.func 54) #[] #[.pointer (some ⟨w.heap.size + 1 + 1, 0, none⟩)], .func (.func 54) #[] #[.pointer (some ⟨w.heap.size + 1 + 1, 0, none⟩)], .bool false, undef, .func (.func 54) #[] #[.pointer (some ⟨w.heap.size + 1 + 1, 0, none⟩)], .string x.1, .int .i64 x.2, undef, undef, undef, undef, undef, undef, undef], defers := [] }) ?assign ?body ?done ?stop
  case assign =>
    intro l x W K hK
    gi_wp2
    exact hK
  case body =>
    rintro l pre x W ⟨⟨v, hv, hrow, _⟩, hB⟩ hlt
    have hc1 := hv.cell
    gi_wp2_with (gi_at_builtin; refine wpListIn_append_own _ rfl _ _ 37 rfl w.heap.size 43 i0 (.agg #[(.string ⟨#[]⟩), (.int .i64 0)]) 2 24 underP hi hz0 hz1 hz2 rfl (by decide) _ _ _ rfl (hrow.alloc _) ⟨W.heap.size, 0, none⟩ 1 1 [.string x.1, .int .i64 x.2] rfl rfl (cell_two_new _ _ _ _) (by simp [Value.oneCell']) (by have : maxLen = 9223372036854775807 := rfl; omega) (by omega) (by have := hB.size; simp; omega) ?_; intro v' w1 hown' hgrow _; obtain ⟨g', cap', rfl⟩ := ownsRow_succ hown'; obtain ⟨hv1, hv2, hr2, hk2, hb2⟩ := hv.appended (by decide) hrow hB.size (by omega) hown' hgrow; have hc2 := hv1.cell; have hf2 := hv1.frozen)
    exact ⟨hk2.from _, ⟨hb2.size, fun k hk => hb2.block k hk⟩, ⟨_, hv2, by rw [flatP_snoc, List.length_append]; exact hr2, trivial⟩, hB.trans hb2⟩
  case done =>
    rintro D ys W hD rfl ⟨⟨v, hv, hrow, _⟩, hB⟩ hK
    have hc1 := hv.cell
    gi_wp2
    refine ⟨by simp, .inl ⟨_, _, rfl, run_takeDeferred hK, ?_⟩⟩
    exact ⟨_, results_tmp rfl _ _ _, v, rfl, R_of_flat (ownsRow_putObj hrow _ hK rfl), hB.trans (belowK_b (w := w) (Nat.le_refl _) W D _ _ (by simp at hD; omega) hK rfl rfl)⟩
  case stop =>
    rintro D c pre W _ _ h _
    exact h.elim
theorem lawfrom_any {w : World} {p : Option Addr} (s : ByteArray) {T : Kn ByteArray Int} (h : MpN w p T) (hc : (walkB s T).length < 4294967296) :
    Calls Try.prog 16 #[.pointer p, .string s] w fun e w' => ∃ v, e = .returned v ∧ P.k43.R 43 w' w.heap.size (fun _ => True) v ((walkB s T).map toS) ∧ Below w.heap.size w w' := by
  have hnil := fun f x y w => run_eql_func_nil _ _ _ _ f x y w Try.underlying40
  obtain ⟨i0, hi, hz0, hz1, hz2⟩ := info_parts P.info43
  refine (callsIn_wide (n := 5)).1 ?_
  refine callsIn_of_wp_marks Try.func16 rfl trivial ?_ rfl
  simp only [Try.ntmps16, List.size_toArray, List.length_cons, List.length_nil, Nat.reduceAdd, Nat.reduceSub, Array.replicate_succ, Array.replicate_zero, List.push_toArray, List.append_toArray, List.nil_append, List.cons_append]
  gi_wp2_with (refine ⟨trivial, ?_⟩; gi_at_call 17; refine (from_in _ p s _).mono ?_; rintro e w' ⟨rfl, t, rfl⟩)
  have bO := Boxed.new (w.alloc (.cells #[] 43)) 37 (.slice (some ⟨w.heap.size, 0, none⟩) 0 0)
  rw [World.size_alloc] at bO
  have bN := Boxed.new ((w.alloc (.cells #[] 43)).alloc (.cells #[.slice (some ⟨w.heap.size, 0, none⟩) 0 0] 37)) t (.pointer p)
  rw [World.size_alloc, World.size_alloc] at bN
  have bK := Boxed.new (((w.alloc (.cells #[] 43)).alloc (.cells #[.slice (some ⟨w.heap.size, 0, none⟩) 0 0] 37)).alloc (.cells #[.pointer p] t)) 9 (.string s)
  rw [World.size_alloc, World.size_alloc, World.size_alloc] at bK
  have oE : ((w.alloc (.cells #[] 43)).alloc (.cells #[.slice (some ⟨w.heap.size, 0, none⟩) 0 0] 37)).ownsRow w.heap.size 43 2 (.slice (some ⟨w.heap.size, 0, none⟩) 0 0) 0 [] :=
    (own_empty (blk_new _ _) (Nat.le_refl _)).alloc _
  have hB0 : Below w.heap.size w ((((w.alloc (.cells #[] 43)).alloc (.cells #[.slice (some ⟨w.heap.size, 0, none⟩) 0 0] 37)).alloc (.cells #[.pointer p] t)).alloc (.cells #[.string s] 9)) :=
    ((((Below.refl _ w).alloc (Nat.le_refl _) _).alloc (by simp) _).alloc (by simp; omega) _).alloc (by simp; omega) _
  have hT := MpI.wide (S' := fun k => k < w.heap.size ∨ k = w.heap.size + 1 + 1 + 1) (fun k hk => .inl hk) ((MpN.mpI h).kee (S := fun k => k < w.heap.size) ⟨hB0.size, fun k hk => hB0.block k hk⟩)
  refine wpIn_rangeFunc_ownG rfl (by omega) (gf := 35) (lb := #[.pointer (some ⟨w.heap.size + 1 + 1, 0, none⟩), .pointer (some ⟨w.heap.size + 1 + 1 + 1, 0, none⟩)]) rfl trivial (enters_of Try.func35 (by kernel_rfl) rfl)
    (from_stops _ (w.heap.size + 1 + 1) (w.heap.size + 1 + 1 + 1) (fun k => k < w.heap.size ∨ k = w.heap.size + 1 + 1 + 1) p s T _ (fun k hk => by simp; omega) (by simp) (bN.alloc _).cell bK.cell (.inr rfl) hT) (fun h k => h.trans k)
    (fun W l o o' hl ho _ _ => ⟨by simp, fun k hk => World.putObj_heap_other (by simp at hl; omega)⟩) (Below.refl _ _) (fun _ => rfl)
    (fun pre W => OutI w (w.heap.size + 1) pre W ∧ Boxed W (w.heap.size + 1 + 1 + 1) 9 (.string s)) (fun _ _ _ => False)
    (OwnFrom.and (OwnFrom.and (Own.from (holdsRow_own w.heap.size (w.heap.size + 1) 37 43 2 (fun pre => pre.length) (fun pre => flatP pre) (fun pre v => True)) _) (ownFrom_below (Nat.le_refl _) (by simp; omega))) (Own.from (boxed_own _ _ (fun _ => .string s)) _))
    (fun _ _ _ _ _ hs _ _ => hs)
    ⟨⟨⟨_, (bO.alloc _).alloc _, (oE.alloc _).alloc _, trivial⟩, hB0⟩, bK⟩
    (fun x => { tmps := #[.pointer p, .string s, undef, undef, .slice none 0 0, .pointer (some ⟨w.heap.size + 1, 0, none⟩), .func (.func 35) #[] #[.pointer (some ⟨w.heap.size + 1 + 1, 0, none⟩), .pointer (some ⟨w.heap.size + 1 + 1 + 1, 0, none⟩)], .string x.1, .int .i64 x.2, .slice (some ⟨w.heap.size, 0, none⟩) 0 0, .pointer p, .string s, .func (.func 35) #[] #[.pointer (some ⟨w.heap.size + 1 + 1, 0, none⟩), .pointer (some ⟨w.heap.size + 1 + 1 + 1, 0, none⟩)], .func (.func 35) #[] #[.pointer (some ⟨w.heap.size + 1 + 1, 0, none⟩), .pointer (some ⟨w.heap.size + 1 + 1 + 1, 0, none⟩)], .bool false, undef, .func (.func 35) #[] #[.pointer (some ⟨w.heap.size + 1 + 1, 0, none⟩), .pointer (some ⟨w.heap.size + 1 + 1 + 1, 0, none⟩)], .string x.1, .int .i64 x.2, undef, undef, undef, undef, undef, undef, undef], defers := [] }) ?assign ?body ?done ?stop
  case assign =>
    intro l x W K hK
    gi_wp2
    exact hK
  case body =>
    rintro l pre x W ⟨⟨⟨v, hv, hrow, _⟩, hB⟩, hk⟩ hlt
    have hc1 := hv.cell
    gi_wp2_with (gi_at_builtin; refine wpListIn_append_own _ rfl _ _ 37 rfl w.heap.size 43 i0 (.agg #[(.string ⟨#[]⟩), (.int .i64 0)]) 2 24 underP hi hz0 hz1 hz2 rfl (by decide) _ _ _ rfl (hrow.alloc _) ⟨W.heap.size, 0, none⟩ 1 1 [.string x.1, .int .i64 x.2] rfl rfl (cell_two_new _ _ _ _) (by simp [Value.oneCell']) (by have : maxLen = 9223372036854775807 := rfl; omega) (by omega) (by have := hB.size; simp; omega) ?_; intro v' w1 hown' hgrow _; obtain ⟨g', cap', rfl⟩ := ownsRow_succ hown'; obtain ⟨hv1, hv2, hr2, hk2, hb2⟩ := hv.appended (by decide) hrow hB.size (by omega) hown' hgrow; have hc2 := hv1.cell; have hf2 := hv1.frozen; have hk1 := ((hk.alloc _).kept hgrow (hk.not_row (by decide) hrow)).other (B' := w.heap.size + 1) (by omega) (.slice (some ⟨g', 0, none⟩) (pre.length + 1) cap'))
    exact ⟨hk2.from _, ⟨hb2.size, fun k h => h.elim (hb2.block k) (fun e => by subst e; exact hk1.trans hk.symm)⟩, ⟨⟨_, hv2, by rw [flatP_snoc, List.length_append]; exact hr2, trivial⟩, hB.trans hb2⟩, hk1⟩
  case done =>
    rintro D ys W hD rfl ⟨⟨⟨v, hv, hrow, _⟩, hB⟩, _⟩ hK
    have hc1 := hv.cell
    gi_wp2
    refine ⟨by simp, .inl ⟨_, _, rfl, run_takeDeferred hK, ?_⟩⟩
    exact ⟨_, results_tmp rfl _ _ _, v, rfl, R_of_flat (ownsRow_putObj hrow _ hK rfl), hB.trans (belowK_b (w := w) (Nat.le_refl _) W D _ _ (by simp at hD; omega) hK rfl rfl)⟩
  case stop =>
    rintro D c pre W _ _ h _
    exact h.elim
end Go.Proofs.Ytdbkjpnejihnhaa.OrdSi
