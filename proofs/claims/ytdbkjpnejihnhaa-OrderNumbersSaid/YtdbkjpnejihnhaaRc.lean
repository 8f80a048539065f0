/- A map of numbers; the law OrderNumbers, walked. -/
import Derived.Test.YtdbkjpnejihnhaaOpIs
import Derived.Test.YtdbkjpnejihnhaaQv
set_option linter.unusedVariables false
set_option linter.unusedSimpArgs false
namespace Go.Proofs.Ytdbkjpnejihnhaa.OrdIs
open Go.RowKit Go.Shelf Go.Proofs.YtdbkjpnejihnhaaW.PrintWords Go.Proofs.YtdbkjpnejihnhaaW.PrintLast Go.Proofs.YtdbkjpnejihnhaaW.PrintMore Go.Proofs.Ytdbkjpnejihnhaa.Own Go.Proofs.Ytdbkjpnejihnhaa.Ord
attribute [local go_sem] Oper.semAt_some
set_option maxHeartbeats 4000000
set_option maxRecDepth 100000
theorem lin : Lin (K := Int) lt := ⟨fun a => by simp [lt], fun h k => by simp [lt] at *; omega, fun h k => by simp [lt] at *; omega⟩
theorem walkA_toL : ∀ T : Kn Int ByteArray, walkA T = T.toL
  | .nil => rfl
  | .node _ _ _ l r => by rw [walkA, Kn.toL, walkA_toL l, walkA_toL r]
abbrev sX : ByteArray := ⟨#[120]⟩
/-- The map at block m holds the row L, every value "x", in blocks from base on. -/
def Hold (base : Nat) (w : World) (m : Nat) (L : List (Int × ByteArray)) : Prop := ∃ T, Mp w m T ∧ T.toL = L ∧ Rise lt L ∧ (∀ x ∈ L, x.2 = sX) ∧ ∀ x ∈ m :: T.bs, base ≤ x
theorem Hold.below {base : Nat} {w w' : World} {m : Nat} {L : List (Int × ByteArray)} (h : Hold base w m L) (b : Below w.heap.size w w') : Hold base w' m L := by
  obtain ⟨T, h1, h2⟩ := h
  exact ⟨T, h1.below b, h2⟩
theorem hold_new (w : World) : Calls Try.prog 9 #[] w fun e w' => ∃ m, e = .returned (.pointer (some ⟨m, 0, none⟩)) ∧ Hold w.heap.size w' m [] ∧ Below w.heap.size w w' :=
  (new_any w).mono (by
    rintro e w' ⟨m, hm, rfl, hM, fr⟩
    exact ⟨m, rfl, ⟨.nil, hM, rfl, List.Pairwise.nil, by simp, by simp [Kn.bs]; exact hm⟩, fr.below (by simp) (Nat.le_refl _)⟩)
theorem hold_put {base : Nat} {w : World} {m : Nat} {L : List (Int × ByteArray)} (h : Hold base w m L) (hb : base ≤ w.heap.size) (hl : L.length < 1000000) (k : Int) :
    Calls Try.prog 10 #[.pointer (some ⟨m, 0, none⟩), .int .i64 k, .string sX] w fun e w' => e = .returned (.bool (decide (L.length < (ins lt k sX L).length))) ∧ Hold base w' m (ins lt k sX L) ∧ Below base w w' := by
  obtain ⟨T, hM, rfl, hr, hx, hB⟩ := h
  have hc := Kn.cnt_len T
  refine (mput_any k sX hM (by omega)).mono ?_
  rintro e w' ⟨nb, hnb, rfl, hM', fr⟩
  have ht := put_toL lin nb k sX T hr
  refine ⟨?_, ⟨_, hM', ht, ins_rise lin k sX hr, fun x hx' => ?_, fun x hx => ?_⟩, fr.below hB hb⟩
  · rw [Kn.cnt_len, Kn.cnt_len, ht]
    congr 3
    apply propext
    constructor <;> intro h <;> omega
  · simp only [ins, List.mem_append, List.mem_cons, List.mem_filter] at hx'
    rcases hx' with ⟨h, _⟩ | rfl | ⟨h, _⟩
    · exact hx x h
    · rfl
    · exact hx x h
  · rcases List.mem_cons.1 hx with rfl | hx
    · exact hB _ List.mem_cons_self
    · rcases Kn.put_mem hx with e | e
      · omega
      · exact hB _ (List.mem_cons_of_mem _ e)
theorem hold_len {base : Nat} {w : World} {m : Nat} {L : List (Int × ByteArray)} (h : Hold base w m L) :
    Calls Try.prog 14 #[.pointer (some ⟨m, 0, none⟩)] w fun e w' => e = .returned (.int .i64 L.length) ∧ w' = w := by
  obtain ⟨T, hM, rfl, hr, hx, hB⟩ := h
  have := len_any hM
  rw [Kn.cnt_len] at this
  exact this
/-- A key that is there has "x". -/
theorem hold_get {base : Nat} {w : World} {m : Nat} {L : List (Int × ByteArray)} (h : Hold base w m L) (k : Int) (hk : ∃ v, (k, v) ∈ L) :
    Calls Try.prog 12 #[.pointer (some ⟨m, 0, none⟩), .int .i64 k] w fun e w' => e = .returned (.tuple #[.string sX, .bool true]) ∧ w' = w := by
  obtain ⟨T, hM, rfl, hr, hx, hB⟩ := h
  have G := get_any k hM
  have : got k T = (sX, true) := by
    have hl := find_look lin k T hr
    obtain ⟨v, hv⟩ := hk
    have : (lookK lt k T.toL) = some sX := by
      unfold lookK
      cases hf : T.toL.find? (fun x => !lt x.1 k && !lt k x.1) with
      | none =>
        rw [List.find?_eq_none] at hf
        have := hf (k, v) hv
        simp [lin.irr] at this
      | some y => simp [hx y (List.mem_of_find?_eq_some hf)]
    rw [this] at hl
    unfold got
    cases hF : Kn.find lt k T with
    | nil => rw [hF] at hl; cases hl
    | node b k' v' l r => rw [hF] at hl; injection hl with hl; rw [hl]
  rw [this] at G
  exact G
/-- What has been put is there. -/
theorem ins_mem {L : List (Int × ByteArray)} (k : Int) {j : Int} (h : j = k ∨ ∃ v, (j, v) ∈ L) : ∃ v, (j, v) ∈ ins lt k sX L := by
  by_cases hjk : j = k
  · exact ⟨sX, by rw [hjk]; simp [ins]⟩
  · obtain ⟨v, hv⟩ := h.resolve_left hjk
    refine ⟨v, ?_⟩
    simp only [ins, List.mem_append, List.mem_cons, List.mem_filter]
    rcases Int.lt_or_gt_of_ne hjk with h | h
    · exact .inl ⟨hv, by simp [lt]; omega⟩
    · exact .inr (.inr ⟨hv, by simp [lt]; omega⟩)
theorem ins_bounds (k : Int) : ∀ L : List (Int × ByteArray), Rise lt L → L.length ≤ (ins lt k sX L).length ∧ (ins lt k sX L).length ≤ L.length + 1
  | [], _ => by simp [ins]
  | x :: L, h => by
    rw [Rise, List.pairwise_cons] at h
    have ih := ins_bounds k L h.2
    simp only [ins, List.length_append, List.length_cons, List.filter_cons] at ih ⊢
    rcases Int.lt_trichotomy x.1 k with hx | hx | hx
    · have e1 : lt x.1 k = true := by simp [lt]; omega
      have e2 : lt k x.1 = false := by simp [lt]; omega
      simp only [e1, e2, if_true, Bool.false_eq_true, if_false, List.length_cons]; omega
    · have e1 : lt x.1 k = false := by simp [lt]; omega
      have e2 : lt k x.1 = false := by simp [lt]; omega
      have e3 : L.filter (fun y => lt k y.1) = L := fil_all fun y hy => by have := h.1 y hy; simp [lt] at this ⊢; omega
      have e4 : L.filter (fun y => lt y.1 k) = [] := fil_none fun y hy => by have := h.1 y hy; simp [lt] at this ⊢; omega
      simp only [e1, e2, e3, e4, Bool.false_eq_true, if_false, List.length_nil]; omega
    · have e1 : lt x.1 k = false := by simp [lt]; omega
      have e2 : lt k x.1 = true := by simp [lt]; omega
      have e3 : L.filter (fun y => lt k y.1) = L := fil_all fun y hy => by have := h.1 y hy; simp [lt] at this ⊢; omega
      have e4 : L.filter (fun y => lt y.1 k) = [] := fil_none fun y hy => by have := h.1 y hy; simp [lt] at this ⊢; omega
      simp only [e1, e2, e3, e4, if_true, Bool.false_eq_true, if_false, List.length_nil, List.length_cons]; omega
/-- A number in a row. -/
theorem at_N {w : World} {A : Option Addr} {xs : List Int} (h : Kd.C (Kd.int .i64) w A xs.length xs) (i : Int) (h0 : 0 ≤ i) (h1 : i < xs.length) : ∃ ad, ∃ x : Int, A = some ad ∧ xs[i.toNat]? = some x ∧ w.cell? (ad.add i.toNat) = some (.int .i64 x) := by
  obtain ⟨ad, c, e, hl, hK, hc0⟩ := Kd.C_get h 0 i h0 h1
  have hc : ∀ j u, c[j]? = some u → w.cell? (ad.add (i.toNat * 1 + j)) = some u := hc0
  have hK' : c = [.int .i64 (xs.getD i.toNat 0)] := hK
  subst hK'
  have h2 : i.toNat < xs.length := by omega
  exact ⟨ad, xs.getD i.toNat 0, e, by rw [List.getD_eq_getElem?_getD, List.getElem?_eq_getElem h2]; rfl, by simpa using hc 0 _ rfl⟩
/-- The last key. -/
def lastK (pre : List (Int × ByteArray)) : Int := (pre.getLast?.map (·.1)).getD 0
theorem lastK_snoc (pre : List (Int × ByteArray)) (x : Int × ByteArray) : lastK (pre ++ [x]) = x.1 := by simp [lastK]
/-- What must not be: another value, or a key that does not rise. -/
def Bad (s : List (Int × ByteArray)) : Prop := ∃ pre x, s = pre ++ [x] ∧ (x.2 ≠ sX ∨ (pre ≠ [] ∧ x.1 ≤ lastK pre))
theorem not_bad {X s : List (Int × ByteArray)} (hr : Rise lt X) (hx : ∀ x ∈ X, x.2 = sX) (h : s <+: X) : ¬ Bad s := by
  rintro ⟨pre, x, rfl, hb⟩
  obtain ⟨r, rfl⟩ := h
  rcases hb with hb | ⟨hne, hle⟩
  · exact hb (hx x (by simp))
  · obtain ⟨pre', y, rfl⟩ : ∃ pre' y, pre = pre' ++ [y] := ⟨pre.dropLast, pre.getLast hne, (List.dropLast_concat_getLast hne).symm⟩
    rw [lastK_snoc] at hle
    simp only [Rise, List.append_assoc, List.pairwise_append, List.singleton_append, List.pairwise_cons] at hr
    have := hr.2.1.1.1 x (by simp)
    simp [lt] at this
    omega
abbrev NumC (W0 : World) (pre : List (Int × ByteArray)) (W : World) : Prop :=
  Boxed W W0.heap.size 3 (.int .i64 (lastK pre)) ∧ Boxed W (W0.heap.size + 1) 3 (.int .i64 pre.length) ∧ Below W0.heap.size W0 W
theorem numC_own (W0 : World) (n : Nat) (hn : W0.heap.size ≤ n) : OwnFrom n (NumC W0) :=
  OwnFrom.and (Own.from (boxed_own _ _ (fun pre => .int .i64 (lastK pre))) _) (OwnFrom.and (Own.from (boxed_own _ _ (fun pre : List (Int × ByteArray) => .int .i64 pre.length)) _) (ownFrom_below (Nat.le_refl _) hn))
theorem numbers_any {w : World} {A : Option Addr} {c : Nat} {l : List Int} (hC : Kd.C (Kd.int .i64) w A l.length l) (hcap : l.length ≤ c) :
    Calls Try.prog 3 #[.slice A l.length c] w fun e w' => e = .returned (.bool true) ∧ Below w.heap.size w w' := by
  have hnil := fun f x y w => OrdSi.run_eql_func_nil _ _ _ _ f x y w Try.underlying27
  have z0 := Boxed.new w 4 (.bool false)
  have hw0 : Below w.heap.size w (w.alloc (.cells #[.bool false] 4)) := (Below.refl _ w).alloc (Nat.le_refl _) _
  have NC := (callsIn_wide (n := 4)).2 ((hold_new (w.alloc (.cells #[.bool false] 4))).mono (R' := fun e w1 => ∃ m, e = .returned (.pointer (some ⟨m, 0, none⟩)) ∧ Hold (w.heap.size + 1) w1 m [] ∧ Boxed w1 w.heap.size 4 (.bool false) ∧ Below w.heap.size w w1) (by
    rintro e w1 ⟨m, rfl, h1, b1⟩
    rw [World.size_alloc] at h1
    exact ⟨m, rfl, h1, (b1.block _ (by simp)).trans z0, hw0.trans (b1.mono (by simp))⟩))
  clear hw0 z0
  refine (callsIn_wide (n := 5)).1 ?_
  refine callsIn_of_wp_marks Try.func3 rfl trivial ?_ rfl
  simp only [Try.ntmps3, List.size_toArray, List.length_cons, List.length_nil, Nat.reduceAdd, Nat.reduceSub, Array.replicate_succ, Array.replicate_zero, List.push_toArray, List.append_toArray, List.nil_append, List.cons_append]
  gi_wp2_with (refine ⟨trivial, ?_⟩; gi_at_call 9; refine NC.mono ?_; clear NC; rintro e w1 ⟨m, rfl, h1, x1, b1⟩)
  refine wpIn_wide.2 ?_
  go_loopg [4, 5] 60 (fun g nv iv wr => ∃ (i : Int) (L : List (Int × ByteArray)), iv = .int .i64 i ∧ nv = .int .i64 L.length ∧ Aside (0 ≤ i ∧ i.toNat + g = 60 ∧ L.length ≤ i.toNat ∧ ∀ j x, j < i.toNat → l[j]? = some x → ∃ v, (x, v) ∈ L) ∧ Hold (w.heap.size + 1) wr m L ∧ Boxed wr w.heap.size 4 (.bool false) ∧ Below w.heap.size w wr)
  case atStart => exact ⟨0, [], rfl, rfl, ⟨Int.le_refl _, rfl, by simp, fun j x h => by simp at h⟩, h1, x1, b1⟩
  case round =>
    clear h1 x1 b1
    obtain ⟨i, L, rfl, rfl, hi, hH, x1, hB⟩ := hrel
    obtain ⟨hi0, hig, hiL, hin⟩ := hi.out
    by_cases hAB : i < l.length ∧ i < 60
    · cases gk with
      | zero => omega
      | succ g =>
        obtain ⟨ad, x, rfl, hx, q0⟩ := at_N (Kd.C_below hC hB) i hi0 hAB.1
        have PC := hold_put hH x1.lt (by omega) x
        have hbd := ins_bounds x L (by obtain ⟨_, _, rfl, h, _⟩ := hH; exact h)
        have dA := decide_eq_true hAB.1
        have dB := decide_eq_true hAB.2
        have d0 := decide_eq_true hi0
        have p0 := eq_true hi0
        have pA := eq_true hAB.1
        have hwi : wrap64 (i + 1) = i + 1 := IntWalk.wrap64_in _ (by omega)
        have hbA : Aside ((ins lt x sX L).length ≤ L.length + 1) := hbd.2
        have hin2 : Aside (∀ j y, j < (i + 1).toNat → l[j]? = some y → ∃ v, (y, v) ∈ ins lt x sX L) := fun j y hj hy => by
          rcases Nat.lt_or_ge j i.toNat with h | h
          · exact ins_mem x (.inr (hin j y h hy))
          · have : j = i.toNat := by omega
            subst this
            rw [hx] at hy
            exact ins_mem x (.inl (Option.some.inj hy).symm)
        by_cases hgt : L.length < (ins lt x sX L).length
        · have dg := decide_eq_true hgt
          have hwn : wrap64 ((L.length : Int) + 1) = ((ins lt x sX L).length : Int) := by rw [IntWalk.wrap64_in _ (by omega)]; omega
          clear hC hcap hi0 hig hiL hin hAB hH hbd hgt
          go_wp2_with (go_at_call 10; refine PC.mono ?_; clear PC; rintro e w2 ⟨rfl, h2, b2⟩)
          go_roundg g
          case measure => omega
          case rel => exact ⟨i + 1, ins lt x sX L, by rw [hwi], by first | rw [hwn] | (congr 1), ⟨by have := hi.out.1; omega, by have := hi.out; omega, by have := hi.out; have := hbA.out; omega, hin2.out⟩, h2, (b2.block _ (by omega)).trans x1, hB.trans (b2.mono (by omega))⟩
        · have dg := decide_eq_false hgt
          have hwn : (L.length : Int) = ((ins lt x sX L).length : Int) := by omega
          clear hC hcap hi0 hig hiL hin hAB hH hbd hgt
          go_wp2_with (go_at_call 10; refine PC.mono ?_; clear PC; rintro e w2 ⟨rfl, h2, b2⟩)
          go_roundg g
          case measure => omega
          case rel => exact ⟨i + 1, ins lt x sX L, by rw [hwi], by first | rw [← hwn] | (congr 1), ⟨by have := hi.out.1; omega, by have := hi.out; omega, by have := hi.out; have := hbA.out; omega, hin2.out⟩, h2, (b2.block _ (by omega)).trans x1, hB.trans (b2.mono (by omega))⟩
    · have hex : decide (i < (l.length : Int)) = false ∨ (decide (i < (l.length : Int)) = true ∧ decide (i < 60) = false) := by
        by_cases hA : i < (l.length : Int)
        · exact .inr ⟨decide_eq_true hA, decide_eq_false (fun h => hAB ⟨hA, h⟩)⟩
        · exact .inl (decide_eq_false hA)
      have hL60 : Aside (L.length ≤ 60 ∧ ∀ (j : Nat) x, j < 60 → l[j]? = some x → ∃ v, (x, v) ∈ L) := ⟨by omega, fun j x hj hx => by
        refine hin j x ?_ hx
        have := (List.getElem?_eq_some_iff.1 hx).1
        omega⟩
      clear hi0 hig hiL hin hAB hi
      obtain ⟨T, hM, hTL, hr, hsX, hTb⟩ := hH
      have hH : Hold (w.heap.size + 1) wr m L := ⟨T, hM, hTL, hr, hsX, hTb⟩
      have hTLA : Aside (walkA T = L) := by show walkA T = L; rw [walkA_toL, hTL]
      clear hTL hTb
      rcases hex with dA | ⟨dA, dB⟩ <;> (
        go_wp2
        gi_wp2_with (refine ⟨trivial, ?_⟩; gi_at_call 11; refine (all_in _ (some ⟨m, 0, none⟩) _).mono ?_; rintro e w' ⟨rfl, t, rfl⟩)
        have bL := Boxed.new wr 3 (.int .i64 0)
        have bS := Boxed.new (wr.alloc (.cells #[.int .i64 0] 3)) 3 (.int .i64 0)
        rw [World.size_alloc] at bS
        have bN := Boxed.new ((wr.alloc (.cells #[.int .i64 0] 3)).alloc (.cells #[.int .i64 0] 3)) t (.pointer (some ⟨m, 0, none⟩))
        rw [World.size_alloc, World.size_alloc] at bN
        have hB0 : Below wr.heap.size wr (((wr.alloc (.cells #[.int .i64 0] 3)).alloc (.cells #[.int .i64 0] 3)).alloc (.cells #[.pointer (some ⟨m, 0, none⟩)] t)) := (((Below.refl _ wr).alloc (Nat.le_refl _) _).alloc (by simp) _).alloc (by simp; omega) _
        have hT : MpI (fun k => k < wr.heap.size) _ (some ⟨m, 0, none⟩) T := MpI.kee (S := fun k => k < wr.heap.size) (A := wr) ⟨hB0.size, fun k hk => hB0.block k hk⟩ ⟨blk_lt hM.blk, blk_cell hM.blk 0, hM.inn, in_lt hM.inn⟩
        apply wpIn_rangeFunc_ownG rfl (by omega) (gf := 31) (lb := #[.pointer (some ⟨wr.heap.size + 1 + 1, 0, none⟩)]) rfl trivial (enters_of Try.func31 (by kernel_rfl) rfl)
          (all_stops _ (wr.heap.size + 1 + 1) (fun k => k < wr.heap.size) (some ⟨m, 0, none⟩) T _ (fun k hk => by simp; omega) (by simp) bN.cell hT) (fun h k => h.trans k)
          (fun W l o o' hl ho _ _ => ⟨by simp, fun k hk => World.putObj_heap_other (by simp at hl; omega)⟩) (Below.refl _ _) (fun _ => rfl)
          (fun pre W => NumC wr pre W) (fun c pre W => c = .ret ∧ Bad pre)
          (numC_own wr _ (by simp; omega)) (fun c => ownFrom_pure _ _)
          ⟨(bL.alloc _).alloc _, bS.alloc _, hB0⟩
        case hassign =>
          intro l x W K hK
          gi_wp2
          exact hK
        case hbody =>
          rintro l2 pre x W ⟨bL', bS', hb⟩ hlt
          rw [hTLA.out] at hlt
          have hl60 := hL60.out.1
          have x2 : Boxed W w.heap.size 4 (.bool false) := (hb.block _ x1.lt).trans x1
          have c2 := x2.cell
          have f2 := x2.frozen
          have cL := bL'.cell
          have fL := bL'.frozen
          have cS := bS'.cell
          have fS := bS'.frozen
          have hwi : wrap64 ((pre.length : Int) + 1) = (pre.length : Int) + 1 := IntWalk.wrap64_in _ (by omega)
          by_cases hv : x.2.toList = [120]
          · have k1 : (x.2.toList == [120]) = true := beq_iff_eq.mpr hv
            have k2 : (x.2.toList != [120]) = false := bne_eq_false_iff_eq.mpr hv
            by_cases h0 : pre = []
            · subst h0
              clear hv hl60 hlt
              gi_wp2
              have hbb := (hb.setCell (p := ⟨wr.heap.size, 0, none⟩) (by simp) (.int .i64 x.1)).setCell (p := ⟨wr.heap.size + 1, 0, none⟩) (by simp) (.int .i64 1)
              have bB := ((Below.refl wr.heap.size W).setCell (p := ⟨wr.heap.size, 0, none⟩) (by simp) (.int .i64 x.1)).setCell (p := ⟨wr.heap.size + 1, 0, none⟩) (by simp) (.int .i64 1)
              exact ⟨((KeepsOthers.setCell _ _ _).trans (KeepsOthers.setCell _ _ _)).from _, ⟨bB.size, fun z h => bB.block z h⟩, by rw [lastK_snoc]; exact (bL'.set _).other (by omega) _, by simpa using (bS'.other (by omega) (.int .i64 x.1)).set (.int .i64 1), hbb⟩
            · have hp : 0 < pre.length := List.length_pos_iff.2 h0
              have dz : decide ((0 : Int) < (pre.length : Int)) = true := decide_eq_true (by omega)
              have dn : decide (0 < pre.length) = true := decide_eq_true hp
              by_cases hle : x.1 ≤ lastK pre
              · have dl := decide_eq_true hle
                have hbad : Aside (Bad (pre ++ [x])) := ⟨pre, x, rfl, .inr ⟨h0, hle⟩⟩
                clear hv hl60 hlt hle hp h0
                gi_wp2
                exact ⟨(KeepsOthers.setCell _ _ _).from _, rfl, hbad.out⟩
              · have dl := decide_eq_false hle
                clear hv hl60 hlt hle hp
                gi_wp2
                have hbb := (hb.setCell (p := ⟨wr.heap.size, 0, none⟩) (by simp) (.int .i64 x.1)).setCell (p := ⟨wr.heap.size + 1, 0, none⟩) (by simp) (.int .i64 ((pre.length : Int) + 1))
                have bB := ((Below.refl wr.heap.size W).setCell (p := ⟨wr.heap.size, 0, none⟩) (by simp) (.int .i64 x.1)).setCell (p := ⟨wr.heap.size + 1, 0, none⟩) (by simp) (.int .i64 ((pre.length : Int) + 1))
                exact ⟨((KeepsOthers.setCell _ _ _).trans (KeepsOthers.setCell _ _ _)).from _, ⟨bB.size, fun z h => bB.block z h⟩, by rw [lastK_snoc]; exact (bL'.set _).other (by omega) _, by simpa using (bS'.other (by omega) (.int .i64 x.1)).set (.int .i64 ((pre.length : Int) + 1)), hbb⟩
          · have k1 : (x.2.toList == [120]) = false := beq_eq_false_iff_ne.mpr hv
            have k2 : (x.2.toList != [120]) = true := bne_iff_ne.mpr hv
            have hbad : Aside (Bad (pre ++ [x])) := ⟨pre, x, rfl, .inl (fun e => hv (by rw [e, Lib.toList_data]))⟩
            clear hv hl60 hlt
            gi_wp2
            exact ⟨(KeepsOthers.setCell _ _ _).from _, rfl, hbad.out⟩
        case hstop =>
          rintro D cc pre W hD hpre ⟨_, hbad⟩ hK
          rw [hTLA.out] at hpre
          exact absurd hbad (not_bad hr hsX hpre)
        case hdone =>
          rintro D xs W hD rfl ⟨bL', bS', hb⟩ hK
          have hxl : ((walkA T).length : Int) = L.length := by rw [hTLA.out]
          have hDl := (Array.getElem?_eq_some_iff.1 hK).1
          have hbW : Below w.heap.size w W := hB.trans (hb.mono hB.size)
          have hDA : Aside (w.heap.size ≤ D) := by show w.heap.size ≤ D; have := hB.size; simp at hD; omega
          have x2 : Boxed W w.heap.size 4 (.bool false) := (hb.block _ x1.lt).trans x1
          have bS2 : Boxed W (wr.heap.size + 1) 3 (.int .i64 L.length) := by rw [← hxl]; exact bS'
          have hHW : Hold (w.heap.size + 1) W m L := hH.below hb
          have hCW := Kd.C_below hC hbW
          have hS : ∀ W4, Below W.heap.size W W4 → W4.cell? ⟨wr.heap.size + 1, 0, none⟩ = some (.int .i64 L.length) ∧ W4.cell? ⟨w.heap.size, 0, none⟩ = some (.bool false) ∧ W4.frozen? ⟨w.heap.size, 0, none⟩ = false := fun W4 h4 => by
            have y2 : Boxed W4 w.heap.size 4 (.bool false) := (h4.block _ x2.lt).trans x2
            exact ⟨Boxed.cell (t := 3) ((h4.block _ bS2.lt).trans bS2), y2.cell, y2.frozen⟩
          clear bL' bS' hD hxl
          gi_wp2
          refine wpIn_wide.2 ?_
          go_loopg [11] 60 (fun g iv wr2 => ∃ (i2 : Int), iv = .int .i64 i2 ∧ Aside (0 ≤ i2 ∧ i2.toNat + g = 60) ∧ Below W.heap.size W wr2)
          case atStart => exact ⟨0, rfl, ⟨Int.le_refl _, rfl⟩, Below.refl _ _⟩
          case round =>
            obtain ⟨i2, rfl, hi2, hW2⟩ := hrel
            obtain ⟨hi0, hig⟩ := hi2.out
            by_cases hAB : i2 < l.length ∧ i2 < 60
            · cases gk with
              | zero => omega
              | succ g =>
                obtain ⟨ad, x, rfl, hx, q0⟩ := at_N (Kd.C_below hCW hW2) i2 hi0 hAB.1
                have GC := hold_get (hHW.below hW2) x (hL60.out.2 i2.toNat x (by omega) hx)
                have eA := decide_eq_true hAB.1
                have eB := decide_eq_true hAB.2
                have e0 := decide_eq_true hi0
                have p0 := eq_true hi0
                have pA := eq_true hAB.1
                have hwi : wrap64 (i2 + 1) = i2 + 1 := IntWalk.wrap64_in _ (by omega)
                clear hi0 hig hAB hx
                go_wp2_with (go_at_call 12; refine GC.mono ?_; clear GC; rintro e w2 ⟨rfl, hw⟩; obtain rfl := hw.symm)
                go_roundg g
                case measure => omega
                case rel => exact ⟨i2 + 1, by rw [hwi], ⟨by have := hi2.out.1; omega, by have := hi2.out; omega⟩, hW2⟩
            · have hex2 : decide (i2 < (l.length : Int)) = false ∨ (decide (i2 < (l.length : Int)) = true ∧ decide (i2 < 60) = false) := by
                by_cases hA : i2 < (l.length : Int)
                · exact .inr ⟨decide_eq_true hA, decide_eq_false (fun h => hAB ⟨hA, h⟩)⟩
                · exact .inl (decide_eq_false hA)
              clear hi0 hig hAB hi2
              rcases hex2 with eA | ⟨eA, eB⟩ <;> (
                go_wp2
                gi_wp2_with (first
                  | (refine ⟨trivial, ?_⟩; gi_at_call 13; refine (callsIn_wide.2 (OrdSi.live_any wr)).mono ?_; rintro e W4 ⟨rfl, h4⟩; have h4W := hW2.trans (h4.mono hW2.size); obtain ⟨q1, q2, q3⟩ := hS W4 h4W; have LC := hold_len (hHW.below h4W))
                  | (refine ⟨trivial, ?_⟩; gi_at_call 14; refine (callsIn_wide.2 LC).mono ?_; clear LC; rintro e W5 ⟨rfl, hw⟩; obtain rfl := hw.symm))
                have hK4 : W4.heap[D]? = some (.deferred (some [])) := (h4W.block D hDl).trans hK
                have hK' := (KeepsOthers.setCell W4 ⟨w.heap.size, 0, none⟩ (.bool true)).same D _ hK4 rfl
                refine ⟨by simp, .inl ⟨_, _, rfl, run_takeDeferred hK', ?_⟩⟩
                have hc5 := cell_kept (World.cell?_setCell_same' W4 ⟨w.heap.size, 0, none⟩ (.bool true) (by rw [q2]; rfl)) (grownBy_putObj' _ D (.deferred none)) (fun r e => by cases e; exact ⟨_, hK', rfl⟩)
                refine ⟨.bool true, by simp [results, Try.f3, go_sem, hc5], rfl, ?_⟩
                exact ((hbW.trans (h4W.mono hbW.size)).setCell (p := ⟨w.heap.size, 0, none⟩) (Nat.le_refl _) _).trans (belowK_b (w := w) (Nat.le_refl _) _ D _ _ hDA.out hK' rfl rfl)))
end Go.Proofs.Ytdbkjpnejihnhaa.OrdIs
namespace Go.Proofs.Ytdbkjpnejihnhaa.P
open Go.RowKit Go.Proofs.YtdbkjpnejihnhaaW.PrintWords
def catchmentlaw01_OrderNumbers.f (k : Nat) (l0 : List Int) : Option Bool := some true
theorem catchmentlaw01_OrderNumbers.calls (k : Nat) (A0 : Option Addr) (c0 : Nat) (l0 : List Int) (r : Bool) (w : World) (hr0 : Kd.C (Kd.int .i64) w A0 l0.length l0) (hc0 : l0.length ≤ c0) (h : catchmentlaw01_OrderNumbers.f k l0 = some r) :
    Calls Try.prog 3 #[.slice A0 l0.length c0] w fun e w' => e = .returned (.bool r) ∧ Below w.heap.size w w' := by
  cases h
  exact OrdIs.numbers_any hr0 hc0
end Go.Proofs.Ytdbkjpnejihnhaa.P
