/- The reference's rows of pairs (strings to numbers), plainly; the row behind Cut; slices of pairs; how long rows become. -/
import Derived.Test.YtdbkjpnejihnhaaQb
import Derived.Deep.RegionHeld3
import Derived.Test.YtdbkjpnejihnhaaBo
import Derived.Lib.Strings
set_option linter.unusedVariables false
set_option linter.unusedSimpArgs false
namespace Go.Proofs.Ytdbkjpnejihnhaa.OrdSi
open Go.RowKit Go.Shelf Go.Proofs.YtdbkjpnejihnhaaW.PrintWords Go.Proofs.YtdbkjpnejihnhaaW.PrintLast Go.Proofs.YtdbkjpnejihnhaaW.PrintMore Go.Proofs.Ytdbkjpnejihnhaa.Own Go.Proofs.Ytdbkjpnejihnhaa.Ord
abbrev Pr := P.S43
theorem ba_ext {a b : ByteArray} (h : a.toList = b.toList) : a = b := by
  cases a; cases b
  rw [Lib.toList_data, Lib.toList_data] at h
  congr 1
  exact Array.toList_inj.1 h
theorem lin : Lin (K := ByteArray) lt := ⟨fun a => Bo.irrefl _, fun h k => Bo.trans h k, fun h k => ba_ext (Bo.tri h k)⟩
theorem eq_iff (a b : ByteArray) : a.toList = b.toList ↔ (lt a b = false ∧ lt b a = false) :=
  ⟨fun h => by unfold lt; rw [h]; exact ⟨Bo.irrefl _, Bo.irrefl _⟩, fun h => Bo.tri h.1 h.2⟩
theorem walkA_toL : ∀ T : Kn ByteArray Int, walkA T = T.toL
  | .nil => rfl
  | .node _ _ _ l r => by rw [walkA, Kn.toL, walkA_toL l, walkA_toL r]
theorem walkB_toL (s : ByteArray) : ∀ T : Kn ByteArray Int, Rise lt T.toL → walkB s T = T.toL.filter (fun x => !lt x.1 s)
  | .nil, _ => rfl
  | .node b k v l r, h => by
    obtain ⟨hl, hr, h1, h2⟩ := rise_node h
    unfold walkB
    by_cases hA : lt k s = true
    · rw [if_pos hA, walkB_toL s r hr]
      have e1 : l.toL.filter (fun x => !lt x.1 s) = [] := fil_none fun x hx => by rw [lin.tr (h1 x hx) hA]; rfl
      simp only [Kn.toL, List.filter_append, List.filter_cons, e1, hA]
      simp
    · rw [if_neg hA, walkB_toL s l hl, walkA_toL]
      have hA' : lt k s = false := by simpa using hA
      have e2 : r.toL.filter (fun x => !lt x.1 s) = r.toL := fil_all fun x hx => by
        cases q : lt x.1 s with
        | false => rfl
        | true => rw [lin.tr (h2 x hx) q] at hA'; cases hA'
      simp only [Kn.toL, List.filter_append, List.filter_cons, e2, hA']
      simp
theorem walkB_len (s : ByteArray) (T : Kn ByteArray Int) (h : Rise lt T.toL) : ((walkB s T).length : Int) ≤ T.cnt := by
  rw [walkB_toL s T h, Kn.cnt_len]
  have := List.length_filter_le (fun x : ByteArray × Int => !lt x.1 s) T.toL
  omega
theorem takeWhile_rise (b : ByteArray) : ∀ l : List (ByteArray × Int), Rise lt l → l.takeWhile (fun x => lt x.1 b) = l.filter (fun x => lt x.1 b)
  | [], _ => rfl
  | x :: l, h => by
    rw [Rise, List.pairwise_cons] at h
    rw [List.takeWhile_cons, List.filter_cons]
    cases hx : lt x.1 b with
    | true => simp only [if_true]; rw [takeWhile_rise b l h.2]
    | false =>
      simp only [Bool.false_eq_true, if_false]
      rw [fil_none]
      intro y hy
      cases q : lt y.1 b with
      | false => rfl
      | true => rw [lin.tr (h.1 y hy) q] at hx; cases hx
theorem cutL_eq (s b : ByteArray) (T : Kn ByteArray Int) (h : Rise lt T.toL) : cutL s b T = (T.toL.filter (fun x => !lt x.1 s && lt x.1 b)).map (·.1) := by
  unfold cutL
  rw [walkB_toL s T h, takeWhile_rise b _ (h.filter _), List.filter_filter]
  congr 1
  apply List.filter_congr
  intro x _
  rw [Bool.and_comm]
theorem dropAll_toL : ∀ (l : List ByteArray) (T : Kn ByteArray Int), Rise lt T.toL → (dropAll l T).toL = T.toL.filter (fun x => l.all (fun k => lt x.1 k || lt k x.1)) ∧ Rise lt (dropAll l T).toL
  | [], T, h => ⟨(fil_all (fun _ _ => rfl)).symm, h⟩
  | k :: l, T, h => by
    have e := drop_toL lin k T h
    have h2 : Rise lt (Kn.drop lt k T).toL := by rw [e]; exact del_rise k h
    obtain ⟨i1, i2⟩ := dropAll_toL l (Kn.drop lt k T) h2
    refine ⟨?_, i2⟩
    show (dropAll l (Kn.drop lt k T)).toL = _
    rw [i1, e, del, List.filter_filter]
    apply List.filter_congr
    intro x _
    rw [List.all_cons, Bool.and_comm]
def cutM (s b : ByteArray) (l : List (ByteArray × Int)) : List (ByteArray × Int) := l.filter (fun x => lt x.1 s || !lt x.1 b)
theorem cut_toL (s b : ByteArray) (T : Kn ByteArray Int) (h : Rise lt T.toL) : (dropAll (cutL s b T) T).toL = cutM s b T.toL ∧ Rise lt (cutM s b T.toL) := by
  obtain ⟨e, r⟩ := dropAll_toL (cutL s b T) T h
  have e2 : (dropAll (cutL s b T) T).toL = cutM s b T.toL := by
    rw [e, cutM]
    apply List.filter_congr
    intro x hx
    rw [cutL_eq s b T h]
    cases hA : lt x.1 s with
    | true =>
      simp only [Bool.true_or, List.all_eq_true, List.mem_map, List.mem_filter, Bool.and_eq_true, Bool.not_eq_true']
      rintro k ⟨y, ⟨_, h1, _⟩, rfl⟩
      have : lt x.1 y.1 = true := by
        cases q : lt x.1 y.1 with
        | true => rfl
        | false =>
          cases q2 : lt y.1 x.1 with
          | true => rw [lin.tr q2 hA] at h1; cases h1
          | false => rw [lin.tri q q2] at hA; rw [hA] at h1; cases h1
      rw [this]; rfl
    | false =>
      cases hB : lt x.1 b with
      | true =>
        simp only [Bool.false_or, Bool.not_true]
        rw [List.all_eq_false]
        exact ⟨x.1, List.mem_map.2 ⟨x, List.mem_filter.2 ⟨hx, by rw [hA, hB]; rfl⟩, rfl⟩, by rw [lin.irr]; decide⟩
      | false =>
        simp only [Bool.false_or, Bool.not_false, List.all_eq_true, List.mem_map, List.mem_filter, Bool.and_eq_true, Bool.not_eq_true']
        rintro k ⟨y, ⟨_, _, h1⟩, rfl⟩
        have : lt y.1 x.1 = true := by
          cases q : lt y.1 x.1 with
          | true => rfl
          | false =>
            cases q2 : lt x.1 y.1 with
            | true => rw [lin.tr q2 h1] at hB; cases hB
            | false => rw [lin.tri q q2] at h1; rw [h1] at hB; cases hB
        rw [this, Bool.or_true]
  exact ⟨e2, e2 ▸ r⟩
theorem cut_len (s b : ByteArray) (T : Kn ByteArray Int) (h : Rise lt T.toL) : (cutL s b T).length + (cutM s b T.toL).length = T.toL.length := by
  rw [cutL_eq s b T h, List.length_map, cutM, Nat.add_comm]
  have := List.length_eq_countP_add_countP (fun x : ByteArray × Int => lt x.1 s || !lt x.1 b) (l := T.toL)
  rw [List.countP_eq_length_filter, List.countP_eq_length_filter] at this
  rw [this]
  congr 1
  congr 1
  apply List.filter_congr
  intro x _
  cases lt x.1 s <;> cases lt x.1 b <;> simp
theorem got_look (key : ByteArray) (T : Kn ByteArray Int) (h : Rise lt T.toL) : got key T = match lookK lt key T.toL with | some v => (v, true) | none => (0, false) := by
  rw [← find_look lin key T h]
  unfold got
  cases Kn.find lt key T <;> rfl
/-! ### the reference -/
theorem rd_at (X : List Pr) (i : Nat) (h : i < X.length) : P.rd_T43 X (i : Int) = X[i] := by
  unfold P.rd_T43
  simp [h]
theorem wr_succ {i n : Nat} (h : i < n) (hn : n < 4294967296) : wrap64 ((i : Int) + 1) = ((i + 1 : Nat) : Int) := by
  rw [IntWalk.wrap64_in _ (by omega)]; omega
theorem Same_l0 (X : List Pr) (hX : X.length < 4294967296) : ∀ (k i : Nat), i ≤ X.length → X.length < k + i → P.catchmentref01_Same.l0 k X X i = some true
  | 0, i, h1, h2 => by omega
  | k + 1, i, h1, h2 => by
    unfold P.catchmentref01_Same.l0
    by_cases h : i < X.length
    · rw [if_pos (by omega), if_pos (by omega), if_pos (by omega), rd_at X i h, wr_succ h hX, Same_l0 X hX k (i + 1) h (by omega)]
      simp
    · rw [if_neg (by omega)]
theorem Same_refl (X : List Pr) (k : Nat) (hX : X.length < 4294967296) (hk : X.length < k) : P.catchmentref01_Same.f k X X = some true := by
  unfold P.catchmentref01_Same.f
  rw [if_pos rfl]
  exact Same_l0 X hX k 0 (Nat.zero_le _) (by omega)
theorem Get_l0 (X : List Pr) (a : ByteArray) (hX : X.length < 4294967296) : ∀ (k i : Nat), i ≤ X.length → X.length < k + i →
    P.catchmentref01_Get.l0 k X a i = some (match (X.drop i).find? (fun x => !lt x.f0 a && !lt a x.f0) with | some x => (x.f1, true) | none => (0, false))
  | 0, i, h1, h2 => by omega
  | k + 1, i, h1, h2 => by
    unfold P.catchmentref01_Get.l0
    by_cases h : i < X.length
    · rw [if_pos (by omega), if_pos (by omega), rd_at X i h, wr_succ h hX, Get_l0 X a hX k (i + 1) h (by omega), List.drop_eq_getElem_cons h, List.find?_cons]
      generalize X[i] = x
      by_cases hx : x.f0.toList = a.toList
      · rw [if_pos hx]
        obtain ⟨q1, q2⟩ := (eq_iff _ _).1 hx
        rw [q1, q2]; rfl
      · rw [if_neg hx]
        have : (!lt x.f0 a && !lt a x.f0) = false := by
          cases q1 : lt x.f0 a <;> cases q2 : lt a x.f0 <;> simp
          exact hx ((eq_iff _ _).2 ⟨q1, q2⟩)
        rw [this]
    · rw [if_neg (by omega), List.drop_eq_nil_of_le (by omega)]; rfl
theorem Get_eq (xs : List (ByteArray × Int)) (a : ByteArray) (k : Nat) (hX : xs.length < 4294967296) (hk : xs.length < k) :
    P.catchmentref01_Get.f k (xs.map toS) a = some (match lookK lt a xs with | some v => (v, true) | none => (0, false)) := by
  unfold P.catchmentref01_Get.f
  have := Get_l0 (xs.map toS) a (by simpa using hX) k 0 (Nat.zero_le _) (by simpa using hk)
  rw [show ((0 : Nat) : Int) = 0 from rfl] at this
  rw [this, List.drop_zero, List.find?_map, lookK]
  congr 1
  show (match Option.map toS (List.find? (fun x : ByteArray × Int => !lt x.1 a && !lt a x.1) xs) with | some x => (x.f1, true) | none => (0, false)) = _
  cases List.find? (fun x : ByteArray × Int => !lt x.1 a && !lt a x.1) xs <;> rfl
theorem Drop_l0 (X : List Pr) (a : ByteArray) (hX : X.length < 4294967296) : ∀ (k i : Nat) (out : List Pr), i ≤ X.length → X.length < k + i → out.length ≤ i →
    P.catchmentref01_Drop.l0 k X a out i = some (out ++ (X.drop i).filter (fun x => lt x.f0 a || lt a x.f0))
  | 0, i, out, h1, h2, _ => by omega
  | k + 1, i, out, h1, h2, h3 => by
    unfold P.catchmentref01_Drop.l0
    by_cases h : i < X.length
    · rw [if_pos (by omega), if_pos (by omega), rd_at X i h, wr_succ h hX, List.drop_eq_getElem_cons h, List.filter_cons]
      rw [Drop_l0 X a hX k (i + 1) out h (by omega) (by omega), Drop_l0 X a hX k (i + 1) (out ++ [(⟨(X[i]'h).f0, (X[i]'h).f1⟩ : Pr)]) h (by omega) (by simp; omega)]
      generalize X[i] = x
      by_cases hx : x.f0.toList = a.toList
      · rw [if_pos hx]
        obtain ⟨q1, q2⟩ := (eq_iff _ _).1 hx
        rw [q1, q2]; simp
      · rw [if_neg hx, if_pos (by omega)]
        have : (lt x.f0 a || lt a x.f0) = true := by
          cases q1 : lt x.f0 a <;> cases q2 : lt a x.f0 <;> simp
          exact hx ((eq_iff _ _).2 ⟨q1, q2⟩)
        rw [this]; simp
    · rw [if_neg (by omega), List.drop_eq_nil_of_le (by omega)]; simp
theorem Drop_eq (xs : List (ByteArray × Int)) (a : ByteArray) (k : Nat) (hX : xs.length < 4294967296) (hk : xs.length < k) :
    P.catchmentref01_Drop.f k (xs.map toS) a = some ((del lt a xs).map toS) := by
  unfold P.catchmentref01_Drop.f
  have := Drop_l0 (xs.map toS) a (by simpa using hX) k 0 [] (Nat.zero_le _) (by simpa using hk) (Nat.le_refl _)
  rw [show ((0 : Nat) : Int) = 0 from rfl] at this
  rw [this, List.drop_zero, List.nil_append, List.filter_map, del]
  rfl
theorem Place_l0 (X : List Pr) (a : ByteArray) (hX : X.length < 4294967296) : ∀ (k i n : Nat), i ≤ X.length → X.length < k + i → n ≤ i →
    P.catchmentref01_Place.l0 k X a n i = some (((n + ((X.drop i).filter (fun x => lt x.f0 a)).length : Nat) : Int))
  | 0, i, n, h1, h2, _ => by omega
  | k + 1, i, n, h1, h2, h3 => by
    unfold P.catchmentref01_Place.l0
    by_cases h : i < X.length
    · rw [if_pos (by omega), if_pos (by omega), rd_at X i h, wr_succ h hX, wr_succ (show n < X.length by omega) hX, List.drop_eq_getElem_cons h, List.filter_cons]
      rw [Place_l0 X a hX k (i + 1) n h (by omega) (by omega), Place_l0 X a hX k (i + 1) (n + 1) h (by omega) (by omega)]
      generalize X[i] = x
      cases q : lt x.f0 a with
      | true => rw [if_pos q]; simp; omega
      | false => rw [if_neg (by rw [show Op.bytesLess x.f0.toList a.toList = false from q]; decide)]; simp
    · rw [if_neg (by omega), List.drop_eq_nil_of_le (by omega)]; simp
theorem Place_eq (xs : List (ByteArray × Int)) (a : ByteArray) (k : Nat) (hX : xs.length < 4294967296) (hk : xs.length < k) :
    P.catchmentref01_Place.f k (xs.map toS) a = some (((xs.filter (fun x => lt x.1 a)).length : Nat) : Int) := by
  unfold P.catchmentref01_Place.f
  have := Place_l0 (xs.map toS) a (by simpa using hX) k 0 0 (Nat.zero_le _) (by simpa using hk) (Nat.le_refl _)
  rw [show ((0 : Nat) : Int) = 0 from rfl] at this
  rw [this, List.drop_zero, Nat.zero_add, List.filter_map, List.length_map]
  rfl
theorem del_split (a : ByteArray) : ∀ l : List (ByteArray × Int), Rise lt l → del lt a l = l.filter (fun x => lt x.1 a) ++ l.filter (fun x => lt a x.1)
  | [], _ => rfl
  | x :: l, h => by
    rw [Rise, List.pairwise_cons] at h
    have ih := del_split a l h.2
    simp only [del] at ih ⊢
    rw [List.filter_cons, List.filter_cons, List.filter_cons, ih]
    cases q1 : lt x.1 a with
    | true => rw [lin.asym q1]; simp
    | false =>
      cases q2 : lt a x.1 with
      | true =>
        rw [fil_none (p := fun x => lt x.1 a) (fun y hy => lin.asym (lin.tr q2 (h.1 y hy)))]
        simp
      | false => simp
theorem Put_eq (xs : List (ByteArray × Int)) (a : ByteArray) (v : Int) (k : Nat) (h : Rise lt xs) (hX : xs.length < 4294967295) (hk : xs.length < k) :
    P.catchmentref01_Put.f k (xs.map toS) a v = some ((ins lt a v xs).map toS) := by
  have hd : (del lt a xs).length ≤ xs.length := List.length_filter_le _ _
  have hs := del_split a xs h
  have e1 : (del lt a xs).filter (fun x => lt x.1 a) = xs.filter (fun x => lt x.1 a) := by
    rw [del, List.filter_filter]
    apply List.filter_congr
    intro x _
    cases lt x.1 a <;> simp
  unfold P.catchmentref01_Put.f
  rw [Drop_eq xs a k (by omega) hk]
  simp only [Option.bind_some]
  rw [Place_eq _ a k (by omega) (by omega), e1]
  simp only [Option.bind_some]
  have hl := congrArg List.length hs
  rw [List.length_append] at hl
  rw [if_pos (by omega), if_pos (by rw [List.length_map]; omega), if_pos (by simp; omega), if_pos (by simp; omega), if_pos (by simp; omega)]
  rw [Int.toNat_natCast, ← List.map_take, ← List.map_drop, hs, List.take_left', List.drop_left']
  · simp [ins, toS]
  all_goals rfl
theorem Cut_l0 (X : List Pr) (a b : ByteArray) (hX : X.length < 4294967296) : ∀ (k i : Nat) (out : List Pr), i ≤ X.length → X.length < k + i → out.length ≤ i →
    P.catchmentref01_Cut.l0 k X a b out i = some (out ++ (X.drop i).filter (fun x => lt x.f0 a || !lt x.f0 b))
  | 0, i, out, h1, h2, _ => by omega
  | k + 1, i, out, h1, h2, h3 => by
    unfold P.catchmentref01_Cut.l0
    by_cases h : i < X.length
    · rw [if_pos (by omega), if_pos (by omega), rd_at X i h, wr_succ h hX, List.drop_eq_getElem_cons h, List.filter_cons]
      rw [Cut_l0 X a b hX k (i + 1) out h (by omega) (by omega), Cut_l0 X a b hX k (i + 1) (out ++ [(⟨(X[i]'h).f0, (X[i]'h).f1⟩ : Pr)]) h (by omega) (by simp; omega)]
      rw [if_pos (show out.length < 5864062014805 by omega)]
      generalize X[i] = x
      cases q1 : lt x.f0 a with
      | true => rw [if_pos q1]; simp
      | false =>
        rw [if_neg (by rw [show Op.bytesLess x.f0.toList a.toList = false from q1]; decide)]
        cases q2 : lt x.f0 b with
        | true => rw [if_pos q2]; simp
        | false => rw [if_neg (by rw [show Op.bytesLess x.f0.toList b.toList = false from q2]; decide)]; simp
    · rw [if_neg (by omega), List.drop_eq_nil_of_le (by omega)]; simp
theorem Cut_eq (xs : List (ByteArray × Int)) (a b : ByteArray) (k : Nat) (hX : xs.length < 4294967296) (hk : xs.length < k) :
    P.catchmentref01_Cut.f k (xs.map toS) a b = some ((cutM a b xs).map toS) := by
  unfold P.catchmentref01_Cut.f
  have := Cut_l0 (xs.map toS) a b (by simpa using hX) k 0 [] (Nat.zero_le _) (by simpa using hk) (Nat.le_refl _)
  rw [show ((0 : Nat) : Int) = 0 from rfl] at this
  rw [this, List.drop_zero, List.nil_append, List.filter_map, cutM]
  rfl
theorem From_l0 (X : List Pr) (a : ByteArray) (hX : X.length < 4294967296) : ∀ (k i : Nat) (out : List Pr), i ≤ X.length → X.length < k + i → out.length ≤ i →
    P.catchmentref01_From.l0 k X a out i = some (out ++ (X.drop i).filter (fun x => !lt x.f0 a))
  | 0, i, out, h1, h2, _ => by omega
  | k + 1, i, out, h1, h2, h3 => by
    unfold P.catchmentref01_From.l0
    by_cases h : i < X.length
    · rw [if_pos (by omega), if_pos (by omega), rd_at X i h, wr_succ h hX, List.drop_eq_getElem_cons h, List.filter_cons]
      rw [From_l0 X a hX k (i + 1) out h (by omega) (by omega), From_l0 X a hX k (i + 1) (out ++ [(⟨(X[i]'h).f0, (X[i]'h).f1⟩ : Pr)]) h (by omega) (by simp; omega)]
      rw [if_pos (show out.length < 5864062014805 by omega)]
      generalize X[i] = x
      cases q1 : lt x.f0 a with
      | true => rw [if_pos q1]; simp
      | false => rw [if_neg (by rw [show Op.bytesLess x.f0.toList a.toList = false from q1]; decide)]; simp
    · rw [if_neg (by omega), List.drop_eq_nil_of_le (by omega)]; simp
theorem From_eq (xs : List (ByteArray × Int)) (a : ByteArray) (k : Nat) (hX : xs.length < 4294967296) (hk : xs.length < k) :
    P.catchmentref01_From.f k (xs.map toS) a = some ((xs.filter (fun x => !lt x.1 a)).map toS) := by
  unfold P.catchmentref01_From.f
  have := From_l0 (xs.map toS) a (by simpa using hX) k 0 [] (Nat.zero_le _) (by simpa using hk) (Nat.le_refl _)
  rw [show ((0 : Nat) : Int) = 0 from rfl] at this
  rw [this, List.drop_zero, List.nil_append, List.filter_map]
  rfl
set_option maxHeartbeats 2000000
set_option maxRecDepth 100000
/-- A slice of the document's pairs. -/
def Row (w : World) (v : Value) (xs : List (ByteArray × Int)) : Prop := ∃ base, P.k43.R 43 w base (fun _ => True) v (xs.map toS)
theorem Row.fr {w w' : World} {v : Value} {xs : List (ByteArray × Int)} {B : List Nat} (h : Row w v xs) (f : Fr B w w')
    (hB : ∀ b ∈ B, b < w.heap.size → ∃ cells t, w.heap[b]? = some (.cells cells t (0, 0)) ∧ t ≠ 43) : Row w' v xs := by
  obtain ⟨base, h⟩ := h
  refine ⟨base, Kd.R_mono (Kd.R_step (Kd.R_bound h) (fun k hk hlt => f.block k hlt (fun hm => ?_))) (fun _ _ => trivial)⟩
  obtain ⟨cells, t, h1, h2⟩ := hB k hm hlt
  obtain ⟨_, _, _, q, hq, cells', h3⟩ := hk
  rw [h1] at h3
  injection h3 with h3
  injection h3 with _ h3
  subst h3
  exact h2 (by simpa [P.k43, Kd.iso, Kd.pair, Kd.string, Kd.int, Kd.scalar] using hq)
theorem Row.below {w w' : World} {v : Value} {xs : List (ByteArray × Int)} (h : Row w v xs) (f : Below w.heap.size w w') : Row w' v xs := h.fr (B := []) (Fr.of_below f) (by simp)
theorem Row.nil (w : World) : Row w (.slice none 0 0) [] := ⟨0, Kd.R_nil _ _ _ _ _⟩
theorem Mp.typed {w : World} {m : Nat} {T : Kn ByteArray Int} (h : Mp w m T) : ∀ b ∈ m :: T.bs, b < w.heap.size → ∃ cells t, w.heap[b]? = some (.cells cells t (0, 0)) ∧ t ≠ 43 := by
  intro b hb _
  rcases List.mem_cons.1 hb with rfl | hb
  · exact ⟨_, _, h.blk, by decide⟩
  · obtain ⟨cells, hc⟩ := in_typed h.inn b hb
    exact ⟨_, _, hc, by decide⟩
theorem Mp.lt {w : World} {m : Nat} {T : Kn ByteArray Int} (h : Mp w m T) : ∀ b ∈ m :: T.bs, b < w.heap.size := by
  intro b hb
  rcases List.mem_cons.1 hb with rfl | hb
  · exact blk_lt h.blk
  · exact in_lt h.inn b hb
def stepM (o : Int) (key tt : ByteArray) (n : Int) (l : List (ByteArray × Int)) : List (ByteArray × Int) :=
  if o = 0 then ins lt key n l else if o = 1 then del lt key l else if o = 2 then cutM key tt l else l
theorem del_cons (key : ByteArray) (x : ByteArray × Int) (l : List (ByteArray × Int)) : del lt key (x :: l) = if (lt x.1 key || lt key x.1) = true then x :: del lt key l else del lt key l := by
  unfold del; rw [List.filter_cons]
theorem lookK_cons (key : ByteArray) (x : ByteArray × Int) (l : List (ByteArray × Int)) : lookK lt key (x :: l) = if (!lt x.1 key && !lt key x.1) = true then some x.2 else lookK lt key l := by
  unfold lookK; rw [List.find?_cons]
  cases (!lt x.1 key && !lt key x.1) <;> rfl
/-- How long the rows become. -/
theorem ins_len (key : ByteArray) (n : Int) (l : List (ByteArray × Int)) (h : Rise lt l) : (ins lt key n l).length = l.length + (if (lookK lt key l).isSome then 0 else 1) ∧ (del lt key l).length + (if (lookK lt key l).isSome then 1 else 0) = l.length := by
  have key2 : (ins lt key n l).length = (del lt key l).length + 1 := by
    rw [del_split key l h, ins]; simp; omega
  have key3 : (del lt key l).length + (if (lookK lt key l).isSome then 1 else 0) = l.length := by
    clear key2
    induction l with
    | nil => rfl
    | cons x l ih =>
      rw [Rise, List.pairwise_cons] at h
      have ih := ih h.2
      rw [del_cons, lookK_cons, List.length_cons]
      rcases Bool.eq_false_or_eq_true (lt x.1 key) with q1 | q1
      · simp only [q1, Bool.true_or, if_true, Bool.not_true, Bool.false_and, Bool.false_eq_true, if_false, List.length_cons]; omega
      · rcases Bool.eq_false_or_eq_true (lt key x.1) with q2 | q2
        · simp only [q1, q2, Bool.false_or, if_true, Bool.not_true, Bool.and_false, Bool.false_eq_true, if_false, List.length_cons]; omega
        · have : del lt key l = l := fil_all fun y hy => by
            have e := lin.tri q1 q2
            have := h.1 y hy
            rw [e] at this; rw [this]; simp
          simp [q1, q2, this]
  refine ⟨?_, key3⟩
  split at key3 <;> simp_all <;> omega
end Go.Proofs.Ytdbkjpnejihnhaa.OrdSi
