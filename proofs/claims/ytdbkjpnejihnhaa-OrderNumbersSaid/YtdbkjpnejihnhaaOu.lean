/- Knots: like trees; places; knots whose keys rise: what put, drop, find, place make of the row of keys. -/
import Derived.Test.YtdbkjpnejihnhaaOt
set_option linter.unusedVariables false
set_option linter.unusedSimpArgs false
namespace Go.Proofs.Ytdbkjpnejihnhaa.Ord
namespace Kn
variable {K V : Type}
/-- The same tree in other blocks. -/
def like : Kn K V → Kn K V → Prop
  | nil, nil => True
  | node _ k v l r, node _ k' v' l' r' => k = k' ∧ v = v' ∧ like l l' ∧ like r r'
  | _, _ => False
theorem like_num : ∀ {T T' : Kn K V}, like T T' → T'.hgt = T.hgt ∧ T'.cnt = T.cnt ∧ T'.toL = T.toL
  | nil, nil, _ => ⟨rfl, rfl, rfl⟩
  | node _ k v l r, node _ k' v' l' r', h => by
    obtain ⟨rfl, rfl, hl, hr⟩ := h
    obtain ⟨a, b, c⟩ := like_num hl
    obtain ⟨a', b', c'⟩ := like_num hr
    exact ⟨by simp only [hgt, a, a'], by simp only [cnt, b, b'], by simp only [toL, c, c']⟩
/-- How many keys are below one. -/
def place (lt : K → K → Bool) (key : K) : Kn K V → Int
  | nil => 0
  | node _ k _ l r => if lt k key = true then l.cnt + 1 + place lt key r else place lt key l
theorem place_bounds (lt : K → K → Bool) (key : K) : ∀ T : Kn K V, 0 ≤ place lt key T ∧ place lt key T ≤ T.cnt
  | nil => by simp [place, cnt]
  | node _ k _ l r => by
    have := place_bounds lt key l
    have := place_bounds lt key r
    have := bounds l
    have := bounds r
    simp only [place, cnt]
    split <;> omega
end Kn
/-- A strict total order. -/
structure Lin {K : Type} (lt : K → K → Bool) : Prop where
  irr : ∀ a, lt a a = false
  tr : ∀ {a b c}, lt a b = true → lt b c = true → lt a c = true
  tri : ∀ {a b}, lt a b = false → lt b a = false → a = b
theorem Lin.asym {K : Type} {lt : K → K → Bool} (L : Lin lt) {a b : K} (h : lt a b = true) : lt b a = false := by
  cases k : lt b a with
  | false => rfl
  | true => have := L.tr h k; rw [L.irr] at this; cases this
theorem Lin.ge_tr {K : Type} {lt : K → K → Bool} (L : Lin lt) {a b c : K} (h : lt a b = false) (k : lt c b = true) : lt a c = false := by
  cases q : lt a c with
  | false => rfl
  | true => rw [L.tr q k] at h; cases h
variable {K V : Type} {lt : K → K → Bool}
abbrev Rise (lt : K → K → Bool) (l : List (K × V)) : Prop := l.Pairwise (fun x y => lt x.1 y.1 = true)
def ins (lt : K → K → Bool) (key : K) (val : V) (l : List (K × V)) : List (K × V) := l.filter (fun x => lt x.1 key) ++ (key, val) :: l.filter (fun x => lt key x.1)
def del (lt : K → K → Bool) (key : K) (l : List (K × V)) : List (K × V) := l.filter (fun x => lt x.1 key || lt key x.1)
def lookK (lt : K → K → Bool) (key : K) (l : List (K × V)) : Option V := (l.find? (fun x => !lt x.1 key && !lt key x.1)).map (·.2)
theorem fil_all {p : K × V → Bool} {l : List (K × V)} (h : ∀ x ∈ l, p x = true) : l.filter p = l := List.filter_eq_self.2 h
theorem fil_none {p : K × V → Bool} {l : List (K × V)} (h : ∀ x ∈ l, p x = false) : l.filter p = [] := List.filter_eq_nil_iff.2 (fun x hx => by rw [h x hx]; simp)
theorem rise_node {b : Nat} {k : K} {v : V} {l r : Kn K V} (h : Rise lt (Kn.node b k v l r).toL) :
    Rise lt l.toL ∧ Rise lt r.toL ∧ (∀ x ∈ l.toL, lt x.1 k = true) ∧ (∀ x ∈ r.toL, lt k x.1 = true) := by
  simp only [Rise, Kn.toL, List.pairwise_append, List.pairwise_cons] at h
  obtain ⟨h1, ⟨h2, h3⟩, h4⟩ := h
  exact ⟨h1, h3, fun x hx => h4 x hx (k, v) (by simp), h2⟩
theorem put_toL (L : Lin lt) (nb : Nat) (key : K) (val : V) : ∀ T : Kn K V, Rise lt T.toL → (Kn.put lt nb key val T).toL = ins lt key val T.toL
  | .nil, _ => by simp [Kn.put, Kn.toL, ins]
  | .node b k v l r, h => by
    obtain ⟨hl, hr, h1, h2⟩ := rise_node h
    unfold Kn.put
    by_cases hA : lt key k = true
    · rw [if_pos hA, Kn.even_toL, put_toL L nb key val l hl]
      have e1 : r.toL.filter (fun x => lt x.1 key) = [] := fil_none fun x hx => L.asym (L.tr hA (h2 x hx))
      have e2 : r.toL.filter (fun x => lt key x.1) = r.toL := fil_all fun x hx => L.tr hA (h2 x hx)
      simp only [ins, Kn.toL, List.filter_append, List.filter_cons, e1, e2, hA, L.asym hA]
      simp
    · rw [if_neg hA]
      have hA' : lt key k = false := by simpa using hA
      by_cases hB : lt k key = true
      · rw [if_pos hB, Kn.even_toL, put_toL L nb key val r hr]
        have e1 : l.toL.filter (fun x => lt x.1 key) = l.toL := fil_all fun x hx => L.tr (h1 x hx) hB
        have e2 : l.toL.filter (fun x => lt key x.1) = [] := fil_none fun x hx => L.asym (L.tr (h1 x hx) hB)
        simp only [ins, Kn.toL, List.filter_append, List.filter_cons, e1, e2, hB, L.asym hB]
        simp
      · rw [if_neg hB]
        have hB' : lt k key = false := by simpa using hB
        obtain rfl := L.tri hA' hB'
        have e1 : l.toL.filter (fun x => lt x.1 key) = l.toL := fil_all fun x hx => h1 x hx
        have e2 : l.toL.filter (fun x => lt key x.1) = [] := fil_none fun x hx => L.asym (h1 x hx)
        have e3 : r.toL.filter (fun x => lt x.1 key) = [] := fil_none fun x hx => L.asym (h2 x hx)
        have e4 : r.toL.filter (fun x => lt key x.1) = r.toL := fil_all fun x hx => h2 x hx
        simp only [ins, Kn.toL, List.filter_append, List.filter_cons, e1, e2, e3, e4, L.irr]
        simp
theorem least_toL : ∀ (b : Nat) (k : K) (v : V) (l r : Kn K V), (Kn.node b k v l r).toL = ((Kn.least b k v l r).2.2.1, (Kn.least b k v l r).2.2.2.1) :: (Kn.least b k v l r).1.toL
  | b, k, v, .nil, r => rfl
  | b, k, v, .node lb lk lv ll lr, r => by
    simp only [Kn.least, Kn.even_toL]
    rw [Kn.toL, least_toL lb lk lv ll lr]
    rfl
theorem drop_toL (L : Lin lt) (key : K) : ∀ T : Kn K V, Rise lt T.toL → (Kn.drop lt key T).toL = del lt key T.toL
  | .nil, _ => by simp [Kn.drop, Kn.toL, del]
  | .node b k v l r, h => by
    obtain ⟨hl, hr, h1, h2⟩ := rise_node h
    unfold Kn.drop
    by_cases hA : lt key k = true
    · rw [if_pos hA, Kn.even_toL, drop_toL L key l hl]
      have e2 : r.toL.filter (fun x => lt x.1 key || lt key x.1) = r.toL := fil_all fun x hx => by rw [L.tr hA (h2 x hx)]; simp
      simp only [del, Kn.toL, List.filter_append, List.filter_cons, e2, hA]
      simp
    · rw [if_neg hA]
      have hA' : lt key k = false := by simpa using hA
      by_cases hB : lt k key = true
      · rw [if_pos hB, Kn.even_toL, drop_toL L key r hr]
        have e1 : l.toL.filter (fun x => lt x.1 key || lt key x.1) = l.toL := fil_all fun x hx => by rw [L.tr (h1 x hx) hB]; simp
        simp only [del, Kn.toL, List.filter_append, List.filter_cons, e1, hB]
        simp
      · rw [if_neg hB]
        have hB' : lt k key = false := by simpa using hB
        obtain rfl := L.tri hA' hB'
        have e1 : l.toL.filter (fun x => lt x.1 key || lt key x.1) = l.toL := fil_all fun x hx => by rw [h1 x hx]; simp
        have e2 : r.toL.filter (fun x => lt x.1 key || lt key x.1) = r.toL := fil_all fun x hx => by rw [h2 x hx]; simp
        cases r with
        | nil =>
          simp only [del, Kn.toL, List.filter_append, List.filter_cons, e1, L.irr]
          simp
        | node rb rk rv rl rr =>
          simp only [Kn.even_toL, ← least_toL]
          rw [show (Kn.node b key v l (Kn.node rb rk rv rl rr)).toL = l.toL ++ (key, v) :: (Kn.node rb rk rv rl rr).toL from rfl]
          simp only [del, List.filter_append, List.filter_cons, e1, e2, L.irr]
          simp
theorem find_look (L : Lin lt) (key : K) : ∀ T : Kn K V, Rise lt T.toL → (match Kn.find lt key T with | .nil => none | .node _ _ v _ _ => some v) = lookK lt key T.toL
  | .nil, _ => rfl
  | .node b k v l r, h => by
    obtain ⟨hl, hr, h1, h2⟩ := rise_node h
    unfold Kn.find
    by_cases hA : lt key k = true
    · rw [if_pos hA, find_look L key l hl]
      have e2 : r.toL.find? (fun x => !lt x.1 key && !lt key x.1) = none := by
        rw [List.find?_eq_none]; intro x hx; rw [L.tr hA (h2 x hx)]; simp
      simp only [lookK, Kn.toL, List.find?_append, List.find?_cons, hA, e2]
      simp
    · rw [if_neg hA]
      have hA' : lt key k = false := by simpa using hA
      by_cases hB : lt k key = true
      · rw [if_pos hB, find_look L key r hr]
        have e1 : l.toL.find? (fun x => !lt x.1 key && !lt key x.1) = none := by
          rw [List.find?_eq_none]; intro x hx; rw [L.tr (h1 x hx) hB]; simp
        simp only [lookK, Kn.toL, List.find?_append, List.find?_cons, hB, e1]
        simp
      · rw [if_neg hB]
        have hB' : lt k key = false := by simpa using hB
        obtain rfl := L.tri hA' hB'
        have e1 : l.toL.find? (fun x => !lt x.1 key && !lt key x.1) = none := by
          rw [List.find?_eq_none]; intro x hx; rw [h1 x hx]; simp
        simp only [lookK, Kn.toL, List.find?_append, List.find?_cons, e1, L.irr]
        simp
theorem place_len (L : Lin lt) (key : K) : ∀ T : Kn K V, Rise lt T.toL → Kn.place lt key T = (T.toL.filter (fun x => lt x.1 key)).length
  | .nil, _ => rfl
  | .node b k v l r, h => by
    obtain ⟨hl, hr, h1, h2⟩ := rise_node h
    unfold Kn.place
    by_cases hB : lt k key = true
    · rw [if_pos hB, place_len L key r hr, Kn.cnt_len]
      have e1 : l.toL.filter (fun x => lt x.1 key) = l.toL := fil_all fun x hx => L.tr (h1 x hx) hB
      simp only [Kn.toL, List.filter_append, List.filter_cons, e1, hB, if_true, List.length_append, List.length_cons]
      omega
    · rw [if_neg hB, place_len L key l hl]
      have hB' : lt k key = false := by simpa using hB
      have e1 : r.toL.filter (fun x => lt x.1 key) = [] := fil_none fun x hx => by
        cases q : lt x.1 key with
        | false => rfl
        | true => rw [L.tr (h2 x hx) q] at hB'; cases hB'
      simp only [Kn.toL, List.filter_append, List.filter_cons, e1, hB']
      simp
theorem ins_rise (L : Lin lt) (key : K) (val : V) {l : List (K × V)} (h : Rise lt l) : Rise lt (ins lt key val l) := by
  simp only [Rise, ins, List.pairwise_append, List.pairwise_cons, List.mem_filter, List.mem_cons]
  refine ⟨h.filter _, ⟨fun x hx => hx.2, h.filter _⟩, ?_⟩
  rintro x ⟨_, hx⟩ y (rfl | ⟨_, hy⟩)
  · exact hx
  · exact L.tr hx hy
theorem del_rise (key : K) {l : List (K × V)} (h : Rise lt l) : Rise lt (del lt key l) := h.filter _
end Go.Proofs.Ytdbkjpnejihnhaa.Ord
