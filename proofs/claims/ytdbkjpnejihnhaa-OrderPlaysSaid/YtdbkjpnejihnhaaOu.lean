/- Knots: like trees; places; what the rows of keys become. -/
import Derived.Test.YtdbkjpnejihnhaaOt
set_option linter.unusedVariables false
set_option linter.unusedSimpArgs false
namespace Go.Proofs.Ytdbkjpnejihnhaa.Ord
namespace Kn
variable {K V : Type}
/-- The same tree in other blocks. -/
def like : Kn K V → Kn K V → Prop
  | nil, nil => True
  | node _ k v l r, node _ k' v' l' r' => k = k' ∧ v = v' ∧ like l l' ∧ like r r'
  | _, _ => False
theorem like_num : ∀ {T T' : Kn K V}, like T T' → T'.hgt = T.hgt ∧ T'.cnt = T.cnt ∧ T'.toL = T.toL
  | nil, nil, _ => ⟨rfl, rfl, rfl⟩
  | node _ k v l r, node _ k' v' l' r', h => by
    obtain ⟨rfl, rfl, hl, hr⟩ := h
    obtain ⟨a, b, c⟩ := like_num hl
    obtain ⟨a', b', c'⟩ := like_num hr
    exact ⟨by simp only [hgt, a, a'], by simp only [cnt, b, b'], by simp only [toL, c, c']⟩
/-- How many keys are below one. -/
def place (lt : K → K → Bool) (key : K) : Kn K V → Int
  | nil => 0
  | node _ k _ l r => if lt k key = true then l.cnt + 1 + place lt key r else place lt key l
theorem place_bounds (lt : K → K → Bool) (key : K) : ∀ T : Kn K V, 0 ≤ place lt key T ∧ place lt key T ≤ T.cnt
  | nil => by simp [place, cnt]
  | node _ k _ l r => by
    have := place_bounds lt key l
    have := place_bounds lt key r
    have := bounds l
    have := bounds r
    simp only [place, cnt]
    split <;> omega
end Kn
end Go.Proofs.Ytdbkjpnejihnhaa.Ord
