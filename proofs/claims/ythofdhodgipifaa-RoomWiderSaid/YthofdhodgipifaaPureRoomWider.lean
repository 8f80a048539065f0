/- The plain law of RoomWider: what may be asked may be asked, too, where keys, values and chunks may be greater. -/
import Derived.Test.YthofdhodgipifaaRl
import Derived.Test.YthofdhodgipifaaP12
import Derived.Test.YthofdhodgipifaaKd
set_option linter.unusedVariables false
set_option linter.unusedSimpArgs false
namespace Go.Proofs.Ythofdhodgipifaa.Pure
open Go.RowKit Go.Proofs.Ythofdhodgipifaa.P Go.Proofs.Ythofdhodgipifaa.Own Go.Proofs.YthofdhodgipifaaW.PrintWords Go.Proofs.YthofdhodgipifaaW.PrintLast Go.Proofs.YthofdhodgipifaaW.PrintMore
theorem wf_u8 {x : Int} (h : (Lit.int .u8 x).wf = true) : 0 ≤ x ∧ x ≤ 255 := by
  simp [Lit.wf, IntKind.min, IntKind.max, IntKind.signed, IntKind.bits] at h
  omega
theorem wf_i64 {x : Int} (h : (Lit.int .i64 x).wf = true) : -9223372036854775808 ≤ x ∧ x ≤ 9223372036854775807 := by
  simp [Lit.wf, IntKind.min, IntKind.max, IntKind.signed, IntKind.bits] at h
  omega
theorem chk_wider {c0 c1 d0 d1 : Int} (h0 : c0 ≤ d0) (h1 : c1 ≤ d1) (m : M) (h : chkM c0 c1 m = 0) : chkM d0 d1 m = 0 := by
  unfold chkM chk at *
  cases hb : bad m.f0 m.f3 m.f4 m.f5
  · rw [hb] at h
    simp only [Bool.false_eq_true, if_false] at h ⊢
    by_cases k4 : m.f0 = 4
    · rw [if_pos k4] at h ⊢
      by_cases h2 : (m.f2.size : Int) > c0 ∨ (m.f3.size : Int) > c0
      · rw [if_pos h2] at h; cases h
      · rw [if_neg h2] at h
        rw [if_neg (by omega)]
        exact h
    · rw [if_neg k4] at h ⊢
      by_cases h2 : m.f0 = 1 ∧ (m.f4.size : Int) > c1
      · rw [if_pos h2] at h; cases h
      · rw [if_neg h2] at h
        rw [if_neg (by omega)]
        by_cases h3 : (m.f2.size : Int) ≥ 1 ∧ (m.f2.size : Int) ≤ c0
        · rw [if_pos (by omega)]
        · rw [if_neg h3] at h; cases h
  · rw [hb] at h; simp at h
theorem firstErr_wider {c0 c1 d0 d1 : Int} (h0 : c0 ≤ d0) (h1 : c1 ≤ d1) : ∀ l : List M, firstErr c0 c1 l = 0 → firstErr d0 d1 l = 0
  | [], _ => rfl
  | m :: l, h => by
    unfold firstErr at h ⊢
    by_cases hm : chkM c0 c1 m = 0
    · rw [if_pos hm] at h
      rw [if_pos (chk_wider h0 h1 m hm)]
      exact firstErr_wider h0 h1 l h
    · rw [if_neg hm] at h; exact absurd h hm
theorem ask_wider {c0 c1 c8 d0 d1 d8 : Int} (h0 : c0 ≤ d0) (h1 : c1 ≤ d1) (h8 : c8 ≤ d8) (k : Int) (y t : ByteArray) (n : Int) (b : List M) (h : askV k y t n b c0 c1 c8 = 0) : askV k y t n b d0 d1 d8 = 0 := by
  unfold askV at *
  by_cases hs : k < 1 ∨ k > 6 ∨ spareBad k y t n b = true
  · rw [if_pos hs] at h; cases h
  · rw [if_neg hs] at h ⊢
    by_cases k1 : k = 1
    · rw [if_pos k1] at h ⊢
      by_cases h2 : 1 ≤ (y.size : Int) ∧ (y.size : Int) ≤ c0
      · rw [if_pos (by omega)]
      · rw [if_neg h2] at h; cases h
    · rw [if_neg k1] at h ⊢
      by_cases k2 : k = 2
      · rw [if_pos k2] at h ⊢
        unfold batchV at *
        by_cases h3 : (b.length : Int) > 1024
        · rw [if_pos h3] at h; cases h
        · rw [if_neg h3] at h ⊢
          by_cases h4 : seqOk b = true
          · rw [if_pos h4] at h ⊢; exact firstErr_wider h0 h1 b h
          · rw [if_neg h4] at h; cases h
      · rw [if_neg k2] at h ⊢
        by_cases k3 : k = 3 ∨ k = 4
        · rw [if_pos k3] at h ⊢
          by_cases h3 : (y.size : Int) > c0 ∨ (t.size : Int) > c0
          · rw [if_pos h3] at h; cases h
          · rw [if_neg h3] at h
            rw [if_neg (by omega)]
            by_cases h4 : rr y t = false
            · rw [if_pos h4] at h; cases h
            · rw [if_neg h4] at h ⊢
              by_cases h5 : k = 3 ∧ ¬ (1 ≤ n ∧ n ≤ c8)
              · rw [if_pos h5] at h; cases h
              · rw [if_neg (by omega)]
        · rw [if_neg k3]
theorem RoomWider : ∀ (x0 : S23) (x1 : S27) (x2 : Int) (x3 : Int) (x4 : Int), (wf23 x0) → (wf27 x1) → ((Lit.int .u8 x2).wf = true) → ((Lit.int .u8 x3).wf = true) → ((Lit.int .u8 x4).wf = true) → ∃ k, catchmentlaw21_RoomWider.f k x0.f0 x0.f1 x0.f2 x0.f3 x0.f4 x0.f5 x0.f6 x0.f7 x0.f8 x1.f0 x1.f1 x1.f2 x1.f3 x1.f4 x2 x3 x4 = some true := by
  intro c o p q r hc ho hp hq hr
  obtain ⟨hk, _, _, _, hb⟩ := ho
  have hk := wf_u8 hk
  have hp := wf_u8 hp
  have hq := wf_u8 hq
  have hr := wf_u8 hr
  obtain ⟨hc0, hc1, _, _, _, _, _, _, hc8⟩ := hc
  have hc0 := wf_i64 hc0
  have hc1 := wf_i64 hc1
  have hc8 := wf_i64 hc8
  have hL : ∀ x ∈ o.f4, okM x := fun x hx => (hb.2 x hx).2.2.1
  have hLn : o.f4.length ≤ 140737488351232 := by have := hb.1; omega
  refine ⟨(0 + 40 + o.f4.length + o.f4.length) + 1, ?_⟩
  have l := live_eq (o.f4.length + o.f4.length)
  rw [show o.f4.length + o.f4.length + 40 = 0 + 40 + o.f4.length + o.f4.length from by omega] at l
  have jt : catchmentlaw21_RoomWider.j0 ((0 + 40 + o.f4.length + o.f4.length) + 1) p q r true c.f0 c.f1 c.f2 c.f3 c.f4 c.f5 c.f6 c.f7 c.f8 o.f0 o.f1 o.f2 o.f3 o.f4 = some true := by
    rw [catchmentlaw21_RoomWider.j0, if_pos rfl, l]; rfl
  unfold catchmentlaw21_RoomWider.f
  by_cases h1 : c.f0 > 256
  · rw [if_pos h1]; exact jt
  · rw [if_neg h1]
    by_cases h2 : c.f1 > 4096
    · rw [if_pos h2]; exact jt
    · rw [if_neg h2]
      by_cases h3 : c.f8 > 1024
      · rw [decide_eq_true h3]; exact jt
      · rw [decide_eq_false h3, catchmentlaw21_RoomWider.j0, if_neg (by simp), l]
        simp only [Option.bind_some, if_true]
        rw [Ask_eq c.f0 c.f1 c.f2 c.f3 c.f4 c.f5 c.f6 c.f7 c.f8 0 o.f0 o.f1 o.f2 o.f3 o.f4 hL hLn hk.1 hk.2]
        simp only [Option.bind_some]
        by_cases h4 : askV o.f0 o.f1 o.f2 o.f3 o.f4 c.f0 c.f1 c.f8 = 0
        · rw [if_pos h4, IntWalk.wrap64_in p (by omega), IntWalk.wrap64_in q (by omega), IntWalk.wrap64_in r (by omega), IntWalk.wrap64_in (c.f0 + p) (by omega), IntWalk.wrap64_in (c.f1 + q) (by omega), IntWalk.wrap64_in (c.f8 + r) (by omega)]
          rw [Ask_eq (c.f0 + p) (c.f1 + q) c.f2 c.f3 c.f4 c.f5 c.f6 c.f7 (c.f8 + r) 0 o.f0 o.f1 o.f2 o.f3 o.f4 hL hLn hk.1 hk.2]
          rw [ask_wider (by omega) (by omega) (by omega) o.f0 o.f1 o.f2 o.f3 o.f4 h4]
          simp
        · rw [if_neg h4]
end Go.Proofs.Ythofdhodgipifaa.Pure
