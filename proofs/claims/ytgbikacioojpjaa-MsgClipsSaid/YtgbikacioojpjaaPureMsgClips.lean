/- The plain law of MsgClips: the parts of a message do, together, what the message does, and each key is touched by one of them at most. -/
import Derived.Test.YtgbikacioojpjaaMv
import Derived.Test.YtgbikacioojpjaaMc
import Derived.Test.YtgbikacioojpjaaP14
import Derived.Test.YtgbikacioojpjaaKd
set_option linter.unusedVariables false
set_option linter.unusedSimpArgs false
namespace Go.Proofs.Ytgbikacioojpjaa.Pure
open Go.RowKit Go.Proofs.Ytgbikacioojpjaa.P Go.Proofs.Ytgbikacioojpjaa.Own Go.Proofs.YtgbikacioojpjaaW.PrintWords Go.Proofs.YtgbikacioojpjaaW.PrintLast Go.Proofs.YtgbikacioojpjaaW.PrintMore

def tch (m : M) (s : ByteArray) : Bool := touches m.f0 m.f2 m.f3 s
def doM (m : M) (s : ByteArray) (p : ByteArray × Bool) : ByteArray × Bool := onV m.f0 m.f2 m.f3 m.f4 m.f5 s p.1 p.2
def runOn (s : ByteArray) : List M → ByteArray × Bool → ByteArray × Bool
  | [], p => p
  | m :: l, p => runOn s l (doM m s p)
def cnt (s : ByteArray) : List M → Int
  | [] => 0
  | m :: l => (if tch m s = true then 1 else 0) + cnt s l
def verdict (s : ByteArray) (m : M) (v : ByteArray) (is : Bool) (n : Int) (p : ByteArray × Bool) : Bool :=
  decide (n ≤ 1) && ((n == 1) == tch m s) && decide (p.1.toList = (doM m s (v, is)).1.toList) && (p.2 == (doM m s (v, is)).2)
theorem cnt_range (s : ByteArray) : ∀ l : List M, 0 ≤ cnt s l ∧ cnt s l ≤ l.length
  | [] => by simp [cnt]
  | m :: l => by
    have := cnt_range s l
    simp only [cnt, List.length_cons]
    split <;> omega

theorem clips_loop (s v : ByteArray) (is : Bool) (m : M) (hm : m.f2.size ≤ 140737488351232) (L : List M) (hL : ∀ x ∈ L, x.f2.size ≤ 140737488351232) (hLn : L.length ≤ 1000) :
    ∀ (l : List M) (i : Nat) (k : Nat) (n : Int) (p : ByteArray × Bool), L.drop i = l → i ≤ L.length → 0 ≤ n → n ≤ i →
      catchmentlaw04_MsgClips.l0 (k + 60 + l.length) s v is L n p.1 p.2 i m.f0 m.f1 m.f2 m.f3 m.f4 m.f5 = some (verdict s m v is (n + cnt s l) (runOn s l p)) := by
  intro l
  induction l with
  | nil =>
    intro i k n p hd hi h0 h1
    have hlen : L.length ≤ i := by
      have := congrArg List.length hd
      simp at this
      omega
    rw [List.length_nil, Nat.add_zero, show k + 60 = (k + 59) + 1 from rfl, catchmentlaw04_MsgClips.l0]
    rw [if_neg (by omega), On_eq (k + 50) _ _ _ _ _ _ _ _ _ hm, live_eq (k + 20), Touches_eq _ _ _ _ _ _ _ hm]
    simp only [Option.bind_some, if_true, cnt, runOn, Int.add_zero, verdict, doM, tch]
    by_cases a1 : n ≤ 1
    · by_cases a2 : ((n == 1) == touches m.f0 m.f2 m.f3 s) = true
      · by_cases a3 : p.1.toList = (onV m.f0 m.f2 m.f3 m.f4 m.f5 s v is).1.toList <;> simp [a1, a2, a3]
      · simp [a1, a2]
    · simp [a1]
  | cons x l ih =>
    intro i k n p hd hi h0 h1
    have hlt : i < L.length := by
      rcases Nat.lt_or_ge i L.length with h | h
      · exact h
      · rw [List.drop_eq_nil_of_le h] at hd; cases hd
    have hx : L[i]? = some x := by
      have := congrArg (fun z => z[0]?) hd
      simpa using this
    have hrd : rd_T25 L (i : Int) = x := by
      show L.getD ((i : Int).toNat) _ = x
      rw [Int.toNat_natCast, List.getD_eq_getElem?_getD, hx]
      rfl
    have hxs := hL x (List.mem_of_getElem? hx)
    have hd2 : L.drop (i + 1) = l := by
      have := congrArg (List.drop 1) hd
      simpa [List.drop_drop] using this
    have e : k + 60 + (x :: l).length = (k + 60 + l.length) + 1 := by simp; omega
    rw [e, catchmentlaw04_MsgClips.l0]
    rw [if_pos (by omega), if_pos (by omega), hrd, Touches_eq _ _ _ _ _ _ _ hxs, IntWalk.wrap64_in (i + 1) (by omega), IntWalk.wrap64_in (n + 1) (by omega)]
    have ho : msg_On.f (k + 60 + l.length) x.f0 x.f1 x.f2 x.f3 x.f4 x.f5 s p.1 p.2 = some (doM x s p) := by
      have := On_eq (k + 51 + l.length) x.f0 x.f1 x.f2 x.f3 x.f4 x.f5 s p.1 p.2 hxs
      rw [show k + 51 + l.length + 9 = k + 60 + l.length from by omega] at this
      exact this
    simp only [Option.bind_some, ho]
    have hc := cnt_range s l
    by_cases ht : touches x.f0 x.f2 x.f3 s = true
    · rw [if_pos ht]
      have := ih (i + 1) k (n + 1) (doM x s p) hd2 (by omega) (by omega) (by omega)
      rw [show ((i + 1 : Nat) : Int) = (i : Int) + 1 from by omega] at this
      rw [this]
      simp only [runOn, cnt, tch, ht, if_true]
      rw [show n + 1 + cnt s l = n + (1 + cnt s l) from by omega]
    · rw [if_neg ht]
      have := ih (i + 1) k n (doM x s p) hd2 (by omega) (by omega) (by omega)
      rw [show ((i + 1 : Nat) : Int) = (i : Int) + 1 from by omega] at this
      rw [this]
      simp only [runOn, cnt, tch, ht, if_false, Bool.false_eq_true, Int.zero_add]

/-- A value that is none has no bytes. -/
def norm (v : ByteArray) (is : Bool) : ByteArray := if is = true then v else e0
theorem doM_norm (m : M) (s v : ByteArray) (is : Bool) : doM m s (norm v is, is) = doM m s (v, is) := by
  unfold doM onV applyV norm
  cases is
  · simp only [Bool.false_eq_true, if_false]
    split
    · split
      · rfl
      · split
        · simp [addV]
        · rfl
    · rfl
  · simp
theorem doM_untouched {m : M} {s v : ByteArray} {is : Bool} (h : tch m s = false) : doM m s (norm v is, is) = (norm v is, is) := by
  unfold tch at h
  unfold doM onV norm
  rw [h]
  cases is <;> simp
theorem doM_clear {m : M} {s : ByteArray} {p : ByteArray × Bool} (h4 : m.f0 = 4) (h : tch m s = true) : doM m s p = (norm e0 false, false) := by
  unfold tch at h
  unfold doM onV applyV norm
  rw [h, h4]
  simp
theorem tch_clear {m : M} (s : ByteArray) (h4 : m.f0 = 4) : tch m s = holds m.f2 m.f3 s := by
  unfold tch touches
  rw [h4]
  simp [isPt]
/-- What Clears do, one behind the other. -/
theorem run_clears (s : ByteArray) : ∀ (l : List M) (v : ByteArray) (is : Bool), (∀ x ∈ l, x.f0 = 4) → runOn s l (norm v is, is) = if (l.any fun x => tch x s) = true then (norm e0 false, false) else (norm v is, is)
  | [], v, is, _ => by simp [runOn]
  | x :: l, v, is, h => by
    have h4 := h x (by simp)
    have hl := fun y hy => h y (List.mem_cons_of_mem _ hy)
    simp only [runOn]
    by_cases ht : tch x s = true
    · rw [doM_clear h4 ht, run_clears s l e0 false hl]
      simp [ht]
    · have ht' : tch x s = false := by simpa using ht
      rw [doM_untouched ht', run_clears s l v is hl]
      simp [ht']

theorem MsgClips : ∀ (x0 : S25) (x1 : S31) (x2 : ByteArray) (x3 : ByteArray) (x4 : Bool), (wf25 x0) → (wf31 x1) → (x2.size ≤ 140737488351232) → (x3.size ≤ 140737488351232) → ∃ k, catchmentlaw04_MsgClips.f k x0.f0 x0.f1 x0.f2 x0.f3 x0.f4 x0.f5 x1.f0 x1.f1 x2 x3 x4 = some true := by
  intro m r s v is hm hr _ _
  obtain ⟨_, _, hy, ht, hv, hd⟩ := hm
  obtain ⟨hf, hu⟩ := hr
  -- from the parts on
  have fin : ∀ (L : List M), (∀ x ∈ L, x.f2.size ≤ 140737488351232) → L.length ≤ 3 → cnt s L ≤ 1 → (cnt s L == 1) = tch m s → runOn s L (norm v is, is) = doM m s (v, is) →
      catchmentlaw04_MsgClips.j1 (95 + L.length) s v is L m.f0 m.f1 m.f2 m.f3 m.f4 m.f5 = some true := by
    intro L hL h3 hc1 hc2 hrun
    have hloop := fun p => clips_loop s v is m hy L hL (by omega) L 0 33 0 p rfl (by omega) (by omega) (by omega)
    have hend : ∀ a b, (a, b) = (norm v is, is) → catchmentlaw04_MsgClips.j2 (94 + L.length) s v is L 0 a b m.f0 m.f1 m.f2 m.f3 m.f4 m.f5 = some true := by
      intro a b hab
      have e : 94 + L.length = (33 + 60 + L.length) + 1 := by omega
      rw [e]
      simp only [catchmentlaw04_MsgClips.j2]
      have := hloop (a, b)
      simp only [] at this
      refine (show _ = _ from this).trans ?_
      rw [hab, hrun]
      have h1 : decide (0 + cnt s L ≤ 1) = true := by simp; omega
      have h2 : ((0 + cnt s L == 1) == tch m s) = true := by rw [Int.zero_add, hc2]; simp
      simp only [verdict, h1, h2]
      simp
    have e : 95 + L.length = (94 + L.length) + 1 := by omega
    rw [e]
    simp only [catchmentlaw04_MsgClips.j1]
    cases is
    · simp only [Bool.false_eq_true, if_false]
      exact hend _ _ (by simp [norm])
    · simp only [if_true]
      exact hend _ _ (by simp [norm])
  have one : ∀ x : M, x.f0 = m.f0 → x.f2 = m.f2 → x.f3 = m.f3 → x.f4 = m.f4 → x.f5 = m.f5 → catchmentlaw04_MsgClips.j1 (95 + [x].length) s v is [x] m.f0 m.f1 m.f2 m.f3 m.f4 m.f5 = some true := by
    intro x e0' e2 e3 e4 e5
    have ht' : tch x s = tch m s := by unfold tch; rw [e0', e2, e3]
    refine fin [x] (by intro z hz; simp at hz; subst hz; rw [e2]; exact hy) (by simp) ?_ ?_ ?_
    · simp only [cnt]; split <;> omega
    · simp only [cnt, ht']
      cases tch m s <;> simp
    · simp only [runOn]
      have : doM x s (norm v is, is) = doM m s (norm v is, is) := by unfold doM; rw [e0', e2, e3, e4, e5]
      rw [this, doM_norm]
  -- the parts
  have main : (m.f0 = 4 → rr m.f2 m.f3 = true) → ∃ k, catchmentlaw04_MsgClips.j0 (k + 1) s v is false m.f0 m.f1 m.f2 m.f3 m.f4 m.f5 r.f0 r.f1 = some true ∧ 90 ≤ k := by
    intro hg
    by_cases hpt : isPt m.f0 = true
    · -- a point: one part, itself
      have h4 := isPt_ne4 hpt
      have hk : ¬ (m.f0 < 1 ∨ m.f0 > 4) := by simp only [isPt, decide_eq_true_eq] at hpt; omega
      refine ⟨96, ?_, by omega⟩
      simp only [catchmentlaw04_MsgClips.j0, Bool.false_eq_true, if_false]
      rw [Rest_eq 67 _ _ _ _ _ _ _ _ hy, Clip_eq 77 _ _ _ _ _ _ _ _ hy]
      simp only [Option.bind_some]
      unfold rest
      rw [if_neg hk]
      unfold clip
      rw [hpt]
      simp only [Bool.true_and, h4, decide_false, Bool.false_and, Bool.false_eq_true, if_false]
      cases hq : (rr r.f0 r.f1 && holds r.f0 r.f1 m.f2)
      · simp only [Bool.false_eq_true, if_false]
        exact one _ rfl rfl rfl rfl rfl
      · simp only [if_true, List.append_nil, List.length_cons, List.length_nil]
        rw [if_pos (by omega)]
        exact one _ rfl rfl rfl rfl rfl
    · have hpt' : isPt m.f0 = false := by simpa using hpt
      by_cases h4 : m.f0 = 4
      · -- a Clear
        have hk : ¬ (m.f0 < 1 ∨ m.f0 > 4) := by omega
        obtain ⟨X, hX⟩ : ∃ X, X = mxs m.f2 r.f0 := ⟨_, rfl⟩
        obtain ⟨T, hT⟩ : ∃ T, T = first m.f3 r.f1 := ⟨_, rfl⟩
        have hXs : X.size ≤ 140737488351232 := by
          rw [hX, mxs_lt]; split <;> assumption
        have hTs : T.size ≤ 140737488351232 := by
          rw [hT]; unfold first; split <;> assumption
        have hcl : clip m.f0 m.f1 m.f2 m.f3 m.f4 m.f5 r.f0 r.f1 = if (rr r.f0 r.f1 && rr X T) = true then (m.f0, m.f1, X, T, m.f4, m.f5, true) else (0, 0, e0, e0, e0, 0, false) := by
          unfold clip meet
          rw [hpt', hg h4, ← hX, ← hT, h4]
          simp only [Bool.false_and, Bool.false_eq_true, if_false, decide_true, Bool.true_and]
          cases (rr r.f0 r.f1 && rr X T) <;> simp
        cases hok : (rr r.f0 r.f1 && rr X T)
        · -- the range has nothing of it
          refine ⟨96, ?_, by omega⟩
          simp only [catchmentlaw04_MsgClips.j0, Bool.false_eq_true, if_false]
          rw [Rest_eq 67 _ _ _ _ _ _ _ _ hy, Clip_eq 77 _ _ _ _ _ _ _ _ hy]
          simp only [Option.bind_some]
          unfold rest
          rw [if_neg hk, hcl, hok]
          simp only [Bool.false_eq_true, if_false]
          exact one _ rfl rfl rfl rfl rfl
        · obtain ⟨R, hR⟩ : ∃ R : List M, R = (if lt m.f2 X = true then [(⟨m.f0, m.f1, m.f2, X, m.f4, m.f5⟩ : M)] else []) ++ (if before T m.f3 = true then [(⟨m.f0, m.f1, T, m.f3, m.f4, m.f5⟩ : M)] else []) := ⟨_, rfl⟩
          have hRl : R.length ≤ 2 := by rw [hR]; split <;> split <;> simp
          have hL : ∀ x ∈ ((⟨m.f0, m.f1, X, T, m.f4, m.f5⟩ : M) :: R), x.f2.size ≤ 140737488351232 ∧ x.f0 = 4 := by
            intro x hx
            rw [hR] at hx
            simp only [List.mem_cons, List.mem_append] at hx
            rcases hx with rfl | hx | hx
            · exact ⟨hXs, h4⟩
            · split at hx
              · simp only [List.mem_cons, List.not_mem_nil, or_false] at hx; subst hx; exact ⟨hy, h4⟩
              · simp at hx
            · split at hx
              · simp only [List.mem_cons, List.not_mem_nil, or_false] at hx; subst hx; exact ⟨hTs, h4⟩
              · simp at hx
          refine ⟨95 + ((⟨m.f0, m.f1, X, T, m.f4, m.f5⟩ : M) :: R).length, ?_, by omega⟩
          have e1 : 95 + ((⟨m.f0, m.f1, X, T, m.f4, m.f5⟩ : M) :: R).length = (67 + R.length) + 29 := by simp; omega
          simp only [catchmentlaw04_MsgClips.j0, Bool.false_eq_true, if_false]
          have hrest : msg_Rest.f (95 + ((⟨m.f0, m.f1, X, T, m.f4, m.f5⟩ : M) :: R).length) m.f0 m.f1 m.f2 m.f3 m.f4 m.f5 r.f0 r.f1 = some R := by
            rw [e1, Rest_eq _ _ _ _ _ _ _ _ _ hy]
            unfold rest
            rw [if_neg hk, hcl, hok]
            simp only [if_true]
            rw [if_pos h4, ← hR]
          have hclip : msg_Clip.f (95 + ((⟨m.f0, m.f1, X, T, m.f4, m.f5⟩ : M) :: R).length) m.f0 m.f1 m.f2 m.f3 m.f4 m.f5 r.f0 r.f1 = some (m.f0, m.f1, X, T, m.f4, m.f5, true) := by
            rw [e1, show (67 + R.length) + 29 = (77 + R.length) + 19 from by omega, Clip_eq _ _ _ _ _ _ _ _ _ hy, hcl, hok]
            rfl
          rw [hrest, hclip]
          simp only [Option.bind_some, if_true, List.length_cons, List.length_nil]
          rw [if_pos (by omega)]
          have hXT : ah (mxs m.f2 r.f0) (first m.f3 r.f1) = true := by
            rw [← hX, ← hT]
            simp only [Bool.and_eq_true] at hok
            exact hok.2
          have hp := parts (s := s) hXT
          rw [← hX, ← hT] at hp
          obtain ⟨p1, p2, p3, p4⟩ := hp
          have ht0 : tch m s = holds m.f2 m.f3 s := tch_clear s h4
          have tC : tch (⟨m.f0, m.f1, X, T, m.f4, m.f5⟩ : M) s = holds X T s := tch_clear s h4
          have hcR : cnt s R = (if (lt m.f2 X && holds m.f2 X s) = true then 1 else 0) + (if (before T m.f3 && holds T m.f3 s) = true then 1 else 0) := by
            rw [hR]
            have tL : tch (⟨m.f0, m.f1, m.f2, X, m.f4, m.f5⟩ : M) s = holds m.f2 X s := tch_clear s h4
            have tR : tch (⟨m.f0, m.f1, T, m.f3, m.f4, m.f5⟩ : M) s = holds T m.f3 s := tch_clear s h4
            cases lt m.f2 X <;> cases before T m.f3 <;> simp [cnt, tL, tR]
          have haR : (R.any fun x => tch x s) = ((lt m.f2 X && holds m.f2 X s) || (before T m.f3 && holds T m.f3 s)) := by
            rw [hR]
            have tL : tch (⟨m.f0, m.f1, m.f2, X, m.f4, m.f5⟩ : M) s = holds m.f2 X s := tch_clear s h4
            have tR : tch (⟨m.f0, m.f1, T, m.f3, m.f4, m.f5⟩ : M) s = holds T m.f3 s := tch_clear s h4
            cases lt m.f2 X <;> cases before T m.f3 <;> simp [tL, tR]
          refine fin _ (fun x hx => (hL x hx).1) (by simp; omega) ?_ ?_ ?_
          · simp only [cnt, tC, hcR]
            cases h1 : (lt m.f2 X && holds m.f2 X s) <;> cases h2 : holds X T s <;> cases h3 : (before T m.f3 && holds T m.f3 s) <;> simp [h1, h2, h3] at p2 p3 p4 ⊢
          · simp only [cnt, tC, hcR, ht0, p1]
            cases h1 : (lt m.f2 X && holds m.f2 X s) <;> cases h2 : holds X T s <;> cases h3 : (before T m.f3 && holds T m.f3 s) <;> simp [h1, h2, h3] at p2 p3 p4 ⊢
          · rw [run_clears s _ v is (fun x hx => (hL x hx).2)]
            simp only [List.any_cons, tC, haR]
            have hor : (holds X T s || (lt m.f2 X && holds m.f2 X s || before T m.f3 && holds T m.f3 s)) = tch m s := by
              rw [ht0, p1]
              cases (lt m.f2 X && holds m.f2 X s) <;> cases holds X T s <;> cases (before T m.f3 && holds T m.f3 s) <;> rfl
            rw [hor]
            cases hts : tch m s
            · rw [← doM_norm, doM_untouched hts]; simp
            · rw [doM_clear h4 hts]; simp
      · -- no kind that does anything
        refine ⟨95, ?_, by omega⟩
        simp only [catchmentlaw04_MsgClips.j0, Bool.false_eq_true, if_false]
        rw [Rest_eq 66 _ _ _ _ _ _ _ _ hy, Clip_eq 76 _ _ _ _ _ _ _ _ hy]
        simp only [Option.bind_some]
        have hk : m.f0 < 1 ∨ m.f0 > 4 := by simp only [isPt, decide_eq_true_eq] at hpt; omega
        unfold rest clip
        rw [if_pos hk, hpt']
        simp only [Bool.false_and, h4, decide_false, Bool.false_eq_true, if_false]
        have hts : tch m s = false := by unfold tch touches; simp [hpt', h4]
        refine fin [] (by simp) (by simp) (by simp [cnt]) (by rw [hts]; simp [cnt]) ?_
        simp only [runOn]
        rw [← doM_norm, doM_untouched hts]
  -- the guard
  have hlive : ∀ k, 90 ≤ k → catchmentlaw04_MsgClips.j0 (k + 1) s v is true m.f0 m.f1 m.f2 m.f3 m.f4 m.f5 r.f0 r.f1 = some true := by
    intro k hk
    simp only [catchmentlaw04_MsgClips.j0, if_true]
    obtain ⟨j, rfl⟩ : ∃ j, k = j + 39 := ⟨k - 39, by omega⟩
    rw [live_eq]
    rfl
  unfold catchmentlaw04_MsgClips.f
  by_cases h4 : m.f0 = 4
  · by_cases h5 : m.f3.toList = []
    · obtain ⟨k, hk, _⟩ := main (fun _ => by simp [rr, emp, h5])
      exact ⟨k + 1, by rw [if_pos h4, if_pos h5]; exact hk⟩
    · cases h6 : Op.bytesLess m.f2.toList m.f3.toList
      · exact ⟨91, by rw [if_pos h4, if_neg h5]; exact hlive 90 (by omega)⟩
      · obtain ⟨k, hk, _⟩ := main (fun _ => by simp [rr, lt, h6])
        exact ⟨k + 1, by rw [if_pos h4, if_neg h5]; exact hk⟩
  · obtain ⟨k, hk, _⟩ := main (fun h => absurd h h4)
    exact ⟨k + 1, by rw [if_neg h4]; exact hk⟩
end Go.Proofs.Ytgbikacioojpjaa.Pure
