/- THE ROW of EpochHolds: for every input the call returns true, and each argument reads afterwards as it read before: no condition beyond the row's own. Out of the walk (its contract over the Lean function of the same text) and the plain law (module YtlpganbcnhiidaaPureEpochHolds). (Laid by rowgen.py.) -/
/- Texts of one claim (laid by shake.py). -/
import Derived.Test.YtlpganbcnhiidaaZEh8
import Derived.Test.YtlpganbcnhiidaaZEh7
import Derived.OpenShut
import Derived.Test.YtlpganbcnhiidaaZEh5
import Derived.Test.YtlpganbcnhiidaaRows
import Derived.WalkKit
import Derived.ProofKit
import Derived.ShutString
import Derived.ChangeOld
import Derived.Below
import Derived.SizedLaws
set_option linter.unusedVariables false
set_option linter.unusedSimpArgs false
section
namespace Go.Proofs.Ytlpganbcnhiidaa.Ep
open Go Go.RowKit Go.Maps Go.Proofs.YtlpganbcnhiidaaW.PrintWords Go.Proofs.YtlpganbcnhiidaaW.PrintLast Go.Proofs.YtlpganbcnhiidaaW.PrintMore Go.Proofs.Ytlpganbcnhiidaa.Own Go.Proofs.Ytlpganbcnhiidaa.Ord Go.Proofs.Ytlpganbcnhiidaa.P
set_option maxHeartbeats 2000000
set_option maxRecDepth 100000
def Hl (l : List Dd) (x : Int) : Prop := ∃ (i : Nat) (d : Dd), i < 60 ∧ l[i]? = some d ∧ d.f0 = 2 ∧ d.f2 = x
theorem rd_deed {l : List Dd} {j : Nat} {d : Dd} (h : l[j]? = some d) : rd_T36 l (j : Int) = d := by
  unfold rd_T36
  rw [List.getD_eq_getElem?_getD, Int.toNat_natCast, h]
  rfl
theorem held_at {l : List Dd} {x : Int} {i : Nat} {d : Dd} (hi : i < 60) (hd : l[i]? = some d) (h0 : d.f0 = 2) (h2 : d.f2 = x) : ∀ (n j k : Nat), j + n = i → 2 * n + 2 ≤ k → P.catchmentlaw09_held.l0 k l x (j : Int) = some true
  | n, j, 0, _, h => by omega
  | n, j, 1, _, h => by omega
  | n, j, k + 2, e, h => by
    have hl : i < l.length := (List.getElem?_eq_some_iff.1 hd).1
    rw [P.catchmentlaw09_held.l0, if_pos (by omega), P.catchmentlaw09_held.j1, if_pos (decide_eq_true (by omega)), if_pos (by omega), if_pos (by omega)]
    cases n with
    | zero =>
      have : j = i := by omega
      subst this
      rw [rd_deed hd, if_pos h0, if_pos h2]
    | succ n =>
      have ih := held_at hi hd h0 h2 n (j + 1) k (by omega) (by omega)
      have hw : wrap64 ((j : Int) + 1) = ((j + 1 : Nat) : Int) := (IntWalk.wrap64_in _ (by omega)).trans (by omega)
      rw [hw]
      split
      · split
        · rfl
        · exact ih
      · exact ih
theorem held_yes {l : List Dd} {x : Int} (h : Hl l x) : P.catchmentlaw09_held.f 200 l x = some true := by
  obtain ⟨i, d, hi, hd, h0, h2⟩ := h
  exact held_at hi hd h0 h2 i 0 200 (by omega) (by omega)
structure Hd (b : RB) (s : Nat) (T mark : Int) (hl : Prop) : Prop where
  s4 : b.s = 4
  I : b.I s = true
  S : b.S s ≤ T
  m : ∀ q ∈ b.ws.zip b.ats, q.1 = mark → hl ∨ T ≤ q.2
variable {b : RB} {s N : Nat} {T mark : Int} {hl : Prop}
theorem Hd.enter (h : Hd b s T mark hl) (who : Int) : Hd (enterR b who) s T mark hl := by
  unfold enterR
  split
  · rename_i h0
    obtain ⟨h1, h2, h3⟩ := askR_ok h0
    have hne : ¬ s = who.toNat := fun e => by rw [← e, h.I] at h3; cases h3
    refine ⟨h.s4, ?_, ?_, h.m⟩
    · show updN b.I who.toNat true s = true
      rw [updN, if_neg hne]
      exact h.I
    · show updN b.S who.toNat b.now s ≤ T
      rw [updN, if_neg hne]
      exact h.S
  · exact h
theorem Hd.leave (h : Hd b s T mark hl) (who : Int) (hw : who ≠ (s : Int)) : Hd (leaveR b who) s T mark hl := by
  unfold leaveR
  split
  · rename_i h0
    obtain ⟨h1, h2, h3⟩ := askR_ok h0
    have hne : ¬ s = who.toNat := fun e => hw (by omega)
    refine ⟨h.s4, ?_, h.S, h.m⟩
    show updN b.I who.toNat false s = true
    rw [updN, if_neg hne]
    exact h.I
  · exact h
theorem zip_snoc (b : RB) (hl : b.ws.length = b.ats.length) (x : Int) : (retireR b x).ws.zip (retireR b x).ats = b.ws.zip b.ats ++ [(x, b.now)] := by
  show (b.ws ++ [x]).zip (b.ats ++ [b.now]) = _
  rw [List.zip_append hl]
  rfl
theorem Hd.retire (h : Hd b s T mark hl) (hO : Ok b N) (x : Int) (hx : x ≠ mark) : Hd (retireR b x) s T mark hl := by
  refine ⟨h.s4, h.I, h.S, fun q hq e => ?_⟩
  rw [zip_snoc b hO.len] at hq
  rcases List.mem_append.1 hq with r | r
  · exact h.m q r e
  · simp at r
    subst r
    exact (hx e).elim
theorem ready_zips (b : RB) (hl : b.ws.length = b.ats.length) : (readyR b).ws.zip (readyR b).ats = (b.ws.zip b.ats).filter (fun p => !decide (p.2 < Ep.lst b 64)) := by
  show (wtL b (Ep.lst b 64) b.ws.length).zip (atL b (Ep.lst b 64) b.ws.length) = _
  unfold wtL atL
  rw [zip_take_all b hl]
  exact zip_maps _
theorem Hd.ready (h : Hd b s T mark hl) (hO : Ok b N) : Hd (readyR b) s T mark hl := by
  refine ⟨h.s4, h.I, h.S, fun q hq e => ?_⟩
  rw [ready_zips b hO.len] at hq
  exact h.m q (List.mem_filter.1 hq).1 e
theorem Hd.told (h : Hd b s T mark hl) (hO : Ok b N) (hm : mark ∈ readyL b) : hl := by
  unfold readyL outL at hm
  rw [zip_take_all b hO.len] at hm
  obtain ⟨q, hq, e⟩ := List.mem_map.1 hm
  obtain ⟨h1, h2⟩ := List.mem_filter.1 hq
  have h2' := of_decide_eq_true h2
  obtain ⟨_, k, _⟩ := lst_le b 64
  have hs := hO.hI s h.I
  have hs2 := hO.s2
  have := k s (by omega) (by omega) h.I
  have := h.S
  rcases h.m q h1 e with r | r
  · exact r
  · omega
theorem Hd.step (h : Hd b s T mark hl) (hO : Ok b N) (d0 d1 d2 : Int) (h1 : ¬ (d0 = 1 ∧ d1 = (s : Int))) (h2 : ¬ (d0 = 2 ∧ d2 = mark)) : Hd (stepR b d0 d1 d2) s T mark hl := by
  unfold stepR
  split
  · exact h.enter d1
  split
  · exact h.leave d1 (fun e => h1 ⟨by assumption, e⟩)
  split
  · exact h.retire hO d2 (fun e => h2 ⟨by assumption, e⟩)
  split
  · exact h.ready hO
  · exact h
theorem Hd.start (hO : Ok b N) (h4 : b.s = 4) (hs : 1 ≤ s ∧ s ≤ 4) (hm : ∀ x ∈ b.ws, x = mark → hl) : Hd (retireR (enterR b (s : Int)) mark) s b.now mark hl := by
  have e1 : (enterR b (s : Int)).ws = b.ws ∧ (enterR b (s : Int)).ats = b.ats ∧ (enterR b (s : Int)).now = b.now ∧ (enterR b (s : Int)).s = b.s := by unfold enterR; split <;> exact ⟨rfl, rfl, rfl, rfl⟩
  have e2 : (enterR b (s : Int)).I s = true ∧ (enterR b (s : Int)).S s ≤ b.now := by
    unfold enterR
    split
    · refine ⟨?_, ?_⟩
      · show updN b.I ((s : Int)).toNat true s = true
        rw [updN, if_pos (by omega)]
      · show updN b.S ((s : Int)).toNat b.now s ≤ b.now
        rw [updN, if_pos (by omega)]
        exact Int.le_refl _
    · rename_i h0
      have hI : b.I s = true := by
        cases hq : b.I s with
        | true => rfl
        | false =>
          refine (h0 ?_).elim
          unfold askR
          rw [if_neg (by omega), Int.toNat_natCast, hq]
          rfl
      exact ⟨hI, (hO.said s hI).2⟩
  have hO2 := hO.enter (s : Int)
  refine ⟨e1.2.2.2.trans h4, e2.1, e2.2, fun q hq e => ?_⟩
  rw [zip_snoc _ hO2.len, e1.1, e1.2.1] at hq
  rcases List.mem_append.1 hq with r | r
  · exact .inl (hm q.1 (List.of_mem_zip r).1 e)
  · simp at r
    subst r
    exact .inr (by rw [e1.2.2.1]; exact Int.le_refl _)
theorem held_step {l : List Dd} {i : Nat} {d : Dd} (hi : i < 60) (hd : l[i]? = some d) (h : b.s = 4 ∧ ∀ x ∈ b.ws, x = mark → Hl l mark) : (stepR b d.f0 d.f1 d.f2).s = 4 ∧ ∀ x ∈ (stepR b d.f0 d.f1 d.f2).ws, x = mark → Hl l mark := by
  refine ⟨(stepR_s b _ _ _).trans h.1, fun x hx e => ?_⟩
  unfold stepR at hx
  split at hx
  · unfold enterR at hx
    split at hx <;> exact h.2 x hx e
  split at hx
  · unfold leaveR at hx
    split at hx <;> exact h.2 x hx e
  split at hx
  · rcases List.mem_append.1 hx with r | r
    · exact h.2 x r e
    · simp at r
      exact ⟨i, d, hi, hd, by assumption, r.symm.trans e⟩
  split at hx
  · have hx' : x ∈ wtL b (Ep.lst b 64) b.ws.length := hx
    unfold wtL at hx'
    obtain ⟨q, hq, rfl⟩ := List.mem_map.1 hx'
    exact h.2 q.1 (List.of_mem_zip (List.mem_of_mem_take (List.mem_filter.1 hq).1)).1 e
  · exact h.2 x hx e
end Go.Proofs.Ytlpganbcnhiidaa.Ep
end
section
namespace Go.Proofs.Ytlpganbcnhiidaa.Ep
open Go Go.RowKit Go.Maps Go.Proofs.YtlpganbcnhiidaaW.PrintWords Go.Proofs.YtlpganbcnhiidaaW.PrintLast Go.Proofs.YtlpganbcnhiidaaW.PrintMore Go.Proofs.Ytlpganbcnhiidaa.Own Go.Proofs.Ytlpganbcnhiidaa.Ord Go.Proofs.Ytlpganbcnhiidaa.P
set_option maxHeartbeats 2000000
set_option maxRecDepth 100000
theorem holds_ok {w : World} {A B : Option Addr} {ca cb : Nat} {l more : List Dd} (x2 : Int) (hx : 0 ≤ x2 ∧ x2 ≤ 255) (hca : l.length ≤ ca) (hC : Kd.C P.k36 w A l.length l) (hC2 : Kd.C P.k36 w B more.length more) (hwf : ∀ d ∈ l, (Lit.int .i64 d.f1).wf = true) (hwf2 : ∀ d ∈ more, (Lit.int .i64 d.f1).wf = true) :
    Calls Try.prog 4 #[.slice A l.length ca, .slice B more.length cb, .int .u8 x2] w fun e w' => e = .returned (.bool true) ∧ Below w.heap.size w w' := by
  have hud := Try.underlying36
  have PL : Calls Try.prog 11 #[.slice A l.length ca] w fun e w1 => ∃ (p : Nat) (b : RB) (cs : List Value), e = .returned (.tuple #[.pointer (some ⟨p, 0, none⟩), .agg cs.toArray, .bool true]) ∧ Aside0 (cs.length = 134 ∧ (∀ v ∈ cs, v.oneCell' = true)) ∧ Aside0 (Pf w p 60 b cs w1 ∧ (b.s = 4 ∧ ∀ x ∈ b.ws, x = 1099511627776 → Hl l 1099511627776)) := by
    refine (played_any (fun b => b.s = 4 ∧ ∀ x ∈ b.ws, x = 1099511627776 → Hl l 1099511627776) ⟨rfl, fun x q => by cases q⟩ (fun i d b hi hd h => held_step hi hd h) hC hwf).mono ?_
    rintro e w1 ⟨p, b, cs, rfl, hl, h1, hp, hs⟩
    exact ⟨p, b, cs, rfl, ⟨hl, h1⟩, ⟨hp, hs⟩⟩
  have hA0 := Aside0.mk (And.intro hC (And.intro hC2 (And.intro hwf2 (And.intro hca hx))))
  have hS : Aside0 (∃ sI : Int, wrap64 (1 + (wrap64 x2).tmod 4) = sI ∧ 1 ≤ sI ∧ sI ≤ 4) := by
    refine ⟨_, rfl, ?_⟩
    have e1 : wrap64 x2 = x2 := IntWalk.wrap64_in _ (by omega)
    have e2 : x2.tmod 4 = x2 % 4 := Int.tmod_eq_emod_of_nonneg hx.1
    have e3 : wrap64 (1 + x2 % 4) = 1 + x2 % 4 := IntWalk.wrap64_in _ (by omega)
    rw [e1, e2, e3]
    omega
  clear hC hC2 hwf hwf2 hca hx
  go_enter Try.func4, Try.ntmps4
  go_wp2_with (first
    | (go_at_call 11; refine PL.mono ?_; clear PL; rintro e w1 ⟨p, b0, cs0, rfl, hL, hE⟩; have h7 := blk_new w1 (objB (cellsB zb none 0 none 0)))
    | (refine allocB rfl rfl ?_)
    | (refine storeB rfl _ _ rfl _ rfl _ _ rfl h7 (cellsB_len _ _ _ _ _) hL.out.1 hL.out.2 ?_; rintro w6 h8 hF6; clear h7)
    | (go_at_call 12; obtain ⟨sI, hsI, hs1, hs4⟩ := hS.out; rw [hsI]; clear hsI hS; have hP6 := hE.out.1.ph h8 hF6; refine (hP6.enter (by omega) sI (WalkArith.wf_i64 (by omega))).mono ?_; rintro e w7 ⟨rfl, hP_⟩; have hP7 := Aside0.mk hP_; have hSs := Aside0.mk (And.intro hs1 hs4); have hb7 := hP_.len.2.1; clear hP_ hP6 h8 hF6 hs1 hs4)
    | (refine loadB rfl _ rfl _ rfl cs0 hb7 hL.out.1 ?_; clear hb7)
    | (go_at_call 13; refine (hP7.out.renter sI).mono ?_; rintro e w8 ⟨cs1, k1, rfl, hQ_⟩; have hQ8 := Aside0.mk hQ_; clear hQ_)
    | (refine storeB rfl _ _ rfl _ rfl cs1 cs0 rfl hQ8.out.2.1 hL.out.1 hQ8.out.1.1 hQ8.out.1.2 ?_; rintro w9 h9 f9; have hP9 := Aside0.mk (hQ8.out.2.2 w9 h9 f9); clear h9 f9)
    | (go_at_call 14; refine (hP9.out.retire (by omega) 1099511627776).mono ?_; rintro e w10 ⟨rfl, hP_⟩; have hP10 := Aside0.mk hP_; have hb10 := hP_.len.2.1; clear hP_)
    | (refine loadB rfl _ rfl _ rfl cs1 hb10 hQ8.out.1.1 ?_; clear hb10)
    | (go_at_call 15; refine (hP10.out.rretire (by omega) 1099511627776).mono ?_; rintro e w11 ⟨cs2, rfl, hQ_⟩; have hQ11 := Aside0.mk hQ_; clear hQ_)
    | (refine storeB rfl _ _ rfl _ rfl cs2 cs1 rfl hQ11.out.2.1 hQ8.out.1.1 hQ11.out.1.1 hQ11.out.1.2 ?_; rintro w12 h9 f9; have hP12 := Aside0.mk (hQ11.out.2.2 w12 h9 f9); clear h9 f9))
  have hD0 : Aside0 (Hd (retireR (enterR b0 sI) 1099511627776) sI.toNat b0.now 1099511627776 (Hl l 1099511627776)) := by
    obtain ⟨q1, q2, q3⟩ := hE.out
    obtain ⟨n, q4, q5, q6⟩ := q1.bs
    have hs := hSs.out
    have e : sI = ((sI.toNat : Nat) : Int) := by omega
    have := Hd.start q6 q2 (s := sI.toNat) (by omega) q3
    rw [← e] at this
    exact ⟨this⟩
  clear hE hL hP7 hQ8 hP9 hP10 hQ11
  go_loopg [12] 60 (fun g iv wr => ∃ (i : Int) (b : RB) (cs : List Value), iv = .int .i64 i ∧ Aside0 (0 ≤ i ∧ i.toNat + g = 60) ∧ Aside0 (Ph w p w1.heap.size (i.toNat + 63) b b cs wr) ∧ Aside0 (Hd b sI.toNat b0.now 1099511627776 (Hl l 1099511627776)))
  case atStart => exact ⟨0, _, _, rfl, ⟨Int.le_refl _, rfl⟩, hP12, hD0⟩
  case round =>
    clear hP12 hD0
    obtain ⟨i, b, cs, rfl, hiA, hP, hH⟩ := hrel
    obtain ⟨hi0, hig⟩ := hiA.out
    by_cases hA : i < more.length ∧ i < 60
    · obtain ⟨hA, hB6⟩ := hA
      cases gk with
      | zero => omega
      | succ g =>
        obtain ⟨ad, rfl, q0, q1, q2⟩ := at_T36 hA0.out.2.1 i hi0 hA
        have hmem : rd_T36 more i ∈ more := by
          unfold rd_T36
          rw [List.getD_eq_getElem?_getD, List.getElem?_eq_getElem (by omega)]
          exact List.getElem_mem _
        have hwd := hA0.out.2.2.1 _ hmem
        generalize rd_T36 more i = d at q0 q1 q2 hwd
        clear hmem
        obtain ⟨⟨hl, h1⟩, hg, hold⟩ := hP.out.len
        have d0 := decide_eq_true hi0
        have d1 := decide_eq_true hA
        have d2 := decide_eq_true hB6
        have p0 := eq_true hi0
        have p1 := eq_true hA
        have hwi : wrap64 (i + 1) = i + 1 := IntWalk.wrap64_in _ (by omega)
        have hlb := World.block_lt_of_cell? w _ q0
        have o0 := q0
        have o1 := q1
        have o2 := q2
        replace q0 := cell_b hold q0
        replace q1 := cell_b hold q1
        replace q2 := cell_b hold q2
        have hig' := Aside0.mk (show i.toNat < 60 by omega)
        have hcases : ((d.f0 == 1) = true ∧ (d.f1 == sI) = true) ∨ ((d.f0 == 1) = false ∧ (d.f0 == 2) = true ∧ (d.f2 == 1099511627776) = true) ∨ ((d.f0 == 1) = false ∧ (d.f0 == 2) = false ∧ (d.f0 == 3) = true) ∨ (¬ (d.f0 = 1 ∧ d.f1 = sI) ∧ ¬ (d.f0 = 2 ∧ d.f2 = 1099511627776) ∧ (((d.f0 == 1) = true ∧ (d.f1 == sI) = false ∧ (d.f0 == 2) = false ∧ (d.f0 == 3) = false) ∨ ((d.f0 == 1) = false ∧ (d.f0 == 2) = true ∧ (d.f2 == 1099511627776) = false ∧ (d.f0 == 3) = false) ∨ ((d.f0 == 1) = false ∧ (d.f0 == 2) = false ∧ (d.f0 == 3) = false))) := by
          simp only [beq_iff_eq, beq_eq_false_iff_ne, ne_eq]
          omega
        rcases hcases with ⟨e1, e2⟩ | ⟨e1, e2, e3⟩ | ⟨e1, e2, e3⟩ | ⟨n1, n2, hc⟩
        · clear hi0 hig hA hB6 hwd hold h1 hg o0 o1 o2 hl hlb
          go_wp2
          go_roundg g
          case measure => omega
          case rel => exact ⟨i + 1, b, cs, by first | rfl | rw [hwi], ⟨by have := hiA.out; omega, by have := hiA.out; omega⟩, ⟨hP.out.wide (by have := hiA.out; omega)⟩, hH⟩
        · clear hi0 hig hA hB6 hwd hold h1 hg o0 o1 o2 hl hlb
          go_wp2
          go_roundg g
          case measure => omega
          case rel => exact ⟨i + 1, b, cs, by first | rfl | rw [hwi], ⟨by have := hiA.out; omega, by have := hiA.out; omega⟩, ⟨hP.out.wide (by have := hiA.out; omega)⟩, hH⟩
        · clear hi0 hig hA hB6 hwd h1 hg o0 o1 o2 hl hlb
          have RY := (hP.out.ready (by have := hig'.out; omega)).mono (R' := fun e w3 => ∃ C cc, e = .returned (.slice C (readyL b).length cc) ∧ Aside0 (OI w3 wr.heap.size (.slice C (readyL b).length cc) (readyL b) ∧ Ph w p w1.heap.size (i.toNat + 63) (readyR b) b cs w3)) (fun e w3 ⟨C, cc, q, r⟩ => ⟨C, cc, q, ⟨r⟩⟩)
          go_wp2_with (go_at_call 16; refine RY.mono ?_; clear RY; rintro e w3 ⟨C, cc, rfl, hR⟩)
          go_loopg [14] (readyL b).length (fun g iv wq => ∃ (k : Int), iv = .int .i64 k ∧ Aside0 (0 ≤ k ∧ k.toNat + g = (readyL b).length) ∧ Aside0 (Below w3.heap.size w3 wq))
          case atStart => exact ⟨0, rfl, ⟨Int.le_refl _, by simp⟩, ⟨Below.refl _ _⟩⟩
          case round =>
            obtain ⟨k, rfl, hkA, hBq⟩ := hrel
            obtain ⟨hk0, hkg⟩ := hkA.out
            by_cases hK : k < ((readyL b).length : Int)
            · cases gk with
              | zero => omega
              | succ gq =>
                obtain ⟨ae, rfl, r0⟩ := Kd.at_int (hR.out.1.below hBq.out).C.2 k hk0 hK
                have u0 := decide_eq_true hk0
                have u1 := decide_eq_true hK
                have v0 := eq_true hk0
                have v1 := eq_true hK
                have hkw : wrap64 (k + 1) = k + 1 := IntWalk.wrap64_in _ (by have : (readyL b).length ≤ 1000 := (by have := (hP.out.pl.ok).cnt; have := (outL_len b (Ep.lst b 64) b.ws.length).1; have := hig'.out; unfold readyL; omega); omega)
                by_cases hm : rd (readyL b) k = 1099511627776
                · have hin : (1099511627776 : Int) ∈ readyL b := by
                    rw [← hm]
                    unfold rd
                    rw [List.getD_eq_getElem?_getD, List.getElem?_eq_getElem (by omega)]
                    exact List.getElem_mem _
                  have hhl := hH.out.told hP.out.pl.ok hin
                  have HC := (catchmentlaw09_held.calls 200 A ca l 1099511627776 true wr (Kd.C_below hA0.out.1 (below_then (hR.out.2.len.2.2) (hR.out.2.len.2.2).size hBq.out)) hA0.out.2.2.2.1 (held_yes hhl)).mono (R' := fun e w5 => e = .returned (.bool true) ∧ Aside0 (Below wr.heap.size wr w5)) (fun e w5 q => ⟨q.1, ⟨drawn_below q.2⟩⟩)
                  have e9 : (rd (readyL b) k == 1099511627776) = true := beq_iff_eq.mpr hm
                  clear hm hin hhl hk0 hkg hK hold
                  go_wp2_with (go_at_call 17; refine HC.mono ?_; clear HC; rintro e w5 ⟨rfl, hB5⟩)
                  go_roundg gq
                  case measure => omega
                  case rel => exact ⟨k + 1, by first | rfl | rw [hkw], ⟨by have := hkA.out; omega, by have := hkA.out; omega⟩, ⟨below_then hBq.out hBq.out.size hB5.out⟩⟩
                · have e9 : (rd (readyL b) k == 1099511627776) = false := beq_eq_false_iff_ne.mpr hm
                  clear hm hk0 hkg hK hold
                  go_wp2
                  go_roundg gq
                  case measure => omega
                  case rel => exact ⟨k + 1, by first | rfl | rw [hkw], ⟨by have := hkA.out; omega, by have := hkA.out; omega⟩, hBq⟩
            · have u1 := decide_eq_false hK
              have hPq := Aside0.mk (hR.out.2.below hBq.out)
              have hbq := hPq.out.len.2.1
              have hlq := hPq.out.len.1
              have RR := (hPq.out.rready (by have := hig'.out; omega)).mono (R' := fun e w5 => ∃ (cs' : List Value) (C : Option Addr) (n cc : Nat), e = .returned (.tuple #[.agg cs'.toArray, .slice C n cc]) ∧ Aside0 (Pq w p w1.heap.size (i.toNat + 63) (readyR b) (readyR b) cs cs' w5)) (fun e w5 ⟨cs', C, n, cc, q, r⟩ => ⟨cs', C, n, cc, q, ⟨r⟩⟩)
              have hH2 := Aside0.mk (hH.out.ready hP.out.pl.ok)
              clear hK hk0 hkg hold
              go_wp2_with (first
                | (refine loadB rfl _ rfl _ rfl cs hbq hlq.1 ?_; clear hbq)
                | (go_at_call 18; refine RR.mono ?_; clear RR; rintro e w5 ⟨cs', C5, n5, c5, rfl, hQ5⟩)
                | (refine storeB rfl _ _ rfl _ rfl cs' cs rfl hQ5.out.2.1 hlq.1 hQ5.out.1.1 hQ5.out.1.2 ?_; rintro w9 h9 f9; have hP9 := Aside0.mk (hQ5.out.2.2 w9 h9 f9); clear h9 f9))
              go_roundg g
              case measure => omega
              case rel => exact ⟨i + 1, _, _, by first | rfl | rw [hwi], ⟨by have := hiA.out; omega, by have := hiA.out; omega⟩, ⟨hP9.out.wide (by have := hiA.out; omega)⟩, hH2⟩
        · have hPd := hP.out.pl.below (below_drew1 (Below.refl _ _))
          have hgd : wr.drew.heap[w1.heap.size]? = some (objB cs) := hg
          have hpg : w.heap.size ≤ w1.heap.size := hP.out.pl.base
          have hbk : (ad.add (i.toNat * 3)).block ≠ w1.heap.size := by omega
          have SP := (hPd.step (by have := hig'.out; omega) d.f0 d.f1 d.f2 hwd).mono (R' := fun e w2 => ∃ cs', e = .returned (.tuple #[.agg cs'.toArray, .bool true]) ∧ (w2.cell? (ad.add (i.toNat * 3)) = some (.int .i64 d.f0) ∧ w2.cell? ⟨(ad.add (i.toNat * 3)).block, (ad.add (i.toNat * 3)).off + 1, none⟩ = some (.int .i64 d.f1) ∧ w2.cell? ⟨(ad.add (i.toNat * 3)).block, (ad.add (i.toNat * 3)).off + 2, none⟩ = some (.int .i64 d.f2)) ∧ Aside0 (Pm w p w1.heap.size (i.toNat + 63) (stepR b d.f0 d.f1 d.f2) cs cs' w2)) (by
            rintro e w2 ⟨cs', rfl, hB2, r⟩
            exact ⟨cs', rfl, ⟨cell_b hB2 o0, cell_b hB2 o1, cell_b hB2 o2⟩, ⟨r⟩⟩)
          have hH2 := Aside0.mk (hH.out.step hP.out.pl.ok d.f0 d.f1 d.f2 (fun q => n1 ⟨q.1, by have := hSs.out; omega⟩) n2)
          clear hi0 hig hA hB6 hwd hold hP hPd h1 hg o0 o1 o2 n1 n2
          rcases hc with ⟨e1, e2, e3, e4⟩ | ⟨e1, e2, e3, e4⟩ | ⟨e1, e2, e3⟩ <;> (
          go_wp2
          refine wp_region_held_drew (S := (fun w' => w'.cell? (ad.add (i.toNat * 3)) = some (.int .i64 d.f0) ∧ w'.cell? ⟨(ad.add (i.toNat * 3)).block, (ad.add (i.toNat * 3)).off + 1, none⟩ = some (.int .i64 d.f1) ∧ w'.cell? ⟨(ad.add (i.toNat * 3)).block, (ad.add (i.toNat * 3)).off + 2, none⟩ = some (.int .i64 d.f2))) (by kernel_rfl) ⟨q0, q1, q2⟩ (fun hHeld => ?_)
          refine wpAnyH_take (i := 0) (oi := ⟨some 116, _, _, _, _, _⟩) (v := ?_) rfl (by kernel_rfl) (by kernel_rfl) (by kernel_rfl) (fun _ _ _ h => h) (Or.inl ⟨by rfl, ?_⟩) (by assumption) ?_
          rotate_left
          · intro w hSw
            (try dsimp only at hSw)
            go_simp
            (try with_reducible rfl)
          (try simp only [Act.put, List.setIfInBounds_toArray, List.set_cons_zero, List.set_cons_succ])
          refine wpAnyH_take (i := 2) (oi := ⟨some 118, _, _, _, _, _⟩) (v := ?_) rfl (by kernel_rfl) (by kernel_rfl) (by kernel_rfl) (fun _ _ _ h => h) (Or.inl ⟨by rfl, ?_⟩) (by assumption) ?_
          rotate_left
          · intro w hSw
            (try dsimp only at hSw)
            go_simp
            (try with_reducible rfl)
          (try simp only [Act.put, List.setIfInBounds_toArray, List.set_cons_zero, List.set_cons_succ])
          refine wpAnyH_take (i := 3) (oi := ⟨some 119, _, _, _, _, _⟩) (v := ?_) rfl (by kernel_rfl) (by kernel_rfl) (by kernel_rfl) (fun _ _ _ h => h) (Or.inl ⟨by rfl, ?_⟩) (by assumption) ?_
          rotate_left
          · intro w hSw
            (try dsimp only at hSw)
            go_simp
            (try with_reducible rfl)
          (try simp only [Act.put, List.setIfInBounds_toArray, List.set_cons_zero, List.set_cons_succ])
          refine wpAnyH_take (i := 4) (oi := ⟨some 120, _, _, _, _, _⟩) (v := ?_) rfl (by kernel_rfl) (by kernel_rfl) (by kernel_rfl) (fun _ _ _ h => h) (Or.inl ⟨by rfl, ?_⟩) (by assumption) ?_
          rotate_left
          · intro w hSw
            (try dsimp only at hSw)
            go_simp
            (try with_reducible rfl)
          (try simp only [Act.put, List.setIfInBounds_toArray, List.set_cons_zero, List.set_cons_succ])
          refine wpAnyH_take (i := 5) (oi := ⟨some 121, _, _, _, _, _⟩) (v := ?_) rfl (by kernel_rfl) (by kernel_rfl) (by kernel_rfl) (fun _ _ _ h => h) (Or.inl ⟨by rfl, ?_⟩) (by assumption) ?_
          rotate_left
          · intro w hSw
            (try dsimp only at hSw)
            go_simp
            (try with_reducible rfl)
          (try simp only [Act.put, List.setIfInBounds_toArray, List.set_cons_zero, List.set_cons_succ])
          refine wpAnyH_ready (rs := [1]) (by kernel_rfl) (by simp) (AllReadyH.cons (i := 1) (o := ⟨some 117, _, _, _, _, _⟩) rfl (fun K' hK' => ?_) AllReadyH.nil)
          rw [if_pos (by rfl)]
          refine wp_loadB (.tmp 8) rfl w1.heap.size rfl cs hgd hl ?_
          have hHo := hHeld
          clear hHeld
          refine hK'.out _ _ hHo (fun hHeld => ?_)
          clear hK' K'
          (try simp only [Act.put, List.setIfInBounds_toArray, List.set_cons_zero, List.set_cons_succ])
          refine wpAnyH_ready (rs := [6]) (by kernel_rfl) (by simp) (AllReadyH.cons (i := 6) (o := ⟨some 122, _, _, _, _, _⟩) rfl (fun K' hK' => ?_) AllReadyH.nil)
          rw [if_pos (by rfl)]
          go_simp
          go_at_call 9
          refine SP.mono ?_
          clear SP
          rintro e_ w3 ⟨cs', rfl, hS3, hM⟩
          clear hHeld
          refine hK'.out _ _ hS3 (fun hHeld => ?_)
          clear hK' K'
          (try simp only [Act.put, List.setIfInBounds_toArray, List.set_cons_zero, List.set_cons_succ])
          refine wpAnyH_take (i := 7) (oi := ⟨some 115, _, _, _, _, _⟩) (v := ?_) rfl (by kernel_rfl) (by kernel_rfl) (by kernel_rfl) (fun _ _ _ h => h) (Or.inl ⟨by rfl, ?_⟩) (by assumption) ?_
          rotate_left
          · intro w hSw
            (try dsimp only at hSw)
            go_simp
            (try with_reducible rfl)
          (try simp only [Act.put, List.setIfInBounds_toArray, List.set_cons_zero, List.set_cons_succ])
          refine wpAnyH_take (i := 8) (oi := ⟨some 123, _, _, _, _, _⟩) (v := ?_) rfl (by kernel_rfl) (by kernel_rfl) (by kernel_rfl) (fun _ _ _ h => h) (Or.inl ⟨by rfl, ?_⟩) (by assumption) ?_
          rotate_left
          · intro w hSw
            (try dsimp only at hSw)
            go_simp
            (try with_reducible rfl)
          (try simp only [Act.put, List.setIfInBounds_toArray, List.set_cons_zero, List.set_cons_succ])
          refine wpAnyH_take (i := 9) (oi := ⟨some 124, _, _, _, _, _⟩) (v := ?_) rfl (by kernel_rfl) (by kernel_rfl) (by kernel_rfl) (fun _ _ _ h => h) (Or.inl ⟨by rfl, ?_⟩) (by assumption) ?_
          rotate_left
          · intro w hSw
            (try dsimp only at hSw)
            go_simp
            (try with_reducible rfl)
          (try simp only [Act.put, List.setIfInBounds_toArray, List.set_cons_zero, List.set_cons_succ])
          refine wpAnyH_ready (rs := [10]) (by kernel_rfl) (by simp) (AllReadyH.cons (i := 10) (o := ⟨none, _, _, _, _, _⟩) rfl (fun K' hK' => ?_) AllReadyH.nil)
          rw [if_pos (by rfl)]
          refine wp_storeB (.tmp 8) (.tmp 123) rfl w1.heap.size rfl cs' cs rfl hM.out.2.2.2.1 hM.out.2.2.1 hM.out.1 hM.out.2.1 ?_
          intro w9 h9 f9
          have hHo := hHeld
          clear hHeld
          refine hK'.out _ _ ⟨fr_cell f9 hHo.1 hbk, fr_cell f9 hHo.2.1 hbk, fr_cell f9 hHo.2.2 hbk⟩ (fun hHeld => ?_)
          clear hK' K'
          (try simp only [Act.put, List.setIfInBounds_toArray, List.set_cons_zero, List.set_cons_succ])
          refine wpAnyH_done (by kernel_rfl) ?_ _
          have hPl : Aside0 (Pl w p w1.heap.size (i.toNat + 63 + 1) (stepR b d.f0 d.f1 d.f2) cs' w9) := ⟨hM.out.2.2.2.2 w9 h9 f9⟩
          clear hM f9 hHo hbk hgd h9
          go_wp2
          go_roundg g
          case measure => omega
          case rel => exact ⟨i + 1, _, _, by first | rfl | rw [hwi], ⟨by have := hiA.out; omega, by have := hiA.out; omega⟩, ⟨by rw [show (i + 1).toNat + 63 = i.toNat + 63 + 1 by have := hiA.out; omega]; exact hPl.out.ph⟩, hH2⟩)
    · have hor : decide (i < (more.length : Int)) = false ∨ (decide (i < (more.length : Int)) = true ∧ decide (i < 60) = false) := by
        by_cases hA2 : i < (more.length : Int)
        · exact .inr ⟨decide_eq_true hA2, decide_eq_false (fun q => hA ⟨hA2, q⟩)⟩
        · exact .inl (decide_eq_false hA2)
      have LV := live_any wr
      have IN : ∀ W, Below wr.heap.size wr W → Calls Try.prog 19 #[.pointer (some ⟨p, 0, none⟩), .int .i64 sI] W fun e w' => e = .returned (.bool true) ∧ Aside0 (Below w.heap.size w w') := fun W hb => by
        have hs := hSs.out
        refine ((hP.out.below hb).isin sI (WalkArith.wf_i64 (by omega))).mono ?_
        rintro e w' ⟨rfl, hw⟩
        obtain rfl := hw.symm
        refine ⟨?_, ⟨(hP.out.below hb).len.2.2⟩⟩
        rw [inF_in (by omega) (by rw [hH.out.s4]; omega), hH.out.I]
      clear hA hi0 hig hP hiA hA0
      rcases hor with d1 | ⟨d1, d2⟩ <;> (
      go_wp2_with (first
        | (go_at_call 8; refine LV.mono ?_; clear LV; rintro e w2 ⟨rfl, hB2⟩; replace IN := IN w2 hB2)
        | (go_at_call 19; refine IN.mono ?_; clear IN; rintro e w3 ⟨rfl, hB3⟩))
      go_ret
      exact ⟨rfl, hB3.out⟩)
end Go.Proofs.Ytlpganbcnhiidaa.Ep
end
section
namespace Go.Proofs.Ytlpganbcnhiidaa.P
open Go.RowKit Go.Proofs.YtlpganbcnhiidaaW.PrintWords
def whos (l : List S36) : Bool := l.all fun d => (Lit.int .i64 d.f1).wf
theorem whos_wf {l : List S36} (h : ∀ a ∈ l, wf36 a) : whos l = true := List.all_eq_true.2 fun d hd => (h d hd).2.1
theorem whos_out {l : List S36} (h : whos l = true) : ∀ d ∈ l, (Lit.int .i64 d.f1).wf = true := List.all_eq_true.1 h
end Go.Proofs.Ytlpganbcnhiidaa.P
end
section
namespace Go.Proofs.Ytlpganbcnhiidaa.P
open Go.RowKit Go.Proofs.YtlpganbcnhiidaaW.PrintWords
def catchmentlaw09_EpochHolds.f (k : Nat) (l0 l1 : List S36) (i2 : Int) : Option Bool := if whos l0 = true ∧ whos l1 = true ∧ 0 ≤ i2 ∧ i2 ≤ 255 then some true else none
theorem catchmentlaw09_EpochHolds.calls (k : Nat) (A0 : Option Addr) (c0 : Nat) (l0 : List S36) (A1 : Option Addr) (c1 : Nat) (l1 : List S36) (i2 : Int) (r : Bool) (w : World) (hr0 : Kd.C k36 w A0 l0.length l0) (hc0 : l0.length ≤ c0) (hr1 : Kd.C k36 w A1 l1.length l1) (hc1 : l1.length ≤ c1) (h : catchmentlaw09_EpochHolds.f k l0 l1 i2 = some r) :
    Calls Try.prog 4 #[.slice A0 l0.length c0, .slice A1 l1.length c1, .int .u8 i2] w fun e w' => e = .returned (.bool r) ∧ Below w.heap.size w w' := by
  unfold catchmentlaw09_EpochHolds.f at h
  split at h
  · rename_i hq
    cases h
    exact Ep.holds_ok i2 hq.2.2 hc0 hr0 hr1 (whos_out hq.1) (whos_out hq.2.1)
  · cases h
theorem catchmentlaw09_EpochHolds.yes (l0 l1 : List S36) (i2 : Int) (h0 : ∀ a ∈ l0, wf36 a) (h1 : ∀ a ∈ l1, wf36 a) (h2 : (Lit.int .u8 i2).wf = true) : catchmentlaw09_EpochHolds.f 0 l0 l1 i2 = some true := if_pos ⟨whos_wf h0, whos_wf h1, Go.bounds_u8 h2⟩
end Go.Proofs.Ytlpganbcnhiidaa.P
end
section
namespace Go.Proofs.Ytlpganbcnhiidaa.Pure
open Go.RowKit Go.Proofs.Ytlpganbcnhiidaa.P Go.Proofs.YtlpganbcnhiidaaW.PrintWords Go.Proofs.YtlpganbcnhiidaaW.PrintLast Go.Proofs.YtlpganbcnhiidaaW.PrintMore
theorem EpochHolds : ∀ (x0 : (List S36)) (x1 : (List S36)) (x2 : Int), (x0.length * 24 ≤ 140737488351232 ∧ ∀ a_ ∈ x0, wf36 a_) → (x1.length * 24 ≤ 140737488351232 ∧ ∀ a_ ∈ x1, wf36 a_) → ((Lit.int .u8 x2).wf = true) → ∃ k, catchmentlaw09_EpochHolds.f k x0 x1 x2 = some true := by
  intro x0 x1 x2 h0 h1 h2; exact ⟨0, catchmentlaw09_EpochHolds.yes _ _ _ h0.2 h1.2 h2⟩
end Go.Proofs.Ytlpganbcnhiidaa.Pure
end
section
namespace Go.Proofs.Ytlpganbcnhiidaa.epochHolds
open Go.ChangeShapes Go.WideShapes Go.ChangeAt Go.RowKit Go.Proofs.Ytlpganbcnhiidaa.P Go.Proofs.Ytlpganbcnhiidaa.Rd Go.Proofs.YtlpganbcnhiidaaW.PrintWords
open Go.ChangeMaps (open_string shut_string)
theorem own : ownKnob Try.prog.godebug = none := by kernel_rfl
theorem laidOut : laidOutB Try.prog = true := by kernel_rfl
set_option maxHeartbeats 2000000 in
set_option maxRecDepth 100000 in
theorem lifted (os : Os) (started : os.Started) (H : Type) (enc : TypeId × Value → H) :
    ReturnsInHanded {} Try.checked os 4 .any (Rows.epochHoldsSpec.pre6 enc Try.prog Try.f4 Rows.epochHoldsRow.domain false) (Rows.epochHoldsSpec.post enc Try.prog Try.f4 false true false false) := by
  refine returnsInHanded_of_change_sized (C := Try.checked) own started (by kernel_rfl) Try.func4
    (ChangeSpec.witness6 (enc := enc) (C := Try.checked) false ⟨#[], #[.slice none 0 0, .slice none 0 0, .int .u8 0], []⟩ 8 (by kernel_rfl) (by kernel_rfl) (by kernel_rfl) (by kernel_rfl)) ?_
  intro W base args ds gs before hval0 hW hcnd hsz0 _
  have hsz : (DataW.weightsEach Try.prog (Try.f4.params.toList ++ Rows.epochHoldsSpec.plain.varTypes Try.prog) (ds ++ gs)).all (· ≤ reachBytes) = true := hsz0
  have hval : ∀ (j : Nat) t v, Try.f4.params[j]? = some t → args[j]? = some v → Value.okWide Try.prog W .any base t v := hval0
  have hW' := hW
  obtain ⟨p, q, hA0, hV, rfl, hfz, hnd⟩ := hW
  have hA : DataW.TrodAll enc Try.prog W 0 (fun _ => true) true Try.f4.params.toList args.toList ds p := hA0
  rw [Try.params4] at hA hval hsz
  obtain ⟨v0, vs0, d0, ds0, p0, q0, hargs, rfl, rfl, h0, r0⟩ := trodAll_cons hA
  obtain ⟨v1, vs1, d1, ds1, p1, q1, rfl, rfl, rfl, h1, r1⟩ := trodAll_cons r0
  obtain ⟨v2, vs2, d2, ds2, p2, q2, rfl, rfl, rfl, h2, r2⟩ := trodAll_cons r1
  obtain ⟨rfl, rfl, rfl⟩ := trodAll_nil r2
  obtain rfl : args = #[v0, v1, v2] := by cases args; simp_all
  obtain ⟨rfl, rfl⟩ := trodVars_none hV
  have k0 := h0
  have lt0 : ∀ x ∈ p0, x.block < W.heap.size := by obtain ⟨m, hm⟩ := k0; exact DataW.trod_lt m _ _ _ hm
  have ww0 : ∀ n ∈ d0.weights Try.prog 22, n ≤ reachBytes := fun n hn => by simpa using List.all_eq_true.1 hsz n (DataW.weights_mem_each (j := 0) rfl rfl n hn)
  obtain ⟨ad0, len0, cap0, rfl⟩ := okWide_slice Try.underlying22 (hval 0 22 v0 rfl rfl)
  obtain ⟨fu0, hf0⟩ := h0
  obtain ⟨x0, kx0, w0⟩ := o22.down hf0 ww0
  obtain ⟨A0, c0, e0, hc0, hr0⟩ := kx0
  obtain ⟨rfl, rfl, rfl⟩ : ad0 = A0 ∧ len0 = x0.length ∧ cap0 = c0 := by simpa [Value.cells] using e0
  have k1 := h1
  have lt1 : ∀ x ∈ p1, x.block < W.heap.size := by obtain ⟨m, hm⟩ := k1; exact DataW.trod_lt m _ _ _ hm
  have ww1 : ∀ n ∈ d1.weights Try.prog 22, n ≤ reachBytes := fun n hn => by simpa using List.all_eq_true.1 hsz n (DataW.weights_mem_each (j := 1) rfl rfl n hn)
  obtain ⟨ad1, len1, cap1, rfl⟩ := okWide_slice Try.underlying22 (hval 1 22 v1 rfl rfl)
  obtain ⟨fu1, hf1⟩ := h1
  obtain ⟨x1, kx1, w1⟩ := o22.down hf1 ww1
  obtain ⟨A1, c1, e1, hc1, hr1⟩ := kx1
  obtain ⟨rfl, rfl, rfl⟩ : ad1 = A1 ∧ len1 = x1.length ∧ cap1 = c1 := by simpa [Value.cells] using e1
  have k2 := h2
  have lt2 : ∀ x ∈ p2, x.block < W.heap.size := by obtain ⟨m, hm⟩ := k2; exact DataW.trod_lt m _ _ _ hm
  have ww2 : ∀ n ∈ d2.weights Try.prog 5, n ≤ reachBytes := fun n hn => by simpa using List.all_eq_true.1 hsz n (DataW.weights_mem_each (j := 2) rfl rfl n hn)
  obtain ⟨y2, rfl⟩ := okWide_int Try.underlying5 (hval 2 5 v2 rfl rfl)
  obtain ⟨fu2, hf2⟩ := h2
  obtain ⟨x2, kx2, w2⟩ := o5.down hf2 ww2
  obtain rfl : x2 = y2 := Eq.symm (by simpa [Value.cells, Kd.int, Kd.scalar] using kx2)
  clear hA0 hval0 hsz0 hsz
  obtain ⟨k_, hp⟩ := Pure.EpochHolds x0 x1 x2 w0 w1 w2
  refine (catchmentlaw09_EpochHolds.calls (k := k_) (r := true) (w := W) (hr0 := hr0) (hc0 := hc0) (hr1 := hr1) (hc1 := hc1) (h := hp)).mono fun e W' ⟨he, bel0⟩ => ?_
  have bel : Below W.heap.size W W' := bel0
  subst he
  exact ⟨_, rfl, _, _, _, [], _, [], hW', trodAll_mk1 (shut_bool Try.underlying4 _), (trodAll_cons_mk (Below.trod laidOut (by kernel_rfl) (of_decide_eq_true (by kernel_rfl)) k0 bel lt0) (trodAll_cons_mk (Below.trod laidOut (by kernel_rfl) (of_decide_eq_true (by kernel_rfl)) k1 bel lt1) (trodAll_cons_mk (Below.trod laidOut (by kernel_rfl) (of_decide_eq_true (by kernel_rfl)) k2 bel lt2) trodAll_mk0))), rfl, bel.frame _, fun h => by cases h⟩
theorem over : Rows.epochHoldsRow.holds Try.pinned (OpenSpec.ofChange Rows.epochHoldsSpec) :=
  OpenClaim.holds_of_wide 4 Try.f4 rfl rfl rfl rfl rfl rfl rfl ⟨rfl, rfl, rfl, rfl, rfl⟩ rfl rfl rfl rfl rfl (by kernel_rfl) Try.func4 (by kernel_rfl)
    (of_decide_eq_true (by kernel_rfl)) (by unfold Func.isWrapper; first | (rw [if_pos (by decide +kernel)]; kernel_rfl) | (rw [if_neg (by decide +kernel)]; exact ⟨rfl, rfl⟩))
    (fun os started H enc _ => lifted os started H enc)
end Go.Proofs.Ytlpganbcnhiidaa.epochHolds
namespace Go.Proofs.Ytlpganbcnhiidaa
theorem epochHolds_holds : Rows.EpochHoldsSaid := epochHolds.over
#print axioms epochHolds_holds
end Go.Proofs.Ytlpganbcnhiidaa
end
