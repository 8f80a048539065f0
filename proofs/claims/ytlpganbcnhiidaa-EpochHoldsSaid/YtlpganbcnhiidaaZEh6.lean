/- Texts of one claim (laid by shake.py). -/
import Derived.Test.YtlpganbcnhiidaaZEh5
import Derived.Deep.LoopGhost
set_option linter.unusedVariables false
set_option linter.unusedSimpArgs false
section
namespace Go.Proofs.Ytlpganbcnhiidaa.Ep
open Go Go.RowKit Go.Maps Go.Proofs.YtlpganbcnhiidaaW.PrintWords Go.Proofs.YtlpganbcnhiidaaW.PrintLast Go.Proofs.YtlpganbcnhiidaaW.PrintMore Go.Proofs.Ytlpganbcnhiidaa.Own Go.Proofs.Ytlpganbcnhiidaa.Ord Go.Proofs.Ytlpganbcnhiidaa.P
set_option maxHeartbeats 2000000
set_option maxRecDepth 100000
def Cut (ts : List (Int × Int)) (t : Int) (k : Nat) : Prop := k ≤ ts.length ∧ (∀ j q, j < k → ts[j]? = some q → q.2 < t) ∧ (∀ j q, k ≤ j → ts[j]? = some q → ¬ q.2 < t)
def BsR (k : Nat) (e : Ending) : Prop := ∃ f, e = .returned (.tuple #[.int .i64 ((k : Nat) : Int), .bool f])
theorem bs_any {w : World} {A : Option Addr} {c : Nat} {ts : List (Int × Int)} (hR : RT w A ts) (hlen : ts.length ≤ 100000) (t : Int) (ht : -1000000000 ≤ t ∧ t ≤ 1000000000) (hb : ∀ q ∈ ts, -1000000000 ≤ q.2 ∧ q.2 ≤ 1000000000) (hm : ∀ (i j : Nat) (p q : Int × Int), i ≤ j → ts[i]? = some p → ts[j]? = some q → p.2 ≤ q.2) :
    Calls Try.prog 31 #[.slice A ts.length c, .int .i64 t, .func (.func 32) #[] #[]] w fun e w' => ∃ k, BsR k e ∧ Cut ts t k ∧ Below w.heap.size w w' := by
  have hut := Try.underlying65
  have hA := Aside0.mk (And.intro ht (And.intro hb hm))
  have hRA := Aside0.mk hR
  have hL := Aside0.mk hlen
  clear ht hb hm hR
  go_enter Try.func31, Try.ntmps31
  go_wp2
  go_loopg [9, 10] ts.length (fun kx s9 s10 wr => ∃ lo hi : Nat, s9 = .int .i64 lo ∧ s10 = .int .i64 hi ∧ lo ≤ hi ∧ hi ≤ ts.length ∧ hi - lo ≤ kx ∧ Aside0 (Below w.heap.size w wr) ∧
    Aside0 ((∀ j q, j < lo → ts[j]? = some q → q.2 < t) ∧ (∀ j q, hi ≤ j → ts[j]? = some q → ¬ q.2 < t)))
  case atStart => exact ⟨0, ts.length, rfl, rfl, Nat.zero_le _, Nat.le_refl _, by omega, ⟨Below.refl _ _⟩, ⟨fun j q hj => absurd hj (Nat.not_lt_zero _), fun j q h1 h2 => by have := (List.getElem?_eq_some_iff.1 h2).1; omega⟩⟩
  case round =>
    obtain ⟨lo, hi, rfl, rfl, hlh, hin, hg, hBr, I⟩ := hrel
    by_cases hlt : lo < hi
    · obtain ⟨g0, rfl, hcs⟩ := (hRA.out.below hBr.out) (by omega)
      have hx : ts[(lo + hi) / 2]? = some ts[(lo + hi) / 2] := List.getElem?_eq_getElem (by omega)
      obtain ⟨c1, c2⟩ := hcs _ _ hx
      have hbq := hA.out.2.1 _ (List.mem_of_getElem? hx)
      generalize ts[(lo + hi) / 2] = q at c1 c2 hx hbq
      have hw2 : wrap64 (q.2 - t) = q.2 - t := IntWalk.wrap64_in _ (by have := hA.out.1; omega)
      have hb1 := Aside0.mk (below_alloc hBr.out (.cells #[.int .i64 q.1, .int .i64 q.2] 65))
      have hxA := Aside0.mk hx
      clear hx hcs
      by_cases hyx : q.2 < t
      · have dq : decide (q.2 - t < 0) = true := decide_eq_true (by omega)
        clear hbq
        go_wp2
        go_roundg (hi - ((lo + hi) / 2 + 1))
        case measure => omega
        case rel => exact ⟨(lo + hi) / 2 + 1, hi, by rw [show ((lo : Int) + (hi : Int)) / 2 + 1 = (((lo + hi) / 2 + 1 : Nat) : Int) by omega], rfl, by omega, hin, Nat.le_refl _, hb1, ⟨fun j z hj hz => by have := hA.out.2.2 j ((lo + hi) / 2) z q (by omega) hz hxA.out; omega, I.out.2⟩⟩
      · have dq : decide (q.2 - t < 0) = false := decide_eq_false (by omega)
        clear hbq
        go_wp2
        go_roundg ((lo + hi) / 2 - lo)
        case measure => omega
        case rel => exact ⟨lo, (lo + hi) / 2, rfl, by rw [show ((lo : Int) + (hi : Int)) / 2 = (((lo + hi) / 2 : Nat) : Int) by omega], by omega, by omega, Nat.le_refl _, hb1, ⟨I.out.1, fun j z hj hz => by have := hA.out.2.2 ((lo + hi) / 2) j q z hj hxA.out hz; omega⟩⟩
    · obtain rfl : hi = lo := by omega
      by_cases hn : hi < ts.length
      · obtain ⟨g0, rfl, hcs⟩ := (hRA.out.below hBr.out) (by omega)
        have hx : ts[hi]? = some ts[hi] := List.getElem?_eq_getElem (by omega)
        obtain ⟨c1, c2⟩ := hcs _ _ hx
        have hbq := hA.out.2.1 _ (List.mem_of_getElem? hx)
        generalize ts[hi] = q at c1 c2 hx hbq
        have hb1 := Aside0.mk (below_alloc hBr.out (.cells #[.int .i64 q.1, .int .i64 q.2] 65))
        have dn : decide ((hi : Int) < (ts.length : Int)) = true := decide_eq_true (by omega)
        clear hx hcs hbq
        go_wp2
        go_ret2
        exact ⟨hi, ⟨_, rfl⟩, ⟨hin, I.out.1, fun j q h1 h2 => Int.not_lt.2 (by first | exact I.out.2 j q h1 h2 | exact Int.not_lt.1 (I.out.2 j q h1 h2))⟩, hb1.out⟩
      · go_wp2
        go_ret2
        exact ⟨hi, ⟨_, rfl⟩, ⟨hin, I.out.1, fun j q h1 h2 => Int.not_lt.2 (by first | exact I.out.2 j q h1 h2 | exact Int.not_lt.1 (I.out.2 j q h1 h2))⟩, hBr.out⟩
end Go.Proofs.Ytlpganbcnhiidaa.Ep
end
section
namespace Go.Proofs.Ytlpganbcnhiidaa.Ep
open Go Go.RowKit Go.Maps Go.Proofs.YtlpganbcnhiidaaW.PrintWords Go.Proofs.YtlpganbcnhiidaaW.PrintLast Go.Proofs.YtlpganbcnhiidaaW.PrintMore Go.Proofs.Ytlpganbcnhiidaa.Own Go.Proofs.Ytlpganbcnhiidaa.Ord Go.Proofs.Ytlpganbcnhiidaa.P
set_option maxHeartbeats 2000000
set_option maxRecDepth 100000
structure Ok (b : RB) (B : Nat) : Prop where
  s1 : 1 ≤ b.s
  s2 : b.s ≤ 64
  hI : ∀ i, b.I i = true → 1 ≤ (i : Int) ∧ (i : Int) ≤ b.s
  len : b.ws.length = b.ats.length
  pw : b.ats.Pairwise (· < ·)
  at0 : ∀ a ∈ b.ats, 0 ≤ a ∧ a < b.now
  now0 : 0 ≤ b.now
  now1 : b.now ≤ B
  said : ∀ i, b.I i = true → 0 ≤ b.S i ∧ b.S i ≤ b.now
  cnt : b.ws.length ≤ B
theorem Ok.lst {b : RB} {B : Nat} (h : Ok b B) : 0 ≤ lst b 64 ∧ lst b 64 ≤ b.now := by
  obtain ⟨a1, a2, a3⟩ := lst_le b 64
  refine ⟨?_, a1⟩
  rcases a3 with q | ⟨i, _, _, q3, q4⟩
  · have := h.now0; omega
  · have := h.said i q3; omega
theorem cut_take {t : Int} : ∀ {ts : List (Int × Int)} {k : Nat}, Cut ts t k → ts.filter (fun p => decide (p.2 < t)) = ts.take k ∧ ts.filter (fun p => !decide (p.2 < t)) = ts.drop k
  | [], k, h => by simp
  | q :: ts, 0, h => by
    have ih := cut_take (t := t) (ts := ts) (k := 0) ⟨Nat.zero_le _, fun j p hj => absurd hj (Nat.not_lt_zero _), fun j p _ hp => h.2.2 (j + 1) p (Nat.zero_le _) (by simpa using hp)⟩
    have hq : ¬ q.2 < t := h.2.2 0 q (Nat.zero_le _) rfl
    rw [List.filter_cons, List.filter_cons, if_neg (by simpa using hq), if_pos (by simpa using hq), ih.1, ih.2]
    simp
  | q :: ts, k + 1, h => by
    have ih := cut_take (t := t) (ts := ts) (k := k) ⟨by have := h.1; simp at this; exact this, fun j p hj hp => h.2.1 (j + 1) p (by omega) (by simpa using hp), fun j p hj hp => h.2.2 (j + 1) p (by omega) (by simpa using hp)⟩
    have hq : q.2 < t := h.2.1 0 q (by omega) rfl
    rw [List.filter_cons, List.filter_cons, if_pos (by simpa using hq), if_neg (by simpa using hq), ih.1, ih.2]
    simp
theorem zip_maps : ∀ (l : List (Int × Int)), (l.map (·.1)).zip (l.map (·.2)) = l
  | [] => rfl
  | p :: l => by
    rw [List.map_cons, List.map_cons, List.zip_cons_cons, zip_maps l]
theorem zip_take_all (b : RB) (hl : b.ws.length = b.ats.length) : (b.ws.zip b.ats).take b.ws.length = b.ws.zip b.ats := List.take_of_length_le (by rw [List.length_zip]; omega)
theorem ready_zip {b : RB} (hl : b.ws.length = b.ats.length) {k : Nat} (h : Cut (b.ws.zip b.ats) (lst b 64) k) : (readyR b).ws.zip (readyR b).ats = (b.ws.zip b.ats).drop k ∧ readyL b = ((b.ws.zip b.ats).take k).map (·.1) := by
  obtain ⟨c1, c2⟩ := cut_take h
  unfold readyR readyL wtL atL outL
  dsimp only
  rw [zip_take_all b hl, c1, c2]
  exact ⟨zip_maps _, rfl⟩
theorem pw_mono {l : List Int} (h : l.Pairwise (· < ·)) : ∀ (i j : Nat) (x y : Int), i ≤ j → l[i]? = some x → l[j]? = some y → x ≤ y := by
  intro i j x y hij hx hy
  rcases Nat.lt_or_ge i j with q | q
  · obtain ⟨h1, rfl⟩ := List.getElem?_eq_some_iff.1 hx
    obtain ⟨h2, rfl⟩ := List.getElem?_eq_some_iff.1 hy
    exact Int.le_of_lt (List.pairwise_iff_getElem.1 h i j h1 h2 q)
  · have : i = j := by omega
    subst this
    rw [hx] at hy
    cases hy
    exact Int.le_refl _
theorem zip_mono {b : RB} {B : Nat} (h : Ok b B) : ∀ (i j : Nat) (p q : Int × Int), i ≤ j → (b.ws.zip b.ats)[i]? = some p → (b.ws.zip b.ats)[j]? = some q → p.2 ≤ q.2 := by
  intro i j p q hij hp hq
  rw [List.getElem?_zip_eq_some] at hp hq
  exact pw_mono h.pw i j _ _ hij hp.2 hq.2
theorem zip_bnd {b : RB} {B : Nat} (h : Ok b B) (hB : B ≤ 100000) : ∀ q ∈ b.ws.zip b.ats, -1000000000 ≤ q.2 ∧ q.2 ≤ 1000000000 := by
  intro q hq
  have := h.at0 q.2 (List.of_mem_zip hq).2
  have := h.now1
  omega
theorem cut3 (A : Option Addr) (n c k : Nat) (hk : k ≤ c) (W : World) : (Instr.slice 57 (.slice A n c) none (some (.int .i64 ((k : Nat) : Int))) (some (.int .i64 ((k : Nat) : Int)))).run Try.prog W = .ok (.slice A k k) W := by
  obtain ⟨i, hi, _, hs, _⟩ := infoT
  have ha : (A.map fun x => x.add 0) = A := by cases A <;> simp [Addr.add]
  simp [Instr.slice, run_underlying Try.underlying57, Instr.sliceBounds, run_sliceBound, sizeOf, typeInfo, hi, hs, ha, hk, Result.andThen]
end Go.Proofs.Ytlpganbcnhiidaa.Ep
end
section
namespace Go.Proofs.Ytlpganbcnhiidaa.Ep
open Go Go.RowKit Go.Maps Go.Proofs.YtlpganbcnhiidaaW.PrintWords Go.Proofs.YtlpganbcnhiidaaW.PrintLast Go.Proofs.YtlpganbcnhiidaaW.PrintMore Go.Proofs.Ytlpganbcnhiidaa.Own Go.Proofs.Ytlpganbcnhiidaa.Ord Go.Proofs.Ytlpganbcnhiidaa.P
set_option maxHeartbeats 2000000
set_option maxRecDepth 100000
theorem cellsT_drop : ∀ (ts : List (Int × Int)) (k : Nat), cellsT (ts.drop k) = (cellsT ts).drop (k * 2)
  | ts, 0 => by simp
  | [], k + 1 => by simp [cellsT]
  | p :: ts, k + 1 => by
    rw [List.drop_succ_cons, cellsT_drop ts k, show (k + 1) * 2 = k * 2 + 2 by omega]
    show _ = (cellsT (p :: ts)).drop (k * 2 + 2)
    unfold cellsT
    rw [List.flatMap_cons]
    rfl
theorem OT.tail {W : World} {A : Option Addr} {L c : Nat} {ts : List (Int × Int)} (h : OT W (.slice A L c) ts) (hL : ts.length = L) (k : Nat) (hk : k ≤ L) : 0 < (ts.drop k).length → ∃ ad, (if c = k then A else A.map (·.add (k * 2))) = some ad ∧ ∀ j u, (cellsT (ts.drop k))[j]? = some u → W.cell? (ad.add j) = some u := fun h0 => by
  rw [List.length_drop] at h0
  rcases h.2 with ⟨e, h1⟩ | ⟨g, cap, cur, e, _, hh, hnc, _, hcs, htk⟩
  · omega
  · injection e with e1 e2 e3
    subst e1
    subst e3
    rw [if_neg (by omega)]
    refine ⟨⟨g, k * 2, none⟩, by rw [Option.map_some, Addr.add_mid, Nat.zero_add], fun j u hu => ?_⟩
    rw [Addr.add_mid, cell_of_row _ _ _ _ _ _ hh]
    rw [cellsT_drop, List.getElem?_drop, ← htk, List.getElem?_take] at hu
    split at hu
    · simpa using hu
    · cases hu
theorem OT.cap {W : World} {A : Option Addr} {L c : Nat} {ts : List (Int × Int)} (h : OT W (.slice A L c) ts) (hL : ts.length = L) : L ≤ c := by
  rcases h.2 with ⟨e, h1⟩ | ⟨g, cap, cur, e, _, hh, hnc, _, hcs, htk⟩
  · injection e with e1 e2 e3
    omega
  · injection e with e1 e2 e3
    omega
theorem OI.frm {w w' : World} {n : Nat} {v : Value} {xs : List Int} (h : OI w n v xs) {M : Nat → Prop} (f : It.FrM M w w') (hv : ∀ k, v.ownBlock = some k → ¬ M k) : OI w' n v xs := by
  rcases h.2 with ⟨e, h0⟩ | ⟨g, cap, cur, e, hg, hh, hnc, hm, hcs, htk⟩
  · exact ⟨h.1, .inl ⟨e, h0⟩⟩
  · exact ⟨h.1, .inr ⟨g, cap, cur, e, hg, f.blk hh (hv g (by rw [e]; rfl)), hnc, hm, hcs, htk⟩⟩
theorem OI.lt {w : World} {n : Nat} {v : Value} {xs : List Int} (h : OI w n v xs) : ∀ k, v.ownBlock = some k → k < w.heap.size := fun k hk => by
  rcases h.2 with ⟨e, h0⟩ | ⟨g, cap, cur, e, hg, hh, _⟩
  · rw [e] at hk; cases hk
  · rw [e] at hk
    have : g = k := by simpa [Value.ownBlock] using hk
    subst this
    exact blk_lt hh
theorem OT.lt {w : World} {v : Value} {ts : List (Int × Int)} (h : OT w v ts) : ∀ k, v.ownBlock = some k → k < w.heap.size := fun k hk => by
  rcases h.2 with ⟨e, h0⟩ | ⟨g, cap, cur, e, hg, hh, _⟩
  · rw [e] at hk; cases hk
  · rw [e] at hk
    have : g = k := by simpa [Value.ownBlock] using hk
    subst this
    exact blk_lt hh
theorem list_appT' {W : World} {ops : Array Oper} {rest : List Oper} {o : Oper} {a : Act} {Q : Exit → Act → World → Prop} (hg : o.guard = none) (s x : Operand) (ho : o.op = .call { callee := .builtin .append, args := #[s, x], argTypes := #[57, 57] }) (hs : a.eval s = .slice none 0 0) (A : Option Addr) (c nn : Nat) (us : List (Int × Int)) (hnn : us.length = nn) (hx : a.eval x = .slice A nn c) (hn : 0 < us.length → ∃ ad, A = some ad ∧ ∀ j u, (cellsT us)[j]? = some u → W.cell? (ad.add j) = some u) (hlen : us.length ≤ 1000000)
    (h : ∀ v1 w1, OT w1 v1 us → Below W.heap.size W w1 → (∀ k, v1.ownBlock = some k → W.heap.size ≤ k) → wpList Try.prog ops Q rest (a.put o.dst v1) w1) : wpList Try.prog ops Q (o :: rest) a W := by
  subst hnn
  refine list_appT hg s x ho _ hs A c us hx [] ⟨rfl, .inl ⟨rfl, rfl⟩⟩ hn (by simpa using hlen) ?_
  intro v1 w1 e1 e2 e3
  refine h v1 w1 (by simpa using e1) ⟨e2.os, e2.tape, e2.output, e2.size, fun k hk => e2.block k hk (by simp [Value.ownBlock])⟩ (fun k hk => ?_)
  rcases e3 with q | ⟨k2, q, q2⟩
  · rw [q] at hk; cases hk
  · rw [hk] at q; cases q; exact q2
theorem ready_any {M : Nat → Prop} {w : World} {p m n : Nat} {v : Value} {b : RB} {N : Nat} (h : Bk M w p m v b n) (hO : Ok b N) (hN : N ≤ 100000) : Calls Try.prog 16 #[.pointer (some ⟨p, 0, none⟩)] w fun e w' => ∃ v' C cc, e = .returned (.slice C (readyL b).length cc) ∧ OI w' w.heap.size (.slice C (readyL b).length cc) (readyL b) ∧ Bk (fun k => M k ∨ (w.heap.size ≤ k ∧ k < w'.heap.size ∧ some k ≠ (Value.slice C (readyL b).length cc).ownBlock)) w' p m v' (readyR b) n ∧ It.FrM M w w' := by
  have hus := Try.underlying59
  have hut := Try.underlying65
  have hz : (b.ws.zip b.ats).length = b.ws.length := by rw [List.length_zip]; have := hO.len; omega
  have hform : ∃ A c, v = .slice A (b.ws.zip b.ats).length c := by
    rcases h.row.2 with ⟨e, e2⟩ | ⟨g, cap, cur, e, _⟩
    · exact ⟨none, 0, by rw [e, e2]⟩
    · exact ⟨_, _, e⟩
  obtain ⟨A, c, rfl⟩ := hform
  have hbd := h.frm (M2 := fun _ => False) (w' := w.drew) ⟨rfl, rfl, rfl, Nat.le_refl _, fun _ _ _ => rfl⟩ (fun _ _ q => q)
  have c3 := blk_cell hbd.blk 3
  simp only [List.getElem?_toArray, List.getElem?_cons_succ, List.getElem?_cons_zero] at c3
  have hc3 : w.drew.cell? ⟨p, 3, none⟩ = some (.slice A (b.ws.zip b.ats).length c) := c3
  have lb := hO.lst
  have BS : Calls Try.prog 23 #[.pointer (some ⟨p, 0, none⟩)] w.drew fun e w1 => e = .returned (.int .i64 (lst b 64)) ∧ w1.cell? ⟨p, 3, none⟩ = some (.slice A (b.ws.zip b.ats).length c) ∧ Calls Try.prog 31 #[.slice A (b.ws.zip b.ats).length c, .int .i64 (lst b 64), .func (.func 32) #[] #[]] w1 fun e w2 => ∃ k f, e = .returned (.tuple #[.int .i64 ((k : Nat) : Int), .bool f]) ∧ w2.cell? ⟨p, 3, none⟩ = some (.slice A (b.ws.zip b.ats).length c) ∧ Aside0 (Cut (b.ws.zip b.ats) (lst b 64) k ∧ Below w.heap.size w w2) := by
    refine (least_any hbd hO.hI hO.s2).mono ?_
    rintro e w1 ⟨rfl, hb1⟩
    have hb1' : Below w.heap.size w w1 := below_then (below_drew1 (Below.refl _ _)) (Nat.le_refl _) hb1
    refine ⟨rfl, cell_bel hb1 hc3, ?_⟩
    have hR : RT w (A) (b.ws.zip b.ats) := by have := h.row.reads (b.ws.zip b.ats).length (Nat.le_refl _); rwa [List.take_length] at this
    have := hO.now1
    have := hO.cnt
    refine (bs_any (hR.below hb1') (by omega) (lst b 64) (by omega) (zip_bnd hO hN) (zip_mono hO)).mono ?_
    rintro e w2 ⟨k, ⟨f, rfl⟩, hcut, hb2⟩
    exact ⟨k, f, rfl, cell_bel hb2 (cell_bel hb1 hc3), ⟨hcut, below_then hb1' hb1'.size hb2⟩⟩
  have hA := Aside0.mk (And.intro h (And.intro hO hN))
  have hzA := Aside0.mk hz
  generalize (b.ws.zip b.ats).length = L at BS hc3 hA hzA ⊢
  clear h hO hN hbd c3 lb hz
  go_enter Try.func16, Try.ntmps16
  go_wp2
  go_region_held3 (fun w' => w'.cell? ⟨p, 3, none⟩ = some (.slice A L c)) (first | assumption | exact hc3)
    (first
      | (go_at_call 23; refine BS.mono ?_; clear BS; rintro e_ w1 ⟨rfl, k3, SS⟩)
      | (go_at_call 31; refine SS.mono ?_; clear SS; rintro e_ w2 ⟨k, f, rfl, k4, hE⟩))
  obtain ⟨⟨hbk, hO, hN⟩, hzL⟩ : (Bk M w p m (.slice A L c) b n ∧ Ok b N ∧ N ≤ 100000) ∧ L = b.ws.length := ⟨hA.out, hzA.out⟩
  obtain ⟨hcut, hB2⟩ := hE.out
  have hzl : (b.ws.zip b.ats).length = L := by rw [List.length_zip]; have := hO.len; omega
  have hkL : k ≤ L := by have := hcut.1; omega
  have hLc := hbk.row.cap hzl
  have hLN : L ≤ 100000 := by have := hO.cnt; omega
  obtain ⟨z1, z2⟩ := ready_zip hO.len hcut
  have htl : ((b.ws.zip b.ats).take k).length = k := by rw [List.length_take]; omega
  have hrl : (readyL b).length = k := by rw [z2, List.length_map, htl]
  have cut1 := cut3 A L c k (by omega)
  obtain ⟨iT, hiT, _, hsT, _⟩ := infoT
  have cut2 := cut_from 57 65 .i64 Try.underlying57 hiT 2 hsT A L c ((k : Nat) : Int) (by omega) (by omega)
  rw [Int.toNat_natCast] at cut2
  have hrow2 : OT w2 (.slice A L c) (b.ws.zip b.ats) := hbk.row.frm (M := fun _ => False) (It.FrM.of_below hB2) (fun _ _ q => q)
  have TD : Calls Try.prog 33 #[.slice A k k] w2 fun e w3 => ∃ C cc, e = .returned (.slice C k cc) ∧ w3.cell? ⟨p, 3, none⟩ = some (.slice A L c) ∧ Aside0 (OI w3 w2.heap.size (.slice C k cc) (readyL b) ∧ Below w2.heap.size w2 w3) := by
    have := told_any (w := w2) (A := A) (c := k) (ts := (b.ws.zip b.ats).take k) (hrow2.reads k (by omega)) (by omega)
    rw [htl, ← z2] at this
    refine this.mono ?_
    rintro e w3 ⟨C, cc, rfl, hOI, hb3⟩
    exact ⟨C, cc, rfl, cell_bel hb3 k4, ⟨hOI, hb3⟩⟩
  have hPA := Aside0.mk (And.intro hbk (And.intro hB2 (And.intro hzl (And.intro hkL (And.intro hLN (And.intro z1 (And.intro hrl hrow2)))))))
  have hp := blk_lt hbk.blk
  clear hbk hO hN hzL hcut hB2 hzl hkL hLc hLN z1 z2 htl hrl hrow2 hA hzA hE hiT hsT
  have FIN : ∀ (C : Option Addr) (cc : Nat) (w3 w4 : World) (v4 : Value), OI w3 w2.heap.size (.slice C k cc) (readyL b) → Below w2.heap.size w2 w3 → OT w4 v4 ((b.ws.zip b.ats).drop k) → Below w3.heap.size w3 w4 → (∀ j, v4.ownBlock = some j → w3.heap.size ≤ j) → OI (w4.setCell ⟨p, 3, none⟩ v4) w.heap.size (.slice C (readyL b).length cc) (readyL b) ∧ Bk (fun j => M j ∨ (w.heap.size ≤ j ∧ j < (w4.setCell ⟨p, 3, none⟩ v4).heap.size ∧ some j ≠ (Value.slice C (readyL b).length cc).ownBlock)) (w4.setCell ⟨p, 3, none⟩ v4) p m v4 (readyR b) n ∧ It.FrM M w (w4.setCell ⟨p, 3, none⟩ v4) := by
    intro C cc w3 w4 v4 hOI hb3 O4 B4 N4
    obtain ⟨hbk, hB2, hzl, hkL, hLN, z1, hrl, hrow2⟩ := hPA.out
    rw [hrl]
    have hB3 := below_then hB2 hB2.size hb3
    have hB4 := below_then hB3 hB3.size B4
    have fs : It.FrM (fun j => j = p) w4 (w4.setCell ⟨p, 3, none⟩ v4) := frm_fr ((Fr.refl [p] w4).set (.inl (by simp)) v4) (by simp)
    have f5 : It.FrM (fun j => j = p) w (w4.setCell ⟨p, 3, none⟩ v4) := (It.FrM.of_below (M := fun j => j = p) hB4).trans fs (fun i q => .inl q)
    have s2 := hB2.size
    have s3 := hb3.size
    have s4 := B4.size
    have b4 := blk_set (blk_below hbk.blk hB4) 3 v4
    refine ⟨?_, ⟨?_, ?_, ?_, .inl hbk.mp, .inl hbk.mm, ?_⟩, f5.mono (fun i q => .inl (by rw [q]; exact hbk.mp))⟩
    · exact own_less ((hOI.below B4).frm fs (fun j hj e => by have := hOI.new j hj; omega)) s2
    · have e : (readyR b).s = b.s ∧ (readyR b).now = b.now := ⟨rfl, rfl⟩
      rw [e.1, e.2]
      simpa using b4
    · obtain ⟨c_, q⟩ := hbk.map
      exact ⟨c_, q.frm f5 (fun e => hbk.ne e.symm)⟩
    · rw [z1]
      exact O4.frm fs (fun j hj e => by have := N4 j hj; omega)
    · intro j hj
      have h1 := N4 j hj
      have h2 := O4.lt j hj
      refine .inr ⟨by omega, by simp; omega, fun e => ?_⟩
      have := hOI.lt j e.symm
      omega
  have FA := Aside0.mk FIN
  clear FIN
  go_wp2_with (first
    | (go_at_call 33; refine TD.mono ?_; clear TD; rintro e_ w3 ⟨C, cc, rfl, k5, hF⟩)
    | (at_builtin; refine list_appT' rfl _ _ rfl rfl _ _ _ ((b.ws.zip b.ats).drop k) (by rw [List.length_drop]; have := hPA.out.2.2.1; omega) rfl ((hPA.out.2.2.2.2.2.2.2.frm (M := fun _ => False) (It.FrM.of_below hF.out.2) (fun _ _ q => q)).tail hPA.out.2.2.1 k hPA.out.2.2.2.1) (by rw [List.length_drop]; have := hPA.out.2.2.1; have := hPA.out.2.2.2.2.1; omega) ?_; intro v4 w4 O4 B4 N4; have k6 := cell_bel B4 k5; have z6 : w4.frozen? ⟨p, 3, none⟩ = false := blk_frozen (blk_below hPA.out.1.blk (below_then hPA.out.2.1 hPA.out.2.1.size (below_then hF.out.2 hF.out.2.size B4))) 3; obtain ⟨A_, n_, c_, rfl⟩ := O4.form))
  all_goals (
    go_ret
    obtain ⟨h1, h2, h3⟩ := FA.out C cc _ _ _ hF.out.1 hF.out.2 O4 B4 N4
    exact ⟨_, C, cc, by rw [hPA.out.2.2.2.2.2.2.1]; rfl, h1, h2, h3⟩)
end Go.Proofs.Ytlpganbcnhiidaa.Ep
end
