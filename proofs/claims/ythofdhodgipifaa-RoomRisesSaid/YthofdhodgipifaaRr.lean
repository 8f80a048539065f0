/- RoomRises: the walk of the law: its loop over the four numbers, then what is asked of room, each answer by its contract. (Laid by a small program of this seat; numbers of functions and types by name.) -/
import Derived.Test.YthofdhodgipifaaP13
import Derived.Test.YthofdhodgipifaaWArr
import Derived.RegionTactic
import Derived.LoopTactic
import Derived.StillTailTactics
import Derived.Deep.RegionHeld3
namespace Go.Proofs.Ythofdhodgipifaa.Rr
open Go.RowKit Go.Proofs.YthofdhodgipifaaW.PrintWords Go.Proofs.YthofdhodgipifaaW.PrintLast Go.Proofs.YthofdhodgipifaaW.PrintMore Go.Proofs.Ythofdhodgipifaa.Own Go.Proofs.Ythofdhodgipifaa.P
set_option maxHeartbeats 1000000
set_option maxRecDepth 100000
abbrev cfg (c0 c1 c2 c3 c4 c5 c6 c7 c8 : Int) : Array Value := #[.int .i64 c0, .int .i64 c1, .int .i64 c2, .int .i64 c3, .int .i64 c4, .int .i64 c5, .int .i64 c6, .int .i64 c7, .int .i64 c8]
abbrev i4 (l0 l1 l2 l3 : Int) : Array Value := #[.int .i64 l0, .int .i64 l1, .int .i64 l2, .int .i64 l3]
abbrev u4 (l0 l1 l2 l3 : Int) : Array Value := #[.int .u16 l0, .int .u16 l1, .int .u16 l2, .int .u16 l3]
structure St (w : World) (C : Array Value) (l0 l1 l2 l3 m0 m1 m2 m3 n0 n1 n2 n3 : Int) (W : World) : Prop where
  c : W.heap[w.heap.size]? = some (.cells C 23 (0, 0))
  l : W.heap[w.heap.size + 1]? = some (.cells (i4 l0 l1 l2 l3) 34 (0, 0))
  m : W.heap[w.heap.size + 1 + 1]? = some (.cells (u4 m0 m1 m2 m3) 36 (0, 0))
  n : W.heap[w.heap.size + 1 + 1 + 1]? = some (.cells (i4 n0 n1 n2 n3) 34 (0, 0))
  b : Below w.heap.size w W
def up (l m : Int) : Int := if l < 2147483647 then wrap64 (l + m) else l
def upto (j : Int) (k : Nat) (l m : Int) : Int := if (k : Int) < j then up l m else 0
theorem up_yes {l m : Int} (h : l < 2147483647) : up l m = wrap64 (l + m) := if_pos h
theorem up_no {l m : Int} (h : ¬ l < 2147483647) : up l m = l := if_neg h
section
variable {w W : World} {C : Array Value} {l0 l1 l2 l3 m0 m1 m2 m3 n0 n1 n2 n3 : Int}
theorem St.set0 (h : St w C l0 l1 l2 l3 m0 m1 m2 m3 n0 n1 n2 n3 W) (x : Int) : St w C l0 l1 l2 l3 m0 m1 m2 m3 x n1 n2 n3 (W.setCell ⟨w.heap.size + 1 + 1 + 1, 0, none⟩ (.int .i64 x)) :=
  ⟨blk_far h.c (by simp; omega) _, blk_far h.l (by simp) _, blk_far h.m (by simp) _, blk_set h.n 0 _, below_set h.b (by omega)⟩
theorem St.set1 (h : St w C l0 l1 l2 l3 m0 m1 m2 m3 n0 n1 n2 n3 W) (x : Int) : St w C l0 l1 l2 l3 m0 m1 m2 m3 n0 x n2 n3 (W.setCell ⟨w.heap.size + 1 + 1 + 1, 1, none⟩ (.int .i64 x)) :=
  ⟨blk_far h.c (by simp; omega) _, blk_far h.l (by simp) _, blk_far h.m (by simp) _, blk_set h.n 1 _, below_set h.b (by omega)⟩
theorem St.set2 (h : St w C l0 l1 l2 l3 m0 m1 m2 m3 n0 n1 n2 n3 W) (x : Int) : St w C l0 l1 l2 l3 m0 m1 m2 m3 n0 n1 x n3 (W.setCell ⟨w.heap.size + 1 + 1 + 1, 2, none⟩ (.int .i64 x)) :=
  ⟨blk_far h.c (by simp; omega) _, blk_far h.l (by simp) _, blk_far h.m (by simp) _, blk_set h.n 2 _, below_set h.b (by omega)⟩
theorem St.set3 (h : St w C l0 l1 l2 l3 m0 m1 m2 m3 n0 n1 n2 n3 W) (x : Int) : St w C l0 l1 l2 l3 m0 m1 m2 m3 n0 n1 n2 x (W.setCell ⟨w.heap.size + 1 + 1 + 1, 3, none⟩ (.int .i64 x)) :=
  ⟨blk_far h.c (by simp; omega) _, blk_far h.l (by simp) _, blk_far h.m (by simp) _, blk_set h.n 3 _, below_set h.b (by omega)⟩
theorem St.drew (h : St w C l0 l1 l2 l3 m0 m1 m2 m3 n0 n1 n2 n3 W) : St w C l0 l1 l2 l3 m0 m1 m2 m3 n0 n1 n2 n3 W.drew :=
  ⟨blk_drew h.c, blk_drew h.l, blk_drew h.m, blk_drew h.n, below_drew1 h.b⟩
theorem still_tail {P : Program} {id : Nat} {Q : Exit → Act → World → Prop} {a : Act} {w : World} {l : List Oper} (n : Nat) (hm : P.follows .mixedOrders = true) (hB : Region.lexTailB .any l.toArray n = true)
    (h : ∀ W, W = w.drew → wpStill P l.toArray W (fun a' => wpList P l.toArray Q (l.drop n) a' W) (l.take n) a) : (Code.region id l.toArray true).wp P Q a w :=
  wp_region_still_tail n hm hB (h _ rfl)
end

theorem rises_calls {w : World} {c0 c1 c2 c3 c4 c5 c6 c7 c8 l0 l1 l2 l3 m0 m1 m2 m3 : Int} (hm0 : 0 ≤ m0 ∧ m0 < 65536) (hm1 : 0 ≤ m1 ∧ m1 < 65536) (hm2 : 0 ≤ m2 ∧ m2 < 65536) (hm3 : 0 ≤ m3 ∧ m3 < 65536) {k : Nat} {p0 p1 q0 q1 r0 r1 : Int}
  (hlive : catchmentlaw21_live.f k = some true) (hp0 : room_Need.f k c0 c1 c2 c3 c4 c5 c6 c7 c8 l0 = some p0) (hp1 : room_Need.f k c0 c1 c2 c3 c4 c5 c6 c7 c8 (up l0 m0) = some p1) (hp : p0 ≤ p1)
  (hq0 : room_Alone.f k c0 c1 c2 c3 c4 c5 c6 c7 c8 l0 = some q0) (hq1 : room_Alone.f k c0 c1 c2 c3 c4 c5 c6 c7 c8 (up l0 m0) = some q1) (hq : q0 ≤ q1)
  (hr0 : room_Wait.f k c0 c1 c2 c3 c4 c5 c6 c7 c8 l1 l2 l3 = some r0) (hr1 : room_Wait.f k c0 c1 c2 c3 c4 c5 c6 c7 c8 (up l1 m1) (up l2 m2) (up l3 m3) = some r1) (hr : r0 ≤ r1) :
  Calls Try.prog 5 #[.agg #[.int .i64 c0, .int .i64 c1, .int .i64 c2, .int .i64 c3, .int .i64 c4, .int .i64 c5, .int .i64 c6, .int .i64 c7, .int .i64 c8], .agg #[.int .i64 l0, .int .i64 l1, .int .i64 l2, .int .i64 l3], .agg #[.int .u16 m0, .int .u16 m1, .int .u16 m2, .int .u16 m3]] w fun e w' => e = .returned (.bool true) ∧ Below w.heap.size w w' := by
  obtain ⟨v0, ev0⟩ : ∃ v, v = up l0 m0 := ⟨_, rfl⟩
  obtain ⟨v1, ev1⟩ : ∃ v, v = up l1 m1 := ⟨_, rfl⟩
  obtain ⟨v2, ev2⟩ : ∃ v, v = up l2 m2 := ⟨_, rfl⟩
  obtain ⟨v3, ev3⟩ : ∃ v, v = up l3 m3 := ⟨_, rfl⟩
  rw [← ev0] at hp1 hq1
  rw [← ev1, ← ev2, ← ev3] at hr1
  have EV := Aside0.mk (And.intro ev0 (And.intro ev1 (And.intro ev2 ev3)))
  clear ev0 ev1 ev2 ev3
  obtain ⟨Ok, hOk⟩ : ∃ Ok : World → Prop, Ok = St w (cfg c0 c1 c2 c3 c4 c5 c6 c7 c8) l0 l1 l2 l3 m0 m1 m2 m3 v0 v1 v2 v3 := ⟨_, rfl⟩
  have okB : ∀ {W W' : World}, Ok W → Below W.heap.size W W' → Ok W' := fun {W W'} h hb => by
    subst hOk
    exact ⟨blk_below h.c hb, blk_below h.l hb, blk_below h.m hb, blk_below h.n hb, below_step h.b hb⟩
  have CL : ∀ W, Ok W → Calls Try.prog 6 #[] W fun e w' => e = .returned (.bool true) ∧ Ok w' := fun W h => (catchmentlaw21_live.calls k true W hlive).mono fun e w' q => ⟨q.1, okB h q.2⟩
  have CP0 : ∀ W, Ok W → Calls Try.prog 11 #[.agg (cfg c0 c1 c2 c3 c4 c5 c6 c7 c8), .int .i64 l0] W fun e w' => e = .returned (.int .i64 p0) ∧ Ok w' := fun W h => (room_Need.calls k _ _ _ _ _ _ _ _ _ _ _ W hp0).mono fun e w' q => ⟨q.1, okB h q.2⟩
  have CP1 : ∀ W, Ok W → Calls Try.prog 11 #[.agg (cfg c0 c1 c2 c3 c4 c5 c6 c7 c8), .int .i64 v0] W fun e w' => e = .returned (.int .i64 p1) ∧ Ok w' := fun W h => (room_Need.calls k _ _ _ _ _ _ _ _ _ _ _ W hp1).mono fun e w' q => ⟨q.1, okB h q.2⟩
  have CQ0 : ∀ W, Ok W → Calls Try.prog 12 #[.agg (cfg c0 c1 c2 c3 c4 c5 c6 c7 c8), .int .i64 l0] W fun e w' => e = .returned (.int .i64 q0) ∧ Ok w' := fun W h => (room_Alone.calls k _ _ _ _ _ _ _ _ _ _ _ W hq0).mono fun e w' q => ⟨q.1, okB h q.2⟩
  have CQ1 : ∀ W, Ok W → Calls Try.prog 12 #[.agg (cfg c0 c1 c2 c3 c4 c5 c6 c7 c8), .int .i64 v0] W fun e w' => e = .returned (.int .i64 q1) ∧ Ok w' := fun W h => (room_Alone.calls k _ _ _ _ _ _ _ _ _ _ _ W hq1).mono fun e w' q => ⟨q.1, okB h q.2⟩
  have CR0 : ∀ W, Ok W → Calls Try.prog 13 #[.agg (cfg c0 c1 c2 c3 c4 c5 c6 c7 c8), .int .i64 l1, .int .i64 l2, .int .i64 l3] W fun e w' => e = .returned (.int .i64 r0) ∧ Ok w' := fun W h => (room_Wait.calls k _ _ _ _ _ _ _ _ _ _ _ _ _ W hr0).mono fun e w' q => ⟨q.1, okB h q.2⟩
  have CR1 : ∀ W, Ok W → Calls Try.prog 13 #[.agg (cfg c0 c1 c2 c3 c4 c5 c6 c7 c8), .int .i64 v1, .int .i64 v2, .int .i64 v3] W fun e w' => e = .returned (.int .i64 r1) ∧ Ok w' := fun W h => (room_Wait.calls k _ _ _ _ _ _ _ _ _ _ _ _ _ W hr1).mono fun e w' q => ⟨q.1, okB h q.2⟩
  have okC : ∀ W', Ok W' → (W'.cell? ⟨w.heap.size, 0, none⟩ = some (.int .i64 c0) ∧ W'.cell? ⟨w.heap.size, 1, none⟩ = some (.int .i64 c1) ∧ W'.cell? ⟨w.heap.size, 2, none⟩ = some (.int .i64 c2) ∧ W'.cell? ⟨w.heap.size, 3, none⟩ = some (.int .i64 c3) ∧ W'.cell? ⟨w.heap.size, 4, none⟩ = some (.int .i64 c4) ∧ W'.cell? ⟨w.heap.size, 5, none⟩ = some (.int .i64 c5) ∧ W'.cell? ⟨w.heap.size, 6, none⟩ = some (.int .i64 c6) ∧ W'.cell? ⟨w.heap.size, 7, none⟩ = some (.int .i64 c7) ∧ W'.cell? ⟨w.heap.size, 8, none⟩ = some (.int .i64 c8) ∧ W'.cell? ⟨w.heap.size + 1, 0, none⟩ = some (.int .i64 l0) ∧ W'.cell? ⟨w.heap.size + 1, 1, none⟩ = some (.int .i64 l1) ∧ W'.cell? ⟨w.heap.size + 1, 2, none⟩ = some (.int .i64 l2) ∧ W'.cell? ⟨w.heap.size + 1, 3, none⟩ = some (.int .i64 l3) ∧ W'.cell? ⟨w.heap.size + 1 + 1 + 1, 0, none⟩ = some (.int .i64 v0) ∧ W'.cell? ⟨w.heap.size + 1 + 1 + 1, 1, none⟩ = some (.int .i64 v1) ∧ W'.cell? ⟨w.heap.size + 1 + 1 + 1, 2, none⟩ = some (.int .i64 v2) ∧ W'.cell? ⟨w.heap.size + 1 + 1 + 1, 3, none⟩ = some (.int .i64 v3)) := fun W' h => by
    subst hOk
    exact ⟨blk_cell h.c 0, blk_cell h.c 1, blk_cell h.c 2, blk_cell h.c 3, blk_cell h.c 4, blk_cell h.c 5, blk_cell h.c 6, blk_cell h.c 7, blk_cell h.c 8, blk_cell h.l 0, blk_cell h.l 1, blk_cell h.l 2, blk_cell h.l 3, blk_cell h.n 0, blk_cell h.n 1, blk_cell h.n 2, blk_cell h.n 3⟩
  have okD : ∀ W', Ok W' → Ok W'.drew := fun W' h => by subst hOk; exact h.drew
  have okW : ∀ W', Ok W' → Below w.heap.size w W' := fun W' h => by subst hOk; exact h.b
  clear hlive hp0 hp1 hq0 hq1 hr0 hr1
  have hOkA := Aside0.mk hOk
  clear hOk
  have hu23 := Try.underlying23
  have hu34 := Try.underlying34
  have hu36 := Try.underlying36
  have hu35 := Try.underlying35
  have hu3 := Try.underlying3
  have ia34 := Try.isAgg34
  go_enter Try.func5, Try.ntmps5
  go_wp2
  have hS : St w (cfg c0 c1 c2 c3 c4 c5 c6 c7 c8) l0 l1 l2 l3 m0 m1 m2 m3 0 0 0 0 (((((w.alloc (Obj.cells (cfg c0 c1 c2 c3 c4 c5 c6 c7 c8) 23)).alloc (Obj.cells (i4 l0 l1 l2 l3) 34)).alloc (Obj.cells (u4 m0 m1 m2 m3) 36)).alloc (Obj.cells (i4 0 0 0 0) 34))) := by
    have e : ∀ (w : World) o, (w.alloc o).heap.size = w.heap.size + 1 := fun w o => by simp
    refine ⟨?_, ?_, ?_, ?_, ?_⟩
    · exact blk_alloc (blk_alloc (blk_alloc (blk_new _ _) _) _) _
    · have := blk_alloc (blk_alloc (blk_new (w.alloc (Obj.cells (cfg c0 c1 c2 c3 c4 c5 c6 c7 c8) 23)) (Obj.cells (i4 l0 l1 l2 l3) 34)) (Obj.cells (u4 m0 m1 m2 m3) 36)) (Obj.cells (i4 0 0 0 0) 34)
      rwa [e] at this
    · have := blk_alloc (blk_new ((w.alloc (Obj.cells (cfg c0 c1 c2 c3 c4 c5 c6 c7 c8) 23)).alloc (Obj.cells (i4 l0 l1 l2 l3) 34)) (Obj.cells (u4 m0 m1 m2 m3) 36)) (Obj.cells (i4 0 0 0 0) 34)
      rwa [e, e] at this
    · have := (blk_new (((w.alloc (Obj.cells (cfg c0 c1 c2 c3 c4 c5 c6 c7 c8) 23)).alloc (Obj.cells (i4 l0 l1 l2 l3) 34)).alloc (Obj.cells (u4 m0 m1 m2 m3) 36)) (Obj.cells (i4 0 0 0 0) 34))
      rwa [e, e, e] at this
    · exact below_alloc (below_alloc (below_alloc (below_alloc (Below.refl _ _) _) _) _) _
  generalize (((((w.alloc (Obj.cells (cfg c0 c1 c2 c3 c4 c5 c6 c7 c8) 23)).alloc (Obj.cells (i4 l0 l1 l2 l3) 34)).alloc (Obj.cells (u4 m0 m1 m2 m3) 36)).alloc (Obj.cells (i4 0 0 0 0) 34))) = W at hS ⊢
  have hv0 : IntKind.i64.wrap m0 = m0 := IntWalk.i64_in _ (by omega)
  have hv1 : IntKind.i64.wrap m1 = m1 := IntWalk.i64_in _ (by omega)
  have hv2 : IntKind.i64.wrap m2 = m2 := IntWalk.i64_in _ (by omega)
  have hv3 : IntKind.i64.wrap m3 = m3 := IntWalk.i64_in _ (by omega)
  go_loopg [8] 4 (fun g i wr => ∃ j : Int, i = .int .i64 j ∧ 0 ≤ j ∧ j.toNat + g = 4 ∧ St w (cfg c0 c1 c2 c3 c4 c5 c6 c7 c8) l0 l1 l2 l3 m0 m1 m2 m3 (upto j 0 l0 m0) (upto j 1 l1 m1) (upto j 2 l2 m2) (upto j 3 l3 m3) wr)
  case atStart => exact ⟨0, rfl, Int.le_refl _, by simp, hS⟩
  case round =>
    obtain ⟨j, rfl, h0j, hj, hS1⟩ := hrel
    clear hS
    have hcs : j = 0 ∨ j = 1 ∨ j = 2 ∨ j = 3 ∨ j = 4 := by omega
    rcases hcs with rfl | rfl | rfl | rfl | rfl
    · have hlc : wr.cell? ⟨w.heap.size + 1, 0, none⟩ = some (.int .i64 l0) := blk_cell hS1.l 0
      have hnf : wr.frozen? ⟨w.heap.size + 1 + 1 + 1, 0, none⟩ = false := blk_frozen hS1.n 0
      have hnc : wr.cell? ⟨w.heap.size + 1 + 1 + 1, 0, none⟩ = some (.int .i64 (upto 0 0 l0 m0)) := blk_cell hS1.n 0
      have hA := Aside0.mk hS1
      clear hS1
      by_cases hl : l0 < 2147483647
      · have dl := decide_eq_true hl
        have hlA := Aside0.mk hl
        clear hl
        go_wp2_with fail
        have hA2 := Aside0.mk (hA.out.set0 l0)
        clear hA hlc hnf hnc
        refine still_tail 10 (by kernel_rfl) (by kernel_rfl) (fun W2 hW => ?_)
        simp only [List.take_succ_cons, List.take_zero, List.drop_succ_cons, List.drop_zero]
        have hS2 : St w (cfg c0 c1 c2 c3 c4 c5 c6 c7 c8) l0 l1 l2 l3 m0 m1 m2 m3 l0 (upto 0 1 l1 m1) (upto 0 2 l2 m2) (upto 0 3 l3 m3) W2 := by rw [hW]; exact hA2.out.drew
        clear hW hA2
        have hlc : W2.cell? ⟨w.heap.size + 1, 0, none⟩ = some (.int .i64 l0) := blk_cell hS2.l 0
        have hmc : W2.cell? ⟨w.heap.size + 1 + 1, 0, none⟩ = some (.int .u16 m0) := blk_cell hS2.m 0
        have hnf : W2.frozen? ⟨w.heap.size + 1 + 1 + 1, 0, none⟩ = false := blk_frozen hS2.n 0
        have hnc : W2.cell? ⟨w.heap.size + 1 + 1 + 1, 0, none⟩ = some (.int .i64 l0) := blk_cell hS2.n 0
        have hA := Aside0.mk hS2
        clear hS2
        iterate 10 still_step
        refine wpStill_nil ?_
        try simp only [hv0]
        go_wp2_with fail
        go_roundg 3
        case measure => omega
        case rel =>
          refine ⟨1, rfl, by omega, by omega, ?_⟩
          have hA4 := hA.out.set0 (wrap64 (l0 + m0))
          rw [show St w (cfg c0 c1 c2 c3 c4 c5 c6 c7 c8) l0 l1 l2 l3 m0 m1 m2 m3 (wrap64 (l0 + m0)) (upto 0 1 l1 m1) (upto 0 2 l2 m2) (upto 0 3 l3 m3) = St w (cfg c0 c1 c2 c3 c4 c5 c6 c7 c8) l0 l1 l2 l3 m0 m1 m2 m3 (up l0 m0) (upto 0 1 l1 m1) (upto 0 2 l2 m2) (upto 0 3 l3 m3) from by rw [up_yes (m := m0) (by have := hlA.out; omega)]] at hA4
          exact hA4
      · have dl := decide_eq_false hl
        have hlA := Aside0.mk hl
        clear hl
        go_wp2_with fail
        go_roundg 3
        case measure => omega
        case rel =>
          refine ⟨1, rfl, by omega, by omega, ?_⟩
          have hA4 := hA.out.set0 l0
          rw [show St w (cfg c0 c1 c2 c3 c4 c5 c6 c7 c8) l0 l1 l2 l3 m0 m1 m2 m3 l0 (upto 0 1 l1 m1) (upto 0 2 l2 m2) (upto 0 3 l3 m3) = St w (cfg c0 c1 c2 c3 c4 c5 c6 c7 c8) l0 l1 l2 l3 m0 m1 m2 m3 (up l0 m0) (upto 0 1 l1 m1) (upto 0 2 l2 m2) (upto 0 3 l3 m3) from by rw [up_no (m := m0) (by have := hlA.out; omega)]] at hA4
          exact hA4
    · have hlc : wr.cell? ⟨w.heap.size + 1, 1, none⟩ = some (.int .i64 l1) := blk_cell hS1.l 1
      have hnf : wr.frozen? ⟨w.heap.size + 1 + 1 + 1, 1, none⟩ = false := blk_frozen hS1.n 1
      have hnc : wr.cell? ⟨w.heap.size + 1 + 1 + 1, 1, none⟩ = some (.int .i64 (upto 1 1 l1 m1)) := blk_cell hS1.n 1
      have hA := Aside0.mk hS1
      clear hS1
      by_cases hl : l1 < 2147483647
      · have dl := decide_eq_true hl
        have hlA := Aside0.mk hl
        clear hl
        go_wp2_with fail
        have hA2 := Aside0.mk (hA.out.set1 l1)
        clear hA hlc hnf hnc
        refine still_tail 10 (by kernel_rfl) (by kernel_rfl) (fun W2 hW => ?_)
        simp only [List.take_succ_cons, List.take_zero, List.drop_succ_cons, List.drop_zero]
        have hS2 : St w (cfg c0 c1 c2 c3 c4 c5 c6 c7 c8) l0 l1 l2 l3 m0 m1 m2 m3 (upto 1 0 l0 m0) l1 (upto 1 2 l2 m2) (upto 1 3 l3 m3) W2 := by rw [hW]; exact hA2.out.drew
        clear hW hA2
        have hlc : W2.cell? ⟨w.heap.size + 1, 1, none⟩ = some (.int .i64 l1) := blk_cell hS2.l 1
        have hmc : W2.cell? ⟨w.heap.size + 1 + 1, 1, none⟩ = some (.int .u16 m1) := blk_cell hS2.m 1
        have hnf : W2.frozen? ⟨w.heap.size + 1 + 1 + 1, 1, none⟩ = false := blk_frozen hS2.n 1
        have hnc : W2.cell? ⟨w.heap.size + 1 + 1 + 1, 1, none⟩ = some (.int .i64 l1) := blk_cell hS2.n 1
        have hA := Aside0.mk hS2
        clear hS2
        iterate 10 still_step
        refine wpStill_nil ?_
        try simp only [hv1]
        go_wp2_with fail
        go_roundg 2
        case measure => omega
        case rel =>
          refine ⟨2, rfl, by omega, by omega, ?_⟩
          have hA4 := hA.out.set1 (wrap64 (l1 + m1))
          rw [show St w (cfg c0 c1 c2 c3 c4 c5 c6 c7 c8) l0 l1 l2 l3 m0 m1 m2 m3 (upto 1 0 l0 m0) (wrap64 (l1 + m1)) (upto 1 2 l2 m2) (upto 1 3 l3 m3) = St w (cfg c0 c1 c2 c3 c4 c5 c6 c7 c8) l0 l1 l2 l3 m0 m1 m2 m3 (upto 1 0 l0 m0) (up l1 m1) (upto 1 2 l2 m2) (upto 1 3 l3 m3) from by rw [up_yes (m := m1) (by have := hlA.out; omega)]] at hA4
          exact hA4
      · have dl := decide_eq_false hl
        have hlA := Aside0.mk hl
        clear hl
        go_wp2_with fail
        go_roundg 2
        case measure => omega
        case rel =>
          refine ⟨2, rfl, by omega, by omega, ?_⟩
          have hA4 := hA.out.set1 l1
          rw [show St w (cfg c0 c1 c2 c3 c4 c5 c6 c7 c8) l0 l1 l2 l3 m0 m1 m2 m3 (upto 1 0 l0 m0) l1 (upto 1 2 l2 m2) (upto 1 3 l3 m3) = St w (cfg c0 c1 c2 c3 c4 c5 c6 c7 c8) l0 l1 l2 l3 m0 m1 m2 m3 (upto 1 0 l0 m0) (up l1 m1) (upto 1 2 l2 m2) (upto 1 3 l3 m3) from by rw [up_no (m := m1) (by have := hlA.out; omega)]] at hA4
          exact hA4
    · have hlc : wr.cell? ⟨w.heap.size + 1, 2, none⟩ = some (.int .i64 l2) := blk_cell hS1.l 2
      have hnf : wr.frozen? ⟨w.heap.size + 1 + 1 + 1, 2, none⟩ = false := blk_frozen hS1.n 2
      have hnc : wr.cell? ⟨w.heap.size + 1 + 1 + 1, 2, none⟩ = some (.int .i64 (upto 2 2 l2 m2)) := blk_cell hS1.n 2
      have hA := Aside0.mk hS1
      clear hS1
      by_cases hl : l2 < 2147483647
      · have dl := decide_eq_true hl
        have hlA := Aside0.mk hl
        clear hl
        go_wp2_with fail
        have hA2 := Aside0.mk (hA.out.set2 l2)
        clear hA hlc hnf hnc
        refine still_tail 10 (by kernel_rfl) (by kernel_rfl) (fun W2 hW => ?_)
        simp only [List.take_succ_cons, List.take_zero, List.drop_succ_cons, List.drop_zero]
        have hS2 : St w (cfg c0 c1 c2 c3 c4 c5 c6 c7 c8) l0 l1 l2 l3 m0 m1 m2 m3 (upto 2 0 l0 m0) (upto 2 1 l1 m1) l2 (upto 2 3 l3 m3) W2 := by rw [hW]; exact hA2.out.drew
        clear hW hA2
        have hlc : W2.cell? ⟨w.heap.size + 1, 2, none⟩ = some (.int .i64 l2) := blk_cell hS2.l 2
        have hmc : W2.cell? ⟨w.heap.size + 1 + 1, 2, none⟩ = some (.int .u16 m2) := blk_cell hS2.m 2
        have hnf : W2.frozen? ⟨w.heap.size + 1 + 1 + 1, 2, none⟩ = false := blk_frozen hS2.n 2
        have hnc : W2.cell? ⟨w.heap.size + 1 + 1 + 1, 2, none⟩ = some (.int .i64 l2) := blk_cell hS2.n 2
        have hA := Aside0.mk hS2
        clear hS2
        iterate 10 still_step
        refine wpStill_nil ?_
        try simp only [hv2]
        go_wp2_with fail
        go_roundg 1
        case measure => omega
        case rel =>
          refine ⟨3, rfl, by omega, by omega, ?_⟩
          have hA4 := hA.out.set2 (wrap64 (l2 + m2))
          rw [show St w (cfg c0 c1 c2 c3 c4 c5 c6 c7 c8) l0 l1 l2 l3 m0 m1 m2 m3 (upto 2 0 l0 m0) (upto 2 1 l1 m1) (wrap64 (l2 + m2)) (upto 2 3 l3 m3) = St w (cfg c0 c1 c2 c3 c4 c5 c6 c7 c8) l0 l1 l2 l3 m0 m1 m2 m3 (upto 2 0 l0 m0) (upto 2 1 l1 m1) (up l2 m2) (upto 2 3 l3 m3) from by rw [up_yes (m := m2) (by have := hlA.out; omega)]] at hA4
          exact hA4
      · have dl := decide_eq_false hl
        have hlA := Aside0.mk hl
        clear hl
        go_wp2_with fail
        go_roundg 1
        case measure => omega
        case rel =>
          refine ⟨3, rfl, by omega, by omega, ?_⟩
          have hA4 := hA.out.set2 l2
          rw [show St w (cfg c0 c1 c2 c3 c4 c5 c6 c7 c8) l0 l1 l2 l3 m0 m1 m2 m3 (upto 2 0 l0 m0) (upto 2 1 l1 m1) l2 (upto 2 3 l3 m3) = St w (cfg c0 c1 c2 c3 c4 c5 c6 c7 c8) l0 l1 l2 l3 m0 m1 m2 m3 (upto 2 0 l0 m0) (upto 2 1 l1 m1) (up l2 m2) (upto 2 3 l3 m3) from by rw [up_no (m := m2) (by have := hlA.out; omega)]] at hA4
          exact hA4
    · have hlc : wr.cell? ⟨w.heap.size + 1, 3, none⟩ = some (.int .i64 l3) := blk_cell hS1.l 3
      have hnf : wr.frozen? ⟨w.heap.size + 1 + 1 + 1, 3, none⟩ = false := blk_frozen hS1.n 3
      have hnc : wr.cell? ⟨w.heap.size + 1 + 1 + 1, 3, none⟩ = some (.int .i64 (upto 3 3 l3 m3)) := blk_cell hS1.n 3
      have hA := Aside0.mk hS1
      clear hS1
      by_cases hl : l3 < 2147483647
      · have dl := decide_eq_true hl
        have hlA := Aside0.mk hl
        clear hl
        go_wp2_with fail
        have hA2 := Aside0.mk (hA.out.set3 l3)
        clear hA hlc hnf hnc
        refine still_tail 10 (by kernel_rfl) (by kernel_rfl) (fun W2 hW => ?_)
        simp only [List.take_succ_cons, List.take_zero, List.drop_succ_cons, List.drop_zero]
        have hS2 : St w (cfg c0 c1 c2 c3 c4 c5 c6 c7 c8) l0 l1 l2 l3 m0 m1 m2 m3 (upto 3 0 l0 m0) (upto 3 1 l1 m1) (upto 3 2 l2 m2) l3 W2 := by rw [hW]; exact hA2.out.drew
        clear hW hA2
        have hlc : W2.cell? ⟨w.heap.size + 1, 3, none⟩ = some (.int .i64 l3) := blk_cell hS2.l 3
        have hmc : W2.cell? ⟨w.heap.size + 1 + 1, 3, none⟩ = some (.int .u16 m3) := blk_cell hS2.m 3
        have hnf : W2.frozen? ⟨w.heap.size + 1 + 1 + 1, 3, none⟩ = false := blk_frozen hS2.n 3
        have hnc : W2.cell? ⟨w.heap.size + 1 + 1 + 1, 3, none⟩ = some (.int .i64 l3) := blk_cell hS2.n 3
        have hA := Aside0.mk hS2
        clear hS2
        iterate 10 still_step
        refine wpStill_nil ?_
        try simp only [hv3]
        go_wp2_with fail
        go_roundg 0
        case measure => omega
        case rel =>
          refine ⟨4, rfl, by omega, by omega, ?_⟩
          have hA4 := hA.out.set3 (wrap64 (l3 + m3))
          rw [show St w (cfg c0 c1 c2 c3 c4 c5 c6 c7 c8) l0 l1 l2 l3 m0 m1 m2 m3 (upto 3 0 l0 m0) (upto 3 1 l1 m1) (upto 3 2 l2 m2) (wrap64 (l3 + m3)) = St w (cfg c0 c1 c2 c3 c4 c5 c6 c7 c8) l0 l1 l2 l3 m0 m1 m2 m3 (upto 3 0 l0 m0) (upto 3 1 l1 m1) (upto 3 2 l2 m2) (up l3 m3) from by rw [up_yes (m := m3) (by have := hlA.out; omega)]] at hA4
          exact hA4
      · have dl := decide_eq_false hl
        have hlA := Aside0.mk hl
        clear hl
        go_wp2_with fail
        go_roundg 0
        case measure => omega
        case rel =>
          refine ⟨4, rfl, by omega, by omega, ?_⟩
          have hA4 := hA.out.set3 l3
          rw [show St w (cfg c0 c1 c2 c3 c4 c5 c6 c7 c8) l0 l1 l2 l3 m0 m1 m2 m3 (upto 3 0 l0 m0) (upto 3 1 l1 m1) (upto 3 2 l2 m2) l3 = St w (cfg c0 c1 c2 c3 c4 c5 c6 c7 c8) l0 l1 l2 l3 m0 m1 m2 m3 (upto 3 0 l0 m0) (upto 3 1 l1 m1) (upto 3 2 l2 m2) (up l3 m3) from by rw [up_no (m := m3) (by have := hlA.out; omega)]] at hA4
          exact hA4
    · have hS2 : Ok wr := by
        obtain ⟨h1, h2, h3, h4⟩ := EV.out
        rw [hOkA.out, h1, h2, h3, h4]
        exact hS1
      clear hS1
      have hS2' := okD _ hS2
      clear hS2
      have dp := decide_eq_true hp
      have dq := decide_eq_true hq
      have dr := decide_eq_true hr
      have ia23 := Try.isAgg23
      have okC := Aside0.mk okC
      have CL := Aside0.mk CL
      have CP0 := Aside0.mk CP0
      have CP1 := Aside0.mk CP1
      have CQ0 := Aside0.mk CQ0
      have CQ1 := Aside0.mk CQ1
      have CR0 := Aside0.mk CR0
      have CR1 := Aside0.mk CR1
      have okD := Aside0.mk okD
      have okW := Aside0.mk okW
      clear hOkA EV okB hv0 hv1 hv2 hv3 hm0 hm1 hm2 hm3 hp hq hr h0j hj
      go_wp2_with fail
      go_region_held3 (fun w' => w'.cell? ⟨w.heap.size, 0, none⟩ = some (.int .i64 c0) ∧ w'.cell? ⟨w.heap.size, 1, none⟩ = some (.int .i64 c1) ∧ w'.cell? ⟨w.heap.size, 2, none⟩ = some (.int .i64 c2) ∧ w'.cell? ⟨w.heap.size, 3, none⟩ = some (.int .i64 c3) ∧ w'.cell? ⟨w.heap.size, 4, none⟩ = some (.int .i64 c4) ∧ w'.cell? ⟨w.heap.size, 5, none⟩ = some (.int .i64 c5) ∧ w'.cell? ⟨w.heap.size, 6, none⟩ = some (.int .i64 c6) ∧ w'.cell? ⟨w.heap.size, 7, none⟩ = some (.int .i64 c7) ∧ w'.cell? ⟨w.heap.size, 8, none⟩ = some (.int .i64 c8) ∧ w'.cell? ⟨w.heap.size + 1, 0, none⟩ = some (.int .i64 l0) ∧ w'.cell? ⟨w.heap.size + 1, 1, none⟩ = some (.int .i64 l1) ∧ w'.cell? ⟨w.heap.size + 1, 2, none⟩ = some (.int .i64 l2) ∧ w'.cell? ⟨w.heap.size + 1, 3, none⟩ = some (.int .i64 l3) ∧ w'.cell? ⟨w.heap.size + 1 + 1 + 1, 0, none⟩ = some (.int .i64 v0) ∧ w'.cell? ⟨w.heap.size + 1 + 1 + 1, 1, none⟩ = some (.int .i64 v1) ∧ w'.cell? ⟨w.heap.size + 1 + 1 + 1, 2, none⟩ = some (.int .i64 v2) ∧ w'.cell? ⟨w.heap.size + 1 + 1 + 1, 3, none⟩ = some (.int .i64 v3)) (first | assumption | exact (okC.out _ (by assumption)))
        (first
          | (go_at_call 6; refine (CL.out _ (by assumption)).mono ?_; clear CL; rintro e W1 ⟨rfl, ok1⟩)
          | (go_at_call 11; refine (CP0.out _ (by assumption)).mono ?_; clear CP0; rintro e W1 ⟨rfl, ok1⟩)
          | (go_at_call 11; refine (CP1.out _ (by assumption)).mono ?_; clear CP1; rintro e W1 ⟨rfl, ok1⟩)
          | (go_at_call 12; refine (CQ0.out _ (by assumption)).mono ?_; clear CQ0; rintro e W1 ⟨rfl, ok1⟩)
          | (go_at_call 12; refine (CQ1.out _ (by assumption)).mono ?_; clear CQ1; rintro e W1 ⟨rfl, ok1⟩)
          | (go_at_call 13; refine (CR0.out _ (by assumption)).mono ?_; clear CR0; rintro e W1 ⟨rfl, ok1⟩)
          | (go_at_call 13; refine (CR1.out _ (by assumption)).mono ?_; clear CR1; rintro e W1 ⟨rfl, ok1⟩))
      have hF := okW.out _ (by assumption)
      go_wp2_with fail
      go_ret
      exact ⟨rfl, hF⟩

end Go.Proofs.Ythofdhodgipifaa.Rr
