/- Texts of one claim (laid by shake.py). -/
import Derived.Test.YtebejadiaooooaaZy14
import Derived.Test.YtebejadiaooooaaZy8
import Derived.Test.YtebejadiaooooaaZy23
import Derived.Test.YtebejadiaooooaaZy4
import Derived.Test.YtebejadiaooooaaZy5
import Derived.Test.YtebejadiaooooaaZy22
import Derived.Deep.RegionHeld3
import Derived.Test.YtebejadiaooooaaZy3
import Derived.Test.YtebejadiaooooaaZy1
import Derived.Test.YtebejadiaooooaaZy2
import Derived.WalkKit
import Derived.Below
import Derived.Maps.AppendAt
import Derived.Lib.SliceRun
import Derived.Shelf.RegionOpenPlain
import Derived.Deep.RegionLaw
set_option linter.unusedVariables false
set_option linter.unusedSimpArgs false
section
namespace Go.Proofs.Ytebejadiaooooaa.P
open Go.RowKit Go.Proofs.YtebejadiaooooaaW.PrintWords Go.Proofs.YtebejadiaooooaaW.PrintLast Go.Proofs.YtebejadiaooooaaW.PrintMore Go.Proofs.Ytebejadiaooooaa.Own Go.Proofs.Ytebejadiaooooaa
theorem IsPoint_eq (k q : Int) (y t v : ByteArray) (d : Int) : msg_IsPoint.f k q y t v d = some (isPt k) := by
 unfold msg_IsPoint.f isPt
 by_cases h1 : k = 1
 ·simp [h1]
 ·by_cases h2 : k = 2
  ·simp [h2]
  ·by_cases h3 : k = 3 <;> simp [h1, h2, h3]
theorem ahead_eq (s t : ByteArray) : key_ahead.f s t = some (emp t || lt s t) := by
 unfold key_ahead.f emp lt
 by_cases h : t.toList = [] <;> simp [h]
theorem RightRange_eq (f t : ByteArray) : key_RightRange.f f t = some (rr f t) := by
 unfold key_RightRange.f rr
 rw [ahead_eq]
 rfl
theorem After_eq (a : ByteArray) (h : a.size ≤ 140737488351232) : key_After.f a = some (succB a) := by
 unfold key_After.f succB
 rw [if_pos (by omega)]
theorem Point_range_eq (a : ByteArray) (h : a.size ≤ 140737488351232) : key_Point.f a = some (a, succB a) := by
 unfold key_Point.f
 rw [After_eq a h]
 rfl
theorem Span_eq (k q : Int) (y t v : ByteArray) (d : Int) (h : y.size ≤ 140737488351232) : msg_Span.f k q y t v d = some (span k y t) := by
 unfold msg_Span.f span
 rw [IsPoint_eq, Point_range_eq y h]
 simp only [Option.bind_some]
 cases isPt k
 ·by_cases h4 : k = 4 <;> simp [h4]
 ·simp
theorem or_add (a b : Int) (ha : 0 ≤ a) (ha2 : a < 72057594037927936) (hb : 0 ≤ b) (hb2 : b ≤ 255) : Go.bits .or .u64 (a * 256) b = a * 256 + b := by
 rw [Go.u64_or _ _ (by omega) (by omega) (by omega) (by omega)]
 obtain ⟨m, rfl⟩ := Int.eq_ofNat_of_zero_le ha
 obtain ⟨n, rfl⟩ := Int.eq_ofNat_of_zero_le hb
 have e : ((m : Int) * 256).toNat = m * 2 ^ 8 := by omega
 have e2 : (n : Int).toNat = n := by omega
 rw [e, e2, ← Nat.shiftLeft_eq, ← Nat.shiftLeft_add_eq_or_of_lt (by omega), Nat.shiftLeft_eq]
 omega
theorem take_step (k : Nat) (s : ByteArray) (hs : s.size = 8) (n : Nat) (hn : n < 8) : word_Take.l0 (k + 1) s (valN s n) 8 n = word_Take.l0 k s (valN s (n + 1)) 8 ((n + 1 : Nat) : Int) := by
 have hv := valN_range s n
 have hb := bt_range s n
 have hp := pow_le n hn
 have hv2 : valN s n < 72057594037927936 := by omega
 simp only [word_Take.l0]
 rw [if_pos (by omega), if_pos (by omega), if_pos (by omega)]
 rw [IntWalk.u64_in (valN s n * 256) (by omega), IntWalk.u64_in (bt s n) (by omega), or_add _ _ hv.1 hv2 hb.1 hb.2, IntWalk.wrap64_in _ (by omega)]
 rfl
theorem word_Take_eq (k : Nat) (s : ByteArray) : word_Take.f (k + 9) s = some (if s.size = 8 then (valN s 8, true) else (0, false)) := by
 unfold word_Take.f
 by_cases h : s.size = 8
 ·rw [if_pos (by omega), if_pos h]
  have e : (s.size : Int) = 8 := by omega
  rw [e]
  have s0 := take_step (k + 8) s h 0 (by omega)
  have s1 := take_step (k + 7) s h 1 (by omega)
  have s2 := take_step (k + 6) s h 2 (by omega)
  have s3 := take_step (k + 5) s h 3 (by omega)
  have s4 := take_step (k + 4) s h 4 (by omega)
  have s5 := take_step (k + 3) s h 5 (by omega)
  have s6 := take_step (k + 2) s h 6 (by omega)
  have s7 := take_step (k + 1) s h 7 (by omega)
  refine s0.trans (s1.trans (s2.trans (s3.trans (s4.trans (s5.trans (s6.trans (s7.trans ?_)))))))
  simp only [word_Take.l0]
  rw [if_neg (by omega)]
 ·rw [if_neg (by omega), if_neg h]
theorem word_Add_eq (k : Nat) (v : ByteArray) (is : Bool) (d : Int) : word_Add.f (k + 9) v is d = some (addV v is d) := by
 have e8 : ∀ z, Wp.eight z = eight z := fun _ => rfl
 unfold word_Add.f addV word_Put.f
 rw [word_Take_eq]
 cases is <;> by_cases h : v.size = 8 <;> simp [h, e8]
theorem Holds_eq (f t s : ByteArray) : key_Holds.f f t s = some (holds f t s) := by
 unfold key_Holds.f holds
 rw [ahead_eq]
 by_cases h : Op.bytesLess s.toList f.toList = true
 ·simp [h, lt]
 ·simp [h, lt]
theorem Touches_eq (k q : Int) (y t v : ByteArray) (d : Int) (s : ByteArray) (h : y.size ≤ 140737488351232) : msg_Touches.f k q y t v d s = some (touches k y t s) := by
 unfold msg_Touches.f touches
 rw [IsPoint_eq]
 simp only [Option.bind_some, Span_eq _ _ _ _ _ _ h]
 cases hp : isPt k with
 | false =>
  by_cases h4 : k = 4
  ·simp [h4, Holds_eq, span, show isPt 4 = false from rfl]
  ·simp [h4]
 | true =>
  have h4 := isPt_ne4 hp
  by_cases hs : y.toList = s.toList <;> simp [hs, h4, same]
theorem Apply_eq (n : Nat) (k q : Int) (y t vv : ByteArray) (d : Int) (v : ByteArray) (is : Bool) : msg_Apply.f (n + 9) k q y t vv d v is = some (applyV k vv d v is) := by
 unfold msg_Apply.f applyV
 by_cases h1 : k = 1
 ·simp [h1]
 ·by_cases h3 : k = 3
  ·simp [h3, word_Add_eq]
  ·by_cases h2 : k = 2
   ·simp [h2, msg_Apply.j0]
   ·by_cases h4 : k = 4
    ·simp [h4, msg_Apply.j0]
    ·have b4 : (k == 4) = false := by simp [h4]
     cases is <;> simp [h1, h2, h3, h4, msg_Apply.j0, b4]
end Go.Proofs.Ytebejadiaooooaa.P
end
section
namespace Go.Proofs.Ytebejadiaooooaa.Fo
open Go.RowKit Go.Shelf Go.Proofs.YtebejadiaooooaaW.PrintWords Go.Proofs.YtebejadiaooooaaW.PrintLast Go.Proofs.YtebejadiaooooaaW.PrintMore Go.Proofs.Ytebejadiaooooaa.Own Go.Proofs.Ytebejadiaooooaa.Ord Go.Proofs.Ytebejadiaooooaa Go.Proofs.Ytebejadiaooooaa.P
open Go.Proofs.Ytebejadiaooooaa.OrdSs (Hold hold_new hold_get hold_put hold_drop)
set_option maxHeartbeats 2000000
set_option maxRecDepth 100000
theorem at_M {w : World} {A : Option Addr} {n : Nat} {xs : List Ms} (h : Kd.C P.k32 w A n xs) (i : Int) (h0 : 0 ≤ i) (h1 : i < n) : ∃ ad, ∃ x : Ms, A = some ad ∧ xs[i.toNat]? = some x ∧ w.cell? (ad.add (i.toNat * 6)) = some (.int .u8 x.f0) ∧
  w.cell? ⟨(ad.add (i.toNat * 6)).block, (ad.add (i.toNat * 6)).off + 1, none⟩ = some (.int .i64 x.f1) ∧ w.cell? ⟨(ad.add (i.toNat * 6)).block, (ad.add (i.toNat * 6)).off + 2, none⟩ = some (.string x.f2) ∧ w.cell? ⟨(ad.add (i.toNat * 6)).block, (ad.add (i.toNat * 6)).off + 3, none⟩ = some (.string x.f3) ∧
  w.cell? ⟨(ad.add (i.toNat * 6)).block, (ad.add (i.toNat * 6)).off + 4, none⟩ = some (.string x.f4) ∧ w.cell? ⟨(ad.add (i.toNat * 6)).block, (ad.add (i.toNat * 6)).off + 5, none⟩ = some (.int .u64 x.f5) := by
 obtain ⟨ad, c, e, _, hK, hc0⟩ := Kd.C_get h P.z32 i h0 h1
 have hc : ∀ j u, c[j]? = some u → w.cell? (ad.add (i.toNat * 6 + j)) = some u := hc0
 obtain rfl := P.k32_open hK
 have hl := h.1
 refine ⟨ad, _, e, ?_, hc 0 _ rfl, by rw [← add_field _ _ 1 (by omega)]; exact hc 1 _ rfl, by rw [← add_field _ _ 2 (by omega)]; exact hc 2 _ rfl, by rw [← add_field _ _ 3 (by omega)]; exact hc 3 _ rfl, by rw [← add_field _ _ 4 (by omega)]; exact hc 4 _ rfl, by rw [← add_field _ _ 5 (by omega)]; exact hc 5 _ rfl⟩
 rw [List.getD_eq_getElem?_getD, List.getElem?_eq_getElem (by omega)]
 rfl
theorem folded_any {w : World} {A A2 : Option Addr} {c c2 : Nat} {l : List Ms} {e : List En} (hC : Kd.C P.k32 w A l.length l) (hcap : l.length ≤ c) (hC2 : Kd.C P.k39 w A2 e.length e) (hcap2 : e.length ≤ c2) (hlen : l.length ≤ 100000) (hlen2 : e.length ≤ 100000) (hsz : ∀ x ∈ l, x.f2.size ≤ 140737488351232) :
  Calls Try.prog 67 #[.slice A l.length c, .slice A2 e.length c2] w fun r w' => ∃ m, r = .returned (.pointer (some ⟨m, 0, none⟩)) ∧ Hold (fun k => w.heap.size ≤ k) w' m (foldV l e) ∧ Below w.heap.size w w' := by
 have hmax := Kd.C_max hC
 have hum := Try.underlying32
 have TB := table_any hC2 hcap2 hlen2
 have htl := tab_rise e
 go_enter Try.func67, Try.ntmps67
 go_wp2_with (go_at_call 66; refine TB.mono ?_; clear TB; rintro r w1 ⟨m, rfl, hH, hB⟩)
 go_loopg [14] l.length (fun g iv wr => ∃ i : Int, iv = .int .i64 i ∧ Aside (0 ≤ i ∧ i.toNat + g = l.length) ∧ Aside (Hold (fun k => w.heap.size ≤ k) wr m (msgsFrom (tabV e) (l.take i.toNat))) ∧ Aside (Below w.heap.size w wr))
 case atStart => exact ⟨0, rfl, ⟨Int.le_refl _, by simp⟩, by show Hold _ _ _ _; simpa [msgsFrom] using hH, hB⟩
 case round =>
  clear hH hB
  obtain ⟨i, rfl, hA, hH, hB⟩ := hrel
  obtain ⟨h0, hg⟩ := hA.out
  cases gk with
  | zero =>
   have d0 : decide (i < (l.length : Int)) = false := decide_eq_false (by omega)
   have hi : l.take i.toNat = l := List.take_of_length_le (by omega)
   have hHF := hH.out
   rw [hi] at hHF
   clear hi hg hC
   go_wp2
   go_ret
   exact ⟨m, rfl, hHF, hB.out⟩
  | succ g =>
   have hlt : i < (l.length : Int) := by omega
   obtain ⟨ad, ⟨q0, q1, q2, q3, q4, q5⟩, rfl, hx, p0, p1, p2, p3, p4, p5⟩ := at_M hC i h0 hlt
   have hq2 : q2.size ≤ 140737488351232 := hsz _ (List.mem_of_getElem? hx)
   simp only at p0 p1 p2 p3 p4 p5
   have e0 := cell_below hB.out p0
   have e1 := cell_below hB.out p1
   have e2 := cell_below hB.out p2
   have e3 := cell_below hB.out p3
   have e4 := cell_below hB.out p4
   have e5 := cell_below hB.out p5
   have d0 := decide_eq_true hlt
   have d1 := decide_eq_true h0
   have d2 := eq_true h0
   have d3 := eq_true hlt
   have hwi : wrap64 (i + 1) = i + 1 := IntWalk.wrap64_in _ (by omega)
   obtain ⟨L, hL⟩ : ∃ L, L = msgsFrom (tabV e) (l.take i.toNat) := ⟨_, rfl⟩
   have htk : Aside (msgsFrom (tabV e) (l.take (i + 1).toNat) = msgV ⟨q0, q1, q2, q3, q4, q5⟩ L) := by
    show _ = _
    rw [show (i + 1).toNat = i.toNat + 1 by omega, List.take_add_one, hx, hL]
    exact msgsFrom_snoc _ _ _
   have hr := msgs_rise (l.take i.toNat) htl.1
   have hlL : Aside (L.length ≤ 200000) := by
    show _ ≤ _
    have h1 := hr.2
    have h2 := htl.2
    rw [← hL, List.length_take] at h1
    omega
   rw [← hL] at hH
   have hb1 := hB.out.size
   have hBx : Below wr.heap.size wr (wr.alloc (.cells #[.int .u8 q0, .int .i64 q1, .string q2, .string q3, .string q4, .int .u64 q5] 32)) := below_alloc (Below.refl _ _) _
   have hB2 := Aside0.mk (below_step hB.out hBx)
   have hH2 := Aside0.mk (Hold.below hH.out hBx)
   have hbx := blk_new wr (.cells #[.int .u8 q0, .int .i64 q1, .string q2, .string q3, .string q4, .int .u64 q5] 32)
   have hbA := Aside0.mk hbx
   have hgA := Aside0.mk (And.intro h0 hg)
   have hCA := Aside0.mk hC
   have hszA : Aside0 (w.heap.size ≤ wr.heap.size) := ⟨hb1⟩
   clear hC hg hx p0 p1 p2 p3 p4 p5 hr hlt h0 hA hH hL hbx hb1 hBx htl
   by_cases h4 : q0 = 4
   ·subst h4
    have SP : msg_Span.f 4 q1 q2 q3 q4 q5 = some (q2, q3) := (Span_eq _ _ _ _ _ _ hq2).trans rfl
    go_wp2_with (first
     | (go_at_call 58; refine (msg_Span.calls 4 q1 q2 q3 q4 q5 q2 q3 _ SP).mono ?_; clear SP; rintro r w2 ⟨rfl, hB3⟩; have hH3 := Hold.below hH2.out hB3; have hB4 := Aside0.mk (below_step hB2.out hB3); have CL := clear_any hH3 (by have := hlL.out; omega) q2 q3; have hs3 : Aside0 (w.heap.size ≤ w2.heap.size) := ⟨hB4.out.size⟩; clear hB3 hH3)
     | (go_at_call 99; refine CL.mono ?_; clear CL; rintro r w3 ⟨⟨v3, rfl⟩, hH4, hF4⟩))
    go_roundg g
    case measure => omega
    case rel =>
     obtain ⟨e0, eg⟩ := hgA.out
     refine ⟨i + 1, by rw [hwi], ⟨by omega, by omega⟩, ?_, hB4.out.trans (hF4.below (fun k hk => hk) hs3.out)⟩
     show Hold _ _ _ _
     rw [htk.out]
     exact hH4
   ·have b4 : (q0 == 4) = false := by simpa using h4
    have IP : msg_IsPoint.f q0 q1 q2 q3 q4 q5 = some (isPt q0) := IsPoint_eq _ _ _ _ _ _
    cases hp : isPt q0 with
    | false =>
     rw [hp] at IP
     have hpA := Aside0.mk hp
     have h4A := Aside0.mk h4
     clear hp h4
     go_wp2_with (go_at_call 55; refine (msg_IsPoint.calls q0 q1 q2 q3 q4 q5 false _ IP).mono ?_; clear IP; rintro r w2 ⟨rfl, hB3⟩; have hH3 := Aside0.mk (Hold.below hH2.out hB3); have hB4 := Aside0.mk (below_step hB2.out hB3); clear hB3)
     go_roundg g
     case measure => omega
     case rel =>
      obtain ⟨e0, eg⟩ := hgA.out
      refine ⟨i + 1, by rw [hwi], ⟨by omega, by omega⟩, ?_, hB4.out⟩
      show Hold _ _ _ _
      rw [htk.out, show msgV ⟨q0, q1, q2, q3, q4, q5⟩ L = L from by unfold msgV; rw [if_neg h4A.out, if_neg (by rw [hpA.out]; simp)]]
      exact hH3.out
    | true =>
     rw [hp] at IP
     obtain ⟨v0, hv0⟩ : ∃ v0, v0 = (lookK OrdSs.lt q2 L).getD ByteArray.empty := ⟨_, rfl⟩
     obtain ⟨i0, hi0⟩ : ∃ i0, i0 = (lookK OrdSs.lt q2 L).isSome := ⟨_, rfl⟩
     obtain ⟨p, hpe⟩ : ∃ p, p = applyV q0 q4 q5 v0 i0 := ⟨_, rfl⟩
     have AP : msg_Apply.f 100 q0 q1 q2 q3 q4 q5 v0 i0 = some (p.1, p.2) := (Apply_eq 91 _ _ _ _ _ _ _ _).trans (by rw [hpe])
     have hmv : Aside (msgV ⟨q0, q1, q2, q3, q4, q5⟩ L = if p.2 = true then ins OrdSs.lt q2 p.1 L else del OrdSs.lt q2 L) := by
      show _ = _
      unfold msgV
      rw [if_neg h4, if_pos hp]
      simp only
      rw [hpe, hv0, hi0]
      rfl
     have hpA := Aside0.mk hp
     have h4A := Aside0.mk h4
     have GT0 : ∀ W, Hold (fun k => w.heap.size ≤ k) W m L → Calls Try.prog 72 #[.pointer (some ⟨m, 0, none⟩), .string q2] W fun e w' => e = .returned (.tuple #[.string v0, .bool i0]) ∧ w' = W := fun W h => by
      rw [hv0, hi0]; exact hold_get h q2
     obtain ⟨p1, p2⟩ := p
     clear hp h4 hv0 hi0 hpe
     cases p2 with
     | true =>
      go_wp2_with (first
       | (go_at_call 55; refine (msg_IsPoint.calls q0 q1 q2 q3 q4 q5 true _ IP).mono ?_; clear IP; rintro r w2 ⟨rfl, hB3⟩; have hH3 := Aside0.mk (Hold.below hH2.out hB3); have hB4 := Aside0.mk (below_step hB2.out hB3); have hb3 := blk_below hbA.out hB3; have c0 := blk_cell hb3 0; have c1 := blk_cell hb3 1; have c2 := blk_cell hb3 2; have c3 := blk_cell hb3 3; have c4 := blk_cell hb3 4; have c5 := blk_cell hb3 5; simp at c0 c1 c2 c3 c4 c5; have GT := GT0 _ hH3.out; clear hB3 GT0)
       | (go_at_call 72; refine GT.mono ?_; clear GT; rintro r w3 ⟨rfl, hw⟩; obtain rfl := hw.symm)
       | (go_at_call 73; refine (msg_Apply.calls 100 q0 q1 q2 q3 q4 q5 v0 i0 p1 true _ AP).mono ?_; clear AP; rintro r w4 ⟨rfl, hB5⟩; have hH5 := Hold.below hH3.out hB5; have hB6 := Aside0.mk (below_step hB4.out hB5); have hb5 := blk_below hb3 hB5; clear hB5 c0 c1 c2 c3 c4 c5 hb3; have c2 := blk_cell hb5 2; simp at c2; have hs6 : Aside0 (w.heap.size ≤ w4.heap.size) := ⟨hB6.out.size⟩; have PT := hold_put hH5 (fun k hk => by have := hs6.out; omega) (by have := hlL.out; omega) q2 p1; clear hH5)
       | (go_at_call 98; refine PT.mono ?_; clear PT; rintro r w5 ⟨⟨b5, rfl⟩, hH7, hF7⟩))
      go_roundg g
      case measure => omega
      case rel =>
       obtain ⟨e0, eg⟩ := hgA.out
       refine ⟨i + 1, by rw [hwi], ⟨by omega, by omega⟩, ?_, hB6.out.trans (hF7.below (fun k hk => hk) hs6.out)⟩
       show Hold _ _ _ _
       rw [htk.out, hmv.out]
       simp only [if_true]
       exact hH7
     | false =>
      go_wp2_with (first
       | (go_at_call 55; refine (msg_IsPoint.calls q0 q1 q2 q3 q4 q5 true _ IP).mono ?_; clear IP; rintro r w2 ⟨rfl, hB3⟩; have hH3 := Aside0.mk (Hold.below hH2.out hB3); have hB4 := Aside0.mk (below_step hB2.out hB3); have hb3 := blk_below hbA.out hB3; have c0 := blk_cell hb3 0; have c1 := blk_cell hb3 1; have c2 := blk_cell hb3 2; have c3 := blk_cell hb3 3; have c4 := blk_cell hb3 4; have c5 := blk_cell hb3 5; simp at c0 c1 c2 c3 c4 c5; have GT := GT0 _ hH3.out; clear hB3 GT0)
       | (go_at_call 72; refine GT.mono ?_; clear GT; rintro r w3 ⟨rfl, hw⟩; obtain rfl := hw.symm)
       | (go_at_call 73; refine (msg_Apply.calls 100 q0 q1 q2 q3 q4 q5 v0 i0 p1 false _ AP).mono ?_; clear AP; rintro r w4 ⟨rfl, hB5⟩; have hH5 := Hold.below hH3.out hB5; have hB6 := Aside0.mk (below_step hB4.out hB5); have hb5 := blk_below hb3 hB5; clear hB5 c0 c1 c2 c3 c4 c5 hb3; have c2 := blk_cell hb5 2; simp at c2; have hs6 : Aside0 (w.heap.size ≤ w4.heap.size) := ⟨hB6.out.size⟩; have DR := hold_drop hH5 (by have := hlL.out; omega) q2; clear hH5)
       | (go_at_call 100; refine DR.mono ?_; clear DR; rintro r w5 ⟨⟨b5, rfl⟩, hH7, hF7⟩))
      go_roundg g
      case measure => omega
      case rel =>
       obtain ⟨e0, eg⟩ := hgA.out
       refine ⟨i + 1, by rw [hwi], ⟨by omega, by omega⟩, ?_, hB6.out.trans (hF7.below (fun k hk => hk) hs6.out)⟩
       show Hold _ _ _ _
       rw [htk.out, hmv.out]
       simp only [if_false, Bool.false_eq_true]
       exact hH7
end Go.Proofs.Ytebejadiaooooaa.Fo
end
section
namespace Go.Proofs.Ytebejadiaooooaa.Fo
open Go.RowKit Go.Shelf Go.Proofs.YtebejadiaooooaaW.PrintWords Go.Proofs.YtebejadiaooooaaW.PrintLast Go.Proofs.YtebejadiaooooaaW.PrintMore Go.Proofs.Ytebejadiaooooaa.Own Go.Proofs.Ytebejadiaooooaa.Ord Go.Proofs.Ytebejadiaooooaa Go.Proofs.Ytebejadiaooooaa.P
open Go.Proofs.Ytebejadiaooooaa.OrdSs (Hold hold_from_iter from_in lin)
attribute [local go_sem] Oper.semAt_some
set_option maxHeartbeats 2000000
set_option maxRecDepth 100000
theorem held_stop {f t : ByteArray} {L pre : Row} {x : ByteArray × ByteArray} (hL : Rise OrdSs.lt L) (hpre : pre ++ [x] <+: L.filter (fun x => !OrdSs.lt x.1 f)) (hall : ∀ y ∈ pre, holds f t y.1 = true) (hx : holds f t x.1 = false) : L.filter (fun x => holds f t x.1) = pre := by
 obtain ⟨r, hr⟩ := hpre
 have h1 : L.filter (fun x => holds f t x.1) = (L.filter (fun x => !OrdSs.lt x.1 f)).filter (fun x => holds f t x.1) := by
  rw [List.filter_filter]
  refine List.filter_congr (fun y _ => ?_)
  rw [holds_def]
  show _ = (!OrdSs.lt y.1 f && ah y.1 t && !OrdSs.lt y.1 f)
  rw [show lt y.1 f = OrdSs.lt y.1 f from rfl]
  cases OrdSs.lt y.1 f <;> cases ah y.1 t <;> rfl
 have hR : Rise OrdSs.lt (pre ++ [x] ++ r) := by rw [hr]; exact hL.filter _
 rw [h1, ← hr, List.filter_append, List.filter_append]
 have e1 : pre.filter (fun x => holds f t x.1) = pre := List.filter_eq_self.2 (fun y hy => hall y hy)
 have hx2 : x ∈ L.filter (fun x => !OrdSs.lt x.1 f) := by rw [← hr]; simp
 have hxf : lt x.1 f = false := by
  have h2 : (!OrdSs.lt x.1 f) = true := (List.mem_filter.1 hx2).2
  show OrdSs.lt x.1 f = false
  cases q : OrdSs.lt x.1 f with
  | false => rfl
  | true => rw [q] at h2; cases h2
 have hxt : ah x.1 t = false := by rw [holds_def, hxf] at hx; simpa using hx
 have e3 : r.filter (fun x => holds f t x.1) = [] := List.filter_eq_nil_iff.2 (fun y hy hq => by
  have hxy : lt x.1 y.1 = true := by
   have := (List.pairwise_append.1 hR).2.2 x (by simp) y hy
   exact this
  rw [holds_def] at hq
  simp at hq
  rw [ah_lt hxy hq.2] at hxt
  cases hxt)
 rw [e1, e3]
 simp [hx]
theorem held_all {f t : ByteArray} {L : Row} (hall : ∀ y ∈ L.filter (fun x => !OrdSs.lt x.1 f), holds f t y.1 = true) : L.filter (fun x => holds f t x.1) = L.filter (fun x => !OrdSs.lt x.1 f) := by
 refine List.filter_congr (fun y hy => ?_)
 cases q : OrdSs.lt y.1 f with
 | true =>
  rw [holds_def, show lt y.1 f = OrdSs.lt y.1 f from rfl, q]; rfl
 | false => rw [hall y (List.mem_filter.2 ⟨hy, by rw [q]; rfl⟩)]; rfl
section
variable {f t : ByteArray} {A A2 : Option Addr} {c c2 : Nat} {l : List Ms} {e : List En} {Br Bl Be : Nat}
theorem foldall_iter (n : Nat) {w0 w : World} {S : Nat → Prop} (hw : Below w0.heap.size w0 w) (hC : Kd.C P.k32 w0 A l.length l) (hcap : l.length ≤ c) (hC2 : Kd.C P.k39 w0 A2 e.length e) (hcap2 : e.length ≤ c2) (hlen : l.length ≤ 100000) (hlen2 : e.length ≤ 100000) (hsz : ∀ x ∈ l, x.f2.size ≤ 140737488351232)
  (hS : ∀ k, S k → k < w.heap.size) (hS0 : ∀ k, k < w0.heap.size → S k) (hSr : S Br) (hSl : S Bl) (hSe : S Be)
  (hr : w.heap[Br]? = some (.cells #[.string f, .string t] 28 (0, 0))) (hl : w.heap[Bl]? = some (.cells #[.slice A l.length c] 22 (0, 0))) (he : w.heap[Be]? = some (.cells #[.slice A2 e.length c2] 23 (0, 0))) :
  It.Iter Fence.wide n Try.prog 90 #[.pointer (some ⟨Br, 0, none⟩), .pointer (some ⟨Bl, 0, none⟩), .pointer (some ⟨Be, 0, none⟩)] (fun x : ByteArray × ByteArray => #[.string x.1, .string x.2]) (fun ys => ys = heldV f t (foldV l e)) (fun pre => pre <+: heldV f t (foldV l e)) (l.length + e.length) S w := by
 intro ly J Jx M W hF hSM hM hJ hJx hY h0
 replace hY : ∀ m pre x M1 W1, J pre M1 W1 → (∀ k, M1 k → (M k ∨ W.heap.size ≤ k) ∧ k < W1.heap.size) → It.FrM M W W1 → pre.length < l.length + e.length → YieldAt Fence.wide m Try.prog ly #[.string x.1, .string x.2] W1 (It.Told J Jx pre x M1 W1) := fun m pre x M1 W1 a b c d => (OrdSs.YieldAt.anyDepth rfl m (hY pre x M1 W1 a b c d))
 refine (callsIn_wide (n := n)).2 ((callsIn_wide (n := 5)).1 ?_)
 have hur := Try.underlying28
 have gr := hF.blk hr (fun q => q hSr)
 have gl := hF.blk hl (fun q => q hSl)
 have ge := hF.blk he (fun q => q hSe)
 have hw0W : Below w0.heap.size w0 W := hw.trans (hF.below (base := w0.heap.size) (fun k hk => by rcases Nat.lt_or_ge k w0.heap.size with q | q; exact absurd (hS0 k q) hk; exact q) hw.size)
 have hCW := Kd.C_below hC hw0W
 have hCW2 := Kd.C_below hC2 hw0W
 have hMr : ¬ M Br := fun q => (hSM Br hSr).2 q
 clear hr hl he hC hC2 hw hw0W hF hS0 hSl hSe
 refine callsIn_of_wp_marks Try.func90 rfl trivial ?_ rfl
 simp only [Try.ntmps90, List.size_toArray, List.length_cons, List.length_nil, Nat.reduceAdd, Nat.reduceSub, Array.replicate_succ, Array.replicate_zero, List.push_toArray, List.append_toArray, List.nil_append, List.cons_append]
 have hB1 : Below W.heap.size W (W.alloc (.cells #[.func (.yield ly) #[] #[]] 102)) := below_alloc (Below.refl _ _) _
 cases hrr : rr f t with
 | false =>
  have RR : key_RightRange.f f t = some false := (RightRange_eq f t).trans (by rw [hrr])
  have hrA := Aside0.mk hrr
  have r0 := blk_cell (blk_below gr hB1) 0
  have r1 := blk_cell (blk_below gr hB1) 1
  simp at r0 r1
  gi_wp2_with (refine ⟨trivial, ?_⟩; gi_at_call 53; refine (callsIn_wide.2 (key_RightRange.calls f t false _ RR)).mono ?_; rintro r w2 ⟨rfl, hB2⟩)
  refine ⟨_, results_none rfl _ _ _, ⟨_, rfl⟩, M, fun k hk => ⟨.inl hk, ?_⟩, .of_below (below_step hB1 hB2), .inl ⟨[], ?_, ?_⟩⟩
  ·have := hM k hk; have := (below_step hB1 hB2).size; omega
  ·unfold heldV; rw [hrA.out]; rfl
  ·exact hJ _ _ _ _ h0 (.of_below (below_step hB1 hB2))
 | true =>
  have RR : key_RightRange.f f t = some true := (RightRange_eq f t).trans (by rw [hrr])
  have hrA := Aside0.mk hrr
  have r0 := blk_cell (blk_below gr hB1) 0
  have r1 := blk_cell (blk_below gr hB1) 1
  simp at r0 r1
  gi_wp2_with (refine ⟨trivial, ?_⟩; gi_at_call 53; refine (callsIn_wide.2 (key_RightRange.calls f t true _ RR)).mono ?_; rintro r w2 ⟨rfl, hB2⟩)
  have hB3 := below_step hB1 hB2
  have gy := blk_below (blk_new W (.cells #[.func (.yield ly) #[] #[]] 102)) hB2
  have gr3 := blk_below gr hB3
  have gl3 := blk_below gl hB3
  have ge3 := blk_below ge hB3
  have hb3d : Below W.heap.size W w2.drew := below_drew1 hB3
  have gr4 := blk_below gr hb3d
  have gl4 := blk_below gl hb3d
  have ge4 := blk_below ge hb3d
  have z0 := blk_cell gl3 0
  have z1 := blk_cell ge3 0
  have z2 := blk_cell gr3 0
  simp at z0 z1 z2
  have FD := (folded_any (Kd.C_below hCW hb3d) hcap (Kd.C_below hCW2 hb3d) hcap2 hlen hlen2 hsz).mono (R' := fun r w3 => ∃ m, r = .returned (.pointer (some ⟨m, 0, none⟩)) ∧ (w3.cell? ⟨Bl, 0, none⟩ = some (.slice A l.length c) ∧ w3.cell? ⟨Be, 0, none⟩ = some (.slice A2 e.length c2) ∧ w3.cell? ⟨Br, 0, none⟩ = some (.string f)) ∧
    Calls Try.prog 91 #[.pointer (some ⟨m, 0, none⟩), .string f] w3 fun r' w4 => r' = .returned (.func (.func 117) #[] #[.pointer (some ⟨w3.heap.size, 0, none⟩), .pointer (some ⟨w3.heap.size + 1, 0, none⟩)]) ∧ (w4.cell? ⟨Bl, 0, none⟩ = some (.slice A l.length c) ∧ w4.cell? ⟨Be, 0, none⟩ = some (.slice A2 e.length c2) ∧ w4.cell? ⟨Br, 0, none⟩ = some (.string f)) ∧
     (Hold (fun k => w2.heap.size ≤ k) w3 m (foldV l e) ∧ Below w2.heap.size w2 w3 ∧ Below w3.heap.size w3 w4 ∧ w4.cell? ⟨w3.heap.size, 0, none⟩ = some (.pointer (some ⟨m, 0, none⟩)) ∧ w4.cell? ⟨w3.heap.size + 1, 0, none⟩ = some (.string f) ∧ w3.heap.size + 1 < w4.heap.size)) (by
   rintro r w3 ⟨m, rfl, hH, hb⟩
   have gr5 := blk_below gr4 hb
   have gl5 := blk_below gl4 hb
   have ge5 := blk_below ge4 hb
   refine ⟨m, rfl, ⟨blk_cell gl5 0, blk_cell ge5 0, blk_cell gr5 0⟩, (callsIn_wide (n := 5)).1 ((from_in 5 (some ⟨m, 0, none⟩) f w3).mono ?_)⟩
   rintro r w4 ⟨rfl, tt, rfl⟩
   have h1 : Below w3.heap.size w3 ((w3.alloc (.cells #[.pointer (some ⟨m, 0, none⟩)] tt)).alloc (.cells #[.string f] 9)) := ((Below.refl _ w3).alloc (Nat.le_refl _) _).alloc (by simp) _
   have bN := (Boxed.new w3 tt (.pointer (some ⟨m, 0, none⟩))).alloc (.cells #[.string f] 9)
   have bK := Boxed.new (w3.alloc (.cells #[.pointer (some ⟨m, 0, none⟩)] tt)) 9 (.string f)
   rw [World.size_alloc] at bK
   exact ⟨rfl, ⟨blk_cell (blk_below gl5 h1) 0, blk_cell (blk_below ge5 h1) 0, blk_cell (blk_below gr5 h1) 0⟩, hH, (below_drew1 (Below.refl w2.heap.size w2)).trans hb, h1, bN.cell, bK.cell, by simp⟩)
  have hA1 := Aside0.mk (And.intro gy (And.intro gr3 hB3))
  clear gy gr3 gl3 ge3 hB3 gr4 gl4 ge4 hb3d r0 r1 gr gl ge hCW hCW2 hB1 hB2 hrr
  refine wpIn_wide.2 ?_
  go_region_held3 (fun w' => w'.cell? ⟨Bl, 0, none⟩ = some (.slice A l.length c) ∧ w'.cell? ⟨Be, 0, none⟩ = some (.slice A2 e.length c2) ∧ w'.cell? ⟨Br, 0, none⟩ = some (.string f)) (first | exact ⟨by assumption, by assumption, by assumption⟩ | exact ⟨z0, z1, z2⟩)
   (first
    | (go_at_call 67; refine FD.mono ?_; clear FD; rintro r w3 ⟨m, rfl, ⟨d0, d1, d2⟩, PC2⟩)
    | (go_at_call 91; refine PC2.mono ?_; clear PC2; rintro r w4 ⟨rfl, ⟨d0, d1, d2⟩, fin⟩))
  gi_wp2
  obtain ⟨hH, hb23, hb34, e1, e2, e3⟩ := fin
  obtain ⟨gy, gr3, hB3⟩ := hA1.out
  have hb24 : Below w2.heap.size w2 w4 := hb23.trans (hb34.mono hb23.size)
  have hW4 : Below W.heap.size W w4 := hB3.trans (hb24.mono hB3.size)
  have hs2 := hB3.size
  have hs3 := hb23.size
  have hs4 := hb34.size
  have gy4 := blk_below gy hb24
  have gr4 := blk_below gr3 hb24
  have hyW : W.heap.size < w2.heap.size := blk_lt gy
  have hMA := Aside0.mk hM
  obtain ⟨Si, hSi, hIt⟩ := hold_from_iter 4 w3.heap.size (w3.heap.size + 1) hH hb34 f (by omega) (by omega) e1 e2
  have hBrS := hMr
  have hrise := (fold_rise l e).1
  have hflen : ((foldV l e).filter (fun x => !OrdSs.lt x.1 f)).length ≤ l.length + e.length := by
   have h1 := (fold_rise l e).2
   have h2 := List.length_filter_le (fun x : ByteArray × ByteArray => !OrdSs.lt x.1 f) (foldV l e)
   omega
  apply It.range_iter rfl (by omega) (gf := 117) (lb := #[.pointer (some ⟨w3.heap.size, 0, none⟩), .pointer (some ⟨w3.heap.size + 1, 0, none⟩)]) rfl trivial (enters_of Try.func117 (by kernel_rfl) rfl)
   hIt (It.FrM.refl _ _) M (fun k hk => ⟨(hSi k hk).2, fun q => by have h1 := hMA.out k q; have h2 := (hSi k hk).1; omega⟩) (fun k hk => by have := hMA.out k hk; omega) (fun _ => rfl)
   (fun pre M1 V => J pre M1 V ∧ ∀ y ∈ pre, holds f t y.1 = true)
   (fun cd pre M1 V => cd = .ret ∧ ((∃ pre' x, pre = pre' ++ [x] ∧ J pre' M1 V ∧ (∀ y ∈ pre', holds f t y.1 = true) ∧ holds f t x.1 = false) ∨ (Jx pre M1 V ∧ ∀ y ∈ pre, holds f t y.1 = true)))
   (fun s M1 X Y h fr => ⟨(hJ.from (by omega)) s M1 X Y h.1 fr, h.2⟩)
   (fun cd s M1 X Y h fr => ⟨h.1, by
    rcases h.2 with ⟨pre', x, e1, h1, h2⟩ | ⟨h1, h2⟩
    ·exact .inl ⟨pre', x, e1, (hJ.from (by omega)) _ M1 X Y h1 fr, h2⟩
    ·exact .inr ⟨(hJx.from (by omega)) _ M1 X Y h1 fr, h2⟩⟩)
   ⟨hJ _ _ _ _ h0 (.of_below hW4), by simp⟩
  case hassign =>
   intro ll x V K hK
   gi_wp2
   exact hK
  case hbody =>
   rintro ll pre x M1 V ⟨hj, hall⟩ hMb hF hlt
   have gr5 := hF.blk gr4 hMr
   have gy5 := hF.blk gy4 (fun q => by have := hMA.out _ q; omega)
   have c0' := blk_cell gr5 0
   have c1' := blk_cell gr5 1
   have cy := blk_cell gy5 0
   simp at c0' c1' cy
   have hVs := hF.size
   cases hx : holds f t x.1 with
   | false =>
    have HO : key_Holds.f f t x.1 = some false := (Holds_eq f t x.1).trans (by rw [hx])
    have hxA := Aside0.mk hx
    clear hx
    gi_wp2_with (refine ⟨trivial, ?_⟩; gi_at_call 56; refine (CallsIn.inRound ll (callsIn_wide.2 (key_Holds.calls f t x.1 false _ HO))).mono ?_; rintro r V2 ⟨rfl, hB5⟩)
    refine ⟨fun _ h => (by cases h), ?_⟩
    gi_wp2
    refine ⟨M1, fun k hk => ⟨.inl hk, by have := (hMb k hk).2; have := hB5.size; omega⟩, .of_below hB5, rfl, .inl ⟨pre, x, rfl, (hJ.from (by omega)) _ _ _ _ hj (.of_below hB5), hall, hxA.out⟩⟩
   | true =>
    have HO : key_Holds.f f t x.1 = some true := (Holds_eq f t x.1).trans (by rw [hx])
    have hxA := Aside0.mk hx
    clear hx
    gi_wp2_with (refine ⟨trivial, ?_⟩; gi_at_call 56; refine (CallsIn.inRound ll (callsIn_wide.2 (key_Holds.calls f t x.1 true _ HO))).mono ?_; rintro r V2 ⟨rfl, hB5⟩; have cy2 := blk_cell (blk_below gy5 hB5) 0; simp at cy2; obtain ⟨fn, tmps, assign, body, hy, hR⟩ := hY 2 pre x M1 V2 (hJ _ _ _ _ hj (.of_below hB5)) (fun k hk => ⟨(hMb k hk).1.imp id (fun q => by omega), by have := (hMb k hk).2; have := hB5.size; omega⟩) (((It.FrM.of_below hW4).trans hF (fun i hi => .inl hi)).trans (.of_below (M := fun _ => False) hB5) (fun i hi => hi.elim)) (by omega))
    have hR2 : RoundIn (Fence.wide.inRound ll) 2 Try.prog ly fn tmps assign body V2 (It.Told J Jx pre x M1 V2) := hR
    refine hR2.mono ?_
    rintro r V3 ⟨M', hM', hf3, ⟨rfl, hj3⟩ | ⟨rfl, hj3⟩⟩
    ·gi_wp2
     refine ⟨M', fun k hk => ⟨(hM' k hk).1.imp id (fun q => by have := hB5.size; omega), (hM' k hk).2⟩, (It.FrM.of_below (M := M1) hB5).trans hf3 (fun i hi => .inl hi), hj3, fun y hy => ?_⟩
     rcases List.mem_append.1 hy with hy | hy
     ·exact hall y hy
     ·simp at hy; subst hy; exact hxA.out
    ·gi_wp2
     refine ⟨M', fun k hk => ⟨(hM' k hk).1.imp id (fun q => by have := hB5.size; omega), (hM' k hk).2⟩, (It.FrM.of_below (M := M1) hB5).trans hf3 (fun i hi => .inl hi), rfl, .inr ⟨hj3, fun y hy => ?_⟩⟩
     rcases List.mem_append.1 hy with hy | hy
     ·exact hall y hy
     ·simp at hy; subst hy; exact hxA.out
  case hdone =>
   rintro D xs M1 V hD hDV hDM hMb hF rfl ⟨hj, hall⟩ hK
   have hfW : It.FrM M W V := (It.FrM.of_below hW4).trans hF (fun i hi => .inl hi)
   gi_wp2
   refine ⟨by simp, .inl ⟨_, _, rfl, run_takeDeferred hK, ?_⟩⟩
   have fD : It.FrM (fun k => k = D) V (V.putObj D (.deferred none)) := .putObj _ _ _ rfl
   refine ⟨_, results_none rfl _ _ _, ⟨_, rfl⟩, M1, fun k hk => ⟨(hMb k hk).1.imp id (fun q => by omega), by have := (hMb k hk).2; simpa using this⟩, hfW.trans fD (fun i hi => .inr (by subst hi; omega)), .inl ⟨_, ?_, hJ _ _ _ _ hj (fD.mono (fun i hi => .inl (by subst hi; exact ⟨hDM, by omega⟩)))⟩⟩
   unfold heldV
   rw [if_pos hrA.out, held_all hall]
  case hstop =>
   rintro D cd pre M1 V hD hDV hDM hMb hF hpre ⟨rfl, hor⟩ hK
   have hfW : It.FrM M W V := (It.FrM.of_below hW4).trans hF (fun i hi => .inl hi)
   gi_wp2
   refine ⟨by simp, .inl ⟨_, _, rfl, run_takeDeferred hK, ?_⟩⟩
   have fD : It.FrM (fun k => k = D) V (V.putObj D (.deferred none)) := .putObj _ _ _ rfl
   refine ⟨_, results_none rfl _ _ _, ⟨_, rfl⟩, M1, fun k hk => ⟨(hMb k hk).1.imp id (fun q => by omega), by have := (hMb k hk).2; simpa using this⟩, hfW.trans fD (fun i hi => .inr (by subst hi; omega)), ?_⟩
   rcases hor with ⟨pre', x, rfl, hj, hall, hx⟩ | ⟨hj, hall⟩
   ·refine .inl ⟨pre', ?_, hJ _ _ _ _ hj (fD.mono (fun i hi => .inl (by subst hi; exact ⟨hDM, by omega⟩)))⟩
    unfold heldV
    rw [if_pos hrA.out, held_stop hrise hpre hall hx]
   ·refine .inr ⟨pre, ?_, hJx _ _ _ _ hj (fD.mono (fun i hi => .inl (by subst hi; exact ⟨hDM, by omega⟩)))⟩
    unfold heldV
    rw [if_pos hrA.out]
    obtain ⟨r, hr⟩ := hpre
    have h1 : (foldV l e).filter (fun x => holds f t x.1) = ((foldV l e).filter (fun x => !OrdSs.lt x.1 f)).filter (fun x => holds f t x.1) := by
     rw [List.filter_filter]
     refine List.filter_congr (fun y _ => ?_)
     rw [holds_def]
     show _ = (!OrdSs.lt y.1 f && ah y.1 t && !OrdSs.lt y.1 f)
     rw [show lt y.1 f = OrdSs.lt y.1 f from rfl]
     cases OrdSs.lt y.1 f <;> cases ah y.1 t <;> rfl
    rw [h1, ← hr, List.filter_append, List.filter_eq_self.2 (fun y hy => hall y hy)]
    exact List.prefix_append _ _
end
end Go.Proofs.Ytebejadiaooooaa.Fo
end
section
namespace Go.Proofs.Ytebejadiaooooaa.Fo
open Go.RowKit Go.Shelf Go.Proofs.YtebejadiaooooaaW.PrintWords Go.Proofs.YtebejadiaooooaaW.PrintLast Go.Proofs.YtebejadiaooooaaW.PrintMore Go.Proofs.Ytebejadiaooooaa.Own Go.Proofs.Ytebejadiaooooaa.Ord Go.Proofs.Ytebejadiaooooaa Go.Proofs.Ytebejadiaooooaa.P
open Go.Proofs.Ytebejadiaooooaa.OrdSs (cell_two_new)
attribute [local go_sem] Oper.semAt_some
set_option maxHeartbeats 2000000
set_option maxRecDepth 100000
def flatE (xs : Row) : List Value := xs.flatMap fun x => [.string x.1, .string x.2]
theorem flatE_snoc (xs : Row) (x : ByteArray × ByteArray) : flatE (xs ++ [x]) = flatE xs ++ [.string x.1, .string x.2] := by simp [flatE]
theorem reps_flatE (w : World) (base : Nat) (ok : Nat → Prop) (xs : Row) : Reps (P.k39.M w base ok) 2 (xs.map toE) (flatE xs) := by
 have key : ∀ l : Row, Reps (P.k39.M w base ok) 2 (l.reverse.map toE) (flatE l.reverse) := fun l => by
  induction l with
  | nil => exact Reps.none _ _
  | cons x l ih =>
   rw [List.reverse_cons, List.map_append, flatE_snoc]
   exact Reps.snoc ih (P.k39_mkM w base ok (toE x)) rfl
 simpa using key xs.reverse
theorem R_of_flatE {w : World} {base : Nat} {v : Value} {xs : Row} (ho : w.ownsRow base 39 2 v xs.length (flatE xs)) :
  P.k39.R 39 w base (fun _ => True) v (xs.map toE) :=
 ⟨fun _ _ => trivial, flatE xs, by rw [List.length_map]; exact ho, reps_flatE _ _ _ _⟩
theorem underE : Try.prog.underlying 23 = some (.slice 39) := Try.underlying23
theorem foldall_made (n : Nat) (A A2 : Option Addr) (k c k2 c2 : Nat) (f t : ByteArray) (w : World) :
  CallsIn Fence.wide n Try.prog 59 #[.slice A k c, .slice A2 k2 c2, .agg #[.string f, .string t]] w fun r w' =>
   r = .returned (.func (.func 90) #[] #[.pointer (some ⟨w.heap.size + 1 + 1, 0, none⟩), .pointer (some ⟨w.heap.size, 0, none⟩), .pointer (some ⟨w.heap.size + 1, 0, none⟩)]) ∧
   w' = ((w.alloc (.cells #[.slice A k c] 22)).alloc (.cells #[.slice A2 k2 c2] 23)).alloc (.cells #[.string f, .string t] 28) := by
 refine callsIn_of_wp Try.func59 rfl trivial ?_ rfl
 simp only [Try.ntmps59, List.size_toArray, List.length_cons, List.length_nil, Nat.reduceAdd, Nat.reduceSub, Array.replicate_succ, Array.replicate_zero, List.push_toArray, List.append_toArray, List.nil_append, List.cons_append]
 gi_wp2
 go_ret
 exact ⟨rfl, rfl⟩
theorem held_len (f t : ByteArray) (l : List Ms) (e : List En) : (heldV f t (foldV l e)).length ≤ l.length + e.length := by
 have h1 := (fold_rise l e).2
 unfold heldV
 split
 ·have h2 := List.length_filter_le (fun x : ByteArray × ByteArray => holds f t x.1) (foldV l e)
  omega
 ·simp
theorem entries_any {w : World} {A A2 : Option Addr} {c c2 : Nat} {l : List Ms} {e : List En} (f t : ByteArray) (hC : Kd.C P.k32 w A l.length l) (hcap : l.length ≤ c) (hC2 : Kd.C P.k39 w A2 e.length e) (hcap2 : e.length ≤ c2) (hlen : l.length ≤ 100000) (hlen2 : e.length ≤ 100000) (hsz : ∀ x ∈ l, x.f2.size ≤ 140737488351232) :
  Calls Try.prog 15 #[.slice A l.length c, .slice A2 e.length c2, .agg #[.string f, .string t]] w fun r w' => ∃ v, r = .returned v ∧ P.k39.R 39 w' w.heap.size (fun _ => True) v ((heldV f t (foldV l e)).map toE) ∧ Below w.heap.size w w' := by
 have hur := Try.underlying28
 obtain ⟨i0, hi, hz0, hz1, hz2⟩ := info_parts P.info39
 refine (callsIn_wide (n := 5)).1 ?_
 refine callsIn_of_wp_marks Try.func15 rfl trivial ?_ rfl
 simp only [Try.ntmps15, List.size_toArray, List.length_cons, List.length_nil, Nat.reduceAdd, Nat.reduceSub, Array.replicate_succ, Array.replicate_zero, List.push_toArray, List.append_toArray, List.nil_append, List.cons_append]
 gi_wp2_with (refine ⟨trivial, ?_⟩; gi_at_call 59; refine (foldall_made _ A A2 l.length c e.length c2 f t _).mono ?_; rintro r w' ⟨rfl, rfl⟩)
 have bO := Boxed.new (w.alloc (.cells #[.string f, .string t] 28)) 23 (.slice none 0 0)
 rw [World.size_alloc] at bO
 generalize hw1 : (w.alloc (.cells #[.string f, .string t] 28)).alloc (.cells #[.slice none 0 0] 23) = w1 at bO ⊢
 have hs1 : w1.heap.size = w.heap.size + 1 + 1 := by rw [← hw1]; simp
 have hB1 : Below w.heap.size w w1 := by rw [← hw1]; exact ((Below.refl _ w).alloc (Nat.le_refl _) _).alloc (by simp) _
 have g1 := blk_alloc (blk_alloc (blk_new w1 (.cells #[.slice A l.length c] 22)) (.cells #[.slice A2 e.length c2] 23)) (.cells #[.string f, .string t] 28)
 have g2 := blk_alloc (blk_new (w1.alloc (.cells #[.slice A l.length c] 22)) (.cells #[.slice A2 e.length c2] 23)) (.cells #[.string f, .string t] 28)
 have g3 := blk_new ((w1.alloc (.cells #[.slice A l.length c] 22)).alloc (.cells #[.slice A2 e.length c2] 23)) (.cells #[.string f, .string t] 28)
 rw [World.size_alloc] at g2
 rw [World.size_alloc, World.size_alloc] at g3
 have bO2 := ((bO.alloc (.cells #[.slice A l.length c] 22)).alloc (.cells #[.slice A2 e.length c2] 23)).alloc (.cells #[.string f, .string t] 28)
 have hB2 : Below w.heap.size w (((w1.alloc (.cells #[.slice A l.length c] 22)).alloc (.cells #[.slice A2 e.length c2] 23)).alloc (.cells #[.string f, .string t] 28)) :=
  ((hB1.alloc (by omega) _).alloc (by simp; omega) _).alloc (by simp; omega) _
 generalize hw2 : ((w1.alloc (.cells #[.slice A l.length c] 22)).alloc (.cells #[.slice A2 e.length c2] 23)).alloc (.cells #[.string f, .string t] 28) = w2 at g1 g2 g3 bO2 hB2 ⊢
 have hs2 : w2.heap.size = w.heap.size + 1 + 1 + 1 + 1 + 1 := by rw [← hw2]; simp; omega
 rw [hs1] at g1 g2 g3
 clear hw1 hw2 bO
 have hIt := foldall_iter 4 (S := fun k => k < w.heap.size ∨ k = w.heap.size + 1 + 1 ∨ k = w.heap.size + 1 + 1 + 1 ∨ k = w.heap.size + 1 + 1 + 1 + 1) hB2 hC hcap hC2 hcap2 hlen hlen2 hsz (by intro k hk; omega) (fun k hk => .inl hk) (.inr (.inr (.inr rfl))) (.inr (.inl rfl)) (.inr (.inr (.inl rfl))) g3 g1 g2
 have hhl := held_len f t l e
 have hmx : maxLen = 9223372036854775807 := rfl
 apply It.range_iter rfl (by omega) (gf := 90) (lb := #[.pointer (some ⟨w.heap.size + 1 + 1 + 1 + 1, 0, none⟩), .pointer (some ⟨w.heap.size + 1 + 1, 0, none⟩), .pointer (some ⟨w.heap.size + 1 + 1 + 1, 0, none⟩)]) rfl trivial (enters_of Try.func90 (by kernel_rfl) rfl)
  hIt (It.FrM.refl _ _) (fun k => k = w.heap.size + 1) (fun k hk => ⟨by omega, by omega⟩) (fun k hk => by omega) (fun _ => rfl)
  (fun pre M V => It.OutC 23 39 2 w.heap.size (w.heap.size + 1) pre.length (flatE pre) M V) (fun _ _ _ _ => False)
  (It.OutC.stab _ _ _ _ _ _ _ _) (fun _ _ _ _ _ h _ => h) (It.OutC.start bO2)
 case hassign =>
  intro ll x V K hK
  gi_wp2
  exact hK
 case hbody =>
  rintro ll pre x M1 V ⟨v, hv, hrow, hMB, hMg⟩ hMb hF hlt
  have hc1 := hv.cell
  have hsV := hF.size
  gi_wp2_with (gi_at_builtin; refine wpListIn_append_own_at _ rfl _ _ 23 rfl w.heap.size 39 i0 (.agg #[(.string ⟨#[]⟩), (.string ⟨#[]⟩)]) 2 32 underE hi hz0 hz1 hz2 rfl (by decide) _ _ _ rfl (hrow.alloc _) ⟨V.heap.size, 0, none⟩ 1 1 [.string x.1, .string x.2] rfl rfl (cell_two_new _ _ _ _) (by simp [Value.oneCell']) (by omega) (by omega) (by simp; omega) ?_; intro v' w1 hown' hgrow _ hat; obtain ⟨g', cap', rfl⟩ := ownsRow_succ hown'; obtain ⟨hv1, hq⟩ := It.OutC.next hv hrow hMB hMg (fun k hk => (hMb k hk).2) (by decide) (by omega) (by omega) hown' hgrow hat; have hc2 := hv1.cell; have hf2 := hv1.frozen)
  obtain ⟨M', q1, q2, q3⟩ := hq
  exact ⟨M', q1, q2, by show It.OutC _ _ _ _ _ (pre ++ [x]).length (flatE (pre ++ [x])) _ _; rw [List.length_append, flatE_snoc]; exact q3⟩
 case hstop =>
  intro D cd pre M1 V _ _ _ _ _ _ h _
  exact h.elim
 case hdone =>
  rintro D ys M1 V hD hDV hDM hMb hF rfl ⟨v, hv, hrow, hMB, hMg⟩ hK
  have hc1 := hv.cell
  have hBV : Below w.heap.size w V := hB2.trans (hF.below (base := w.heap.size) (fun k hk => by omega) (by omega))
  gi_wp2
  refine ⟨by simp, .inl ⟨_, _, rfl, run_takeDeferred hK, ?_⟩⟩
  exact ⟨_, results_tmp rfl _ _ _, v, rfl, R_of_flatE (ownsRow_putObj hrow _ hK rfl), hBV.trans (belowK_b (w := w) (Nat.le_refl _) V D _ _ (by omega) hK rfl rfl)⟩
end Go.Proofs.Ytebejadiaooooaa.Fo
end
section
namespace Go.Proofs.Ytebejadiaooooaa.Fo
open Go.RowKit Go.Shelf Go.Proofs.YtebejadiaooooaaW.PrintWords Go.Proofs.YtebejadiaooooaaW.PrintLast Go.Proofs.YtebejadiaooooaaW.PrintMore Go.Proofs.Ytebejadiaooooaa.Own Go.Proofs.Ytebejadiaooooaa.Ord Go.Proofs.Ytebejadiaooooaa Go.Proofs.Ytebejadiaooooaa.P
open Go.Proofs.Ytebejadiaooooaa.OrdSs (cell_two_new)
attribute [local go_sem] Oper.semAt_some
set_option maxHeartbeats 2000000
set_option maxRecDepth 100000
end Go.Proofs.Ytebejadiaooooaa.Fo
end
section
namespace Go.Proofs.Ytebejadiaooooaa.Fo
open Go.RowKit Go.Shelf Go.Proofs.YtebejadiaooooaaW.PrintWords Go.Proofs.YtebejadiaooooaaW.PrintLast Go.Proofs.YtebejadiaooooaaW.PrintMore Go.Proofs.Ytebejadiaooooaa.Own Go.Proofs.Ytebejadiaooooaa.Ord Go.Proofs.Ytebejadiaooooaa Go.Proofs.Ytebejadiaooooaa.P
open Go.Proofs.Ytebejadiaooooaa.OrdSb (Hold hold_new hold_put hold_all_iter all_in)
open Go.Proofs.Ytebejadiaooooaa.OrdSs (infoStr underS)
attribute [local go_sem] Oper.semAt_some
set_option maxHeartbeats 2000000
set_option maxRecDepth 100000
end Go.Proofs.Ytebejadiaooooaa.Fo
end
section
namespace Go.Proofs.Ytebejadiaooooaa.Fo
open Go.RowKit Go.Shelf Go.Proofs.YtebejadiaooooaaW.PrintWords Go.Proofs.YtebejadiaooooaaW.PrintLast Go.Proofs.YtebejadiaooooaaW.PrintMore Go.Proofs.Ytebejadiaooooaa.Own Go.Proofs.Ytebejadiaooooaa.Ord Go.Proofs.Ytebejadiaooooaa Go.Proofs.Ytebejadiaooooaa.P
open Go.Proofs.Ytebejadiaooooaa.OrdSs (infoStr underS)
attribute [local go_sem] Oper.semAt_some
set_option maxHeartbeats 2000000
set_option maxRecDepth 100000
end Go.Proofs.Ytebejadiaooooaa.Fo
end
section
namespace Go.Proofs.Ytebejadiaooooaa.Fo
open Go.RowKit Go.Shelf Go.Proofs.YtebejadiaooooaaW.PrintWords Go.Proofs.YtebejadiaooooaaW.PrintLast Go.Proofs.YtebejadiaooooaaW.PrintMore Go.Proofs.Ytebejadiaooooaa.Own Go.Proofs.Ytebejadiaooooaa.Ord Go.Proofs.Ytebejadiaooooaa Go.Proofs.Ytebejadiaooooaa.P
open Go.Proofs.Ytebejadiaooooaa.OrdSs (cell_two_new own_empty run_eql_func_nil)
attribute [local go_sem] Oper.semAt_some
set_option maxHeartbeats 2000000
set_option maxRecDepth 100000
end Go.Proofs.Ytebejadiaooooaa.Fo
end
section
namespace Go.Proofs.Ytebejadiaooooaa.Fo
open Go.RowKit Go.Proofs.YtebejadiaooooaaW.PrintWords Go.Proofs.YtebejadiaooooaaW.PrintLast Go.Proofs.YtebejadiaooooaaW.PrintMore Go.Proofs.Ytebejadiaooooaa.Own Go.Proofs.Ytebejadiaooooaa
def okF (l : List Ms) (e : List En) : Bool := decide (l.length ≤ 100000) && decide (e.length ≤ 100000) && l.all (fun x => decide (x.f2.size ≤ 140737488351232))
theorem okF_iff {l : List Ms} {e : List En} : okF l e = true ↔ l.length ≤ 100000 ∧ e.length ≤ 100000 ∧ ∀ x ∈ l, x.f2.size ≤ 140737488351232 := by
 unfold okF
 rw [Bool.and_eq_true, Bool.and_eq_true, decide_eq_true_eq, decide_eq_true_eq, List.all_eq_true]
 simp only [decide_eq_true_eq, and_assoc]
def entriesF (l : List Ms) (e : List En) (f t : ByteArray) : Option (List En) := if okF l e = true then some ((heldV f t (foldV l e)).map toE) else none
section
variable {A0 A1 : Option Addr} {c0 c1 : Nat} {l0 : List Ms} {l1 : List En} {w : World}
theorem entriesF_calls {f t : ByteArray} {r : List En} (hr0 : Kd.C P.k32 w A0 l0.length l0) (hc0 : l0.length ≤ c0) (hr1 : Kd.C P.k39 w A1 l1.length l1) (hc1 : l1.length ≤ c1) (h : entriesF l0 l1 f t = some r) :
  Calls Try.prog 15 #[.slice A0 l0.length c0, .slice A1 l1.length c1, .agg #[.string f, .string t]] w fun e w' => ∃ v0_ : Value, e = .returned (v0_) ∧ Kd.R P.k39 39 w' w.heap.size (fun _ => True) v0_ r ∧ Below w.heap.size w w' := by
 unfold entriesF at h
 split at h
 ·rename_i hq
  cases h
  obtain ⟨h1, h2, h3⟩ := okF_iff.1 hq
  exact entries_any f t hr0 hc0 hr1 hc1 h1 h2 h3
 ·cases h
end
end Go.Proofs.Ytebejadiaooooaa.Fo
end
section
namespace Go.Proofs.Ytebejadiaooooaa.Cp
open Go.RowKit Go.Proofs.YtebejadiaooooaaW.PrintWords Go.Proofs.YtebejadiaooooaaW.PrintLast Go.Proofs.YtebejadiaooooaaW.PrintMore Go.Proofs.Ytebejadiaooooaa.Own Go.Proofs.Ytebejadiaooooaa
abbrev Ms := P.S32
def enc (m : Ms) : List Value := [.int .u8 m.f0, .int .i64 m.f1, .string m.f2, .string m.f3, .string m.f4, .int .u64 m.f5]
def flat (l : List Ms) : List Value := l.flatMap enc
theorem enc_length (m : Ms) : (enc m).length = 6 := rfl
theorem flat_nil : flat [] = [] := rfl
theorem flat_cons (m : Ms) (l : List Ms) : flat (m :: l) = enc m ++ flat l := rfl
theorem flat_append (a b : List Ms) : flat (a ++ b) = flat a ++ flat b := by simp [flat]
theorem flat_snoc (l : List Ms) (m : Ms) : flat (l ++ [m]) = flat l ++ enc m := by rw [flat_append, flat_cons, flat_nil, List.append_nil]
theorem flat_length : ∀ l : List Ms, (flat l).length = l.length * 6
 | [] => rfl
 | m :: l => by rw [flat_cons, List.length_append, enc_length, flat_length l, List.length_cons]; omega
theorem flat_take : ∀ (l : List Ms) (n : Nat), (flat l).take (n * 6) = flat (l.take n)
 | l, 0 => by simp [flat_nil]
 | [], n + 1 => by simp [flat_nil]
 | m :: l, n + 1 => by
  rw [flat_cons, List.take_succ_cons, flat_cons, ← flat_take l n, List.take_append, enc_length, List.take_of_length_le (by rw [enc_length]; omega)]
  congr 2
  omega
theorem flat_drop : ∀ (l : List Ms) (n : Nat), (flat l).drop (n * 6) = flat (l.drop n)
 | l, 0 => by simp
 | [], n + 1 => by simp [flat_nil]
 | m :: l, n + 1 => by
  rw [flat_cons, List.drop_succ_cons, ← flat_drop l n, List.drop_append, enc_length, List.drop_of_length_le (by rw [enc_length]; omega), List.nil_append]
  congr 1
  omega
theorem flat_one {u : Value} : ∀ {l : List Ms}, u ∈ flat l → u.oneCell' = true
 | [], h => by simp [flat_nil] at h
 | m :: l, h => by
  rw [flat_cons, List.mem_append] at h
  rcases h with h | h
  ·simp only [enc, List.mem_cons, List.not_mem_nil, or_false] at h
   rcases h with rfl | rfl | rfl | rfl | rfl | rfl <;> rfl
  ·exact flat_one h
abbrev Rw (W : World) (base : Nat) (v : Value) (l : List Ms) : Prop := W.ownsRow base 32 6 v l.length (flat l)
theorem reps_flat (w : World) (base : Nat) (ok : Nat → Prop) (xs : List Ms) : Reps (P.k32.M w base ok) 6 xs (flat xs) := by
 have key : ∀ l : List Ms, Reps (P.k32.M w base ok) 6 l.reverse (flat l.reverse) := fun l => by
  induction l with
  | nil => exact Reps.none _ _
  | cons x l ih =>
   rw [List.reverse_cons, flat_snoc]
   exact Reps.snoc ih (P.k32_mkM w base ok x) rfl
 simpa using key xs.reverse
theorem R_of_Rw {w : World} {base : Nat} {v : Value} {xs : List Ms} (ho : Rw w base v xs) : P.k32.R 32 w base (fun _ => True) v xs :=
 ⟨fun _ _ => trivial, flat xs, ho, reps_flat _ _ _ _⟩
theorem C_of_Rw {w : World} {base : Nat} {A : Option Addr} {n c : Nat} {xs : List Ms} (ho : Rw w base (.slice A n c) xs) : n = xs.length ∧ n ≤ c ∧ P.k32.C w A xs.length xs := Kd.R_reads' (R_of_Rw ho)
theorem Rw.slice {w : World} {base : Nat} {v : Value} {xs : List Ms} (ho : Rw w base v xs) : ∃ A c, v = .slice A xs.length c := Kd.R_slice (R_of_Rw ho)
theorem Rw.block {w : World} {base : Nat} {v : Value} {xs : List Ms} (ho : Rw w base v xs) (hn : 0 < xs.length) :
  ∃ g cap cur, v = .slice (some ⟨g, 0, none⟩) xs.length cap ∧ base ≤ g ∧ w.heap[g]? = some (.cells cur 32 (0, 0)) ∧ xs.length ≤ cap ∧ cap ≤ maxLen ∧ cur.size = cap * 6 ∧ cur.toList.take (xs.length * 6) = flat xs := by
 rcases ho.2 with ⟨_, h⟩ | h
 ·omega
 ·exact h
theorem Rw.mk {w : World} {base g cap : Nat} {cur : Array Value} {xs : List Ms} (hb : base ≤ g) (hh : w.heap[g]? = some (.cells cur 32 (0, 0))) (hc : xs.length ≤ cap) (hm : cap ≤ maxLen) (hs : cur.size = cap * 6) (ht : cur.toList.take (xs.length * 6) = flat xs) : Rw w base (.slice (some ⟨g, 0, none⟩) xs.length cap) xs :=
 ⟨flat_length xs, .inr ⟨g, cap, cur, rfl, hb, hh, hc, hm, hs, ht⟩⟩
theorem Rw.below {w W : World} {base : Nat} {v : Value} {xs : List Ms} (ho : Rw w base v xs) (hb : Below w.heap.size w W) : Rw W base v xs :=
 own_move ho (fun k hk => hb.block k (own_lt ho k hk))
theorem heap_setCells {g e : Nat} : ∀ (vs : List Value) (o : Nat) (w : World) (cur : Array Value), w.heap[g]? = some (.cells cur e (0, 0)) → o + vs.length ≤ cur.size →
  ∃ cur', (w.setCells g o vs).heap[g]? = some (.cells cur' e (0, 0)) ∧ cur'.toList = cur.toList.take o ++ vs ++ cur.toList.drop (o + vs.length)
 | [], o, w, cur, h, _ => ⟨cur, h, by simp⟩
 | v :: vs, o, w, cur, h, hl => by
  simp only [List.length_cons] at hl
  have h1 := blk_set h o v
  obtain ⟨cur', h2, h3⟩ := heap_setCells vs (o + 1) (w.setCell ⟨g, o, none⟩ v) _ h1 (by rw [Array.size_setIfInBounds]; omega)
  refine ⟨cur', h2, h3.trans ?_⟩
  have hlt : o < cur.toList.length := by rw [Array.length_toList]; omega
  rw [Array.toList_setIfInBounds, List.take_set, List.drop_set, if_pos (by omega)]
  rw [List.take_add_one, List.getElem?_eq_getElem hlt]
  simp only [Option.toList_some, List.length_cons]
  rw [List.set_append_right _ _ (by rw [List.length_take]; exact Nat.min_le_left _ _), List.length_take, Nat.min_eq_left (by omega), Nat.sub_self]
  simp only [List.set_cons_zero, List.append_assoc, List.cons_append, List.nil_append]
  rw [show o + 1 + vs.length = o + (vs.length + 1) by omega]
theorem grown_setCell (g i : Nat) (W : World) (v : Value) : W.grownBy (W.setCell ⟨g, i, none⟩ v) (some g) :=
 ⟨rfl, rfl, rfl, by simp, fun k _ hk => Below.heap_setCell W _ v k (fun e => hk (by rw [e]))⟩
theorem grown_setCells (g : Nat) : ∀ (vs : List Value) (o : Nat) (W : World), W.grownBy (W.setCells g o vs) (some g)
 | [], _, W => World.grownBy.refl _ _
 | v :: vs, o, W => (grown_setCell g o W v).trans (grown_setCells g vs (o + 1) _)
theorem grown_drew (W : World) (row : Option Nat) : W.grownBy W.drew row := ⟨rfl, rfl, rfl, Nat.le_refl _, fun _ _ _ => rfl⟩
theorem grown_below {W W' : World} (h : Below W.heap.size W W') (row : Option Nat) : W.grownBy W' row := ⟨h.os, h.tape, h.output, h.size, fun k hk _ => h.block k hk⟩
theorem grown_then {a b c : World} {row row' : Option Nat} (h : a.grownBy b row) (k : b.grownBy c row') (hr : ∀ j, row' = some j → a.heap.size ≤ j ∨ row = some j) : a.grownBy c row :=
 ⟨k.os.trans h.os, k.tape.trans h.tape, k.output.trans h.output, Nat.le_trans h.size k.size, fun i hi hne => (k.block i (Nat.lt_of_lt_of_le hi h.size) (fun e => by
  rcases hr i e.symm with q | q
  ·omega
  ·exact hne q.symm)).trans (h.block i hi hne)⟩
theorem cell_of_take {w : World} {g e : Nat} {cur : Array Value} {xs : List Value} (hh : w.heap[g]? = some (.cells cur e (0, 0))) (ht : cur.toList.take xs.length = xs) {i : Nat} {u : Value} (h : xs[i]? = some u) : w.cell? ⟨g, i, none⟩ = some u := by
 have hlt := (List.getElem?_eq_some_iff.1 h).1
 rw [← ht, List.getElem?_take, if_pos hlt, Array.getElem?_toList] at h
 rw [cell_of_row w g i cur e (0, 0) hh]
 exact h
end Go.Proofs.Ytebejadiaooooaa.Cp
end
