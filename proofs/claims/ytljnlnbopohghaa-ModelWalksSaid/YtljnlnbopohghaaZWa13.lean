/- Texts of one claim (laid by shake.py). -/
import Derived.Test.YtljnlnbopohghaaZWa6
import Derived.Test.YtljnlnbopohghaaZWa11
import Derived.Test.YtljnlnbopohghaaZWa12
import Derived.Test.YtljnlnbopohghaaZWa7
import Derived.RangeFuncBox
import Derived.Maps.OwnIn
import Derived.Test.YtljnlnbopohghaaZWa1
import Derived.Test.YtljnlnbopohghaaZWa10
import Derived.Deep.RegionHeld3
import Derived.Carry
import Derived.LoopTactic
set_option linter.unusedVariables false
set_option linter.unusedSimpArgs false
section
namespace Go.Proofs.Ytljnlnbopohghaa.P
open Go.RowKit Go.Proofs.YtljnlnbopohghaaW.PrintWords Go.Proofs.YtljnlnbopohghaaW.PrintLast Go.Proofs.YtljnlnbopohghaaW.PrintMore Go.Proofs.Ytljnlnbopohghaa.Own Go.Proofs.Ytljnlnbopohghaa
theorem IsPoint_eq (k q : Int) (y t v : ByteArray) (d : Int) : msg_IsPoint.f k q y t v d = some (isPt k) := by
 unfold msg_IsPoint.f isPt
 by_cases h1 : k = 1
 ·simp [h1]
 by_cases h2 : k = 2
 ·simp [h2]
 by_cases h3 : k = 3 <;> simp [h1, h2, h3]
theorem ahead_eq (s t : ByteArray) : key_ahead.f s t = some (emp t || lt s t) := by
 unfold key_ahead.f emp lt
 by_cases h : t.toList = [] <;> simp [h]
theorem RightRange_eq (f t : ByteArray) : key_RightRange.f f t = some (rr f t) := by
 unfold key_RightRange.f rr
 rw [ahead_eq]
 rfl
theorem After_eq (a : ByteArray) (h : a.size ≤ 140737488351232) : key_After.f a = some (succB a) := by
 unfold key_After.f succB
 rw [if_pos (by omega)]
theorem Point_range_eq (a : ByteArray) (h : a.size ≤ 140737488351232) : key_Point.f a = some (a, succB a) := by
 unfold key_Point.f
 rw [After_eq a h]
 rfl
theorem Span_eq (k q : Int) (y t v : ByteArray) (d : Int) (h : y.size ≤ 140737488351232) : msg_Span.f k q y t v d = some (span k y t) := by
 unfold msg_Span.f span
 rw [IsPoint_eq, Point_range_eq y h]
 simp only [Option.bind_some]
 cases isPt k
 ·by_cases h4 : k = 4 <;> simp [h4]
 simp
theorem or_add (a b : Int) (ha : 0 ≤ a) (ha2 : a < 72057594037927936) (hb : 0 ≤ b) (hb2 : b ≤ 255) : Go.bits .or .u64 (a * 256) b = a * 256 + b := by
 rw [Go.u64_or _ _ (by omega) (by omega) (by omega) (by omega)]
 obtain ⟨m, rfl⟩ := Int.eq_ofNat_of_zero_le ha
 obtain ⟨n, rfl⟩ := Int.eq_ofNat_of_zero_le hb
 have e : ((m : Int) * 256).toNat = m * 2 ^ 8 := by omega
 have e2 : (n : Int).toNat = n := by omega
 rw [e, e2, ← Nat.shiftLeft_eq, ← Nat.shiftLeft_add_eq_or_of_lt (by omega), Nat.shiftLeft_eq]
 omega
theorem take_step (k : Nat) (s : ByteArray) (hs : s.size = 8) (n : Nat) (hn : n < 8) : word_Take.l0 (k + 1) s (valN s n) 8 n = word_Take.l0 k s (valN s (n + 1)) 8 ((n + 1 : Nat) : Int) := by
 have hv := valN_range s n
 have hb := bt_range s n
 have hp := pow_le n hn
 have hv2 : valN s n < 72057594037927936 := by omega
 simp only [word_Take.l0]
 rw [if_pos (by omega), if_pos (by omega), if_pos (by omega)]
 rw [IntWalk.u64_in (valN s n * 256) (by omega), IntWalk.u64_in (bt s n) (by omega), or_add _ _ hv.1 hv2 hb.1 hb.2, IntWalk.wrap64_in _ (by omega)]
 rfl
theorem word_Take_eq (k : Nat) (s : ByteArray) : word_Take.f (k + 9) s = some (if s.size = 8 then (valN s 8, true) else (0, false)) := by
 unfold word_Take.f
 by_cases h : s.size = 8
 ·rw [if_pos (by omega), if_pos h]
  have e : (s.size : Int) = 8 := by omega
  rw [e]
  have s0 := take_step (k + 8) s h 0 (by omega)
  have s1 := take_step (k + 7) s h 1 (by omega)
  have s2 := take_step (k + 6) s h 2 (by omega)
  have s3 := take_step (k + 5) s h 3 (by omega)
  have s4 := take_step (k + 4) s h 4 (by omega)
  have s5 := take_step (k + 3) s h 5 (by omega)
  have s6 := take_step (k + 2) s h 6 (by omega)
  have s7 := take_step (k + 1) s h 7 (by omega)
  refine s0.trans (s1.trans (s2.trans (s3.trans (s4.trans (s5.trans (s6.trans (s7.trans ?_)))))))
  simp only [word_Take.l0]
  rw [if_neg (by omega)]
 rw [if_neg (by omega), if_neg h]
theorem word_Add_eq (k : Nat) (v : ByteArray) (is : Bool) (d : Int) : word_Add.f (k + 9) v is d = some (addV v is d) := by
 have e8 : ∀ z, Wp.eight z = eight z := fun _ => rfl
 unfold word_Add.f addV word_Put.f
 rw [word_Take_eq]
 cases is <;> by_cases h : v.size = 8 <;> simp [h, e8]
theorem Holds_eq (f t s : ByteArray) : key_Holds.f f t s = some (holds f t s) := by
 unfold key_Holds.f holds
 rw [ahead_eq]
 by_cases h : Op.bytesLess s.toList f.toList = true
 ·simp [h, lt]
 simp [h, lt]
theorem Apply_eq (n : Nat) (k q : Int) (y t vv : ByteArray) (d : Int) (v : ByteArray) (is : Bool) : msg_Apply.f (n + 9) k q y t vv d v is = some (applyV k vv d v is) := by
 unfold msg_Apply.f applyV
 by_cases h1 : k = 1
 ·simp [h1]
 by_cases h3 : k = 3
 ·simp [h3, word_Add_eq]
 by_cases h2 : k = 2
 ·simp [h2, msg_Apply.j0]
 by_cases h4 : k = 4
 ·simp [h4, msg_Apply.j0]
 have b4 : (k == 4) = false := by simp [h4]
 cases is <;> simp [h1, h2, h3, h4, msg_Apply.j0, b4]
end Go.Proofs.Ytljnlnbopohghaa.P
end
section
namespace Go.Proofs.Ytljnlnbopohghaa.It
open Go Go.RowKit Go.Proofs.YtljnlnbopohghaaW.PrintWords
def OutC (t e : TypeId) (size base B n : Nat) (C : List Value) (M : Nat → Prop) (W : World) : Prop :=
 ∃ v, Boxed W B t v ∧ W.ownsRow base e size v n C ∧ M B ∧ ∀ g, v.ownBlock = some g → M g
theorem OutC.move {t e : TypeId} {size base B n : Nat} {C : List Value} {M : Nat → Prop} {B0 : Nat} {W W' : World} (h : OutC t e size base B n C M W) (f : FrM (fun k => ¬ M k ∧ B0 ≤ k) W W') : OutC t e size base B n C M W' := by
 obtain ⟨v, hv, hr, hB, hg⟩ := h
 refine ⟨v, (f.block B hv.lt (fun q => q.1 hB)).trans hv, own_move hr (fun k hk => ?_), hB, hg⟩
 obtain ⟨cells, hc⟩ := own_typed hr k hk
 exact f.block k (Array.getElem?_eq_some_iff.1 hc).1 (fun q => q.1 (hg k hk))
theorem OutC.next {t e : TypeId} {size base B n m : Nat} {C C' : List Value} {M : Nat → Prop} {W w1 : World} {v v' : Value} {tmp : Obj} (hv : Boxed W B t v) (hrow : W.ownsRow base e size v n C) (hMB : M B) (hMg : ∀ g, v.ownBlock = some g → M g) (hM : ∀ k, M k → k < W.heap.size)
  (hte : t ≠ e) (hbase : base ≤ W.heap.size) (hB : base ≤ B) (hown' : w1.ownsRow base e size v' m C') (hgrow : (W.alloc tmp).grownBy w1 v.ownBlock) (hat : v'.ownBlock = v.ownBlock ∨ v'.ownBlock = some (W.alloc tmp).heap.size) :
  Boxed w1 B t v ∧ ∃ M' : Nat → Prop, (∀ k, M' k → (M k ∨ W.heap.size ≤ k) ∧ k < (w1.setCell ⟨B, 0, none⟩ v').heap.size) ∧ FrM M W (w1.setCell ⟨B, 0, none⟩ v') ∧ OutC t e size base B m C' M' (w1.setCell ⟨B, 0, none⟩ v') := by
 obtain ⟨h1, h2, h3, h4, h5⟩ := hv.appended hte hrow hbase hB hown' hgrow
 refine ⟨h1, fun k => M k ∨ v'.ownBlock = some k, ?_, ?_, ⟨v', h2, h3, .inl hMB, fun g hg => .inr hg⟩⟩
 ·rintro k (hk | hk)
  ·exact ⟨.inl hk, Nat.lt_of_lt_of_le (hM k hk) h5.size⟩
  obtain ⟨cells, hc⟩ := own_typed h3 k hk
  refine ⟨?_, (Array.getElem?_eq_some_iff.1 hc).1⟩
  rcases hat with q | q
  ·exact .inl (hMg k (q ▸ hk))
  have e1 : some k = some (W.alloc tmp).heap.size := hk.symm.trans q
  injection e1 with e1
  rw [e1]
  exact .inr (by simp)
 have f1 : FrM M W (W.alloc tmp) := (FrM.refl M W).alloc tmp
 have f2 : FrM M (W.alloc tmp) w1 := FrM.grown hgrow (fun r hr => .inl (hMg r hr))
 have f3 : FrM M w1 (w1.setCell ⟨B, 0, none⟩ v') := FrM.grown (grownBy_setCell' w1 B v') (fun r hr => .inl (by cases hr; exact hMB))
 exact (f1.trans f2 (fun i hi => .inl hi)).trans f3 (fun i hi => .inl hi)
theorem OutC.start {t e : TypeId} {size base B : Nat} {W : World} (hv : Boxed W B t (.slice none 0 0)) : OutC t e size base B 0 [] (fun k => k = B) W :=
 ⟨_, hv, World.ownsRow_nil _ _ _ _, rfl, fun g hg => by simp [Value.ownBlock] at hg⟩
end Go.Proofs.Ytljnlnbopohghaa.It
end
section
namespace Go.Proofs.Ytljnlnbopohghaa.Mdl
open Go.RowKit Go.Shelf Go.Proofs.YtljnlnbopohghaaW.PrintWords Go.Proofs.YtljnlnbopohghaaW.PrintLast Go.Proofs.YtljnlnbopohghaaW.PrintMore Go.Proofs.Ytljnlnbopohghaa.Own Go.Proofs.Ytljnlnbopohghaa.Ord Go.Proofs.Ytljnlnbopohghaa Go.Proofs.Ytljnlnbopohghaa.P
open Go.Proofs.Ytljnlnbopohghaa.OrdSm (Hold hold_from_iter from_in lin cell_two_new)
attribute [local go_sem] Oper.semAt_some
set_option maxHeartbeats 2000000
set_option maxRecDepth 100000
abbrev En := S103
abbrev Ms := S117
structure Cf where (f0 f1 f2 f3 f4 f5 f6 f7 f8 : Int)
abbrev Row := List (ByteArray × ByteArray)
def toE (x : ByteArray × ByteArray) : En := ⟨x.1, x.2⟩
abbrev objM (c : Cf) (n : Int) (em cb : Nat) (sends : Int) : Obj := .cells #[.int .i64 c.f0, .int .i64 c.f1, .int .i64 c.f2, .int .i64 c.f3, .int .i64 c.f4, .int .i64 c.f5, .int .i64 c.f6, .int .i64 c.f7, .int .i64 c.f8, .int .i64 n, .pointer (some ⟨em, 0, none⟩), .map (some cb), .int .i64 sends] 122 (0, 0)
def flatE (xs : Row) : List Value := xs.flatMap fun x => [.string x.1, .string x.2]
theorem flatE_snoc (xs : Row) (x : ByteArray × ByteArray) : flatE (xs ++ [x]) = flatE xs ++ [.string x.1, .string x.2] := by simp [flatE]
theorem reps_flatE (w : World) (base : Nat) (ok : Nat → Prop) (xs : Row) : Reps (P.k103.M w base ok) 2 (xs.map toE) (flatE xs) := by
 have key : ∀ l : Row, Reps (P.k103.M w base ok) 2 (l.reverse.map toE) (flatE l.reverse) := fun l => by
  induction l with
  | nil => exact Reps.none _ _
  | cons x l ih =>
   rw [List.reverse_cons, List.map_append, flatE_snoc]
   exact Reps.snoc ih (P.k103_mkM w base ok (toE x)) rfl
 simpa using key xs.reverse
theorem R_of_flatE {w : World} {base : Nat} {v : Value} {xs : Row} (ho : w.ownsRow base 103 2 v xs.length (flatE xs)) :
  P.k103.R 103 w base (fun _ => True) v (xs.map toE) :=
 ⟨fun _ _ => trivial, flatE xs, by rw [List.length_map]; exact ho, reps_flatE _ _ _ _⟩
theorem underE : Try.prog.underlying 30 = some (.slice 103) := Try.underlying30
theorem held_stop {f t : ByteArray} {L pre : Row} {x : ByteArray × ByteArray} (hL : Rise OrdSm.lt L) (hpre : pre ++ [x] <+: L.filter (fun x => !OrdSm.lt x.1 f)) (hall : ∀ y ∈ pre, holds f t y.1 = true) (hx : holds f t x.1 = false) : L.filter (fun x => holds f t x.1) = pre := by
 obtain ⟨r, hr⟩ := hpre
 have h1 : L.filter (fun x => holds f t x.1) = (L.filter (fun x => !OrdSm.lt x.1 f)).filter (fun x => holds f t x.1) := by
  rw [List.filter_filter]
  refine List.filter_congr (fun y _ => ?_)
  rw [holds_def]
  show _ = (!OrdSm.lt y.1 f && ah y.1 t && !OrdSm.lt y.1 f)
  rw [show lt y.1 f = OrdSm.lt y.1 f from rfl]
  cases OrdSm.lt y.1 f <;> cases ah y.1 t <;> rfl
 have hR : Rise OrdSm.lt (pre ++ [x] ++ r) := by rw [hr]; exact hL.filter _
 rw [h1, ← hr, List.filter_append, List.filter_append]
 have e1 : pre.filter (fun x => holds f t x.1) = pre := List.filter_eq_self.2 (fun y hy => hall y hy)
 have hx2 : x ∈ L.filter (fun x => !OrdSm.lt x.1 f) := by rw [← hr]; simp
 have hxf : lt x.1 f = false := by
  have h2 : (!OrdSm.lt x.1 f) = true := (List.mem_filter.1 hx2).2
  show OrdSm.lt x.1 f = false
  cases q : OrdSm.lt x.1 f with
  | false => rfl
  | true => rw [q] at h2; cases h2
 have hxt : ah x.1 t = false := by rw [holds_def, hxf] at hx; simpa using hx
 have e3 : r.filter (fun x => holds f t x.1) = [] := List.filter_eq_nil_iff.2 (fun y hy hq => by
  have hxy : lt x.1 y.1 = true := by
   have := (List.pairwise_append.1 hR).2.2 x (by simp) y hy
   exact this
  rw [holds_def] at hq
  simp at hq
  rw [ah_lt hxy hq.2] at hxt
  cases hxt)
 rw [e1, e3]
 simp [hx]
theorem held_pre {f t : ByteArray} {L pre : Row} (hpre : pre <+: L.filter (fun x => !OrdSm.lt x.1 f)) (hall : ∀ y ∈ pre, holds f t y.1 = true) : pre <+: L.filter (fun x => holds f t x.1) := by
 obtain ⟨r, hr⟩ := hpre
 have h1 : L.filter (fun x => holds f t x.1) = (L.filter (fun x => !OrdSm.lt x.1 f)).filter (fun x => holds f t x.1) := by
  rw [List.filter_filter]
  refine List.filter_congr (fun y _ => ?_)
  rw [holds_def]
  show _ = (!OrdSm.lt y.1 f && ah y.1 t && !OrdSm.lt y.1 f)
  rw [show lt y.1 f = OrdSm.lt y.1 f from rfl]
  cases OrdSm.lt y.1 f <;> cases ah y.1 t <;> rfl
 rw [h1, ← hr, List.filter_append, List.filter_eq_self.2 (fun y hy => hall y hy)]
 exact List.prefix_append _ _
theorem held_all {f t : ByteArray} {L : Row} (hall : ∀ y ∈ L.filter (fun x => !OrdSm.lt x.1 f), holds f t y.1 = true) : L.filter (fun x => holds f t x.1) = L.filter (fun x => !OrdSm.lt x.1 f) := by
 refine List.filter_congr (fun y hy => ?_)
 cases q : OrdSm.lt y.1 f with
 | true =>
  rw [holds_def, show lt y.1 f = OrdSm.lt y.1 f from rfl, q]; rfl
 | false => rw [hall y (List.mem_filter.2 ⟨hy, by rw [q]; rfl⟩)]; rfl
def someM (f t : ByteArray) (L : Row) (k : Int) : Row := (L.filter (fun x => holds f t x.1)).take k.toNat
theorem some_any {w : World} {m em cb : Nat} {c : Cf} {n sends : Int} {U : Nat → Prop} {L : Row} (hm : w.heap[m]? = some (objM c n em cb sends)) (hH : Hold U w em L) (hl : L.length ≤ 1000000) (f t : ByteArray) (k : Int) :
  Calls Try.prog 53 #[.pointer (some ⟨m, 0, none⟩), .agg #[.string f, .string t], .int .i64 k] w fun r w' => ∃ v, r = .returned v ∧ P.k103.R 103 w' w.heap.size (fun _ => True) v ((someM f t L k).map toE) ∧ Below w.heap.size w w' := by
 have hur := Try.underlying29
 have hum := Try.underlying122
 obtain ⟨i0, hi, hz0, hz1, hz2⟩ := info_parts P.info103
 refine (callsIn_wide (n := 5)).1 ?_
 refine callsIn_of_wp_marks Try.func53 rfl trivial ?_ rfl
 simp only [Try.ntmps53, List.size_toArray, List.length_cons, List.length_nil, Nat.reduceAdd, Nat.reduceSub, Array.replicate_succ, Array.replicate_zero, List.push_toArray, List.append_toArray, List.nil_append, List.cons_append]
 replace hH := hH.bound
 gi_wp2
 have hml := blk_lt hm
 have bO := Boxed.new ((w.alloc (.cells #[.string f, .string t] 29)).alloc (.cells #[.int .i64 k] 3)) 30 (.slice none 0 0)
 have bn := (Boxed.new (w.alloc (.cells #[.string f, .string t] 29)) 3 (.int .i64 k)).alloc (.cells #[.slice none 0 0] 30)
 have br := blk_alloc (blk_alloc (blk_new w (.cells #[.string f, .string t] 29)) (.cells #[.int .i64 k] 3)) (.cells #[.slice none 0 0] 30)
 rw [World.size_alloc, World.size_alloc] at bO
 rw [World.size_alloc] at bn
 have hB1 : Below w.heap.size w (((w.alloc (.cells #[.string f, .string t] 29)).alloc (.cells #[.int .i64 k] 3)).alloc (.cells #[.slice none 0 0] 30)) := (((Below.refl _ w).alloc (Nat.le_refl _) _).alloc (by simp) _).alloc (by simp; omega) _
 have hs1 : (((w.alloc (.cells #[.string f, .string t] 29)).alloc (.cells #[.int .i64 k] 3)).alloc (.cells #[.slice none 0 0] 30)).heap.size = w.heap.size + 1 + 1 + 1 := by simp
 generalize ((w.alloc (.cells #[.string f, .string t] 29)).alloc (.cells #[.int .i64 k] 3)).alloc (.cells #[.slice none 0 0] 30) = w2 at bO bn br hB1 hs1 ⊢
 have hm2 := blk_below hm hB1
 have hH2 := hH.below hB1
 have z0 := blk_cell hm2 10
 have z1 := blk_cell br 0
 simp at z0 z1
 have FR : Calls Try.prog 81 #[.pointer (some ⟨em, 0, none⟩), .string f] w2.drew fun r' w4 => r' = .returned (.func (.func 99) #[] #[.pointer (some ⟨w2.heap.size, 0, none⟩), .pointer (some ⟨w2.heap.size + 1, 0, none⟩)]) ∧ (w4.cell? ⟨m, 10, none⟩ = some (.pointer (some ⟨em, 0, none⟩)) ∧ w4.cell? ⟨w.heap.size, 0, none⟩ = some (.string f)) ∧
   (Below w2.heap.size w2 w4 ∧ w4.cell? ⟨w2.heap.size, 0, none⟩ = some (.pointer (some ⟨em, 0, none⟩)) ∧ w4.cell? ⟨w2.heap.size + 1, 0, none⟩ = some (.string f) ∧ w2.heap.size + 1 < w4.heap.size) := by
  refine (callsIn_wide (n := 5)).1 ((from_in 5 (some ⟨em, 0, none⟩) f w2.drew).mono ?_)
  rintro r w4 ⟨rfl, tt, rfl⟩
  have h1 : Below w2.heap.size w2 ((w2.drew.alloc (.cells #[.pointer (some ⟨em, 0, none⟩)] tt)).alloc (.cells #[.string f] 9)) := (((below_drew1 (Below.refl w2.heap.size w2)).alloc (Nat.le_refl _) _).alloc (by simp) _)
  have bN := (Boxed.new w2.drew tt (.pointer (some ⟨em, 0, none⟩))).alloc (.cells #[.string f] 9)
  have bK := Boxed.new (w2.drew.alloc (.cells #[.pointer (some ⟨em, 0, none⟩)] tt)) 9 (.string f)
  rw [World.size_alloc] at bK
  refine ⟨rfl, ⟨?_, ?_⟩, h1, bN.cell, bK.cell, by simp⟩
  ·have := blk_cell (blk_below hm2 h1) 10; simpa using this
  ·have := blk_cell (blk_below br h1) 0; simpa using this
 have hHA := aK_ hH2
 have hbA := aK_ (And.intro bO (And.intro bn (And.intro br hB1)))
 have hs1A := aK_ hs1
 clear hH hH2 hm hm2 bO bn br hB1 hs1
 refine wpIn_wide.2 ?_
 go_region_held3 (fun w' => w'.cell? ⟨m, 10, none⟩ = some (.pointer (some ⟨em, 0, none⟩)) ∧ w'.cell? ⟨w.heap.size, 0, none⟩ = some (.string f)) (first | exact ⟨by assumption, by assumption⟩ | exact ⟨z0, z1⟩)
  (first
   | (go_at_call 81; refine FR.mono ?_; clear FR; rintro r w4 ⟨rfl, ⟨d0, d1⟩, fin⟩))
 gi_wp2
 obtain ⟨hb24, e1, e2, e3⟩ := fin
 obtain ⟨bO, bn, br, hB1⟩ := hbA.out
 have hs1 := hs1A.out
 have hH2 := hHA.out
 have hrise := hH2.rise
 obtain ⟨Si, hSi, hIt⟩ := hold_from_iter 4 w2.heap.size (w2.heap.size + 1) hH2 hb24 f (by omega) (by omega) e1 e2
 have bO4 : Boxed w4 (w.heap.size + 1 + 1) 30 (.slice none 0 0) := blk_below bO hb24
 have bn4 := blk_below bn hb24
 have br4 := blk_below br hb24
 have hB4 : Below w.heap.size w w4 := below_step hB1 hb24
 have hflen : (L.filter (fun x => !OrdSm.lt x.1 f)).length ≤ 1000000 := Nat.le_trans (List.length_filter_le _ _) hl
 have hmx : maxLen = 9223372036854775807 := rfl
 apply It.range_iter rfl (by omega) (gf := 99) (lb := #[.pointer (some ⟨w2.heap.size, 0, none⟩), .pointer (some ⟨w2.heap.size + 1, 0, none⟩)]) rfl trivial (enters_of Try.func99 (by kernel_rfl) rfl)
  hIt (It.FrM.refl _ _) (fun k => k = w.heap.size + 1 + 1) (fun k hk => ⟨(hSi k hk).2, fun q => by have h2 := (hSi k hk).1; omega⟩) (fun k hk => by omega) (fun _ => rfl)
  (fun pre M V => It.OutC 30 103 2 w.heap.size (w.heap.size + 1 + 1) pre.length (flatE pre) M V ∧ ((pre.length : Int) ≤ k ∨ pre.length = 0) ∧ ∀ y ∈ pre, holds f t y.1 = true)
  (fun cd pre M V => cd = .exit 0 ∧ ∃ pre' x, pre = pre' ++ [x] ∧ It.OutC 30 103 2 w.heap.size (w.heap.size + 1 + 1) pre'.length (flatE pre') M V ∧ ((pre'.length : Int) ≤ k ∨ pre'.length = 0) ∧ (∀ y ∈ pre', holds f t y.1 = true) ∧ (k ≤ pre'.length ∨ holds f t x.1 = false))
  (fun pre M X Y h fr => ⟨h.1.move fr, h.2⟩) (fun cd pre M X Y h fr => by obtain ⟨h1, p', x, h2, h3, h4⟩ := h; exact ⟨h1, p', x, h2, h3.move fr, h4⟩) ⟨It.OutC.start bO4, .inr rfl, by simp⟩
 case hassign =>
  intro ll x V K hK
  gi_wp2
  exact hK
 case hbody =>
  rintro ll pre x M1 V ⟨⟨v, hv, hrow, hMB, hMg⟩, hn, hall⟩ hMb hF hlt
  have hc1 := hv.cell
  have hsV := hF.size
  have gn := hF.blk bn4 (by omega)
  have hcn := blk_cell gn 0
  simp at hcn
  have gr := hF.blk br4 (by omega)
  have hcr0 := blk_cell gr 0
  have hcr1 := blk_cell gr 1
  simp at hcr0 hcr1
  have hs4 := hB4.size
  obtain ⟨A9, c9, rfl, hc9, _⟩ : ∃ A c, v = .slice A pre.length c ∧ pre.length ≤ c ∧ True := by
   obtain ⟨_, h⟩ := hrow
   rcases h with ⟨rfl, h0⟩ | ⟨g, cap, cur, rfl, _, _, hn, _⟩
   ·exact ⟨none, 0, by rw [h0], by omega, trivial⟩
   exact ⟨_, cap, rfl, hn, trivial⟩
  by_cases hge : k ≤ (pre.length : Int)
  ·have d0 := decide_eq_true hge
   gi_wp2_with (refine ⟨trivial, ?_⟩)
   exact ⟨M1, fun k hk => ⟨.inl hk, (hMb k hk).2⟩, It.FrM.refl _ _, rfl, pre, x, rfl, ⟨_, hv, hrow, hMB, hMg⟩, hn, hall, .inl hge⟩
  have d0 := decide_eq_false hge
  have hlt2 : (pre.length : Int) + 1 ≤ k := by omega
  have hA := aK_ hlt2
  clear hge hlt2
  cases hx : holds f t x.1 with
  | false =>
   have HO : key_Holds.f f t x.1 = some false := (Holds_eq f t x.1).trans (by rw [hx])
   have hxA := aK_ hx
   have hvA := aK_ (And.intro hv hrow)
   clear hx hv hrow
   gi_wp2_with (refine ⟨trivial, ?_⟩; gi_at_call 51; refine (CallsIn.inRound ll (callsIn_wide.2 (key_Holds.calls f t x.1 false _ HO))).mono ?_; rintro r V2 ⟨rfl, hB5⟩)
   obtain ⟨hv, hrow⟩ := hvA.out
   exact ⟨M1, fun k hk => ⟨.inl hk, by have := (hMb k hk).2; have := hB5.size; omega⟩, .of_below hB5, rfl, pre, x, rfl, ⟨_, blk_below hv hB5, pw_own_below hrow hB5, hMB, hMg⟩, hn, hall, .inr hxA.out⟩
  | true =>
   have HO : key_Holds.f f t x.1 = some true := (Holds_eq f t x.1).trans (by rw [hx])
   have hxA := aK_ hx
   have hvA := aK_ (And.intro hv hrow)
   clear hx hv hrow
   gi_wp2_with (first
    | (refine ⟨trivial, ?_⟩; gi_at_call 51; refine (CallsIn.inRound ll (callsIn_wide.2 (key_Holds.calls f t x.1 true _ HO))).mono ?_; rintro r V2 ⟨rfl, hB5⟩; obtain ⟨hv', hrow'⟩ := hvA.out; have hv : Boxed V2 (w.heap.size + 1 + 1) 30 (.slice A9 pre.length c9) := blk_below hv' hB5; have hrow := pw_own_below hrow' hB5; have hc1 := hv.cell; have hs5 := hB5.size; have hMb5 : ∀ g, M1 g → g < V2.heap.size := fun g hg => by have := (hMb g hg).2; omega)
    | (gi_at_builtin; refine wpListIn_append_own_at _ rfl _ _ 30 rfl w.heap.size 103 i0 (.agg #[(.string ⟨#[]⟩), (.string ⟨#[]⟩)]) 2 32 underE hi hz0 hz1 hz2 rfl (by decide) _ _ _ rfl (hrow.alloc _) ⟨V2.heap.size, 0, none⟩ 1 1 [.string x.1, .string x.2] rfl rfl (cell_two_new _ _ _ _) (by simp [Value.oneCell']) (by omega) (by omega) (by simp; omega) ?_; intro v' w1 hown' hgrow _ hat; obtain ⟨g', cap', rfl⟩ := ownsRow_succ hown'; obtain ⟨hv1, hq⟩ := It.OutC.next hv hrow hMB hMg hMb5 (by decide) (by omega) (by omega) hown' hgrow hat; have hc2 := hv1.cell; have hf2 := hv1.frozen))
   obtain ⟨M', q1, q2, q3⟩ := hq
   have e8 : (pre ++ [x]).length = pre.length + 1 := by simp
   refine ⟨M', fun g hg => ⟨(q1 g hg).1.imp id (fun q => by omega), (q1 g hg).2⟩, (It.FrM.of_below (M := M1) hB5).trans q2 (fun i hi => .inl hi), ?_, .inl ?_, fun y hy => ?_⟩
   ·rw [e8, flatE_snoc]; exact q3
   ·have := hA.out; rw [e8]; simpa using this
   rcases List.mem_append.1 hy with hy | hy
   ·exact hall y hy
   simp at hy; subst hy; exact hxA.out
 case hstop =>
  rintro D cd pre M1 V hD hDV hDM hMb hF hpre ⟨rfl, pre', x, rfl, ⟨v, hv, hrow, hMB, hMg⟩, hn, hall, hor⟩ hK
  have hc1 := hv.cell
  have hs4 := hB4.size
  have hBV : Below w.heap.size w V := hB4.trans (hF.below (base := w.heap.size) (fun k hk => by omega) (by omega))
  have hpe : someM f t L k = pre' := by
   unfold someM
   rcases hor with hge | hx
   ·obtain ⟨r, hr⟩ := held_pre ((List.prefix_append pre' [x]).trans hpre) hall
    rw [← hr, show k.toNat = pre'.length by omega, List.take_left']
    rfl
   rw [held_stop hrise hpre hall hx]
   exact List.take_of_length_le (by omega)
  gi_wp2
  refine ⟨by simp, .inl ⟨_, _, rfl, run_takeDeferred hK, ?_⟩⟩
  exact ⟨_, results_tmp rfl _ _ _, v, rfl, by rw [hpe]; exact R_of_flatE (ownsRow_putObj hrow _ hK rfl), hBV.trans (belowK_b (w := w) (Nat.le_refl _) V D _ _ (by omega) hK rfl rfl)⟩
 rintro D ys M1 V hD hDV hDM hMb hF rfl ⟨⟨v, hv, hrow, hMB, hMg⟩, hn, hall⟩ hK
 have hc1 := hv.cell
 have hs4 := hB4.size
 have hBV : Below w.heap.size w V := hB4.trans (hF.below (base := w.heap.size) (fun k hk => by omega) (by omega))
 have hpe : someM f t L k = L.filter (fun x => !OrdSm.lt x.1 f) := by
  unfold someM
  rw [held_all hall]
  exact List.take_of_length_le (by omega)
 gi_wp2
 refine ⟨by simp, .inl ⟨_, _, rfl, run_takeDeferred hK, ?_⟩⟩
 exact ⟨_, results_tmp rfl _ _ _, v, rfl, by rw [hpe]; exact R_of_flatE (ownsRow_putObj hrow _ hK rfl), hBV.trans (belowK_b (w := w) (Nat.le_refl _) V D _ _ (by omega) hK rfl rfl)⟩
end Go.Proofs.Ytljnlnbopohghaa.Mdl
end
section
namespace Go.Proofs.Ytljnlnbopohghaa.Cur
open Go Go.RowKit Go.Maps Go.Proofs.YtljnlnbopohghaaW.PrintWords Go.Proofs.YtljnlnbopohghaaW.PrintLast Go.Proofs.YtljnlnbopohghaaW.PrintMore Go.Proofs.Ytljnlnbopohghaa.Own Go.Proofs.Ytljnlnbopohghaa.Ord Go.Proofs.Ytljnlnbopohghaa.P
set_option maxHeartbeats 2000000
set_option maxRecDepth 100000
structure Tb (w : World) (p b : Nat) (last : Int) (n : Nat) (F : Int → Option X) (c : Nat) : Prop where
 blk : w.heap[p]? = some (.cells #[.int .i64 last, .map (some b)] 88 (0, 0))
 map : TM w b n F c
theorem Tb.fr {w w' : World} {p b n c : Nat} {last : Int} {F : Int → Option X} (h : Tb w p b last n F c) {B : List Nat} (f : Fr B w w') (hp : p ∉ B) (hb : b ∉ B) : Tb w' p b last n F c :=
 ⟨f.blk h.blk hp, h.map.fr f hb⟩
theorem Tb.ne {w : World} {p b n c : Nat} {last : Int} {F : Int → Option X} (h : Tb w p b last n F c) : p ≠ b := by
 rintro rfl
 obtain ⟨D, ⟨es, clock, hb, _⟩, _⟩ := h.map
 rw [h.blk] at hb
 cases hb
theorem new_any (w : World) : Calls Try.prog 10 #[] w fun e w' => e = .returned (.pointer (some ⟨w.heap.size + 1, 0, none⟩)) ∧ Tb w' (w.heap.size + 1) w.heap.size 0 0 (fun _ => none) 0 ∧ Below w.heap.size w w' := by
 have hmm := @run_makeMap Try.prog
 have hu := Try.underlying86
 have hus := Try.underlying88
 go_enter Try.func10, Try.ntmps10
 go_wp2
 go_ret
 refine ⟨rfl, ⟨?_, (TM.made w).fr (B := []) (Fr.of_below ((Below.refl _ _).alloc (Nat.le_refl _) _)) (by simp)⟩, ((Below.refl _ w).alloc (Nat.le_refl _) _).alloc (by simp) _⟩
 have := blk_new (w.alloc (.map #[] 0)) (Obj.cells #[Value.int IntKind.i64 0, Value.map (some w.heap.size)] 88)
 rwa [World.size_alloc] at this
def rrB (f t : ByteArray) : Bool := if t.toList = [] then true else Op.bytesLess f.toList t.toList
theorem rr_eq (f t : ByteArray) : key_RightRange.f f t = some (rrB f t) := by
 unfold key_RightRange.f key_ahead.f rrB
 split <;> rfl
theorem wf_small {k : Int} (h0 : -1000000000 ≤ k) (h1 : k ≤ 1000000000) : (Lit.int .i64 k).wf = true := WalkArith.wf_i64 (by omega)
theorem open_yes {w : World} {p b n c : Nat} {last : Int} {F : Int → Option X} (h : Tb w p b last n F c) (h0 : 0 ≤ last) (h1 : last < 1000000) (hn : n < 1000000) (f t : ByteArray) (hr : rrB f t = true) {c' : Nat} (hcA : Aside (c' = (if (F (last + 1)).isSome then c else c + 1))) :
  Calls Try.prog 15 #[.pointer (some ⟨p, 0, none⟩), .agg #[.string f, .string t]] w fun e w' => e = .returned (.tuple #[.int .i64 (last + 1), .int .i64 0]) ∧ Tb w' p b (last + 1) (n + 1) (upd F (last + 1) (some (f, t, false))) c' ∧ Fr [p, b] w w' := by
 have hw1 : IntKind.i64.wrap (last + 1) = last + 1 := IntWalk.i64_in _ (by omega)
 have hu := Try.underlying86
 have hus := Try.underlying88
 have hur := Try.underlying29
 have hux := Try.underlying106
 have hl := blk_lt h.blk
 have hlb := h.map.lt
 have hne := h.ne
 go_enter Try.func15, Try.ntmps15
 have f0 : Fr [p, b] w (w.alloc (.cells #[.string f, .string t] 29)) := (Fr.refl _ _).alloc _
 go_wp2_with (go_at_call 46; refine (key_RightRange.calls f t true _ ((rr_eq f t).trans (by rw [hr]))).mono ?_; rintro e w1 ⟨rfl, hB1⟩; have f1 : Fr [p, b] w w1 := f0.trans (C := []) (Fr.of_below hB1) (by simp); have hT1 : Aside (Tb w1 p b last n F c) := ⟨blk_below (blk_alloc h.blk _) hB1, (h.map.fr (B := []) ((Fr.refl _ _).alloc _) (by simp)).fr (B := []) (Fr.of_below hB1) (by simp)⟩; have hbx := blk_below (blk_new w (.cells #[.string f, .string t] 29)) hB1; have c0 := blk_cell hT1.out.blk 0; have z0 := blk_frozen hT1.out.blk 0; simp at c0; clear hB1)
 have hT2 : Aside (Tb (w1.setCell ⟨p, 0, none⟩ (.int .i64 (last + 1))) p b (last + 1) n F c) := ⟨blk_set hT1.out.blk 0 _, hT1.out.map.fr (B := [p]) ((Fr.refl _ _).set (.inl (by simp)) _) (by simpa using fun e => hne e.symm)⟩
 have f2 : Fr [p, b] w (w1.setCell ⟨p, 0, none⟩ (.int .i64 (last + 1))) := f1.set (.inl (by simp)) _
 have hbx2 : (w1.setCell ⟨p, 0, none⟩ (.int .i64 (last + 1))).heap[w.heap.size]? = some (.cells #[.string f, .string t] 29 (0, 0)) := blk_far hbx (by simp; omega) _
 clear hT1 hbx c0 z0 f1 f0
 refine still_tail 10 (by kernel_rfl) (by kernel_rfl) (fun W hW => ?_)
 simp only [List.take_succ_cons, List.take_zero, List.drop_succ_cons, List.drop_zero]
 have hT3 : Aside (Tb W p b (last + 1) n F c) := by rw [hW]; exact hT2.out.fr (B := []) (Fr.refl _ _).drew (by simp) (by simp)
 have f3 : Fr [p, b] w W := by rw [hW]; exact f2.drew
 have hbx3 : W.heap[w.heap.size]? = some (.cells #[.string f, .string t] 29 (0, 0)) := by rw [hW]; exact hbx2
 clear hW hT2 f2 hbx2
 have c0 := blk_cell hT3.out.blk 0
 have c1 := blk_cell hT3.out.blk 1
 have b0 := blk_cell hbx3 0
 have b1 := blk_cell hbx3 1
 simp at c0 c1 b0 b1
 iterate 10 still_step
 refine wpStill_nil ?_
 have hT3' := hT3.out.map
 refine store W rfl _ _ _ rfl b n F c rfl hT3' hn (last + 1) rfl (wf_small (by omega) (by omega)) (f, t, false) rfl (fun w4 hT4 f4 => ?_)
 rw [← hcA.out] at hT4
 have hT5 : Aside (Tb w4 p b (last + 1) (n + 1) (upd F (last + 1) (some (f, t, false))) c') := ⟨f4.blk hT3.out.blk (by simpa using hne), hT4⟩
 have f5 : Fr [p, b] w w4 := f3.trans f4 (fun x hx => .inl (by simp at hx; simp [hx]))
 have c4 := blk_cell hT5.out.blk 0
 simp at c4
 clear hT3 hT3' hT4 c0 c1 b0 b1 f3 f4 hbx3
 go_wp2_with fail
 go_ret2
 exact ⟨rfl, hT5.out, f5⟩
theorem open_no {w : World} {p : Nat} (f t : ByteArray) (hr : rrB f t = false) :
  Calls Try.prog 15 #[.pointer (some ⟨p, 0, none⟩), .agg #[.string f, .string t]] w fun e w' => e = .returned (.tuple #[.int .i64 0, .int .i64 7]) ∧ Below w.heap.size w w' := by
 have hur := Try.underlying29
 go_enter Try.func15, Try.ntmps15
 have f0 : Below w.heap.size w (w.alloc (.cells #[.string f, .string t] 29)) := below_alloc (Below.refl _ _) _
 go_wp2_with (go_at_call 46; refine (key_RightRange.calls f t false _ ((rr_eq f t).trans (by rw [hr]))).mono ?_; rintro e w1 ⟨rfl, hB1⟩; have f1 := below_step f0 hB1; clear hB1)
 go_ret2
 exact ⟨rfl, f1⟩
theorem len_any {w : World} {p b n c : Nat} {last : Int} {F : Int → Option X} (h : Tb w p b last n F c) :
  Calls Try.prog 19 #[.pointer (some ⟨p, 0, none⟩)] w fun e w' => e = .returned (.int .i64 c) ∧ w' = w := by
 have hus := Try.underlying88
 have c1 := blk_cell h.blk 1
 simp at c1
 have hT := h.map
 clear h
 go_enter Try.func19, Try.ntmps19
 go_wp2_with (refine lenOf w rfl _ rfl b n F c rfl hT ?_)
 go_ret
 exact ⟨rfl, rfl⟩
theorem find_none {w : World} {p b n c : Nat} {last : Int} {F : Int → Option X} (h : Tb w p b last n F c) (k : Int) (hk : (Lit.int .i64 k).wf = true) (hF : F k = none) :
  Calls Try.prog 47 #[.pointer (some ⟨p, 0, none⟩), .int .i64 k] w fun e w' => e = .returned (.tuple #[.agg #[.string ⟨#[]⟩, .string ⟨#[]⟩, .bool false], .int .i64 11]) ∧ Below w.heap.size w w' := by
 have hus := Try.underlying88
 have hur := Try.underlying29
 have hux := Try.underlying106
 have hl := blk_lt h.blk
 go_enter Try.func47, Try.ntmps47
 have hT1 : Aside (Tb (w.alloc (.cells #[.string ⟨#[]⟩, .string ⟨#[]⟩, .bool false] 106)) p b last n F c) := h.fr (B := []) ((Fr.refl _ _).alloc _) (by simp) (by simp)
 have hB1 : Below w.heap.size w (w.alloc (.cells #[.string ⟨#[]⟩, .string ⟨#[]⟩, .bool false] 106)) := below_alloc (Below.refl _ _) _
 have hT1' := hT1.out.map
 have c1 := blk_cell hT1.out.blk 1
 simp at c1
 clear h
 have hA : Aside (F k = none) := hF
 clear hF
 go_wp2_with (refine look _ rfl _ _ rfl b n F c rfl hT1' k rfl hk ?_; rw [hA.out]; simp only [Option.getD_none, Option.isSome_none, Option.getD_some, Option.isSome_some, restV, x0, e0])
 refine bodyPost_ret (results_ct rfl _ _ w.heap.size 106 _ (0, 0) _ rfl (blk_alloc (blk_new _ _) _) hux rfl (by kernel_rfl)) rfl ?_
 exact ⟨rfl, below_alloc hB1 _⟩
theorem find_some {w : World} {p b n c : Nat} {last : Int} {F : Int → Option X} (h : Tb w p b last n F c) (k : Int) (hk : (Lit.int .i64 k).wf = true) (f t : ByteArray) (d : Bool) (hF : F k = some (f, t, d)) :
  Calls Try.prog 47 #[.pointer (some ⟨p, 0, none⟩), .int .i64 k] w fun e w' => e = .returned (.tuple #[.agg #[.string f, .string t, .bool d], .int .i64 0]) ∧ Below w.heap.size w w' := by
 have hus := Try.underlying88
 have hur := Try.underlying29
 have hux := Try.underlying106
 have hl := blk_lt h.blk
 go_enter Try.func47, Try.ntmps47
 have hT1 : Aside (Tb (w.alloc (.cells #[.string ⟨#[]⟩, .string ⟨#[]⟩, .bool false] 106)) p b last n F c) := h.fr (B := []) ((Fr.refl _ _).alloc _) (by simp) (by simp)
 have hB1 : Below w.heap.size w (w.alloc (.cells #[.string ⟨#[]⟩, .string ⟨#[]⟩, .bool false] 106)) := below_alloc (Below.refl _ _) _
 have hT1' := hT1.out.map
 have c1 := blk_cell hT1.out.blk 1
 simp at c1
 clear h
 have hA : Aside (F k = some (f, t, d)) := hF
 clear hF
 go_wp2_with (refine look _ rfl _ _ rfl b n F c rfl hT1' k rfl hk ?_; rw [hA.out]; simp only [Option.getD_none, Option.isSome_none, Option.getD_some, Option.isSome_some, restV, x0, e0])
 refine bodyPost_ret (results_ct rfl _ _ w.heap.size 106 #[.string f, .string t, .bool d] (0, 0) _ rfl ?_ hux rfl (by kernel_rfl)) rfl ?_
 ·exact blk_alloc (blk_new _ _) _
 exact ⟨rfl, below_alloc (below_alloc (Below.refl _ _) _) _⟩
theorem left_some {w : World} {p b n c : Nat} {last : Int} {F : Int → Option X} (h : Tb w p b last n F c) (k : Int) (hk : (Lit.int .i64 k).wf = true) (f t : ByteArray) (d : Bool) (hF : F k = some (f, t, d)) :
  Calls Try.prog 16 #[.pointer (some ⟨p, 0, none⟩), .int .i64 k] w fun e w' => e = .returned (.tuple #[.agg #[.string f, .string t], .bool d, .int .i64 0]) ∧ Below w.heap.size w w' := by
 have hur := Try.underlying29
 have hux := Try.underlying106
 have hT1 : Tb (w.alloc (.cells #[.string ⟨#[]⟩, .string ⟨#[]⟩] 29)) p b last n F c := h.fr (B := []) ((Fr.refl _ _).alloc _) (by simp) (by simp)
 have hB1 : Below w.heap.size w (w.alloc (.cells #[.string ⟨#[]⟩, .string ⟨#[]⟩] 29)) := below_alloc (Below.refl _ _) _
 have hfind := find_some hT1 k hk f t d hF
 clear h hT1
 go_enter Try.func16, Try.ntmps16
 go_wp2_with (go_at_call 47; refine hfind.mono ?_; clear hfind; rintro e w1 ⟨rfl, hB2⟩; have hb1 := blk_below (blk_new w (.cells #[.string ⟨#[]⟩, .string ⟨#[]⟩] 29)) hB2; have hB3 := below_step hB1 hB2; have hlt : w1.heap.size ≠ w.heap.size := (by have := hB2.size; simp at this; omega); clear hB1 hB2)
 have hb2 : (w1.alloc (.cells #[.string f, .string t, .bool d] 106)).heap[w.heap.size]? = some (.cells #[.string ⟨#[]⟩, .string ⟨#[]⟩] 29 (0, 0)) := blk_alloc hb1 _
 have hn2 := blk_new w1 (.cells #[.string f, .string t, .bool d] 106)
 have hB4 : Below w.heap.size w (w1.alloc (.cells #[.string f, .string t, .bool d] 106)) := below_alloc hB3 _
 clear hb1 hB3
 generalize w1.alloc (.cells #[.string f, .string t, .bool d] 106) = W at hb2 hn2 hB4 ⊢
 have c0 := blk_cell hn2 0
 have c1 := blk_cell hn2 1
 have c2 := blk_cell hn2 2
 have d0 := blk_cell hb2 0
 have d1 := blk_cell hb2 1
 have z0 := blk_frozen hb2 0
 have z1 := blk_frozen hb2 1
 simp at c0 c1 c2 d0 d1
 have hA1 := aK_ hb2
 have hA2 := aK_ hB4
 clear hb2 hn2 hB4
 have hne : w1.heap.size ≠ w.heap.size := hlt
 go_region_held3 (fun w' => w'.cell? ⟨w1.heap.size, 0, none⟩ = some (.string f) ∧ w'.cell? ⟨w1.heap.size, 1, none⟩ = some (.string t) ∧ w'.cell? ⟨w1.heap.size, 2, none⟩ = some (.bool d)) (first | assumption | exact ⟨c0, c1, c2⟩ | (simp [World.cell?_setCell_other, hne, hne.symm, c0, c1, c2]; done)) (fail)
 go_wp2_with fail
 refine bodyPost_ret (results_ctt rfl _ _ w.heap.size 29 #[.string f, .string t] (0, 0) _ rfl ?_ hur rfl (by kernel_rfl)) rfl ?_
 ·exact blk_set (blk_set (blk_drew hA1.out) 0 _) 1 _
 exact ⟨rfl, below_set (below_set (below_drew1 hA2.out) (Nat.le_refl _)) (Nat.le_refl _)⟩
theorem close_none {w : World} {p b n c : Nat} {last : Int} {F : Int → Option X} (h : Tb w p b last n F c) (k : Int) (hk : (Lit.int .i64 k).wf = true) (hF : F k = none) :
  Calls Try.prog 18 #[.pointer (some ⟨p, 0, none⟩), .int .i64 k] w fun e w' => e = .returned (.int .i64 11) ∧ Below w.heap.size w w' := by
 have hux := Try.underlying106
 have hur := Try.underlying29
 have hfind := find_none h k hk hF
 clear h
 go_enter Try.func18, Try.ntmps18
 go_wp2_with (go_at_call 47; refine hfind.mono ?_; clear hfind; rintro e w1 ⟨rfl, hB2⟩)
 go_ret
 exact ⟨rfl, below_alloc hB2 _⟩
theorem close_some {w : World} {p b n c : Nat} {last : Int} {F : Int → Option X} (h : Tb w p b last n F c) (k : Int) (hk : (Lit.int .i64 k).wf = true) (f t : ByteArray) (d : Bool) (hF : F k = some (f, t, d)) :
  Calls Try.prog 18 #[.pointer (some ⟨p, 0, none⟩), .int .i64 k] w fun e w' => e = .returned (.int .i64 0) ∧ (∀ c', c' + 1 = c → Tb w' p b last n (upd F k none) c') ∧ Fr [b] w w' := by
 have hux := Try.underlying106
 have hur := Try.underlying29
 have hus := Try.underlying88
 have hne := h.ne
 have hfind := find_some h k hk f t d hF
 have hA := aK_ hF
 clear hF
 go_enter Try.func18, Try.ntmps18
 go_wp2_with (first
  | (go_at_call 47; refine hfind.mono ?_; clear hfind; rintro e w1 ⟨rfl, hB2⟩; have hT : Aside (Tb (w1.alloc (.cells #[.string f, .string t, .bool d] 106)) p b last n F c) := h.fr (B := []) (Fr.of_below (below_alloc hB2 _)) (by simp) (by simp); have f1 : Fr [b] w (w1.alloc (.cells #[.string f, .string t, .bool d] 106)) := Fr.of_below (below_alloc hB2 _); have hM := hT.out.map; have c1 := blk_cell hT.out.blk 1; simp at c1; clear h hB2)
  | (refine drop _ rfl _ _ rfl b n F c rfl hM k rfl hk (fun w4 hT4 f4 => ?_)))
 go_ret
 have h1 := hT4
 rw [hA.out] at h1
 simp only [Option.isSome_some, if_true] at h1
 exact ⟨rfl, fun c' hc => ⟨f4.blk hT.out.blk (by simpa using hne), h1 c' hc⟩, f1.trans f4 (fun x hx => .inl hx)⟩
abbrev En := P.S103
def ltB (a b : ByteArray) : Bool := Op.bytesLess a.toList b.toList
def holdsB (f t s : ByteArray) : Bool := !ltB s f && rrB s t
theorem ahead_eq (a b : ByteArray) : key_ahead.f a b = some (rrB a b) := by
 unfold key_ahead.f rrB
 split <;> rfl
theorem holds_any (f t s : ByteArray) (w : World) : Calls Try.prog 51 #[.agg #[.string f, .string t], .string s] w fun e w' => e = .returned (.bool (holdsB f t s)) ∧ Below w.heap.size w w' := by
 have hur := Try.underlying29
 obtain ⟨r, hr⟩ : ∃ r, r = holdsB f t s := ⟨_, rfl⟩
 rw [← hr]
 obtain ⟨q, hq⟩ : ∃ q, q = rrB s t := ⟨_, rfl⟩
 unfold holdsB ltB at hr
 rw [← hq] at hr
 have ha : key_ahead.f s t = some q := by rw [hq]; exact ahead_eq s t
 have hB0 : Below w.heap.size w (w.alloc (.cells #[.string f, .string t] 29)) := below_alloc (Below.refl _ _) _
 clear hq
 cases hl : Op.bytesLess s.toList f.toList
 ·rw [hl] at hr
  simp at hr
  subst hr
  go_enter Try.func51, Try.ntmps51
  go_wp2_with (go_at_call 78; refine (key_ahead.calls s t r _ ha).mono ?_; rintro e w1 ⟨rfl, hB1'⟩; have hB1 := hB1'.below; clear hB1')
  go_ret
  exact ⟨by simp, below_step hB0 hB1⟩
 rw [hl] at hr
 simp at hr
 subst hr
 go_enter Try.func51, Try.ntmps51
 go_wp2
 go_ret
 exact ⟨rfl, hB0⟩
theorem closure_any {w : World} {B : Nat} {f t : ByteArray} {d : Bool} (hx : w.heap[B]? = some (.cells #[.string f, .string t, .bool d] 106 (0, 0))) (s v : ByteArray) :
  Calls Try.prog 50 #[.agg #[.string s, .string v], .pointer (some ⟨B, 0, none⟩)] w fun e w' => e = .returned (.bool !holdsB f t s) ∧ Below w.heap.size w w' := by
 have hur := Try.underlying29
 have hux := Try.underlying106
 have hue := Try.underlying103
 obtain ⟨r, hr⟩ : ∃ r, r = holdsB f t s := ⟨_, rfl⟩
 have HH := fun W => holds_any f t s W
 rw [← hr] at HH
 rw [← hr]
 clear hr
 have hB0 : Below w.heap.size w (w.alloc (.cells #[.string s, .string v] 103)) := below_alloc (Below.refl _ _) _
 have hx1 : (w.alloc (.cells #[.string s, .string v] 103)).heap[B]? = _ := blk_alloc hx _
 have c0 := blk_cell hx1 0
 have c1 := blk_cell hx1 1
 simp at c0 c1
 go_enter Try.func50, Try.ntmps50
 go_wp2_with (go_at_call 51; refine (HH _).mono ?_; clear HH; rintro e w1 ⟨rfl, hB1⟩)
 go_ret
 exact ⟨rfl, below_step hB0 hB1⟩
theorem at_E {w : World} {A : Option Addr} {n : Nat} {xs : List En} (h : Kd.C P.k103 w A n xs) (i : Int) (h0 : 0 ≤ i) (h1 : i < n) : ∃ ad, ∃ x : En, A = some ad ∧ xs[i.toNat]? = some x ∧ w.cell? (ad.add (i.toNat * 2)) = some (.string x.f0) ∧
  w.cell? ⟨(ad.add (i.toNat * 2)).block, (ad.add (i.toNat * 2)).off + 1, none⟩ = some (.string x.f1) := by
 obtain ⟨ad, c, e, _, hK, hc0⟩ := Kd.C_get h P.z103 i h0 h1
 have hc : ∀ j u, c[j]? = some u → w.cell? (ad.add (i.toNat * 2 + j)) = some u := hc0
 obtain rfl := P.k103_open hK
 have hl := h.1
 refine ⟨ad, _, e, ?_, hc 0 _ rfl, by rw [← add_field _ _ 1 (by omega)]; exact hc 1 _ rfl⟩
 rw [List.getD_eq_getElem?_getD, List.getElem?_eq_getElem (by omega)]
 rfl
theorem index_any {w : World} {B : Nat} {f t : ByteArray} {d : Bool} (hx : w.heap[B]? = some (.cells #[.string f, .string t, .bool d] 106 (0, 0))) {A : Option Addr} {c : Nat} {l : List En} (hC : Kd.C P.k103 w A l.length l) (hcap : l.length ≤ c) :
  Calls Try.prog 79 #[.slice A l.length c, .func (.func 50) #[] #[.pointer (some ⟨B, 0, none⟩)]] w fun e w' => (∃ i : Int, e = .returned (.int .i64 i) ∧ (0 ≤ i) = (l.any (fun y => !holdsB f t y.f0) = true)) ∧ Below w.heap.size w w' := by
 have hmax := Kd.C_max hC
 have hue := Try.underlying103
 go_enter Try.func79, Try.ntmps79
 go_wp2
 go_loopg [8] l.length (fun g iv wr => ∃ j : Int, iv = .int .i64 j ∧ Aside (0 ≤ j ∧ j.toNat + g = l.length ∧ (l.take j.toNat).any (fun y => !holdsB f t y.f0) = false) ∧ Below w.heap.size w wr)
 case atStart => exact ⟨0, rfl, ⟨Int.le_refl _, by simp, by simp⟩, Below.refl _ _⟩
 obtain ⟨j, rfl, hj, hB⟩ := hrel
 obtain ⟨h0, hg, hno⟩ := hj.out
 have hnoA := aK_ hno
 clear hno hj
 cases gk with
 | zero =>
  have d0 : decide (j < (l.length : Int)) = false := decide_eq_false (by omega)
  go_wp2
  go_ret
  refine ⟨⟨-1, rfl, ?_⟩, hB⟩
  have := hnoA.out
  rw [show j.toNat = l.length by omega, List.take_length] at this
  rw [this]
  simp
 | succ g => ?_
 have hlt : j < (l.length : Int) := by omega
 have d0 := decide_eq_true hlt
 have d1 := decide_eq_true h0
 have p0 := eq_true h0
 have p1 := eq_true hlt
 obtain ⟨ad, x, rfl, hxj, q0, q1⟩ := at_E (Kd.C_below hC hB) j h0 hlt
 have hwi : wrap64 (j + 1) = j + 1 := IntWalk.wrap64_in _ (by omega)
 have CC := closure_any (blk_below hx hB) x.f0 x.f1
 have hsplit : (l.take (j + 1).toNat).any (fun y => !holdsB f t y.f0) = ((l.take j.toNat).any (fun y => !holdsB f t y.f0) || !holdsB f t x.f0) := by
  rw [show (j + 1).toNat = j.toNat + 1 by omega, List.take_add_one, hxj]
  simp
 cases hh : holdsB f t x.f0
 ·rw [hh] at CC
  have hall : l.any (fun y => !holdsB f t y.f0) = true := List.any_eq_true.2 ⟨x, List.mem_of_getElem? hxj, by rw [hh]; rfl⟩
  have hA := aK_ hall
  clear hh hsplit hxj hall hC hx
  go_wp2_with (go_at_call 50; refine CC.mono ?_; clear CC; rintro e w1 ⟨rfl, hB1⟩)
  go_ret
  exact ⟨⟨j, rfl, by rw [hA.out]; simp [h0]⟩, below_step hB hB1⟩
 rw [hh] at CC hsplit
 have hA := aK_ hsplit
 have hxA := aK_ hx
 have hCA := aK_ hC
 clear hh hsplit hxj hC hx
 go_wp2_with (go_at_call 50; refine CC.mono ?_; clear CC; rintro e w1 ⟨rfl, hB1⟩)
 go_roundg g
 case measure => omega
 case rel => exact ⟨j + 1, rfl, ⟨by omega, by omega, by rw [hA.out, hnoA.out]; rfl⟩, below_step hB hB1⟩
theorem contains_any {w : World} {B : Nat} {f t : ByteArray} {d : Bool} (hx : w.heap[B]? = some (.cells #[.string f, .string t, .bool d] 106 (0, 0))) {A : Option Addr} {c : Nat} {l : List En} (hC : Kd.C P.k103 w A l.length l) (hcap : l.length ≤ c) :
  Calls Try.prog 49 #[.slice A l.length c, .func (.func 50) #[] #[.pointer (some ⟨B, 0, none⟩)]] w fun e w' => e = .returned (.bool (l.any (fun y => !holdsB f t y.f0))) ∧ Below w.heap.size w w' := by
 have HI := index_any hx hC hcap
 clear hx hC
 generalize l.any (fun y => !holdsB f t y.f0) = r at HI ⊢
 go_enter Try.func49, Try.ntmps49
 go_wp2_with (go_at_call 79; refine HI.mono ?_; clear HI; rintro e w1 ⟨⟨i, rfl, hi⟩, hB1⟩; have hi2 := aK_ hi; clear hi)
 go_ret
 refine ⟨?_, hB1⟩
 have h3 := hi2.out
 cases r <;> simp_all
theorem took_none {w : World} {p b n c : Nat} {last : Int} {F : Int → Option X} (h : Tb w p b last n F c) (k : Int) (hk : (Lit.int .i64 k).wf = true) {A : Option Addr} {cl : Nat} {l : List En} (hC : Kd.C P.k103 w A l.length l) (hcap : l.length ≤ cl) (most : Int) (hF : F k = none) :
  Calls Try.prog 17 #[.pointer (some ⟨p, 0, none⟩), .int .i64 k, .slice A l.length cl, .int .i64 most] w fun e w' => e = .returned (.tuple #[.bool false, .int .i64 11]) ∧ Below w.heap.size w w' := by
 have hur := Try.underlying29
 have hux := Try.underlying106
 have hus := Try.underlying88
 have hue := Try.underlying103
 have hfind := find_none h k hk hF
 clear h hC
 go_enter Try.func17, Try.ntmps17
 go_wp2_with (go_at_call 47; refine hfind.mono ?_; clear hfind; rintro e w1 ⟨rfl, hB1⟩; have hBF := below_alloc hB1 (.cells #[.string ⟨#[]⟩, .string ⟨#[]⟩, .bool false] 106))
 go_ret2
 exact ⟨rfl, hBF⟩
theorem took_state {w : World} {p b n c : Nat} {last : Int} {F : Int → Option X} (h : Tb w p b last n F c) (k : Int) (hk : (Lit.int .i64 k).wf = true) {A : Option Addr} {cl : Nat} {l : List En} (hC : Kd.C P.k103 w A l.length l) (hcap : l.length ≤ cl) (most : Int) (f t : ByteArray) (hF : F k = some (f, t, true)) (h1 : 0 < l.length) :
  Calls Try.prog 17 #[.pointer (some ⟨p, 0, none⟩), .int .i64 k, .slice A l.length cl, .int .i64 most] w fun e w' => e = .returned (.tuple #[.bool false, .int .i64 15]) ∧ Below w.heap.size w w' := by
 have hur := Try.underlying29
 have hux := Try.underlying106
 have hus := Try.underlying88
 have hue := Try.underlying103
 have hfind := find_some h k hk f t true hF
 have d1 : decide ((0 : Int) < (l.length : Int)) = true := decide_eq_true (by omega)
 clear h hC
 go_enter Try.func17, Try.ntmps17
 go_wp2_with (go_at_call 47; refine hfind.mono ?_; clear hfind; rintro e w1 ⟨rfl, hB1⟩; have hBF := below_alloc hB1 (.cells #[.string f, .string t, .bool true] 106))
 go_ret2
 exact ⟨rfl, hBF⟩
theorem took_arg_true {w : World} {p b n c : Nat} {last : Int} {F : Int → Option X} (h : Tb w p b last n F c) (k : Int) (hk : (Lit.int .i64 k).wf = true) {A : Option Addr} {cl : Nat} (hC : Kd.C P.k103 w A ([] : List En).length []) (most : Int) (f t : ByteArray) (hF : F k = some (f, t, true)) (h2 : most < 1) :
  Calls Try.prog 17 #[.pointer (some ⟨p, 0, none⟩), .int .i64 k, .slice A 0 cl, .int .i64 most] w fun e w' => e = .returned (.tuple #[.bool false, .int .i64 2]) ∧ Below w.heap.size w w' := by
 have hur := Try.underlying29
 have hux := Try.underlying106
 have hus := Try.underlying88
 have hue := Try.underlying103
 have hfind := find_some h k hk f t true hF
 have d2 : decide (most < 1) = true := decide_eq_true h2
 clear h hC
 go_enter Try.func17, Try.ntmps17
 go_wp2_with (go_at_call 47; refine hfind.mono ?_; clear hfind; rintro e w1 ⟨rfl, hB1⟩; have hBF := below_alloc hB1 (.cells #[.string f, .string t, .bool true] 106))
 go_ret2
 exact ⟨rfl, hBF⟩
theorem took_arg_false {w : World} {p b n c : Nat} {last : Int} {F : Int → Option X} (h : Tb w p b last n F c) (k : Int) (hk : (Lit.int .i64 k).wf = true) {A : Option Addr} {cl : Nat} {l : List En} (hC : Kd.C P.k103 w A l.length l) (hcap : l.length ≤ cl) (most : Int) (f t : ByteArray) (hF : F k = some (f, t, false)) (h2 : most < 1) :
  Calls Try.prog 17 #[.pointer (some ⟨p, 0, none⟩), .int .i64 k, .slice A l.length cl, .int .i64 most] w fun e w' => e = .returned (.tuple #[.bool false, .int .i64 2]) ∧ Below w.heap.size w w' := by
 have hur := Try.underlying29
 have hux := Try.underlying106
 have hus := Try.underlying88
 have hue := Try.underlying103
 have hfind := find_some h k hk f t false hF
 have d2 : decide (most < 1) = true := decide_eq_true h2
 clear h hC
 go_enter Try.func17, Try.ntmps17
 go_wp2_with (go_at_call 47; refine hfind.mono ?_; clear hfind; rintro e w1 ⟨rfl, hB1⟩; have hBF := below_alloc hB1 (.cells #[.string f, .string t, .bool false] 106))
 go_ret2
 exact ⟨rfl, hBF⟩
theorem took_limit_false {w : World} {p b n c : Nat} {last : Int} {F : Int → Option X} (h : Tb w p b last n F c) (k : Int) (hk : (Lit.int .i64 k).wf = true) {A : Option Addr} {cl : Nat} {l : List En} (hC : Kd.C P.k103 w A l.length l) (hcap : l.length ≤ cl) (most : Int) (f t : ByteArray) (hF : F k = some (f, t, false)) (h2 : 1 ≤ most) (h3 : most < l.length) :
  Calls Try.prog 17 #[.pointer (some ⟨p, 0, none⟩), .int .i64 k, .slice A l.length cl, .int .i64 most] w fun e w' => e = .returned (.tuple #[.bool false, .int .i64 4]) ∧ Below w.heap.size w w' := by
 have hur := Try.underlying29
 have hux := Try.underlying106
 have hus := Try.underlying88
 have hue := Try.underlying103
 have hfind := find_some h k hk f t false hF
 have d2 : decide (most < 1) = false := decide_eq_false (by omega)
 have d3 : decide (most < (l.length : Int)) = true := decide_eq_true h3
 clear h hC
 go_enter Try.func17, Try.ntmps17
 go_wp2_with (go_at_call 47; refine hfind.mono ?_; clear hfind; rintro e w1 ⟨rfl, hB1⟩; have hBF := below_alloc hB1 (.cells #[.string f, .string t, .bool false] 106))
 go_ret2
 exact ⟨rfl, hBF⟩
theorem took_rise_false {w : World} {p b n c : Nat} {last : Int} {F : Int → Option X} (h : Tb w p b last n F c) (k : Int) (hk : (Lit.int .i64 k).wf = true) {A : Option Addr} {cl : Nat} {l : List En} (hC : Kd.C P.k103 w A l.length l) (hcap : l.length ≤ cl) (most : Int) (f t : ByteArray) (hF : F k = some (f, t, false)) (h2 : 1 ≤ most) (h3 : l.length ≤ most) (kr : Nat) (hri : fold_Rises.f kr l = some false) :
  Calls Try.prog 17 #[.pointer (some ⟨p, 0, none⟩), .int .i64 k, .slice A l.length cl, .int .i64 most] w fun e w' => e = .returned (.tuple #[.bool false, .int .i64 16]) ∧ Below w.heap.size w w' := by
 have hur := Try.underlying29
 have hux := Try.underlying106
 have hus := Try.underlying88
 have hue := Try.underlying103
 have hfind := find_some h k hk f t false hF
 have d2 : decide (most < 1) = false := decide_eq_false (by omega)
 have d3 : decide (most < (l.length : Int)) = false := decide_eq_false (by omega)
 clear h
 go_enter Try.func17, Try.ntmps17
 go_wp2_with (first
  | (go_at_call 47; refine hfind.mono ?_; clear hfind; rintro e w1 ⟨rfl, hB1⟩; have hBF := below_alloc hB1 (.cells #[.string f, .string t, .bool false] 106))
  | (go_at_call 48; refine (fold_Rises.calls kr A cl l false _ (Kd.C_below hC hBF) hcap hri).mono ?_; rintro e w2 ⟨rfl, hD⟩; have hx2 := blk_below (blk_new w1 (.cells #[.string f, .string t, .bool false] 106)) hD.below; have hB2 := below_step hBF hD.below; clear hBF hB1 hD; have hBF := hB2; clear hB2))
 go_ret2
 exact ⟨rfl, hBF⟩
theorem took_order_false {w : World} {p b n c : Nat} {last : Int} {F : Int → Option X} (h : Tb w p b last n F c) (k : Int) (hk : (Lit.int .i64 k).wf = true) {A : Option Addr} {cl : Nat} {l : List En} (hC : Kd.C P.k103 w A l.length l) (hcap : l.length ≤ cl) (most : Int) (f t : ByteArray) (hF : F k = some (f, t, false)) (h2 : 1 ≤ most) (h3 : l.length ≤ most) (kr : Nat) (hri : fold_Rises.f kr l = some true) (hany : Aside (l.any (fun y => !holdsB f t y.f0) = true)) :
  Calls Try.prog 17 #[.pointer (some ⟨p, 0, none⟩), .int .i64 k, .slice A l.length cl, .int .i64 most] w fun e w' => e = .returned (.tuple #[.bool false, .int .i64 16]) ∧ Below w.heap.size w w' := by
 have hur := Try.underlying29
 have hux := Try.underlying106
 have hus := Try.underlying88
 have hue := Try.underlying103
 have hfind := find_some h k hk f t false hF
 have d2 : decide (most < 1) = false := decide_eq_false (by omega)
 have d3 : decide (most < (l.length : Int)) = false := decide_eq_false (by omega)
 clear h
 go_enter Try.func17, Try.ntmps17
 go_wp2_with (first
  | (go_at_call 47; refine hfind.mono ?_; clear hfind; rintro e w1 ⟨rfl, hB1⟩; have hBF := below_alloc hB1 (.cells #[.string f, .string t, .bool false] 106))
  | (go_at_call 48; refine (fold_Rises.calls kr A cl l true _ (Kd.C_below hC hBF) hcap hri).mono ?_; rintro e w2 ⟨rfl, hD⟩; have hx2 := blk_below (blk_new w1 (.cells #[.string f, .string t, .bool false] 106)) hD.below; have hB2 := below_step hBF hD.below; clear hBF hB1 hD; have hBF := hB2; clear hB2)
  | (go_at_call 49; refine (contains_any hx2 (Kd.C_below hC hBF) hcap).mono ?_; rw [hany.out]; rintro e w3 ⟨rfl, hB3⟩; have hx3 := blk_below hx2 hB3; have hB4 := below_step hBF hB3; clear hBF hB3 hx2; have hBF := hB4; clear hB4))
 go_ret2
 exact ⟨rfl, hBF⟩
theorem took_end_true {w : World} {p b n c : Nat} {last : Int} {F : Int → Option X} (h : Tb w p b last n F c) (k : Int) (hk : (Lit.int .i64 k).wf = true) {A : Option Addr} {cl : Nat} (hC : Kd.C P.k103 w A ([] : List En).length []) (most : Int) (f t : ByteArray) (hF : F k = some (f, t, true)) (hn : n < 1000000) (h2 : 1 ≤ most) (kr : Nat) (hri : fold_Rises.f kr [] = some true) (hany : Aside (([] : List En).any (fun y => !holdsB f t y.f0) = false)) :
  Calls Try.prog 17 #[.pointer (some ⟨p, 0, none⟩), .int .i64 k, .slice A 0 cl, .int .i64 most] w fun e w' => e = .returned (.tuple #[.bool true, .int .i64 0]) ∧ Tb w' p b last (n + 1) (upd F k (some (e0, e0, true))) c ∧ Fr [b] w w' := by
 have hur := Try.underlying29
 have hux := Try.underlying106
 have hus := Try.underlying88
 have hue := Try.underlying103
 have hfind := find_some h k hk f t true hF
 have d2 : decide (most < 1) = false := decide_eq_false (by omega)
 have d3 : decide (most < 0) = false := decide_eq_false (by omega)
 have hcA : Aside (c = (if (F k).isSome then c else c + 1)) := by rw [hF]; exact rfl
 have hpb := h.ne
 have hlb := h.map.lt
 have hlp := blk_lt h.blk
 replace h := aK_ h
 clear hF
 go_enter Try.func17, Try.ntmps17
 go_wp2_with (first
  | (go_at_call 47; refine hfind.mono ?_; clear hfind; rintro e w1 ⟨rfl, hB1⟩; have hsz := hB1.size; have hBF := below_alloc hB1 (.cells #[.string f, .string t, .bool true] 106))
  | (go_at_call 48; refine (fold_Rises.calls kr A cl [] true _ (Kd.C_below hC hBF) (Nat.zero_le _) hri).mono ?_; rintro e w2 ⟨rfl, hD⟩; have hx2 := blk_below (blk_new w1 (.cells #[.string f, .string t, .bool true] 106)) hD.below; have hB2 := below_step hBF hD.below; clear hBF hB1 hD; have hBF := hB2; clear hB2)
  | (go_at_call 49; refine (contains_any hx2 (Kd.C_below hC hBF) (Nat.zero_le _)).mono ?_; rw [hany.out]; rintro e w3 ⟨rfl, hB3⟩; have hx3 := blk_below hx2 hB3; have hB4 := below_step hBF hB3; clear hBF hB3 hx2; have hBF := hB4; clear hB4; have c0 := blk_cell hx3 0; have c1 := blk_cell hx3 1; have c2 := blk_cell hx3 2; have z0 := blk_frozen hx3 0; have z1 := blk_frozen hx3 1; have z2 := blk_frozen hx3 2; simp at c0 c1 c2))
 have hx4 := blk_set (blk_set (blk_set hx3 0 (.string ⟨#[]⟩)) 1 (.string ⟨#[]⟩)) 2 (.bool true)
 have hw1 : w.heap.size ≤ w1.heap.size := hsz
 have hB4 := below_set (j := 2) (v := .bool true) (below_set (j := 1) (v := .string ⟨#[]⟩) (below_set (j := 0) (v := .string ⟨#[]⟩) hBF hw1) hw1) hw1
 have hwb : w1.heap.size ≠ b := by omega
 clear hx3 hBF c0 c1 c2 z0 z1 z2
 refine still_tail 6 (by kernel_rfl) (by kernel_rfl) (fun W hW => ?_)
 simp only [List.take_succ_cons, List.take_zero, List.drop_succ_cons, List.drop_zero]
 have hxW : W.heap[w1.heap.size]? = some (.cells #[.string ⟨#[]⟩, .string ⟨#[]⟩, .bool true] 106 (0, 0)) := by rw [hW]; exact blk_drew hx4
 have hBW : Below w.heap.size w W := by rw [hW]; exact below_drew1 hB4
 clear hW hx4 hB4
 have hTA : Aside (Tb W p b last n F c) := h.out.fr (B := []) (Fr.of_below hBW) (by simp) (by simp)
 have hMA := hTA.out.map
 have k1 := blk_cell hTA.out.blk 1
 have k2 := blk_cell hxW 0
 have k3 := blk_cell hxW 1
 have k4 := blk_cell hxW 2
 simp at k1 k2 k3 k4
 clear hC
 iterate 6 still_step
 refine wpStill_nil ?_
 refine store W rfl _ _ _ rfl b n F c rfl hMA hn k rfl hk (e0, e0, true) rfl (fun w5 hT5 f5 => ?_)
 rw [← hcA.out] at hT5
 have hx5 := f5.blk hxW (by simpa using fun e => hwb e)
 have k5 := blk_cell hx5 2
 simp at k5
 have hTF : Aside (Tb w5 p b last (n + 1) (upd F k (some (e0, e0, true))) c) := ⟨f5.blk hTA.out.blk (by simpa using hpb), hT5⟩
 have fF : Fr [b] w w5 := (Fr.of_below hBW).trans f5 (fun x hx => .inl hx)
 clear hTA hMA k1 k2 k3 k4 hT5 f5 hxW hx5 hBW
 go_wp2_with fail
 go_ret2
 exact ⟨rfl, hTF.out, fF⟩
theorem took_end_false {w : World} {p b n c : Nat} {last : Int} {F : Int → Option X} (h : Tb w p b last n F c) (k : Int) (hk : (Lit.int .i64 k).wf = true) {A : Option Addr} {cl : Nat} {l : List En} (hC : Kd.C P.k103 w A l.length l) (hcap : l.length ≤ cl) (most : Int) (f t : ByteArray) (hF : F k = some (f, t, false)) (hn : n < 1000000) (h2 : 1 ≤ most) (h3 : l.length < most) (kr : Nat) (hri : fold_Rises.f kr l = some true) (hany : Aside (l.any (fun y => !holdsB f t y.f0) = false)) :
  Calls Try.prog 17 #[.pointer (some ⟨p, 0, none⟩), .int .i64 k, .slice A l.length cl, .int .i64 most] w fun e w' => e = .returned (.tuple #[.bool true, .int .i64 0]) ∧ Tb w' p b last (n + 1) (upd F k (some (e0, e0, true))) c ∧ Fr [b] w w' := by
 have hur := Try.underlying29
 have hux := Try.underlying106
 have hus := Try.underlying88
 have hue := Try.underlying103
 have hfind := find_some h k hk f t false hF
 have d2 : decide (most < 1) = false := decide_eq_false (by omega)
 have d3 : decide (most < (l.length : Int)) = false := decide_eq_false (by omega)
 have d4 : decide ((l.length : Int) < most) = true := decide_eq_true h3
 have hcA : Aside (c = (if (F k).isSome then c else c + 1)) := by rw [hF]; exact rfl
 have hpb := h.ne
 have hlb := h.map.lt
 have hlp := blk_lt h.blk
 replace h := aK_ h
 clear hF
 go_enter Try.func17, Try.ntmps17
 go_wp2_with (first
  | (go_at_call 47; refine hfind.mono ?_; clear hfind; rintro e w1 ⟨rfl, hB1⟩; have hsz := hB1.size; have hBF := below_alloc hB1 (.cells #[.string f, .string t, .bool false] 106))
  | (go_at_call 48; refine (fold_Rises.calls kr A cl l true _ (Kd.C_below hC hBF) hcap hri).mono ?_; rintro e w2 ⟨rfl, hD⟩; have hx2 := blk_below (blk_new w1 (.cells #[.string f, .string t, .bool false] 106)) hD.below; have hB2 := below_step hBF hD.below; clear hBF hB1 hD; have hBF := hB2; clear hB2)
  | (go_at_call 49; refine (contains_any hx2 (Kd.C_below hC hBF) hcap).mono ?_; rw [hany.out]; rintro e w3 ⟨rfl, hB3⟩; have hx3 := blk_below hx2 hB3; have hB4 := below_step hBF hB3; clear hBF hB3 hx2; have hBF := hB4; clear hB4; have c0 := blk_cell hx3 0; have c1 := blk_cell hx3 1; have c2 := blk_cell hx3 2; have z0 := blk_frozen hx3 0; have z1 := blk_frozen hx3 1; have z2 := blk_frozen hx3 2; simp at c0 c1 c2))
 have hx4 := blk_set (blk_set (blk_set hx3 0 (.string ⟨#[]⟩)) 1 (.string ⟨#[]⟩)) 2 (.bool true)
 have hw1 : w.heap.size ≤ w1.heap.size := hsz
 have hB4 := below_set (j := 2) (v := .bool true) (below_set (j := 1) (v := .string ⟨#[]⟩) (below_set (j := 0) (v := .string ⟨#[]⟩) hBF hw1) hw1) hw1
 have hwb : w1.heap.size ≠ b := by omega
 clear hx3 hBF c0 c1 c2 z0 z1 z2
 refine still_tail 6 (by kernel_rfl) (by kernel_rfl) (fun W hW => ?_)
 simp only [List.take_succ_cons, List.take_zero, List.drop_succ_cons, List.drop_zero]
 have hxW : W.heap[w1.heap.size]? = some (.cells #[.string ⟨#[]⟩, .string ⟨#[]⟩, .bool true] 106 (0, 0)) := by rw [hW]; exact blk_drew hx4
 have hBW : Below w.heap.size w W := by rw [hW]; exact below_drew1 hB4
 clear hW hx4 hB4
 have hTA : Aside (Tb W p b last n F c) := h.out.fr (B := []) (Fr.of_below hBW) (by simp) (by simp)
 have hMA := hTA.out.map
 have k1 := blk_cell hTA.out.blk 1
 have k2 := blk_cell hxW 0
 have k3 := blk_cell hxW 1
 have k4 := blk_cell hxW 2
 simp at k1 k2 k3 k4
 clear hC
 iterate 6 still_step
 refine wpStill_nil ?_
 refine store W rfl _ _ _ rfl b n F c rfl hMA hn k rfl hk (e0, e0, true) rfl (fun w5 hT5 f5 => ?_)
 rw [← hcA.out] at hT5
 have hx5 := f5.blk hxW (by simpa using fun e => hwb e)
 have k5 := blk_cell hx5 2
 simp at k5
 have hTF : Aside (Tb w5 p b last (n + 1) (upd F k (some (e0, e0, true))) c) := ⟨f5.blk hTA.out.blk (by simpa using hpb), hT5⟩
 have fF : Fr [b] w w5 := (Fr.of_below hBW).trans f5 (fun x hx => .inl hx)
 clear hTA hMA k1 k2 k3 k4 hT5 f5 hxW hx5 hBW
 go_wp2_with fail
 go_ret2
 exact ⟨rfl, hTF.out, fF⟩
theorem took_more {w : World} {p b n c : Nat} {last : Int} {F : Int → Option X} (h : Tb w p b last n F c) (k : Int) (hk : (Lit.int .i64 k).wf = true) {A : Option Addr} {cl : Nat} {l : List En} (hC : Kd.C P.k103 w A l.length l) (hcap : l.length ≤ cl) (most : Int) (f t : ByteArray) (hF : F k = some (f, t, false)) (hn : n < 1000000) (h2 : 1 ≤ most) (h3 : most = l.length) (kr : Nat) (hri : fold_Rises.f kr l = some true) (hany : Aside (l.any (fun y => !holdsB f t y.f0) = false)) (x : En) (hlast : l[l.length - 1]? = some x) (r1 r2 : ByteArray) (r3 : Bool) (hbeh : cursor_behind.f f t x.f0 = some (r1, r2, r3)) :
  Calls Try.prog 17 #[.pointer (some ⟨p, 0, none⟩), .int .i64 k, .slice A l.length cl, .int .i64 most] w fun e w' => e = .returned (.tuple #[.bool r3, .int .i64 0]) ∧ Tb w' p b last (n + 1) (upd F k (some (r1, r2, r3))) c ∧ Fr [b] w w' := by
 have hur := Try.underlying29
 have hux := Try.underlying106
 have hus := Try.underlying88
 have hue := Try.underlying103
 have hfind := find_some h k hk f t false hF
 have d2 : decide (most < 1) = false := decide_eq_false (by omega)
 have d3 : decide (most < (l.length : Int)) = false := decide_eq_false (by omega)
 have d4 : decide ((l.length : Int) < most) = false := decide_eq_false (by omega)
 have hmax := Kd.C_max hC
 obtain ⟨i, hi⟩ : ∃ i : Int, i = (l.length : Int) - 1 := ⟨_, rfl⟩
 have hws : wrap64 ((l.length : Int) - 1) = i := by rw [hi]; exact IntWalk.wrap64_in _ (by omega)
 have hws2 : IntKind.i64.wrap ((l.length : Int) - 1) = i := by rw [hi]; exact IntWalk.i64_in _ (by omega)
 have i0 : 0 ≤ i := by omega
 have i1 : i < (l.length : Int) := by omega
 have hit : i.toNat = l.length - 1 := by omega
 have di0 := decide_eq_true i0
 have di1 := decide_eq_true i1
 have pi0 := eq_true i0
 have pi1 := eq_true i1
 rw [← hit] at hlast
 obtain ⟨ad, hAd⟩ : ∃ ad, A = some ad := by obtain ⟨ad, _, e, _⟩ := at_E hC i i0 i1; exact ⟨ad, e⟩
 subst hAd
 have hcA : Aside (c = (if (F k).isSome then c else c + 1)) := by rw [hF]; exact rfl
 have hpb := h.ne
 have hlb := h.map.lt
 have hlp := blk_lt h.blk
 replace h := aK_ h
 have h3A := aK_ h3
 have hiA := aK_ hi
 have hlastA := aK_ hlast
 clear hF h3 hi hit hlast i0 i1
 go_enter Try.func17, Try.ntmps17
 go_wp2_with (first
  | (go_at_call 47; refine hfind.mono ?_; clear hfind; rintro e w1 ⟨rfl, hB1⟩; have hsz := hB1.size; have hBF := below_alloc hB1 (.cells #[.string f, .string t, .bool false] 106))
  | (go_at_call 48; refine (fold_Rises.calls kr (some ad) cl l true _ (Kd.C_below hC hBF) hcap hri).mono ?_; rintro e w2 ⟨rfl, hD⟩; have hx2 := blk_below (blk_new w1 (.cells #[.string f, .string t, .bool false] 106)) hD.below; have hB2 := below_step hBF hD.below; clear hBF hB1 hD; have hBF := hB2; clear hB2)
  | (go_at_call 49; refine (contains_any hx2 (Kd.C_below hC hBF) hcap).mono ?_; rw [hany.out]; rintro e w3 ⟨rfl, hB3⟩; have hx3 := blk_below hx2 hB3; have hB4 := below_step hBF hB3; clear hBF hB3 hx2; have hBF := hB4; clear hB4; have c0 := blk_cell hx3 0; have c1 := blk_cell hx3 1; have c2 := blk_cell hx3 2; have z0 := blk_frozen hx3 0; have z1 := blk_frozen hx3 1; have z2 := blk_frozen hx3 2; simp at c0 c1 c2))
 clear c0 c1 c2 z0 z1 z2
 refine still_tail 9 (by kernel_rfl) (by kernel_rfl) (fun W hW => ?_)
 simp only [List.take_succ_cons, List.take_zero, List.drop_succ_cons, List.drop_zero]
 have hxW : W.heap[w1.heap.size]? = some (.cells #[.string f, .string t, .bool false] 106 (0, 0)) := by rw [hW]; exact blk_drew hx3
 have hBW : Below w.heap.size w W := by rw [hW]; exact below_drew1 hBF
 clear hW hx3 hBF
 have c0 := blk_cell hxW 0
 have c1 := blk_cell hxW 1
 simp at c0 c1
 obtain ⟨ad', x', e', hx', q0, q1⟩ := at_E (Kd.C_below hC hBW) i (by simpa using pi0) (by simpa using pi1)
 cases e'
 obtain rfl : x' = x := by rw [hlastA.out] at hx'; exact (Option.some.inj hx').symm
 clear hx'
 iterate 9 still_step
 refine wpStill_nil ?_
 go_wp2_with (go_at_call 52; refine (cursor_behind.calls f t x'.f0 r1 r2 r3 _ hbeh).mono ?_; rintro e w4 ⟨rfl, hB4⟩; have hx4 := blk_below hxW hB4; have hB5 := below_step hBW hB4; clear hxW hBW hB4 c0 c1 q0 q1; have c0 := blk_cell hx4 0; have c1 := blk_cell hx4 1; have c2 := blk_cell hx4 2; have z0 := blk_frozen hx4 0; have z1 := blk_frozen hx4 1; have z2 := blk_frozen hx4 2; simp at c0 c1 c2)
 have hw1 : w.heap.size ≤ w1.heap.size := hsz
 have hx5 := blk_set (blk_set (blk_set hx4 0 (.string r1)) 1 (.string r2)) 2 (.bool r3)
 have hB6 := below_set (j := 2) (v := .bool r3) (below_set (j := 1) (v := .string r2) (below_set (j := 0) (v := .string r1) hB5 hw1) hw1) hw1
 have hwb : w1.heap.size ≠ b := by omega
 clear hx4 hB5 c0 c1 c2 z0 z1 z2
 refine still_tail 6 (by kernel_rfl) (by kernel_rfl) (fun W hW => ?_)
 simp only [List.take_succ_cons, List.take_zero, List.drop_succ_cons, List.drop_zero]
 have hxW : W.heap[w1.heap.size]? = some (.cells #[.string r1, .string r2, .bool r3] 106 (0, 0)) := by rw [hW]; exact blk_drew hx5
 have hBW : Below w.heap.size w W := by rw [hW]; exact below_drew1 hB6
 clear hW hx5 hB6
 have hTA : Aside (Tb W p b last n F c) := h.out.fr (B := []) (Fr.of_below hBW) (by simp) (by simp)
 have hMA := hTA.out.map
 have k1 := blk_cell hTA.out.blk 1
 have k2 := blk_cell hxW 0
 have k3 := blk_cell hxW 1
 have k4 := blk_cell hxW 2
 simp at k1 k2 k3 k4
 clear hC
 iterate 6 still_step
 refine wpStill_nil ?_
 refine store W rfl _ _ _ rfl b n F c rfl hMA hn k rfl hk (r1, r2, r3) rfl (fun w5 hT5 f5 => ?_)
 rw [← hcA.out] at hT5
 have hx5 := f5.blk hxW (by simpa using fun e => hwb e)
 have k5 := blk_cell hx5 2
 simp at k5
 have hTF : Aside (Tb w5 p b last (n + 1) (upd F k (some (r1, r2, r3))) c) := ⟨f5.blk hTA.out.blk (by simpa using hpb), hT5⟩
 have fF : Fr [b] w w5 := (Fr.of_below hBW).trans f5 (fun x hx => .inl hx)
 clear hTA hMA k1 k2 k3 k4 hT5 f5 hxW hx5 hBW
 go_wp2_with fail
 go_ret2
 exact ⟨rfl, hTF.out, fF⟩
def incB : List En → Bool
  | [] => true
  | [_] => true
  | x :: y :: l => ltB x.f0 y.f0 && incB (y :: l)
theorem getD_at {L : List En} {i : Nat} {x : En} (h : L[i]? = some x) : rd_T103 L (i : Int) = x := by
  show L.getD ((i : Int).toNat) _ = x
  rw [Int.toNat_natCast, List.getD_eq_getElem?_getD, h]
  rfl
theorem drop_at {L l : List En} {i : Nat} {x : En} (hd : L.drop i = x :: l) : i < L.length ∧ L[i]? = some x ∧ L.drop (i + 1) = l := by
  have hlt : i < L.length := by
    rcases Nat.lt_or_ge i L.length with h | h
    · exact h
    · rw [List.drop_eq_nil_of_le h] at hd; cases hd
  refine ⟨hlt, ?_, ?_⟩
  · have := congrArg (fun z => z[0]?) hd
    simpa using this
  · have := congrArg (List.drop 1) hd
    simpa [List.drop_drop] using this
theorem rises_loop (L : List En) (hL : L.length ≤ 9223372036854775806) : ∀ (l : List En) (i k : Nat) (x : En), L.drop (i + 1) = l → L[i]? = some x → fold_Rises.l0 (k + 1 + l.length) L L.length ((i : Int) + 1) = some (incB (x :: l)) := by
  intro l
  induction l with
  | nil =>
    intro i k x hd hx
    have hlen : L.length ≤ i + 1 := by have := congrArg List.length hd; simp at this; omega
    rw [List.length_nil, Nat.add_zero, fold_Rises.l0, if_neg (by omega)]
    rfl
  | cons y l ih =>
    intro i k x hd hx
    obtain ⟨hlt, hy, hd2⟩ := drop_at hd
    rw [show k + 1 + (y :: l).length = (k + 1 + l.length) + 1 from by simp; omega, fold_Rises.l0]
    rw [if_pos (by omega), if_pos (by omega), IntWalk.wrap64_in ((i : Int) + 1 - 1) (by omega), if_pos (by omega), if_pos (by omega), if_pos (by omega), if_pos (by omega)]
    rw [show (i : Int) + 1 - 1 = (i : Int) by omega, getD_at hx, show (i : Int) + 1 = ((i + 1 : Nat) : Int) by omega, getD_at hy, IntWalk.wrap64_in _ (by omega)]
    rw [ih (i + 1) k y hd2 hy]
    show (if ltB x.f0 y.f0 = true then _ else _) = some (ltB x.f0 y.f0 && incB (y :: l))
    cases ltB x.f0 y.f0 <;> rfl
theorem fold_eq (k : Nat) (L : List En) (hL : L.length ≤ 9223372036854775806) : fold_Rises.f (k + 2 + L.length) L = some (incB L) := by
  unfold fold_Rises.f
  cases L with
  | nil =>
           rw [List.length_nil, Nat.add_zero, show k + 2 = (k + 1) + 1 from rfl, fold_Rises.l0, if_neg (by simp)]
           try rfl
  | cons x l =>
    rw [show k + 2 + (x :: l).length = (k + 1 + 1 + l.length) + 1 from by simp; omega, fold_Rises.l0, if_pos (by rw [List.length_cons]; omega), if_neg (by omega), IntWalk.wrap64_in _ (by omega)]
    exact rises_loop (x :: l) hL l 0 (k + 1) x rfl rfl
theorem ref_loop (L : List En) (hL : L.length ≤ 9223372036854775806) : ∀ (l : List En) (i k : Nat) (x : En), L.drop (i + 1) = l → L[i]? = some x → catchmentref05_Rises.l0 (k + 1 + l.length) L ((i : Int) + 1) = some (incB (x :: l)) := by
  intro l
  induction l with
  | nil =>
    intro i k x hd hx
    have hlen : L.length ≤ i + 1 := by have := congrArg List.length hd; simp at this; omega
    rw [List.length_nil, Nat.add_zero, catchmentref05_Rises.l0, if_neg (by omega)]
    rfl
  | cons y l ih =>
    intro i k x hd hx
    obtain ⟨hlt, hy, hd2⟩ := drop_at hd
    rw [show k + 1 + (y :: l).length = (k + 1 + l.length) + 1 from by simp; omega, catchmentref05_Rises.l0]
    rw [if_pos (by omega), IntWalk.wrap64_in ((i : Int) + 1 - 1) (by omega), if_pos (by omega), if_pos (by omega), if_pos (by omega)]
    rw [show (i : Int) + 1 - 1 = (i : Int) by omega, getD_at hx, show (i : Int) + 1 = ((i + 1 : Nat) : Int) by omega, getD_at hy, IntWalk.wrap64_in _ (by omega)]
    rw [ih (i + 1) k y hd2 hy]
    show (if ltB x.f0 y.f0 = true then _ else _) = some (ltB x.f0 y.f0 && incB (y :: l))
    cases ltB x.f0 y.f0 <;> rfl
theorem ref_eq (k : Nat) (L : List En) (hL : L.length ≤ 9223372036854775806) : catchmentref05_Rises.f (k + 2 + L.length) L = some (incB L) := by
  unfold catchmentref05_Rises.f
  cases L with
  | nil =>
           rw [List.length_nil, Nat.add_zero, show k + 2 = (k + 1) + 1 from rfl, catchmentref05_Rises.l0, if_neg (by simp)]
           try rfl
  | cons x l =>
    rw [show k + 2 + (x :: l).length = k + 1 + 1 + l.length + 1 from by simp; omega]
    have := ref_loop (x :: l) hL l 0 (k + 2) x rfl rfl
    rw [show k + 2 + 1 + l.length = k + 1 + 1 + l.length + 1 by omega] at this
    exact this
def aft (s : ByteArray) : ByteArray := s ++ (⟨#[0]⟩ : ByteArray)
def behV (f t s : ByteArray) : X := if rrB (aft s) t = true then (aft s, t, false) else (e0, e0, true)
theorem behind_eq (f t s : ByteArray) (h : s.size ≤ 140737488351232) : cursor_behind.f f t s = some (behV f t s) := by
  unfold cursor_behind.f key_After.f behV
  rw [if_pos (by omega)]
  simp only [Option.bind_some, rr_eq]
  show (if rrB (aft s) t = true then _ else _) = _
  split <;> rfl
def outside (f t : ByteArray) (l : List En) : Bool := l.any (fun y => !holdsB f t y.f0)
def tookV (o : Option X) (l : List En) (most : Int) : Bool × Int × Option X :=
  match o with
  | none => (false, 11, none)
  | some (f, t, d) =>
    if d = true ∧ 0 < l.length then (false, 15, none)
    else if most < 1 then (false, 2, none)
    else if most < l.length then (false, 4, none)
    else if incB l = false then (false, 16, none)
    else if outside f t l = true then (false, 16, none)
    else if d = true ∨ (l.length : Int) < most then (true, 0, some (e0, e0, true))
    else match l[l.length - 1]? with
      | none => (true, 0, none)
      | some x => ((behV f t x.f0).2.2, 0, some (behV f t x.f0))
def now (F : Int → Option X) (k : Int) : Option X → Int → Option X
  | none => F
  | some y => upd F k (some y)
theorem took_any {w : World} {p b n c : Nat} {last : Int} {F : Int → Option X} (h : Tb w p b last n F c) (k : Int) (hk : (Lit.int .i64 k).wf = true) {A : Option Addr} {cl : Nat} {l : List En} (hC : Kd.C P.k103 w A l.length l) (hcap : l.length ≤ cl) (most : Int) (hn : n < 1000000) (hsz : ∀ x ∈ l, x.f0.size ≤ 140737488351232) (hlen : l.length ≤ 1000000) :
    Calls Try.prog 17 #[.pointer (some ⟨p, 0, none⟩), .int .i64 k, .slice A l.length cl, .int .i64 most] w fun e w' => e = .returned (.tuple #[.bool (tookV (F k) l most).1, .int .i64 (tookV (F k) l most).2.1]) ∧ Tb w' p b last (n + 1) (now F k (tookV (F k) l most).2.2) c ∧ Fr [b] w w' := by
  have stay : ∀ {w'}, Below w.heap.size w w' → Tb w' p b last (n + 1) F c ∧ Fr [b] w w' := fun {w'} hb => ⟨⟨(h.fr (B := []) (Fr.of_below hb) (by simp) (by simp)).blk, (h.fr (B := []) (Fr.of_below hb) (by simp) (by simp)).map.mono (by omega)⟩, Fr.of_below hb⟩
  unfold tookV
  cases hF : F k with
  | none => exact (took_none h k hk hC hcap most hF).mono fun e w' q => ⟨q.1, stay q.2⟩
  | some y =>
    obtain ⟨f, t, d⟩ := y
    simp only []
    have hri := fold_eq 0 l (by omega)
    by_cases a1 : d = true ∧ 0 < l.length
    · rw [if_pos a1]
      obtain ⟨rfl, a1⟩ := a1
      exact (took_state h k hk hC hcap most f t hF a1).mono fun e w' q => ⟨q.1, stay q.2⟩
    · rw [if_neg a1]
      by_cases a2 : most < 1
      · rw [if_pos a2]
        cases d with
        | false => exact (took_arg_false h k hk hC hcap most f t hF a2).mono fun e w' q => ⟨q.1, stay q.2⟩
        | true =>
          obtain rfl : l = [] := by cases l with | nil => rfl | cons x l => simp at a1
          exact (took_arg_true h k hk hC most f t hF a2).mono fun e w' q => ⟨q.1, stay q.2⟩
      · rw [if_neg a2]
        by_cases a3 : most < l.length
        · rw [if_pos a3]
          cases d with
          | false => exact (took_limit_false h k hk hC hcap most f t hF (by omega) a3).mono fun e w' q => ⟨q.1, stay q.2⟩
          | true =>
            obtain rfl : l = [] := by cases l with | nil => rfl | cons x l => simp at a1
            simp at a3; omega
        · rw [if_neg a3]
          by_cases a4 : incB l = false
          · rw [if_pos a4]
            rw [a4] at hri
            cases d with
            | false => exact (took_rise_false h k hk hC hcap most f t hF (by omega) (by omega) _ hri).mono fun e w' q => ⟨q.1, stay q.2⟩
            | true =>
              obtain rfl : l = [] := by cases l with | nil => rfl | cons x l => simp at a1
              cases a4
          · rw [if_neg a4]
            rw [Bool.not_eq_false] at a4
            rw [a4] at hri
            by_cases a5 : outside f t l = true
            · rw [if_pos a5]
              cases d with
              | false => exact (took_order_false h k hk hC hcap most f t hF (by omega) (by omega) _ hri a5).mono fun e w' q => ⟨q.1, stay q.2⟩
              | true =>
                obtain rfl : l = [] := by cases l with | nil => rfl | cons x l => simp at a1
                cases a5
            · rw [if_neg a5]
              rw [Bool.not_eq_true] at a5
              by_cases a6 : d = true ∨ (l.length : Int) < most
              · rw [if_pos a6]
                cases d with
                | false => exact took_end_false h k hk hC hcap most f t hF hn (by omega) (by simpa using a6) _ hri a5
                | true =>
                  obtain rfl : l = [] := by cases l with | nil => rfl | cons x l => simp at a1
                  exact took_end_true h k hk hC most f t hF hn (by omega) _ hri a5
              · rw [if_neg a6]
                obtain rfl : d = false := by cases d <;> simp_all
                have hlast : l.length - 1 < l.length := by omega
                rw [List.getElem?_eq_getElem hlast]
                simp only []
                exact took_more h k hk hC hcap most f t hF hn (by omega) (by simp at a6; omega) _ hri a5 _ (List.getElem?_eq_getElem hlast) _ _ _ (behind_eq f t _ (hsz _ (List.getElem_mem hlast)))
end Go.Proofs.Ytljnlnbopohghaa.Cur
end
section
namespace Go.Proofs.Ytljnlnbopohghaa.P
open Go.RowKit Go.Proofs.YtljnlnbopohghaaW.PrintWords Go.Proofs.YtljnlnbopohghaaW.PrintLast Go.Proofs.YtljnlnbopohghaaW.PrintMore Go.Proofs.Ytljnlnbopohghaa.Own Go.Proofs.Ytljnlnbopohghaa
def ofO : Option ByteArray → ByteArray × Bool
 | none => (e0, false)
 | some v => (v, true)
def toO (p : ByteArray × Bool) : Option ByteArray := if p.2 = true then some p.1 else none
theorem toO_ofO (o : Option ByteArray) : toO (ofO o) = o := by cases o <;> rfl
def tidy (p : ByteArray × Bool) : Prop := p.2 = false → p.1 = e0
theorem ofO_toO {p : ByteArray × Bool} (h : tidy p) : ofO (toO p) = p := by
 obtain ⟨v, b⟩ := p
 cases b
 ·have := h rfl; simp at this; subst this; rfl
 rfl
theorem tidy_apply (k : Int) (vv : ByteArray) (d : Int) (v : ByteArray) (is : Bool) : tidy (applyV k vv d v is) := by
 unfold applyV tidy
 (repeat' split) <;> simp
theorem tidy_on (m : Ms) (s : ByteArray) (p : ByteArray × Bool) : tidy (onM m s p) := by
 unfold onM onV
 split
 ·exact tidy_apply _ _ _ _ _
 unfold tidy
 split <;> simp
theorem tidy_find : ∀ (e : List En) (s : ByteArray), tidy (findV e s)
 | [], s => by simp [findV, tidy]
 | x :: e, s => by
  unfold findV
  split
  ·simp [tidy]
  exact tidy_find e s
theorem tidy_doAll (s : ByteArray) : ∀ (l : List Ms) (p : ByteArray × Bool), tidy p → tidy (doAll s l p)
 | [], p, h => h
 | m :: l, p, h => tidy_doAll s l _ (tidy_on m s p)
theorem norm_tidy {p : ByteArray × Bool} (h : tidy p) : (norm p.1 p.2, p.2) = p := by
 obtain ⟨v, b⟩ := p
 cases b
 ·have := h rfl; simp at this; subst this; rfl
 rfl
def valO (l : List Ms) (e : List En) (s : ByteArray) : Option ByteArray := toO (doAll s l (findV e s))
theorem valueV_find (l : List Ms) (e : List En) (s : ByteArray) : valueV l s (findV e s).1 (findV e s).2 = doAll s l (findV e s) := by
 unfold valueV
 rw [norm_tidy (tidy_find e s)]
theorem valueV_ofO (l : List Ms) (e : List En) (s : ByteArray) : valueV l s (findV e s).1 (findV e s).2 = ofO (valO l e s) := by
 rw [valueV_find]
 unfold valO
 rw [ofO_toO (tidy_doAll s l _ (tidy_find e s))]
theorem find_mem : ∀ (e : List En) (s : ByteArray), (findV e s).2 = true → ∃ x ∈ e, x.f0 = s
 | [], s, h => by simp [findV] at h
 | x :: e, s, h => by
  unfold findV at h
  split at h
  ·rename_i q; exact ⟨x, by simp, same_iff.1 q⟩
  obtain ⟨y, hy, hs⟩ := find_mem e s h
  exact ⟨y, List.mem_cons_of_mem _ hy, hs⟩
theorem on_some (m : Ms) (s : ByteArray) (p : ByteArray × Bool) (h : (onM m s p).2 = true) : p.2 = true ∨ (isPt m.f0 = true ∧ m.f2 = s) := by
 unfold onM onV at h
 split at h
 ·rename_i ht
  unfold touches at ht
  simp only [Bool.or_eq_true, Bool.and_eq_true, decide_eq_true_eq] at ht
  rcases ht with ht | ht
  ·exact .inr ⟨ht.1, same_iff.1 ht.2⟩
  rw [ht.1] at h
  simp [applyV] at h
 left
 cases q : p.2
 ·rw [q] at h; simp at h
 rfl
theorem do_some (s : ByteArray) : ∀ (l : List Ms) (p : ByteArray × Bool), (doAll s l p).2 = true → p.2 = true ∨ ∃ m ∈ l, isPt m.f0 = true ∧ m.f2 = s
 | [], p, h => .inl h
 | m :: l, p, h => by
  rcases do_some s l _ h with h1 | ⟨x, hx, h2⟩
  ·rcases on_some m s p h1 with h3 | h3
   ·exact .inl h3
   exact .inr ⟨m, by simp, h3⟩
  exact .inr ⟨x, List.mem_cons_of_mem _ hx, h2⟩
abbrev RiseK (l : List ByteArray) : Prop := l.Pairwise (fun a b => lt a b = true)
theorem mem_intoV (s x : ByteArray) : ∀ L : List ByteArray, x ∈ intoV L s ↔ x ∈ L ∨ x = s
 | [] => by simp [intoV]
 | y :: L => by
  unfold intoV
  split
  ·rw [List.mem_cons, mem_intoV s x L, List.mem_cons, or_assoc]
  split
  ·rename_i h
   have := same_iff.1 h
   subst this
   simp only [List.mem_cons]
   constructor
   ·exact .inl
   rintro (h | h)
   ·exact h
   exact .inl h
  simp only [List.mem_cons]
  constructor
  ·rintro (h | h | h)
   ·exact .inr h
   ·exact .inl (.inl h)
   exact .inl (.inr h)
  rintro ((h | h) | h)
  ·exact .inr (.inl h)
  ·exact .inr (.inr h)
  exact .inl h
theorem rise_intoV (s : ByteArray) : ∀ L : List ByteArray, RiseK L → RiseK (intoV L s)
 | [], _ => by simp [intoV]
 | y :: L, h => by
  obtain ⟨h1, h2⟩ := List.pairwise_cons.1 h
  unfold intoV
  split
  ·rename_i hy
   refine List.pairwise_cons.2 ⟨fun x hx => ?_, rise_intoV s L h2⟩
   rcases (mem_intoV s x L).1 hx with hx | rfl
   ·exact h1 x hx
   exact hy
  rename_i hy
  split
  ·exact h
  rename_i hs
  have hsy : lt s y = true := by
   rcases lt_tri s y with q | q | q
   ·exact q
   ·exact absurd (same_iff.2 q.symm) hs
   exact absurd q hy
  refine List.pairwise_cons.2 ⟨fun x hx => ?_, h⟩
  rcases List.mem_cons.1 hx with rfl | hx
  ·exact hsy
  exact lt_trans hsy (h1 x hx)
theorem rise_keysFrom : ∀ (l : List Ms) (o : List ByteArray), RiseK o → RiseK (keysFrom o l)
 | [], o, h => h
 | m :: l, o, h => by
  unfold keysFrom
  refine rise_keysFrom l _ ?_
  split
  ·exact rise_intoV _ _ h
  exact h
theorem mem_keysFrom (x : ByteArray) : ∀ (l : List Ms) (o : List ByteArray), x ∈ keysFrom o l ↔ x ∈ o ∨ ∃ m ∈ l, isPt m.f0 = true ∧ m.f2 = x
 | [], o => by simp [keysFrom]
 | m :: l, o => by
  unfold keysFrom
  rw [mem_keysFrom x l]
  by_cases hp : isPt m.f0 = true
  ·rw [if_pos hp, mem_intoV]
   constructor
   ·rintro ((h | h) | ⟨q, hq, h⟩)
    ·exact .inl h
    ·exact .inr ⟨m, by simp, hp, h.symm⟩
    exact .inr ⟨q, List.mem_cons_of_mem _ hq, h⟩
   rintro (h | ⟨q, hq, h⟩)
   ·exact .inl (.inl h)
   rcases List.mem_cons.1 hq with rfl | hq
   ·exact .inl (.inr h.2.symm)
   exact .inr ⟨q, hq, h⟩
  rw [if_neg hp]
  constructor
  ·rintro (h | ⟨q, hq, h⟩)
   ·exact .inl h
   exact .inr ⟨q, List.mem_cons_of_mem _ hq, h⟩
  rintro (h | ⟨q, hq, h⟩)
  ·exact .inl h
  rcases List.mem_cons.1 hq with rfl | hq
  ·exact absurd h.1 hp
  exact .inr ⟨q, hq, h⟩
theorem rise_addKeys : ∀ (e : List En) (o : List ByteArray), RiseK o → RiseK (addKeys o e)
 | [], o, h => h
 | x :: e, o, h => rise_addKeys e _ (rise_intoV _ _ h)
theorem mem_addKeys (s : ByteArray) : ∀ (e : List En) (o : List ByteArray), s ∈ addKeys o e ↔ s ∈ o ∨ ∃ x ∈ e, x.f0 = s
 | [], o => by simp [addKeys]
 | x :: e, o => by
  unfold addKeys
  rw [mem_addKeys s e, mem_intoV]
  constructor
  ·rintro ((h | h) | ⟨q, hq, h⟩)
   ·exact .inl h
   ·exact .inr ⟨x, by simp, h.symm⟩
   exact .inr ⟨q, List.mem_cons_of_mem _ hq, h⟩
  rintro (h | ⟨q, hq, h⟩)
  ·exact .inl (.inl h)
  rcases List.mem_cons.1 hq with rfl | hq
  ·exact .inl (.inr h.symm)
  exact .inr ⟨q, hq, h⟩
theorem rise_named (l : List Ms) (e : List En) : RiseK (namedV l e) := rise_addKeys e _ (rise_keysFrom l [] List.Pairwise.nil)
theorem mem_named (l : List Ms) (e : List En) (s : ByteArray) : s ∈ namedV l e ↔ (∃ m ∈ l, isPt m.f0 = true ∧ m.f2 = s) ∨ ∃ x ∈ e, x.f0 = s := by
 unfold namedV keysV
 rw [mem_addKeys, mem_keysFrom]
 simp
theorem named_of_val {l : List Ms} {e : List En} {s v : ByteArray} (h : valO l e s = some v) : s ∈ namedV l e := by
 have h2 : (doAll s l (findV e s)).2 = true := by
  unfold valO toO at h
  split at h
  ·assumption
  cases h
 rw [mem_named]
 rcases do_some s l _ h2 with h3 | h3
 ·exact .inr (find_mem e s h3)
 exact .inl h3
theorem rise_ext {α : Type} (R : α → α → Prop) (irr : ∀ a, ¬ R a a) (tr : ∀ {a b c}, R a b → R b c → R a c) : ∀ {a b : List α}, a.Pairwise R → b.Pairwise R → (∀ x, x ∈ a ↔ x ∈ b) → a = b
 | [], [], _, _, _ => rfl
 | [], y :: b, _, _, h => absurd ((h y).2 (by simp)) (by simp)
 | x :: a, [], _, _, h => absurd ((h x).1 (by simp)) (by simp)
 | x :: a, y :: b, ha, hb, h => by
  obtain ⟨ha1, ha2⟩ := List.pairwise_cons.1 ha
  obtain ⟨hb1, hb2⟩ := List.pairwise_cons.1 hb
  have hxy : x = y := by
   rcases List.mem_cons.1 ((h x).1 (by simp)) with q | q
   ·exact q
   rcases List.mem_cons.1 ((h y).2 (by simp)) with r | r
   ·exact r.symm
   exact absurd (tr (ha1 y r) (hb1 x q)) (irr x)
  subst hxy
  have : a = b := rise_ext R irr tr ha2 hb2 (fun z => by
   have hz := h z
   constructor
   ·intro q
    rcases List.mem_cons.1 (hz.1 (List.mem_cons_of_mem _ q)) with r | r
    ·subst r; exact absurd (ha1 z q) (irr z)
    exact r
   intro q
   rcases List.mem_cons.1 (hz.2 (List.mem_cons_of_mem _ q)) with r | r
   ·subst r; exact absurd (hb1 z q) (irr z)
   exact r)
  rw [this]
abbrev RiseE (l : List En) : Prop := l.Pairwise (fun a b => lt a.f0 b.f0 = true)
theorem riseE_iff : ∀ {l : List En}, risesV l = true ↔ RiseE l
 | [] => by simp [risesV]
 | x :: l => by
  rw [RiseE, List.pairwise_cons]
  constructor
  ·intro h
   exact ⟨rises_lt x l h, riseE_iff.1 (rises_tail h)⟩
  rintro ⟨h1, h2⟩
  exact rises_cons h1 (riseE_iff.2 h2)
theorem riseE_ext {a b : List En} (ha : RiseE a) (hb : RiseE b) (h : ∀ x, x ∈ a ↔ x ∈ b) : a = b :=
 rise_ext (fun a b : En => lt a.f0 b.f0 = true) (fun a h => by rw [lt_irrefl] at h; cases h) (fun h k => lt_trans h k) ha hb h
theorem entryOf_eq (l : List Ms) (e : List En) (f t s : ByteArray) : entryOf l e f t s = if (rr f t && holds f t s) = true then (valO l e s).map (fun v => (⟨s, v⟩ : En)) else none := by
 unfold entryOf
 simp only
 rw [valueV_ofO]
 cases valO l e s <;> cases rr f t <;> cases holds f t s <;> simp [ofO]
theorem mem_entries (l : List Ms) (e : List En) (f t : ByteArray) (x : En) : x ∈ entriesV l e f t ↔ rr f t = true ∧ holds f t x.f0 = true ∧ valO l e x.f0 = some x.f1 := by
 unfold entriesV
 rw [List.mem_filterMap]
 constructor
 ·rintro ⟨s, hs, h⟩
  rw [entryOf_eq] at h
  split at h
  ·rename_i q
   simp only [Bool.and_eq_true] at q
   cases hv : valO l e s with
   | none => rw [hv] at h; cases h
   | some v =>
    rw [hv] at h
    simp only [Option.map_some, Option.some.injEq] at h
    subst h
    exact ⟨q.1, q.2, hv⟩
  cases h
 rintro ⟨h1, h2, h3⟩
 refine ⟨x.f0, named_of_val h3, ?_⟩
 rw [entryOf_eq, h1, h2, h3]
 rfl
theorem filterMap_rise {α : Type} (g : ByteArray → Option En) (hg : ∀ s x, g s = some x → x.f0 = s) : ∀ K : List ByteArray, RiseK K → RiseE (K.filterMap g)
 | [], _ => by simp
 | s :: K, h => by
  obtain ⟨h1, h2⟩ := List.pairwise_cons.1 h
  rw [List.filterMap_cons]
  split
  ·exact filterMap_rise (α := α) g hg K h2
  rename_i x hx
  refine List.pairwise_cons.2 ⟨fun y hy => ?_, filterMap_rise (α := α) g hg K h2⟩
  obtain ⟨s', hs', hy'⟩ := List.mem_filterMap.1 hy
  rw [hg s x hx, hg s' y hy']
  exact h1 s' hs'
theorem rise_entries (l : List Ms) (e : List En) (f t : ByteArray) : RiseE (entriesV l e f t) := by
 refine filterMap_rise (α := Unit) _ (fun s x h => ?_) _ (rise_named l e)
 rw [entryOf_eq] at h
 split at h
 ·cases hv : valO l e s with
  | none => rw [hv] at h; cases h
  | some v => rw [hv] at h; simp only [Option.map_some, Option.some.injEq] at h; subst h; rfl
 cases h
theorem rr_all : rr e0 e0 = true := by simp [rr, emp_e0]
theorem lt_e0 (s : ByteArray) : lt s e0 = false := by
 cases q : lt s e0 with
 | false => rfl
 | true => have := lt_emp q; rw [emp_e0] at this; cases this
theorem holds_all (s : ByteArray) : holds e0 e0 s = true := by simp [holds, emp_e0, lt_e0]
end Go.Proofs.Ytljnlnbopohghaa.P
end
section
namespace Go.Proofs.Ytljnlnbopohghaa.Mdl
open Go.RowKit Go.Shelf Go.Proofs.YtljnlnbopohghaaW.PrintWords Go.Proofs.YtljnlnbopohghaaW.PrintLast Go.Proofs.YtljnlnbopohghaaW.PrintMore Go.Proofs.Ytljnlnbopohghaa.Own Go.Proofs.Ytljnlnbopohghaa.Ord Go.Proofs.Ytljnlnbopohghaa Go.Proofs.Ytljnlnbopohghaa.P
open Go.Proofs.Ytljnlnbopohghaa.OrdSm (Hold hold_len)
set_option maxHeartbeats 2000000
set_option maxRecDepth 100000
abbrev Cu := S97
def curX (c : Cu) : Cur.X := (c.f0.f0, c.f0.f1, c.f1)
def tabF (cs : List Cu) (k : Int) : Option Cur.X := if 1 ≤ k then (match cs[(k - 1).toNat]? with
 | some c => if c.f2 = true then none else some (curX c)
 | none => none) else none
def cntV (cs : List Cu) : Nat := (cs.filter (fun c => !c.f2)).length
theorem tabF_nil : tabF [] = fun _ => none := by
 funext k
 simp [tabF]
theorem Tb_eq {w w' : World} {p b n c : Nat} {last : Int} {F : Int → Option Cur.X} (h : Cur.Tb w p b last n F c) (e1 : w'.heap[p]? = w.heap[p]?) (e2 : w'.heap[b]? = w.heap[b]?) : Cur.Tb w' p b last n F c := by
 obtain ⟨hb, D, ⟨es, clock, h1, r⟩, h2⟩ := h
 exact ⟨e1.trans hb, D, ⟨es, clock, e2.trans h1, r⟩, h2⟩
theorem Tb_lt {w : World} {p b n c : Nat} {last : Int} {F : Int → Option Cur.X} (h : Cur.Tb w p b last n F c) : p < w.heap.size ∧ b < w.heap.size := ⟨blk_lt h.blk, h.map.lt⟩
structure Mx (G : Nat → Nat) (w : World) (m : Nat) (c : Cf) (n sends : Int) (L : Row) (T : Int → List Cu) (N em cb nn : Nat) (F : Int → Option Nat) (B : Int → Nat) : Prop where
 hm : w.heap[m]? = some (objM c n em cb sends)
 gm : G m = 1
 hH : Hold (fun k => G k = 3) w em L
 hT : TP w cb nn F
 gc : G cb = 2
 hn : nn ≤ N
 non : ∀ who, F who = none → T who = []
 tab : ∀ who p, F who = some p → 1 ≤ who ∧ G p = 4 + 2 * who.toNat ∧ G (B who) = 5 + 2 * who.toNat ∧ ∃ k, k ≤ N ∧ Cur.Tb w p (B who) (T who).length k (tabF (T who)) (cntV (T who))
def Mw (G : Nat → Nat) (w : World) (m : Nat) (c : Cf) (n sends : Int) (L : Row) (T : Int → List Cu) (N : Nat) : Prop :=
 (∀ k, G k ≠ 0 → k < w.heap.size) ∧ ∃ em cb nn F B, Mx G w m c n sends L T N em cb nn F B
theorem Mx.frm {G : Nat → Nat} {w w' : World} {m : Nat} {c : Cf} {n sends : Int} {L : Row} {T : Int → List Cu} {N em cb nn : Nat} {F : Int → Option Nat} {B : Int → Nat} (h : Mx G w m c n sends L T N em cb nn F B) (f : It.FrM (fun k => G k = 0) w w') : Mx G w' m c n sends L T N em cb nn F B := by
 refine ⟨f.blk h.hm (by rw [h.gm]; decide), h.gm, h.hH.frm f (fun k hk _ e => by rw [hk] at e; cases e), h.hT.fr (f.block cb h.hT.lt (by rw [h.gc]; decide)), h.gc, h.hn, h.non, fun who p hF => ?_⟩
 obtain ⟨h1, h2, h3, k, hk, hb⟩ := h.tab who p hF
 obtain ⟨l1, l2⟩ := Tb_lt hb
 exact ⟨h1, h2, h3, k, hk, Tb_eq hb (f.block p l1 (by rw [h2]; omega)) (f.block _ l2 (by rw [h3]; omega))⟩
theorem Mx.mono {G : Nat → Nat} {w : World} {m : Nat} {c : Cf} {n sends : Int} {L : Row} {T : Int → List Cu} {N N' em cb nn : Nat} {F : Int → Option Nat} {B : Int → Nat} (h : Mx G w m c n sends L T N em cb nn F B) (hN : N ≤ N') : Mx G w m c n sends L T N' em cb nn F B :=
 ⟨h.hm, h.gm, h.hH, h.hT, h.gc, Nat.le_trans h.hn hN, h.non, fun who p hF => by
  obtain ⟨h1, h2, h3, k, hk, hb⟩ := h.tab who p hF
  exact ⟨h1, h2, h3, k, Nat.le_trans hk hN, hb⟩⟩
theorem Mw.mono {G : Nat → Nat} {w : World} {m : Nat} {c : Cf} {n sends : Int} {L : Row} {T : Int → List Cu} {N N' : Nat} (h : Mw G w m c n sends L T N) (hN : N ≤ N') : Mw G w m c n sends L T N' := by
 obtain ⟨h1, em, cb, nn, F, B, hx⟩ := h
 exact ⟨h1, em, cb, nn, F, B, hx.mono hN⟩
theorem Mw.frm {G : Nat → Nat} {w w' : World} {m : Nat} {c : Cf} {n sends : Int} {L : Row} {T : Int → List Cu} {N : Nat} (h : Mw G w m c n sends L T N) (f : It.FrM (fun k => G k = 0) w w') : Mw G w' m c n sends L T N := by
 obtain ⟨h1, em, cb, nn, F, B, hx⟩ := h
 exact ⟨fun k hk => Nat.lt_of_lt_of_le (h1 k hk) f.size, em, cb, nn, F, B, hx.frm f⟩
theorem Mw.below {G : Nat → Nat} {w w' : World} {m : Nat} {c : Cf} {n sends : Int} {L : Row} {T : Int → List Cu} {N : Nat} (h : Mw G w m c n sends L T N) (f : Below w.heap.size w w') : Mw G w' m c n sends L T N := h.frm (.of_below f)
def Mo (G : Nat → Nat) (w : World) (Q : (Nat → Nat) → World → Prop) (w' : World) : Prop := ∃ G', (∀ k, k < w.heap.size → G' k = G k) ∧ Q G' w' ∧ It.FrM (fun k => G k ≠ 0) w w'
theorem Mo.same {G : Nat → Nat} {w w' : World} {Q : (Nat → Nat) → World → Prop} (h : Q G w') (f : Below w.heap.size w w') : Mo G w Q w' := ⟨G, fun _ _ => rfl, h, .of_below f⟩
theorem Mo.trans {G : Nat → Nat} {w w1 w2 : World} {Q : (Nat → Nat) → World → Prop} {G1 : Nat → Nat} (e : ∀ k, k < w.heap.size → G1 k = G k) (f : It.FrM (fun k => G k ≠ 0) w w1) (h : Mo G1 w1 Q w2) : Mo G w Q w2 := by
 obtain ⟨G2, e2, q, f2⟩ := h
 refine ⟨G2, fun k hk => (e2 k (Nat.lt_of_lt_of_le hk f.size)).trans (e k hk), q, f.trans f2 (fun i hi => ?_)⟩
 rcases Nat.lt_or_ge i w.heap.size with q | q
 ·rw [e i q] at hi; exact .inl hi
 exact .inr q
section
variable {G : Nat → Nat} {w : World} {m : Nat} {c : Cf} {n sends : Int} {L : Row} {T : Int → List Cu} {N : Nat}
theorem sends_any (h : Mw G w m c n sends L T N) : Calls Try.prog 26 #[.pointer (some ⟨m, 0, none⟩)] w fun e w' => e = .returned (.int .i64 sends) ∧ w' = w := by
 have hum := Try.underlying122
 obtain ⟨_, em, cb, nn, F, B, hx⟩ := h
 have z0 := blk_cell hx.hm 12
 simp at z0
 clear hx
 go_enter Try.func26, Try.ntmps26
 go_wp2
 go_ret
 exact ⟨rfl, rfl⟩
theorem some_all (L : Row) : someM e0 e0 L L.length = L := by
 unfold someM
 rw [List.filter_eq_self.2 (fun x _ => holds_all x.1)]
 exact List.take_of_length_le (by omega)
theorem entries_any (h : Mw G w m c n sends L T N) (hl : L.length ≤ 1000000) : Calls Try.prog 22 #[.pointer (some ⟨m, 0, none⟩)] w fun e w' => ∃ v, e = .returned v ∧ P.k103.R 103 w' w.heap.size (fun _ => True) v (L.map toE) ∧ Below w.heap.size w w' := by
 have hum := Try.underlying122
 obtain ⟨_, em, cb, nn, F, B, hx⟩ := h
 have z0 := blk_cell hx.hm 10
 simp at z0
 have LN := hold_len hx.hH
 have SM := some_any hx.hm hx.hH hl e0 e0 (L.length : Int)
 rw [some_all] at SM
 clear hx
 go_enter Try.func22, Try.ntmps22
 go_wp2_with (first
  | (go_at_call 54; refine LN.mono ?_; clear LN; rintro e w1 ⟨rfl, hw⟩; obtain rfl := hw.symm)
  | (go_at_call 53; refine SM.mono ?_; clear SM; rintro e w2 ⟨v, rfl, hR, hb⟩))
 go_ret
 exact ⟨v, rfl, hR, hb⟩
end
end Go.Proofs.Ytljnlnbopohghaa.Mdl
end
section
namespace Go.Proofs.Ytljnlnbopohghaa.Mdl
open Go.RowKit Go.Shelf Go.Proofs.YtljnlnbopohghaaW.PrintWords Go.Proofs.YtljnlnbopohghaaW.PrintLast Go.Proofs.YtljnlnbopohghaaW.PrintMore Go.Proofs.Ytljnlnbopohghaa.Own Go.Proofs.Ytljnlnbopohghaa.Ord Go.Proofs.Ytljnlnbopohghaa Go.Proofs.Ytljnlnbopohghaa.P
open List renaming setIfInBounds_toArray → sA1, set_cons_zero → sA2, set_cons_succ → sA3, getElem_toArray → sA4, getElem_cons_zero → sA5, getElem_cons_succ → sA6
open Go.Proofs.Ytljnlnbopohghaa.OrdSm (Hold hold_len)
set_option maxHeartbeats 2000000
set_option maxRecDepth 100000
theorem new_ex (w : World) : Calls Try.prog 10 #[] w fun e w' => ∃ p b, e = .returned (.pointer (some ⟨p, 0, none⟩)) ∧ w.heap.size ≤ p ∧ w.heap.size ≤ b ∧ p ≠ b ∧ Cur.Tb w' p b 0 0 (fun _ => none) 0 ∧ Below w.heap.size w w' :=
 (Cur.new_any w).mono (by rintro e w' ⟨rfl, hT, hb⟩; exact ⟨_, _, rfl, by omega, by omega, by omega, hT, hb⟩)
theorem storeP_run {w : World} {b n : Nat} {F : Int → Option Nat} (hT : TP w b n F) (hn : n < 1000000) (k : Int) (hk : (Lit.int .i64 k).wf = true) (y : Nat) :
  ∃ w', (Instr.mapUpdate 120 (.map (some b)) (.int .i64 k) (.pointer (some ⟨y, 0, none⟩))).run Try.prog w = .ok () w' ∧ TP w' b (n + 1) (updP F k (some y)) ∧ Fr [b] w w' := by
 obtain ⟨D, h1, h2⟩ := hT
 obtain ⟨w', r0, r1, r2⟩ := h1.store Cur.law Try.underlying120 (by unfold maxLen; omega) (Cur.wf_key hk) (ptrR_mk (some y))
 exact ⟨w', r0, ⟨_, r1, h2.put h1.isMap k y⟩, Cur.Fr.of_turned r2⟩
def Mt (m : Nat) (c : Cf) (n sends : Int) (L : Row) (T : Int → List Cu) (N em cb : Nat) (who : Int) (p : Nat) (G : Nat → Nat) (w : World) : Prop := (∀ k, G k ≠ 0 → k < w.heap.size) ∧ ∃ nn F B, Mx G w m c n sends L T N em cb nn F B ∧ F who = some p
theorem tabT2 : rtab .any (opsOf Try.f58 2) = rtab .any (opsOf Try.f58 2) := rfl
theorem table_any {G : Nat → Nat} {w : World} {m : Nat} {c : Cf} {n sends : Int} {L : Row} {T : Int → List Cu} {N em cb nn : Nat} {F : Int → Option Nat} {B : Int → Nat} (hlt : ∀ k, G k ≠ 0 → k < w.heap.size) (h : Mx G w m c n sends L T N em cb nn F B) (who : Int) (h1 : 1 ≤ who) (h2 : who ≤ 1000000) (hN : N < 1000000) :
  Calls Try.prog 58 #[.pointer (some ⟨m, 0, none⟩), .int .i64 who] w fun e w' => ∃ p, e = .returned (.pointer (some ⟨p, 0, none⟩)) ∧ Mo G w (Mt m c n sends L T (N + 1) em cb who p) w' := by
 have hum := Try.underlying122
 have hw := Cur.wf_small (k := who) (by omega) (by omega)
 have z0 := blk_cell h.hm 11
 simp at z0
 have hT := h.hT
 have hnn := h.hn
 cases hF : F who with
 | some p =>
  have hFA := aK_ hF
  have hA := aK_ h
  clear h hF
  go_enter Try.func58, Try.ntmps58
  go_wp2_with (refine lookP _ rfl _ _ rfl cb nn F rfl hT who rfl hw (some p) hFA.out ?_; simp only [ptrV])
  go_ret
  exact ⟨p, rfl, Mo.same ⟨hlt, nn, F, B, hA.out.mono (by omega), hFA.out⟩ (Below.refl _ _)⟩
 | none =>
  have hFA := aK_ hF
  have hA := aK_ h
  have hm2 : w.drew.heap[m]? = some (objM c n em cb sends) := h.hm
  have hTd : TP w.drew cb nn F := hT
  have z2 : w.drew.cell? ⟨m, 11, none⟩ = some (.map (some cb)) := z0
  have NW := new_ex w.drew
  clear h hF
  go_enter Try.func58, Try.ntmps58
  go_wp2_with (refine lookP _ rfl _ _ rfl cb nn F rfl hT who rfl hw none hFA.out ?_; simp only [ptrV])
  refine start_ (n := 7) (S := fun w' : World => w'.cell? ⟨m, 11, none⟩ = some (.map (some cb))) (ds := [6]) #[false, false, false, false, false, false, false] (by kernel_rfl) rfl rfl z2 (fun hHeld => ?_)
  have HT_ := aK_ tabT2
  refine pU_ 0 12 #[true, false, false, false, false, false, false] ?_
  refine pU_ 1 13 #[true, true, false, false, false, false, false] ?_
  refine pU_ 2 14 #[true, true, true, false, false, false, false] ?_
  refine take_ (i := 3) (N := some 15) (v := ?_) (a' := ?_) #[true, true, true, true, false, false, false] rfl rfl (take_of HT_.out (by kernel_rfl)) (fun _ _ _ h => h) (Or.inl ⟨by rfl, ?_⟩) hHeld ?_ ?_
  rotate_left
  ·rintro w' s0
   go_simp
   with_reducible rfl
  rotate_left
  ·simp only [Act.put, sA1, sA2, sA3, i64_w, i32_w]
   rfl
  refine pU_ 4 16 #[true, true, true, true, true, false, false] ?_
  refine one_ (i := 5) (N := some 17) #[true, true, true, true, true, true, false] rfl rfl (one_of HT_.out (by kernel_rfl)) (by decide) (fun K hK => ?_)
  refine goes_ Try.func10 (by kernel_rfl) rfl #[] (by rfl) rfl rfl (by (try simp only [List.map_toArray, List.map_cons, List.map_nil]); first | done | rfl) ?_
  refine (NW).mono ?_
  rintro e w3 ⟨p, b, rfl, hp, hb, hpb, hTb, hB3⟩
  refine ⟨_, rfl, ?_⟩
  have hm3 := blk_below hm2 hB3
  have z3 := blk_cell hm3 11
  simp at z3
  refine hK.out _ _ z3 (fun hHeld => ?_)
  clear hK K
  refine norm_ (a' := ?_) ?_ ?_
  rotate_left
  ·show Act.put _ (some 17) _ = _
   simp only [Act.put, sA1, sA2, sA3, i64_w, i32_w]
   rfl
  obtain ⟨w5, hrun, hT5, f5⟩ := storeP_run (hTd.fr (hB3.block cb (by simpa using hT.lt))) (by omega : nn < 1000000) who hw p
  refine last_ (i := 6) (N := none) #[true, true, true, true, true, true, true] rfl rfl (one_of HT_.out (by kernel_rfl)) (by decide) (fun K hK => ?_)
  refine skip_ (w1 := w5) (by rfl) rfl ?_ ?_
  ·first | (go_simp; done) | (go_simp; rfl) | (simp [execOp, Act.eval, hrun, Result.andThen]; done)
  refine hK.out _ _ ?_
  clear hK K
  refine done_ (done_of HT_.out (by kernel_rfl)) ?_
  have hbd := hB3.size
  have hpb' : w.heap.size ≤ p ∧ w.heap.size ≤ b := ⟨hp, hb⟩
  have hsz3 : w.heap.size ≤ w3.heap.size := hbd
  have g5 := f5.blk hm3 (by
   have h1 := hA.out.gm
   have h2 := hA.out.gc
   intro e
   rw [List.mem_singleton.1 e, h2] at h1
   cases h1)
  have z5 := blk_cell g5 11
  simp at z5
  have hF5 : Aside0 (updP F who (some p) who = some p) := ⟨updP_same _ _ _⟩
  have hB3A := aK_ (And.intro hB3 (And.intro f5 (And.intro hTb hT5)))
  clear hB3 f5 hTb hm3 z3 hHeld hrun hTd z2 z0 hm2
  go_wp2_with (refine lookP _ rfl _ _ rfl cb (nn + 1) (updP F who (some p)) rfl hT5 who rfl hw (some p) hF5.out ?_; simp only [ptrV])
  go_ret
  obtain ⟨hB3, f5, hTb, hT5⟩ := hB3A.out
  have h := hA.out
  have hml := blk_lt h.hm
  have hcl := h.hT.lt
  have fr : It.FrM (fun k => k = cb) w w5 := ⟨f5.os.trans hB3.os, f5.tape.trans hB3.tape, f5.output.trans hB3.output, Nat.le_trans hB3.size f5.size, fun k hk hn => (f5.block k (Nat.lt_of_lt_of_le hk hB3.size) (by simpa using hn)).trans (hB3.block k hk)⟩
  have hTn := h.non who hFA.out
  have new : ∀ k, w.heap.size ≤ k → k < w3.heap.size → w5.heap[k]? = w3.heap[k]? := fun k h1 h2 => f5.block k h2 (by simp; omega)
  obtain ⟨lp, lb⟩ := Tb_lt hTb
  refine ⟨p, rfl, fun k => if k = p then 4 + 2 * who.toNat else if k = b then 5 + 2 * who.toNat else G k, fun k hk => ?_, ⟨fun k hk => ?_, nn + 1, updP F who (some p), fun v => if v = who then b else B v, ?_, updP_same _ _ _⟩, fr.mono (fun i hi => .inl (by rw [hi, h.gc]; decide))⟩
  ·show (if k = p then _ else if k = b then _ else G k) = G k
   rw [if_neg (by omega), if_neg (by omega)]
  ·have hs5 := f5.size
   by_cases e1 : k = p
   ·omega
   by_cases e2 : k = b
   ·omega
   simp only [if_neg e1, if_neg e2] at hk
   have := hlt k hk
   omega
  refine ⟨fr.blk h.hm (fun e => ?_), ?_, ?_, hT5, ?_, by have := h.hn; omega, fun v hv => ?_, fun v q hq => ?_⟩
  ·have h1 := h.gm; rw [e, h.gc] at h1; cases h1
  ·show (if m = p then _ else if m = b then _ else G m) = 1
   rw [if_neg (by omega), if_neg (by omega)]; exact h.gm
  ·refine ((h.hH.bound).frm fr (fun k hk _ e => ?_)).mono (fun k hk => ?_)
   ·have h1 := hk.1; rw [e, h.gc] at h1; cases h1
   show (if k = p then _ else if k = b then _ else G k) = 3
   rw [if_neg (by have := hk.2; omega), if_neg (by have := hk.2; omega)]; exact hk.1
  ·show (if cb = p then _ else if cb = b then _ else G cb) = 2
   rw [if_neg (by omega), if_neg (by omega)]; exact h.gc
  ·by_cases e : v = who
   ·subst e; exact hTn
   rw [updP_other _ e] at hv; exact h.non v hv
  by_cases e : v = who
  ·subst e
   rw [updP_same] at hq
   cases hq
   refine ⟨h1, ?_, ?_, 0, by omega, ?_⟩
   ·show (if p = p then _ else _) = _
    rw [if_pos rfl]
   ·show (if (if v = v then b else B v) = p then _ else if (if v = v then b else B v) = b then _ else _) = _
    rw [if_pos rfl, if_neg (fun e => hpb e.symm), if_pos rfl]
   rw [hTn, tabF_nil]
   show Cur.Tb w5 p (if v = v then b else B v) 0 0 _ 0
   rw [if_pos rfl]
   exact Tb_eq hTb (new p hpb'.1 lp) (new b hpb'.2 lb)
  rw [updP_other _ e] at hq
  obtain ⟨h1', h2', h3', k, hk, hb'⟩ := h.tab v q hq
  obtain ⟨l1, l2⟩ := Tb_lt hb'
  have n1 : q ≠ cb := fun e => by rw [e, h.gc] at h2'; omega
  have n2 : B v ≠ cb := fun e => by rw [e, h.gc] at h3'; omega
  refine ⟨h1', ?_, ?_, k, by omega, ?_⟩
  ·show (if q = p then _ else if q = b then _ else G q) = _
   rw [if_neg (by omega), if_neg (by omega)]; exact h2'
  ·show (if (if v = who then b else B v) = p then _ else if (if v = who then b else B v) = b then _ else G (if v = who then b else B v)) = _
   rw [if_neg e, if_neg (by omega), if_neg (by omega)]; exact h3'
  show Cur.Tb w5 q (if v = who then b else B v) _ _ _ _
  rw [if_neg e]
  exact Tb_eq hb' (fr.block q l1 n1) (fr.block _ l2 n2)
end Go.Proofs.Ytljnlnbopohghaa.Mdl
end
