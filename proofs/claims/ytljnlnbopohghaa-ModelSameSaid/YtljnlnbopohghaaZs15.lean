/- Texts of one claim (laid by shake.py). -/
import Derived.Test.YtljnlnbopohghaaZs12
import Derived.Test.YtljnlnbopohghaaZs13
import Derived.Test.YtljnlnbopohghaaZs14
import Derived.Test.YtljnlnbopohghaaZs7
import Derived.Test.YtljnlnbopohghaaZs10
import Derived.RangeFuncBox
import Derived.Maps.OwnIn
import Derived.Test.YtljnlnbopohghaaZs0
import Derived.Test.YtljnlnbopohghaaZs8
import Derived.Deep.RegionHeld3
import Derived.Carry
import Derived.LoopTactic
set_option linter.unusedVariables false
set_option linter.unusedSimpArgs false
section
namespace Go.Proofs.Ytljnlnbopohghaa.P
open Go.RowKit Go.Proofs.YtljnlnbopohghaaW.PrintWords Go.Proofs.YtljnlnbopohghaaW.PrintLast Go.Proofs.YtljnlnbopohghaaW.PrintMore Go.Proofs.Ytljnlnbopohghaa.Own Go.Proofs.Ytljnlnbopohghaa
theorem IsPoint_eq (k q : Int) (y t v : ByteArray) (d : Int) : msg_IsPoint.f k q y t v d = some (isPt k) := by
 unfold msg_IsPoint.f isPt
 by_cases h1 : k = 1
 ·simp [h1]
 ·by_cases h2 : k = 2
  ·simp [h2]
  ·by_cases h3 : k = 3 <;> simp [h1, h2, h3]
theorem ahead_eq (s t : ByteArray) : key_ahead.f s t = some (emp t || lt s t) := by
 unfold key_ahead.f emp lt
 by_cases h : t.toList = [] <;> simp [h]
theorem RightRange_eq (f t : ByteArray) : key_RightRange.f f t = some (rr f t) := by
 unfold key_RightRange.f rr
 rw [ahead_eq]
 rfl
theorem After_eq (a : ByteArray) (h : a.size ≤ 140737488351232) : key_After.f a = some (succB a) := by
 unfold key_After.f succB
 rw [if_pos (by omega)]
theorem Point_range_eq (a : ByteArray) (h : a.size ≤ 140737488351232) : key_Point.f a = some (a, succB a) := by
 unfold key_Point.f
 rw [After_eq a h]
 rfl
theorem Span_eq (k q : Int) (y t v : ByteArray) (d : Int) (h : y.size ≤ 140737488351232) : msg_Span.f k q y t v d = some (span k y t) := by
 unfold msg_Span.f span
 rw [IsPoint_eq, Point_range_eq y h]
 simp only [Option.bind_some]
 cases isPt k
 ·by_cases h4 : k = 4 <;> simp [h4]
 ·simp
theorem or_add (a b : Int) (ha : 0 ≤ a) (ha2 : a < 72057594037927936) (hb : 0 ≤ b) (hb2 : b ≤ 255) : Go.bits .or .u64 (a * 256) b = a * 256 + b := by
 rw [Go.u64_or _ _ (by omega) (by omega) (by omega) (by omega)]
 obtain ⟨m, rfl⟩ := Int.eq_ofNat_of_zero_le ha
 obtain ⟨n, rfl⟩ := Int.eq_ofNat_of_zero_le hb
 have e : ((m : Int) * 256).toNat = m * 2 ^ 8 := by omega
 have e2 : (n : Int).toNat = n := by omega
 rw [e, e2, ← Nat.shiftLeft_eq, ← Nat.shiftLeft_add_eq_or_of_lt (by omega), Nat.shiftLeft_eq]
 omega
theorem take_step (k : Nat) (s : ByteArray) (hs : s.size = 8) (n : Nat) (hn : n < 8) : word_Take.l0 (k + 1) s (valN s n) 8 n = word_Take.l0 k s (valN s (n + 1)) 8 ((n + 1 : Nat) : Int) := by
 have hv := valN_range s n
 have hb := bt_range s n
 have hp := pow_le n hn
 have hv2 : valN s n < 72057594037927936 := by omega
 simp only [word_Take.l0]
 rw [if_pos (by omega), if_pos (by omega), if_pos (by omega)]
 rw [IntWalk.u64_in (valN s n * 256) (by omega), IntWalk.u64_in (bt s n) (by omega), or_add _ _ hv.1 hv2 hb.1 hb.2, IntWalk.wrap64_in _ (by omega)]
 rfl
theorem word_Take_eq (k : Nat) (s : ByteArray) : word_Take.f (k + 9) s = some (if s.size = 8 then (valN s 8, true) else (0, false)) := by
 unfold word_Take.f
 by_cases h : s.size = 8
 ·rw [if_pos (by omega), if_pos h]
  have e : (s.size : Int) = 8 := by omega
  rw [e]
  have s0 := take_step (k + 8) s h 0 (by omega)
  have s1 := take_step (k + 7) s h 1 (by omega)
  have s2 := take_step (k + 6) s h 2 (by omega)
  have s3 := take_step (k + 5) s h 3 (by omega)
  have s4 := take_step (k + 4) s h 4 (by omega)
  have s5 := take_step (k + 3) s h 5 (by omega)
  have s6 := take_step (k + 2) s h 6 (by omega)
  have s7 := take_step (k + 1) s h 7 (by omega)
  refine s0.trans (s1.trans (s2.trans (s3.trans (s4.trans (s5.trans (s6.trans (s7.trans ?_)))))))
  simp only [word_Take.l0]
  rw [if_neg (by omega)]
 ·rw [if_neg (by omega), if_neg h]
theorem word_Add_eq (k : Nat) (v : ByteArray) (is : Bool) (d : Int) : word_Add.f (k + 9) v is d = some (addV v is d) := by
 have e8 : ∀ z, Wp.eight z = eight z := fun _ => rfl
 unfold word_Add.f addV word_Put.f
 rw [word_Take_eq]
 cases is <;> by_cases h : v.size = 8 <;> simp [h, e8]
theorem Holds_eq (f t s : ByteArray) : key_Holds.f f t s = some (holds f t s) := by
 unfold key_Holds.f holds
 rw [ahead_eq]
 by_cases h : Op.bytesLess s.toList f.toList = true
 ·simp [h, lt]
 ·simp [h, lt]
theorem Apply_eq (n : Nat) (k q : Int) (y t vv : ByteArray) (d : Int) (v : ByteArray) (is : Bool) : msg_Apply.f (n + 9) k q y t vv d v is = some (applyV k vv d v is) := by
 unfold msg_Apply.f applyV
 by_cases h1 : k = 1
 ·simp [h1]
 ·by_cases h3 : k = 3
  ·simp [h3, word_Add_eq]
  ·by_cases h2 : k = 2
   ·simp [h2, msg_Apply.j0]
   ·by_cases h4 : k = 4
    ·simp [h4, msg_Apply.j0]
    ·have b4 : (k == 4) = false := by simp [h4]
     cases is <;> simp [h1, h2, h3, h4, msg_Apply.j0, b4]
end Go.Proofs.Ytljnlnbopohghaa.P
end
section
namespace Go.Proofs.Ytljnlnbopohghaa.It
open Go Go.RowKit Go.Proofs.YtljnlnbopohghaaW.PrintWords
def OutC (t e : TypeId) (size base B n : Nat) (C : List Value) (M : Nat → Prop) (W : World) : Prop :=
 ∃ v, Boxed W B t v ∧ W.ownsRow base e size v n C ∧ M B ∧ ∀ g, v.ownBlock = some g → M g
theorem OutC.move {t e : TypeId} {size base B n : Nat} {C : List Value} {M : Nat → Prop} {B0 : Nat} {W W' : World} (h : OutC t e size base B n C M W) (f : FrM (fun k => ¬ M k ∧ B0 ≤ k) W W') : OutC t e size base B n C M W' := by
 obtain ⟨v, hv, hr, hB, hg⟩ := h
 refine ⟨v, (f.block B hv.lt (fun q => q.1 hB)).trans hv, own_move hr (fun k hk => ?_), hB, hg⟩
 obtain ⟨cells, hc⟩ := own_typed hr k hk
 exact f.block k (Array.getElem?_eq_some_iff.1 hc).1 (fun q => q.1 (hg k hk))
theorem OutC.next {t e : TypeId} {size base B n m : Nat} {C C' : List Value} {M : Nat → Prop} {W w1 : World} {v v' : Value} {tmp : Obj} (hv : Boxed W B t v) (hrow : W.ownsRow base e size v n C) (hMB : M B) (hMg : ∀ g, v.ownBlock = some g → M g) (hM : ∀ k, M k → k < W.heap.size)
  (hte : t ≠ e) (hbase : base ≤ W.heap.size) (hB : base ≤ B) (hown' : w1.ownsRow base e size v' m C') (hgrow : (W.alloc tmp).grownBy w1 v.ownBlock) (hat : v'.ownBlock = v.ownBlock ∨ v'.ownBlock = some (W.alloc tmp).heap.size) :
  Boxed w1 B t v ∧ ∃ M' : Nat → Prop, (∀ k, M' k → (M k ∨ W.heap.size ≤ k) ∧ k < (w1.setCell ⟨B, 0, none⟩ v').heap.size) ∧ FrM M W (w1.setCell ⟨B, 0, none⟩ v') ∧ OutC t e size base B m C' M' (w1.setCell ⟨B, 0, none⟩ v') := by
 obtain ⟨h1, h2, h3, h4, h5⟩ := hv.appended hte hrow hbase hB hown' hgrow
 refine ⟨h1, fun k => M k ∨ v'.ownBlock = some k, ?_, ?_, ⟨v', h2, h3, .inl hMB, fun g hg => .inr hg⟩⟩
 ·rintro k (hk | hk)
  ·exact ⟨.inl hk, Nat.lt_of_lt_of_le (hM k hk) h5.size⟩
  ·obtain ⟨cells, hc⟩ := own_typed h3 k hk
   refine ⟨?_, (Array.getElem?_eq_some_iff.1 hc).1⟩
   rcases hat with q | q
   ·exact .inl (hMg k (q ▸ hk))
   ·have e1 : some k = some (W.alloc tmp).heap.size := hk.symm.trans q
    injection e1 with e1
    rw [e1]
    exact .inr (by simp)
 ·have f1 : FrM M W (W.alloc tmp) := (FrM.refl M W).alloc tmp
  have f2 : FrM M (W.alloc tmp) w1 := FrM.grown hgrow (fun r hr => .inl (hMg r hr))
  have f3 : FrM M w1 (w1.setCell ⟨B, 0, none⟩ v') := FrM.grown (grownBy_setCell' w1 B v') (fun r hr => .inl (by cases hr; exact hMB))
  exact (f1.trans f2 (fun i hi => .inl hi)).trans f3 (fun i hi => .inl hi)
theorem OutC.start {t e : TypeId} {size base B : Nat} {W : World} (hv : Boxed W B t (.slice none 0 0)) : OutC t e size base B 0 [] (fun k => k = B) W :=
 ⟨_, hv, World.ownsRow_nil _ _ _ _, rfl, fun g hg => by simp [Value.ownBlock] at hg⟩
end Go.Proofs.Ytljnlnbopohghaa.It
end
section
namespace Go.Proofs.Ytljnlnbopohghaa.Mdl
open Go.RowKit Go.Shelf Go.Proofs.YtljnlnbopohghaaW.PrintWords Go.Proofs.YtljnlnbopohghaaW.PrintLast Go.Proofs.YtljnlnbopohghaaW.PrintMore Go.Proofs.Ytljnlnbopohghaa.Own Go.Proofs.Ytljnlnbopohghaa.Ord Go.Proofs.Ytljnlnbopohghaa Go.Proofs.Ytljnlnbopohghaa.P
open Go.Proofs.Ytljnlnbopohghaa.OrdSm (Hold hold_from_iter from_in lin cell_two_new)
attribute [local go_sem] Oper.semAt_some
set_option maxHeartbeats 2000000
set_option maxRecDepth 100000
abbrev En := S103
abbrev Ms := S117
structure Cf where (f0 f1 f2 f3 f4 f5 f6 f7 f8 : Int)
abbrev Row := List (ByteArray × ByteArray)
def toE (x : ByteArray × ByteArray) : En := ⟨x.1, x.2⟩
abbrev objM (c : Cf) (n : Int) (em cb : Nat) (sends : Int) : Obj := .cells #[.int .i64 c.f0, .int .i64 c.f1, .int .i64 c.f2, .int .i64 c.f3, .int .i64 c.f4, .int .i64 c.f5, .int .i64 c.f6, .int .i64 c.f7, .int .i64 c.f8, .int .i64 n, .pointer (some ⟨em, 0, none⟩), .map (some cb), .int .i64 sends] 122 (0, 0)
def flatE (xs : Row) : List Value := xs.flatMap fun x => [.string x.1, .string x.2]
theorem flatE_snoc (xs : Row) (x : ByteArray × ByteArray) : flatE (xs ++ [x]) = flatE xs ++ [.string x.1, .string x.2] := by simp [flatE]
theorem reps_flatE (w : World) (base : Nat) (ok : Nat → Prop) (xs : Row) : Reps (P.k103.M w base ok) 2 (xs.map toE) (flatE xs) := by
 have key : ∀ l : Row, Reps (P.k103.M w base ok) 2 (l.reverse.map toE) (flatE l.reverse) := fun l => by
  induction l with
  | nil => exact Reps.none _ _
  | cons x l ih =>
   rw [List.reverse_cons, List.map_append, flatE_snoc]
   exact Reps.snoc ih (P.k103_mkM w base ok (toE x)) rfl
 simpa using key xs.reverse
theorem R_of_flatE {w : World} {base : Nat} {v : Value} {xs : Row} (ho : w.ownsRow base 103 2 v xs.length (flatE xs)) :
  P.k103.R 103 w base (fun _ => True) v (xs.map toE) :=
 ⟨fun _ _ => trivial, flatE xs, by rw [List.length_map]; exact ho, reps_flatE _ _ _ _⟩
theorem underE : Try.prog.underlying 30 = some (.slice 103) := Try.underlying30
theorem held_stop {f t : ByteArray} {L pre : Row} {x : ByteArray × ByteArray} (hL : Rise OrdSm.lt L) (hpre : pre ++ [x] <+: L.filter (fun x => !OrdSm.lt x.1 f)) (hall : ∀ y ∈ pre, holds f t y.1 = true) (hx : holds f t x.1 = false) : L.filter (fun x => holds f t x.1) = pre := by
 obtain ⟨r, hr⟩ := hpre
 have h1 : L.filter (fun x => holds f t x.1) = (L.filter (fun x => !OrdSm.lt x.1 f)).filter (fun x => holds f t x.1) := by
  rw [List.filter_filter]
  refine List.filter_congr (fun y _ => ?_)
  rw [holds_def]
  show _ = (!OrdSm.lt y.1 f && ah y.1 t && !OrdSm.lt y.1 f)
  rw [show lt y.1 f = OrdSm.lt y.1 f from rfl]
  cases OrdSm.lt y.1 f <;> cases ah y.1 t <;> rfl
 have hR : Rise OrdSm.lt (pre ++ [x] ++ r) := by rw [hr]; exact hL.filter _
 rw [h1, ← hr, List.filter_append, List.filter_append]
 have e1 : pre.filter (fun x => holds f t x.1) = pre := List.filter_eq_self.2 (fun y hy => hall y hy)
 have hx2 : x ∈ L.filter (fun x => !OrdSm.lt x.1 f) := by rw [← hr]; simp
 have hxf : lt x.1 f = false := by
  have h2 : (!OrdSm.lt x.1 f) = true := (List.mem_filter.1 hx2).2
  show OrdSm.lt x.1 f = false
  cases q : OrdSm.lt x.1 f with
  | false => rfl
  | true => rw [q] at h2; cases h2
 have hxt : ah x.1 t = false := by rw [holds_def, hxf] at hx; simpa using hx
 have e3 : r.filter (fun x => holds f t x.1) = [] := List.filter_eq_nil_iff.2 (fun y hy hq => by
  have hxy : lt x.1 y.1 = true := by
   have := (List.pairwise_append.1 hR).2.2 x (by simp) y hy
   exact this
  rw [holds_def] at hq
  simp at hq
  rw [ah_lt hxy hq.2] at hxt
  cases hxt)
 rw [e1, e3]
 simp [hx]
theorem held_pre {f t : ByteArray} {L pre : Row} (hpre : pre <+: L.filter (fun x => !OrdSm.lt x.1 f)) (hall : ∀ y ∈ pre, holds f t y.1 = true) : pre <+: L.filter (fun x => holds f t x.1) := by
 obtain ⟨r, hr⟩ := hpre
 have h1 : L.filter (fun x => holds f t x.1) = (L.filter (fun x => !OrdSm.lt x.1 f)).filter (fun x => holds f t x.1) := by
  rw [List.filter_filter]
  refine List.filter_congr (fun y _ => ?_)
  rw [holds_def]
  show _ = (!OrdSm.lt y.1 f && ah y.1 t && !OrdSm.lt y.1 f)
  rw [show lt y.1 f = OrdSm.lt y.1 f from rfl]
  cases OrdSm.lt y.1 f <;> cases ah y.1 t <;> rfl
 rw [h1, ← hr, List.filter_append, List.filter_eq_self.2 (fun y hy => hall y hy)]
 exact List.prefix_append _ _
theorem held_all {f t : ByteArray} {L : Row} (hall : ∀ y ∈ L.filter (fun x => !OrdSm.lt x.1 f), holds f t y.1 = true) : L.filter (fun x => holds f t x.1) = L.filter (fun x => !OrdSm.lt x.1 f) := by
 refine List.filter_congr (fun y hy => ?_)
 cases q : OrdSm.lt y.1 f with
 | true =>
  rw [holds_def, show lt y.1 f = OrdSm.lt y.1 f from rfl, q]; rfl
 | false => rw [hall y (List.mem_filter.2 ⟨hy, by rw [q]; rfl⟩)]; rfl
def someM (f t : ByteArray) (L : Row) (k : Int) : Row := (L.filter (fun x => holds f t x.1)).take k.toNat
theorem some_any {w : World} {m em cb : Nat} {c : Cf} {n sends : Int} {U : Nat → Prop} {L : Row} (hm : w.heap[m]? = some (objM c n em cb sends)) (hH : Hold U w em L) (hl : L.length ≤ 1000000) (f t : ByteArray) (k : Int) :
  Calls Try.prog 53 #[.pointer (some ⟨m, 0, none⟩), .agg #[.string f, .string t], .int .i64 k] w fun r w' => ∃ v, r = .returned v ∧ P.k103.R 103 w' w.heap.size (fun _ => True) v ((someM f t L k).map toE) ∧ Below w.heap.size w w' := by
 have hur := Try.underlying29
 have hum := Try.underlying122
 obtain ⟨i0, hi, hz0, hz1, hz2⟩ := info_parts P.info103
 refine (callsIn_wide (n := 5)).1 ?_
 refine callsIn_of_wp_marks Try.func53 rfl trivial ?_ rfl
 simp only [Try.ntmps53, List.size_toArray, List.length_cons, List.length_nil, Nat.reduceAdd, Nat.reduceSub, Array.replicate_succ, Array.replicate_zero, List.push_toArray, List.append_toArray, List.nil_append, List.cons_append]
 replace hH := hH.bound
 gi_wp2
 have hml := blk_lt hm
 have bO := Boxed.new ((w.alloc (.cells #[.string f, .string t] 29)).alloc (.cells #[.int .i64 k] 3)) 30 (.slice none 0 0)
 have bn := (Boxed.new (w.alloc (.cells #[.string f, .string t] 29)) 3 (.int .i64 k)).alloc (.cells #[.slice none 0 0] 30)
 have br := blk_alloc (blk_alloc (blk_new w (.cells #[.string f, .string t] 29)) (.cells #[.int .i64 k] 3)) (.cells #[.slice none 0 0] 30)
 rw [World.size_alloc, World.size_alloc] at bO
 rw [World.size_alloc] at bn
 have hB1 : Below w.heap.size w (((w.alloc (.cells #[.string f, .string t] 29)).alloc (.cells #[.int .i64 k] 3)).alloc (.cells #[.slice none 0 0] 30)) := (((Below.refl _ w).alloc (Nat.le_refl _) _).alloc (by simp) _).alloc (by simp; omega) _
 have hs1 : (((w.alloc (.cells #[.string f, .string t] 29)).alloc (.cells #[.int .i64 k] 3)).alloc (.cells #[.slice none 0 0] 30)).heap.size = w.heap.size + 1 + 1 + 1 := by simp
 generalize ((w.alloc (.cells #[.string f, .string t] 29)).alloc (.cells #[.int .i64 k] 3)).alloc (.cells #[.slice none 0 0] 30) = w2 at bO bn br hB1 hs1 ⊢
 have hm2 := blk_below hm hB1
 have hH2 := hH.below hB1
 have z0 := blk_cell hm2 10
 have z1 := blk_cell br 0
 simp at z0 z1
 have FR : Calls Try.prog 81 #[.pointer (some ⟨em, 0, none⟩), .string f] w2.drew fun r' w4 => r' = .returned (.func (.func 99) #[] #[.pointer (some ⟨w2.heap.size, 0, none⟩), .pointer (some ⟨w2.heap.size + 1, 0, none⟩)]) ∧ (w4.cell? ⟨m, 10, none⟩ = some (.pointer (some ⟨em, 0, none⟩)) ∧ w4.cell? ⟨w.heap.size, 0, none⟩ = some (.string f)) ∧
   (Below w2.heap.size w2 w4 ∧ w4.cell? ⟨w2.heap.size, 0, none⟩ = some (.pointer (some ⟨em, 0, none⟩)) ∧ w4.cell? ⟨w2.heap.size + 1, 0, none⟩ = some (.string f) ∧ w2.heap.size + 1 < w4.heap.size) := by
  refine (callsIn_wide (n := 5)).1 ((from_in 5 (some ⟨em, 0, none⟩) f w2.drew).mono ?_)
  rintro r w4 ⟨rfl, tt, rfl⟩
  have h1 : Below w2.heap.size w2 ((w2.drew.alloc (.cells #[.pointer (some ⟨em, 0, none⟩)] tt)).alloc (.cells #[.string f] 9)) := (((below_drew1 (Below.refl w2.heap.size w2)).alloc (Nat.le_refl _) _).alloc (by simp) _)
  have bN := (Boxed.new w2.drew tt (.pointer (some ⟨em, 0, none⟩))).alloc (.cells #[.string f] 9)
  have bK := Boxed.new (w2.drew.alloc (.cells #[.pointer (some ⟨em, 0, none⟩)] tt)) 9 (.string f)
  rw [World.size_alloc] at bK
  refine ⟨rfl, ⟨?_, ?_⟩, h1, bN.cell, bK.cell, by simp⟩
  ·have := blk_cell (blk_below hm2 h1) 10; simpa using this
  ·have := blk_cell (blk_below br h1) 0; simpa using this
 have hHA := Aside0.mk hH2
 have hbA := Aside0.mk (And.intro bO (And.intro bn (And.intro br hB1)))
 have hs1A := Aside0.mk hs1
 clear hH hH2 hm hm2 bO bn br hB1 hs1
 refine wpIn_wide.2 ?_
 go_region_held3 (fun w' => w'.cell? ⟨m, 10, none⟩ = some (.pointer (some ⟨em, 0, none⟩)) ∧ w'.cell? ⟨w.heap.size, 0, none⟩ = some (.string f)) (first | exact ⟨by assumption, by assumption⟩ | exact ⟨z0, z1⟩)
  (first
   | (go_at_call 81; refine FR.mono ?_; clear FR; rintro r w4 ⟨rfl, ⟨d0, d1⟩, fin⟩))
 gi_wp2
 obtain ⟨hb24, e1, e2, e3⟩ := fin
 obtain ⟨bO, bn, br, hB1⟩ := hbA.out
 have hs1 := hs1A.out
 have hH2 := hHA.out
 have hrise := hH2.rise
 obtain ⟨Si, hSi, hIt⟩ := hold_from_iter 4 w2.heap.size (w2.heap.size + 1) hH2 hb24 f (by omega) (by omega) e1 e2
 have bO4 : Boxed w4 (w.heap.size + 1 + 1) 30 (.slice none 0 0) := blk_below bO hb24
 have bn4 := blk_below bn hb24
 have br4 := blk_below br hb24
 have hB4 : Below w.heap.size w w4 := below_step hB1 hb24
 have hflen : (L.filter (fun x => !OrdSm.lt x.1 f)).length ≤ 1000000 := Nat.le_trans (List.length_filter_le _ _) hl
 have hmx : maxLen = 9223372036854775807 := rfl
 apply It.range_iter rfl (by omega) (gf := 99) (lb := #[.pointer (some ⟨w2.heap.size, 0, none⟩), .pointer (some ⟨w2.heap.size + 1, 0, none⟩)]) rfl trivial (enters_of Try.func99 (by kernel_rfl) rfl)
  hIt (It.FrM.refl _ _) (fun k => k = w.heap.size + 1 + 1) (fun k hk => ⟨(hSi k hk).2, fun q => by have h2 := (hSi k hk).1; omega⟩) (fun k hk => by omega) (fun _ => rfl)
  (fun pre M V => It.OutC 30 103 2 w.heap.size (w.heap.size + 1 + 1) pre.length (flatE pre) M V ∧ ((pre.length : Int) ≤ k ∨ pre.length = 0) ∧ ∀ y ∈ pre, holds f t y.1 = true)
  (fun cd pre M V => cd = .exit 0 ∧ ∃ pre' x, pre = pre' ++ [x] ∧ It.OutC 30 103 2 w.heap.size (w.heap.size + 1 + 1) pre'.length (flatE pre') M V ∧ ((pre'.length : Int) ≤ k ∨ pre'.length = 0) ∧ (∀ y ∈ pre', holds f t y.1 = true) ∧ (k ≤ pre'.length ∨ holds f t x.1 = false))
  (fun pre M X Y h fr => ⟨h.1.move fr, h.2⟩) (fun cd pre M X Y h fr => by obtain ⟨h1, p', x, h2, h3, h4⟩ := h; exact ⟨h1, p', x, h2, h3.move fr, h4⟩) ⟨It.OutC.start bO4, .inr rfl, by simp⟩
 case hassign =>
  intro ll x V K hK
  gi_wp2
  exact hK
 case hbody =>
  rintro ll pre x M1 V ⟨⟨v, hv, hrow, hMB, hMg⟩, hn, hall⟩ hMb hF hlt
  have hc1 := hv.cell
  have hsV := hF.size
  have gn := hF.blk bn4 (by omega)
  have hcn := blk_cell gn 0
  simp at hcn
  have gr := hF.blk br4 (by omega)
  have hcr0 := blk_cell gr 0
  have hcr1 := blk_cell gr 1
  simp at hcr0 hcr1
  have hs4 := hB4.size
  obtain ⟨A9, c9, rfl, hc9, _⟩ : ∃ A c, v = .slice A pre.length c ∧ pre.length ≤ c ∧ True := by
   obtain ⟨_, h⟩ := hrow
   rcases h with ⟨rfl, h0⟩ | ⟨g, cap, cur, rfl, _, _, hn, _⟩
   ·exact ⟨none, 0, by rw [h0], by omega, trivial⟩
   ·exact ⟨_, cap, rfl, hn, trivial⟩
  by_cases hge : k ≤ (pre.length : Int)
  ·have d0 := decide_eq_true hge
   gi_wp2_with (refine ⟨trivial, ?_⟩)
   exact ⟨M1, fun k hk => ⟨.inl hk, (hMb k hk).2⟩, It.FrM.refl _ _, rfl, pre, x, rfl, ⟨_, hv, hrow, hMB, hMg⟩, hn, hall, .inl hge⟩
  ·have d0 := decide_eq_false hge
   have hlt2 : (pre.length : Int) + 1 ≤ k := by omega
   have hA := Aside0.mk hlt2
   clear hge hlt2
   cases hx : holds f t x.1 with
   | false =>
    have HO : key_Holds.f f t x.1 = some false := (Holds_eq f t x.1).trans (by rw [hx])
    have hxA := Aside0.mk hx
    have hvA := Aside0.mk (And.intro hv hrow)
    clear hx hv hrow
    gi_wp2_with (refine ⟨trivial, ?_⟩; gi_at_call 51; refine (CallsIn.inRound ll (callsIn_wide.2 (key_Holds.calls f t x.1 false _ HO))).mono ?_; rintro r V2 ⟨rfl, hB5⟩)
    obtain ⟨hv, hrow⟩ := hvA.out
    exact ⟨M1, fun k hk => ⟨.inl hk, by have := (hMb k hk).2; have := hB5.size; omega⟩, .of_below hB5, rfl, pre, x, rfl, ⟨_, blk_below hv hB5, pw_own_below hrow hB5, hMB, hMg⟩, hn, hall, .inr hxA.out⟩
   | true =>
    have HO : key_Holds.f f t x.1 = some true := (Holds_eq f t x.1).trans (by rw [hx])
    have hxA := Aside0.mk hx
    have hvA := Aside0.mk (And.intro hv hrow)
    clear hx hv hrow
    gi_wp2_with (first
     | (refine ⟨trivial, ?_⟩; gi_at_call 51; refine (CallsIn.inRound ll (callsIn_wide.2 (key_Holds.calls f t x.1 true _ HO))).mono ?_; rintro r V2 ⟨rfl, hB5⟩; obtain ⟨hv', hrow'⟩ := hvA.out; have hv : Boxed V2 (w.heap.size + 1 + 1) 30 (.slice A9 pre.length c9) := blk_below hv' hB5; have hrow := pw_own_below hrow' hB5; have hc1 := hv.cell; have hs5 := hB5.size; have hMb5 : ∀ g, M1 g → g < V2.heap.size := fun g hg => by have := (hMb g hg).2; omega)
     | (gi_at_builtin; refine wpListIn_append_own_at _ rfl _ _ 30 rfl w.heap.size 103 i0 (.agg #[(.string ⟨#[]⟩), (.string ⟨#[]⟩)]) 2 32 underE hi hz0 hz1 hz2 rfl (by decide) _ _ _ rfl (hrow.alloc _) ⟨V2.heap.size, 0, none⟩ 1 1 [.string x.1, .string x.2] rfl rfl (cell_two_new _ _ _ _) (by simp [Value.oneCell']) (by omega) (by omega) (by simp; omega) ?_; intro v' w1 hown' hgrow _ hat; obtain ⟨g', cap', rfl⟩ := ownsRow_succ hown'; obtain ⟨hv1, hq⟩ := It.OutC.next hv hrow hMB hMg hMb5 (by decide) (by omega) (by omega) hown' hgrow hat; have hc2 := hv1.cell; have hf2 := hv1.frozen))
    obtain ⟨M', q1, q2, q3⟩ := hq
    have e8 : (pre ++ [x]).length = pre.length + 1 := by simp
    refine ⟨M', fun g hg => ⟨(q1 g hg).1.imp id (fun q => by omega), (q1 g hg).2⟩, (It.FrM.of_below (M := M1) hB5).trans q2 (fun i hi => .inl hi), ?_, .inl ?_, fun y hy => ?_⟩
    ·rw [e8, flatE_snoc]; exact q3
    ·have := hA.out; rw [e8]; simpa using this
    ·rcases List.mem_append.1 hy with hy | hy
     ·exact hall y hy
     ·simp at hy; subst hy; exact hxA.out
 case hstop =>
  rintro D cd pre M1 V hD hDV hDM hMb hF hpre ⟨rfl, pre', x, rfl, ⟨v, hv, hrow, hMB, hMg⟩, hn, hall, hor⟩ hK
  have hc1 := hv.cell
  have hs4 := hB4.size
  have hBV : Below w.heap.size w V := hB4.trans (hF.below (base := w.heap.size) (fun k hk => by omega) (by omega))
  have hpe : someM f t L k = pre' := by
   unfold someM
   rcases hor with hge | hx
   ·obtain ⟨r, hr⟩ := held_pre ((List.prefix_append pre' [x]).trans hpre) hall
    rw [← hr, show k.toNat = pre'.length by omega, List.take_left']
    rfl
   ·rw [held_stop hrise hpre hall hx]
    exact List.take_of_length_le (by omega)
  gi_wp2
  refine ⟨by simp, .inl ⟨_, _, rfl, run_takeDeferred hK, ?_⟩⟩
  exact ⟨_, results_tmp rfl _ _ _, v, rfl, by rw [hpe]; exact R_of_flatE (ownsRow_putObj hrow _ hK rfl), hBV.trans (belowK_b (w := w) (Nat.le_refl _) V D _ _ (by omega) hK rfl rfl)⟩
 case hdone =>
  rintro D ys M1 V hD hDV hDM hMb hF rfl ⟨⟨v, hv, hrow, hMB, hMg⟩, hn, hall⟩ hK
  have hc1 := hv.cell
  have hs4 := hB4.size
  have hBV : Below w.heap.size w V := hB4.trans (hF.below (base := w.heap.size) (fun k hk => by omega) (by omega))
  have hpe : someM f t L k = L.filter (fun x => !OrdSm.lt x.1 f) := by
   unfold someM
   rw [held_all hall]
   exact List.take_of_length_le (by omega)
  gi_wp2
  refine ⟨by simp, .inl ⟨_, _, rfl, run_takeDeferred hK, ?_⟩⟩
  exact ⟨_, results_tmp rfl _ _ _, v, rfl, by rw [hpe]; exact R_of_flatE (ownsRow_putObj hrow _ hK rfl), hBV.trans (belowK_b (w := w) (Nat.le_refl _) V D _ _ (by omega) hK rfl rfl)⟩
end Go.Proofs.Ytljnlnbopohghaa.Mdl
end
section
namespace Go.Proofs.Ytljnlnbopohghaa.Cur
open Go Go.RowKit Go.Maps Go.Proofs.YtljnlnbopohghaaW.PrintWords Go.Proofs.YtljnlnbopohghaaW.PrintLast Go.Proofs.YtljnlnbopohghaaW.PrintMore Go.Proofs.Ytljnlnbopohghaa.Own Go.Proofs.Ytljnlnbopohghaa.Ord Go.Proofs.Ytljnlnbopohghaa.P
set_option maxHeartbeats 2000000
set_option maxRecDepth 100000
structure Tb (w : World) (p b : Nat) (last : Int) (n : Nat) (F : Int → Option X) (c : Nat) : Prop where
 blk : w.heap[p]? = some (.cells #[.int .i64 last, .map (some b)] 88 (0, 0))
 map : TM w b n F c
theorem Tb.fr {w w' : World} {p b n c : Nat} {last : Int} {F : Int → Option X} (h : Tb w p b last n F c) {B : List Nat} (f : Fr B w w') (hp : p ∉ B) (hb : b ∉ B) : Tb w' p b last n F c :=
 ⟨f.blk h.blk hp, h.map.fr f hb⟩
theorem Tb.ne {w : World} {p b n c : Nat} {last : Int} {F : Int → Option X} (h : Tb w p b last n F c) : p ≠ b := by
 rintro rfl
 obtain ⟨D, ⟨es, clock, hb, _⟩, _⟩ := h.map
 rw [h.blk] at hb
 cases hb
theorem new_any (w : World) : Calls Try.prog 10 #[] w fun e w' => e = .returned (.pointer (some ⟨w.heap.size + 1, 0, none⟩)) ∧ Tb w' (w.heap.size + 1) w.heap.size 0 0 (fun _ => none) 0 ∧ Below w.heap.size w w' := by
 have hmm := @run_makeMap Try.prog
 have hu := Try.underlying86
 have hus := Try.underlying88
 go_enter Try.func10, Try.ntmps10
 go_wp2
 go_ret
 refine ⟨rfl, ⟨?_, (TM.made w).fr (B := []) (Fr.of_below ((Below.refl _ _).alloc (Nat.le_refl _) _)) (by simp)⟩, ((Below.refl _ w).alloc (Nat.le_refl _) _).alloc (by simp) _⟩
 have := blk_new (w.alloc (.map #[] 0)) (Obj.cells #[Value.int IntKind.i64 0, Value.map (some w.heap.size)] 88)
 rwa [World.size_alloc] at this
def rrB (f t : ByteArray) : Bool := if t.toList = [] then true else Op.bytesLess f.toList t.toList
theorem rr_eq (f t : ByteArray) : key_RightRange.f f t = some (rrB f t) := by
 unfold key_RightRange.f key_ahead.f rrB
 split <;> rfl
theorem wf_small {k : Int} (h0 : -1000000000 ≤ k) (h1 : k ≤ 1000000000) : (Lit.int .i64 k).wf = true := WalkArith.wf_i64 (by omega)
theorem open_yes {w : World} {p b n c : Nat} {last : Int} {F : Int → Option X} (h : Tb w p b last n F c) (h0 : 0 ≤ last) (h1 : last < 1000000) (hn : n < 1000000) (f t : ByteArray) (hr : rrB f t = true) {c' : Nat} (hcA : Aside (c' = (if (F (last + 1)).isSome then c else c + 1))) :
  Calls Try.prog 15 #[.pointer (some ⟨p, 0, none⟩), .agg #[.string f, .string t]] w fun e w' => e = .returned (.tuple #[.int .i64 (last + 1), .int .i64 0]) ∧ Tb w' p b (last + 1) (n + 1) (upd F (last + 1) (some (f, t, false))) c' ∧ Fr [p, b] w w' := by
 have hw1 : IntKind.i64.wrap (last + 1) = last + 1 := IntWalk.i64_in _ (by omega)
 have hu := Try.underlying86
 have hus := Try.underlying88
 have hur := Try.underlying29
 have hux := Try.underlying106
 have hl := blk_lt h.blk
 have hlb := h.map.lt
 have hne := h.ne
 go_enter Try.func15, Try.ntmps15
 have f0 : Fr [p, b] w (w.alloc (.cells #[.string f, .string t] 29)) := (Fr.refl _ _).alloc _
 go_wp2_with (go_at_call 46; refine (key_RightRange.calls f t true _ ((rr_eq f t).trans (by rw [hr]))).mono ?_; rintro e w1 ⟨rfl, hB1⟩; have f1 : Fr [p, b] w w1 := f0.trans (C := []) (Fr.of_below hB1) (by simp); have hT1 : Aside (Tb w1 p b last n F c) := ⟨blk_below (blk_alloc h.blk _) hB1, (h.map.fr (B := []) ((Fr.refl _ _).alloc _) (by simp)).fr (B := []) (Fr.of_below hB1) (by simp)⟩; have hbx := blk_below (blk_new w (.cells #[.string f, .string t] 29)) hB1; have c0 := blk_cell hT1.out.blk 0; have z0 := blk_frozen hT1.out.blk 0; simp at c0; clear hB1)
 have hT2 : Aside (Tb (w1.setCell ⟨p, 0, none⟩ (.int .i64 (last + 1))) p b (last + 1) n F c) := ⟨blk_set hT1.out.blk 0 _, hT1.out.map.fr (B := [p]) ((Fr.refl _ _).set (.inl (by simp)) _) (by simpa using fun e => hne e.symm)⟩
 have f2 : Fr [p, b] w (w1.setCell ⟨p, 0, none⟩ (.int .i64 (last + 1))) := f1.set (.inl (by simp)) _
 have hbx2 : (w1.setCell ⟨p, 0, none⟩ (.int .i64 (last + 1))).heap[w.heap.size]? = some (.cells #[.string f, .string t] 29 (0, 0)) := blk_far hbx (by simp; omega) _
 clear hT1 hbx c0 z0 f1 f0
 refine still_tail 10 (by kernel_rfl) (by kernel_rfl) (fun W hW => ?_)
 simp only [List.take_succ_cons, List.take_zero, List.drop_succ_cons, List.drop_zero]
 have hT3 : Aside (Tb W p b (last + 1) n F c) := by rw [hW]; exact hT2.out.fr (B := []) (Fr.refl _ _).drew (by simp) (by simp)
 have f3 : Fr [p, b] w W := by rw [hW]; exact f2.drew
 have hbx3 : W.heap[w.heap.size]? = some (.cells #[.string f, .string t] 29 (0, 0)) := by rw [hW]; exact hbx2
 clear hW hT2 f2 hbx2
 have c0 := blk_cell hT3.out.blk 0
 have c1 := blk_cell hT3.out.blk 1
 have b0 := blk_cell hbx3 0
 have b1 := blk_cell hbx3 1
 simp at c0 c1 b0 b1
 iterate 10 still_step
 refine wpStill_nil ?_
 have hT3' := hT3.out.map
 refine store W rfl _ _ _ rfl b n F c rfl hT3' hn (last + 1) rfl (wf_small (by omega) (by omega)) (f, t, false) rfl (fun w4 hT4 f4 => ?_)
 rw [← hcA.out] at hT4
 have hT5 : Aside (Tb w4 p b (last + 1) (n + 1) (upd F (last + 1) (some (f, t, false))) c') := ⟨f4.blk hT3.out.blk (by simpa using hne), hT4⟩
 have f5 : Fr [p, b] w w4 := f3.trans f4 (fun x hx => .inl (by simp at hx; simp [hx]))
 have c4 := blk_cell hT5.out.blk 0
 simp at c4
 clear hT3 hT3' hT4 c0 c1 b0 b1 f3 f4 hbx3
 go_wp2_with fail
 go_ret2
 exact ⟨rfl, hT5.out, f5⟩
theorem open_no {w : World} {p : Nat} (f t : ByteArray) (hr : rrB f t = false) :
  Calls Try.prog 15 #[.pointer (some ⟨p, 0, none⟩), .agg #[.string f, .string t]] w fun e w' => e = .returned (.tuple #[.int .i64 0, .int .i64 7]) ∧ Below w.heap.size w w' := by
 have hur := Try.underlying29
 go_enter Try.func15, Try.ntmps15
 have f0 : Below w.heap.size w (w.alloc (.cells #[.string f, .string t] 29)) := below_alloc (Below.refl _ _) _
 go_wp2_with (go_at_call 46; refine (key_RightRange.calls f t false _ ((rr_eq f t).trans (by rw [hr]))).mono ?_; rintro e w1 ⟨rfl, hB1⟩; have f1 := below_step f0 hB1; clear hB1)
 go_ret2
 exact ⟨rfl, f1⟩
theorem len_any {w : World} {p b n c : Nat} {last : Int} {F : Int → Option X} (h : Tb w p b last n F c) :
  Calls Try.prog 19 #[.pointer (some ⟨p, 0, none⟩)] w fun e w' => e = .returned (.int .i64 c) ∧ w' = w := by
 have hus := Try.underlying88
 have c1 := blk_cell h.blk 1
 simp at c1
 have hT := h.map
 clear h
 go_enter Try.func19, Try.ntmps19
 go_wp2_with (refine lenOf w rfl _ rfl b n F c rfl hT ?_)
 go_ret
 exact ⟨rfl, rfl⟩
theorem find_none {w : World} {p b n c : Nat} {last : Int} {F : Int → Option X} (h : Tb w p b last n F c) (k : Int) (hk : (Lit.int .i64 k).wf = true) (hF : F k = none) :
  Calls Try.prog 47 #[.pointer (some ⟨p, 0, none⟩), .int .i64 k] w fun e w' => e = .returned (.tuple #[.agg #[.string ⟨#[]⟩, .string ⟨#[]⟩, .bool false], .int .i64 11]) ∧ Below w.heap.size w w' := by
 have hus := Try.underlying88
 have hur := Try.underlying29
 have hux := Try.underlying106
 have hl := blk_lt h.blk
 go_enter Try.func47, Try.ntmps47
 have hT1 : Aside (Tb (w.alloc (.cells #[.string ⟨#[]⟩, .string ⟨#[]⟩, .bool false] 106)) p b last n F c) := h.fr (B := []) ((Fr.refl _ _).alloc _) (by simp) (by simp)
 have hB1 : Below w.heap.size w (w.alloc (.cells #[.string ⟨#[]⟩, .string ⟨#[]⟩, .bool false] 106)) := below_alloc (Below.refl _ _) _
 have hT1' := hT1.out.map
 have c1 := blk_cell hT1.out.blk 1
 simp at c1
 clear h
 have hA : Aside (F k = none) := hF
 clear hF
 go_wp2_with (refine look _ rfl _ _ rfl b n F c rfl hT1' k rfl hk ?_; rw [hA.out]; simp only [Option.getD_none, Option.isSome_none, Option.getD_some, Option.isSome_some, restV, x0, e0])
 refine bodyPost_ret (results_ct rfl _ _ w.heap.size 106 _ (0, 0) _ rfl (blk_alloc (blk_new _ _) _) hux rfl (by kernel_rfl)) rfl ?_
 exact ⟨rfl, below_alloc hB1 _⟩
theorem find_some {w : World} {p b n c : Nat} {last : Int} {F : Int → Option X} (h : Tb w p b last n F c) (k : Int) (hk : (Lit.int .i64 k).wf = true) (f t : ByteArray) (d : Bool) (hF : F k = some (f, t, d)) :
  Calls Try.prog 47 #[.pointer (some ⟨p, 0, none⟩), .int .i64 k] w fun e w' => e = .returned (.tuple #[.agg #[.string f, .string t, .bool d], .int .i64 0]) ∧ Below w.heap.size w w' := by
 have hus := Try.underlying88
 have hur := Try.underlying29
 have hux := Try.underlying106
 have hl := blk_lt h.blk
 go_enter Try.func47, Try.ntmps47
 have hT1 : Aside (Tb (w.alloc (.cells #[.string ⟨#[]⟩, .string ⟨#[]⟩, .bool false] 106)) p b last n F c) := h.fr (B := []) ((Fr.refl _ _).alloc _) (by simp) (by simp)
 have hB1 : Below w.heap.size w (w.alloc (.cells #[.string ⟨#[]⟩, .string ⟨#[]⟩, .bool false] 106)) := below_alloc (Below.refl _ _) _
 have hT1' := hT1.out.map
 have c1 := blk_cell hT1.out.blk 1
 simp at c1
 clear h
 have hA : Aside (F k = some (f, t, d)) := hF
 clear hF
 go_wp2_with (refine look _ rfl _ _ rfl b n F c rfl hT1' k rfl hk ?_; rw [hA.out]; simp only [Option.getD_none, Option.isSome_none, Option.getD_some, Option.isSome_some, restV, x0, e0])
 refine bodyPost_ret (results_ct rfl _ _ w.heap.size 106 #[.string f, .string t, .bool d] (0, 0) _ rfl ?_ hux rfl (by kernel_rfl)) rfl ?_
 ·exact blk_alloc (blk_new _ _) _
 ·exact ⟨rfl, below_alloc (below_alloc (Below.refl _ _) _) _⟩
theorem left_some {w : World} {p b n c : Nat} {last : Int} {F : Int → Option X} (h : Tb w p b last n F c) (k : Int) (hk : (Lit.int .i64 k).wf = true) (f t : ByteArray) (d : Bool) (hF : F k = some (f, t, d)) :
  Calls Try.prog 16 #[.pointer (some ⟨p, 0, none⟩), .int .i64 k] w fun e w' => e = .returned (.tuple #[.agg #[.string f, .string t], .bool d, .int .i64 0]) ∧ Below w.heap.size w w' := by
 have hur := Try.underlying29
 have hux := Try.underlying106
 have hT1 : Tb (w.alloc (.cells #[.string ⟨#[]⟩, .string ⟨#[]⟩] 29)) p b last n F c := h.fr (B := []) ((Fr.refl _ _).alloc _) (by simp) (by simp)
 have hB1 : Below w.heap.size w (w.alloc (.cells #[.string ⟨#[]⟩, .string ⟨#[]⟩] 29)) := below_alloc (Below.refl _ _) _
 have hfind := find_some hT1 k hk f t d hF
 clear h hT1
 go_enter Try.func16, Try.ntmps16
 go_wp2_with (go_at_call 47; refine hfind.mono ?_; clear hfind; rintro e w1 ⟨rfl, hB2⟩; have hb1 := blk_below (blk_new w (.cells #[.string ⟨#[]⟩, .string ⟨#[]⟩] 29)) hB2; have hB3 := below_step hB1 hB2; have hlt : w1.heap.size ≠ w.heap.size := (by have := hB2.size; simp at this; omega); clear hB1 hB2)
 have hb2 : (w1.alloc (.cells #[.string f, .string t, .bool d] 106)).heap[w.heap.size]? = some (.cells #[.string ⟨#[]⟩, .string ⟨#[]⟩] 29 (0, 0)) := blk_alloc hb1 _
 have hn2 := blk_new w1 (.cells #[.string f, .string t, .bool d] 106)
 have hB4 : Below w.heap.size w (w1.alloc (.cells #[.string f, .string t, .bool d] 106)) := below_alloc hB3 _
 clear hb1 hB3
 generalize w1.alloc (.cells #[.string f, .string t, .bool d] 106) = W at hb2 hn2 hB4 ⊢
 have c0 := blk_cell hn2 0
 have c1 := blk_cell hn2 1
 have c2 := blk_cell hn2 2
 have d0 := blk_cell hb2 0
 have d1 := blk_cell hb2 1
 have z0 := blk_frozen hb2 0
 have z1 := blk_frozen hb2 1
 simp at c0 c1 c2 d0 d1
 have hA1 := Aside0.mk hb2
 have hA2 := Aside0.mk hB4
 clear hb2 hn2 hB4
 have hne : w1.heap.size ≠ w.heap.size := hlt
 go_region_held3 (fun w' => w'.cell? ⟨w1.heap.size, 0, none⟩ = some (.string f) ∧ w'.cell? ⟨w1.heap.size, 1, none⟩ = some (.string t) ∧ w'.cell? ⟨w1.heap.size, 2, none⟩ = some (.bool d)) (first | assumption | exact ⟨c0, c1, c2⟩ | (simp [World.cell?_setCell_other, hne, hne.symm, c0, c1, c2]; done)) (fail)
 go_wp2_with fail
 refine bodyPost_ret (results_ctt rfl _ _ w.heap.size 29 #[.string f, .string t] (0, 0) _ rfl ?_ hur rfl (by kernel_rfl)) rfl ?_
 ·exact blk_set (blk_set (blk_drew hA1.out) 0 _) 1 _
 ·exact ⟨rfl, below_set (below_set (below_drew1 hA2.out) (Nat.le_refl _)) (Nat.le_refl _)⟩
theorem close_none {w : World} {p b n c : Nat} {last : Int} {F : Int → Option X} (h : Tb w p b last n F c) (k : Int) (hk : (Lit.int .i64 k).wf = true) (hF : F k = none) :
  Calls Try.prog 18 #[.pointer (some ⟨p, 0, none⟩), .int .i64 k] w fun e w' => e = .returned (.int .i64 11) ∧ Below w.heap.size w w' := by
 have hux := Try.underlying106
 have hur := Try.underlying29
 have hfind := find_none h k hk hF
 clear h
 go_enter Try.func18, Try.ntmps18
 go_wp2_with (go_at_call 47; refine hfind.mono ?_; clear hfind; rintro e w1 ⟨rfl, hB2⟩)
 go_ret
 exact ⟨rfl, below_alloc hB2 _⟩
theorem close_some {w : World} {p b n c : Nat} {last : Int} {F : Int → Option X} (h : Tb w p b last n F c) (k : Int) (hk : (Lit.int .i64 k).wf = true) (f t : ByteArray) (d : Bool) (hF : F k = some (f, t, d)) :
  Calls Try.prog 18 #[.pointer (some ⟨p, 0, none⟩), .int .i64 k] w fun e w' => e = .returned (.int .i64 0) ∧ (∀ c', c' + 1 = c → Tb w' p b last n (upd F k none) c') ∧ Fr [b] w w' := by
 have hux := Try.underlying106
 have hur := Try.underlying29
 have hus := Try.underlying88
 have hne := h.ne
 have hfind := find_some h k hk f t d hF
 have hA := Aside0.mk hF
 clear hF
 go_enter Try.func18, Try.ntmps18
 go_wp2_with (first
  | (go_at_call 47; refine hfind.mono ?_; clear hfind; rintro e w1 ⟨rfl, hB2⟩; have hT : Aside (Tb (w1.alloc (.cells #[.string f, .string t, .bool d] 106)) p b last n F c) := h.fr (B := []) (Fr.of_below (below_alloc hB2 _)) (by simp) (by simp); have f1 : Fr [b] w (w1.alloc (.cells #[.string f, .string t, .bool d] 106)) := Fr.of_below (below_alloc hB2 _); have hM := hT.out.map; have c1 := blk_cell hT.out.blk 1; simp at c1; clear h hB2)
  | (refine drop _ rfl _ _ rfl b n F c rfl hM k rfl hk (fun w4 hT4 f4 => ?_)))
 go_ret
 have h1 := hT4
 rw [hA.out] at h1
 simp only [Option.isSome_some, if_true] at h1
 exact ⟨rfl, fun c' hc => ⟨f4.blk hT.out.blk (by simpa using hne), h1 c' hc⟩, f1.trans f4 (fun x hx => .inl hx)⟩
end Go.Proofs.Ytljnlnbopohghaa.Cur
end
section
namespace Go.Proofs.Ytljnlnbopohghaa.Cur
open Go Go.RowKit Go.Maps Go.Proofs.YtljnlnbopohghaaW.PrintWords Go.Proofs.YtljnlnbopohghaaW.PrintLast Go.Proofs.YtljnlnbopohghaaW.PrintMore Go.Proofs.Ytljnlnbopohghaa.Own Go.Proofs.Ytljnlnbopohghaa.Ord Go.Proofs.Ytljnlnbopohghaa.P
set_option maxHeartbeats 2000000
set_option maxRecDepth 100000
abbrev En := P.S103
def ltB (a b : ByteArray) : Bool := Op.bytesLess a.toList b.toList
def holdsB (f t s : ByteArray) : Bool := !ltB s f && rrB s t
theorem ahead_eq (a b : ByteArray) : key_ahead.f a b = some (rrB a b) := by
 unfold key_ahead.f rrB
 split <;> rfl
theorem holds_any (f t s : ByteArray) (w : World) : Calls Try.prog 51 #[.agg #[.string f, .string t], .string s] w fun e w' => e = .returned (.bool (holdsB f t s)) ∧ Below w.heap.size w w' := by
 have hur := Try.underlying29
 obtain ⟨r, hr⟩ : ∃ r, r = holdsB f t s := ⟨_, rfl⟩
 rw [← hr]
 obtain ⟨q, hq⟩ : ∃ q, q = rrB s t := ⟨_, rfl⟩
 unfold holdsB ltB at hr
 rw [← hq] at hr
 have ha : key_ahead.f s t = some q := by rw [hq]; exact ahead_eq s t
 have hB0 : Below w.heap.size w (w.alloc (.cells #[.string f, .string t] 29)) := below_alloc (Below.refl _ _) _
 clear hq
 cases hl : Op.bytesLess s.toList f.toList
 ·rw [hl] at hr
  simp at hr
  subst hr
  go_enter Try.func51, Try.ntmps51
  go_wp2_with (go_at_call 78; refine (key_ahead.calls s t r _ ha).mono ?_; rintro e w1 ⟨rfl, hB1'⟩; have hB1 := hB1'.below; clear hB1')
  go_ret
  exact ⟨by simp, below_step hB0 hB1⟩
 ·rw [hl] at hr
  simp at hr
  subst hr
  go_enter Try.func51, Try.ntmps51
  go_wp2
  go_ret
  exact ⟨rfl, hB0⟩
theorem closure_any {w : World} {B : Nat} {f t : ByteArray} {d : Bool} (hx : w.heap[B]? = some (.cells #[.string f, .string t, .bool d] 106 (0, 0))) (s v : ByteArray) :
  Calls Try.prog 50 #[.agg #[.string s, .string v], .pointer (some ⟨B, 0, none⟩)] w fun e w' => e = .returned (.bool !holdsB f t s) ∧ Below w.heap.size w w' := by
 have hur := Try.underlying29
 have hux := Try.underlying106
 have hue := Try.underlying103
 obtain ⟨r, hr⟩ : ∃ r, r = holdsB f t s := ⟨_, rfl⟩
 have HH := fun W => holds_any f t s W
 rw [← hr] at HH
 rw [← hr]
 clear hr
 have hB0 : Below w.heap.size w (w.alloc (.cells #[.string s, .string v] 103)) := below_alloc (Below.refl _ _) _
 have hx1 : (w.alloc (.cells #[.string s, .string v] 103)).heap[B]? = _ := blk_alloc hx _
 have c0 := blk_cell hx1 0
 have c1 := blk_cell hx1 1
 simp at c0 c1
 go_enter Try.func50, Try.ntmps50
 go_wp2_with (go_at_call 51; refine (HH _).mono ?_; clear HH; rintro e w1 ⟨rfl, hB1⟩)
 go_ret
 exact ⟨rfl, below_step hB0 hB1⟩
theorem at_E {w : World} {A : Option Addr} {n : Nat} {xs : List En} (h : Kd.C P.k103 w A n xs) (i : Int) (h0 : 0 ≤ i) (h1 : i < n) : ∃ ad, ∃ x : En, A = some ad ∧ xs[i.toNat]? = some x ∧ w.cell? (ad.add (i.toNat * 2)) = some (.string x.f0) ∧
  w.cell? ⟨(ad.add (i.toNat * 2)).block, (ad.add (i.toNat * 2)).off + 1, none⟩ = some (.string x.f1) := by
 obtain ⟨ad, c, e, _, hK, hc0⟩ := Kd.C_get h P.z103 i h0 h1
 have hc : ∀ j u, c[j]? = some u → w.cell? (ad.add (i.toNat * 2 + j)) = some u := hc0
 obtain rfl := P.k103_open hK
 have hl := h.1
 refine ⟨ad, _, e, ?_, hc 0 _ rfl, by rw [← add_field _ _ 1 (by omega)]; exact hc 1 _ rfl⟩
 rw [List.getD_eq_getElem?_getD, List.getElem?_eq_getElem (by omega)]
 rfl
theorem index_any {w : World} {B : Nat} {f t : ByteArray} {d : Bool} (hx : w.heap[B]? = some (.cells #[.string f, .string t, .bool d] 106 (0, 0))) {A : Option Addr} {c : Nat} {l : List En} (hC : Kd.C P.k103 w A l.length l) (hcap : l.length ≤ c) :
  Calls Try.prog 79 #[.slice A l.length c, .func (.func 50) #[] #[.pointer (some ⟨B, 0, none⟩)]] w fun e w' => (∃ i : Int, e = .returned (.int .i64 i) ∧ (0 ≤ i) = (l.any (fun y => !holdsB f t y.f0) = true)) ∧ Below w.heap.size w w' := by
 have hmax := Kd.C_max hC
 have hue := Try.underlying103
 go_enter Try.func79, Try.ntmps79
 go_wp2
 go_loopg [8] l.length (fun g iv wr => ∃ j : Int, iv = .int .i64 j ∧ Aside (0 ≤ j ∧ j.toNat + g = l.length ∧ (l.take j.toNat).any (fun y => !holdsB f t y.f0) = false) ∧ Below w.heap.size w wr)
 case atStart => exact ⟨0, rfl, ⟨Int.le_refl _, by simp, by simp⟩, Below.refl _ _⟩
 case round =>
  obtain ⟨j, rfl, hj, hB⟩ := hrel
  obtain ⟨h0, hg, hno⟩ := hj.out
  have hnoA := Aside0.mk hno
  clear hno hj
  cases gk with
  | zero =>
   have d0 : decide (j < (l.length : Int)) = false := decide_eq_false (by omega)
   go_wp2
   go_ret
   refine ⟨⟨-1, rfl, ?_⟩, hB⟩
   have := hnoA.out
   rw [show j.toNat = l.length by omega, List.take_length] at this
   rw [this]
   simp
  | succ g =>
   have hlt : j < (l.length : Int) := by omega
   have d0 := decide_eq_true hlt
   have d1 := decide_eq_true h0
   have p0 := eq_true h0
   have p1 := eq_true hlt
   obtain ⟨ad, x, rfl, hxj, q0, q1⟩ := at_E (Kd.C_below hC hB) j h0 hlt
   have hwi : wrap64 (j + 1) = j + 1 := IntWalk.wrap64_in _ (by omega)
   have CC := closure_any (blk_below hx hB) x.f0 x.f1
   have hsplit : (l.take (j + 1).toNat).any (fun y => !holdsB f t y.f0) = ((l.take j.toNat).any (fun y => !holdsB f t y.f0) || !holdsB f t x.f0) := by
    rw [show (j + 1).toNat = j.toNat + 1 by omega, List.take_add_one, hxj]
    simp
   cases hh : holdsB f t x.f0
   ·rw [hh] at CC
    have hall : l.any (fun y => !holdsB f t y.f0) = true := List.any_eq_true.2 ⟨x, List.mem_of_getElem? hxj, by rw [hh]; rfl⟩
    have hA := Aside0.mk hall
    clear hh hsplit hxj hall hC hx
    go_wp2_with (go_at_call 50; refine CC.mono ?_; clear CC; rintro e w1 ⟨rfl, hB1⟩)
    go_ret
    exact ⟨⟨j, rfl, by rw [hA.out]; simp [h0]⟩, below_step hB hB1⟩
   ·rw [hh] at CC hsplit
    have hA := Aside0.mk hsplit
    have hxA := Aside0.mk hx
    have hCA := Aside0.mk hC
    clear hh hsplit hxj hC hx
    go_wp2_with (go_at_call 50; refine CC.mono ?_; clear CC; rintro e w1 ⟨rfl, hB1⟩)
    go_roundg g
    case measure => omega
    case rel => exact ⟨j + 1, rfl, ⟨by omega, by omega, by rw [hA.out, hnoA.out]; rfl⟩, below_step hB hB1⟩
theorem contains_any {w : World} {B : Nat} {f t : ByteArray} {d : Bool} (hx : w.heap[B]? = some (.cells #[.string f, .string t, .bool d] 106 (0, 0))) {A : Option Addr} {c : Nat} {l : List En} (hC : Kd.C P.k103 w A l.length l) (hcap : l.length ≤ c) :
  Calls Try.prog 49 #[.slice A l.length c, .func (.func 50) #[] #[.pointer (some ⟨B, 0, none⟩)]] w fun e w' => e = .returned (.bool (l.any (fun y => !holdsB f t y.f0))) ∧ Below w.heap.size w w' := by
 have HI := index_any hx hC hcap
 clear hx hC
 generalize l.any (fun y => !holdsB f t y.f0) = r at HI ⊢
 go_enter Try.func49, Try.ntmps49
 go_wp2_with (go_at_call 79; refine HI.mono ?_; clear HI; rintro e w1 ⟨⟨i, rfl, hi⟩, hB1⟩; have hi2 := Aside0.mk hi; clear hi)
 go_ret
 refine ⟨?_, hB1⟩
 have h3 := hi2.out
 cases r <;> simp_all
end Go.Proofs.Ytljnlnbopohghaa.Cur
end
section
namespace Go.Proofs.Ytljnlnbopohghaa.Cur
open Go Go.RowKit Go.Maps Go.Proofs.YtljnlnbopohghaaW.PrintWords Go.Proofs.YtljnlnbopohghaaW.PrintLast Go.Proofs.YtljnlnbopohghaaW.PrintMore Go.Proofs.Ytljnlnbopohghaa.Own Go.Proofs.Ytljnlnbopohghaa.Ord Go.Proofs.Ytljnlnbopohghaa.P
set_option maxHeartbeats 2000000
set_option maxRecDepth 100000
theorem took_none {w : World} {p b n c : Nat} {last : Int} {F : Int → Option X} (h : Tb w p b last n F c) (k : Int) (hk : (Lit.int .i64 k).wf = true) {A : Option Addr} {cl : Nat} {l : List En} (hC : Kd.C P.k103 w A l.length l) (hcap : l.length ≤ cl) (most : Int) (hF : F k = none) :
  Calls Try.prog 17 #[.pointer (some ⟨p, 0, none⟩), .int .i64 k, .slice A l.length cl, .int .i64 most] w fun e w' => e = .returned (.tuple #[.bool false, .int .i64 11]) ∧ Below w.heap.size w w' := by
 have hur := Try.underlying29
 have hux := Try.underlying106
 have hus := Try.underlying88
 have hue := Try.underlying103
 have hfind := find_none h k hk hF
 clear h hC
 go_enter Try.func17, Try.ntmps17
 go_wp2_with (go_at_call 47; refine hfind.mono ?_; clear hfind; rintro e w1 ⟨rfl, hB1⟩; have hBF := below_alloc hB1 (.cells #[.string ⟨#[]⟩, .string ⟨#[]⟩, .bool false] 106))
 go_ret2
 exact ⟨rfl, hBF⟩
theorem took_state {w : World} {p b n c : Nat} {last : Int} {F : Int → Option X} (h : Tb w p b last n F c) (k : Int) (hk : (Lit.int .i64 k).wf = true) {A : Option Addr} {cl : Nat} {l : List En} (hC : Kd.C P.k103 w A l.length l) (hcap : l.length ≤ cl) (most : Int) (f t : ByteArray) (hF : F k = some (f, t, true)) (h1 : 0 < l.length) :
  Calls Try.prog 17 #[.pointer (some ⟨p, 0, none⟩), .int .i64 k, .slice A l.length cl, .int .i64 most] w fun e w' => e = .returned (.tuple #[.bool false, .int .i64 15]) ∧ Below w.heap.size w w' := by
 have hur := Try.underlying29
 have hux := Try.underlying106
 have hus := Try.underlying88
 have hue := Try.underlying103
 have hfind := find_some h k hk f t true hF
 have d1 : decide ((0 : Int) < (l.length : Int)) = true := decide_eq_true (by omega)
 clear h hC
 go_enter Try.func17, Try.ntmps17
 go_wp2_with (go_at_call 47; refine hfind.mono ?_; clear hfind; rintro e w1 ⟨rfl, hB1⟩; have hBF := below_alloc hB1 (.cells #[.string f, .string t, .bool true] 106))
 go_ret2
 exact ⟨rfl, hBF⟩
theorem took_arg_true {w : World} {p b n c : Nat} {last : Int} {F : Int → Option X} (h : Tb w p b last n F c) (k : Int) (hk : (Lit.int .i64 k).wf = true) {A : Option Addr} {cl : Nat} (hC : Kd.C P.k103 w A ([] : List En).length []) (most : Int) (f t : ByteArray) (hF : F k = some (f, t, true)) (h2 : most < 1) :
  Calls Try.prog 17 #[.pointer (some ⟨p, 0, none⟩), .int .i64 k, .slice A 0 cl, .int .i64 most] w fun e w' => e = .returned (.tuple #[.bool false, .int .i64 2]) ∧ Below w.heap.size w w' := by
 have hur := Try.underlying29
 have hux := Try.underlying106
 have hus := Try.underlying88
 have hue := Try.underlying103
 have hfind := find_some h k hk f t true hF
 have d2 : decide (most < 1) = true := decide_eq_true h2
 clear h hC
 go_enter Try.func17, Try.ntmps17
 go_wp2_with (go_at_call 47; refine hfind.mono ?_; clear hfind; rintro e w1 ⟨rfl, hB1⟩; have hBF := below_alloc hB1 (.cells #[.string f, .string t, .bool true] 106))
 go_ret2
 exact ⟨rfl, hBF⟩
theorem took_arg_false {w : World} {p b n c : Nat} {last : Int} {F : Int → Option X} (h : Tb w p b last n F c) (k : Int) (hk : (Lit.int .i64 k).wf = true) {A : Option Addr} {cl : Nat} {l : List En} (hC : Kd.C P.k103 w A l.length l) (hcap : l.length ≤ cl) (most : Int) (f t : ByteArray) (hF : F k = some (f, t, false)) (h2 : most < 1) :
  Calls Try.prog 17 #[.pointer (some ⟨p, 0, none⟩), .int .i64 k, .slice A l.length cl, .int .i64 most] w fun e w' => e = .returned (.tuple #[.bool false, .int .i64 2]) ∧ Below w.heap.size w w' := by
 have hur := Try.underlying29
 have hux := Try.underlying106
 have hus := Try.underlying88
 have hue := Try.underlying103
 have hfind := find_some h k hk f t false hF
 have d2 : decide (most < 1) = true := decide_eq_true h2
 clear h hC
 go_enter Try.func17, Try.ntmps17
 go_wp2_with (go_at_call 47; refine hfind.mono ?_; clear hfind; rintro e w1 ⟨rfl, hB1⟩; have hBF := below_alloc hB1 (.cells #[.string f, .string t, .bool false] 106))
 go_ret2
 exact ⟨rfl, hBF⟩
theorem took_limit_false {w : World} {p b n c : Nat} {last : Int} {F : Int → Option X} (h : Tb w p b last n F c) (k : Int) (hk : (Lit.int .i64 k).wf = true) {A : Option Addr} {cl : Nat} {l : List En} (hC : Kd.C P.k103 w A l.length l) (hcap : l.length ≤ cl) (most : Int) (f t : ByteArray) (hF : F k = some (f, t, false)) (h2 : 1 ≤ most) (h3 : most < l.length) :
  Calls Try.prog 17 #[.pointer (some ⟨p, 0, none⟩), .int .i64 k, .slice A l.length cl, .int .i64 most] w fun e w' => e = .returned (.tuple #[.bool false, .int .i64 4]) ∧ Below w.heap.size w w' := by
 have hur := Try.underlying29
 have hux := Try.underlying106
 have hus := Try.underlying88
 have hue := Try.underlying103
 have hfind := find_some h k hk f t false hF
 have d2 : decide (most < 1) = false := decide_eq_false (by omega)
 have d3 : decide (most < (l.length : Int)) = true := decide_eq_true h3
 clear h hC
 go_enter Try.func17, Try.ntmps17
 go_wp2_with (go_at_call 47; refine hfind.mono ?_; clear hfind; rintro e w1 ⟨rfl, hB1⟩; have hBF := below_alloc hB1 (.cells #[.string f, .string t, .bool false] 106))
 go_ret2
 exact ⟨rfl, hBF⟩
theorem took_rise_false {w : World} {p b n c : Nat} {last : Int} {F : Int → Option X} (h : Tb w p b last n F c) (k : Int) (hk : (Lit.int .i64 k).wf = true) {A : Option Addr} {cl : Nat} {l : List En} (hC : Kd.C P.k103 w A l.length l) (hcap : l.length ≤ cl) (most : Int) (f t : ByteArray) (hF : F k = some (f, t, false)) (h2 : 1 ≤ most) (h3 : l.length ≤ most) (kr : Nat) (hri : fold_Rises.f kr l = some false) :
  Calls Try.prog 17 #[.pointer (some ⟨p, 0, none⟩), .int .i64 k, .slice A l.length cl, .int .i64 most] w fun e w' => e = .returned (.tuple #[.bool false, .int .i64 16]) ∧ Below w.heap.size w w' := by
 have hur := Try.underlying29
 have hux := Try.underlying106
 have hus := Try.underlying88
 have hue := Try.underlying103
 have hfind := find_some h k hk f t false hF
 have d2 : decide (most < 1) = false := decide_eq_false (by omega)
 have d3 : decide (most < (l.length : Int)) = false := decide_eq_false (by omega)
 clear h
 go_enter Try.func17, Try.ntmps17
 go_wp2_with (first
  | (go_at_call 47; refine hfind.mono ?_; clear hfind; rintro e w1 ⟨rfl, hB1⟩; have hBF := below_alloc hB1 (.cells #[.string f, .string t, .bool false] 106))
  | (go_at_call 48; refine (fold_Rises.calls kr A cl l false _ (Kd.C_below hC hBF) hcap hri).mono ?_; rintro e w2 ⟨rfl, hD⟩; have hx2 := blk_below (blk_new w1 (.cells #[.string f, .string t, .bool false] 106)) hD.below; have hB2 := below_step hBF hD.below; clear hBF hB1 hD; have hBF := hB2; clear hB2))
 go_ret2
 exact ⟨rfl, hBF⟩
theorem took_order_false {w : World} {p b n c : Nat} {last : Int} {F : Int → Option X} (h : Tb w p b last n F c) (k : Int) (hk : (Lit.int .i64 k).wf = true) {A : Option Addr} {cl : Nat} {l : List En} (hC : Kd.C P.k103 w A l.length l) (hcap : l.length ≤ cl) (most : Int) (f t : ByteArray) (hF : F k = some (f, t, false)) (h2 : 1 ≤ most) (h3 : l.length ≤ most) (kr : Nat) (hri : fold_Rises.f kr l = some true) (hany : Aside (l.any (fun y => !holdsB f t y.f0) = true)) :
  Calls Try.prog 17 #[.pointer (some ⟨p, 0, none⟩), .int .i64 k, .slice A l.length cl, .int .i64 most] w fun e w' => e = .returned (.tuple #[.bool false, .int .i64 16]) ∧ Below w.heap.size w w' := by
 have hur := Try.underlying29
 have hux := Try.underlying106
 have hus := Try.underlying88
 have hue := Try.underlying103
 have hfind := find_some h k hk f t false hF
 have d2 : decide (most < 1) = false := decide_eq_false (by omega)
 have d3 : decide (most < (l.length : Int)) = false := decide_eq_false (by omega)
 clear h
 go_enter Try.func17, Try.ntmps17
 go_wp2_with (first
  | (go_at_call 47; refine hfind.mono ?_; clear hfind; rintro e w1 ⟨rfl, hB1⟩; have hBF := below_alloc hB1 (.cells #[.string f, .string t, .bool false] 106))
  | (go_at_call 48; refine (fold_Rises.calls kr A cl l true _ (Kd.C_below hC hBF) hcap hri).mono ?_; rintro e w2 ⟨rfl, hD⟩; have hx2 := blk_below (blk_new w1 (.cells #[.string f, .string t, .bool false] 106)) hD.below; have hB2 := below_step hBF hD.below; clear hBF hB1 hD; have hBF := hB2; clear hB2)
  | (go_at_call 49; refine (contains_any hx2 (Kd.C_below hC hBF) hcap).mono ?_; rw [hany.out]; rintro e w3 ⟨rfl, hB3⟩; have hx3 := blk_below hx2 hB3; have hB4 := below_step hBF hB3; clear hBF hB3 hx2; have hBF := hB4; clear hB4))
 go_ret2
 exact ⟨rfl, hBF⟩
end Go.Proofs.Ytljnlnbopohghaa.Cur
end
