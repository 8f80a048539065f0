/- Texts of one claim (laid by shake.py). -/
import Derived.Test.YtljnlnbopohghaaProg
import Derived.Test.YtljnlnbopohghaaZCf0
import Derived.StillTailTactics
section
namespace Go.Proofs.Ytljnlnbopohghaa.Ord
open Go.RowKit Go.Proofs.YtljnlnbopohghaaW.PrintWords Go.Proofs.YtljnlnbopohghaaW.PrintLast
structure Fr (B : List Nat) (w w' : World) : Prop where
 os : w'.os = w.os
 tape : w'.tape = w.tape
 output : w'.output = w.output
 size : w.heap.size ≤ w'.heap.size
 block : ∀ k, k < w.heap.size → k ∉ B → w'.heap[k]? = w.heap[k]?
namespace Fr
theorem refl (B : List Nat) (w : World) : Fr B w w := ⟨rfl, rfl, rfl, Nat.le_refl _, fun _ _ _ => rfl⟩
theorem of_below {B : List Nat} {w w' : World} (h : Below w.heap.size w w') : Fr B w w' := ⟨h.os, h.tape, h.output, h.size, fun k hk _ => h.block k hk⟩
theorem wide {B B' : List Nat} {w w' : World} (h : Fr B w w') (hB : ∀ k ∈ B, k ∈ B' ∨ w.heap.size ≤ k) : Fr B' w w' :=
 ⟨h.os, h.tape, h.output, h.size, fun k hk hn => h.block k hk (fun hb => by rcases hB k hb with h1 | h1; exact hn h1; omega)⟩
theorem trans {B C : List Nat} {w w1 w2 : World} (h : Fr B w w1) (k : Fr C w1 w2) (hC : ∀ x ∈ C, x ∈ B ∨ w.heap.size ≤ x) : Fr B w w2 :=
 ⟨k.os.trans h.os, k.tape.trans h.tape, k.output.trans h.output, Nat.le_trans h.size k.size, fun x hx hn =>
  (k.block x (Nat.lt_of_lt_of_le hx h.size) (fun hc => by rcases hC x hc with h1 | h1; exact hn h1; omega)).trans (h.block x hx hn)⟩
theorem drewN {B : List Nat} {w w' : World} (h : Fr B w w') (n : Nat) : Fr B w (w'.drewN n) := ⟨h.os, h.tape, h.output, h.size, h.block⟩
theorem drew {B : List Nat} {w w' : World} (h : Fr B w w') : Fr B w w'.drew := ⟨h.os, h.tape, h.output, h.size, h.block⟩
theorem set {B : List Nat} {w w' : World} (h : Fr B w w') {b i : Nat} (hb : b ∈ B ∨ w.heap.size ≤ b) (u : Value) : Fr B w (w'.setCell ⟨b, i, none⟩ u) := by
 have h2 := (Below.refl 0 w').setCell (p := ⟨b, i, none⟩) (Nat.zero_le _) u
 exact ⟨h2.os.trans h.os, h2.tape.trans h.tape, h2.output.trans h.output, Nat.le_trans h.size h2.size, fun x hx hn => by
  rw [Below.heap_setCell w' ⟨b, i, none⟩ u x (by rintro rfl; rcases hb with h1 | h1; exact hn h1; exact absurd hx (by simpa using h1))]
  exact h.block x hx hn⟩
theorem alloc {B : List Nat} {w w' : World} (h : Fr B w w') (o : Obj) : Fr B w (w'.alloc o) := by
 have h2 := (Below.refl w'.heap.size w').alloc (Nat.le_refl _) o
 exact h.trans (of_below (B := []) h2) (fun x hx => by cases hx)
theorem below {B : List Nat} {w w' : World} {base : Nat} (h : Fr B w w') (hB : ∀ k ∈ B, base ≤ k) (hb : base ≤ w.heap.size) : Below base w w' :=
 ⟨h.os, h.tape, h.output, h.size, fun k hk => h.block k (by omega) (fun hm => by have := hB k hm; omega)⟩
theorem blk {B : List Nat} {w w' : World} (h : Fr B w w') {g : Nat} {o : Obj} (hg : w.heap[g]? = some o) (hn : g ∉ B) : w'.heap[g]? = some o := (h.block g (blk_lt hg) hn).trans hg
end Fr
theorem still_tail {P : Program} {id : Nat} {Q : Exit → Act → World → Prop} {a : Act} {w : World} {l : List Oper} (n : Nat) (hm : P.follows .mixedOrders = true) (hB : Region.lexTailB .any l.toArray n = true)
  (h : ∀ W, W = w.drew → wpStill P l.toArray W (fun a' => wpList P l.toArray Q (l.drop n) a' W) (l.take n) a) : (Code.region id l.toArray true).wp P Q a w :=
 wp_region_still_tail n hm hB (h _ rfl)
theorem still_all {P : Program} {id : Nat} {Q : Exit → Act → World → Prop} {a : Act} {w : World} {l : List Oper} (hm : P.follows .mixedOrders = true) (hB : Region.lexB .any l.toArray = true)
  (h : ∀ W, W = w.drew → wpStill P l.toArray W (fun a' => Q .normal a' W) l a) : (Code.region id l.toArray true).wp P Q a w :=
 wp_region_still_lit hm hB (h _ rfl)
inductive Kn (K V : Type) where
 | nil : Kn K V
 | node (b : Nat) (k : K) (v : V) (l r : Kn K V) : Kn K V
namespace Kn
variable {K V : Type}
def adr : Kn K V → Option Addr
 | nil => none
 | node b _ _ _ _ => some ⟨b, 0, none⟩
def bs : Kn K V → List Nat
 | nil => []
 | node b _ _ l r => b :: (l.bs ++ r.bs)
def hgt : Kn K V → Int
 | nil => 0
 | node _ _ _ l r => 1 + mx l.hgt r.hgt
def cnt : Kn K V → Int
 | nil => 0
 | node _ _ _ l r => 1 + l.cnt + r.cnt
def toL : Kn K V → List (K × V)
 | nil => []
 | node _ k v l r => l.toL ++ (k, v) :: r.toL
theorem bounds : ∀ T : Kn K V, 0 ≤ T.hgt ∧ T.hgt ≤ T.cnt
 | nil => by simp [hgt, cnt]
 | node _ _ _ l r => by
  have := bounds l; have := bounds r
  simp only [hgt, cnt, mx]
  split <;> omega
theorem cnt_len : ∀ T : Kn K V, T.cnt = T.toL.length
 | nil => rfl
 | node _ _ _ l r => by simp only [cnt, toL, List.length_append, List.length_cons, cnt_len l, cnt_len r]; omega
theorem bs_len : ∀ T : Kn K V, T.bs.length = T.toL.length
 | nil => rfl
 | node _ _ _ l r => by simp only [bs, toL, List.length_append, List.length_cons, bs_len l, bs_len r]; omega
def up : Kn K V → Kn K V
 | node b k v l (node hb hk hv hl hr) => node hb hk hv (node b k v l hl) hr
 | T => T
def down : Kn K V → Kn K V
 | node b k v (node lb lk lv ll lr) r => node lb lk lv ll (node b k v lr r)
 | T => T
def even (b : Nat) (k : K) (v : V) (l r : Kn K V) : Kn K V :=
 if l.hgt - r.hgt > 1 then
  match l with
  | node _ _ _ ll lr => if ll.hgt < lr.hgt then down (node b k v (up l) r) else down (node b k v l r)
  | nil => node b k v l r
 else if l.hgt - r.hgt < -1 then
  match r with
  | node _ _ _ rl rr => if rr.hgt < rl.hgt then up (node b k v l (down r)) else up (node b k v l r)
  | nil => node b k v l r
 else node b k v l r
theorem up_bs : ∀ T : Kn K V, (up T).bs.Perm T.bs
 | nil => .refl _
 | node _ _ _ _ nil => .refl _
 | node b k v l (node hb hk hv hl hr) => by
  rw [List.perm_iff_count]; intro a
  simp only [up, bs, List.count_cons, List.count_append]; omega
theorem down_bs : ∀ T : Kn K V, (down T).bs.Perm T.bs
 | nil => .refl _
 | node _ _ _ nil _ => .refl _
 | node b k v (node lb lk lv ll lr) r => by
  rw [List.perm_iff_count]; intro a
  simp only [down, bs, List.count_cons, List.count_append]; omega
theorem perm_left {b : Nat} {k : K} {v : V} {l l' r : Kn K V} (h : l'.bs.Perm l.bs) : (node b k v l' r).bs.Perm (node b k v l r).bs := (h.append_right _).cons _
theorem perm_right {b : Nat} {k : K} {v : V} {l r r' : Kn K V} (h : r'.bs.Perm r.bs) : (node b k v l r').bs.Perm (node b k v l r).bs := (h.append_left _).cons _
theorem even_bs (b : Nat) (k : K) (v : V) (l r : Kn K V) : (even b k v l r).bs.Perm (node b k v l r).bs := by
 unfold even
 split
 ·split
  ·split
   ·exact (down_bs _).trans (perm_left (up_bs _))
   exact down_bs _
  exact .refl _
 split
 ·split
  ·split
   ·exact (up_bs _).trans (perm_right (down_bs _))
   exact up_bs _
  exact .refl _
 exact .refl _
def cmpK (lt : K → K → Bool) (a b : K) : Int := if lt a b = true then -1 else if lt b a = true then 1 else 0
def put (lt : K → K → Bool) (nb : Nat) (key : K) (val : V) : Kn K V → Kn K V
 | nil => node nb key val nil nil
 | node b k v l r => if lt key k = true then even b k v (put lt nb key val l) r else if lt k key = true then even b k v l (put lt nb key val r) else node b k val l r
theorem cnt_bs (T : Kn K V) : T.cnt = T.bs.length := by rw [cnt_len, bs_len]
def least : Nat → K → V → Kn K V → Kn K V → Kn K V × (Nat × K × V × Kn K V)
 | b, k, v, nil, r => (r, (b, k, v, r))
 | b, k, v, node lb lk lv ll lr, r => let x := least lb lk lv ll lr; (even b k v x.1 r, x.2)
def drop (lt : K → K → Bool) (key : K) : Kn K V → Kn K V
 | nil => nil
 | node b k v l r =>
  if lt key k = true then even b k v (drop lt key l) r
  else if lt k key = true then even b k v l (drop lt key r)
  else match r with
   | nil => l
   | node rb rk rv rl rr => let x := least rb rk rv rl rr; even x.2.1 x.2.2.1 x.2.2.2.1 l x.1
theorem least_bs : ∀ (b : Nat) (k : K) (v : V) (l r : Kn K V), ((least b k v l r).2.1 :: (least b k v l r).1.bs).Perm (node b k v l r).bs
 | b, k, v, nil, r => by simp [least, bs]
 | b, k, v, node lb lk lv ll lr, r => by
  have h := least_bs lb lk lv ll lr
  have h2 := even_bs b k v (least lb lk lv ll lr).1 r
  rw [List.perm_iff_count] at h h2 ⊢
  intro a
  have := h a; have := h2 a
  simp only [least, bs, List.count_cons, List.count_append] at *
  omega
theorem least_out {b lb : Nat} {k lk : K} {v lv : V} {ll lr r : Kn K V} (h : (node b k v (node lb lk lv ll lr) r).bs.Nodup) :
  (node b k v (least lb lk lv ll lr).1 r).bs.Nodup ∧ (least lb lk lv ll lr).2.1 ∉ (node b k v (least lb lk lv ll lr).1 r).bs ∧ (∀ x ∈ (least lb lk lv ll lr).1.bs, x ∈ (node lb lk lv ll lr).bs) ∧ (least lb lk lv ll lr).2.1 ∈ (node lb lk lv ll lr).bs := by
 have p := least_bs lb lk lv ll lr
 have q : ((least lb lk lv ll lr).2.1 :: (node b k v (least lb lk lv ll lr).1 r).bs).Perm (node b k v (node lb lk lv ll lr) r).bs := by
  rw [List.perm_iff_count] at p ⊢
  intro a
  have := p a
  simp only [bs, List.count_cons, List.count_append] at *
  omega
 have n := q.nodup_iff.2 h
 rw [List.nodup_cons] at n
 exact ⟨n.2, n.1, fun x hx => p.mem_iff.1 (List.mem_cons_of_mem _ hx), p.mem_iff.1 (List.mem_cons_self)⟩
theorem least_cnt (b : Nat) (k : K) (v : V) (l r : Kn K V) : (least b k v l r).1.cnt + 1 = (node b k v l r).cnt := by
 rw [cnt_bs, cnt_bs, ← (least_bs b k v l r).length_eq, List.length_cons]; omega
theorem least_nodup {b : Nat} {k : K} {v : V} {l r : Kn K V} (h : (node b k v l r).bs.Nodup) : (least b k v l r).1.bs.Nodup ∧ (least b k v l r).2.1 ∉ (least b k v l r).1.bs := by
 have := (least_bs b k v l r).nodup_iff.2 h
 rw [List.nodup_cons] at this
 exact ⟨this.2, this.1⟩
theorem drop_count (lt : K → K → Bool) (key : K) : ∀ (T : Kn K V) (a : Nat), (drop lt key T).bs.count a ≤ T.bs.count a
 | nil, a => by simp [drop, bs]
 | node b k v l r, a => by
  unfold drop
  split
  ·have h2 := List.perm_iff_count.1 (even_bs b k v (drop lt key l) r) a
   have := drop_count lt key l a
   rw [h2]; simp only [bs, List.count_cons, List.count_append]; omega
  split
  ·have h2 := List.perm_iff_count.1 (even_bs b k v l (drop lt key r)) a
   have := drop_count lt key r a
   rw [h2]; simp only [bs, List.count_cons, List.count_append]; omega
  cases r with
  | nil => simp only [bs, List.count_cons, List.count_append]; omega
  | node rb rk rv rl rr =>
   have h := List.perm_iff_count.1 (least_bs rb rk rv rl rr) a
   have h2 := List.perm_iff_count.1 (even_bs (least rb rk rv rl rr).2.1 (least rb rk rv rl rr).2.2.1 (least rb rk rv rl rr).2.2.2.1 l (least rb rk rv rl rr).1) a
   simp only
   rw [h2]
   simp only [bs, List.count_cons, List.count_append] at *
   omega
theorem drop_mem {lt : K → K → Bool} {key : K} {T : Kn K V} {x : Nat} (h : x ∈ (drop lt key T).bs) : x ∈ T.bs := by
 have := drop_count lt key T x
 have := List.count_pos_iff.2 h
 exact List.count_pos_iff.1 (by omega)
theorem even_cnt (b : Nat) (k : K) (v : V) (l r : Kn K V) : (even b k v l r).cnt = 1 + l.cnt + r.cnt := by
 rw [cnt_bs, (even_bs b k v l r).length_eq, ← cnt_bs]; rfl
theorem drop_cnt (lt : K → K → Bool) (key : K) : ∀ T : Kn K V, (drop lt key T).cnt ≤ T.cnt
 | nil => by simp [drop]
 | node b k v l r => by
  have h1 := drop_cnt lt key l
  have h2 := drop_cnt lt key r
  have := bounds l
  have := bounds r
  unfold drop
  split
  ·rw [even_cnt]; simp only [cnt]; omega
  split
  ·rw [even_cnt]; simp only [cnt]; omega
  cases r with
  | nil => simp only [cnt] at *; omega
  | node rb rk rv rl rr =>
   have := least_cnt rb rk rv rl rr
   simp only
   rw [even_cnt]
   simp only [cnt] at *
   omega
theorem drop_left_nodup {lt : K → K → Bool} {key k : K} {b : Nat} {v : V} {l r : Kn K V} (h : (node b k v l r).bs.Nodup) : (node b k v (drop lt key l) r).bs.Nodup := by
 rw [List.nodup_iff_count] at h ⊢
 intro a
 have := h a
 have := drop_count lt key l a
 simp only [bs, List.count_cons, List.count_append] at *
 omega
theorem drop_right_nodup {lt : K → K → Bool} {key k : K} {b : Nat} {v : V} {l r : Kn K V} (h : (node b k v l r).bs.Nodup) : (node b k v l (drop lt key r)).bs.Nodup := by
 rw [List.nodup_iff_count] at h ⊢
 intro a
 have := h a
 have := drop_count lt key r a
 simp only [bs, List.count_cons, List.count_append] at *
 omega
theorem join_nodup {b rb : Nat} {k rk : K} {v rv : V} {l rl rr : Kn K V} (h : (node b k v l (node rb rk rv rl rr)).bs.Nodup) (k' : K) (v' : V) : (node (least rb rk rv rl rr).2.1 k' v' l (least rb rk rv rl rr).1).bs.Nodup := by
 have p := least_bs rb rk rv rl rr
 rw [List.perm_iff_count] at p
 rw [List.nodup_iff_count] at h ⊢
 intro a
 have := h a
 have := p a
 simp only [bs, List.count_cons, List.count_append] at *
 omega
end Kn
end Go.Proofs.Ytljnlnbopohghaa.Ord
end
