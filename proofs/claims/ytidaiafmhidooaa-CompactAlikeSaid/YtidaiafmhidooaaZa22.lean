/- Texts of one claim (laid by shake.py). -/
import Derived.Test.YtidaiafmhidooaaProg
import Derived.Test.YtidaiafmhidooaaZa1
import Derived.StillTailTactics
import Derived.Test.YtidaiafmhidooaaZa2
set_option linter.unusedVariables false
set_option linter.unusedSimpArgs false
section
namespace Go.Proofs.Ytidaiafmhidooaa.Ord
open Go.RowKit Go.Proofs.YtidaiafmhidooaaW.PrintWords Go.Proofs.YtidaiafmhidooaaW.PrintLast
structure Fr (B : List Nat) (w w' : World) : Prop where
 os : w'.os = w.os
 tape : w'.tape = w.tape
 output : w'.output = w.output
 size : w.heap.size ≤ w'.heap.size
 block : ∀ k, k < w.heap.size → k ∉ B → w'.heap[k]? = w.heap[k]?
namespace Fr
theorem refl (B : List Nat) (w : World) : Fr B w w := ⟨rfl, rfl, rfl, Nat.le_refl _, fun _ _ _ => rfl⟩
theorem of_below {B : List Nat} {w w' : World} (h : Below w.heap.size w w') : Fr B w w' := ⟨h.os, h.tape, h.output, h.size, fun k hk _ => h.block k hk⟩
theorem wide {B B' : List Nat} {w w' : World} (h : Fr B w w') (hB : ∀ k ∈ B, k ∈ B' ∨ w.heap.size ≤ k) : Fr B' w w' :=
 ⟨h.os, h.tape, h.output, h.size, fun k hk hn => h.block k hk (fun hb => by rcases hB k hb with h1 | h1; exact hn h1; omega)⟩
theorem trans {B C : List Nat} {w w1 w2 : World} (h : Fr B w w1) (k : Fr C w1 w2) (hC : ∀ x ∈ C, x ∈ B ∨ w.heap.size ≤ x) : Fr B w w2 :=
 ⟨k.os.trans h.os, k.tape.trans h.tape, k.output.trans h.output, Nat.le_trans h.size k.size, fun x hx hn =>
  (k.block x (Nat.lt_of_lt_of_le hx h.size) (fun hc => by rcases hC x hc with h1 | h1; exact hn h1; omega)).trans (h.block x hx hn)⟩
theorem drewN {B : List Nat} {w w' : World} (h : Fr B w w') (n : Nat) : Fr B w (w'.drewN n) := ⟨h.os, h.tape, h.output, h.size, h.block⟩
theorem drew {B : List Nat} {w w' : World} (h : Fr B w w') : Fr B w w'.drew := ⟨h.os, h.tape, h.output, h.size, h.block⟩
theorem set {B : List Nat} {w w' : World} (h : Fr B w w') {b i : Nat} (hb : b ∈ B ∨ w.heap.size ≤ b) (u : Value) : Fr B w (w'.setCell ⟨b, i, none⟩ u) := by
 have h2 := (Below.refl 0 w').setCell (p := ⟨b, i, none⟩) (Nat.zero_le _) u
 exact ⟨h2.os.trans h.os, h2.tape.trans h.tape, h2.output.trans h.output, Nat.le_trans h.size h2.size, fun x hx hn => by
  rw [Below.heap_setCell w' ⟨b, i, none⟩ u x (by rintro rfl; rcases hb with h1 | h1; exact hn h1; exact absurd hx (by simpa using h1))]
  exact h.block x hx hn⟩
theorem alloc {B : List Nat} {w w' : World} (h : Fr B w w') (o : Obj) : Fr B w (w'.alloc o) := by
 have h2 := (Below.refl w'.heap.size w').alloc (Nat.le_refl _) o
 exact h.trans (of_below (B := []) h2) (fun x hx => by cases hx)
theorem below {B : List Nat} {w w' : World} {base : Nat} (h : Fr B w w') (hB : ∀ k ∈ B, base ≤ k) (hb : base ≤ w.heap.size) : Below base w w' :=
 ⟨h.os, h.tape, h.output, h.size, fun k hk => h.block k (by omega) (fun hm => by have := hB k hm; omega)⟩
theorem blk {B : List Nat} {w w' : World} (h : Fr B w w') {g : Nat} {o : Obj} (hg : w.heap[g]? = some o) (hn : g ∉ B) : w'.heap[g]? = some o := (h.block g (blk_lt hg) hn).trans hg
end Fr
theorem still_tail {P : Program} {id : Nat} {Q : Exit → Act → World → Prop} {a : Act} {w : World} {l : List Oper} (n : Nat) (hm : P.follows .mixedOrders = true) (hB : Region.lexTailB .any l.toArray n = true)
  (h : ∀ W, W = w.drew → wpStill P l.toArray W (fun a' => wpList P l.toArray Q (l.drop n) a' W) (l.take n) a) : (Code.region id l.toArray true).wp P Q a w :=
 wp_region_still_tail n hm hB (h _ rfl)
theorem still_all {P : Program} {id : Nat} {Q : Exit → Act → World → Prop} {a : Act} {w : World} {l : List Oper} (hm : P.follows .mixedOrders = true) (hB : Region.lexB .any l.toArray = true)
  (h : ∀ W, W = w.drew → wpStill P l.toArray W (fun a' => Q .normal a' W) l a) : (Code.region id l.toArray true).wp P Q a w :=
 wp_region_still_lit hm hB (h _ rfl)
inductive Kn (K V : Type) where
 | nil : Kn K V
 | node (b : Nat) (k : K) (v : V) (l r : Kn K V) : Kn K V
namespace Kn
variable {K V : Type}
def adr : Kn K V → Option Addr
 | nil => none
 | node b _ _ _ _ => some ⟨b, 0, none⟩
def bs : Kn K V → List Nat
 | nil => []
 | node b _ _ l r => b :: (l.bs ++ r.bs)
def hgt : Kn K V → Int
 | nil => 0
 | node _ _ _ l r => 1 + mx l.hgt r.hgt
def cnt : Kn K V → Int
 | nil => 0
 | node _ _ _ l r => 1 + l.cnt + r.cnt
def toL : Kn K V → List (K × V)
 | nil => []
 | node _ k v l r => l.toL ++ (k, v) :: r.toL
theorem bounds : ∀ T : Kn K V, 0 ≤ T.hgt ∧ T.hgt ≤ T.cnt
 | nil => by simp [hgt, cnt]
 | node _ _ _ l r => by
  have := bounds l; have := bounds r
  simp only [hgt, cnt, mx]
  split <;> omega
theorem cnt_len : ∀ T : Kn K V, T.cnt = T.toL.length
 | nil => rfl
 | node _ _ _ l r => by simp only [cnt, toL, List.length_append, List.length_cons, cnt_len l, cnt_len r]; omega
theorem bs_len : ∀ T : Kn K V, T.bs.length = T.toL.length
 | nil => rfl
 | node _ _ _ l r => by simp only [bs, toL, List.length_append, List.length_cons, bs_len l, bs_len r]; omega
def up : Kn K V → Kn K V
 | node b k v l (node hb hk hv hl hr) => node hb hk hv (node b k v l hl) hr
 | T => T
def down : Kn K V → Kn K V
 | node b k v (node lb lk lv ll lr) r => node lb lk lv ll (node b k v lr r)
 | T => T
def even (b : Nat) (k : K) (v : V) (l r : Kn K V) : Kn K V :=
 if l.hgt - r.hgt > 1 then
  match l with
  | node _ _ _ ll lr => if ll.hgt < lr.hgt then down (node b k v (up l) r) else down (node b k v l r)
  | nil => node b k v l r
 else if l.hgt - r.hgt < -1 then
  match r with
  | node _ _ _ rl rr => if rr.hgt < rl.hgt then up (node b k v l (down r)) else up (node b k v l r)
  | nil => node b k v l r
 else node b k v l r
theorem up_toL : ∀ T : Kn K V, (up T).toL = T.toL
 | nil => rfl
 | node _ _ _ _ nil => rfl
 | node _ _ _ _ (node ..) => by simp [up, toL]
theorem down_toL : ∀ T : Kn K V, (down T).toL = T.toL
 | nil => rfl
 | node _ _ _ nil _ => rfl
 | node _ _ _ (node ..) _ => by simp [down, toL]
theorem up_bs : ∀ T : Kn K V, (up T).bs.Perm T.bs
 | nil => .refl _
 | node _ _ _ _ nil => .refl _
 | node b k v l (node hb hk hv hl hr) => by
  rw [List.perm_iff_count]; intro a
  simp only [up, bs, List.count_cons, List.count_append]; omega
theorem down_bs : ∀ T : Kn K V, (down T).bs.Perm T.bs
 | nil => .refl _
 | node _ _ _ nil _ => .refl _
 | node b k v (node lb lk lv ll lr) r => by
  rw [List.perm_iff_count]; intro a
  simp only [down, bs, List.count_cons, List.count_append]; omega
theorem perm_left {b : Nat} {k : K} {v : V} {l l' r : Kn K V} (h : l'.bs.Perm l.bs) : (node b k v l' r).bs.Perm (node b k v l r).bs := (h.append_right _).cons _
theorem perm_right {b : Nat} {k : K} {v : V} {l r r' : Kn K V} (h : r'.bs.Perm r.bs) : (node b k v l r').bs.Perm (node b k v l r).bs := (h.append_left _).cons _
theorem even_bs (b : Nat) (k : K) (v : V) (l r : Kn K V) : (even b k v l r).bs.Perm (node b k v l r).bs := by
 unfold even
 split
 ·split
  ·split
   ·exact (down_bs _).trans (perm_left (up_bs _))
   ·exact down_bs _
  ·exact .refl _
 ·split
  ·split
   ·split
    ·exact (up_bs _).trans (perm_right (down_bs _))
    ·exact up_bs _
   ·exact .refl _
  ·exact .refl _
theorem even_toL (b : Nat) (k : K) (v : V) (l r : Kn K V) : (even b k v l r).toL = l.toL ++ (k, v) :: r.toL := by
 unfold even
 split
 ·split
  ·split
   ·rw [down_toL]; simp only [toL]; rw [up_toL]; simp [toL]
   ·rw [down_toL]; rfl
  ·rfl
 ·split
  ·split
   ·split
    ·rw [up_toL]; simp only [toL]; rw [down_toL]; simp [toL]
    ·rw [up_toL]; rfl
   ·rfl
  ·rfl
def cmpK (lt : K → K → Bool) (a b : K) : Int := if lt a b = true then -1 else if lt b a = true then 1 else 0
def put (lt : K → K → Bool) (nb : Nat) (key : K) (val : V) : Kn K V → Kn K V
 | nil => node nb key val nil nil
 | node b k v l r => if lt key k = true then even b k v (put lt nb key val l) r else if lt k key = true then even b k v l (put lt nb key val r) else node b k val l r
theorem put_bs (lt : K → K → Bool) (nb : Nat) (key : K) (val : V) : ∀ T : Kn K V, (put lt nb key val T).bs.Perm (nb :: T.bs) ∨ (put lt nb key val T).bs.Perm T.bs
 | nil => .inl (.refl _)
 | node b k v l r => by
  unfold put
  split
  ·rcases put_bs lt nb key val l with h | h
   ·exact .inl ((even_bs _ _ _ _ _).trans ((perm_left (l' := put lt nb key val l) (l := node nb key val l nil) (by simpa [bs] using h)).trans (by
     rw [List.perm_iff_count]; intro a; simp only [bs, List.count_cons, List.count_append, List.count_nil]; omega)))
   ·exact .inr ((even_bs _ _ _ _ _).trans (perm_left h))
  ·split
   ·rcases put_bs lt nb key val r with h | h
    ·exact .inl ((even_bs _ _ _ _ _).trans ((perm_right (r' := put lt nb key val r) (r := node nb key val r nil) (by simpa [bs] using h)).trans (by
      rw [List.perm_iff_count]; intro a; simp only [bs, List.count_cons, List.count_append, List.count_nil]; omega)))
    ·exact .inr ((even_bs _ _ _ _ _).trans (perm_right h))
   ·exact .inr (.refl _)
theorem cnt_bs (T : Kn K V) : T.cnt = T.bs.length := by rw [cnt_len, bs_len]
theorem put_mem {lt : K → K → Bool} {nb : Nat} {key : K} {val : V} {T : Kn K V} {x : Nat} (h : x ∈ (put lt nb key val T).bs) : x = nb ∨ x ∈ T.bs := by
 rcases put_bs lt nb key val T with p | p
 ·simpa using p.mem_iff.1 h
 ·exact .inr (p.mem_iff.1 h)
theorem put_nodup {lt : K → K → Bool} {nb : Nat} {key : K} {val : V} {T : Kn K V} (h : T.bs.Nodup) (hn : nb ∉ T.bs) : (put lt nb key val T).bs.Nodup := by
 rcases put_bs lt nb key val T with p | p
 ·exact p.nodup_iff.2 (List.nodup_cons.2 ⟨hn, h⟩)
 ·exact p.nodup_iff.2 h
theorem put_cnt (lt : K → K → Bool) (nb : Nat) (key : K) (val : V) (T : Kn K V) : (put lt nb key val T).cnt ≤ T.cnt + 1 := by
 rw [cnt_bs, cnt_bs]
 rcases put_bs lt nb key val T with p | p
 ·rw [p.length_eq, List.length_cons]; omega
 ·rw [p.length_eq]; omega
theorem put_left_nodup {lt : K → K → Bool} {nb b : Nat} {key k : K} {val v : V} {l r : Kn K V} (h : (node b k v l r).bs.Nodup) (hn : nb ∉ (node b k v l r).bs) : (node b k v (put lt nb key val l) r).bs.Nodup := by
 rcases put_bs lt nb key val l with p | p
 ·have q : (node b k v (put lt nb key val l) r).bs.Perm (nb :: (node b k v l r).bs) :=
   (perm_left (l' := put lt nb key val l) (l := node nb key val l nil) (by simpa [bs] using p)).trans (by
    rw [List.perm_iff_count]; intro a; simp only [bs, List.count_cons, List.count_append, List.count_nil]; omega)
  exact q.nodup_iff.2 (List.nodup_cons.2 ⟨hn, h⟩)
 ·exact (perm_left p).nodup_iff.2 h
theorem put_right_nodup {lt : K → K → Bool} {nb b : Nat} {key k : K} {val v : V} {l r : Kn K V} (h : (node b k v l r).bs.Nodup) (hn : nb ∉ (node b k v l r).bs) : (node b k v l (put lt nb key val r)).bs.Nodup := by
 rcases put_bs lt nb key val r with p | p
 ·have q : (node b k v l (put lt nb key val r)).bs.Perm (nb :: (node b k v l r).bs) :=
   (perm_right (r' := put lt nb key val r) (r := node nb key val r nil) (by simpa [bs] using p)).trans (by
    rw [List.perm_iff_count]; intro a; simp only [bs, List.count_cons, List.count_append, List.count_nil]; omega)
  exact q.nodup_iff.2 (List.nodup_cons.2 ⟨hn, h⟩)
 ·exact (perm_right p).nodup_iff.2 h
def find (lt : K → K → Bool) (key : K) : Kn K V → Kn K V
 | nil => nil
 | node b k v l r => if lt key k = true then find lt key l else if lt k key = true then find lt key r else node b k v l r
def least : Nat → K → V → Kn K V → Kn K V → Kn K V × (Nat × K × V × Kn K V)
 | b, k, v, nil, r => (r, (b, k, v, r))
 | b, k, v, node lb lk lv ll lr, r => let x := least lb lk lv ll lr; (even b k v x.1 r, x.2)
def drop (lt : K → K → Bool) (key : K) : Kn K V → Kn K V
 | nil => nil
 | node b k v l r =>
  if lt key k = true then even b k v (drop lt key l) r
  else if lt k key = true then even b k v l (drop lt key r)
  else match r with
   | nil => l
   | node rb rk rv rl rr => let x := least rb rk rv rl rr; even x.2.1 x.2.2.1 x.2.2.2.1 l x.1
theorem least_bs : ∀ (b : Nat) (k : K) (v : V) (l r : Kn K V), ((least b k v l r).2.1 :: (least b k v l r).1.bs).Perm (node b k v l r).bs
 | b, k, v, nil, r => by simp [least, bs]
 | b, k, v, node lb lk lv ll lr, r => by
  have h := least_bs lb lk lv ll lr
  have h2 := even_bs b k v (least lb lk lv ll lr).1 r
  rw [List.perm_iff_count] at h h2 ⊢
  intro a
  have := h a; have := h2 a
  simp only [least, bs, List.count_cons, List.count_append] at *
  omega
theorem least_out {b lb : Nat} {k lk : K} {v lv : V} {ll lr r : Kn K V} (h : (node b k v (node lb lk lv ll lr) r).bs.Nodup) :
  (node b k v (least lb lk lv ll lr).1 r).bs.Nodup ∧ (least lb lk lv ll lr).2.1 ∉ (node b k v (least lb lk lv ll lr).1 r).bs ∧ (∀ x ∈ (least lb lk lv ll lr).1.bs, x ∈ (node lb lk lv ll lr).bs) ∧ (least lb lk lv ll lr).2.1 ∈ (node lb lk lv ll lr).bs := by
 have p := least_bs lb lk lv ll lr
 have q : ((least lb lk lv ll lr).2.1 :: (node b k v (least lb lk lv ll lr).1 r).bs).Perm (node b k v (node lb lk lv ll lr) r).bs := by
  rw [List.perm_iff_count] at p ⊢
  intro a
  have := p a
  simp only [bs, List.count_cons, List.count_append] at *
  omega
 have n := q.nodup_iff.2 h
 rw [List.nodup_cons] at n
 exact ⟨n.2, n.1, fun x hx => p.mem_iff.1 (List.mem_cons_of_mem _ hx), p.mem_iff.1 (List.mem_cons_self)⟩
theorem least_cnt (b : Nat) (k : K) (v : V) (l r : Kn K V) : (least b k v l r).1.cnt + 1 = (node b k v l r).cnt := by
 rw [cnt_bs, cnt_bs, ← (least_bs b k v l r).length_eq, List.length_cons]; omega
theorem least_nodup {b : Nat} {k : K} {v : V} {l r : Kn K V} (h : (node b k v l r).bs.Nodup) : (least b k v l r).1.bs.Nodup ∧ (least b k v l r).2.1 ∉ (least b k v l r).1.bs := by
 have := (least_bs b k v l r).nodup_iff.2 h
 rw [List.nodup_cons] at this
 exact ⟨this.2, this.1⟩
theorem drop_count (lt : K → K → Bool) (key : K) : ∀ (T : Kn K V) (a : Nat), (drop lt key T).bs.count a ≤ T.bs.count a
 | nil, a => by simp [drop, bs]
 | node b k v l r, a => by
  unfold drop
  split
  ·have h2 := List.perm_iff_count.1 (even_bs b k v (drop lt key l) r) a
   have := drop_count lt key l a
   rw [h2]; simp only [bs, List.count_cons, List.count_append]; omega
  ·split
   ·have h2 := List.perm_iff_count.1 (even_bs b k v l (drop lt key r)) a
    have := drop_count lt key r a
    rw [h2]; simp only [bs, List.count_cons, List.count_append]; omega
   ·cases r with
    | nil => simp only [bs, List.count_cons, List.count_append]; omega
    | node rb rk rv rl rr =>
     have h := List.perm_iff_count.1 (least_bs rb rk rv rl rr) a
     have h2 := List.perm_iff_count.1 (even_bs (least rb rk rv rl rr).2.1 (least rb rk rv rl rr).2.2.1 (least rb rk rv rl rr).2.2.2.1 l (least rb rk rv rl rr).1) a
     simp only
     rw [h2]
     simp only [bs, List.count_cons, List.count_append] at *
     omega
theorem drop_mem {lt : K → K → Bool} {key : K} {T : Kn K V} {x : Nat} (h : x ∈ (drop lt key T).bs) : x ∈ T.bs := by
 have := drop_count lt key T x
 have := List.count_pos_iff.2 h
 exact List.count_pos_iff.1 (by omega)
theorem drop_nodup {lt : K → K → Bool} {key : K} {T : Kn K V} (h : T.bs.Nodup) : (drop lt key T).bs.Nodup :=
 List.nodup_iff_count.2 (fun a => Nat.le_trans (drop_count lt key T a) (List.nodup_iff_count.1 h a))
theorem even_cnt (b : Nat) (k : K) (v : V) (l r : Kn K V) : (even b k v l r).cnt = 1 + l.cnt + r.cnt := by
 rw [cnt_bs, (even_bs b k v l r).length_eq, ← cnt_bs]; rfl
theorem drop_cnt (lt : K → K → Bool) (key : K) : ∀ T : Kn K V, (drop lt key T).cnt ≤ T.cnt
 | nil => by simp [drop]
 | node b k v l r => by
  have h1 := drop_cnt lt key l
  have h2 := drop_cnt lt key r
  have := bounds l
  have := bounds r
  unfold drop
  split
  ·rw [even_cnt]; simp only [cnt]; omega
  ·split
   ·rw [even_cnt]; simp only [cnt]; omega
   ·cases r with
    | nil => simp only [cnt] at *; omega
    | node rb rk rv rl rr =>
     have := least_cnt rb rk rv rl rr
     simp only
     rw [even_cnt]
     simp only [cnt] at *
     omega
theorem drop_left_nodup {lt : K → K → Bool} {key k : K} {b : Nat} {v : V} {l r : Kn K V} (h : (node b k v l r).bs.Nodup) : (node b k v (drop lt key l) r).bs.Nodup := by
 rw [List.nodup_iff_count] at h ⊢
 intro a
 have := h a
 have := drop_count lt key l a
 simp only [bs, List.count_cons, List.count_append] at *
 omega
theorem drop_right_nodup {lt : K → K → Bool} {key k : K} {b : Nat} {v : V} {l r : Kn K V} (h : (node b k v l r).bs.Nodup) : (node b k v l (drop lt key r)).bs.Nodup := by
 rw [List.nodup_iff_count] at h ⊢
 intro a
 have := h a
 have := drop_count lt key r a
 simp only [bs, List.count_cons, List.count_append] at *
 omega
theorem join_nodup {b rb : Nat} {k rk : K} {v rv : V} {l rl rr : Kn K V} (h : (node b k v l (node rb rk rv rl rr)).bs.Nodup) (k' : K) (v' : V) : (node (least rb rk rv rl rr).2.1 k' v' l (least rb rk rv rl rr).1).bs.Nodup := by
 have p := least_bs rb rk rv rl rr
 rw [List.perm_iff_count] at p
 rw [List.nodup_iff_count] at h ⊢
 intro a
 have := h a
 have := p a
 simp only [bs, List.count_cons, List.count_append] at *
 omega
end Kn
end Go.Proofs.Ytidaiafmhidooaa.Ord
end
section
namespace Go.Proofs.Ytidaiafmhidooaa.OrdSs
open Go.RowKit Go.Proofs.YtidaiafmhidooaaW.PrintWords Go.Proofs.YtidaiafmhidooaaW.PrintLast Go.Proofs.YtidaiafmhidooaaW.PrintMore Go.Proofs.Ytidaiafmhidooaa.Own Go.Proofs.Ytidaiafmhidooaa.Ord
def In (w : World) : Kn ByteArray ByteArray → Prop
 | .nil => True
 | .node b k v l r => w.heap[b]? = some (.cells #[.string k, .string v, .pointer l.adr, .pointer r.adr, .int .i64 (Kn.node b k v l r).hgt, .int .i64 (Kn.node b k v l r).cnt] 117 (0, 0)) ∧ In w l ∧ In w r
theorem in_fr {w w' : World} {B : List Nat} (h : Fr B w w') : ∀ {T : Kn ByteArray ByteArray}, In w T → (∀ x ∈ T.bs, x ∉ B) → In w' T
 | .nil, _, _ => trivial
 | .node b k v l r, hi, hn => ⟨h.blk hi.1 (hn b (by simp [Kn.bs])), in_fr h hi.2.1 (fun x hx => hn x (by simp [Kn.bs, hx])), in_fr h hi.2.2 (fun x hx => hn x (by simp [Kn.bs, hx]))⟩
theorem in_lt {w : World} : ∀ {T : Kn ByteArray ByteArray}, In w T → ∀ x ∈ T.bs, x < w.heap.size
 | .nil, _, x, hx => by simp [Kn.bs] at hx
 | .node b k v l r, hi, x, hx => by
  simp only [Kn.bs, List.mem_cons, List.mem_append] at hx
  rcases hx with rfl | hx | hx
  ·exact blk_lt hi.1
  ·exact in_lt hi.2.1 x hx
  ·exact in_lt hi.2.2 x hx
theorem in_typed {w : World} : ∀ {T : Kn ByteArray ByteArray}, In w T → ∀ x ∈ T.bs, ∃ cells, w.heap[x]? = some (.cells cells 117 (0, 0))
 | .nil, _, x, hx => by simp [Kn.bs] at hx
 | .node b k v l r, hi, x, hx => by
  simp only [Kn.bs, List.mem_cons, List.mem_append] at hx
  rcases hx with rfl | hx | hx
  ·exact ⟨_, hi.1⟩
  ·exact in_typed hi.2.1 x hx
  ·exact in_typed hi.2.2 x hx
theorem in_drewN {w : World} (n : Nat) : ∀ {T : Kn ByteArray ByteArray}, In w T → In (w.drewN n) T
 | .nil, _ => trivial
 | .node _ _ _ _ _, hi => ⟨hi.1, in_drewN n hi.2.1, in_drewN n hi.2.2⟩
attribute [local go_sem] max2_int max_two
set_option maxHeartbeats 2000000
set_option maxRecDepth 100000
theorem depth_any (T : Kn ByteArray ByteArray) (w : World) (h : In w T) : Calls Try.prog 124 #[.pointer T.adr] w fun e w' => e = .returned (.int .i64 T.hgt) ∧ w' = w := by
 cases T with
 | nil =>
  show Calls Try.prog 124 #[.pointer none] w _
  go_enter Try.func124, Try.ntmps124
  go_wp2
  go_ret
  exact ⟨rfl, rfl⟩
 | node b k v l r =>
  show Calls Try.prog 124 #[.pointer (some ⟨b, 0, none⟩)] w _
  have c : w.cell? ⟨b, 4, none⟩ = some (.int .i64 (Kn.node b k v l r).hgt) := blk_cell h.1 4
  go_enter Try.func124, Try.ntmps124
  go_wp2
  go_ret
  exact ⟨rfl, rfl⟩
theorem size_any (T : Kn ByteArray ByteArray) (w : World) (h : In w T) : Calls Try.prog 116 #[.pointer T.adr] w fun e w' => e = .returned (.int .i64 T.cnt) ∧ w' = w := by
 cases T with
 | nil =>
  show Calls Try.prog 116 #[.pointer none] w _
  go_enter Try.func116, Try.ntmps116
  go_wp2
  go_ret
  exact ⟨rfl, rfl⟩
 | node b k v l r =>
  show Calls Try.prog 116 #[.pointer (some ⟨b, 0, none⟩)] w _
  have c : w.cell? ⟨b, 5, none⟩ = some (.int .i64 (Kn.node b k v l r).cnt) := blk_cell h.1 5
  go_enter Try.func116, Try.ntmps116
  go_wp2
  go_ret
  exact ⟨rfl, rfl⟩
theorem fresh_any (b : Nat) (k : ByteArray) (v : ByteArray) (l r : Kn ByteArray ByteArray) (d s : Int) (w : World)
  (hb : w.heap[b]? = some (.cells #[.string k, .string v, .pointer l.adr, .pointer r.adr, .int .i64 d, .int .i64 s] 117 (0, 0))) (hl : In w l) (hr : In w r) (nl : b ∉ l.bs) (nr : b ∉ r.bs) (hc : l.cnt + r.cnt < 4611686018427387904) :
  Calls Try.prog 117 #[.pointer (some ⟨b, 0, none⟩)] w fun e w' => e = .returned (.pointer (some ⟨b, 0, none⟩)) ∧ In w' (.node b k v l r) ∧ Fr [b] w w' := by
 obtain ⟨m, hm⟩ : ∃ m, m = mx l.hgt r.hgt := ⟨_, rfl⟩
 have h1 := Kn.bounds l
 have h2 := Kn.bounds r
 have hm2 : 0 ≤ m ∧ m < 4611686018427387904 := by rw [hm]; unfold mx; split <;> omega
 have hw1 : IntKind.i64.wrap (1 + m) = 1 + m := IntWalk.i64_in _ (by omega)
 have hmH : Hid (m = mx l.hgt r.hgt) := hm
 clear hm
 have hw2 : IntKind.i64.wrap (1 + l.cnt) = 1 + l.cnt := IntWalk.i64_in _ (by omega)
 have hw3 : IntKind.i64.wrap (1 + l.cnt + r.cnt) = 1 + l.cnt + r.cnt := IntWalk.i64_in _ (by omega)
 go_enter Try.func117, Try.ntmps117
 go_wp2_with fail
 refine still_tail 13 (by kernel_rfl) (by kernel_rfl) (fun W hW => ?_)
 simp only [List.take_succ_cons, List.take_zero, List.drop_succ_cons, List.drop_zero]
 have hb1 : W.heap[b]? = some (.cells #[.string k, .string v, .pointer l.adr, .pointer r.adr, .int .i64 d, .int .i64 s] 117 (0, 0)) := by rw [hW]; exact hb
 have fr1 : Fr [b] w W := by rw [hW]; exact (Fr.refl _ _).drew
 clear hW hb
 have hl1 : In W l := in_fr fr1 hl (fun x hx => by simp; rintro rfl; exact nl hx)
 have hr1 : In W r := in_fr fr1 hr (fun x hx => by simp; rintro rfl; exact nr hx)
 have c2 : W.cell? ⟨b, 2, none⟩ = some (.pointer l.adr) := blk_cell hb1 2
 have c3 : W.cell? ⟨b, 3, none⟩ = some (.pointer r.adr) := blk_cell hb1 3
 have c4 : W.cell? ⟨b, 4, none⟩ = some (.int .i64 d) := blk_cell hb1 4
 have f4 := blk_frozen hb1 4
 iterate 5 still_step
 still_call (depth_any l _ hl1)
 iterate 4 still_step
 still_call (depth_any r _ hr1)
 iterate 2 still_step
 refine wpStill_nil ?_
 simp only [show (if l.hgt < r.hgt then r.hgt else l.hgt) = m from hmH.out.symm, hw1]
 go_wp2_with fail
 refine still_tail 13 (by kernel_rfl) (by kernel_rfl) (fun W2 hW2 => ?_)
 simp only [List.take_succ_cons, List.take_zero, List.drop_succ_cons, List.drop_zero]
 have hb2 : W2.heap[b]? = some (.cells #[.string k, .string v, .pointer l.adr, .pointer r.adr, .int .i64 (1 + m), .int .i64 s] 117 (0, 0)) := by rw [hW2]; exact blk_put hb1 4 _ rfl
 have fr2 : Fr [b] W W2 := by rw [hW2]; exact ((Fr.refl _ _).set (.inl (by simp)) _).drew
 clear hW2 hb1 c2 c3 c4 f4
 have hl2 : In W2 l := in_fr fr2 hl1 (fun x hx => by simp; rintro rfl; exact nl hx)
 have hr2 : In W2 r := in_fr fr2 hr1 (fun x hx => by simp; rintro rfl; exact nr hx)
 have c2 : W2.cell? ⟨b, 2, none⟩ = some (.pointer l.adr) := blk_cell hb2 2
 have c3 : W2.cell? ⟨b, 3, none⟩ = some (.pointer r.adr) := blk_cell hb2 3
 have c5 : W2.cell? ⟨b, 5, none⟩ = some (.int .i64 s) := blk_cell hb2 5
 have f5 := blk_frozen hb2 5
 iterate 5 still_step
 still_call (size_any l _ hl2)
 iterate 5 still_step
 still_call (size_any r _ hr2)
 still_step
 refine wpStill_nil ?_
 go_wp2_with fail
 go_ret
 have fr3 : Fr [b] W2 (W2.setCell ⟨b, 5, none⟩ (.int .i64 (1 + l.cnt + r.cnt))) := (Fr.refl _ _).set (.inl (by simp)) _
 refine ⟨rfl, ⟨?_, in_fr fr3 hl2 (fun x hx => by simp; rintro rfl; exact nl hx), in_fr fr3 hr2 (fun x hx => by simp; rintro rfl; exact nr hx)⟩, (fr1.trans fr2 (fun x hx => .inl hx)).trans fr3 (fun x hx => .inl hx)⟩
 simp only [Kn.hgt, Kn.cnt, ← hmH.out]
 exact blk_put hb2 5 _ rfl
end Go.Proofs.Ytidaiafmhidooaa.OrdSs
end
section
namespace Go.Proofs.Ytidaiafmhidooaa.OrdSs
open Go.RowKit Go.Proofs.YtidaiafmhidooaaW.PrintWords Go.Proofs.YtidaiafmhidooaaW.PrintLast Go.Proofs.YtidaiafmhidooaaW.PrintMore Go.Proofs.Ytidaiafmhidooaa.Own Go.Proofs.Ytidaiafmhidooaa.Ord
def Top (w : World) (b : Nat) (k : ByteArray) (v : ByteArray) (l r : Option Addr) : Prop := ∃ d s : Int, w.heap[b]? = some (.cells #[.string k, .string v, .pointer l, .pointer r, .int .i64 d, .int .i64 s] 117 (0, 0))
theorem Top.fr {w w' : World} {B : List Nat} {b : Nat} {k : ByteArray} {v : ByteArray} {l r : Option Addr} (h : Top w b k v l r) (f : Fr B w w') (hn : b ∉ B) : Top w' b k v l r := by
  obtain ⟨d, s, h⟩ := h
  exact ⟨d, s, f.blk h hn⟩
theorem Top.low {w : World} {b : Nat} {k : ByteArray} {v : ByteArray} {l r : Option Addr} (h : Top w b k v l r) (l' : Option Addr) : Top (w.setCell ⟨b, 2, none⟩ (.pointer l')) b k v l' r := by
  obtain ⟨d, s, h⟩ := h
  exact ⟨d, s, blk_put h 2 _ rfl⟩
theorem Top.high {w : World} {b : Nat} {k : ByteArray} {v : ByteArray} {l r : Option Addr} (h : Top w b k v l r) (r' : Option Addr) : Top (w.setCell ⟨b, 3, none⟩ (.pointer r')) b k v l r' := by
  obtain ⟨d, s, h⟩ := h
  exact ⟨d, s, blk_put h 3 _ rfl⟩
theorem Top.of_in {w : World} {b : Nat} {k : ByteArray} {v : ByteArray} {l r : Kn ByteArray ByteArray} (h : In w (.node b k v l r)) : Top w b k v l.adr r.adr := ⟨_, _, h.1⟩
theorem Top.cells {w : World} {b : Nat} {k : ByteArray} {v : ByteArray} {l r : Option Addr} (h : Top w b k v l r) :
    w.cell? ⟨b, 0, none⟩ = some (.string k) ∧ w.cell? ⟨b, 1, none⟩ = some (.string v) ∧ w.cell? ⟨b, 2, none⟩ = some (.pointer l) ∧ w.cell? ⟨b, 3, none⟩ = some (.pointer r) ∧ w.frozen? ⟨b, 1, none⟩ = false ∧ w.frozen? ⟨b, 2, none⟩ = false ∧ w.frozen? ⟨b, 3, none⟩ = false := by
  obtain ⟨d, s, h⟩ := h
  exact ⟨blk_cell h 0, blk_cell h 1, blk_cell h 2, blk_cell h 3, blk_frozen h 1, blk_frozen h 2, blk_frozen h 3⟩
theorem fresh_top {b : Nat} {k : ByteArray} {v : ByteArray} {l r : Kn ByteArray ByteArray} {w : World} (hb : Top w b k v l.adr r.adr) (hl : In w l) (hr : In w r) (nl : b ∉ l.bs) (nr : b ∉ r.bs) (hc : l.cnt + r.cnt < 4611686018427387904) :
    Calls Try.prog 117 #[.pointer (some ⟨b, 0, none⟩)] w fun e w' => e = .returned (.pointer (some ⟨b, 0, none⟩)) ∧ In w' (.node b k v l r) ∧ Fr [b] w w' := by
  obtain ⟨d, s, hb⟩ := hb
  exact fresh_any b k v l r d s w hb hl hr nl nr hc
theorem set_in {w : World} {T : Kn ByteArray ByteArray} (h : In w T) {b : Nat} (hn : b ∉ T.bs) (i : Nat) (u : Value) : In (w.setCell ⟨b, i, none⟩ u) T :=
  in_fr (B := [b]) ((Fr.refl _ w).set (.inl (by simp)) u) h (fun x hx => by simp; rintro rfl; exact hn hx)
set_option maxHeartbeats 2000000
set_option maxRecDepth 100000
theorem up_any {b hb : Nat} {k hk : ByteArray} {v hv : ByteArray} {l hl hr : Kn ByteArray ByteArray} {w : World} (h1 : Top w b k v l.adr (some ⟨hb, 0, none⟩)) (h2 : Top w hb hk hv hl.adr hr.adr) (il : In w l) (ihl : In w hl) (ihr : In w hr)
    (hnd : (Kn.node b k v l (.node hb hk hv hl hr)).bs.Nodup) (hc : (Kn.node b k v l (.node hb hk hv hl hr)).cnt < 4611686018427387904) :
    Calls Try.prog 125 #[.pointer (some ⟨b, 0, none⟩)] w fun e w' => e = .returned (.pointer (some ⟨hb, 0, none⟩)) ∧ In w' (.node hb hk hv (.node b k v l hl) hr) ∧ Fr [b, hb] w w' := by
  simp only [Kn.bs, List.nodup_cons, List.nodup_append, List.mem_append, List.mem_cons, not_or] at hnd
  simp only [Kn.cnt] at hc
  obtain ⟨⟨nbl, nbh, nbhl, nbhr⟩, ndl, ⟨⟨nhhl, nhhr⟩, ndhl, ndhr, dj⟩, dl⟩ := hnd
  have nhl : hb ∉ l.bs := fun h => dl hb h hb (.inl rfl) rfl
  have := Kn.bounds l; have := Kn.bounds hl; have := Kn.bounds hr
  have b1 : l.cnt + hl.cnt < 4611686018427387904 := by omega
  have b2 : (Kn.node b k v l hl).cnt + hr.cnt < 4611686018427387904 := by simp only [Kn.cnt]; omega
  obtain ⟨c10, c11, c12, c13, f11, f12, f13⟩ := h1.cells
  obtain ⟨c20, c21, c22, c23, f21, f22, f23⟩ := h2.cells
  have W1 := fresh_top (h1.high hl.adr) (set_in il nbl 3 _) (set_in ihl nbhl 3 _) nbl nbhl b1
  have fr0 : Fr [b, hb] w (w.setCell ⟨b, 3, none⟩ (.pointer hl.adr)) := (Fr.refl _ _).set (.inl (by simp)) _
  have h2' : Top (w.setCell ⟨b, 3, none⟩ (.pointer hl.adr)) hb hk hv hl.adr hr.adr := h2.fr (B := [b]) ((Fr.refl _ _).set (.inl (by simp)) _) (by simp; exact fun e => nbh e.symm)
  have ihr' := set_in ihr nbhr 3 (.pointer hl.adr)
  clear h1 h2 il ihl ihr
  go_enter Try.func125, Try.ntmps125
  go_wp2_with (first
    | (go_at_call_of 117 (some (⟨b, 0, none⟩ : Addr))
       refine W1.mono ?_
       clear W1
       rintro e w1 ⟨rfl, hi, fr⟩
       have h3 := h2'.fr fr (by simp; exact fun e => nbh e.symm)
       have ihr1 := in_fr fr ihr' (fun x hx => by simp; rintro rfl; exact nbhr hx)
       obtain ⟨c30, c31, c32, c33, f31, f32, f33⟩ := h3.cells
       have nn : hb ∉ (Kn.node b k v l hl).bs := by simp only [Kn.bs, List.mem_cons, List.mem_append, not_or]; exact ⟨fun e => nbh e.symm, nhl, nhhl⟩
       have W2 := fresh_top (h3.low (some ⟨b, 0, none⟩)) (l := Kn.node b k v l hl) (set_in hi nn 2 _) (set_in ihr1 nhhr 2 _) nn nhhr b2
       have fr1 : Fr [b, hb] w (w1.setCell ⟨hb, 2, none⟩ (.pointer (some ⟨b, 0, none⟩))) := (fr0.trans fr (fun x hx => .inl (by simp at hx; simp [hx]))).set (.inl (by simp)) _
       clear h3 ihr1 hi)
    | (go_at_call_of 117 (some (⟨hb, 0, none⟩ : Addr))
       refine W2.mono ?_
       clear W2
       rintro e w2 ⟨rfl, hi2, fr2⟩))
  go_ret
  exact ⟨rfl, hi2, fr1.trans fr2 (fun x hx => .inl (by simp at hx; simp [hx]))⟩
theorem down_any {b lb : Nat} {k lk : ByteArray} {v lv : ByteArray} {r ll lr : Kn ByteArray ByteArray} {w : World} (h1 : Top w b k v (some ⟨lb, 0, none⟩) r.adr) (h2 : Top w lb lk lv ll.adr lr.adr) (ir : In w r) (ill : In w ll) (ilr : In w lr)
    (hnd : (Kn.node b k v (.node lb lk lv ll lr) r).bs.Nodup) (hc : (Kn.node b k v (.node lb lk lv ll lr) r).cnt < 4611686018427387904) :
    Calls Try.prog 126 #[.pointer (some ⟨b, 0, none⟩)] w fun e w' => e = .returned (.pointer (some ⟨lb, 0, none⟩)) ∧ In w' (.node lb lk lv ll (.node b k v lr r)) ∧ Fr [b, lb] w w' := by
  simp only [Kn.bs, List.nodup_cons, List.nodup_append, List.mem_append, List.mem_cons, not_or] at hnd
  simp only [Kn.cnt] at hc
  obtain ⟨⟨⟨nbh, nbll, nblr⟩, nbr⟩, ⟨⟨nlll, nllr⟩, ndll, ndlr, dj⟩, ndr, dl⟩ := hnd
  have nlr : lb ∉ r.bs := fun h => dl lb (.inl rfl) lb h rfl
  have := Kn.bounds r; have := Kn.bounds ll; have := Kn.bounds lr
  have b1 : lr.cnt + r.cnt < 4611686018427387904 := by omega
  have b2 : ll.cnt + (Kn.node b k v lr r).cnt < 4611686018427387904 := by simp only [Kn.cnt]; omega
  obtain ⟨c10, c11, c12, c13, f11, f12, f13⟩ := h1.cells
  obtain ⟨c20, c21, c22, c23, f21, f22, f23⟩ := h2.cells
  have W1 := fresh_top (h1.low lr.adr) (set_in ilr nblr 2 _) (set_in ir nbr 2 _) nblr nbr b1
  have fr0 : Fr [b, lb] w (w.setCell ⟨b, 2, none⟩ (.pointer lr.adr)) := (Fr.refl _ _).set (.inl (by simp)) _
  have h2' : Top (w.setCell ⟨b, 2, none⟩ (.pointer lr.adr)) lb lk lv ll.adr lr.adr := h2.fr (B := [b]) ((Fr.refl _ _).set (.inl (by simp)) _) (by simp; exact fun e => nbh e.symm)
  have ill' := set_in ill nbll 2 (.pointer lr.adr)
  clear h1 h2 ill ilr ir
  go_enter Try.func126, Try.ntmps126
  go_wp2_with (first
    | (go_at_call_of 117 (some (⟨b, 0, none⟩ : Addr))
       refine W1.mono ?_
       clear W1
       rintro e w1 ⟨rfl, hi, fr⟩
       have h3 := h2'.fr fr (by simp; exact fun e => nbh e.symm)
       have ill1 := in_fr fr ill' (fun x hx => by simp; rintro rfl; exact nbll hx)
       obtain ⟨c30, c31, c32, c33, f31, f32, f33⟩ := h3.cells
       have nn : lb ∉ (Kn.node b k v lr r).bs := by simp only [Kn.bs, List.mem_cons, List.mem_append, not_or]; exact ⟨fun e => nbh e.symm, nllr, nlr⟩
       have W2 := fresh_top (h3.high (some ⟨b, 0, none⟩)) (r := Kn.node b k v lr r) (set_in ill1 nlll 3 _) (set_in hi nn 3 _) nlll nn b2
       have fr1 : Fr [b, lb] w (w1.setCell ⟨lb, 3, none⟩ (.pointer (some ⟨b, 0, none⟩))) := (fr0.trans fr (fun x hx => .inl (by simp at hx; simp [hx]))).set (.inl (by simp)) _
       clear h3 ill1 hi)
    | (go_at_call_of 117 (some (⟨lb, 0, none⟩ : Addr))
       refine W2.mono ?_
       clear W2
       rintro e w2 ⟨rfl, hi2, fr2⟩))
  go_ret
  exact ⟨rfl, hi2, fr1.trans fr2 (fun x hx => .inl (by simp at hx; simp [hx]))⟩
end Go.Proofs.Ytidaiafmhidooaa.OrdSs
end
section
namespace Go.Proofs.Ytidaiafmhidooaa.OrdSs
open Go.RowKit Go.Proofs.YtidaiafmhidooaaW.PrintWords Go.Proofs.YtidaiafmhidooaaW.PrintLast Go.Proofs.YtidaiafmhidooaaW.PrintMore Go.Proofs.Ytidaiafmhidooaa.Own Go.Proofs.Ytidaiafmhidooaa.Ord
set_option maxHeartbeats 2000000
set_option maxRecDepth 100000
theorem even_a1 {b lb xb : Nat} {k lk xk : ByteArray} {v lv xv : ByteArray} {r ll xl xr : Kn ByteArray ByteArray} {w : World} (h1 : Top w b k v (some ⟨lb, 0, none⟩) r.adr) (il : In w (.node lb lk lv ll (.node xb xk xv xl xr))) (ir : In w r)
    (hnd : (Kn.node b k v (.node lb lk lv ll (.node xb xk xv xl xr)) r).bs.Nodup) (hc : (Kn.node b k v (.node lb lk lv ll (.node xb xk xv xl xr)) r).cnt < 4611686018427387904)
    (hd : 1 < (Kn.node lb lk lv ll (.node xb xk xv xl xr)).hgt - r.hgt) (hx : ll.hgt < (Kn.node xb xk xv xl xr).hgt) :
    Calls Try.prog 118 #[.pointer (some ⟨b, 0, none⟩)] w fun e w' => e = .returned (.pointer (some ⟨xb, 0, none⟩)) ∧ In w' (.node xb xk xv (.node lb lk lv ll xl) (.node b k v xr r)) ∧ Fr (Kn.node b k v (.node lb lk lv ll (.node xb xk xv xl xr)) r).bs w w' := by
  have hndL : (Kn.node lb lk lv ll (.node xb xk xv xl xr)).bs.Nodup := by
    simp only [Kn.bs, List.nodup_cons, List.nodup_append] at hnd ⊢; exact hnd.2.1
  have nbL : b ∉ (Kn.node lb lk lv ll (.node xb xk xv xl xr)).bs := by
    simp only [Kn.bs, List.nodup_cons, List.mem_append, not_or] at hnd ⊢; exact hnd.1.1
  have nbr : b ∉ r.bs := by simp only [Kn.bs, List.nodup_cons, List.mem_append, not_or] at hnd ⊢; exact hnd.1.2
  have nLr : ∀ x ∈ (Kn.node lb lk lv ll (.node xb xk xv xl xr)).bs, x ∉ r.bs := fun x hx hr => by
    have := hnd; simp only [Kn.bs, List.nodup_cons, List.nodup_append] at this hx
    exact this.2.2.2 x hx x hr rfl
  have pU : (Kn.node xb xk xv (.node lb lk lv ll xl) xr).bs.Perm (Kn.node lb lk lv ll (.node xb xk xv xl xr)).bs := Kn.up_bs (.node lb lk lv ll (.node xb xk xv xl xr))
  have hnd2 : (Kn.node b k v (.node xb xk xv (.node lb lk lv ll xl) xr) r).bs.Nodup := (Kn.perm_left pU).nodup_iff.2 hnd
  have hcL : (Kn.node lb lk lv ll (.node xb xk xv xl xr)).cnt < 4611686018427387904 := by
    have := Kn.bounds r; simp only [Kn.cnt] at hc ⊢; omega
  have hc2 : (Kn.node b k v (.node xb xk xv (.node lb lk lv ll xl) xr) r).cnt < 4611686018427387904 := by simp only [Kn.cnt] at hc ⊢; omega
  have hbL := Kn.bounds (Kn.node lb lk lv ll (.node xb xk xv xl xr))
  have hbr := Kn.bounds r
  have hbc : r.cnt < 4611686018427387904 := by simp only [Kn.cnt] at hc; have := Kn.bounds ll; have := Kn.bounds xl; have := Kn.bounds xr; omega
  have hw1 : IntKind.i64.wrap ((Kn.node lb lk lv ll (.node xb xk xv xl xr)).hgt - r.hgt) = (Kn.node lb lk lv ll (.node xb xk xv xl xr)).hgt - r.hgt := IntWalk.i64_in _ (by omega)
  obtain ⟨c10, c11, c12, c13, f11, f12, f13⟩ := h1.cells
  go_enter Try.func118, Try.ntmps118
  go_wp2_with fail
  refine still_all (by kernel_rfl) (by kernel_rfl) (fun W hW => ?_)
  have fr1 : Fr [] w W := by rw [hW]; exact (Fr.refl _ _).drew
  clear hW c10 c11 c12 c13 f11 f12 f13
  have h1 := h1.fr fr1 (by simp)
  have il := in_fr fr1 il (by simp)
  have ir := in_fr fr1 ir (by simp)
  obtain ⟨c10, c11, c12, c13, f11, f12, f13⟩ := h1.cells
  repeat still_step
  still_call (depth_any (Kn.node lb lk lv ll (.node xb xk xv xl xr)) _ il)
  repeat still_step
  still_call (depth_any r _ ir)
  repeat still_step
  refine wpStill_nil ?_
  obtain ⟨D, hD⟩ : ∃ D, D = (Kn.node lb lk lv ll (.node xb xk xv xl xr)).hgt := ⟨_, rfl⟩
  rw [← hD] at hd hw1
  simp only [← hD]
  clear hD
  go_wp2_with fail
  refine still_all (by kernel_rfl) (by kernel_rfl) (fun W2 hW => ?_)
  have fr2 : Fr [] W W2 := by rw [hW]; exact (Fr.refl _ _).drew
  clear hW c10 c11 c12 c13 f11 f12 f13
  have h2 := h1.fr fr2 (by simp)
  have il2 := in_fr fr2 il (by simp)
  have ir2 := in_fr fr2 ir (by simp)
  clear h1 il ir
  obtain ⟨c10, c11, c12, c13, f11, f12, f13⟩ := h2.cells
  obtain ⟨d10, d11, d12, d13, g11, g12, g13⟩ := (Top.of_in il2).cells
  rw [Kn.adr] at d13
  repeat still_step
  still_call (depth_any ll _ il2.2.1)
  repeat still_step
  still_call (depth_any (Kn.node xb xk xv xl xr) _ il2.2.2)
  repeat still_step
  refine wpStill_nil ?_
  obtain ⟨E, hE⟩ : ∃ E, E = (Kn.node xb xk xv xl xr).hgt := ⟨_, rfl⟩
  rw [← hE] at hx
  simp only [← hE]
  clear hE
  have W1 := up_any (Top.of_in il2) (Top.of_in il2.2.2) il2.2.1 il2.2.2.2.1 il2.2.2.2.2 hndL hcL
  have fl : ∀ x ∈ [lb, xb], x ∈ (Kn.node lb lk lv ll (.node xb xk xv xl xr)).bs := by intro x hx; simp at hx; rcases hx with rfl | rfl <;> simp [Kn.bs]
  have fb : b ∉ [lb, xb] := fun h => nbL (fl b h)
  go_wp2_with (first
    | (go_at_call 125
       refine W1.mono ?_
       clear W1
       rintro e w3 ⟨rfl, hi, fr3⟩
       have h3 := h2.fr fr3 fb
       have ir3 := in_fr fr3 ir2 (fun x hx hm => nLr x (fl x hm) hx)
       obtain ⟨c30, c31, c32, c33, f31, f32, f33⟩ := h3.cells
       have nb3 : b ∉ (Kn.node xb xk xv (.node lb lk lv ll xl) xr).bs := fun h => nbL (pU.mem_iff.1 h)
       have hi4 := set_in hi nb3 2 (.pointer (some ⟨xb, 0, none⟩))
       have W4 := down_any (h3.low (some ⟨xb, 0, none⟩)) (Top.of_in hi4) (set_in ir3 nbr 2 _) hi4.2.1 hi4.2.2 hnd2 hc2
       have fr4 : Fr (Kn.node b k v (.node lb lk lv ll (.node xb xk xv xl xr)) r).bs w (w3.setCell ⟨b, 2, none⟩ (.pointer (some ⟨xb, 0, none⟩))) := by
         refine ((((fr1.wide (fun _ h => by cases h)).trans fr2 (fun _ h => by cases h)).trans fr3 (fun x hx => .inl ?_)).set (.inl ?_) _)
         · exact List.mem_cons_of_mem _ (List.mem_append_left _ (fl x hx))
         · simp [Kn.bs]
       clear hi h3 ir3 hi4)
    | (go_at_call 126
       refine W4.mono ?_
       clear W4
       rintro e w5 ⟨rfl, hi5, fr5⟩))
  go_ret
  exact ⟨rfl, hi5, fr4.trans fr5 (fun x hx => .inl (by simp at hx; rcases hx with rfl | rfl <;> simp [Kn.bs]))⟩
theorem even_a2 {b lb : Nat} {k lk : ByteArray} {v lv : ByteArray} {r ll lr : Kn ByteArray ByteArray} {w : World} (h1 : Top w b k v (some ⟨lb, 0, none⟩) r.adr) (il : In w (.node lb lk lv ll lr)) (ir : In w r)
    (hnd : (Kn.node b k v (.node lb lk lv ll lr) r).bs.Nodup) (hc : (Kn.node b k v (.node lb lk lv ll lr) r).cnt < 4611686018427387904)
    (hd : 1 < (Kn.node lb lk lv ll lr).hgt - r.hgt) (hx : ¬ ll.hgt < lr.hgt) :
    Calls Try.prog 118 #[.pointer (some ⟨b, 0, none⟩)] w fun e w' => e = .returned (.pointer (some ⟨lb, 0, none⟩)) ∧ In w' (.node lb lk lv ll (.node b k v lr r)) ∧ Fr (Kn.node b k v (.node lb lk lv ll lr) r).bs w w' := by
  have hbL := Kn.bounds (Kn.node lb lk lv ll lr)
  have hbr := Kn.bounds r
  have hbc : r.cnt < 4611686018427387904 ∧ (Kn.node lb lk lv ll lr).cnt < 4611686018427387904 := by simp only [Kn.cnt] at hc ⊢; have := Kn.bounds ll; have := Kn.bounds lr; omega
  have hw1 : IntKind.i64.wrap ((Kn.node lb lk lv ll lr).hgt - r.hgt) = (Kn.node lb lk lv ll lr).hgt - r.hgt := IntWalk.i64_in _ (by omega)
  have hx2 : lr.hgt ≤ ll.hgt := by omega
  obtain ⟨c10, c11, c12, c13, f11, f12, f13⟩ := h1.cells
  go_enter Try.func118, Try.ntmps118
  go_wp2_with fail
  refine still_all (by kernel_rfl) (by kernel_rfl) (fun W hW => ?_)
  have fr1 : Fr [] w W := by rw [hW]; exact (Fr.refl _ _).drew
  clear hW c10 c11 c12 c13 f11 f12 f13
  have h1 := h1.fr fr1 (by simp)
  have il := in_fr fr1 il (by simp)
  have ir := in_fr fr1 ir (by simp)
  obtain ⟨c10, c11, c12, c13, f11, f12, f13⟩ := h1.cells
  repeat still_step
  still_call (depth_any (Kn.node lb lk lv ll lr) _ il)
  repeat still_step
  still_call (depth_any r _ ir)
  repeat still_step
  refine wpStill_nil ?_
  obtain ⟨D, hD⟩ : ∃ D, D = (Kn.node lb lk lv ll lr).hgt := ⟨_, rfl⟩
  rw [← hD] at hd hw1
  simp only [← hD]
  clear hD
  go_wp2_with fail
  refine still_all (by kernel_rfl) (by kernel_rfl) (fun W2 hW => ?_)
  have fr2 : Fr [] W W2 := by rw [hW]; exact (Fr.refl _ _).drew
  clear hW c10 c11 c12 c13 f11 f12 f13
  have h2 := h1.fr fr2 (by simp)
  have il2 := in_fr fr2 il (by simp)
  have ir2 := in_fr fr2 ir (by simp)
  clear h1 il ir
  obtain ⟨c10, c11, c12, c13, f11, f12, f13⟩ := h2.cells
  obtain ⟨d10, d11, d12, d13, g11, g12, g13⟩ := (Top.of_in il2).cells
  repeat still_step
  still_call (depth_any ll _ il2.2.1)
  repeat still_step
  still_call (depth_any lr _ il2.2.2)
  repeat still_step
  refine wpStill_nil ?_
  have W4 := down_any h2 (Top.of_in il2) ir2 il2.2.1 il2.2.2 hnd hc
  have fr4 : Fr (Kn.node b k v (.node lb lk lv ll lr) r).bs w W2 := (fr1.wide (fun _ h => by cases h)).trans fr2 (fun _ h => by cases h)
  go_wp2_with (go_at_call 126; refine W4.mono ?_; clear W4; rintro e w5 ⟨rfl, hi5, fr5⟩)
  go_ret
  exact ⟨rfl, hi5, fr4.trans fr5 (fun x hx => .inl (by simp at hx; rcases hx with rfl | rfl <;> simp [Kn.bs]))⟩
theorem even_b1 {b rb xb : Nat} {k rk xk : ByteArray} {v rv xv : ByteArray} {l rr xl xr : Kn ByteArray ByteArray} {w : World} (h1 : Top w b k v l.adr (some ⟨rb, 0, none⟩)) (il : In w l) (ir : In w (.node rb rk rv (.node xb xk xv xl xr) rr))
    (hnd : (Kn.node b k v l (.node rb rk rv (.node xb xk xv xl xr) rr)).bs.Nodup) (hc : (Kn.node b k v l (.node rb rk rv (.node xb xk xv xl xr) rr)).cnt < 4611686018427387904)
    (hd : l.hgt - (Kn.node rb rk rv (.node xb xk xv xl xr) rr).hgt < -1) (hx : rr.hgt < (Kn.node xb xk xv xl xr).hgt) :
    Calls Try.prog 118 #[.pointer (some ⟨b, 0, none⟩)] w fun e w' => e = .returned (.pointer (some ⟨xb, 0, none⟩)) ∧ In w' (.node xb xk xv (.node b k v l xl) (.node rb rk rv xr rr)) ∧ Fr (Kn.node b k v l (.node rb rk rv (.node xb xk xv xl xr) rr)).bs w w' := by
  have hndL : (Kn.node rb rk rv (.node xb xk xv xl xr) rr).bs.Nodup := by
    simp only [Kn.bs, List.nodup_cons, List.nodup_append] at hnd ⊢; exact hnd.2.2.1
  have nbL : b ∉ (Kn.node rb rk rv (.node xb xk xv xl xr) rr).bs := by
    simp only [Kn.bs, List.nodup_cons, List.mem_append, not_or] at hnd ⊢; exact hnd.1.2
  have nbr : b ∉ l.bs := by simp only [Kn.bs, List.nodup_cons, List.mem_append, not_or] at hnd ⊢; exact hnd.1.1
  have nLr : ∀ x ∈ (Kn.node rb rk rv (.node xb xk xv xl xr) rr).bs, x ∉ l.bs := fun x hx hr => by
    have := hnd; simp only [Kn.bs, List.nodup_cons, List.nodup_append] at this hx
    exact this.2.2.2 x hr x hx rfl
  have pU : (Kn.node xb xk xv xl (.node rb rk rv xr rr)).bs.Perm (Kn.node rb rk rv (.node xb xk xv xl xr) rr).bs := Kn.down_bs (.node rb rk rv (.node xb xk xv xl xr) rr)
  have hnd2 : (Kn.node b k v l (.node xb xk xv xl (.node rb rk rv xr rr))).bs.Nodup := (Kn.perm_right pU).nodup_iff.2 hnd
  have hcL : (Kn.node rb rk rv (.node xb xk xv xl xr) rr).cnt < 4611686018427387904 := by
    have := Kn.bounds l; simp only [Kn.cnt] at hc ⊢; omega
  have hc2 : (Kn.node b k v l (.node xb xk xv xl (.node rb rk rv xr rr))).cnt < 4611686018427387904 := by simp only [Kn.cnt] at hc ⊢; omega
  have hbL := Kn.bounds (Kn.node rb rk rv (.node xb xk xv xl xr) rr)
  have hbr := Kn.bounds l
  have hbc : l.cnt < 4611686018427387904 := by simp only [Kn.cnt] at hc; have := Kn.bounds rr; have := Kn.bounds xl; have := Kn.bounds xr; omega
  have hw1 : IntKind.i64.wrap (l.hgt - (Kn.node rb rk rv (.node xb xk xv xl xr) rr).hgt) = l.hgt - (Kn.node rb rk rv (.node xb xk xv xl xr) rr).hgt := IntWalk.i64_in _ (by omega)
  obtain ⟨c10, c11, c12, c13, f11, f12, f13⟩ := h1.cells
  go_enter Try.func118, Try.ntmps118
  go_wp2_with fail
  refine still_all (by kernel_rfl) (by kernel_rfl) (fun W hW => ?_)
  have fr1 : Fr [] w W := by rw [hW]; exact (Fr.refl _ _).drew
  clear hW c10 c11 c12 c13 f11 f12 f13
  have h1 := h1.fr fr1 (by simp)
  have il := in_fr fr1 il (by simp)
  have ir := in_fr fr1 ir (by simp)
  obtain ⟨c10, c11, c12, c13, f11, f12, f13⟩ := h1.cells
  repeat still_step
  still_call (depth_any l _ il)
  repeat still_step
  still_call (depth_any (Kn.node rb rk rv (.node xb xk xv xl xr) rr) _ ir)
  repeat still_step
  refine wpStill_nil ?_
  obtain ⟨D, hD⟩ : ∃ D, D = (Kn.node rb rk rv (.node xb xk xv xl xr) rr).hgt := ⟨_, rfl⟩
  rw [← hD] at hd hw1
  simp only [← hD]
  clear hD
  have hd0 : l.hgt - D ≤ 1 := by omega
  go_wp2_with fail
  refine still_all (by kernel_rfl) (by kernel_rfl) (fun W2 hW => ?_)
  have fr2 : Fr [] W W2 := by rw [hW]; exact (Fr.refl _ _).drew
  clear hW c10 c11 c12 c13 f11 f12 f13
  have h2 := h1.fr fr2 (by simp)
  have il2 := in_fr fr2 il (by simp)
  have ir2 := in_fr fr2 ir (by simp)
  clear h1 il ir
  obtain ⟨c10, c11, c12, c13, f11, f12, f13⟩ := h2.cells
  obtain ⟨d10, d11, d12, d13, g11, g12, g13⟩ := (Top.of_in ir2).cells
  rw [Kn.adr] at d12
  repeat still_step
  still_call (depth_any rr _ ir2.2.2)
  repeat still_step
  still_call (depth_any (Kn.node xb xk xv xl xr) _ ir2.2.1)
  repeat still_step
  refine wpStill_nil ?_
  obtain ⟨E, hE⟩ : ∃ E, E = (Kn.node xb xk xv xl xr).hgt := ⟨_, rfl⟩
  rw [← hE] at hx
  simp only [← hE]
  clear hE
  have W1 := down_any (Top.of_in ir2) (Top.of_in ir2.2.1) ir2.2.2 ir2.2.1.2.1 ir2.2.1.2.2 hndL hcL
  have fl : ∀ x ∈ [rb, xb], x ∈ (Kn.node rb rk rv (.node xb xk xv xl xr) rr).bs := by intro x hx; simp at hx; rcases hx with rfl | rfl <;> simp [Kn.bs]
  have fb : b ∉ [rb, xb] := fun h => nbL (fl b h)
  go_wp2_with (first
    | (go_at_call 126
       refine W1.mono ?_
       clear W1
       rintro e w3 ⟨rfl, hi, fr3⟩
       have h3 := h2.fr fr3 fb
       have il3 := in_fr fr3 il2 (fun x hx hm => nLr x (fl x hm) hx)
       obtain ⟨c30, c31, c32, c33, f31, f32, f33⟩ := h3.cells
       have nb3 : b ∉ (Kn.node xb xk xv xl (.node rb rk rv xr rr)).bs := fun h => nbL (pU.mem_iff.1 h)
       have hi4 := set_in hi nb3 3 (.pointer (some ⟨xb, 0, none⟩))
       have W4 := up_any (h3.high (some ⟨xb, 0, none⟩)) (Top.of_in hi4) (set_in il3 nbr 3 _) hi4.2.1 hi4.2.2 hnd2 hc2
       have fr4 : Fr (Kn.node b k v l (.node rb rk rv (.node xb xk xv xl xr) rr)).bs w (w3.setCell ⟨b, 3, none⟩ (.pointer (some ⟨xb, 0, none⟩))) := by
         refine ((((fr1.wide (fun _ h => by cases h)).trans fr2 (fun _ h => by cases h)).trans fr3 (fun x hx => .inl ?_)).set (.inl ?_) _)
         · exact List.mem_cons_of_mem _ (List.mem_append_right _ (fl x hx))
         · simp [Kn.bs]
       clear hi h3 il3 hi4)
    | (go_at_call 125
       refine W4.mono ?_
       clear W4
       rintro e w5 ⟨rfl, hi5, fr5⟩))
  go_ret
  exact ⟨rfl, hi5, fr4.trans fr5 (fun x hx => .inl (by simp at hx; rcases hx with rfl | rfl <;> simp [Kn.bs]))⟩
theorem even_b2 {b rb : Nat} {k rk : ByteArray} {v rv : ByteArray} {l rl rr : Kn ByteArray ByteArray} {w : World} (h1 : Top w b k v l.adr (some ⟨rb, 0, none⟩)) (il : In w l) (ir : In w (.node rb rk rv rl rr))
    (hnd : (Kn.node b k v l (.node rb rk rv rl rr)).bs.Nodup) (hc : (Kn.node b k v l (.node rb rk rv rl rr)).cnt < 4611686018427387904)
    (hd : l.hgt - (Kn.node rb rk rv rl rr).hgt < -1) (hx : ¬ rr.hgt < rl.hgt) :
    Calls Try.prog 118 #[.pointer (some ⟨b, 0, none⟩)] w fun e w' => e = .returned (.pointer (some ⟨rb, 0, none⟩)) ∧ In w' (.node rb rk rv (.node b k v l rl) rr) ∧ Fr (Kn.node b k v l (.node rb rk rv rl rr)).bs w w' := by
  have hbL := Kn.bounds (Kn.node rb rk rv rl rr)
  have hbr := Kn.bounds l
  have hbc : l.cnt < 4611686018427387904 ∧ (Kn.node rb rk rv rl rr).cnt < 4611686018427387904 := by simp only [Kn.cnt] at hc ⊢; have := Kn.bounds rl; have := Kn.bounds rr; omega
  have hw1 : IntKind.i64.wrap (l.hgt - (Kn.node rb rk rv rl rr).hgt) = l.hgt - (Kn.node rb rk rv rl rr).hgt := IntWalk.i64_in _ (by omega)
  have hx2 : rl.hgt ≤ rr.hgt := by omega
  obtain ⟨c10, c11, c12, c13, f11, f12, f13⟩ := h1.cells
  go_enter Try.func118, Try.ntmps118
  go_wp2_with fail
  refine still_all (by kernel_rfl) (by kernel_rfl) (fun W hW => ?_)
  have fr1 : Fr [] w W := by rw [hW]; exact (Fr.refl _ _).drew
  clear hW c10 c11 c12 c13 f11 f12 f13
  have h1 := h1.fr fr1 (by simp)
  have il := in_fr fr1 il (by simp)
  have ir := in_fr fr1 ir (by simp)
  obtain ⟨c10, c11, c12, c13, f11, f12, f13⟩ := h1.cells
  repeat still_step
  still_call (depth_any l _ il)
  repeat still_step
  still_call (depth_any (Kn.node rb rk rv rl rr) _ ir)
  repeat still_step
  refine wpStill_nil ?_
  obtain ⟨D, hD⟩ : ∃ D, D = (Kn.node rb rk rv rl rr).hgt := ⟨_, rfl⟩
  rw [← hD] at hd hw1
  simp only [← hD]
  clear hD
  have hd0 : l.hgt - D ≤ 1 := by omega
  go_wp2_with fail
  refine still_all (by kernel_rfl) (by kernel_rfl) (fun W2 hW => ?_)
  have fr2 : Fr [] W W2 := by rw [hW]; exact (Fr.refl _ _).drew
  clear hW c10 c11 c12 c13 f11 f12 f13
  have h2 := h1.fr fr2 (by simp)
  have il2 := in_fr fr2 il (by simp)
  have ir2 := in_fr fr2 ir (by simp)
  clear h1 il ir
  obtain ⟨c10, c11, c12, c13, f11, f12, f13⟩ := h2.cells
  obtain ⟨d10, d11, d12, d13, g11, g12, g13⟩ := (Top.of_in ir2).cells
  repeat still_step
  still_call (depth_any rr _ ir2.2.2)
  repeat still_step
  still_call (depth_any rl _ ir2.2.1)
  repeat still_step
  refine wpStill_nil ?_
  have W4 := up_any h2 (Top.of_in ir2) il2 ir2.2.1 ir2.2.2 hnd hc
  have fr4 : Fr (Kn.node b k v l (.node rb rk rv rl rr)).bs w W2 := (fr1.wide (fun _ h => by cases h)).trans fr2 (fun _ h => by cases h)
  go_wp2_with (go_at_call 125; refine W4.mono ?_; clear W4; rintro e w5 ⟨rfl, hi5, fr5⟩)
  go_ret
  exact ⟨rfl, hi5, fr4.trans fr5 (fun x hx => .inl (by simp at hx; rcases hx with rfl | rfl <;> simp [Kn.bs]))⟩
theorem even_c {b : Nat} {k : ByteArray} {v : ByteArray} {l r : Kn ByteArray ByteArray} {w : World} (h1 : Top w b k v l.adr r.adr) (il : In w l) (ir : In w r)
    (hnd : (Kn.node b k v l r).bs.Nodup) (hc : (Kn.node b k v l r).cnt < 4611686018427387904) (hd : l.hgt - r.hgt ≤ 1) (hx : -1 ≤ l.hgt - r.hgt) :
    Calls Try.prog 118 #[.pointer (some ⟨b, 0, none⟩)] w fun e w' => e = .returned (.pointer (some ⟨b, 0, none⟩)) ∧ In w' (.node b k v l r) ∧ Fr (Kn.node b k v l r).bs w w' := by
  have hbL := Kn.bounds l
  have hbr := Kn.bounds r
  have hbc : l.cnt + r.cnt < 4611686018427387904 := by simp only [Kn.cnt] at hc; omega
  have hw1 : IntKind.i64.wrap (l.hgt - r.hgt) = l.hgt - r.hgt := IntWalk.i64_in _ (by omega)
  have nbl : b ∉ l.bs := by simp only [Kn.bs, List.nodup_cons, List.mem_append, not_or] at hnd; exact hnd.1.1
  have nbr : b ∉ r.bs := by simp only [Kn.bs, List.nodup_cons, List.mem_append, not_or] at hnd; exact hnd.1.2
  obtain ⟨c10, c11, c12, c13, f11, f12, f13⟩ := h1.cells
  go_enter Try.func118, Try.ntmps118
  go_wp2_with fail
  refine still_all (by kernel_rfl) (by kernel_rfl) (fun W hW => ?_)
  have fr1 : Fr [] w W := by rw [hW]; exact (Fr.refl _ _).drew
  clear hW c10 c11 c12 c13 f11 f12 f13
  have h1 := h1.fr fr1 (by simp)
  have il := in_fr fr1 il (by simp)
  have ir := in_fr fr1 ir (by simp)
  obtain ⟨c10, c11, c12, c13, f11, f12, f13⟩ := h1.cells
  repeat still_step
  still_call (depth_any l _ il)
  repeat still_step
  still_call (depth_any r _ ir)
  repeat still_step
  refine wpStill_nil ?_
  have W4 := fresh_top h1 il ir nbl nbr hbc
  go_wp2_with (go_at_call 117; refine W4.mono ?_; clear W4; rintro e w5 ⟨rfl, hi5, fr5⟩)
  go_ret
  exact ⟨rfl, hi5, (fr1.wide (fun _ h => by cases h)).trans fr5 (fun x hx => .inl (by simp at hx; subst hx; simp [Kn.bs]))⟩
theorem even_any {b : Nat} {k : ByteArray} {v : ByteArray} {l r : Kn ByteArray ByteArray} {w : World} (h1 : Top w b k v l.adr r.adr) (il : In w l) (ir : In w r) (hnd : (Kn.node b k v l r).bs.Nodup) (hc : (Kn.node b k v l r).cnt < 4611686018427387904) :
    Calls Try.prog 118 #[.pointer (some ⟨b, 0, none⟩)] w fun e w' => e = .returned (.pointer (Kn.even b k v l r).adr) ∧ In w' (Kn.even b k v l r) ∧ Fr (Kn.node b k v l r).bs w w' := by
  by_cases hA : l.hgt - r.hgt > 1
  · cases l with
    | nil => have := Kn.bounds r; simp only [Kn.hgt] at hA; omega
    | node lb lk lv ll lr =>
      by_cases hx : ll.hgt < lr.hgt
      · cases lr with
        | nil => have := Kn.bounds ll; simp only [Kn.hgt] at hx; omega
        | node xb xk xv xl xr =>
          have e : Kn.even b k v (.node lb lk lv ll (.node xb xk xv xl xr)) r = .node xb xk xv (.node lb lk lv ll xl) (.node b k v xr r) := by
            unfold Kn.even; rw [if_pos hA]; simp only [if_pos hx]; rfl
          rw [e]
          exact even_a1 h1 il ir hnd hc hA hx
      · have e : Kn.even b k v (.node lb lk lv ll lr) r = .node lb lk lv ll (.node b k v lr r) := by
          unfold Kn.even; rw [if_pos hA]; simp only [if_neg hx]; rfl
        rw [e]
        exact even_a2 h1 il ir hnd hc hA hx
  · by_cases hB : l.hgt - r.hgt < -1
    · cases r with
      | nil => have := Kn.bounds l; simp only [Kn.hgt] at hB; omega
      | node rb rk rv rl rr =>
        by_cases hx : rr.hgt < rl.hgt
        · cases rl with
          | nil => have := Kn.bounds rr; simp only [Kn.hgt] at hx; omega
          | node xb xk xv xl xr =>
            have e : Kn.even b k v l (.node rb rk rv (.node xb xk xv xl xr) rr) = .node xb xk xv (.node b k v l xl) (.node rb rk rv xr rr) := by
              unfold Kn.even; rw [if_neg hA, if_pos hB]; simp only [if_pos hx]; rfl
            rw [e]
            exact even_b1 h1 il ir hnd hc hB hx
        · have e : Kn.even b k v l (.node rb rk rv rl rr) = .node rb rk rv (.node b k v l rl) rr := by
            unfold Kn.even; rw [if_neg hA, if_pos hB]; simp only [if_neg hx]; rfl
          rw [e]
          exact even_b2 h1 il ir hnd hc hB hx
    · have e : Kn.even b k v l r = .node b k v l r := by unfold Kn.even; rw [if_neg hA, if_neg hB]
      rw [e]
      exact even_c h1 il ir hnd hc (by omega) (by omega)
end Go.Proofs.Ytidaiafmhidooaa.OrdSs
end
