/- Texts of one claim (laid by shake.py). -/
import Derived.RangeFuncNested
import Derived.RangeFuncCalls
import Derived.RangeFuncLeaves
import Derived.Below
import Derived.Deep.Draws
import Derived.Test.YtidaiafmhidooaaZa24
import Derived.Maps.OwnIn
import Derived.Test.YtidaiafmhidooaaZa22
import Derived.Test.YtidaiafmhidooaaZa2
import Derived.Lib.Strings
import Derived.Test.YtidaiafmhidooaaZa18
import Derived.StillTailTactics
set_option linter.unusedVariables false
set_option linter.unusedSimpArgs false
section
namespace Go.Proofs.Ytidaiafmhidooaa.It
open Go Go.RowKit
structure FrM (M : Nat → Prop) (w w' : World) : Prop where
 os : w'.os = w.os
 tape : w'.tape = w.tape
 output : w'.output = w.output
 size : w.heap.size ≤ w'.heap.size
 block : ∀ k, k < w.heap.size → ¬ M k → w'.heap[k]? = w.heap[k]?
namespace FrM
variable {M M' : Nat → Prop} {w w1 w2 : World}
theorem refl (M : Nat → Prop) (w : World) : FrM M w w := ⟨rfl, rfl, rfl, Nat.le_refl _, fun _ _ _ => rfl⟩
theorem trans (h : FrM M w w1) (k : FrM M' w1 w2) (hM : ∀ i, M' i → M i ∨ w.heap.size ≤ i) : FrM M w w2 :=
 ⟨k.os.trans h.os, k.tape.trans h.tape, k.output.trans h.output, Nat.le_trans h.size k.size, fun i hi hn =>
  (k.block i (Nat.lt_of_lt_of_le hi h.size) (fun hc => by rcases hM i hc with q | q; exact hn q; omega)).trans (h.block i hi hn)⟩
theorem mono (h : FrM M w w1) (hM : ∀ i, M i → M' i ∨ w.heap.size ≤ i) : FrM M' w w1 :=
 ⟨h.os, h.tape, h.output, h.size, fun i hi hn => h.block i hi (fun hc => by rcases hM i hc with q | q; exact hn q; omega)⟩
theorem of_below (h : Below w.heap.size w w1) : FrM M w w1 := ⟨h.os, h.tape, h.output, h.size, fun k hk _ => h.block k hk⟩
theorem below (h : FrM M w w1) {base : Nat} (hM : ∀ k, M k → base ≤ k) (hb : base ≤ w.heap.size) : Below base w w1 :=
 ⟨h.os, h.tape, h.output, h.size, fun k hk => h.block k (by omega) (fun hm => by have := hM k hm; omega)⟩
theorem blk (h : FrM M w w1) {g : Nat} {o : Obj} (hg : w.heap[g]? = some o) (hn : ¬ M g) : w1.heap[g]? = some o := (h.block g (Array.getElem?_eq_some_iff.1 hg).1 hn).trans hg
theorem drewN (h : FrM M w w1) (n : Nat) : FrM M w (w1.drewN n) := ⟨h.os, h.tape, h.output, h.size, h.block⟩
theorem alloc (h : FrM M w w1) (o : Obj) : FrM M w (w1.alloc o) := h.trans (of_below (M := fun _ => False) ((Below.refl _ w1).alloc (Nat.le_refl _) o)) (fun _ q => q.elim)
theorem grown {row : Option Nat} (hg : w.grownBy w1 row) (hr : ∀ r, row = some r → M r ∨ w.heap.size ≤ r) : FrM M w w1 :=
 ⟨hg.os, hg.tape, hg.output, hg.size, fun k hk hn => hg.block k hk (fun e => by rcases hr k e.symm with q | q; exact hn q; omega)⟩
theorem putObj (w : World) (l : Nat) (o : Obj) (hl : M l) : FrM M w (w.putObj l o) :=
 ⟨rfl, rfl, rfl, by simp, fun k _ hn => World.putObj_heap_other (fun e => hn (by rw [e]; exact hl))⟩
end FrM
def Stab {β : Type} (B : Nat) (J : β → (Nat → Prop) → World → Prop) : Prop :=
 ∀ s M W W', J s M W → FrM (fun k => ¬ M k ∧ B ≤ k) W W' → J s M W'
theorem Stab.from {β : Type} {B B' : Nat} {J : β → (Nat → Prop) → World → Prop} (h : Stab B J) (hB : B ≤ B') : Stab B' J :=
 fun s M W W' hj hf => h s M W W' hj (hf.mono (fun i hi => .inl ⟨hi.1, Nat.le_trans hB hi.2⟩))
def Told {α : Type} (J Jx : List α → (Nat → Prop) → World → Prop) (pre : List α) (x : α) (M : Nat → Prop) (W : World) (e : Ending) (W' : World) : Prop :=
 ∃ M', (∀ k, M' k → (M k ∨ W.heap.size ≤ k) ∧ k < W'.heap.size) ∧ FrM M W W' ∧ ((e = .returned (.bool true) ∧ J (pre ++ [x]) M' W') ∨ (e = .returned (.bool false) ∧ Jx (pre ++ [x]) M' W'))
def Went {α : Type} (J Jx : List α → (Nat → Prop) → World → Prop) (R Rp : List α → Prop) (M : Nat → Prop) (W : World) (e : Ending) (W' : World) : Prop :=
 (∃ v, e = .returned v) ∧ ∃ M', (∀ k, M' k → (M k ∨ W.heap.size ≤ k) ∧ k < W'.heap.size) ∧ FrM M W W' ∧ ((∃ xs, R xs ∧ J xs M' W') ∨ (∃ pre, Rp pre ∧ Jx pre M' W'))
def Iter {α : Type} (F : Fence) (n : Nat) (P : Program) (g : Nat) (lb : Array Value) (encs : α → Array Value) (R Rp : List α → Prop) (N : Nat) (S : Nat → Prop) (w : World) : Prop :=
 ∀ (l : Nat) (J Jx : List α → (Nat → Prop) → World → Prop) (M : Nat → Prop) (W : World), FrM (fun k => ¬ S k) w W → (∀ k, S k → k < w.heap.size ∧ ¬ M k) → (∀ k, M k → k < W.heap.size) →
  Stab W.heap.size J → Stab W.heap.size Jx →
  (∀ pre x M1 W1, J pre M1 W1 → (∀ k, M1 k → (M k ∨ W.heap.size ≤ k) ∧ k < W1.heap.size) → FrM M W W1 → pre.length < N → YieldAt F (n - 1) P l (encs x) W1 (Told J Jx pre x M1 W1)) →
  J [] M W → CallsIn F n P g (#[.func (.yield l) #[] #[]] ++ lb) W (Went J Jx R Rp M W)
variable {F : Fence} {n : Nat} {P : Program}
end Go.Proofs.Ytidaiafmhidooaa.It
end
section
namespace Go.Proofs.Ytidaiafmhidooaa.OrdSs
open Go.RowKit Go.Shelf Go.Proofs.YtidaiafmhidooaaW.PrintWords Go.Proofs.YtidaiafmhidooaaW.PrintLast Go.Proofs.YtidaiafmhidooaaW.PrintMore Go.Proofs.Ytidaiafmhidooaa.Own Go.Proofs.Ytidaiafmhidooaa.Ord
theorem iter_of {α : Type} {g : Nat} {lb : Array Value} {encs : α → Array Value} {R Rp : List α → Prop} {N n : Nat} {S : Nat → Prop} {w : World} (hS : ∀ k, S k → k < w.heap.size)
  (h : ∀ (l : Nat) (J Jx : List α → World → Prop) (W : World), (∀ pre W n, J pre W → J pre (W.drewN n)) → (∀ k, S k → W.heap[k]? = w.heap[k]?) → w.heap.size ≤ W.heap.size →
   (∀ pre x W1, J pre W1 → pre.length < N → YieldAt Fence.wide (n - 1) Try.prog l (encs x) W1 fun e W' => (e = .returned (.bool true) ∧ J (pre ++ [x]) W' ∧ Kee S W1 W') ∨ (e = .returned (.bool false) ∧ Jx (pre ++ [x]) W')) → J [] W →
   CallsIn Fence.wide n Try.prog g (#[.func (.yield l) #[] #[]] ++ lb) W fun e W' => (∃ v, e = .returned v) ∧ ((∃ ys, R ys ∧ J ys W') ∨ (∃ pre, Rp pre ∧ Jx pre W'))) :
  It.Iter Fence.wide n Try.prog g lb encs R Rp N S w := by
 intro l J Jx M W hWf hSW hM hJ hJx hY h0
 refine (h l (fun pre W1 => ∃ M1, J pre M1 W1 ∧ (∀ k, M1 k → (M k ∨ W.heap.size ≤ k) ∧ k < W1.heap.size) ∧ It.FrM M W W1) (fun pre W1 => ∃ M1, Jx pre M1 W1 ∧ (∀ k, M1 k → (M k ∨ W.heap.size ≤ k) ∧ k < W1.heap.size) ∧ It.FrM M W W1) W ?_ (fun k hk => hWf.block k (hS k hk) (fun q => q hk)) hWf.size ?_ ⟨M, h0, fun k hk => ⟨.inl hk, hM k hk⟩, It.FrM.refl _ _⟩).mono ?_
 ·rintro pre W1 m ⟨M1, a, b, c⟩
  exact ⟨M1, hJ _ _ _ _ a ((It.FrM.refl _ _).drewN m), b, c.drewN m⟩
 ·rintro pre x W1 ⟨M1, a, b, c⟩ hlen
  refine YieldAt.mono (hY pre x M1 W1 a b c hlen) ?_
  rintro e W' ⟨M', b', f', q⟩
  have bb : ∀ k, M' k → (M k ∨ W.heap.size ≤ k) ∧ k < W'.heap.size := fun k hk => ⟨by
   rcases (b' k hk).1 with z | z
   ·exact (b k z).1
   ·have := c.size; exact .inr (by omega), (b' k hk).2⟩
  have ff : It.FrM M W W' := c.trans f' (fun i hi => (b i hi).1)
  rcases q with ⟨rfl, hj⟩ | ⟨rfl, hj⟩
  ·refine .inl ⟨rfl, ⟨M', hj, bb, ff⟩, ⟨f'.size, fun k hk => f'.block k (by have := hS k hk; have := c.size; have := hWf.size; omega) (fun hm => ?_)⟩⟩
   rcases (b k hm).1 with z | z
   ·exact (hSW k hk).2 z
   ·have := hS k hk; have := hWf.size; omega
  ·exact .inr ⟨rfl, M', hj, bb, ff⟩
 ·rintro e W' ⟨hv, ⟨ys, hR, M', hj, b, f⟩ | ⟨pre, hR, M', hj, b, f⟩⟩
  ·exact ⟨hv, M', b, f, .inl ⟨ys, hR, hj⟩⟩
  ·exact ⟨hv, M', b, f, .inr ⟨pre, hR, hj⟩⟩
theorem cell_of_blk {w W : World} {a : Addr} {v : Value} (h : w.cell? a = some v) (e : W.heap[a.block]? = w.heap[a.block]?) : W.cell? a = some v := (World.cell?_of_block e).trans h
theorem all_iter (n Bb : Nat) (S : Nat → Prop) (p : Option Addr) (T : Kn ByteArray ByteArray) (w : World) (hS : ∀ k, S k → k < w.heap.size) (hBb : S Bb) (hc : w.cell? ⟨Bb, 0, none⟩ = some (.pointer p)) (hT : MpI S w p T) :
  It.Iter Fence.wide n Try.prog 93 #[.pointer (some ⟨Bb, 0, none⟩)] (fun x : ByteArray × ByteArray => #[.string x.1, .string x.2]) (fun ys => ys = walkA T) (fun pre => pre <+: walkA T) (walkA T).length S w :=
 iter_of hS (fun l J Jx W hJd hSW hsz hY h0 => all1_in n l Bb S p T J Jx hJd hY W (cell_of_blk hc (hSW Bb hBb)) (hT.kee ⟨hsz, hSW⟩) h0)
theorem from_iter (n Bb Bk : Nat) (S : Nat → Prop) (p : Option Addr) (s : ByteArray) (T : Kn ByteArray ByteArray) (w : World) (hS : ∀ k, S k → k < w.heap.size) (hBb : S Bb) (hc : w.cell? ⟨Bb, 0, none⟩ = some (.pointer p)) (hk : w.cell? ⟨Bk, 0, none⟩ = some (.string s)) (hkS : S Bk) (hT : MpI S w p T) :
  It.Iter Fence.wide n Try.prog 104 #[.pointer (some ⟨Bb, 0, none⟩), .pointer (some ⟨Bk, 0, none⟩)] (fun x : ByteArray × ByteArray => #[.string x.1, .string x.2]) (fun ys => ys = walkB s T) (fun pre => pre <+: walkB s T) (walkB s T).length S w :=
 iter_of hS (fun l J Jx W hJd hSW hsz hY h0 => from1_in n l Bb Bk S p s T J Jx hJd hY W (cell_of_blk hc (hSW Bb hBb)) (cell_of_blk hk (hSW Bk hkS)) hkS (hT.kee ⟨hsz, hSW⟩) h0)
end Go.Proofs.Ytidaiafmhidooaa.OrdSs
end
section
namespace Go.Proofs.Ytidaiafmhidooaa.OrdSs
open Go.RowKit Go.Shelf Go.Proofs.YtidaiafmhidooaaW.PrintWords Go.Proofs.YtidaiafmhidooaaW.PrintLast Go.Proofs.YtidaiafmhidooaaW.PrintMore Go.Proofs.Ytidaiafmhidooaa.Own Go.Proofs.Ytidaiafmhidooaa.Ord
attribute [local go_sem] Oper.semAt_some
set_option maxHeartbeats 2000000
set_option maxRecDepth 100000
def mb : Option Addr → List Nat
 | none => []
 | some a => [a.block]
def cutL (a b : ByteArray) (T : Kn ByteArray ByteArray) : List ByteArray := ((walkB a T).takeWhile (fun x => lt x.1 b)).map (·.1)
def dropAll (l : List ByteArray) (T : Kn ByteArray ByteArray) : Kn ByteArray ByteArray := l.foldl (fun T k => Kn.drop lt k T) T
theorem dropAll_snoc (l : List ByteArray) (k : ByteArray) (T : Kn ByteArray ByteArray) : dropAll (l ++ [k]) T = Kn.drop lt k (dropAll l T) := by simp [dropAll]
theorem dropAll_mem : ∀ (l : List ByteArray) (T : Kn ByteArray ByteArray) (x : Nat), x ∈ (dropAll l T).bs → x ∈ T.bs
 | [], _, _, h => h
 | k :: l, T, x, h => Kn.drop_mem (dropAll_mem l (Kn.drop lt k T) x h)
theorem dropAll_cnt : ∀ (l : List ByteArray) (T : Kn ByteArray ByteArray), (dropAll l T).cnt ≤ T.cnt
 | [], _ => Int.le_refl _
 | k :: l, T => Int.le_trans (dropAll_cnt l (Kn.drop lt k T)) (Kn.drop_cnt lt k T)
theorem MpN.fr {w w' : World} {p : Option Addr} {T : Kn ByteArray ByteArray} {B : List Nat} (h : MpN w p T) (f : Fr B w w') (hm : ∀ a, p = some a → a.block ∉ B) (hn : ∀ x ∈ T.bs, x ∉ B) : MpN w' p T := by
 cases p with
 | none => exact h
 | some a => exact ⟨h.1, h.2.fr f (hm a rfl) hn⟩
theorem MpN.below {w w' : World} {p : Option Addr} {T : Kn ByteArray ByteArray} (h : MpN w p T) (f : Below w.heap.size w w') : MpN w' p T := h.fr (B := []) (Fr.of_below f) (by simp) (by simp)
theorem MpN.lt {w : World} {p : Option Addr} {T : Kn ByteArray ByteArray} (h : MpN w p T) : ∀ x ∈ mb p ++ T.bs, x < w.heap.size := by
 cases p with
 | none => obtain rfl : T = .nil := h; simp [mb, Kn.bs]
 | some a =>
  intro x hx
  simp only [mb, List.singleton_append, List.mem_cons] at hx
  rcases hx with rfl | hx
  ·exact blk_lt h.2.blk
  ·exact in_lt h.2.inn x hx
abbrev CutI (w : World) (b : ByteArray) (s : ByteArray) (pre : List (ByteArray × ByteArray)) (W : World) : Prop :=
 ((∃ v, Boxed W (w.heap.size + 1) 48 v ∧ W.ownsRow w.heap.size 9 1 v pre.length (pre.map (fun x => Value.string x.1)) ∧ (v.ownBlock ≠ some w.heap.size ∧ v.ownBlock ≠ some (w.heap.size + 1 + 1 + 1))) ∧ Below w.heap.size w W) ∧
 Boxed W w.heap.size 9 (.string b) ∧ Boxed W (w.heap.size + 1 + 1 + 1) 9 (.string s)
theorem cutI_own (w : World) (b s : ByteArray) (n : Nat) (hn : w.heap.size ≤ n) : OwnFrom n (CutI w b s) :=
 OwnFrom.and (OwnFrom.and (Own.from (holdsRow_own w.heap.size (w.heap.size + 1) 48 9 1 (fun pre : List (ByteArray × ByteArray) => pre.length) (fun pre => pre.map (fun x => Value.string x.1)) (fun pre v => v.ownBlock ≠ some w.heap.size ∧ v.ownBlock ≠ some (w.heap.size + 1 + 1 + 1))) _) (ownFrom_below (Nat.le_refl _) hn))
  (OwnFrom.and (Own.from (boxed_own _ _ (fun _ => .string b)) _) (Own.from (boxed_own _ _ (fun _ => .string s)) _))
theorem infoStr : (Try.prog.info? 9).map (fun i => (i.zero, i.size, i.bytes)) = some (some (.string ⟨#[]⟩), 1, 16) := by kernel_rfl
theorem underS : Try.prog.underlying 48 = some (.slice 9) := Try.underlying48
theorem Fr.one_put (w : World) (D : Nat) (o : Obj) : Fr [D] w (w.putObj D o) := ⟨rfl, rfl, rfl, by simp, fun k _ hn => World.putObj_heap_other (by simp at hn; omega)⟩
theorem Fr.putObj {B : List Nat} {w w' : World} (h : Fr B w w') {D : Nat} (hD : w.heap.size ≤ D) (o : Obj) : Fr B w (w'.putObj D o) :=
 h.trans (B := B) (C := [D]) (Fr.one_put _ _ _) (fun x hx => .inr (by simp at hx; omega))
theorem row_open {W : World} {base e n : Nat} {v : Value} {xs : List Value} (h : W.ownsRow base e 1 v n xs) : ∃ A c, v = .slice A n c ∧ n ≤ c ∧ ∀ (j : Nat) (u : Value), xs[j]? = some u → ∃ g, A = some ⟨g, 0, none⟩ ∧ base ≤ g ∧ g < W.heap.size ∧ W.cell? ⟨g, j, none⟩ = some u := by
 obtain ⟨hl, h⟩ := h
 rcases h with ⟨rfl, rfl⟩ | ⟨g, cap, cur, rfl, hb, hg, hn, hm, hs, ht⟩
 ·refine ⟨none, 0, rfl, Nat.le_refl _, fun j u hj => ?_⟩
  have := (List.getElem?_eq_some_iff.1 hj).1
  omega
 ·refine ⟨_, cap, rfl, hn, fun j u hj => ⟨g, rfl, hb, blk_lt hg, ?_⟩⟩
  rw [← ht, List.getElem?_take] at hj
  split at hj
  ·simp [World.cell?, hg]
   simpa using hj
  ·simp at hj
theorem Kn.dropAll_cnt' (l : List ByteArray) (T : Kn ByteArray ByteArray) (h : T.cnt < 4294967296) : (dropAll l T).cnt < 4611686018427387904 := by have := dropAll_cnt l T; omega
theorem cut_any (s b : ByteArray) {w : World} {p : Option Addr} {T : Kn ByteArray ByteArray} (h : MpN w p T) (hc : T.cnt < 4294967296) (hwl : ((walkB s T).length : Int) ≤ T.cnt) :
  Calls Try.prog 107 #[.pointer p, .string s, .string b] w fun e w' => e = .returned (.int .i64 (cutL s b T).length) ∧ MpN w' p (dropAll (cutL s b T) T) ∧ Fr (mb p ++ T.bs) w w' := by
 obtain ⟨i0, hi, hz0, hz1, hz2⟩ := info_parts infoStr
 have hmax : maxLen = 9223372036854775807 := rfl
 refine (callsIn_wide (n := 5)).1 ?_
 refine callsIn_of_wp_marks Try.func107 rfl trivial ?_ rfl
 simp only [Try.ntmps107, List.size_toArray, List.length_cons, List.length_nil, Nat.reduceAdd, Nat.reduceSub, Array.replicate_succ, Array.replicate_zero, List.push_toArray, List.append_toArray, List.nil_append, List.cons_append]
 gi_wp2_with (refine ⟨trivial, ?_⟩; gi_at_call 87; refine (from_in _ p s _).mono ?_; rintro e w' ⟨rfl, t, rfl⟩)
 have bT := Boxed.new w 9 (.string b)
 have bO := Boxed.new (w.alloc (.cells #[.string b] 9)) 48 (.slice none 0 0)
 rw [World.size_alloc] at bO
 have bN := Boxed.new ((w.alloc (.cells #[.string b] 9)).alloc (.cells #[.slice none 0 0] 48)) t (.pointer p)
 rw [World.size_alloc, World.size_alloc] at bN
 have bK := Boxed.new (((w.alloc (.cells #[.string b] 9)).alloc (.cells #[.slice none 0 0] 48)).alloc (.cells #[.pointer p] t)) 9 (.string s)
 rw [World.size_alloc, World.size_alloc, World.size_alloc] at bK
 have hB0 : Below w.heap.size w ((((w.alloc (.cells #[.string b] 9)).alloc (.cells #[.slice none 0 0] 48)).alloc (.cells #[.pointer p] t)).alloc (.cells #[.string s] 9)) :=
  ((((Below.refl _ w).alloc (Nat.le_refl _) _).alloc (by simp) _).alloc (by simp; omega) _).alloc (by simp; omega) _
 have hT := MpI.wide (S' := fun k => k < w.heap.size ∨ k = w.heap.size + 1 + 1 + 1) (fun k hk => .inl hk) ((MpN.mpI h).kee (S := fun k => k < w.heap.size) ⟨hB0.size, fun k hk => hB0.block k hk⟩)
 refine wpIn_rangeFunc_ownG rfl (by omega) (gf := 104) (lb := #[.pointer (some ⟨w.heap.size + 1 + 1, 0, none⟩), .pointer (some ⟨w.heap.size + 1 + 1 + 1, 0, none⟩)]) rfl trivial (enters_of Try.func104 (by kernel_rfl) rfl)
  (from_stops _ (w.heap.size + 1 + 1) (w.heap.size + 1 + 1 + 1) (fun k => k < w.heap.size ∨ k = w.heap.size + 1 + 1 + 1) p s T _ (fun k hk => by simp; omega) (by simp) (bN.alloc _).cell bK.cell (.inr rfl) hT) (fun h k => h.trans k)
  (fun W l o o' hl ho _ _ => ⟨by simp, fun k hk => World.putObj_heap_other (by simp at hl; omega)⟩) (Below.refl _ _) (fun _ => rfl)
  (fun pre W => CutI w b s pre W ∧ ∀ x ∈ pre, lt x.1 b = true)
  (fun c pre W => c = .exit 0 ∧ ∃ pre' x, pre = pre' ++ [x] ∧ CutI w b s pre' W ∧ (∀ y ∈ pre', lt y.1 b = true) ∧ lt x.1 b = false)
  (OwnFrom.and (cutI_own w b s _ (by simp; omega)) (ownFrom_pure _ _))
  (fun c pre X Y row hs hg hr => by obtain ⟨hc, pre', x, e, hi, h1, h2⟩ := hs; exact ⟨hc, pre', x, e, cutI_own w b s _ (by simp; omega) pre' X Y row hi hg hr, h1, h2⟩)
  ⟨⟨⟨⟨_, (bO.alloc _).alloc _, World.ownsRow_nil _ _ _ _, by simp [Value.ownBlock]⟩, hB0⟩, ((bT.alloc _).alloc _).alloc _, bK⟩, by simp⟩
  (fun x => { tmps := #[.pointer p, .string s, .string b, undef, undef, .pointer (some ⟨w.heap.size, 0, none⟩), .int .i64 0, .pointer (some ⟨w.heap.size + 1, 0, none⟩), .string x.1, undef, undef, .pointer p, .string s, .func (.func 104) #[] #[.pointer (some ⟨w.heap.size + 1 + 1, 0, none⟩), .pointer (some ⟨w.heap.size + 1 + 1 + 1, 0, none⟩)], .string x.1, .string x.2, undef, undef, undef, undef, undef, undef, undef, undef, undef, undef, undef, undef, undef, undef, undef, undef, undef, undef, undef, undef], defers := [] }) ?assign ?body ?done ?stop
 case assign =>
  intro l x W K hK
  gi_wp2
  exact hK
 case body =>
  rintro l pre x W ⟨⟨⟨⟨v, hv, hrow, hg1, hg2⟩, hB⟩, hbT, hbK⟩, hall⟩ hlt
  have hc0 := hbT.cell
  have hc1 := hv.cell
  by_cases hx : lt x.1 b = true
  ·have hl : ∀ W, Calls Try.prog 109 #[.string x.1, .string b] W fun e w' => e = .returned (.bool true) ∧ w' = W := fun W => by
    have := less_any x.1 b W; rw [hx] at this; exact this
   gi_wp2_with (first
    | (refine ⟨trivial, ?_⟩; gi_at_call 109; refine (CallsIn.inRound l (callsIn_wide.2 (hl W))).mono ?_; rintro e w1 ⟨rfl, hw⟩; obtain rfl := hw.symm)
    | (gi_at_builtin; refine wpListIn_append_own_at _ rfl _ _ 48 rfl w.heap.size 9 i0 (.string ⟨#[]⟩) 1 16 underS hi hz0 hz1 hz2 rfl (by decide) _ _ _ rfl (hrow.alloc _) ⟨W.heap.size, 0, none⟩ 1 1 [.string x.1] rfl rfl (cell_one_new _ _ _) (by simp [Value.oneCell']) (by omega) (by omega) (by have := hB.size; simp; omega) ?_; intro v' w1 hown' hgrow _ hat; obtain ⟨g', cap', rfl⟩ := ownsRow_succ hown'; obtain ⟨hv1, hv2, hr2, hk2, hb2⟩ := hv.appended (by decide) hrow hB.size (by omega) hown' hgrow; have hc2 := hv1.cell; have hf2 := hv1.frozen; have hk1 := ((hbK.alloc _).kept hgrow (Ne.symm hg2)).other (B' := w.heap.size + 1) (by omega) (.slice (some ⟨g', 0, none⟩) (pre.length + 1) cap'); have ht1 := ((hbT.alloc _).kept hgrow (Ne.symm hg1)).other (B' := w.heap.size + 1) (by omega) (.slice (some ⟨g', 0, none⟩) (pre.length + 1) cap')))
   have hn4 := hbK.lt
   have hG : ∀ q, q < W.heap.size → v.ownBlock ≠ some q → some g' ≠ some q := fun q hq hn e => by
    have e' : (Value.slice (some ⟨g', 0, none⟩) (pre.length + 1) cap').ownBlock = some q := e
    rcases hat with h | h
    ·exact hn (h.symm.trans e')
    ·rw [h] at e'; simp at e'; omega
   exact ⟨hk2.from _, ⟨hb2.size, fun k h => h.elim (hb2.block k) (fun e => by subst e; exact hk1.trans hbK.symm)⟩,
    ⟨⟨⟨_, hv2, by rw [List.map_append, List.length_append]; exact hr2, hG _ (by omega) hg1, hG _ hn4 hg2⟩, hB.trans hb2⟩, ht1, hk1⟩, fun y hy => by
     rcases List.mem_append.1 hy with hy | hy
     ·exact hall y hy
     ·simp at hy; subst hy; exact hx⟩
  ·have hx' : lt x.1 b = false := by simpa using hx
   have hl : ∀ W, Calls Try.prog 109 #[.string x.1, .string b] W fun e w' => e = .returned (.bool false) ∧ w' = W := fun W => by
    have := less_any x.1 b W; rw [hx'] at this; exact this
   gi_wp2_with (refine ⟨trivial, ?_⟩; gi_at_call 109; refine (CallsIn.inRound l (callsIn_wide.2 (hl W))).mono ?_; rintro e w1 ⟨rfl, hw⟩; obtain rfl := hw.symm)
   exact ⟨KeepsFrom.refl _ _, rfl, pre, x, rfl, ⟨⟨⟨v, hv, hrow, hg1, hg2⟩, hB⟩, hbT, hbK⟩, hall, hx'⟩
 case done =>
  rintro D ys W hD rfl ⟨⟨⟨⟨v, hv, hrow, _, _⟩, hB⟩, hbT, hbK⟩, hall⟩ hK
  have hL : (walkB s T).map (·.1) = cutL s b T := by
   unfold cutL
   have := List.takeWhile_append_of_pos (p := fun x : ByteArray × ByteArray => lt x.1 b) (l₁ := walkB s T) (l₂ := []) (by simpa using hall)
   rw [List.append_nil] at this
   rw [this]; simp
  clear hall hbT hbK
  obtain ⟨L, hLe⟩ : ∃ L, L = cutL s b T := ⟨_, rfl⟩
  rw [← hLe] at hL
  have hLA : Aside (L = cutL s b T) := hLe
  clear hLe
  rw [← List.length_map (f := fun x : ByteArray × ByteArray => x.1), hL, show (walkB s T).map (fun x => Value.string x.1) = L.map Value.string from by rw [← hL]; simp] at hrow
  obtain ⟨A, cp, rfl, hcp, hrd⟩ := row_open hrow
  have hMW := h.below hB
  have hlt := h.lt
  have hsz := hB.size
  have hDk := (Array.getElem?_eq_some_iff.1 hK).1
  have hD' : w.heap.size + 1 + 1 + 1 < D := by simp at hD; omega
  have hbx := hv
  have hbl := hv.lt
  have hLn : (L.length : Int) < 4294967296 := by rw [← hL, List.length_map]; omega
  have hc1 := hv.cell
  clear hrow hv
  gi_wp2
  refine wpIn_wide.2 ?_
  go_loopg [26] L.length (fun g i wr => ∃ j : Int, i = .int .i64 j ∧ 0 ≤ j ∧ j.toNat + g = L.length ∧ MpN wr p (dropAll (L.take j.toNat) T) ∧ Fr (mb p ++ T.bs) W wr)
  case atStart => exact ⟨0, rfl, Int.le_refl _, by simp, by simpa [dropAll] using hMW, Fr.refl _ _⟩
  case round =>
   obtain ⟨j, rfl, h0j, hj, hM, hf⟩ := hrel
   have hin : ∀ q, w.heap.size ≤ q → q ∉ mb p ++ T.bs := fun q hq hm => by have := hlt q hm; omega
   cases gk with
   | zero =>
    have hd : decide (j < (L.length : Int)) = false := decide_eq_false (by omega)
    have hbw : Boxed wr (w.heap.size + 1) 48 (.slice A L.length cp) := (hf.block _ hbl (hin _ (by omega))).trans hbx
    have hcw := hbw.cell
    have hKw := (hf.block D hDk (hin _ (by omega))).trans hK
    rw [show j.toNat = L.length by omega, List.take_length] at hM
    clear hrd hc1 hbx
    go_wp2
    gi_wp2
    refine ⟨by simp, .inl ⟨_, _, rfl, run_takeDeferred hKw, ?_⟩⟩
    obtain rfl := hLA.out
    have fw : Fr (mb p ++ T.bs) w wr := (Fr.of_below hB).trans hf (fun x hx => .inl hx)
    refine ⟨_, results_tmp rfl _ _ _, rfl, hM.fr (B := [D]) (Fr.one_put _ _ _) ?_ ?_, Fr.putObj fw (by omega) _⟩
    ·rintro a rfl
     have := hlt a.block (by simp [mb])
     simp; omega
    ·intro x hx
     have := hlt x (by simp [dropAll_mem _ _ _ hx])
     simp; omega
   | succ g =>
    have hd : decide (j < (L.length : Int)) = true := decide_eq_true (by omega)
    obtain ⟨k, hk⟩ : ∃ k, L[j.toNat]? = some k := ⟨_, List.getElem?_eq_getElem (by omega)⟩
    obtain ⟨gb, rfl, hgb, hgl, hcell⟩ := hrd j.toNat (.string k) (by rw [List.getElem?_map, hk]; rfl)
    have hcw : wr.cell? ⟨gb, j.toNat, none⟩ = some (.string k) := by
     have := hf.block gb hgl (hin _ hgb)
     unfold World.cell? at hcell ⊢
     rw [this]; exact hcell
    have e1 : L.take (j + 1).toNat = L.take j.toNat ++ [k] := by rw [show (j + 1).toNat = j.toNat + 1 by omega, List.take_add_one, hk]; rfl
    have e1A : Aside (L.take (j + 1).toNat = L.take j.toNat ++ [k]) := e1
    clear e1
    clear hrd hc1 hbx hk
    cases p with
    | none =>
     exfalso
     obtain rfl : T = .nil := h
     have : L = [] := by
      rw [← hL]
      simp [walkB] -- s (.nil : Kn ByteArray ByteArray) = [] from rfl)
     rw [this] at hj; simp at hj
    | some a =>
     obtain ⟨ha, hM⟩ := hM
     obtain ⟨m, rfl⟩ : ∃ m, a = ⟨m, 0, none⟩ := ⟨a.block, ha⟩
     have hjA : Aside (0 ≤ j ∧ j.toNat + (g + 1) = L.length) := ⟨h0j, hj⟩
     clear ha h hin hL
     replace hM : Mp wr m _ := hM
     have W1 := mdrop_any k hM (Kn.dropAll_cnt' _ _ hc)
     have d0 : decide (0 ≤ j) = true := decide_eq_true h0j
     have d1 := eq_true h0j
     have d2 := eq_true (show j < (L.length : Int) by omega)
     clear h0j hj
     clear bT bO bN bK hB0 hT hD hMW hlt hc hwl hi hz0 hz1 hz2 hB hK hmax hcell hsz hDk hD' hbl hgb hgl
     go_wp2_with (go_at_call 92; refine W1.mono ?_; clear W1; rintro e w1 ⟨rfl, hM1, hf1⟩)
     go_roundg g
     case measure => omega
     case rel =>
      refine ⟨j + 1, ?_, by have := hjA.out.1; omega, by have := hjA.out; omega, ⟨rfl, by rw [e1A.out, dropAll_snoc]; exact hM1⟩, hf.trans hf1 (fun x hx => .inl ?_)⟩
      ·have : wrap64 (j + 1) = j + 1 := by have hj := hjA.out; rw [IntWalk.wrap64_in _ (by omega)]
       rw [this]
      ·simp only [mb, List.singleton_append, List.mem_cons] at hx ⊢
       exact hx.imp id (dropAll_mem _ _ _)
 case stop =>
  rintro D c ys W hD hpre ⟨rfl, pre', x, rfl, ⟨⟨⟨v, hv, hrow, _, _⟩, hB⟩, hbT, hbK⟩, hall, hx'⟩ hK
  have hL : pre'.map (·.1) = cutL s b T := by
   obtain ⟨r, hr⟩ := hpre
   unfold cutL
   rw [← hr, List.append_assoc, List.takeWhile_append_of_pos (by simpa using hall)]
   simp [hx']
  clear hall hbT hbK hx'
  obtain ⟨L, hLe⟩ : ∃ L, L = cutL s b T := ⟨_, rfl⟩
  rw [← hLe] at hL
  have hLA : Aside (L = cutL s b T) := hLe
  clear hLe
  rw [← List.length_map (f := fun x : ByteArray × ByteArray => x.1), hL, show pre'.map (fun x => Value.string x.1) = L.map Value.string from by rw [← hL]; simp] at hrow
  obtain ⟨A, cp, rfl, hcp, hrd⟩ := row_open hrow
  have hMW := h.below hB
  have hlt := h.lt
  have hsz := hB.size
  have hDk := (Array.getElem?_eq_some_iff.1 hK).1
  have hD' : w.heap.size + 1 + 1 + 1 < D := by simp at hD; omega
  have hbx := hv
  have hbl := hv.lt
  have hLn : (L.length : Int) < 4294967296 := by rw [← hL, List.length_map]; obtain ⟨r, hr⟩ := hpre; have := congrArg List.length hr; simp at this; omega
  have hc1 := hv.cell
  clear hrow hv
  gi_wp2
  refine wpIn_wide.2 ?_
  go_loopg [26] L.length (fun g i wr => ∃ j : Int, i = .int .i64 j ∧ 0 ≤ j ∧ j.toNat + g = L.length ∧ MpN wr p (dropAll (L.take j.toNat) T) ∧ Fr (mb p ++ T.bs) W wr)
  case atStart => exact ⟨0, rfl, Int.le_refl _, by simp, by simpa [dropAll] using hMW, Fr.refl _ _⟩
  case round =>
   obtain ⟨j, rfl, h0j, hj, hM, hf⟩ := hrel
   have hin : ∀ q, w.heap.size ≤ q → q ∉ mb p ++ T.bs := fun q hq hm => by have := hlt q hm; omega
   cases gk with
   | zero =>
    have hd : decide (j < (L.length : Int)) = false := decide_eq_false (by omega)
    have hbw : Boxed wr (w.heap.size + 1) 48 (.slice A L.length cp) := (hf.block _ hbl (hin _ (by omega))).trans hbx
    have hcw := hbw.cell
    have hKw := (hf.block D hDk (hin _ (by omega))).trans hK
    rw [show j.toNat = L.length by omega, List.take_length] at hM
    clear hrd hc1 hbx
    go_wp2
    gi_wp2
    refine ⟨by simp, .inl ⟨_, _, rfl, run_takeDeferred hKw, ?_⟩⟩
    obtain rfl := hLA.out
    have fw : Fr (mb p ++ T.bs) w wr := (Fr.of_below hB).trans hf (fun x hx => .inl hx)
    refine ⟨_, results_tmp rfl _ _ _, rfl, hM.fr (B := [D]) (Fr.one_put _ _ _) ?_ ?_, Fr.putObj fw (by omega) _⟩
    ·rintro a rfl
     have := hlt a.block (by simp [mb])
     simp; omega
    ·intro x hx
     have := hlt x (by simp [dropAll_mem _ _ _ hx])
     simp; omega
   | succ g =>
    have hd : decide (j < (L.length : Int)) = true := decide_eq_true (by omega)
    obtain ⟨k, hk⟩ : ∃ k, L[j.toNat]? = some k := ⟨_, List.getElem?_eq_getElem (by omega)⟩
    obtain ⟨gb, rfl, hgb, hgl, hcell⟩ := hrd j.toNat (.string k) (by rw [List.getElem?_map, hk]; rfl)
    have hcw : wr.cell? ⟨gb, j.toNat, none⟩ = some (.string k) := by
     have := hf.block gb hgl (hin _ hgb)
     unfold World.cell? at hcell ⊢
     rw [this]; exact hcell
    have e1 : L.take (j + 1).toNat = L.take j.toNat ++ [k] := by rw [show (j + 1).toNat = j.toNat + 1 by omega, List.take_add_one, hk]; rfl
    have e1A : Aside (L.take (j + 1).toNat = L.take j.toNat ++ [k]) := e1
    clear e1
    clear hrd hc1 hbx hk
    cases p with
    | none =>
     exfalso
     obtain rfl : T = .nil := h
     have : L = [] := by
      rw [← hL]
      simpa [walkB] using (by obtain ⟨r, hr⟩ := hpre; simp [walkB] at hr : pre' = [])
     rw [this] at hj; simp at hj
    | some a =>
     obtain ⟨ha, hM⟩ := hM
     obtain ⟨m, rfl⟩ : ∃ m, a = ⟨m, 0, none⟩ := ⟨a.block, ha⟩
     have hjA : Aside (0 ≤ j ∧ j.toNat + (g + 1) = L.length) := ⟨h0j, hj⟩
     clear ha h hin hL
     replace hM : Mp wr m _ := hM
     have W1 := mdrop_any k hM (Kn.dropAll_cnt' _ _ hc)
     have d0 : decide (0 ≤ j) = true := decide_eq_true h0j
     have d1 := eq_true h0j
     have d2 := eq_true (show j < (L.length : Int) by omega)
     clear h0j hj
     clear bT bO bN bK hB0 hT hD hMW hlt hc hwl hi hz0 hz1 hz2 hB hK hmax hcell hsz hDk hD' hbl hgb hgl
     go_wp2_with (go_at_call 92; refine W1.mono ?_; clear W1; rintro e w1 ⟨rfl, hM1, hf1⟩)
     go_roundg g
     case measure => omega
     case rel =>
      refine ⟨j + 1, ?_, by have := hjA.out.1; omega, by have := hjA.out; omega, ⟨rfl, by rw [e1A.out, dropAll_snoc]; exact hM1⟩, hf.trans hf1 (fun x hx => .inl ?_)⟩
      ·have : wrap64 (j + 1) = j + 1 := by have hj := hjA.out; rw [IntWalk.wrap64_in _ (by omega)]
       rw [this]
      ·simp only [mb, List.singleton_append, List.mem_cons] at hx ⊢
       exact hx.imp id (dropAll_mem _ _ _)
end Go.Proofs.Ytidaiafmhidooaa.OrdSs
end
section
namespace Go.Proofs.Ytidaiafmhidooaa.Ord
namespace Kn
variable {K V : Type}
end Kn
structure Lin {K : Type} (lt : K → K → Bool) : Prop where
 irr : ∀ a, lt a a = false
 tr : ∀ {a b c}, lt a b = true → lt b c = true → lt a c = true
 tri : ∀ {a b}, lt a b = false → lt b a = false → a = b
theorem Lin.asym {K : Type} {lt : K → K → Bool} (L : Lin lt) {a b : K} (h : lt a b = true) : lt b a = false := by
 cases k : lt b a with
 | false => rfl
 | true => have := L.tr h k; rw [L.irr] at this; cases this
variable {K V : Type} {lt : K → K → Bool}
abbrev Rise (lt : K → K → Bool) (l : List (K × V)) : Prop := l.Pairwise (fun x y => lt x.1 y.1 = true)
def ins (lt : K → K → Bool) (key : K) (val : V) (l : List (K × V)) : List (K × V) := l.filter (fun x => lt x.1 key) ++ (key, val) :: l.filter (fun x => lt key x.1)
def del (lt : K → K → Bool) (key : K) (l : List (K × V)) : List (K × V) := l.filter (fun x => lt x.1 key || lt key x.1)
def lookK (lt : K → K → Bool) (key : K) (l : List (K × V)) : Option V := (l.find? (fun x => !lt x.1 key && !lt key x.1)).map (·.2)
theorem fil_all {p : K × V → Bool} {l : List (K × V)} (h : ∀ x ∈ l, p x = true) : l.filter p = l := List.filter_eq_self.2 h
theorem fil_none {p : K × V → Bool} {l : List (K × V)} (h : ∀ x ∈ l, p x = false) : l.filter p = [] := List.filter_eq_nil_iff.2 (fun x hx => by rw [h x hx]; simp)
theorem rise_node {b : Nat} {k : K} {v : V} {l r : Kn K V} (h : Rise lt (Kn.node b k v l r).toL) :
  Rise lt l.toL ∧ Rise lt r.toL ∧ (∀ x ∈ l.toL, lt x.1 k = true) ∧ (∀ x ∈ r.toL, lt k x.1 = true) := by
 simp only [Rise, Kn.toL, List.pairwise_append, List.pairwise_cons] at h
 obtain ⟨h1, ⟨h2, h3⟩, h4⟩ := h
 exact ⟨h1, h3, fun x hx => h4 x hx (k, v) (by simp), h2⟩
theorem put_toL (L : Lin lt) (nb : Nat) (key : K) (val : V) : ∀ T : Kn K V, Rise lt T.toL → (Kn.put lt nb key val T).toL = ins lt key val T.toL
 | .nil, _ => by simp [Kn.put, Kn.toL, ins]
 | .node b k v l r, h => by
  obtain ⟨hl, hr, h1, h2⟩ := rise_node h
  unfold Kn.put
  by_cases hA : lt key k = true
  ·rw [if_pos hA, Kn.even_toL, put_toL L nb key val l hl]
   have e1 : r.toL.filter (fun x => lt x.1 key) = [] := fil_none fun x hx => L.asym (L.tr hA (h2 x hx))
   have e2 : r.toL.filter (fun x => lt key x.1) = r.toL := fil_all fun x hx => L.tr hA (h2 x hx)
   simp only [ins, Kn.toL, List.filter_append, List.filter_cons, e1, e2, hA, L.asym hA]
   simp
  ·rw [if_neg hA]
   have hA' : lt key k = false := by simpa using hA
   by_cases hB : lt k key = true
   ·rw [if_pos hB, Kn.even_toL, put_toL L nb key val r hr]
    have e1 : l.toL.filter (fun x => lt x.1 key) = l.toL := fil_all fun x hx => L.tr (h1 x hx) hB
    have e2 : l.toL.filter (fun x => lt key x.1) = [] := fil_none fun x hx => L.asym (L.tr (h1 x hx) hB)
    simp only [ins, Kn.toL, List.filter_append, List.filter_cons, e1, e2, hB, L.asym hB]
    simp
   ·rw [if_neg hB]
    have hB' : lt k key = false := by simpa using hB
    obtain rfl := L.tri hA' hB'
    have e1 : l.toL.filter (fun x => lt x.1 key) = l.toL := fil_all fun x hx => h1 x hx
    have e2 : l.toL.filter (fun x => lt key x.1) = [] := fil_none fun x hx => L.asym (h1 x hx)
    have e3 : r.toL.filter (fun x => lt x.1 key) = [] := fil_none fun x hx => L.asym (h2 x hx)
    have e4 : r.toL.filter (fun x => lt key x.1) = r.toL := fil_all fun x hx => h2 x hx
    simp only [ins, Kn.toL, List.filter_append, List.filter_cons, e1, e2, e3, e4, L.irr]
    simp
theorem least_toL : ∀ (b : Nat) (k : K) (v : V) (l r : Kn K V), (Kn.node b k v l r).toL = ((Kn.least b k v l r).2.2.1, (Kn.least b k v l r).2.2.2.1) :: (Kn.least b k v l r).1.toL
 | b, k, v, .nil, r => rfl
 | b, k, v, .node lb lk lv ll lr, r => by
  simp only [Kn.least, Kn.even_toL]
  rw [Kn.toL, least_toL lb lk lv ll lr]
  rfl
theorem drop_toL (L : Lin lt) (key : K) : ∀ T : Kn K V, Rise lt T.toL → (Kn.drop lt key T).toL = del lt key T.toL
 | .nil, _ => by simp [Kn.drop, Kn.toL, del]
 | .node b k v l r, h => by
  obtain ⟨hl, hr, h1, h2⟩ := rise_node h
  unfold Kn.drop
  by_cases hA : lt key k = true
  ·rw [if_pos hA, Kn.even_toL, drop_toL L key l hl]
   have e2 : r.toL.filter (fun x => lt x.1 key || lt key x.1) = r.toL := fil_all fun x hx => by rw [L.tr hA (h2 x hx)]; simp
   simp only [del, Kn.toL, List.filter_append, List.filter_cons, e2, hA]
   simp
  ·rw [if_neg hA]
   have hA' : lt key k = false := by simpa using hA
   by_cases hB : lt k key = true
   ·rw [if_pos hB, Kn.even_toL, drop_toL L key r hr]
    have e1 : l.toL.filter (fun x => lt x.1 key || lt key x.1) = l.toL := fil_all fun x hx => by rw [L.tr (h1 x hx) hB]; simp
    simp only [del, Kn.toL, List.filter_append, List.filter_cons, e1, hB]
    simp
   ·rw [if_neg hB]
    have hB' : lt k key = false := by simpa using hB
    obtain rfl := L.tri hA' hB'
    have e1 : l.toL.filter (fun x => lt x.1 key || lt key x.1) = l.toL := fil_all fun x hx => by rw [h1 x hx]; simp
    have e2 : r.toL.filter (fun x => lt x.1 key || lt key x.1) = r.toL := fil_all fun x hx => by rw [h2 x hx]; simp
    cases r with
    | nil =>
     simp only [del, Kn.toL, List.filter_append, List.filter_cons, e1, L.irr]
     simp
    | node rb rk rv rl rr =>
     simp only [Kn.even_toL, ← least_toL]
     rw [show (Kn.node b key v l (Kn.node rb rk rv rl rr)).toL = l.toL ++ (key, v) :: (Kn.node rb rk rv rl rr).toL from rfl]
     simp only [del, List.filter_append, List.filter_cons, e1, e2, L.irr]
     simp
theorem find_look (L : Lin lt) (key : K) : ∀ T : Kn K V, Rise lt T.toL → (match Kn.find lt key T with | .nil => none | .node _ _ v _ _ => some v) = lookK lt key T.toL
 | .nil, _ => rfl
 | .node b k v l r, h => by
  obtain ⟨hl, hr, h1, h2⟩ := rise_node h
  unfold Kn.find
  by_cases hA : lt key k = true
  ·rw [if_pos hA, find_look L key l hl]
   have e2 : r.toL.find? (fun x => !lt x.1 key && !lt key x.1) = none := by
    rw [List.find?_eq_none]; intro x hx; rw [L.tr hA (h2 x hx)]; simp
   simp only [lookK, Kn.toL, List.find?_append, List.find?_cons, hA, e2]
   simp
  ·rw [if_neg hA]
   have hA' : lt key k = false := by simpa using hA
   by_cases hB : lt k key = true
   ·rw [if_pos hB, find_look L key r hr]
    have e1 : l.toL.find? (fun x => !lt x.1 key && !lt key x.1) = none := by
     rw [List.find?_eq_none]; intro x hx; rw [L.tr (h1 x hx) hB]; simp
    simp only [lookK, Kn.toL, List.find?_append, List.find?_cons, hB, e1]
    simp
   ·rw [if_neg hB]
    have hB' : lt k key = false := by simpa using hB
    obtain rfl := L.tri hA' hB'
    have e1 : l.toL.find? (fun x => !lt x.1 key && !lt key x.1) = none := by
     rw [List.find?_eq_none]; intro x hx; rw [h1 x hx]; simp
    simp only [lookK, Kn.toL, List.find?_append, List.find?_cons, e1, L.irr]
    simp
theorem ins_rise (L : Lin lt) (key : K) (val : V) {l : List (K × V)} (h : Rise lt l) : Rise lt (ins lt key val l) := by
 simp only [Rise, ins, List.pairwise_append, List.pairwise_cons, List.mem_filter, List.mem_cons]
 refine ⟨h.filter _, ⟨fun x hx => hx.2, h.filter _⟩, ?_⟩
 rintro x ⟨_, hx⟩ y (rfl | ⟨_, hy⟩)
 ·exact hx
 ·exact L.tr hx hy
theorem del_rise (key : K) {l : List (K × V)} (h : Rise lt l) : Rise lt (del lt key l) := h.filter _
end Go.Proofs.Ytidaiafmhidooaa.Ord
end
section
namespace Go.Proofs.Ytidaiafmhidooaa.OrdSs
open Go.RowKit Go.Shelf Go.Proofs.YtidaiafmhidooaaW.PrintWords Go.Proofs.YtidaiafmhidooaaW.PrintLast Go.Proofs.YtidaiafmhidooaaW.PrintMore Go.Proofs.Ytidaiafmhidooaa.Own Go.Proofs.Ytidaiafmhidooaa.Ord
theorem ba_ext {a b : ByteArray} (h : a.toList = b.toList) : a = b := by
 cases a; cases b
 rw [Lib.toList_data, Lib.toList_data] at h
 congr 1
 exact Array.toList_inj.1 h
theorem lin : Lin (K := ByteArray) lt := ⟨fun a => Bo.irrefl _, fun h k => Bo.trans h k, fun h k => ba_ext (Bo.tri h k)⟩
theorem walkA_toL : ∀ T : Kn ByteArray ByteArray, walkA T = T.toL
 | .nil => rfl
 | .node _ _ _ l r => by rw [walkA, Kn.toL, walkA_toL l, walkA_toL r]
theorem walkB_toL (s : ByteArray) : ∀ T : Kn ByteArray ByteArray, Rise lt T.toL → walkB s T = T.toL.filter (fun x => !lt x.1 s)
 | .nil, _ => rfl
 | .node b k v l r, h => by
  obtain ⟨hl, hr, h1, h2⟩ := rise_node h
  unfold walkB
  by_cases hA : lt k s = true
  ·rw [if_pos hA, walkB_toL s r hr]
   have e1 : l.toL.filter (fun x => !lt x.1 s) = [] := fil_none fun x hx => by rw [lin.tr (h1 x hx) hA]; rfl
   simp only [Kn.toL, List.filter_append, List.filter_cons, e1, hA]
   simp
  ·rw [if_neg hA, walkB_toL s l hl, walkA_toL]
   have hA' : lt k s = false := by simpa using hA
   have e2 : r.toL.filter (fun x => !lt x.1 s) = r.toL := fil_all fun x hx => by
    cases q : lt x.1 s with
    | false => rfl
    | true => rw [lin.tr (h2 x hx) q] at hA'; cases hA'
   simp only [Kn.toL, List.filter_append, List.filter_cons, e2, hA']
   simp
theorem takeWhile_rise (b : ByteArray) : ∀ l : List (ByteArray × ByteArray), Rise lt l → l.takeWhile (fun x => lt x.1 b) = l.filter (fun x => lt x.1 b)
 | [], _ => rfl
 | x :: l, h => by
  rw [Rise, List.pairwise_cons] at h
  rw [List.takeWhile_cons, List.filter_cons]
  cases hx : lt x.1 b with
  | true => simp only [if_true]; rw [takeWhile_rise b l h.2]
  | false =>
   simp only [Bool.false_eq_true, if_false]
   rw [fil_none]
   intro y hy
   cases q : lt y.1 b with
   | false => rfl
   | true => rw [lin.tr (h.1 y hy) q] at hx; cases hx
theorem cutL_eq (s b : ByteArray) (T : Kn ByteArray ByteArray) (h : Rise lt T.toL) : cutL s b T = (T.toL.filter (fun x => !lt x.1 s && lt x.1 b)).map (·.1) := by
 unfold cutL
 rw [walkB_toL s T h, takeWhile_rise b _ (h.filter _), List.filter_filter]
 congr 1
 apply List.filter_congr
 intro x _
 rw [Bool.and_comm]
theorem dropAll_toL : ∀ (l : List ByteArray) (T : Kn ByteArray ByteArray), Rise lt T.toL → (dropAll l T).toL = T.toL.filter (fun x => l.all (fun k => lt x.1 k || lt k x.1)) ∧ Rise lt (dropAll l T).toL
 | [], T, h => ⟨(fil_all (fun _ _ => rfl)).symm, h⟩
 | k :: l, T, h => by
  have e := drop_toL lin k T h
  have h2 : Rise lt (Kn.drop lt k T).toL := by rw [e]; exact del_rise k h
  obtain ⟨i1, i2⟩ := dropAll_toL l (Kn.drop lt k T) h2
  refine ⟨?_, i2⟩
  show (dropAll l (Kn.drop lt k T)).toL = _
  rw [i1, e, del, List.filter_filter]
  apply List.filter_congr
  intro x _
  rw [List.all_cons, Bool.and_comm]
def cutM (s b : ByteArray) (l : List (ByteArray × ByteArray)) : List (ByteArray × ByteArray) := l.filter (fun x => lt x.1 s || !lt x.1 b)
theorem cut_toL (s b : ByteArray) (T : Kn ByteArray ByteArray) (h : Rise lt T.toL) : (dropAll (cutL s b T) T).toL = cutM s b T.toL ∧ Rise lt (cutM s b T.toL) := by
 obtain ⟨e, r⟩ := dropAll_toL (cutL s b T) T h
 have e2 : (dropAll (cutL s b T) T).toL = cutM s b T.toL := by
  rw [e, cutM]
  apply List.filter_congr
  intro x hx
  rw [cutL_eq s b T h]
  cases hA : lt x.1 s with
  | true =>
   simp only [Bool.true_or, List.all_eq_true, List.mem_map, List.mem_filter, Bool.and_eq_true, Bool.not_eq_true']
   rintro k ⟨y, ⟨_, h1, _⟩, rfl⟩
   have : lt x.1 y.1 = true := by
    cases q : lt x.1 y.1 with
    | true => rfl
    | false =>
     cases q2 : lt y.1 x.1 with
     | true => rw [lin.tr q2 hA] at h1; cases h1
     | false => rw [lin.tri q q2] at hA; rw [hA] at h1; cases h1
   rw [this]; rfl
  | false =>
   cases hB : lt x.1 b with
   | true =>
    simp only [Bool.false_or, Bool.not_true]
    rw [List.all_eq_false]
    exact ⟨x.1, List.mem_map.2 ⟨x, List.mem_filter.2 ⟨hx, by rw [hA, hB]; rfl⟩, rfl⟩, by rw [lin.irr]; decide⟩
   | false =>
    simp only [Bool.false_or, Bool.not_false, List.all_eq_true, List.mem_map, List.mem_filter, Bool.and_eq_true, Bool.not_eq_true']
    rintro k ⟨y, ⟨_, _, h1⟩, rfl⟩
    have : lt y.1 x.1 = true := by
     cases q : lt y.1 x.1 with
     | true => rfl
     | false =>
      cases q2 : lt x.1 y.1 with
      | true => rw [lin.tr q2 h1] at hB; cases hB
      | false => rw [lin.tri q q2] at h1; rw [h1] at hB; cases hB
    rw [this, Bool.or_true]
 exact ⟨e2, e2 ▸ r⟩
theorem got_look (key : ByteArray) (T : Kn ByteArray ByteArray) (h : Rise lt T.toL) : got key T = match lookK lt key T.toL with | some v => (v, true) | none => (ByteArray.empty, false) := by
 rw [← find_look lin key T h]
 unfold got
 cases Kn.find lt key T <;> rfl
def Hold (U : Nat → Prop) (w : World) (m : Nat) (L : List (ByteArray × ByteArray)) : Prop := ∃ T, Mp w m T ∧ T.toL = L ∧ Rise lt L ∧ ∀ x ∈ m :: T.bs, U x
theorem Hold.mono {U U' : Nat → Prop} {w : World} {m : Nat} {L : List (ByteArray × ByteArray)} (h : Hold U w m L) (hU : ∀ k, U k → U' k) : Hold U' w m L := by
 obtain ⟨T, h1, h2, h3, h4⟩ := h
 exact ⟨T, h1, h2, h3, fun x hx => hU x (h4 x hx)⟩
theorem Hold.bound {U : Nat → Prop} {w : World} {m : Nat} {L : List (ByteArray × ByteArray)} (h : Hold U w m L) : Hold (fun k => U k ∧ k < w.heap.size) w m L := by
 obtain ⟨T, h1, h2, h3, h4⟩ := h
 refine ⟨T, h1, h2, h3, fun x hx => ⟨h4 x hx, ?_⟩⟩
 rcases List.mem_cons.1 hx with rfl | hx
 ·exact blk_lt h1.blk
 ·exact in_lt h1.inn x hx
theorem Hold.frm {U : Nat → Prop} {w w' : World} {m : Nat} {L : List (ByteArray × ByteArray)} (h : Hold U w m L) {M : Nat → Prop} (f : It.FrM M w w') (hM : ∀ k, U k → k < w.heap.size → ¬ M k) : Hold U w' m L := by
 obtain ⟨T, hT, h2, h3, h4⟩ := h
 have f' : Fr ((List.range w.heap.size).filter (fun k => decide (k ∉ m :: T.bs))) w w' := ⟨f.os, f.tape, f.output, f.size, fun k hk hn => f.block k hk (hM k (by
  refine h4 k ?_
  by_cases q : k ∈ m :: T.bs
  ·exact q
  ·exact absurd (List.mem_filter.2 ⟨List.mem_range.2 hk, by simpa using q⟩) hn) hk)⟩
 refine ⟨T, hT.fr f' (fun hm => ?_) (fun x hx hm => ?_), h2, h3, h4⟩
 ·have := (List.mem_filter.1 hm).2
  simp at this
 ·have := (List.mem_filter.1 hm).2
  simp only [decide_eq_true_eq] at this
  exact this (List.mem_cons_of_mem _ hx)
theorem Hold.below {U : Nat → Prop} {w w' : World} {m : Nat} {L : List (ByteArray × ByteArray)} (h : Hold U w m L) (b : Below w.heap.size w w') : Hold U w' m L :=
 h.frm (It.FrM.of_below (M := fun _ => False) b) (fun _ _ _ q => q)
theorem Hold.putObj {U : Nat → Prop} {w : World} {m : Nat} {L : List (ByteArray × ByteArray)} (h : Hold U w m L) {D : Nat} {o : Obj} (o' : Obj) (hD : w.heap[D]? = some o) (ho : o.isCells = false) : Hold U (w.putObj D o') m L := by
 obtain ⟨T, hM, h2, h3, h4⟩ := h
 refine ⟨T, hM.fr (B := [D]) ⟨rfl, rfl, rfl, by simp, fun k _ hn => World.putObj_heap_other (by simp at hn; omega)⟩ (fun hm => ?_) (fun x hx hm => ?_), h2, h3, h4⟩
 ·obtain rfl : m = D := by simpa using hm
  rw [hM.blk] at hD; cases hD; cases ho
 ·obtain rfl : x = D := by simpa using hm
  obtain ⟨cells, hc⟩ := in_typed hM.inn x hx
  rw [hc] at hD; cases hD; cases ho
theorem frm_of_fr {B : List Nat} {U : Nat → Prop} {w w' : World} (f : Fr B w w') (hB : ∀ k ∈ B, U k) : It.FrM U w w' := ⟨f.os, f.tape, f.output, f.size, fun k hk hn => f.block k hk (fun hm => hn (hB k hm))⟩
theorem hold_new (w : World) : Calls Try.prog 89 #[] w fun e w' => ∃ m, e = .returned (.pointer (some ⟨m, 0, none⟩)) ∧ Hold (fun k => w.heap.size ≤ k) w' m [] ∧ Below w.heap.size w w' :=
 (new_any w).mono (by
  rintro e w' ⟨m, hm, rfl, hM, fr⟩
  exact ⟨m, rfl, ⟨.nil, hM, rfl, List.Pairwise.nil, by simp [Kn.bs]; exact hm⟩, fr.below (by simp) (Nat.le_refl _)⟩)
theorem hold_put {U : Nat → Prop} {w : World} {m : Nat} {L : List (ByteArray × ByteArray)} (h : Hold U w m L) (hU : ∀ k, w.heap.size ≤ k → U k) (hl : L.length < 1000000) (k : ByteArray) (v : ByteArray) :
  Calls Try.prog 90 #[.pointer (some ⟨m, 0, none⟩), .string k, .string v] w fun e w' => (∃ b, e = .returned (.bool b)) ∧ Hold U w' m (ins lt k v L) ∧ It.FrM U w w' := by
 obtain ⟨T, hM, rfl, hr, hB⟩ := h
 have hc := Kn.cnt_len T
 refine (mput_any k v hM (by omega)).mono ?_
 rintro e w' ⟨nb, hnb, rfl, hM', fr⟩
 have ht := put_toL lin nb k v T hr
 refine ⟨⟨_, rfl⟩, ⟨_, hM', ht, ins_rise lin k v hr, fun x hx => ?_⟩, frm_of_fr fr hB⟩
 rcases List.mem_cons.1 hx with rfl | hx
 ·exact hB _ List.mem_cons_self
 ·rcases Kn.put_mem hx with e | e
  ·exact hU _ (by omega)
  ·exact hB _ (List.mem_cons_of_mem _ e)
theorem hold_get {U : Nat → Prop} {w : World} {m : Nat} {L : List (ByteArray × ByteArray)} (h : Hold U w m L) (k : ByteArray) :
  Calls Try.prog 69 #[.pointer (some ⟨m, 0, none⟩), .string k] w fun e w' => e = .returned (.tuple #[.string ((lookK lt k L).getD (ByteArray.empty)), .bool (lookK lt k L).isSome]) ∧ w' = w := by
 obtain ⟨T, hM, rfl, hr, hB⟩ := h
 have := get_any k hM
 rw [got_look k T hr] at this
 cases hq : lookK lt k T.toL with
 | none => rw [hq] at this; exact this
 | some v => rw [hq] at this; exact this
theorem hold_drop {U : Nat → Prop} {w : World} {m : Nat} {L : List (ByteArray × ByteArray)} (h : Hold U w m L) (hl : L.length < 1000000) (k : ByteArray) :
  Calls Try.prog 92 #[.pointer (some ⟨m, 0, none⟩), .string k] w fun e w' => (∃ b, e = .returned (.bool b)) ∧ Hold U w' m (del lt k L) ∧ It.FrM U w w' := by
 obtain ⟨T, hM, rfl, hr, hB⟩ := h
 have hc := Kn.cnt_len T
 refine (mdrop_any k hM (by omega)).mono ?_
 rintro e w' ⟨rfl, hM', fr⟩
 have ht := drop_toL lin k T hr
 refine ⟨⟨_, rfl⟩, ⟨_, hM', ht, del_rise k hr, fun x hx => ?_⟩, frm_of_fr fr hB⟩
 rcases List.mem_cons.1 hx with rfl | hx
 ·exact hB _ List.mem_cons_self
 ·exact hB _ (List.mem_cons_of_mem _ (Kn.drop_mem hx))
theorem hold_cut {U : Nat → Prop} {w : World} {m : Nat} {L : List (ByteArray × ByteArray)} (h : Hold U w m L) (hl : L.length < 1000000) (a b : ByteArray) :
  Calls Try.prog 107 #[.pointer (some ⟨m, 0, none⟩), .string a, .string b] w fun e w' => (∃ n, e = .returned (.int .i64 n)) ∧ Hold U w' m (cutM a b L) ∧ It.FrM U w w' := by
 obtain ⟨T, hM, rfl, hr, hB⟩ := h
 have hc := Kn.cnt_len T
 refine (cut_any a b (p := some ⟨m, 0, none⟩) ⟨rfl, hM⟩ (by omega) (by rw [walkB_toL a T hr, hc]; have := List.length_filter_le (fun x : ByteArray × ByteArray => !lt x.1 a) T.toL; omega)).mono ?_
 rintro e w' ⟨rfl, hM', fr⟩
 obtain ⟨h1, h2⟩ := cut_toL a b T hr
 refine ⟨⟨_, rfl⟩, ⟨_, hM'.2, h1, h2, fun x hx => ?_⟩, frm_of_fr fr (fun k hk => ?_)⟩
 ·rcases List.mem_cons.1 hx with rfl | hx
  ·exact hB _ List.mem_cons_self
  ·exact hB _ (List.mem_cons_of_mem _ (dropAll_mem _ _ _ hx))
 ·simp only [mb, List.singleton_append] at hk
  exact hB k hk
theorem hold_all_iter (n Bb : Nat) {U : Nat → Prop} {w0 w : World} {m : Nat} {L : List (ByteArray × ByteArray)} (h : Hold U w0 m L) (hw : Below w0.heap.size w0 w) (hBb : Bb < w.heap.size) (hc : w.cell? ⟨Bb, 0, none⟩ = some (.pointer (some ⟨m, 0, none⟩))) :
  ∃ S : Nat → Prop, (∀ k, S k → (k = Bb ∨ (U k ∧ k < w0.heap.size)) ∧ k < w.heap.size) ∧ It.Iter Fence.wide n Try.prog 93 #[.pointer (some ⟨Bb, 0, none⟩)] (fun x : ByteArray × ByteArray => #[.string x.1, .string x.2]) (fun ys => ys = L) (fun pre => pre <+: L) L.length S w := by
 obtain ⟨T, hM, rfl, hr, hB⟩ := h
 have hlt := in_lt hM.inn
 have hml := blk_lt hM.blk
 have hM' := hM.below hw
 have hsz := hw.size
 refine ⟨fun k => k = Bb ∨ k ∈ m :: T.bs, ?_, ?_⟩
 ·rintro k (rfl | hk)
  ·exact ⟨.inl rfl, hBb⟩
  ·have h1 : k < w0.heap.size := by
    rcases List.mem_cons.1 hk with rfl | hk
    ·exact hml
    ·exact hlt k hk
   exact ⟨.inr ⟨hB k hk, h1⟩, by omega⟩
 ·have := all_iter n Bb (fun k => k = Bb ∨ k ∈ m :: T.bs) (some ⟨m, 0, none⟩) T w ?_ (.inl rfl) hc ⟨.inr List.mem_cons_self, blk_cell hM'.blk 0, hM'.inn, fun x hx => .inr (List.mem_cons_of_mem _ hx)⟩
  ·rw [walkA_toL] at this
   exact this
  ·rintro k (rfl | hk)
   ·exact hBb
   ·rcases List.mem_cons.1 hk with rfl | hk
    ·omega
    ·have := hlt k hk; omega
theorem hold_from_iter (n Bb Bk : Nat) {U : Nat → Prop} {w0 w : World} {m : Nat} {L : List (ByteArray × ByteArray)} (h : Hold U w0 m L) (hw : Below w0.heap.size w0 w) (s : ByteArray) (hBb : Bb < w.heap.size) (hBk : Bk < w.heap.size) (hc : w.cell? ⟨Bb, 0, none⟩ = some (.pointer (some ⟨m, 0, none⟩))) (hk : w.cell? ⟨Bk, 0, none⟩ = some (.string s)) :
  ∃ S : Nat → Prop, (∀ k, S k → (k = Bb ∨ k = Bk ∨ (U k ∧ k < w0.heap.size)) ∧ k < w.heap.size) ∧ It.Iter Fence.wide n Try.prog 104 #[.pointer (some ⟨Bb, 0, none⟩), .pointer (some ⟨Bk, 0, none⟩)] (fun x : ByteArray × ByteArray => #[.string x.1, .string x.2]) (fun ys => ys = L.filter (fun x => !lt x.1 s)) (fun pre => pre <+: L.filter (fun x => !lt x.1 s)) (L.filter (fun x => !lt x.1 s)).length S w := by
 obtain ⟨T, hM, rfl, hr, hB⟩ := h
 have hlt := in_lt hM.inn
 have hml := blk_lt hM.blk
 have hM' := hM.below hw
 have hsz := hw.size
 have hS : ∀ k, (k = Bb ∨ k = Bk ∨ k ∈ m :: T.bs) → (k = Bb ∨ k = Bk ∨ (U k ∧ k < w0.heap.size)) ∧ k < w.heap.size := by
  rintro k (rfl | rfl | hk)
  ·exact ⟨.inl rfl, hBb⟩
  ·exact ⟨.inr (.inl rfl), hBk⟩
  ·have h1 : k < w0.heap.size := by
    rcases List.mem_cons.1 hk with rfl | hk
    ·exact hml
    ·exact hlt k hk
   exact ⟨.inr (.inr ⟨hB k hk, h1⟩), by omega⟩
 refine ⟨fun k => k = Bb ∨ k = Bk ∨ k ∈ m :: T.bs, hS, ?_⟩
 have := from_iter n Bb Bk (fun k => k = Bb ∨ k = Bk ∨ k ∈ m :: T.bs) (some ⟨m, 0, none⟩) s T w (fun k hk => (hS k hk).2) (.inl rfl) hc hk (.inr (.inl rfl)) ⟨.inr (.inr List.mem_cons_self), blk_cell hM'.blk 0, hM'.inn, fun x hx => .inr (.inr (List.mem_cons_of_mem _ hx))⟩
 rw [walkB_toL s T hr] at this
 exact this
end Go.Proofs.Ytidaiafmhidooaa.OrdSs
end
section
namespace Go.Proofs.Ytidaiafmhidooaa.Fo
open Go.RowKit Go.Proofs.YtidaiafmhidooaaW.PrintWords Go.Proofs.YtidaiafmhidooaaW.PrintLast Go.Proofs.YtidaiafmhidooaaW.PrintMore Go.Proofs.Ytidaiafmhidooaa.Own Go.Proofs.Ytidaiafmhidooaa.Ord Go.Proofs.Ytidaiafmhidooaa
open Go.Proofs.Ytidaiafmhidooaa.OrdSs (lt)
abbrev Ms := P.Ms
abbrev En := P.En
end Go.Proofs.Ytidaiafmhidooaa.Fo
end
section
namespace Go.Proofs.Ytidaiafmhidooaa.OrdSb
open Go.RowKit Go.Proofs.YtidaiafmhidooaaW.PrintWords Go.Proofs.YtidaiafmhidooaaW.PrintLast Go.Proofs.YtidaiafmhidooaaW.PrintMore Go.Proofs.Ytidaiafmhidooaa.Own Go.Proofs.Ytidaiafmhidooaa.Ord
def In (w : World) : Kn ByteArray Bool → Prop
 | .nil => True
 | .node b k v l r => w.heap[b]? = some (.cells #[.string k, .bool v, .pointer l.adr, .pointer r.adr, .int .i64 (Kn.node b k v l r).hgt, .int .i64 (Kn.node b k v l r).cnt] 127 (0, 0)) ∧ In w l ∧ In w r
theorem in_fr {w w' : World} {B : List Nat} (h : Fr B w w') : ∀ {T : Kn ByteArray Bool}, In w T → (∀ x ∈ T.bs, x ∉ B) → In w' T
 | .nil, _, _ => trivial
 | .node b k v l r, hi, hn => ⟨h.blk hi.1 (hn b (by simp [Kn.bs])), in_fr h hi.2.1 (fun x hx => hn x (by simp [Kn.bs, hx])), in_fr h hi.2.2 (fun x hx => hn x (by simp [Kn.bs, hx]))⟩
theorem in_lt {w : World} : ∀ {T : Kn ByteArray Bool}, In w T → ∀ x ∈ T.bs, x < w.heap.size
 | .nil, _, x, hx => by simp [Kn.bs] at hx
 | .node b k v l r, hi, x, hx => by
  simp only [Kn.bs, List.mem_cons, List.mem_append] at hx
  rcases hx with rfl | hx | hx
  ·exact blk_lt hi.1
  ·exact in_lt hi.2.1 x hx
  ·exact in_lt hi.2.2 x hx
theorem in_typed {w : World} : ∀ {T : Kn ByteArray Bool}, In w T → ∀ x ∈ T.bs, ∃ cells, w.heap[x]? = some (.cells cells 127 (0, 0))
 | .nil, _, x, hx => by simp [Kn.bs] at hx
 | .node b k v l r, hi, x, hx => by
  simp only [Kn.bs, List.mem_cons, List.mem_append] at hx
  rcases hx with rfl | hx | hx
  ·exact ⟨_, hi.1⟩
  ·exact in_typed hi.2.1 x hx
  ·exact in_typed hi.2.2 x hx
theorem in_drewN {w : World} (n : Nat) : ∀ {T : Kn ByteArray Bool}, In w T → In (w.drewN n) T
 | .nil, _ => trivial
 | .node _ _ _ _ _, hi => ⟨hi.1, in_drewN n hi.2.1, in_drewN n hi.2.2⟩
attribute [local go_sem] max2_int max_two
set_option maxHeartbeats 2000000
set_option maxRecDepth 100000
theorem depth_any (T : Kn ByteArray Bool) (w : World) (h : In w T) : Calls Try.prog 121 #[.pointer T.adr] w fun e w' => e = .returned (.int .i64 T.hgt) ∧ w' = w := by
 cases T with
 | nil =>
  show Calls Try.prog 121 #[.pointer none] w _
  go_enter Try.func121, Try.ntmps121
  go_wp2
  go_ret
  exact ⟨rfl, rfl⟩
 | node b k v l r =>
  show Calls Try.prog 121 #[.pointer (some ⟨b, 0, none⟩)] w _
  have c : w.cell? ⟨b, 4, none⟩ = some (.int .i64 (Kn.node b k v l r).hgt) := blk_cell h.1 4
  go_enter Try.func121, Try.ntmps121
  go_wp2
  go_ret
  exact ⟨rfl, rfl⟩
theorem size_any (T : Kn ByteArray Bool) (w : World) (h : In w T) : Calls Try.prog 110 #[.pointer T.adr] w fun e w' => e = .returned (.int .i64 T.cnt) ∧ w' = w := by
 cases T with
 | nil =>
  show Calls Try.prog 110 #[.pointer none] w _
  go_enter Try.func110, Try.ntmps110
  go_wp2
  go_ret
  exact ⟨rfl, rfl⟩
 | node b k v l r =>
  show Calls Try.prog 110 #[.pointer (some ⟨b, 0, none⟩)] w _
  have c : w.cell? ⟨b, 5, none⟩ = some (.int .i64 (Kn.node b k v l r).cnt) := blk_cell h.1 5
  go_enter Try.func110, Try.ntmps110
  go_wp2
  go_ret
  exact ⟨rfl, rfl⟩
theorem fresh_any (b : Nat) (k : ByteArray) (v : Bool) (l r : Kn ByteArray Bool) (d s : Int) (w : World)
  (hb : w.heap[b]? = some (.cells #[.string k, .bool v, .pointer l.adr, .pointer r.adr, .int .i64 d, .int .i64 s] 127 (0, 0))) (hl : In w l) (hr : In w r) (nl : b ∉ l.bs) (nr : b ∉ r.bs) (hc : l.cnt + r.cnt < 4611686018427387904) :
  Calls Try.prog 111 #[.pointer (some ⟨b, 0, none⟩)] w fun e w' => e = .returned (.pointer (some ⟨b, 0, none⟩)) ∧ In w' (.node b k v l r) ∧ Fr [b] w w' := by
 obtain ⟨m, hm⟩ : ∃ m, m = mx l.hgt r.hgt := ⟨_, rfl⟩
 have h1 := Kn.bounds l
 have h2 := Kn.bounds r
 have hm2 : 0 ≤ m ∧ m < 4611686018427387904 := by rw [hm]; unfold mx; split <;> omega
 have hw1 : IntKind.i64.wrap (1 + m) = 1 + m := IntWalk.i64_in _ (by omega)
 have hmH : Hid (m = mx l.hgt r.hgt) := hm
 clear hm
 have hw2 : IntKind.i64.wrap (1 + l.cnt) = 1 + l.cnt := IntWalk.i64_in _ (by omega)
 have hw3 : IntKind.i64.wrap (1 + l.cnt + r.cnt) = 1 + l.cnt + r.cnt := IntWalk.i64_in _ (by omega)
 go_enter Try.func111, Try.ntmps111
 go_wp2_with fail
 refine still_tail 13 (by kernel_rfl) (by kernel_rfl) (fun W hW => ?_)
 simp only [List.take_succ_cons, List.take_zero, List.drop_succ_cons, List.drop_zero]
 have hb1 : W.heap[b]? = some (.cells #[.string k, .bool v, .pointer l.adr, .pointer r.adr, .int .i64 d, .int .i64 s] 127 (0, 0)) := by rw [hW]; exact hb
 have fr1 : Fr [b] w W := by rw [hW]; exact (Fr.refl _ _).drew
 clear hW hb
 have hl1 : In W l := in_fr fr1 hl (fun x hx => by simp; rintro rfl; exact nl hx)
 have hr1 : In W r := in_fr fr1 hr (fun x hx => by simp; rintro rfl; exact nr hx)
 have c2 : W.cell? ⟨b, 2, none⟩ = some (.pointer l.adr) := blk_cell hb1 2
 have c3 : W.cell? ⟨b, 3, none⟩ = some (.pointer r.adr) := blk_cell hb1 3
 have c4 : W.cell? ⟨b, 4, none⟩ = some (.int .i64 d) := blk_cell hb1 4
 have f4 := blk_frozen hb1 4
 iterate 5 still_step
 still_call (depth_any l _ hl1)
 iterate 4 still_step
 still_call (depth_any r _ hr1)
 iterate 2 still_step
 refine wpStill_nil ?_
 simp only [show (if l.hgt < r.hgt then r.hgt else l.hgt) = m from hmH.out.symm, hw1]
 go_wp2_with fail
 refine still_tail 13 (by kernel_rfl) (by kernel_rfl) (fun W2 hW2 => ?_)
 simp only [List.take_succ_cons, List.take_zero, List.drop_succ_cons, List.drop_zero]
 have hb2 : W2.heap[b]? = some (.cells #[.string k, .bool v, .pointer l.adr, .pointer r.adr, .int .i64 (1 + m), .int .i64 s] 127 (0, 0)) := by rw [hW2]; exact blk_put hb1 4 _ rfl
 have fr2 : Fr [b] W W2 := by rw [hW2]; exact ((Fr.refl _ _).set (.inl (by simp)) _).drew
 clear hW2 hb1 c2 c3 c4 f4
 have hl2 : In W2 l := in_fr fr2 hl1 (fun x hx => by simp; rintro rfl; exact nl hx)
 have hr2 : In W2 r := in_fr fr2 hr1 (fun x hx => by simp; rintro rfl; exact nr hx)
 have c2 : W2.cell? ⟨b, 2, none⟩ = some (.pointer l.adr) := blk_cell hb2 2
 have c3 : W2.cell? ⟨b, 3, none⟩ = some (.pointer r.adr) := blk_cell hb2 3
 have c5 : W2.cell? ⟨b, 5, none⟩ = some (.int .i64 s) := blk_cell hb2 5
 have f5 := blk_frozen hb2 5
 iterate 5 still_step
 still_call (size_any l _ hl2)
 iterate 5 still_step
 still_call (size_any r _ hr2)
 still_step
 refine wpStill_nil ?_
 go_wp2_with fail
 go_ret
 have fr3 : Fr [b] W2 (W2.setCell ⟨b, 5, none⟩ (.int .i64 (1 + l.cnt + r.cnt))) := (Fr.refl _ _).set (.inl (by simp)) _
 refine ⟨rfl, ⟨?_, in_fr fr3 hl2 (fun x hx => by simp; rintro rfl; exact nl hx), in_fr fr3 hr2 (fun x hx => by simp; rintro rfl; exact nr hx)⟩, (fr1.trans fr2 (fun x hx => .inl hx)).trans fr3 (fun x hx => .inl hx)⟩
 simp only [Kn.hgt, Kn.cnt, ← hmH.out]
 exact blk_put hb2 5 _ rfl
end Go.Proofs.Ytidaiafmhidooaa.OrdSb
end
