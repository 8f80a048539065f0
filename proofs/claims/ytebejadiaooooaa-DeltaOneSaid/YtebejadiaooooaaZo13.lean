/- Texts of one claim (laid by shake.py). -/
import Derived.RangeFuncNested
import Derived.RangeFuncCalls
import Derived.RangeFuncLeaves
import Derived.Below
import Derived.Deep.Draws
import Derived.Test.YtebejadiaooooaaZo12
import Derived.Maps.OwnIn
import Derived.Test.YtebejadiaooooaaZo10
set_option linter.unusedVariables false
set_option linter.unusedSimpArgs false
section
namespace Go.Proofs.Ytebejadiaooooaa.It
open Go Go.RowKit
structure FrM (M : Nat → Prop) (w w' : World) : Prop where
 os : w'.os = w.os
 tape : w'.tape = w.tape
 output : w'.output = w.output
 size : w.heap.size ≤ w'.heap.size
 block : ∀ k, k < w.heap.size → ¬ M k → w'.heap[k]? = w.heap[k]?
namespace FrM
variable {M M' : Nat → Prop} {w w1 w2 : World}
theorem refl (M : Nat → Prop) (w : World) : FrM M w w := ⟨rfl, rfl, rfl, Nat.le_refl _, fun _ _ _ => rfl⟩
theorem trans (h : FrM M w w1) (k : FrM M' w1 w2) (hM : ∀ i, M' i → M i ∨ w.heap.size ≤ i) : FrM M w w2 :=
 ⟨k.os.trans h.os, k.tape.trans h.tape, k.output.trans h.output, Nat.le_trans h.size k.size, fun i hi hn =>
  (k.block i (Nat.lt_of_lt_of_le hi h.size) (fun hc => by rcases hM i hc with q | q; exact hn q; omega)).trans (h.block i hi hn)⟩
theorem mono (h : FrM M w w1) (hM : ∀ i, M i → M' i ∨ w.heap.size ≤ i) : FrM M' w w1 :=
 ⟨h.os, h.tape, h.output, h.size, fun i hi hn => h.block i hi (fun hc => by rcases hM i hc with q | q; exact hn q; omega)⟩
theorem of_below (h : Below w.heap.size w w1) : FrM M w w1 := ⟨h.os, h.tape, h.output, h.size, fun k hk _ => h.block k hk⟩
theorem below (h : FrM M w w1) {base : Nat} (hM : ∀ k, M k → base ≤ k) (hb : base ≤ w.heap.size) : Below base w w1 :=
 ⟨h.os, h.tape, h.output, h.size, fun k hk => h.block k (by omega) (fun hm => by have := hM k hm; omega)⟩
theorem blk (h : FrM M w w1) {g : Nat} {o : Obj} (hg : w.heap[g]? = some o) (hn : ¬ M g) : w1.heap[g]? = some o := (h.block g (Array.getElem?_eq_some_iff.1 hg).1 hn).trans hg
theorem drewN (h : FrM M w w1) (n : Nat) : FrM M w (w1.drewN n) := ⟨h.os, h.tape, h.output, h.size, h.block⟩
theorem alloc (h : FrM M w w1) (o : Obj) : FrM M w (w1.alloc o) := h.trans (of_below (M := fun _ => False) ((Below.refl _ w1).alloc (Nat.le_refl _) o)) (fun _ q => q.elim)
theorem grown {row : Option Nat} (hg : w.grownBy w1 row) (hr : ∀ r, row = some r → M r ∨ w.heap.size ≤ r) : FrM M w w1 :=
 ⟨hg.os, hg.tape, hg.output, hg.size, fun k hk hn => hg.block k hk (fun e => by rcases hr k e.symm with q | q; exact hn q; omega)⟩
theorem putObj (w : World) (l : Nat) (o : Obj) (hl : M l) : FrM M w (w.putObj l o) :=
 ⟨rfl, rfl, rfl, by simp, fun k _ hn => World.putObj_heap_other (fun e => hn (by rw [e]; exact hl))⟩
end FrM
def Stab {β : Type} (B : Nat) (J : β → (Nat → Prop) → World → Prop) : Prop :=
 ∀ s M W W', J s M W → FrM (fun k => ¬ M k ∧ B ≤ k) W W' → J s M W'
theorem Stab.from {β : Type} {B B' : Nat} {J : β → (Nat → Prop) → World → Prop} (h : Stab B J) (hB : B ≤ B') : Stab B' J :=
 fun s M W W' hj hf => h s M W W' hj (hf.mono (fun i hi => .inl ⟨hi.1, Nat.le_trans hB hi.2⟩))
def Told {α : Type} (J Jx : List α → (Nat → Prop) → World → Prop) (pre : List α) (x : α) (M : Nat → Prop) (W : World) (e : Ending) (W' : World) : Prop :=
 ∃ M', (∀ k, M' k → (M k ∨ W.heap.size ≤ k) ∧ k < W'.heap.size) ∧ FrM M W W' ∧ ((e = .returned (.bool true) ∧ J (pre ++ [x]) M' W') ∨ (e = .returned (.bool false) ∧ Jx (pre ++ [x]) M' W'))
def Went {α : Type} (J Jx : List α → (Nat → Prop) → World → Prop) (R Rp : List α → Prop) (M : Nat → Prop) (W : World) (e : Ending) (W' : World) : Prop :=
 (∃ v, e = .returned v) ∧ ∃ M', (∀ k, M' k → (M k ∨ W.heap.size ≤ k) ∧ k < W'.heap.size) ∧ FrM M W W' ∧ ((∃ xs, R xs ∧ J xs M' W') ∨ (∃ pre, Rp pre ∧ Jx pre M' W'))
def Iter {α : Type} (F : Fence) (n : Nat) (P : Program) (g : Nat) (lb : Array Value) (encs : α → Array Value) (R Rp : List α → Prop) (N : Nat) (S : Nat → Prop) (w : World) : Prop :=
 ∀ (l : Nat) (J Jx : List α → (Nat → Prop) → World → Prop) (M : Nat → Prop) (W : World), FrM (fun k => ¬ S k) w W → (∀ k, S k → k < w.heap.size ∧ ¬ M k) → (∀ k, M k → k < W.heap.size) →
  Stab W.heap.size J → Stab W.heap.size Jx →
  (∀ pre x M1 W1, J pre M1 W1 → (∀ k, M1 k → (M k ∨ W.heap.size ≤ k) ∧ k < W1.heap.size) → FrM M W W1 → pre.length < N → YieldAt F (n - 1) P l (encs x) W1 (Told J Jx pre x M1 W1)) →
  J [] M W → CallsIn F n P g (#[.func (.yield l) #[] #[]] ++ lb) W (Went J Jx R Rp M W)
variable {F : Fence} {n : Nat} {P : Program}
def bodyP {α : Type} (I : List α → (Nat → Prop) → World → Prop) (Ix : Code → List α → (Nat → Prop) → World → Prop) (xs : List α) (M : Nat → Prop) (W : World) : Exit → Act → World → Prop
 | .normal, _, W' => ∃ M', (∀ k, M' k → (M k ∨ W.heap.size ≤ k) ∧ k < W'.heap.size) ∧ FrM M W W' ∧ I xs M' W'
 | .ret, _, W' => ∃ M', (∀ k, M' k → (M k ∨ W.heap.size ≤ k) ∧ k < W'.heap.size) ∧ FrM M W W' ∧ Ix .ret xs M' W'
 | .exit id, _, W' => ∃ M', (∀ k, M' k → (M k ∨ W.heap.size ≤ k) ∧ k < W'.heap.size) ∧ FrM M W W' ∧ Ix (.exit id) xs M' W'
 | .goto t, _, W' => ∃ M', (∀ k, M' k → (M k ∨ W.heap.size ≤ k) ∧ k < W'.heap.size) ∧ FrM M W W' ∧ Ix (.goto t) xs M' W'
 | .panic _, _, _ => False
 | .outgrown, _, _ => False
theorem range_iter {α : Type} {g : Operand} {ps : Array Tmp} {assign body : Code} {Q : Exit → Act → World → Prop} {a : Act} {w : World}
  (hro : F.round = none) (h1 : 1 ≤ n) {gf : Nat} {lb : Array Value} (hg : a.eval g = .func (.func gf) #[] lb) (hFg : F.fn gf) (eg : ∀ args w, (callFunc gf args).run P w = .ok (.enter gf args) w)
  {encs : α → Array Value} {R Rp : List α → Prop} {N : Nat} {S : Nat → Prop} {w0 : World} (hseq : Iter F (n - 1) P gf lb encs R Rp N S w0) (hw0 : FrM (fun k => ¬ S k) w0 w)
  (M : Nat → Prop) (hS : ∀ k, S k → k < w0.heap.size ∧ ¬ M k) (hM : ∀ k, M k → k < w.heap.size) (hps : ∀ x, (encs x).size = ps.size)
  (I : List α → (Nat → Prop) → World → Prop) (Ix : Code → List α → (Nat → Prop) → World → Prop) (hI : Stab w.heap.size I) (hIx : ∀ c, Stab w.heap.size (Ix c)) (h0 : I [] M w) (a₁ : α → Act)
  (hassign : ∀ (l : Nat) (x : α) (W : World) (K : Act → World → Prop), K (a₁ x) W →
   assign.wpIn (F.inRound l) (n - 1 - 1) P (Exit.then K (fun _ _ _ => False)) { tmps := (ps.zip (encs x)).foldl (fun t (p, v) => t.setIfInBounds p v) a.tmps, defers := [] } W)
  (hbody : ∀ (l : Nat) (pre : List α) (x : α) (M1 : Nat → Prop) (W : World), I pre M1 W → (∀ k, M1 k → (M k ∨ w.heap.size ≤ k) ∧ k < W.heap.size) → FrM M w W → pre.length < N →
   body.wpIn (F.inRound l) (n - 1 - 1) P (bodyP I Ix (pre ++ [x]) M1 W) (a₁ x) W)
  (hdone : ∀ (D : Nat) (xs : List α) (M1 : Nat → Prop) (W : World), w.heap.size ≤ D → D < W.heap.size → ¬ M1 D → (∀ k, M1 k → (M k ∨ w.heap.size ≤ k) ∧ k < W.heap.size) → FrM M w W → R xs → I xs M1 W → W.heap[D]? = some (.deferred (some [])) →
   Q .normal { a with defers := { target := .collected D, args := #[] } :: a.defers } W)
  (hstop : ∀ (D : Nat) (c : Code) (pre : List α) (M1 : Nat → Prop) (W : World), w.heap.size ≤ D → D < W.heap.size → ¬ M1 D → (∀ k, M1 k → (M k ∨ w.heap.size ≤ k) ∧ k < W.heap.size) → FrM M w W → Rp pre → Ix c pre M1 W → W.heap[D]? = some (.deferred (some [])) →
   c.wpIn F n P Q { a with defers := { target := .collected D, args := #[] } :: a.defers } W) :
  (Code.rangeFunc g ps assign body).wpIn F n P Q a w := by
 refine wpIn_rangeFunc ?_
 intro fn hfn
 rw [hro]
 obtain ⟨rec, hrec⟩ : ∃ rec : LoopState → Option Code → Loop, rec = fun st pe => { state := st, pending := pe, fn, tmps := a.tmps, params := ps, assign, body, defers := w.heap.size } := ⟨_, rfl⟩
 obtain ⟨W1, hW1⟩ : ∃ W1, (w.alloc (.deferred (some []))).alloc (.loop (rec .ready none)) = W1 := ⟨_, rfl⟩
 have hs1 : W1.heap.size = w.heap.size + 2 := by rw [← hW1]; simp
 have hL1 : W1.heap[w.heap.size + 1]? = some (.loop (rec .ready none)) := by
  rw [← hW1]; have := World.alloc_heap_new (w.alloc (.deferred (some []))) (.loop (rec .ready none)); rwa [World.size_alloc] at this
 have hK1 : W1.heap[w.heap.size]? = some (.deferred (some [])) := by
  rw [← hW1]; exact (Below.heap_alloc _ _ _ (by simp)).trans (World.alloc_heap_new w _)
 have hB1 : Below w.heap.size w W1 := by rw [← hW1]; exact ((Below.refl _ w).alloc (Nat.le_refl _) _).alloc (by simp) _
 have hI1 : I [] M W1 := hI _ _ _ _ h0 (.of_below hB1)
 obtain ⟨J, hJ⟩ : ∃ J : LoopState → Option Code → (List α → (Nat → Prop) → World → Prop) → List α → (Nat → Prop) → World → Prop,
   J = fun st pe I' pre Mx W => ∃ M1 : Nat → Prop, (∀ k, Mx k ↔ (M1 k ∨ k = w.heap.size ∨ k = w.heap.size + 1)) ∧ (∀ k, M1 k → (M k ∨ w.heap.size ≤ k) ∧ k < W.heap.size) ∧ ¬ M1 w.heap.size ∧ ¬ M1 (w.heap.size + 1) ∧ I' pre M1 W ∧
    W.heap[w.heap.size + 1]? = some (.loop (rec st pe)) ∧ W.heap[w.heap.size]? = some (.deferred (some [])) ∧ FrM M w W := ⟨_, rfl⟩
 have hJs : ∀ st pe I', Stab w.heap.size I' → Stab W1.heap.size (J st pe I') := by
  intro st pe I' hI' s Mx A B hs hf
  rw [hJ] at hs ⊢
  obtain ⟨M1, e, hb, hd, hl, hi, gl, gd, fr⟩ := hs
  have fl : ∀ k, k < A.heap.size → (k = w.heap.size ∨ k = w.heap.size + 1) → B.heap[k]? = A.heap[k]? := fun k hk hq => hf.block k hk (fun hc => hc.1 ((e k).2 (.inr hq)))
  refine ⟨M1, e, fun k hk => ⟨(hb k hk).1, Nat.lt_of_lt_of_le (hb k hk).2 hf.size⟩, hd, hl, hI' _ _ _ _ hi (hf.mono (fun i hi => .inl ⟨fun hm => hi.1 ((e i).2 (.inl hm)), by omega⟩)), (fl _ (Array.getElem?_eq_some_iff.1 gl).1 (.inr rfl)).trans gl, (fl _ (Array.getElem?_eq_some_iff.1 gd).1 (.inl rfl)).trans gd, ?_⟩
  exact fr.trans hf (fun i hi => .inr (by omega))
 refine ⟨w.heap.size + 1, [{ target := .collected w.heap.size, args := #[] }], W1, { target := .fn (.func gf) lb, args := #[.func (.yield (w.heap.size + 1)) #[] #[]] }, W1, gf,
  #[.func (.yield (w.heap.size + 1)) #[] #[]] ++ lb, W1, ?_, ?_, ?_, ?_, fun _ => h1, ?_⟩
 ·rw [← hW1, hrec]; exact run_enterLoop_outer _ _ _ _ _
 ·simp only [resolve, hg]
  simp [go_sem]
 ·intro f' hf'; simp [Target.leads] at hf'; subst hf'; exact hFg
 ·simp [invoke, go_sem, eg]
 ·refine (hseq (w.heap.size + 1) (J .ready none I) (fun pre Mx W => ∃ c, J .done (some c) (Ix c) pre Mx W) (fun k => M k ∨ k = w.heap.size ∨ k = w.heap.size + 1) W1 (hw0.trans (.of_below (M := fun _ => False) hB1) (fun i hi => hi.elim))
   (fun k hk => ⟨(hS k hk).1, ?_⟩) ?_ (hJs _ _ _ hI) ?_ ?_ ?_).mono ?_
  ·rintro (q | q | q)
   ·exact (hS k hk).2 q
   ·have := (hS k hk).1; have := hw0.size; omega
   ·have := (hS k hk).1; have := hw0.size; omega
  ·rintro k (q | q | q)
   ·have := hM k q; omega
   ·omega
   ·omega
  ·rintro s Mx A B ⟨c, hs⟩ hf
   exact ⟨c, hJs _ _ _ (hIx c) s Mx A B hs hf⟩
  ·-- a round
   intro pre x Mx W hs hb hfr hlen
   rw [hJ] at hs
   obtain ⟨M1, e, hb1, hd, hln, hi, gl, gd, fr⟩ := hs
   have hlt : w.heap.size + 1 < W.heap.size := (Array.getElem?_eq_some_iff.1 gl).1
   have hy := run_yield (P := P) (args := encs x) gl (by rw [hrec]; exact hps x)
   rw [hrec] at hy
   refine ⟨fn, _, assign, body, hy, roundIn_of_wpIn hfn (hassign _ x W _ ⟨_, run_beginRound gl (by rw [hrec]), ?_⟩)⟩
   obtain ⟨W2, hW2⟩ : ∃ W2, W.putObj (w.heap.size + 1) (.loop { rec .ready none with state := .busy }) = W2 := ⟨_, rfl⟩
   rw [hW2]
   have gl2 : W2.heap[w.heap.size + 1]? = some (.loop { rec .ready none with state := .busy }) := by rw [← hW2]; exact World.putObj_heap_same hlt
   have hs2 : W2.heap.size = W.heap.size := by rw [← hW2]; simp
   have f2 : FrM (fun k => k = w.heap.size + 1) W W2 := by rw [← hW2]; exact .putObj _ _ _ rfl
   have gd2 : W2.heap[w.heap.size]? = some (.deferred (some [])) := f2.blk gd (by omega)
   have hi2 : I pre M1 W2 := hI _ _ _ _ hi (f2.mono (fun i hi => .inl (by subst hi; exact ⟨hln, by omega⟩)))
   refine wpIn_mono (hbody _ pre x M1 W2 hi2 (fun k hk => by rw [hs2]; exact hb1 k hk) (fr.trans f2 (fun i hi => .inr (by omega))) hlen) ?_
   have fin : ∀ (jump : Option Code) (W3 : World) (M' : Nat → Prop) (I' : List α → (Nat → Prop) → World → Prop), Stab w.heap.size I' → (∀ k, M' k → (M1 k ∨ W2.heap.size ≤ k) ∧ k < W3.heap.size) → FrM M1 W2 W3 → I' (pre ++ [x]) M' W3 →
     ∃ Mx', (∀ k, Mx' k → (Mx k ∨ W.heap.size ≤ k) ∧ k < (W3.putObj (w.heap.size + 1) (.loop (rec (if jump.isNone then .ready else .done) jump))).heap.size) ∧
      FrM Mx W (W3.putObj (w.heap.size + 1) (.loop (rec (if jump.isNone then .ready else .done) jump))) ∧
      J (if jump.isNone then .ready else .done) jump I' (pre ++ [x]) Mx' (W3.putObj (w.heap.size + 1) (.loop (rec (if jump.isNone then .ready else .done) jump))) ∧
      (Instr.endRound (w.heap.size + 1) jump).run P W3 = .ok (.bool jump.isNone) (W3.putObj (w.heap.size + 1) (.loop (rec (if jump.isNone then .ready else .done) jump))) := by
    intro jump W3 M' I' hI' hM' f3 hi3
    have gl3 := f3.blk gl2 hln
    have gd3 := f3.blk gd2 hd
    have hlt3 := (Array.getElem?_eq_some_iff.1 gl3).1
    have hr := run_endRound (P := P) jump gl3
    rw [hrec] at hr
    obtain ⟨W4, hW4⟩ : ∃ W4, W3.putObj (w.heap.size + 1) (.loop (rec (if jump.isNone then .ready else .done) jump)) = W4 := ⟨_, rfl⟩
    have hr' : (Instr.endRound (w.heap.size + 1) jump).run P W3 = .ok (.bool jump.isNone) W4 := by rw [← hW4, hrec]; exact hr
    have gl4 : W4.heap[w.heap.size + 1]? = some (.loop (rec (if jump.isNone then .ready else .done) jump)) := by rw [← hW4]; exact World.putObj_heap_same hlt3
    have hs4 : W4.heap.size = W3.heap.size := by rw [← hW4]; simp
    have f4 : FrM (fun k => k = w.heap.size + 1) W3 W4 := by rw [← hW4]; exact .putObj _ _ _ rfl
    have nl : ∀ k, M' k → k ≠ w.heap.size ∧ k ≠ w.heap.size + 1 := fun k hk => by
     rcases (hM' k hk).1 with q | q
     ·exact ⟨fun e2 => hd (e2 ▸ q), fun e2 => hln (e2 ▸ q)⟩
     ·omega
    have fW : FrM Mx W W4 := by
     have a1 : FrM Mx W W2 := f2.mono (fun i hi => .inl ((e i).2 (.inr (.inr hi))))
     have a2 : FrM Mx W W3 := a1.trans f3 (fun i hi => .inl ((e i).2 (.inl hi)))
     exact a2.trans f4 (fun i hi => .inl ((e i).2 (.inr (.inr hi))))
    rw [hW4]
    refine ⟨fun k => M' k ∨ k = w.heap.size ∨ k = w.heap.size + 1, ?_, fW, ?_, hr'⟩
    ·rintro k (q | q | q)
     ·refine ⟨?_, by rw [hs4]; exact (hM' k q).2⟩
      rcases (hM' k q).1 with z | z
      ·exact .inl ((e k).2 (.inl z))
      ·exact .inr (by omega)
     ·exact ⟨.inl ((e k).2 (.inr (.inl q))), by omega⟩
     ·exact ⟨.inl ((e k).2 (.inr (.inr q))), by omega⟩
    ·rw [hJ]
     refine ⟨M', fun k => Iff.rfl, fun k hk => ⟨?_, by rw [hs4]; exact (hM' k hk).2⟩, fun h => (nl _ h).1 rfl, fun h => (nl _ h).2 rfl, hI' _ _ _ _ hi3 (f4.mono (fun i hi => .inl (by subst hi; exact ⟨fun h => (nl _ h).2 rfl, by omega⟩))), gl4, f4.blk gd3 (by omega), ?_⟩
     ·rcases (hM' k hk).1 with z | z
      ·exact (hb1 k z).1
      ·exact .inr (by omega)
     ·have b1 : FrM M w W2 := fr.trans f2 (fun i hi => .inr (by omega))
      have b2 : FrM M w W3 := b1.trans f3 (fun i hi => (hb1 i hi).1)
      exact b2.trans f4 (fun i hi => .inr (by omega))
   rintro ex a3 W3 hp
   cases ex with
   | normal =>
    obtain ⟨M', hM', f3, hi3⟩ := hp
    obtain ⟨Mx', q1, q2, q3, q4⟩ := fin none W3 M' I hI hM' f3 hi3
    exact ⟨_, _, q4, Mx', q1, q2, .inl ⟨rfl, q3⟩⟩
   | ret =>
    obtain ⟨M', hM', f3, hi3⟩ := hp
    obtain ⟨Mx', q1, q2, q3, q4⟩ := fin (some .ret) W3 M' (Ix .ret) (hIx _) hM' f3 hi3
    exact ⟨_, _, q4, Mx', q1, q2, .inr ⟨rfl, .ret, q3⟩⟩
   | exit id =>
    obtain ⟨M', hM', f3, hi3⟩ := hp
    obtain ⟨Mx', q1, q2, q3, q4⟩ := fin (some (.exit id)) W3 M' (Ix (.exit id)) (hIx _) hM' f3 hi3
    exact ⟨_, _, q4, Mx', q1, q2, .inr ⟨rfl, .exit id, q3⟩⟩
   | goto t =>
    obtain ⟨M', hM', f3, hi3⟩ := hp
    obtain ⟨Mx', q1, q2, q3, q4⟩ := fin (some (.goto t)) W3 M' (Ix (.goto t)) (hIx _) hM' f3 hi3
    exact ⟨_, _, q4, Mx', q1, q2, .inr ⟨rfl, .goto t, q3⟩⟩
   | panic ch => exact hp.elim
   | outgrown => exact hp.elim
  ·rw [hJ]
   exact ⟨M, fun k => Iff.rfl, fun k hk => ⟨.inl hk, by have := hM k hk; omega⟩, fun h => by have := hM _ h; omega, fun h => by have := hM _ h; omega, hI1, hL1, hK1, .of_below hB1⟩
  ·-- behind the iterator
   rintro e W2 ⟨⟨v, rfl⟩, Mx, hMx, f2, hq⟩
   rw [hJ] at hq
   have key : ∀ (st : LoopState) (pe : Option Code) (I' : List α → (Nat → Prop) → World → Prop) (xs : List α) (M1 : Nat → Prop), Stab w.heap.size I' → (∀ k, M1 k → (M k ∨ w.heap.size ≤ k) ∧ k < W2.heap.size) → ¬ M1 w.heap.size → ¬ M1 (w.heap.size + 1) → I' xs M1 W2 →
     W2.heap[w.heap.size + 1]? = some (.loop (rec st pe)) → W2.heap[w.heap.size]? = some (.deferred (some [])) → FrM M w W2 → st ≠ .busy → ∃ W3, (Instr.endLoop (w.heap.size + 1)).run P W2 = .ok pe W3 ∧ w.heap.size < W3.heap.size ∧ (∀ k, M1 k → (M k ∨ w.heap.size ≤ k) ∧ k < W3.heap.size) ∧ FrM M w W3 ∧ I' xs M1 W3 ∧ W3.heap[w.heap.size]? = some (.deferred (some [])) := by
    intro st pe I' xs M1 hI' hb hd hl hi gl gd fr hst
    have hr := run_endLoop (P := P) gl (by rw [hrec]; exact hst)
    rw [hrec] at hr
    refine ⟨_, hr, ?_⟩
    generalize Obj.loop _ = o
    have f4 : FrM (fun k => k = w.heap.size + 1) W2 (W2.putObj (w.heap.size + 1) o) := .putObj _ _ _ rfl
    have hlt := (Array.getElem?_eq_some_iff.1 gl).1
    refine ⟨by simp; omega, fun k hk => ⟨(hb k hk).1, by have := (hb k hk).2; simpa using this⟩, fr.trans f4 (fun i hi => .inr (by omega)), hI' _ _ _ _ hi (f4.mono (fun i hi => .inl (by subst hi; exact ⟨hl, by omega⟩))), f4.blk gd (by omega)⟩
   rcases hq with ⟨xs, hR, M1, e1, hb, hd, hl, hi, gl, gd, fr⟩ | ⟨pre, hRp, c, M1, e1, hb, hd, hl, hi, gl, gd, fr⟩
   ·obtain ⟨W3, k1, k2, k3, k4, k5, k6⟩ := key _ _ _ _ _ hI hb hd hl hi gl gd fr (by simp)
    exact ⟨none, W3, k1, hdone _ xs M1 W3 (Nat.le_refl _) k2 hd k3 k4 hR k5 k6⟩
   ·obtain ⟨W3, k1, k2, k3, k4, k5, k6⟩ := key _ _ _ _ _ (hIx c) hb hd hl hi gl gd fr (by simp)
    exact ⟨some c, W3, k1, hstop _ c pre M1 W3 (Nat.le_refl _) k2 hd k3 k4 hRp k5 k6⟩
end Go.Proofs.Ytebejadiaooooaa.It
end
section
namespace Go.Proofs.Ytebejadiaooooaa.OrdSs
open Go.RowKit Go.Shelf Go.Proofs.YtebejadiaooooaaW.PrintWords Go.Proofs.YtebejadiaooooaaW.PrintLast Go.Proofs.YtebejadiaooooaaW.PrintMore Go.Proofs.Ytebejadiaooooaa.Own Go.Proofs.Ytebejadiaooooaa.Ord
theorem iter_of {α : Type} {g : Nat} {lb : Array Value} {encs : α → Array Value} {R Rp : List α → Prop} {N n : Nat} {S : Nat → Prop} {w : World} (hS : ∀ k, S k → k < w.heap.size)
  (h : ∀ (l : Nat) (J Jx : List α → World → Prop) (W : World), (∀ pre W n, J pre W → J pre (W.drewN n)) → (∀ k, S k → W.heap[k]? = w.heap[k]?) → w.heap.size ≤ W.heap.size →
   (∀ pre x W1, J pre W1 → pre.length < N → YieldAt Fence.wide (n - 1) Try.prog l (encs x) W1 fun e W' => (e = .returned (.bool true) ∧ J (pre ++ [x]) W' ∧ Kee S W1 W') ∨ (e = .returned (.bool false) ∧ Jx (pre ++ [x]) W')) → J [] W →
   CallsIn Fence.wide n Try.prog g (#[.func (.yield l) #[] #[]] ++ lb) W fun e W' => (∃ v, e = .returned v) ∧ ((∃ ys, R ys ∧ J ys W') ∨ (∃ pre, Rp pre ∧ Jx pre W'))) :
  It.Iter Fence.wide n Try.prog g lb encs R Rp N S w := by
 intro l J Jx M W hWf hSW hM hJ hJx hY h0
 refine (h l (fun pre W1 => ∃ M1, J pre M1 W1 ∧ (∀ k, M1 k → (M k ∨ W.heap.size ≤ k) ∧ k < W1.heap.size) ∧ It.FrM M W W1) (fun pre W1 => ∃ M1, Jx pre M1 W1 ∧ (∀ k, M1 k → (M k ∨ W.heap.size ≤ k) ∧ k < W1.heap.size) ∧ It.FrM M W W1) W ?_ (fun k hk => hWf.block k (hS k hk) (fun q => q hk)) hWf.size ?_ ⟨M, h0, fun k hk => ⟨.inl hk, hM k hk⟩, It.FrM.refl _ _⟩).mono ?_
 ·rintro pre W1 m ⟨M1, a, b, c⟩
  exact ⟨M1, hJ _ _ _ _ a ((It.FrM.refl _ _).drewN m), b, c.drewN m⟩
 ·rintro pre x W1 ⟨M1, a, b, c⟩ hlen
  refine YieldAt.mono (hY pre x M1 W1 a b c hlen) ?_
  rintro e W' ⟨M', b', f', q⟩
  have bb : ∀ k, M' k → (M k ∨ W.heap.size ≤ k) ∧ k < W'.heap.size := fun k hk => ⟨by
   rcases (b' k hk).1 with z | z
   ·exact (b k z).1
   ·have := c.size; exact .inr (by omega), (b' k hk).2⟩
  have ff : It.FrM M W W' := c.trans f' (fun i hi => (b i hi).1)
  rcases q with ⟨rfl, hj⟩ | ⟨rfl, hj⟩
  ·refine .inl ⟨rfl, ⟨M', hj, bb, ff⟩, ⟨f'.size, fun k hk => f'.block k (by have := hS k hk; have := c.size; have := hWf.size; omega) (fun hm => ?_)⟩⟩
   rcases (b k hm).1 with z | z
   ·exact (hSW k hk).2 z
   ·have := hS k hk; have := hWf.size; omega
  ·exact .inr ⟨rfl, M', hj, bb, ff⟩
 ·rintro e W' ⟨hv, ⟨ys, hR, M', hj, b, f⟩ | ⟨pre, hR, M', hj, b, f⟩⟩
  ·exact ⟨hv, M', b, f, .inl ⟨ys, hR, hj⟩⟩
  ·exact ⟨hv, M', b, f, .inr ⟨pre, hR, hj⟩⟩
theorem cell_of_blk {w W : World} {a : Addr} {v : Value} (h : w.cell? a = some v) (e : W.heap[a.block]? = w.heap[a.block]?) : W.cell? a = some v := (World.cell?_of_block e).trans h
theorem all_iter (n Bb : Nat) (S : Nat → Prop) (p : Option Addr) (T : Kn ByteArray ByteArray) (w : World) (hS : ∀ k, S k → k < w.heap.size) (hBb : S Bb) (hc : w.cell? ⟨Bb, 0, none⟩ = some (.pointer p)) (hT : MpI S w p T) :
  It.Iter Fence.wide n Try.prog 101 #[.pointer (some ⟨Bb, 0, none⟩)] (fun x : ByteArray × ByteArray => #[.string x.1, .string x.2]) (fun ys => ys = walkA T) (fun pre => pre <+: walkA T) (walkA T).length S w :=
 iter_of hS (fun l J Jx W hJd hSW hsz hY h0 => all1_in n l Bb S p T J Jx hJd hY W (cell_of_blk hc (hSW Bb hBb)) (hT.kee ⟨hsz, hSW⟩) h0)
theorem from_iter (n Bb Bk : Nat) (S : Nat → Prop) (p : Option Addr) (s : ByteArray) (T : Kn ByteArray ByteArray) (w : World) (hS : ∀ k, S k → k < w.heap.size) (hBb : S Bb) (hc : w.cell? ⟨Bb, 0, none⟩ = some (.pointer p)) (hk : w.cell? ⟨Bk, 0, none⟩ = some (.string s)) (hkS : S Bk) (hT : MpI S w p T) :
  It.Iter Fence.wide n Try.prog 117 #[.pointer (some ⟨Bb, 0, none⟩), .pointer (some ⟨Bk, 0, none⟩)] (fun x : ByteArray × ByteArray => #[.string x.1, .string x.2]) (fun ys => ys = walkB s T) (fun pre => pre <+: walkB s T) (walkB s T).length S w :=
 iter_of hS (fun l J Jx W hJd hSW hsz hY h0 => from1_in n l Bb Bk S p s T J Jx hJd hY W (cell_of_blk hc (hSW Bb hBb)) (cell_of_blk hk (hSW Bk hkS)) hkS (hT.kee ⟨hsz, hSW⟩) h0)
end Go.Proofs.Ytebejadiaooooaa.OrdSs
end
section
namespace Go.Proofs.Ytebejadiaooooaa.OrdSs
open Go.RowKit Go.Shelf Go.Proofs.YtebejadiaooooaaW.PrintWords Go.Proofs.YtebejadiaooooaaW.PrintLast Go.Proofs.YtebejadiaooooaaW.PrintMore Go.Proofs.Ytebejadiaooooaa.Own Go.Proofs.Ytebejadiaooooaa.Ord
attribute [local go_sem] Oper.semAt_some
set_option maxHeartbeats 2000000
set_option maxRecDepth 100000
def mb : Option Addr → List Nat
 | none => []
 | some a => [a.block]
def cutL (a b : ByteArray) (T : Kn ByteArray ByteArray) : List ByteArray := ((walkB a T).takeWhile (fun x => lt x.1 b)).map (·.1)
def dropAll (l : List ByteArray) (T : Kn ByteArray ByteArray) : Kn ByteArray ByteArray := l.foldl (fun T k => Kn.drop lt k T) T
theorem dropAll_snoc (l : List ByteArray) (k : ByteArray) (T : Kn ByteArray ByteArray) : dropAll (l ++ [k]) T = Kn.drop lt k (dropAll l T) := by simp [dropAll]
theorem dropAll_mem : ∀ (l : List ByteArray) (T : Kn ByteArray ByteArray) (x : Nat), x ∈ (dropAll l T).bs → x ∈ T.bs
 | [], _, _, h => h
 | k :: l, T, x, h => Kn.drop_mem (dropAll_mem l (Kn.drop lt k T) x h)
theorem dropAll_cnt : ∀ (l : List ByteArray) (T : Kn ByteArray ByteArray), (dropAll l T).cnt ≤ T.cnt
 | [], _ => Int.le_refl _
 | k :: l, T => Int.le_trans (dropAll_cnt l (Kn.drop lt k T)) (Kn.drop_cnt lt k T)
theorem MpN.fr {w w' : World} {p : Option Addr} {T : Kn ByteArray ByteArray} {B : List Nat} (h : MpN w p T) (f : Fr B w w') (hm : ∀ a, p = some a → a.block ∉ B) (hn : ∀ x ∈ T.bs, x ∉ B) : MpN w' p T := by
 cases p with
 | none => exact h
 | some a => exact ⟨h.1, h.2.fr f (hm a rfl) hn⟩
theorem MpN.below {w w' : World} {p : Option Addr} {T : Kn ByteArray ByteArray} (h : MpN w p T) (f : Below w.heap.size w w') : MpN w' p T := h.fr (B := []) (Fr.of_below f) (by simp) (by simp)
theorem MpN.lt {w : World} {p : Option Addr} {T : Kn ByteArray ByteArray} (h : MpN w p T) : ∀ x ∈ mb p ++ T.bs, x < w.heap.size := by
 cases p with
 | none => obtain rfl : T = .nil := h; simp [mb, Kn.bs]
 | some a =>
  intro x hx
  simp only [mb, List.singleton_append, List.mem_cons] at hx
  rcases hx with rfl | hx
  ·exact blk_lt h.2.blk
  ·exact in_lt h.2.inn x hx
abbrev CutI (w : World) (b : ByteArray) (s : ByteArray) (pre : List (ByteArray × ByteArray)) (W : World) : Prop :=
 ((∃ v, Boxed W (w.heap.size + 1) 24 v ∧ W.ownsRow w.heap.size 9 1 v pre.length (pre.map (fun x => Value.string x.1)) ∧ (v.ownBlock ≠ some w.heap.size ∧ v.ownBlock ≠ some (w.heap.size + 1 + 1 + 1))) ∧ Below w.heap.size w W) ∧
 Boxed W w.heap.size 9 (.string b) ∧ Boxed W (w.heap.size + 1 + 1 + 1) 9 (.string s)
theorem cutI_own (w : World) (b s : ByteArray) (n : Nat) (hn : w.heap.size ≤ n) : OwnFrom n (CutI w b s) :=
 OwnFrom.and (OwnFrom.and (Own.from (holdsRow_own w.heap.size (w.heap.size + 1) 24 9 1 (fun pre : List (ByteArray × ByteArray) => pre.length) (fun pre => pre.map (fun x => Value.string x.1)) (fun pre v => v.ownBlock ≠ some w.heap.size ∧ v.ownBlock ≠ some (w.heap.size + 1 + 1 + 1))) _) (ownFrom_below (Nat.le_refl _) hn))
  (OwnFrom.and (Own.from (boxed_own _ _ (fun _ => .string b)) _) (Own.from (boxed_own _ _ (fun _ => .string s)) _))
theorem infoStr : (Try.prog.info? 9).map (fun i => (i.zero, i.size, i.bytes)) = some (some (.string ⟨#[]⟩), 1, 16) := by kernel_rfl
theorem underS : Try.prog.underlying 24 = some (.slice 9) := Try.underlying24
theorem Fr.one_put (w : World) (D : Nat) (o : Obj) : Fr [D] w (w.putObj D o) := ⟨rfl, rfl, rfl, by simp, fun k _ hn => World.putObj_heap_other (by simp at hn; omega)⟩
theorem Fr.putObj {B : List Nat} {w w' : World} (h : Fr B w w') {D : Nat} (hD : w.heap.size ≤ D) (o : Obj) : Fr B w (w'.putObj D o) :=
 h.trans (B := B) (C := [D]) (Fr.one_put _ _ _) (fun x hx => .inr (by simp at hx; omega))
theorem row_open {W : World} {base e n : Nat} {v : Value} {xs : List Value} (h : W.ownsRow base e 1 v n xs) : ∃ A c, v = .slice A n c ∧ n ≤ c ∧ ∀ (j : Nat) (u : Value), xs[j]? = some u → ∃ g, A = some ⟨g, 0, none⟩ ∧ base ≤ g ∧ g < W.heap.size ∧ W.cell? ⟨g, j, none⟩ = some u := by
 obtain ⟨hl, h⟩ := h
 rcases h with ⟨rfl, rfl⟩ | ⟨g, cap, cur, rfl, hb, hg, hn, hm, hs, ht⟩
 ·refine ⟨none, 0, rfl, Nat.le_refl _, fun j u hj => ?_⟩
  have := (List.getElem?_eq_some_iff.1 hj).1
  omega
 ·refine ⟨_, cap, rfl, hn, fun j u hj => ⟨g, rfl, hb, blk_lt hg, ?_⟩⟩
  rw [← ht, List.getElem?_take] at hj
  split at hj
  ·simp [World.cell?, hg]
   simpa using hj
  ·simp at hj
theorem Kn.dropAll_cnt' (l : List ByteArray) (T : Kn ByteArray ByteArray) (h : T.cnt < 4294967296) : (dropAll l T).cnt < 4611686018427387904 := by have := dropAll_cnt l T; omega
theorem cut_any (s b : ByteArray) {w : World} {p : Option Addr} {T : Kn ByteArray ByteArray} (h : MpN w p T) (hc : T.cnt < 4294967296) (hwl : ((walkB s T).length : Int) ≤ T.cnt) :
  Calls Try.prog 120 #[.pointer p, .string s, .string b] w fun e w' => e = .returned (.int .i64 (cutL s b T).length) ∧ MpN w' p (dropAll (cutL s b T) T) ∧ Fr (mb p ++ T.bs) w w' := by
 obtain ⟨i0, hi, hz0, hz1, hz2⟩ := info_parts infoStr
 have hmax : maxLen = 9223372036854775807 := rfl
 refine (callsIn_wide (n := 5)).1 ?_
 refine callsIn_of_wp_marks Try.func120 rfl trivial ?_ rfl
 simp only [Try.ntmps120, List.size_toArray, List.length_cons, List.length_nil, Nat.reduceAdd, Nat.reduceSub, Array.replicate_succ, Array.replicate_zero, List.push_toArray, List.append_toArray, List.nil_append, List.cons_append]
 gi_wp2_with (refine ⟨trivial, ?_⟩; gi_at_call 91; refine (from_in _ p s _).mono ?_; rintro e w' ⟨rfl, t, rfl⟩)
 have bT := Boxed.new w 9 (.string b)
 have bO := Boxed.new (w.alloc (.cells #[.string b] 9)) 24 (.slice none 0 0)
 rw [World.size_alloc] at bO
 have bN := Boxed.new ((w.alloc (.cells #[.string b] 9)).alloc (.cells #[.slice none 0 0] 24)) t (.pointer p)
 rw [World.size_alloc, World.size_alloc] at bN
 have bK := Boxed.new (((w.alloc (.cells #[.string b] 9)).alloc (.cells #[.slice none 0 0] 24)).alloc (.cells #[.pointer p] t)) 9 (.string s)
 rw [World.size_alloc, World.size_alloc, World.size_alloc] at bK
 have hB0 : Below w.heap.size w ((((w.alloc (.cells #[.string b] 9)).alloc (.cells #[.slice none 0 0] 24)).alloc (.cells #[.pointer p] t)).alloc (.cells #[.string s] 9)) :=
  ((((Below.refl _ w).alloc (Nat.le_refl _) _).alloc (by simp) _).alloc (by simp; omega) _).alloc (by simp; omega) _
 have hT := MpI.wide (S' := fun k => k < w.heap.size ∨ k = w.heap.size + 1 + 1 + 1) (fun k hk => .inl hk) ((MpN.mpI h).kee (S := fun k => k < w.heap.size) ⟨hB0.size, fun k hk => hB0.block k hk⟩)
 refine wpIn_rangeFunc_ownG rfl (by omega) (gf := 117) (lb := #[.pointer (some ⟨w.heap.size + 1 + 1, 0, none⟩), .pointer (some ⟨w.heap.size + 1 + 1 + 1, 0, none⟩)]) rfl trivial (enters_of Try.func117 (by kernel_rfl) rfl)
  (from_stops _ (w.heap.size + 1 + 1) (w.heap.size + 1 + 1 + 1) (fun k => k < w.heap.size ∨ k = w.heap.size + 1 + 1 + 1) p s T _ (fun k hk => by simp; omega) (by simp) (bN.alloc _).cell bK.cell (.inr rfl) hT) (fun h k => h.trans k)
  (fun W l o o' hl ho _ _ => ⟨by simp, fun k hk => World.putObj_heap_other (by simp at hl; omega)⟩) (Below.refl _ _) (fun _ => rfl)
  (fun pre W => CutI w b s pre W ∧ ∀ x ∈ pre, lt x.1 b = true)
  (fun c pre W => c = .exit 0 ∧ ∃ pre' x, pre = pre' ++ [x] ∧ CutI w b s pre' W ∧ (∀ y ∈ pre', lt y.1 b = true) ∧ lt x.1 b = false)
  (OwnFrom.and (cutI_own w b s _ (by simp; omega)) (ownFrom_pure _ _))
  (fun c pre X Y row hs hg hr => by obtain ⟨hc, pre', x, e, hi, h1, h2⟩ := hs; exact ⟨hc, pre', x, e, cutI_own w b s _ (by simp; omega) pre' X Y row hi hg hr, h1, h2⟩)
  ⟨⟨⟨⟨_, (bO.alloc _).alloc _, World.ownsRow_nil _ _ _ _, by simp [Value.ownBlock]⟩, hB0⟩, ((bT.alloc _).alloc _).alloc _, bK⟩, by simp⟩
  (fun x => { tmps := #[.pointer p, .string s, .string b, undef, undef, .pointer (some ⟨w.heap.size, 0, none⟩), .int .i64 0, .pointer (some ⟨w.heap.size + 1, 0, none⟩), .string x.1, undef, undef, .pointer p, .string s, .func (.func 117) #[] #[.pointer (some ⟨w.heap.size + 1 + 1, 0, none⟩), .pointer (some ⟨w.heap.size + 1 + 1 + 1, 0, none⟩)], .string x.1, .string x.2, undef, undef, undef, undef, undef, undef, undef, undef, undef, undef, undef, undef, undef, undef, undef, undef, undef, undef, undef, undef], defers := [] }) ?assign ?body ?done ?stop
 case assign =>
  intro l x W K hK
  gi_wp2
  exact hK
 case body =>
  rintro l pre x W ⟨⟨⟨⟨v, hv, hrow, hg1, hg2⟩, hB⟩, hbT, hbK⟩, hall⟩ hlt
  have hc0 := hbT.cell
  have hc1 := hv.cell
  by_cases hx : lt x.1 b = true
  ·have hl : ∀ W, Calls Try.prog 122 #[.string x.1, .string b] W fun e w' => e = .returned (.bool true) ∧ w' = W := fun W => by
    have := less_any x.1 b W; rw [hx] at this; exact this
   gi_wp2_with (first
    | (refine ⟨trivial, ?_⟩; gi_at_call 122; refine (CallsIn.inRound l (callsIn_wide.2 (hl W))).mono ?_; rintro e w1 ⟨rfl, hw⟩; obtain rfl := hw.symm)
    | (gi_at_builtin; refine wpListIn_append_own_at _ rfl _ _ 24 rfl w.heap.size 9 i0 (.string ⟨#[]⟩) 1 16 underS hi hz0 hz1 hz2 rfl (by decide) _ _ _ rfl (hrow.alloc _) ⟨W.heap.size, 0, none⟩ 1 1 [.string x.1] rfl rfl (cell_one_new _ _ _) (by simp [Value.oneCell']) (by omega) (by omega) (by have := hB.size; simp; omega) ?_; intro v' w1 hown' hgrow _ hat; obtain ⟨g', cap', rfl⟩ := ownsRow_succ hown'; obtain ⟨hv1, hv2, hr2, hk2, hb2⟩ := hv.appended (by decide) hrow hB.size (by omega) hown' hgrow; have hc2 := hv1.cell; have hf2 := hv1.frozen; have hk1 := ((hbK.alloc _).kept hgrow (Ne.symm hg2)).other (B' := w.heap.size + 1) (by omega) (.slice (some ⟨g', 0, none⟩) (pre.length + 1) cap'); have ht1 := ((hbT.alloc _).kept hgrow (Ne.symm hg1)).other (B' := w.heap.size + 1) (by omega) (.slice (some ⟨g', 0, none⟩) (pre.length + 1) cap')))
   have hn4 := hbK.lt
   have hG : ∀ q, q < W.heap.size → v.ownBlock ≠ some q → some g' ≠ some q := fun q hq hn e => by
    have e' : (Value.slice (some ⟨g', 0, none⟩) (pre.length + 1) cap').ownBlock = some q := e
    rcases hat with h | h
    ·exact hn (h.symm.trans e')
    ·rw [h] at e'; simp at e'; omega
   exact ⟨hk2.from _, ⟨hb2.size, fun k h => h.elim (hb2.block k) (fun e => by subst e; exact hk1.trans hbK.symm)⟩,
    ⟨⟨⟨_, hv2, by rw [List.map_append, List.length_append]; exact hr2, hG _ (by omega) hg1, hG _ hn4 hg2⟩, hB.trans hb2⟩, ht1, hk1⟩, fun y hy => by
     rcases List.mem_append.1 hy with hy | hy
     ·exact hall y hy
     ·simp at hy; subst hy; exact hx⟩
  ·have hx' : lt x.1 b = false := by simpa using hx
   have hl : ∀ W, Calls Try.prog 122 #[.string x.1, .string b] W fun e w' => e = .returned (.bool false) ∧ w' = W := fun W => by
    have := less_any x.1 b W; rw [hx'] at this; exact this
   gi_wp2_with (refine ⟨trivial, ?_⟩; gi_at_call 122; refine (CallsIn.inRound l (callsIn_wide.2 (hl W))).mono ?_; rintro e w1 ⟨rfl, hw⟩; obtain rfl := hw.symm)
   exact ⟨KeepsFrom.refl _ _, rfl, pre, x, rfl, ⟨⟨⟨v, hv, hrow, hg1, hg2⟩, hB⟩, hbT, hbK⟩, hall, hx'⟩
 case done =>
  rintro D ys W hD rfl ⟨⟨⟨⟨v, hv, hrow, _, _⟩, hB⟩, hbT, hbK⟩, hall⟩ hK
  have hL : (walkB s T).map (·.1) = cutL s b T := by
   unfold cutL
   have := List.takeWhile_append_of_pos (p := fun x : ByteArray × ByteArray => lt x.1 b) (l₁ := walkB s T) (l₂ := []) (by simpa using hall)
   rw [List.append_nil] at this
   rw [this]; simp
  clear hall hbT hbK
  obtain ⟨L, hLe⟩ : ∃ L, L = cutL s b T := ⟨_, rfl⟩
  rw [← hLe] at hL
  have hLA : Aside (L = cutL s b T) := hLe
  clear hLe
  rw [← List.length_map (f := fun x : ByteArray × ByteArray => x.1), hL, show (walkB s T).map (fun x => Value.string x.1) = L.map Value.string from by rw [← hL]; simp] at hrow
  obtain ⟨A, cp, rfl, hcp, hrd⟩ := row_open hrow
  have hMW := h.below hB
  have hlt := h.lt
  have hsz := hB.size
  have hDk := (Array.getElem?_eq_some_iff.1 hK).1
  have hD' : w.heap.size + 1 + 1 + 1 < D := by simp at hD; omega
  have hbx := hv
  have hbl := hv.lt
  have hLn : (L.length : Int) < 4294967296 := by rw [← hL, List.length_map]; omega
  have hc1 := hv.cell
  clear hrow hv
  gi_wp2
  refine wpIn_wide.2 ?_
  go_loopg [26] L.length (fun g i wr => ∃ j : Int, i = .int .i64 j ∧ 0 ≤ j ∧ j.toNat + g = L.length ∧ MpN wr p (dropAll (L.take j.toNat) T) ∧ Fr (mb p ++ T.bs) W wr)
  case atStart => exact ⟨0, rfl, Int.le_refl _, by simp, by simpa [dropAll] using hMW, Fr.refl _ _⟩
  case round =>
   obtain ⟨j, rfl, h0j, hj, hM, hf⟩ := hrel
   have hin : ∀ q, w.heap.size ≤ q → q ∉ mb p ++ T.bs := fun q hq hm => by have := hlt q hm; omega
   cases gk with
   | zero =>
    have hd : decide (j < (L.length : Int)) = false := decide_eq_false (by omega)
    have hbw : Boxed wr (w.heap.size + 1) 24 (.slice A L.length cp) := (hf.block _ hbl (hin _ (by omega))).trans hbx
    have hcw := hbw.cell
    have hKw := (hf.block D hDk (hin _ (by omega))).trans hK
    rw [show j.toNat = L.length by omega, List.take_length] at hM
    clear hrd hc1 hbx
    go_wp2
    gi_wp2
    refine ⟨by simp, .inl ⟨_, _, rfl, run_takeDeferred hKw, ?_⟩⟩
    obtain rfl := hLA.out
    have fw : Fr (mb p ++ T.bs) w wr := (Fr.of_below hB).trans hf (fun x hx => .inl hx)
    refine ⟨_, results_tmp rfl _ _ _, rfl, hM.fr (B := [D]) (Fr.one_put _ _ _) ?_ ?_, Fr.putObj fw (by omega) _⟩
    ·rintro a rfl
     have := hlt a.block (by simp [mb])
     simp; omega
    ·intro x hx
     have := hlt x (by simp [dropAll_mem _ _ _ hx])
     simp; omega
   | succ g =>
    have hd : decide (j < (L.length : Int)) = true := decide_eq_true (by omega)
    obtain ⟨k, hk⟩ : ∃ k, L[j.toNat]? = some k := ⟨_, List.getElem?_eq_getElem (by omega)⟩
    obtain ⟨gb, rfl, hgb, hgl, hcell⟩ := hrd j.toNat (.string k) (by rw [List.getElem?_map, hk]; rfl)
    have hcw : wr.cell? ⟨gb, j.toNat, none⟩ = some (.string k) := by
     have := hf.block gb hgl (hin _ hgb)
     unfold World.cell? at hcell ⊢
     rw [this]; exact hcell
    have e1 : L.take (j + 1).toNat = L.take j.toNat ++ [k] := by rw [show (j + 1).toNat = j.toNat + 1 by omega, List.take_add_one, hk]; rfl
    have e1A : Aside (L.take (j + 1).toNat = L.take j.toNat ++ [k]) := e1
    clear e1
    clear hrd hc1 hbx hk
    cases p with
    | none =>
     exfalso
     obtain rfl : T = .nil := h
     have : L = [] := by
      rw [← hL]
      simp [walkB] -- s (.nil : Kn ByteArray ByteArray) = [] from rfl)
     rw [this] at hj; simp at hj
    | some a =>
     obtain ⟨ha, hM⟩ := hM
     obtain ⟨m, rfl⟩ : ∃ m, a = ⟨m, 0, none⟩ := ⟨a.block, ha⟩
     have hjA : Aside (0 ≤ j ∧ j.toNat + (g + 1) = L.length) := ⟨h0j, hj⟩
     clear ha h hin hL
     replace hM : Mp wr m _ := hM
     have W1 := mdrop_any k hM (Kn.dropAll_cnt' _ _ hc)
     have d0 : decide (0 ≤ j) = true := decide_eq_true h0j
     have d1 := eq_true h0j
     have d2 := eq_true (show j < (L.length : Int) by omega)
     clear h0j hj
     clear bT bO bN bK hB0 hT hD hMW hlt hc hwl hi hz0 hz1 hz2 hB hK hmax hcell hsz hDk hD' hbl hgb hgl
     go_wp2_with (go_at_call 100; refine W1.mono ?_; clear W1; rintro e w1 ⟨rfl, hM1, hf1⟩)
     go_roundg g
     case measure => omega
     case rel =>
      refine ⟨j + 1, ?_, by have := hjA.out.1; omega, by have := hjA.out; omega, ⟨rfl, by rw [e1A.out, dropAll_snoc]; exact hM1⟩, hf.trans hf1 (fun x hx => .inl ?_)⟩
      ·have : wrap64 (j + 1) = j + 1 := by have hj := hjA.out; rw [IntWalk.wrap64_in _ (by omega)]
       rw [this]
      ·simp only [mb, List.singleton_append, List.mem_cons] at hx ⊢
       exact hx.imp id (dropAll_mem _ _ _)
 case stop =>
  rintro D c ys W hD hpre ⟨rfl, pre', x, rfl, ⟨⟨⟨v, hv, hrow, _, _⟩, hB⟩, hbT, hbK⟩, hall, hx'⟩ hK
  have hL : pre'.map (·.1) = cutL s b T := by
   obtain ⟨r, hr⟩ := hpre
   unfold cutL
   rw [← hr, List.append_assoc, List.takeWhile_append_of_pos (by simpa using hall)]
   simp [hx']
  clear hall hbT hbK hx'
  obtain ⟨L, hLe⟩ : ∃ L, L = cutL s b T := ⟨_, rfl⟩
  rw [← hLe] at hL
  have hLA : Aside (L = cutL s b T) := hLe
  clear hLe
  rw [← List.length_map (f := fun x : ByteArray × ByteArray => x.1), hL, show pre'.map (fun x => Value.string x.1) = L.map Value.string from by rw [← hL]; simp] at hrow
  obtain ⟨A, cp, rfl, hcp, hrd⟩ := row_open hrow
  have hMW := h.below hB
  have hlt := h.lt
  have hsz := hB.size
  have hDk := (Array.getElem?_eq_some_iff.1 hK).1
  have hD' : w.heap.size + 1 + 1 + 1 < D := by simp at hD; omega
  have hbx := hv
  have hbl := hv.lt
  have hLn : (L.length : Int) < 4294967296 := by rw [← hL, List.length_map]; obtain ⟨r, hr⟩ := hpre; have := congrArg List.length hr; simp at this; omega
  have hc1 := hv.cell
  clear hrow hv
  gi_wp2
  refine wpIn_wide.2 ?_
  go_loopg [26] L.length (fun g i wr => ∃ j : Int, i = .int .i64 j ∧ 0 ≤ j ∧ j.toNat + g = L.length ∧ MpN wr p (dropAll (L.take j.toNat) T) ∧ Fr (mb p ++ T.bs) W wr)
  case atStart => exact ⟨0, rfl, Int.le_refl _, by simp, by simpa [dropAll] using hMW, Fr.refl _ _⟩
  case round =>
   obtain ⟨j, rfl, h0j, hj, hM, hf⟩ := hrel
   have hin : ∀ q, w.heap.size ≤ q → q ∉ mb p ++ T.bs := fun q hq hm => by have := hlt q hm; omega
   cases gk with
   | zero =>
    have hd : decide (j < (L.length : Int)) = false := decide_eq_false (by omega)
    have hbw : Boxed wr (w.heap.size + 1) 24 (.slice A L.length cp) := (hf.block _ hbl (hin _ (by omega))).trans hbx
    have hcw := hbw.cell
    have hKw := (hf.block D hDk (hin _ (by omega))).trans hK
    rw [show j.toNat = L.length by omega, List.take_length] at hM
    clear hrd hc1 hbx
    go_wp2
    gi_wp2
    refine ⟨by simp, .inl ⟨_, _, rfl, run_takeDeferred hKw, ?_⟩⟩
    obtain rfl := hLA.out
    have fw : Fr (mb p ++ T.bs) w wr := (Fr.of_below hB).trans hf (fun x hx => .inl hx)
    refine ⟨_, results_tmp rfl _ _ _, rfl, hM.fr (B := [D]) (Fr.one_put _ _ _) ?_ ?_, Fr.putObj fw (by omega) _⟩
    ·rintro a rfl
     have := hlt a.block (by simp [mb])
     simp; omega
    ·intro x hx
     have := hlt x (by simp [dropAll_mem _ _ _ hx])
     simp; omega
   | succ g =>
    have hd : decide (j < (L.length : Int)) = true := decide_eq_true (by omega)
    obtain ⟨k, hk⟩ : ∃ k, L[j.toNat]? = some k := ⟨_, List.getElem?_eq_getElem (by omega)⟩
    obtain ⟨gb, rfl, hgb, hgl, hcell⟩ := hrd j.toNat (.string k) (by rw [List.getElem?_map, hk]; rfl)
    have hcw : wr.cell? ⟨gb, j.toNat, none⟩ = some (.string k) := by
     have := hf.block gb hgl (hin _ hgb)
     unfold World.cell? at hcell ⊢
     rw [this]; exact hcell
    have e1 : L.take (j + 1).toNat = L.take j.toNat ++ [k] := by rw [show (j + 1).toNat = j.toNat + 1 by omega, List.take_add_one, hk]; rfl
    have e1A : Aside (L.take (j + 1).toNat = L.take j.toNat ++ [k]) := e1
    clear e1
    clear hrd hc1 hbx hk
    cases p with
    | none =>
     exfalso
     obtain rfl : T = .nil := h
     have : L = [] := by
      rw [← hL]
      simpa [walkB] using (by obtain ⟨r, hr⟩ := hpre; simp [walkB] at hr : pre' = [])
     rw [this] at hj; simp at hj
    | some a =>
     obtain ⟨ha, hM⟩ := hM
     obtain ⟨m, rfl⟩ : ∃ m, a = ⟨m, 0, none⟩ := ⟨a.block, ha⟩
     have hjA : Aside (0 ≤ j ∧ j.toNat + (g + 1) = L.length) := ⟨h0j, hj⟩
     clear ha h hin hL
     replace hM : Mp wr m _ := hM
     have W1 := mdrop_any k hM (Kn.dropAll_cnt' _ _ hc)
     have d0 : decide (0 ≤ j) = true := decide_eq_true h0j
     have d1 := eq_true h0j
     have d2 := eq_true (show j < (L.length : Int) by omega)
     clear h0j hj
     clear bT bO bN bK hB0 hT hD hMW hlt hc hwl hi hz0 hz1 hz2 hB hK hmax hcell hsz hDk hD' hbl hgb hgl
     go_wp2_with (go_at_call 100; refine W1.mono ?_; clear W1; rintro e w1 ⟨rfl, hM1, hf1⟩)
     go_roundg g
     case measure => omega
     case rel =>
      refine ⟨j + 1, ?_, by have := hjA.out.1; omega, by have := hjA.out; omega, ⟨rfl, by rw [e1A.out, dropAll_snoc]; exact hM1⟩, hf.trans hf1 (fun x hx => .inl ?_)⟩
      ·have : wrap64 (j + 1) = j + 1 := by have hj := hjA.out; rw [IntWalk.wrap64_in _ (by omega)]
       rw [this]
      ·simp only [mb, List.singleton_append, List.mem_cons] at hx ⊢
       exact hx.imp id (dropAll_mem _ _ _)
end Go.Proofs.Ytebejadiaooooaa.OrdSs
end
section
namespace Go.Proofs.Ytebejadiaooooaa.Ord
namespace Kn
variable {K V : Type}
end Kn
structure Lin {K : Type} (lt : K → K → Bool) : Prop where
 irr : ∀ a, lt a a = false
 tr : ∀ {a b c}, lt a b = true → lt b c = true → lt a c = true
 tri : ∀ {a b}, lt a b = false → lt b a = false → a = b
theorem Lin.asym {K : Type} {lt : K → K → Bool} (L : Lin lt) {a b : K} (h : lt a b = true) : lt b a = false := by
 cases k : lt b a with
 | false => rfl
 | true => have := L.tr h k; rw [L.irr] at this; cases this
variable {K V : Type} {lt : K → K → Bool}
abbrev Rise (lt : K → K → Bool) (l : List (K × V)) : Prop := l.Pairwise (fun x y => lt x.1 y.1 = true)
def ins (lt : K → K → Bool) (key : K) (val : V) (l : List (K × V)) : List (K × V) := l.filter (fun x => lt x.1 key) ++ (key, val) :: l.filter (fun x => lt key x.1)
def del (lt : K → K → Bool) (key : K) (l : List (K × V)) : List (K × V) := l.filter (fun x => lt x.1 key || lt key x.1)
def lookK (lt : K → K → Bool) (key : K) (l : List (K × V)) : Option V := (l.find? (fun x => !lt x.1 key && !lt key x.1)).map (·.2)
theorem fil_all {p : K × V → Bool} {l : List (K × V)} (h : ∀ x ∈ l, p x = true) : l.filter p = l := List.filter_eq_self.2 h
theorem fil_none {p : K × V → Bool} {l : List (K × V)} (h : ∀ x ∈ l, p x = false) : l.filter p = [] := List.filter_eq_nil_iff.2 (fun x hx => by rw [h x hx]; simp)
theorem rise_node {b : Nat} {k : K} {v : V} {l r : Kn K V} (h : Rise lt (Kn.node b k v l r).toL) :
  Rise lt l.toL ∧ Rise lt r.toL ∧ (∀ x ∈ l.toL, lt x.1 k = true) ∧ (∀ x ∈ r.toL, lt k x.1 = true) := by
 simp only [Rise, Kn.toL, List.pairwise_append, List.pairwise_cons] at h
 obtain ⟨h1, ⟨h2, h3⟩, h4⟩ := h
 exact ⟨h1, h3, fun x hx => h4 x hx (k, v) (by simp), h2⟩
theorem put_toL (L : Lin lt) (nb : Nat) (key : K) (val : V) : ∀ T : Kn K V, Rise lt T.toL → (Kn.put lt nb key val T).toL = ins lt key val T.toL
 | .nil, _ => by simp [Kn.put, Kn.toL, ins]
 | .node b k v l r, h => by
  obtain ⟨hl, hr, h1, h2⟩ := rise_node h
  unfold Kn.put
  by_cases hA : lt key k = true
  ·rw [if_pos hA, Kn.even_toL, put_toL L nb key val l hl]
   have e1 : r.toL.filter (fun x => lt x.1 key) = [] := fil_none fun x hx => L.asym (L.tr hA (h2 x hx))
   have e2 : r.toL.filter (fun x => lt key x.1) = r.toL := fil_all fun x hx => L.tr hA (h2 x hx)
   simp only [ins, Kn.toL, List.filter_append, List.filter_cons, e1, e2, hA, L.asym hA]
   simp
  ·rw [if_neg hA]
   have hA' : lt key k = false := by simpa using hA
   by_cases hB : lt k key = true
   ·rw [if_pos hB, Kn.even_toL, put_toL L nb key val r hr]
    have e1 : l.toL.filter (fun x => lt x.1 key) = l.toL := fil_all fun x hx => L.tr (h1 x hx) hB
    have e2 : l.toL.filter (fun x => lt key x.1) = [] := fil_none fun x hx => L.asym (L.tr (h1 x hx) hB)
    simp only [ins, Kn.toL, List.filter_append, List.filter_cons, e1, e2, hB, L.asym hB]
    simp
   ·rw [if_neg hB]
    have hB' : lt k key = false := by simpa using hB
    obtain rfl := L.tri hA' hB'
    have e1 : l.toL.filter (fun x => lt x.1 key) = l.toL := fil_all fun x hx => h1 x hx
    have e2 : l.toL.filter (fun x => lt key x.1) = [] := fil_none fun x hx => L.asym (h1 x hx)
    have e3 : r.toL.filter (fun x => lt x.1 key) = [] := fil_none fun x hx => L.asym (h2 x hx)
    have e4 : r.toL.filter (fun x => lt key x.1) = r.toL := fil_all fun x hx => h2 x hx
    simp only [ins, Kn.toL, List.filter_append, List.filter_cons, e1, e2, e3, e4, L.irr]
    simp
theorem least_toL : ∀ (b : Nat) (k : K) (v : V) (l r : Kn K V), (Kn.node b k v l r).toL = ((Kn.least b k v l r).2.2.1, (Kn.least b k v l r).2.2.2.1) :: (Kn.least b k v l r).1.toL
 | b, k, v, .nil, r => rfl
 | b, k, v, .node lb lk lv ll lr, r => by
  simp only [Kn.least, Kn.even_toL]
  rw [Kn.toL, least_toL lb lk lv ll lr]
  rfl
theorem drop_toL (L : Lin lt) (key : K) : ∀ T : Kn K V, Rise lt T.toL → (Kn.drop lt key T).toL = del lt key T.toL
 | .nil, _ => by simp [Kn.drop, Kn.toL, del]
 | .node b k v l r, h => by
  obtain ⟨hl, hr, h1, h2⟩ := rise_node h
  unfold Kn.drop
  by_cases hA : lt key k = true
  ·rw [if_pos hA, Kn.even_toL, drop_toL L key l hl]
   have e2 : r.toL.filter (fun x => lt x.1 key || lt key x.1) = r.toL := fil_all fun x hx => by rw [L.tr hA (h2 x hx)]; simp
   simp only [del, Kn.toL, List.filter_append, List.filter_cons, e2, hA]
   simp
  ·rw [if_neg hA]
   have hA' : lt key k = false := by simpa using hA
   by_cases hB : lt k key = true
   ·rw [if_pos hB, Kn.even_toL, drop_toL L key r hr]
    have e1 : l.toL.filter (fun x => lt x.1 key || lt key x.1) = l.toL := fil_all fun x hx => by rw [L.tr (h1 x hx) hB]; simp
    simp only [del, Kn.toL, List.filter_append, List.filter_cons, e1, hB]
    simp
   ·rw [if_neg hB]
    have hB' : lt k key = false := by simpa using hB
    obtain rfl := L.tri hA' hB'
    have e1 : l.toL.filter (fun x => lt x.1 key || lt key x.1) = l.toL := fil_all fun x hx => by rw [h1 x hx]; simp
    have e2 : r.toL.filter (fun x => lt x.1 key || lt key x.1) = r.toL := fil_all fun x hx => by rw [h2 x hx]; simp
    cases r with
    | nil =>
     simp only [del, Kn.toL, List.filter_append, List.filter_cons, e1, L.irr]
     simp
    | node rb rk rv rl rr =>
     simp only [Kn.even_toL, ← least_toL]
     rw [show (Kn.node b key v l (Kn.node rb rk rv rl rr)).toL = l.toL ++ (key, v) :: (Kn.node rb rk rv rl rr).toL from rfl]
     simp only [del, List.filter_append, List.filter_cons, e1, e2, L.irr]
     simp
theorem find_look (L : Lin lt) (key : K) : ∀ T : Kn K V, Rise lt T.toL → (match Kn.find lt key T with | .nil => none | .node _ _ v _ _ => some v) = lookK lt key T.toL
 | .nil, _ => rfl
 | .node b k v l r, h => by
  obtain ⟨hl, hr, h1, h2⟩ := rise_node h
  unfold Kn.find
  by_cases hA : lt key k = true
  ·rw [if_pos hA, find_look L key l hl]
   have e2 : r.toL.find? (fun x => !lt x.1 key && !lt key x.1) = none := by
    rw [List.find?_eq_none]; intro x hx; rw [L.tr hA (h2 x hx)]; simp
   simp only [lookK, Kn.toL, List.find?_append, List.find?_cons, hA, e2]
   simp
  ·rw [if_neg hA]
   have hA' : lt key k = false := by simpa using hA
   by_cases hB : lt k key = true
   ·rw [if_pos hB, find_look L key r hr]
    have e1 : l.toL.find? (fun x => !lt x.1 key && !lt key x.1) = none := by
     rw [List.find?_eq_none]; intro x hx; rw [L.tr (h1 x hx) hB]; simp
    simp only [lookK, Kn.toL, List.find?_append, List.find?_cons, hB, e1]
    simp
   ·rw [if_neg hB]
    have hB' : lt k key = false := by simpa using hB
    obtain rfl := L.tri hA' hB'
    have e1 : l.toL.find? (fun x => !lt x.1 key && !lt key x.1) = none := by
     rw [List.find?_eq_none]; intro x hx; rw [h1 x hx]; simp
    simp only [lookK, Kn.toL, List.find?_append, List.find?_cons, e1, L.irr]
    simp
theorem ins_rise (L : Lin lt) (key : K) (val : V) {l : List (K × V)} (h : Rise lt l) : Rise lt (ins lt key val l) := by
 simp only [Rise, ins, List.pairwise_append, List.pairwise_cons, List.mem_filter, List.mem_cons]
 refine ⟨h.filter _, ⟨fun x hx => hx.2, h.filter _⟩, ?_⟩
 rintro x ⟨_, hx⟩ y (rfl | ⟨_, hy⟩)
 ·exact hx
 ·exact L.tr hx hy
theorem del_rise (key : K) {l : List (K × V)} (h : Rise lt l) : Rise lt (del lt key l) := h.filter _
end Go.Proofs.Ytebejadiaooooaa.Ord
end
