/- What a call that writes into some blocks leaves as it was; regions that draw and read. -/
import Derived.Test.YtohipdjoeoaphaaProg
import Derived.Test.YtohipdjoeoaphaaWWords
import Derived.Test.YtohipdjoeoaphaaWMore
import Derived.StillTailTactics
namespace Go.Proofs.Ytohipdjoeoaphaa.Ord
open Go.RowKit Go.Proofs.YtohipdjoeoaphaaW.PrintWords Go.Proofs.YtohipdjoeoaphaaW.PrintLast

/-- The blocks in B alone may have been written, and new ones laid. -/
structure Fr (B : List Nat) (w w' : World) : Prop where
  os : w'.os = w.os
  tape : w'.tape = w.tape
  output : w'.output = w.output
  size : w.heap.size ≤ w'.heap.size
  block : ∀ k, k < w.heap.size → k ∉ B → w'.heap[k]? = w.heap[k]?
namespace Fr
theorem refl (B : List Nat) (w : World) : Fr B w w := ⟨rfl, rfl, rfl, Nat.le_refl _, fun _ _ _ => rfl⟩
theorem of_below {B : List Nat} {w w' : World} (h : Below w.heap.size w w') : Fr B w w' := ⟨h.os, h.tape, h.output, h.size, fun k hk _ => h.block k hk⟩
theorem wide {B B' : List Nat} {w w' : World} (h : Fr B w w') (hB : ∀ k ∈ B, k ∈ B' ∨ w.heap.size ≤ k) : Fr B' w w' :=
  ⟨h.os, h.tape, h.output, h.size, fun k hk hn => h.block k hk (fun hb => by rcases hB k hb with h1 | h1; exact hn h1; omega)⟩
theorem trans {B C : List Nat} {w w1 w2 : World} (h : Fr B w w1) (k : Fr C w1 w2) (hC : ∀ x ∈ C, x ∈ B ∨ w.heap.size ≤ x) : Fr B w w2 :=
  ⟨k.os.trans h.os, k.tape.trans h.tape, k.output.trans h.output, Nat.le_trans h.size k.size, fun x hx hn =>
    (k.block x (Nat.lt_of_lt_of_le hx h.size) (fun hc => by rcases hC x hc with h1 | h1; exact hn h1; omega)).trans (h.block x hx hn)⟩
theorem drewN {B : List Nat} {w w' : World} (h : Fr B w w') (n : Nat) : Fr B w (w'.drewN n) := ⟨h.os, h.tape, h.output, h.size, h.block⟩
theorem drew {B : List Nat} {w w' : World} (h : Fr B w w') : Fr B w w'.drew := ⟨h.os, h.tape, h.output, h.size, h.block⟩
theorem set {B : List Nat} {w w' : World} (h : Fr B w w') {b i : Nat} (hb : b ∈ B ∨ w.heap.size ≤ b) (u : Value) : Fr B w (w'.setCell ⟨b, i, none⟩ u) := by
  have h2 := (Below.refl 0 w').setCell (p := ⟨b, i, none⟩) (Nat.zero_le _) u
  exact ⟨h2.os.trans h.os, h2.tape.trans h.tape, h2.output.trans h.output, Nat.le_trans h.size h2.size, fun x hx hn => by
    rw [Below.heap_setCell w' ⟨b, i, none⟩ u x (by rintro rfl; rcases hb with h1 | h1; exact hn h1; exact absurd hx (by simpa using h1))]
    exact h.block x hx hn⟩
theorem alloc {B : List Nat} {w w' : World} (h : Fr B w w') (o : Obj) : Fr B w (w'.alloc o) := by
  have h2 := (Below.refl w'.heap.size w').alloc (Nat.le_refl _) o
  exact h.trans (of_below (B := []) h2) (fun x hx => by cases hx)
theorem below {B : List Nat} {w w' : World} {base : Nat} (h : Fr B w w') (hB : ∀ k ∈ B, base ≤ k) (hb : base ≤ w.heap.size) : Below base w w' :=
  ⟨h.os, h.tape, h.output, h.size, fun k hk => h.block k (by omega) (fun hm => by have := hB k hm; omega)⟩
theorem blk {B : List Nat} {w w' : World} (h : Fr B w w') {g : Nat} {o : Obj} (hg : w.heap[g]? = some o) (hn : g ∉ B) : w'.heap[g]? = some o := (h.block g (blk_lt hg) hn).trans hg
end Fr

/-- A region that draws, all of whose operations but the last ones read (calls that change nothing among them): its world by a name. -/
theorem still_tail {P : Program} {id : Nat} {Q : Exit → Act → World → Prop} {a : Act} {w : World} {l : List Oper} (n : Nat) (hm : P.follows .mixedOrders = true) (hB : Region.lexTailB .any l.toArray n = true)
    (h : ∀ W, W = w.drew → wpStill P l.toArray W (fun a' => wpList P l.toArray Q (l.drop n) a' W) (l.take n) a) : (Code.region id l.toArray true).wp P Q a w :=
  wp_region_still_tail n hm hB (h _ rfl)

/-- .. all of whose operations read. -/
theorem still_all {P : Program} {id : Nat} {Q : Exit → Act → World → Prop} {a : Act} {w : World} {l : List Oper} (hm : P.follows .mixedOrders = true) (hB : Region.lexB .any l.toArray = true)
    (h : ∀ W, W = w.drew → wpStill P l.toArray W (fun a' => Q .normal a' W) l a) : (Code.region id l.toArray true).wp P Q a w :=
  wp_region_still_lit hm hB (h _ rfl)

end Go.Proofs.Ytohipdjoeoaphaa.Ord
