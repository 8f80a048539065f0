/- Texts of one claim (laid by shake.py). -/
import Derived.Test.YtebejadiaooooaaProg
import Derived.Test.YtebejadiaooooaaZy1
import Derived.Test.YtebejadiaooooaaZy2
import Derived.WalkKit
import Derived.Below
set_option linter.unusedVariables false
set_option linter.unusedSimpArgs false
section
namespace Go.Proofs.Ytebejadiaooooaa.Wm
open Go.RowKit Go.Proofs.YtebejadiaooooaaW.PrintWords Go.Proofs.YtebejadiaooooaaW.PrintLast Go.Proofs.YtebejadiaooooaaW.PrintMore Go.Proofs.Ytebejadiaooooaa.Own
set_option maxHeartbeats 2000000
set_option maxRecDepth 100000
def rgt (f t : ByteArray) : Bool := if t.toList = [] then true else Op.bytesLess f.toList t.toList
def bfr (a b : ByteArray) : Bool := if a.toList = [] then false else if b.toList = [] then true else Op.bytesLess a.toList b.toList
def gtr (f g : ByteArray) : ByteArray := if Op.bytesLess f.toList g.toList = true then g else f
def lst (t u : ByteArray) : ByteArray := if bfr u t = true then u else t
def meet (f t g u : ByteArray) : ByteArray × ByteArray × Bool :=
 if rgt f t = false then (⟨#[]⟩, ⟨#[]⟩, false) else if rgt g u = false then (⟨#[]⟩, ⟨#[]⟩, false)
 else if rgt (gtr f g) (lst t u) = true then (gtr f g, lst t u, true) else (⟨#[]⟩, ⟨#[]⟩, false)
theorem right_any (f t : ByteArray) (w : World) : Calls Try.prog 65 #[.agg #[.string f, .string t]] w fun e w' => e = .returned (.bool (rgt f t)) ∧ Below w.heap.size w w' := by
 have hur := Try.underlying28
 have hB0 : Below w.heap.size w (w.alloc (.cells #[.string f, .string t] 28)) := below_alloc (Below.refl _ _) _
 obtain ⟨r, hr⟩ : ∃ r, r = rgt f t := ⟨_, rfl⟩
 rw [← hr]
 unfold rgt at hr
 by_cases ht : t.toList = []
 ·rw [if_pos ht] at hr
  subst hr
  go_enter Try.func65, Try.ntmps65
  go_wp2
  go_ret
  exact ⟨by simp [ht], hB0⟩
 ·rw [if_neg ht] at hr
  have ht2 : (t.toList == []) = false := by simpa using ht
  subst hr
  go_enter Try.func65, Try.ntmps65
  go_wp2
  go_ret
  exact ⟨by simp [ht], hB0⟩
structure Bx (w : World) (f t g u : ByteArray) (W : World) : Prop where
 a : W.heap[w.heap.size]? = some (.cells #[.string f, .string t] 28 (0, 0))
 b : W.heap[w.heap.size + 1]? = some (.cells #[.string g, .string u] 28 (0, 0))
 r : W.heap[w.heap.size + 1 + 1]? = some (.cells #[.string ⟨#[]⟩, .string ⟨#[]⟩] 28 (0, 0))
 w : Below w.heap.size w W
theorem Bx.below {w W W' : World} {f t g u : ByteArray} (h : Bx w f t g u W) (hb : Below W.heap.size W W') : Bx w f t g u W' := ⟨blk_below h.a hb, blk_below h.b hb, blk_below h.r hb, below_step h.w hb⟩
theorem Bx.alloc {w W : World} {f t g u : ByteArray} (h : Bx w f t g u W) (o : Obj) : Bx w f t g u (W.alloc o) := h.below (below_alloc (Below.refl _ _) o)
theorem Bx.set {w W : World} {f t g u : ByteArray} (h : Bx w f t g u W) {x i : Nat} (hx : w.heap.size + 1 + 1 < x) (v : Value) : Bx w f t g u (W.setCell ⟨x, i, none⟩ v) :=
 ⟨blk_far h.a (by simp; omega) _, blk_far h.b (by simp; omega) _, blk_far h.r (by simp; omega) _, below_set h.w (by omega)⟩
theorem Bx.start (w : World) (f t g u : ByteArray) : Bx w f t g u (((w.alloc (.cells #[.string f, .string t] 28)).alloc (.cells #[.string g, .string u] 28)).alloc (.cells #[.string ⟨#[]⟩, .string ⟨#[]⟩] 28)) := by
 have e : ∀ (w : World) o, (w.alloc o).heap.size = w.heap.size + 1 := fun w o => by simp
 refine ⟨blk_alloc (blk_alloc (blk_new _ _) _) _, ?_, ?_, below_alloc (below_alloc (below_alloc (Below.refl _ _) _) _) _⟩
 ·have := blk_alloc (blk_new (w.alloc (.cells #[.string f, .string t] 28)) (.cells #[.string g, .string u] 28)) (.cells #[.string ⟨#[]⟩, .string ⟨#[]⟩] 28)
  rwa [e] at this
 ·have := blk_new ((w.alloc (.cells #[.string f, .string t] 28)).alloc (.cells #[.string g, .string u] 28)) (.cells #[.string ⟨#[]⟩, .string ⟨#[]⟩] 28)
  rwa [e, e] at this
end Go.Proofs.Ytebejadiaooooaa.Wm
end
