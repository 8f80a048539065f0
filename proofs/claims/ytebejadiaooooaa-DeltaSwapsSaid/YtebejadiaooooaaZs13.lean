/- Texts of one claim (laid by shake.py). -/
import Derived.Test.YtebejadiaooooaaProg
import Derived.Test.YtebejadiaooooaaZs2
import Derived.Test.YtebejadiaooooaaZs3
import Derived.WalkKit
import Derived.Below
set_option linter.unusedVariables false
set_option linter.unusedSimpArgs false
section
namespace Go.Proofs.Ytebejadiaooooaa.Wm
open Go.RowKit Go.Proofs.YtebejadiaooooaaW.PrintWords Go.Proofs.YtebejadiaooooaaW.PrintLast Go.Proofs.YtebejadiaooooaaW.PrintMore Go.Proofs.Ytebejadiaooooaa.Own
set_option maxHeartbeats 2000000
set_option maxRecDepth 100000
def rgt (f t : ByteArray) : Bool := if t.toList = [] then true else Op.bytesLess f.toList t.toList
def bfr (a b : ByteArray) : Bool := if a.toList = [] then false else if b.toList = [] then true else Op.bytesLess a.toList b.toList
def gtr (f g : ByteArray) : ByteArray := if Op.bytesLess f.toList g.toList = true then g else f
def lst (t u : ByteArray) : ByteArray := if bfr u t = true then u else t
def meet (f t g u : ByteArray) : ByteArray × ByteArray × Bool :=
 if rgt f t = false then (⟨#[]⟩, ⟨#[]⟩, false) else if rgt g u = false then (⟨#[]⟩, ⟨#[]⟩, false)
 else if rgt (gtr f g) (lst t u) = true then (gtr f g, lst t u, true) else (⟨#[]⟩, ⟨#[]⟩, false)
theorem right_any (f t : ByteArray) (w : World) : Calls Try.prog 65 #[.agg #[.string f, .string t]] w fun e w' => e = .returned (.bool (rgt f t)) ∧ Below w.heap.size w w' := by
 have hur := Try.underlying28
 have hB0 : Below w.heap.size w (w.alloc (.cells #[.string f, .string t] 28)) := below_alloc (Below.refl _ _) _
 obtain ⟨r, hr⟩ : ∃ r, r = rgt f t := ⟨_, rfl⟩
 rw [← hr]
 unfold rgt at hr
 by_cases ht : t.toList = []
 ·rw [if_pos ht] at hr
  subst hr
  go_enter Try.func65, Try.ntmps65
  go_wp2
  go_ret
  exact ⟨by simp [ht], hB0⟩
 ·rw [if_neg ht] at hr
  have ht2 : (t.toList == []) = false := by simpa using ht
  subst hr
  go_enter Try.func65, Try.ntmps65
  go_wp2
  go_ret
  exact ⟨by simp [ht], hB0⟩
theorem before_any (a b : ByteArray) (w : World) : Calls Try.prog 86 #[.string a, .string b] w fun e w' => e = .returned (.bool (bfr a b)) ∧ Below w.heap.size w w' := by
 obtain ⟨r, hr⟩ : ∃ r, r = bfr a b := ⟨_, rfl⟩
 rw [← hr]
 unfold bfr at hr
 by_cases h1 : a.toList = []
 ·rw [if_pos h1] at hr
  subst hr
  go_enter Try.func86, Try.ntmps86
  go_wp2
  go_ret
  exact ⟨rfl, Below.refl _ _⟩
 ·have h1b : (a.toList == []) = false := by simpa using h1
  rw [if_neg h1] at hr
  by_cases h2 : b.toList = []
  ·rw [if_pos h2] at hr
   subst hr
   go_enter Try.func86, Try.ntmps86
   go_wp2
   go_ret
   exact ⟨by simp [h2], Below.refl _ _⟩
  ·have h2b : (b.toList == []) = false := by simpa using h2
   rw [if_neg h2] at hr
   subst hr
   go_enter Try.func86, Try.ntmps86
   go_wp2
   go_ret
   exact ⟨by simp [h2], Below.refl _ _⟩
structure Bx (w : World) (f t g u : ByteArray) (W : World) : Prop where
 a : W.heap[w.heap.size]? = some (.cells #[.string f, .string t] 28 (0, 0))
 b : W.heap[w.heap.size + 1]? = some (.cells #[.string g, .string u] 28 (0, 0))
 r : W.heap[w.heap.size + 1 + 1]? = some (.cells #[.string ⟨#[]⟩, .string ⟨#[]⟩] 28 (0, 0))
 w : Below w.heap.size w W
theorem Bx.below {w W W' : World} {f t g u : ByteArray} (h : Bx w f t g u W) (hb : Below W.heap.size W W') : Bx w f t g u W' := ⟨blk_below h.a hb, blk_below h.b hb, blk_below h.r hb, below_step h.w hb⟩
theorem Bx.alloc {w W : World} {f t g u : ByteArray} (h : Bx w f t g u W) (o : Obj) : Bx w f t g u (W.alloc o) := h.below (below_alloc (Below.refl _ _) o)
theorem Bx.set {w W : World} {f t g u : ByteArray} (h : Bx w f t g u W) {x i : Nat} (hx : w.heap.size + 1 + 1 < x) (v : Value) : Bx w f t g u (W.setCell ⟨x, i, none⟩ v) :=
 ⟨blk_far h.a (by simp; omega) _, blk_far h.b (by simp; omega) _, blk_far h.r (by simp; omega) _, below_set h.w (by omega)⟩
theorem Bx.start (w : World) (f t g u : ByteArray) : Bx w f t g u (((w.alloc (.cells #[.string f, .string t] 28)).alloc (.cells #[.string g, .string u] 28)).alloc (.cells #[.string ⟨#[]⟩, .string ⟨#[]⟩] 28)) := by
 have e : ∀ (w : World) o, (w.alloc o).heap.size = w.heap.size + 1 := fun w o => by simp
 refine ⟨blk_alloc (blk_alloc (blk_new _ _) _) _, ?_, ?_, below_alloc (below_alloc (below_alloc (Below.refl _ _) _) _) _⟩
 ·have := blk_alloc (blk_new (w.alloc (.cells #[.string f, .string t] 28)) (.cells #[.string g, .string u] 28)) (.cells #[.string ⟨#[]⟩, .string ⟨#[]⟩] 28)
  rwa [e] at this
 ·have := blk_new ((w.alloc (.cells #[.string f, .string t] 28)).alloc (.cells #[.string g, .string u] 28)) (.cells #[.string ⟨#[]⟩, .string ⟨#[]⟩] 28)
  rwa [e, e] at this
theorem meet_left (f t g u : ByteArray) (w : World) (h1 : rgt f t = false) : Calls Try.prog 50 #[.agg #[.string f, .string t], .agg #[.string g, .string u]] w fun e w' => e = .returned (.tuple #[.agg #[.string ⟨#[]⟩, .string ⟨#[]⟩], .bool false]) ∧ Below w.heap.size w w' := by
 have hur := Try.underlying28
 have hS := Bx.start w f t g u
 have RA := fun W => right_any f t W
 rw [h1] at RA
 clear h1
 go_enter Try.func50, Try.ntmps50
 go_wp2_with (go_at_call 65; refine (RA _).mono ?_; clear RA; rintro e w1 ⟨rfl, hB1⟩; have hS1 := hS.below hB1; clear hS hB1; have r0 := blk_cell hS1.r 0; have r1 := blk_cell hS1.r 1; have z0 := blk_frozen hS1.r 0; have z1 := blk_frozen hS1.r 1; simp at r0 r1)
 refine bodyPost_ret (results_ct rfl _ _ (w.heap.size + 1 + 1) 28 #[.string ⟨#[]⟩, .string ⟨#[]⟩] (0, 0) _ rfl ?_ hur rfl (by kernel_rfl)) rfl ?_
 ·exact blk_set (blk_set (hS1).r 0 _) 1 _
 ·exact ⟨rfl, below_set (below_set (hS1).w (by omega)) (by omega)⟩
theorem meet_right (f t g u : ByteArray) (w : World) (h1 : rgt f t = true) (h2 : rgt g u = false) : Calls Try.prog 50 #[.agg #[.string f, .string t], .agg #[.string g, .string u]] w fun e w' => e = .returned (.tuple #[.agg #[.string ⟨#[]⟩, .string ⟨#[]⟩], .bool false]) ∧ Below w.heap.size w w' := by
 have hur := Try.underlying28
 have hS := Bx.start w f t g u
 have RA := fun W => right_any f t W
 rw [h1] at RA
 have RB := fun W => right_any g u W
 rw [h2] at RB
 clear h1 h2
 go_enter Try.func50, Try.ntmps50
 go_wp2_with (first
  | (go_at_call 65; refine (RA _).mono ?_; clear RA; rintro e w1 ⟨rfl, hB1⟩; have hS1 := hS.below hB1; clear hS hB1; have a0 := blk_cell hS1.a 0; have a1 := blk_cell hS1.a 1; have b0 := blk_cell hS1.b 0; have b1 := blk_cell hS1.b 1; simp at a0 a1 b0 b1)
  | (go_at_call 65; refine (RB _).mono ?_; clear RB; rintro e w2 ⟨rfl, hB2⟩; have hS2 := hS1.below hB2; clear hS1 hB2; (try clear a0 a1 b0 b1); have r0 := blk_cell hS2.r 0; have r1 := blk_cell hS2.r 1; have z0 := blk_frozen hS2.r 0; have z1 := blk_frozen hS2.r 1; simp at r0 r1))
 refine bodyPost_ret (results_ct rfl _ _ (w.heap.size + 1 + 1) 28 #[.string ⟨#[]⟩, .string ⟨#[]⟩] (0, 0) _ rfl ?_ hur rfl (by kernel_rfl)) rfl ?_
 ·exact blk_set (blk_set (hS2).r 0 _) 1 _
 ·exact ⟨rfl, below_set (below_set (hS2).w (by omega)) (by omega)⟩
theorem meet_001 (f t g u : ByteArray) (w : World) (h1 : rgt f t = true) (h2 : rgt g u = true) (h3 : Op.bytesLess f.toList g.toList = false) (h4 : bfr u t = false) (h5 : rgt f t = true) : Calls Try.prog 50 #[.agg #[.string f, .string t], .agg #[.string g, .string u]] w fun e w' => e = .returned (.tuple #[.agg #[.string f, .string t], .bool true]) ∧ Below w.heap.size w w' := by
 have hur := Try.underlying28
 have hS := Bx.start w f t g u
 have RA := fun W => right_any f t W
 rw [h1] at RA
 have RB := fun W => right_any g u W
 rw [h2] at RB
 have BF := fun W => before_any u t W
 rw [h4] at BF
 have RC := fun W => right_any f t W
 rw [h5] at RC
 clear h1 h2 h4 h5
 go_enter Try.func50, Try.ntmps50
 go_wp2_with (first
  | (go_at_call 65; refine (RA _).mono ?_; clear RA; rintro e w1 ⟨rfl, hB1⟩; have hS1 := hS.below hB1; clear hS hB1; have a0 := blk_cell hS1.a 0; have a1 := blk_cell hS1.a 1; have b0 := blk_cell hS1.b 0; have b1 := blk_cell hS1.b 1; simp at a0 a1 b0 b1)
  | (go_at_call 65; refine (RB _).mono ?_; clear RB; rintro e w2 ⟨rfl, hB2⟩; have hS2 := hS1.below hB2; clear hS1 hB2; (try clear a0 a1 b0 b1); have a0 := blk_cell hS2.a 0; have a1 := blk_cell hS2.a 1; have b0 := blk_cell hS2.b 0; have b1 := blk_cell hS2.b 1; simp at a0 a1 b0 b1; have hlt := blk_lt hS2.r; have d0 := blk_cell (hS2.alloc (.cells #[.string f, .string t] 28)).b 0; have d1 := blk_cell (hS2.alloc (.cells #[.string f, .string t] 28)).b 1; have s0 := blk_cell (blk_new w2 (.cells #[.string f, .string t] 28)) 0; have s1 := blk_cell (blk_new w2 (.cells #[.string f, .string t] 28)) 1; have y0 := blk_frozen (blk_new w2 (.cells #[.string f, .string t] 28)) 0; simp at d0 d1 s0 s1)
  | (go_at_call 86; refine (BF _).mono ?_; clear BF; rintro e w3 ⟨rfl, hB3⟩; have hS3 := (hS2.alloc (.cells #[.string f, .string t] 28)).below hB3; have hr3 := blk_below (blk_new w2 (.cells #[.string f, .string t] 28)) hB3; clear hS2 hB3; (try clear a0 a1 b0 b1); (try clear d0 d1 s0 s1 y0); (try clear x1 t1); have a0 := blk_cell hS3.a 0; have a1 := blk_cell hS3.a 1; have b0 := blk_cell hS3.b 0; have b1 := blk_cell hS3.b 1; simp at a0 a1 b0 b1; have q0 := blk_cell hr3 0; have q1 := blk_cell hr3 1; have y1 := blk_frozen hr3 1; simp at q0 q1)
  | (go_at_call 65; refine (RC _).mono ?_; clear RC; rintro e w4 ⟨rfl, hB4⟩; have hS4 := hS3.below hB4; have hr4 := blk_below hr3 hB4; clear hS3 hr3 hB4; (try clear a0 a1 b0 b1 q0 q1 y1); have r0 := blk_cell hS4.r 0; have r1 := blk_cell hS4.r 1; have z0 := blk_frozen hS4.r 0; have z1 := blk_frozen hS4.r 1; simp at r0 r1; have q0 := blk_cell hr4 0; have q1 := blk_cell hr4 1; simp at q0 q1))
 refine bodyPost_ret (results_ct rfl _ _ (w.heap.size + 1 + 1) 28 #[.string f, .string t] (0, 0) _ rfl ?_ hur rfl (by kernel_rfl)) rfl ?_
 ·exact blk_set (blk_set (hS4).r 0 _) 1 _
 ·exact ⟨rfl, below_set (below_set (hS4).w (by omega)) (by omega)⟩
theorem meet_010 (f t g u : ByteArray) (w : World) (h1 : rgt f t = true) (h2 : rgt g u = true) (h3 : Op.bytesLess f.toList g.toList = false) (h4 : bfr u t = true) (h5 : rgt f u = false) : Calls Try.prog 50 #[.agg #[.string f, .string t], .agg #[.string g, .string u]] w fun e w' => e = .returned (.tuple #[.agg #[.string ⟨#[]⟩, .string ⟨#[]⟩], .bool false]) ∧ Below w.heap.size w w' := by
 have hur := Try.underlying28
 have hS := Bx.start w f t g u
 have RA := fun W => right_any f t W
 rw [h1] at RA
 have RB := fun W => right_any g u W
 rw [h2] at RB
 have BF := fun W => before_any u t W
 rw [h4] at BF
 have RC := fun W => right_any f u W
 rw [h5] at RC
 clear h1 h2 h4 h5
 go_enter Try.func50, Try.ntmps50
 go_wp2_with (first
  | (go_at_call 65; refine (RA _).mono ?_; clear RA; rintro e w1 ⟨rfl, hB1⟩; have hS1 := hS.below hB1; clear hS hB1; have a0 := blk_cell hS1.a 0; have a1 := blk_cell hS1.a 1; have b0 := blk_cell hS1.b 0; have b1 := blk_cell hS1.b 1; simp at a0 a1 b0 b1)
  | (go_at_call 65; refine (RB _).mono ?_; clear RB; rintro e w2 ⟨rfl, hB2⟩; have hS2 := hS1.below hB2; clear hS1 hB2; (try clear a0 a1 b0 b1); have a0 := blk_cell hS2.a 0; have a1 := blk_cell hS2.a 1; have b0 := blk_cell hS2.b 0; have b1 := blk_cell hS2.b 1; simp at a0 a1 b0 b1; have hlt := blk_lt hS2.r; have d0 := blk_cell (hS2.alloc (.cells #[.string f, .string t] 28)).b 0; have d1 := blk_cell (hS2.alloc (.cells #[.string f, .string t] 28)).b 1; have s0 := blk_cell (blk_new w2 (.cells #[.string f, .string t] 28)) 0; have s1 := blk_cell (blk_new w2 (.cells #[.string f, .string t] 28)) 1; have y0 := blk_frozen (blk_new w2 (.cells #[.string f, .string t] 28)) 0; simp at d0 d1 s0 s1)
  | (go_at_call 86; refine (BF _).mono ?_; clear BF; rintro e w3 ⟨rfl, hB3⟩; have hS3 := (hS2.alloc (.cells #[.string f, .string t] 28)).below hB3; have hr3 := blk_below (blk_new w2 (.cells #[.string f, .string t] 28)) hB3; clear hS2 hB3; (try clear a0 a1 b0 b1); (try clear d0 d1 s0 s1 y0); (try clear x1 t1); have a0 := blk_cell hS3.a 0; have a1 := blk_cell hS3.a 1; have b0 := blk_cell hS3.b 0; have b1 := blk_cell hS3.b 1; simp at a0 a1 b0 b1; have q0 := blk_cell hr3 0; have q1 := blk_cell hr3 1; have y1 := blk_frozen hr3 1; simp at q0 q1)
  | (go_at_call 65; refine (RC _).mono ?_; clear RC; rintro e w4 ⟨rfl, hB4⟩; have hS4 := (hS3.set (x := w2.heap.size) (i := 1) hlt (.string u)).below hB4; have hr4 := blk_below (blk_set hr3 1 (.string u)) hB4; clear hS3 hr3 hB4; (try clear a0 a1 b0 b1 q0 q1 y1); have r0 := blk_cell hS4.r 0; have r1 := blk_cell hS4.r 1; have z0 := blk_frozen hS4.r 0; have z1 := blk_frozen hS4.r 1; simp at r0 r1; have q0 := blk_cell hr4 0; have q1 := blk_cell hr4 1; simp at q0 q1))
 refine bodyPost_ret (results_ct rfl _ _ (w.heap.size + 1 + 1) 28 #[.string ⟨#[]⟩, .string ⟨#[]⟩] (0, 0) _ rfl ?_ hur rfl (by kernel_rfl)) rfl ?_
 ·exact blk_set (blk_set (hS4).r 0 _) 1 _
 ·exact ⟨rfl, below_set (below_set (hS4).w (by omega)) (by omega)⟩
theorem meet_011 (f t g u : ByteArray) (w : World) (h1 : rgt f t = true) (h2 : rgt g u = true) (h3 : Op.bytesLess f.toList g.toList = false) (h4 : bfr u t = true) (h5 : rgt f u = true) : Calls Try.prog 50 #[.agg #[.string f, .string t], .agg #[.string g, .string u]] w fun e w' => e = .returned (.tuple #[.agg #[.string f, .string u], .bool true]) ∧ Below w.heap.size w w' := by
 have hur := Try.underlying28
 have hS := Bx.start w f t g u
 have RA := fun W => right_any f t W
 rw [h1] at RA
 have RB := fun W => right_any g u W
 rw [h2] at RB
 have BF := fun W => before_any u t W
 rw [h4] at BF
 have RC := fun W => right_any f u W
 rw [h5] at RC
 clear h1 h2 h4 h5
 go_enter Try.func50, Try.ntmps50
 go_wp2_with (first
  | (go_at_call 65; refine (RA _).mono ?_; clear RA; rintro e w1 ⟨rfl, hB1⟩; have hS1 := hS.below hB1; clear hS hB1; have a0 := blk_cell hS1.a 0; have a1 := blk_cell hS1.a 1; have b0 := blk_cell hS1.b 0; have b1 := blk_cell hS1.b 1; simp at a0 a1 b0 b1)
  | (go_at_call 65; refine (RB _).mono ?_; clear RB; rintro e w2 ⟨rfl, hB2⟩; have hS2 := hS1.below hB2; clear hS1 hB2; (try clear a0 a1 b0 b1); have a0 := blk_cell hS2.a 0; have a1 := blk_cell hS2.a 1; have b0 := blk_cell hS2.b 0; have b1 := blk_cell hS2.b 1; simp at a0 a1 b0 b1; have hlt := blk_lt hS2.r; have d0 := blk_cell (hS2.alloc (.cells #[.string f, .string t] 28)).b 0; have d1 := blk_cell (hS2.alloc (.cells #[.string f, .string t] 28)).b 1; have s0 := blk_cell (blk_new w2 (.cells #[.string f, .string t] 28)) 0; have s1 := blk_cell (blk_new w2 (.cells #[.string f, .string t] 28)) 1; have y0 := blk_frozen (blk_new w2 (.cells #[.string f, .string t] 28)) 0; simp at d0 d1 s0 s1)
  | (go_at_call 86; refine (BF _).mono ?_; clear BF; rintro e w3 ⟨rfl, hB3⟩; have hS3 := (hS2.alloc (.cells #[.string f, .string t] 28)).below hB3; have hr3 := blk_below (blk_new w2 (.cells #[.string f, .string t] 28)) hB3; clear hS2 hB3; (try clear a0 a1 b0 b1); (try clear d0 d1 s0 s1 y0); (try clear x1 t1); have a0 := blk_cell hS3.a 0; have a1 := blk_cell hS3.a 1; have b0 := blk_cell hS3.b 0; have b1 := blk_cell hS3.b 1; simp at a0 a1 b0 b1; have q0 := blk_cell hr3 0; have q1 := blk_cell hr3 1; have y1 := blk_frozen hr3 1; simp at q0 q1)
  | (go_at_call 65; refine (RC _).mono ?_; clear RC; rintro e w4 ⟨rfl, hB4⟩; have hS4 := (hS3.set (x := w2.heap.size) (i := 1) hlt (.string u)).below hB4; have hr4 := blk_below (blk_set hr3 1 (.string u)) hB4; clear hS3 hr3 hB4; (try clear a0 a1 b0 b1 q0 q1 y1); have r0 := blk_cell hS4.r 0; have r1 := blk_cell hS4.r 1; have z0 := blk_frozen hS4.r 0; have z1 := blk_frozen hS4.r 1; simp at r0 r1; have q0 := blk_cell hr4 0; have q1 := blk_cell hr4 1; simp at q0 q1))
 refine bodyPost_ret (results_ct rfl _ _ (w.heap.size + 1 + 1) 28 #[.string f, .string u] (0, 0) _ rfl ?_ hur rfl (by kernel_rfl)) rfl ?_
 ·exact blk_set (blk_set (hS4).r 0 _) 1 _
 ·exact ⟨rfl, below_set (below_set (hS4).w (by omega)) (by omega)⟩
theorem meet_100 (f t g u : ByteArray) (w : World) (h1 : rgt f t = true) (h2 : rgt g u = true) (h3 : Op.bytesLess f.toList g.toList = true) (h4 : bfr u t = false) (h5 : rgt g t = false) : Calls Try.prog 50 #[.agg #[.string f, .string t], .agg #[.string g, .string u]] w fun e w' => e = .returned (.tuple #[.agg #[.string ⟨#[]⟩, .string ⟨#[]⟩], .bool false]) ∧ Below w.heap.size w w' := by
 have hur := Try.underlying28
 have hS := Bx.start w f t g u
 have RA := fun W => right_any f t W
 rw [h1] at RA
 have RB := fun W => right_any g u W
 rw [h2] at RB
 have BF := fun W => before_any u t W
 rw [h4] at BF
 have RC := fun W => right_any g t W
 rw [h5] at RC
 clear h1 h2 h4 h5
 go_enter Try.func50, Try.ntmps50
 go_wp2_with (first
  | (go_at_call 65; refine (RA _).mono ?_; clear RA; rintro e w1 ⟨rfl, hB1⟩; have hS1 := hS.below hB1; clear hS hB1; have a0 := blk_cell hS1.a 0; have a1 := blk_cell hS1.a 1; have b0 := blk_cell hS1.b 0; have b1 := blk_cell hS1.b 1; simp at a0 a1 b0 b1)
  | (go_at_call 65; refine (RB _).mono ?_; clear RB; rintro e w2 ⟨rfl, hB2⟩; have hS2 := hS1.below hB2; clear hS1 hB2; (try clear a0 a1 b0 b1); have a0 := blk_cell hS2.a 0; have a1 := blk_cell hS2.a 1; have b0 := blk_cell hS2.b 0; have b1 := blk_cell hS2.b 1; simp at a0 a1 b0 b1; have hlt := blk_lt hS2.r; have d0 := blk_cell (hS2.alloc (.cells #[.string f, .string t] 28)).b 0; have d1 := blk_cell (hS2.alloc (.cells #[.string f, .string t] 28)).b 1; have s0 := blk_cell (blk_new w2 (.cells #[.string f, .string t] 28)) 0; have s1 := blk_cell (blk_new w2 (.cells #[.string f, .string t] 28)) 1; have y0 := blk_frozen (blk_new w2 (.cells #[.string f, .string t] 28)) 0; simp at d0 d1 s0 s1; have x1 := blk_cell (hS2.alloc (.cells #[.string g, .string t] 28)).b 1; have t1 := blk_cell (blk_new w2 (.cells #[.string g, .string t] 28)) 1; simp at x1 t1)
  | (go_at_call 86; refine (BF _).mono ?_; clear BF; rintro e w3 ⟨rfl, hB3⟩; have hS3 := (hS2.alloc (.cells #[.string g, .string t] 28)).below hB3; have hr3 := blk_below (blk_new w2 (.cells #[.string g, .string t] 28)) hB3; clear hS2 hB3; (try clear a0 a1 b0 b1); (try clear d0 d1 s0 s1 y0); (try clear x1 t1); have a0 := blk_cell hS3.a 0; have a1 := blk_cell hS3.a 1; have b0 := blk_cell hS3.b 0; have b1 := blk_cell hS3.b 1; simp at a0 a1 b0 b1; have q0 := blk_cell hr3 0; have q1 := blk_cell hr3 1; have y1 := blk_frozen hr3 1; simp at q0 q1)
  | (go_at_call 65; refine (RC _).mono ?_; clear RC; rintro e w4 ⟨rfl, hB4⟩; have hS4 := hS3.below hB4; have hr4 := blk_below hr3 hB4; clear hS3 hr3 hB4; (try clear a0 a1 b0 b1 q0 q1 y1); have r0 := blk_cell hS4.r 0; have r1 := blk_cell hS4.r 1; have z0 := blk_frozen hS4.r 0; have z1 := blk_frozen hS4.r 1; simp at r0 r1; have q0 := blk_cell hr4 0; have q1 := blk_cell hr4 1; simp at q0 q1))
 refine bodyPost_ret (results_ct rfl _ _ (w.heap.size + 1 + 1) 28 #[.string ⟨#[]⟩, .string ⟨#[]⟩] (0, 0) _ rfl ?_ hur rfl (by kernel_rfl)) rfl ?_
 ·exact blk_set (blk_set (hS4).r 0 _) 1 _
 ·exact ⟨rfl, below_set (below_set (hS4).w (by omega)) (by omega)⟩
theorem meet_101 (f t g u : ByteArray) (w : World) (h1 : rgt f t = true) (h2 : rgt g u = true) (h3 : Op.bytesLess f.toList g.toList = true) (h4 : bfr u t = false) (h5 : rgt g t = true) : Calls Try.prog 50 #[.agg #[.string f, .string t], .agg #[.string g, .string u]] w fun e w' => e = .returned (.tuple #[.agg #[.string g, .string t], .bool true]) ∧ Below w.heap.size w w' := by
 have hur := Try.underlying28
 have hS := Bx.start w f t g u
 have RA := fun W => right_any f t W
 rw [h1] at RA
 have RB := fun W => right_any g u W
 rw [h2] at RB
 have BF := fun W => before_any u t W
 rw [h4] at BF
 have RC := fun W => right_any g t W
 rw [h5] at RC
 clear h1 h2 h4 h5
 go_enter Try.func50, Try.ntmps50
 go_wp2_with (first
  | (go_at_call 65; refine (RA _).mono ?_; clear RA; rintro e w1 ⟨rfl, hB1⟩; have hS1 := hS.below hB1; clear hS hB1; have a0 := blk_cell hS1.a 0; have a1 := blk_cell hS1.a 1; have b0 := blk_cell hS1.b 0; have b1 := blk_cell hS1.b 1; simp at a0 a1 b0 b1)
  | (go_at_call 65; refine (RB _).mono ?_; clear RB; rintro e w2 ⟨rfl, hB2⟩; have hS2 := hS1.below hB2; clear hS1 hB2; (try clear a0 a1 b0 b1); have a0 := blk_cell hS2.a 0; have a1 := blk_cell hS2.a 1; have b0 := blk_cell hS2.b 0; have b1 := blk_cell hS2.b 1; simp at a0 a1 b0 b1; have hlt := blk_lt hS2.r; have d0 := blk_cell (hS2.alloc (.cells #[.string f, .string t] 28)).b 0; have d1 := blk_cell (hS2.alloc (.cells #[.string f, .string t] 28)).b 1; have s0 := blk_cell (blk_new w2 (.cells #[.string f, .string t] 28)) 0; have s1 := blk_cell (blk_new w2 (.cells #[.string f, .string t] 28)) 1; have y0 := blk_frozen (blk_new w2 (.cells #[.string f, .string t] 28)) 0; simp at d0 d1 s0 s1; have x1 := blk_cell (hS2.alloc (.cells #[.string g, .string t] 28)).b 1; have t1 := blk_cell (blk_new w2 (.cells #[.string g, .string t] 28)) 1; simp at x1 t1)
  | (go_at_call 86; refine (BF _).mono ?_; clear BF; rintro e w3 ⟨rfl, hB3⟩; have hS3 := (hS2.alloc (.cells #[.string g, .string t] 28)).below hB3; have hr3 := blk_below (blk_new w2 (.cells #[.string g, .string t] 28)) hB3; clear hS2 hB3; (try clear a0 a1 b0 b1); (try clear d0 d1 s0 s1 y0); (try clear x1 t1); have a0 := blk_cell hS3.a 0; have a1 := blk_cell hS3.a 1; have b0 := blk_cell hS3.b 0; have b1 := blk_cell hS3.b 1; simp at a0 a1 b0 b1; have q0 := blk_cell hr3 0; have q1 := blk_cell hr3 1; have y1 := blk_frozen hr3 1; simp at q0 q1)
  | (go_at_call 65; refine (RC _).mono ?_; clear RC; rintro e w4 ⟨rfl, hB4⟩; have hS4 := hS3.below hB4; have hr4 := blk_below hr3 hB4; clear hS3 hr3 hB4; (try clear a0 a1 b0 b1 q0 q1 y1); have r0 := blk_cell hS4.r 0; have r1 := blk_cell hS4.r 1; have z0 := blk_frozen hS4.r 0; have z1 := blk_frozen hS4.r 1; simp at r0 r1; have q0 := blk_cell hr4 0; have q1 := blk_cell hr4 1; simp at q0 q1))
 refine bodyPost_ret (results_ct rfl _ _ (w.heap.size + 1 + 1) 28 #[.string g, .string t] (0, 0) _ rfl ?_ hur rfl (by kernel_rfl)) rfl ?_
 ·exact blk_set (blk_set (hS4).r 0 _) 1 _
 ·exact ⟨rfl, below_set (below_set (hS4).w (by omega)) (by omega)⟩
theorem meet_111 (f t g u : ByteArray) (w : World) (h1 : rgt f t = true) (h2 : rgt g u = true) (h3 : Op.bytesLess f.toList g.toList = true) (h4 : bfr u t = true) (h5 : rgt g u = true) : Calls Try.prog 50 #[.agg #[.string f, .string t], .agg #[.string g, .string u]] w fun e w' => e = .returned (.tuple #[.agg #[.string g, .string u], .bool true]) ∧ Below w.heap.size w w' := by
 have hur := Try.underlying28
 have hS := Bx.start w f t g u
 have RA := fun W => right_any f t W
 rw [h1] at RA
 have RB := fun W => right_any g u W
 rw [h2] at RB
 have BF := fun W => before_any u t W
 rw [h4] at BF
 have RC := fun W => right_any g u W
 rw [h5] at RC
 clear h1 h2 h4 h5
 go_enter Try.func50, Try.ntmps50
 go_wp2_with (first
  | (go_at_call 65; refine (RA _).mono ?_; clear RA; rintro e w1 ⟨rfl, hB1⟩; have hS1 := hS.below hB1; clear hS hB1; have a0 := blk_cell hS1.a 0; have a1 := blk_cell hS1.a 1; have b0 := blk_cell hS1.b 0; have b1 := blk_cell hS1.b 1; simp at a0 a1 b0 b1)
  | (go_at_call 65; refine (RB _).mono ?_; clear RB; rintro e w2 ⟨rfl, hB2⟩; have hS2 := hS1.below hB2; clear hS1 hB2; (try clear a0 a1 b0 b1); have a0 := blk_cell hS2.a 0; have a1 := blk_cell hS2.a 1; have b0 := blk_cell hS2.b 0; have b1 := blk_cell hS2.b 1; simp at a0 a1 b0 b1; have hlt := blk_lt hS2.r; have d0 := blk_cell (hS2.alloc (.cells #[.string f, .string t] 28)).b 0; have d1 := blk_cell (hS2.alloc (.cells #[.string f, .string t] 28)).b 1; have s0 := blk_cell (blk_new w2 (.cells #[.string f, .string t] 28)) 0; have s1 := blk_cell (blk_new w2 (.cells #[.string f, .string t] 28)) 1; have y0 := blk_frozen (blk_new w2 (.cells #[.string f, .string t] 28)) 0; simp at d0 d1 s0 s1; have x1 := blk_cell (hS2.alloc (.cells #[.string g, .string t] 28)).b 1; have t1 := blk_cell (blk_new w2 (.cells #[.string g, .string t] 28)) 1; simp at x1 t1)
  | (go_at_call 86; refine (BF _).mono ?_; clear BF; rintro e w3 ⟨rfl, hB3⟩; have hS3 := (hS2.alloc (.cells #[.string g, .string t] 28)).below hB3; have hr3 := blk_below (blk_new w2 (.cells #[.string g, .string t] 28)) hB3; clear hS2 hB3; (try clear a0 a1 b0 b1); (try clear d0 d1 s0 s1 y0); (try clear x1 t1); have a0 := blk_cell hS3.a 0; have a1 := blk_cell hS3.a 1; have b0 := blk_cell hS3.b 0; have b1 := blk_cell hS3.b 1; simp at a0 a1 b0 b1; have q0 := blk_cell hr3 0; have q1 := blk_cell hr3 1; have y1 := blk_frozen hr3 1; simp at q0 q1)
  | (go_at_call 65; refine (RC _).mono ?_; clear RC; rintro e w4 ⟨rfl, hB4⟩; have hS4 := (hS3.set (x := w2.heap.size) (i := 1) hlt (.string u)).below hB4; have hr4 := blk_below (blk_set hr3 1 (.string u)) hB4; clear hS3 hr3 hB4; (try clear a0 a1 b0 b1 q0 q1 y1); have r0 := blk_cell hS4.r 0; have r1 := blk_cell hS4.r 1; have z0 := blk_frozen hS4.r 0; have z1 := blk_frozen hS4.r 1; simp at r0 r1; have q0 := blk_cell hr4 0; have q1 := blk_cell hr4 1; simp at q0 q1))
 refine bodyPost_ret (results_ct rfl _ _ (w.heap.size + 1 + 1) 28 #[.string g, .string u] (0, 0) _ rfl ?_ hur rfl (by kernel_rfl)) rfl ?_
 ·exact blk_set (blk_set (hS4).r 0 _) 1 _
 ·exact ⟨rfl, below_set (below_set (hS4).w (by omega)) (by omega)⟩
theorem meet_any (f t g u : ByteArray) (w : World) : Calls Try.prog 50 #[.agg #[.string f, .string t], .agg #[.string g, .string u]] w fun e w' => e = .returned (.tuple #[.agg #[.string (meet f t g u).1, .string (meet f t g u).2.1], .bool (meet f t g u).2.2]) ∧ Below w.heap.size w w' := by
 unfold meet gtr lst
 cases h1 : rgt f t
 ·exact meet_left f t g u w h1
 ·cases h2 : rgt g u
  ·exact meet_right f t g u w h1 h2
  ·cases h3 : Op.bytesLess f.toList g.toList <;> cases h4 : bfr u t
   ·cases h5 : rgt f t
    ·rw [h1] at h5; cases h5
    ·simpa [h5] using meet_001 f t g u w h1 h2 h3 h4 h5
   ·cases h5 : rgt f u
    ·simpa [h5] using meet_010 f t g u w h1 h2 h3 h4 h5
    ·simpa [h5] using meet_011 f t g u w h1 h2 h3 h4 h5
   ·cases h5 : rgt g t
    ·simpa [h5] using meet_100 f t g u w h1 h2 h3 h4 h5
    ·simpa [h5] using meet_101 f t g u w h1 h2 h3 h4 h5
   ·cases h5 : rgt g u
    ·rw [h2] at h5; cases h5
    ·simpa [h5] using meet_111 f t g u w h1 h2 h3 h4 h5
end Go.Proofs.Ytebejadiaooooaa.Wm
end
