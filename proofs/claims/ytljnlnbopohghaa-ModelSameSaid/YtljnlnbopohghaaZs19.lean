/- Texts of one claim (laid by shake.py). -/
import Derived.Test.YtljnlnbopohghaaZs16
set_option linter.unusedVariables false
set_option linter.unusedSimpArgs false
section
namespace Go.Proofs.Ytljnlnbopohghaa.Cur
open Go Go.RowKit Go.Maps Go.Proofs.YtljnlnbopohghaaW.PrintWords Go.Proofs.YtljnlnbopohghaaW.PrintLast Go.Proofs.YtljnlnbopohghaaW.PrintMore Go.Proofs.Ytljnlnbopohghaa.Own Go.Proofs.Ytljnlnbopohghaa.Ord Go.Proofs.Ytljnlnbopohghaa.P
set_option maxHeartbeats 2000000
set_option maxRecDepth 100000
theorem left_gen {w : World} {p : Nat} (k : Int) (f t : ByteArray) (d : Bool) (er : Int)
  (hfind : Calls Try.prog 47 #[.pointer (some ⟨p, 0, none⟩), .int .i64 k] (w.alloc (.cells #[.string ⟨#[]⟩, .string ⟨#[]⟩] 29)) fun e w' => e = .returned (.tuple #[.agg #[.string f, .string t, .bool d], .int .i64 er]) ∧ Below (w.alloc (.cells #[.string ⟨#[]⟩, .string ⟨#[]⟩] 29)).heap.size (w.alloc (.cells #[.string ⟨#[]⟩, .string ⟨#[]⟩] 29)) w') :
  Calls Try.prog 16 #[.pointer (some ⟨p, 0, none⟩), .int .i64 k] w fun e w' => e = .returned (.tuple #[.agg #[.string f, .string t], .bool d, .int .i64 er]) ∧ Below w.heap.size w w' := by
 have hur := Try.underlying29
 have hux := Try.underlying106
 have hB1 : Below w.heap.size w (w.alloc (.cells #[.string ⟨#[]⟩, .string ⟨#[]⟩] 29)) := below_alloc (Below.refl _ _) _
 go_enter Try.func16, Try.ntmps16
 go_wp2_with (go_at_call 47; refine hfind.mono ?_; clear hfind; rintro e w1 ⟨rfl, hB2⟩; have hb1 := blk_below (blk_new w (.cells #[.string ⟨#[]⟩, .string ⟨#[]⟩] 29)) hB2; have hB3 := below_step hB1 hB2; have hlt : w1.heap.size ≠ w.heap.size := (by have := hB2.size; simp at this; omega); clear hB1 hB2)
 have hb2 : (w1.alloc (.cells #[.string f, .string t, .bool d] 106)).heap[w.heap.size]? = some (.cells #[.string ⟨#[]⟩, .string ⟨#[]⟩] 29 (0, 0)) := blk_alloc hb1 _
 have hn2 := blk_new w1 (.cells #[.string f, .string t, .bool d] 106)
 have hB4 : Below w.heap.size w (w1.alloc (.cells #[.string f, .string t, .bool d] 106)) := below_alloc hB3 _
 clear hb1 hB3
 generalize w1.alloc (.cells #[.string f, .string t, .bool d] 106) = W at hb2 hn2 hB4 ⊢
 have c0 := blk_cell hn2 0
 have c1 := blk_cell hn2 1
 have c2 := blk_cell hn2 2
 have d0 := blk_cell hb2 0
 have d1 := blk_cell hb2 1
 have z0 := blk_frozen hb2 0
 have z1 := blk_frozen hb2 1
 simp at c0 c1 c2 d0 d1
 have hA1 := Aside0.mk hb2
 have hA2 := Aside0.mk hB4
 clear hb2 hn2 hB4
 have hne : w1.heap.size ≠ w.heap.size := hlt
 go_region_held3 (fun w' => w'.cell? ⟨w1.heap.size, 0, none⟩ = some (.string f) ∧ w'.cell? ⟨w1.heap.size, 1, none⟩ = some (.string t) ∧ w'.cell? ⟨w1.heap.size, 2, none⟩ = some (.bool d)) (first | assumption | exact ⟨c0, c1, c2⟩ | (simp [World.cell?_setCell_other, hne, hne.symm, c0, c1, c2]; done)) (fail)
 go_wp2_with fail
 refine bodyPost_ret (results_ctt rfl _ _ w.heap.size 29 #[.string f, .string t] (0, 0) _ rfl ?_ hur rfl (by kernel_rfl)) rfl ?_
 ·exact blk_set (blk_set (blk_drew hA1.out) 0 _) 1 _
 ·exact ⟨rfl, below_set (below_set (below_drew1 hA2.out) (Nat.le_refl _)) (Nat.le_refl _)⟩
theorem left_any {w : World} {p b n c : Nat} {last : Int} {F : Int → Option X} (h : Tb w p b last n F c) (k : Int) (hk : (Lit.int .i64 k).wf = true) :
  Calls Try.prog 16 #[.pointer (some ⟨p, 0, none⟩), .int .i64 k] w fun e w' => e = .returned (.tuple #[.agg #[.string ((F k).getD x0).1, .string ((F k).getD x0).2.1], .bool ((F k).getD x0).2.2, .int .i64 (if (F k).isSome then 0 else 11)]) ∧ Below w.heap.size w w' := by
 have hT1 : Tb (w.alloc (.cells #[.string ⟨#[]⟩, .string ⟨#[]⟩] 29)) p b last n F c := h.fr (B := []) ((Fr.refl _ _).alloc _) (by simp) (by simp)
 cases hF : F k with
 | none => exact left_gen k ⟨#[]⟩ ⟨#[]⟩ false 11 (find_none hT1 k hk hF)
 | some x =>
  obtain ⟨f, t, d⟩ := x
  exact left_gen k f t d 0 (find_some hT1 k hk f t d hF)
theorem close_any {w : World} {p b n c : Nat} {last : Int} {F : Int → Option X} (h : Tb w p b last n F c) (k : Int) (hk : (Lit.int .i64 k).wf = true) :
  Calls Try.prog 18 #[.pointer (some ⟨p, 0, none⟩), .int .i64 k] w fun e w' => e = .returned (.int .i64 (if (F k).isSome then 0 else 11)) ∧ (∀ c', c' + (if (F k).isSome then 1 else 0) = c → Tb w' p b last n (upd F k none) c') ∧ Fr [b] w w' := by
 cases hF : F k with
 | none =>
  refine (close_none h k hk hF).mono ?_
  rintro e w' ⟨rfl, hB⟩
  refine ⟨rfl, fun c' hc => ?_, Fr.of_below hB⟩
  have e1 : upd F k none = F := by
   funext j
   unfold upd
   split
   ·rename_i q; rw [q, hF]
   ·rfl
  have e2 : c' = c := by simpa using hc
  rw [e1, e2]
  exact h.fr (B := []) (Fr.of_below hB) (by simp) (by simp)
 | some x =>
  obtain ⟨f, t, d⟩ := x
  refine (close_some h k hk f t d hF).mono ?_
  rintro e w' ⟨rfl, hT, hf⟩
  exact ⟨rfl, fun c' hc => hT c' hc, hf⟩
theorem open_any {w : World} {p b n c : Nat} {last : Int} {F : Int → Option X} (h : Tb w p b last n F c) (h0 : 0 ≤ last) (h1 : last < 1000000) (hn : n < 1000000) (hF : F (last + 1) = none) (f t : ByteArray) :
  Calls Try.prog 15 #[.pointer (some ⟨p, 0, none⟩), .agg #[.string f, .string t]] w fun e w' => e = .returned (.tuple #[.int .i64 (if rrB f t = true then last + 1 else 0), .int .i64 (if rrB f t = true then 0 else 7)]) ∧
   (if rrB f t = true then Tb w' p b (last + 1) (n + 1) (upd F (last + 1) (some (f, t, false))) (c + 1) else Tb w' p b last n F c) ∧ Fr [p, b] w w' := by
 cases hr : rrB f t with
 | true =>
  refine (open_yes h h0 h1 hn f t hr (c' := c + 1) (show _ = _ by rw [hF]; rfl)).mono ?_
  rintro e w' ⟨rfl, hT, hf⟩
  exact ⟨rfl, hT, hf⟩
 | false =>
  refine (open_no (p := p) f t hr).mono ?_
  rintro e w' ⟨rfl, hB⟩
  exact ⟨rfl, h.fr (B := []) (Fr.of_below hB) (by simp) (by simp), Fr.of_below hB⟩
end Go.Proofs.Ytljnlnbopohghaa.Cur
end
