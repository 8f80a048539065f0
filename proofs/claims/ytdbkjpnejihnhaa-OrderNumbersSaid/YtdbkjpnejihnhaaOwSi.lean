/- The walks over knots [string, int]: depth, size, fresh, up, down, even: no condition but that the knots lie in memory, each once, and are not too many. (Laid by inst.py out of inst/XOw.) -/
import Derived.Test.YtdbkjpnejihnhaaOt
import Derived.Test.YtdbkjpnejihnhaaOwn
import Derived.StillTailTactics
set_option linter.unusedVariables false
set_option linter.unusedSimpArgs false
namespace Go.Proofs.Ytdbkjpnejihnhaa.OrdSi
open Go.RowKit Go.Proofs.YtdbkjpnejihnhaaW.PrintWords Go.Proofs.YtdbkjpnejihnhaaW.PrintLast Go.Proofs.YtdbkjpnejihnhaaW.PrintMore Go.Proofs.Ytdbkjpnejihnhaa.Own Go.Proofs.Ytdbkjpnejihnhaa.Ord

def In (w : World) : Kn ByteArray Int → Prop
  | .nil => True
  | .node b k v l r => w.heap[b]? = some (.cells #[.string k, .int .i64 v, .pointer l.adr, .pointer r.adr, .int .i64 (Kn.node b k v l r).hgt, .int .i64 (Kn.node b k v l r).cnt] 83 (0, 0)) ∧ In w l ∧ In w r
theorem in_fr {w w' : World} {B : List Nat} (h : Fr B w w') : ∀ {T : Kn ByteArray Int}, In w T → (∀ x ∈ T.bs, x ∉ B) → In w' T
  | .nil, _, _ => trivial
  | .node b k v l r, hi, hn => ⟨h.blk hi.1 (hn b (by simp [Kn.bs])), in_fr h hi.2.1 (fun x hx => hn x (by simp [Kn.bs, hx])), in_fr h hi.2.2 (fun x hx => hn x (by simp [Kn.bs, hx]))⟩
theorem in_lt {w : World} : ∀ {T : Kn ByteArray Int}, In w T → ∀ x ∈ T.bs, x < w.heap.size
  | .nil, _, x, hx => by simp [Kn.bs] at hx
  | .node b k v l r, hi, x, hx => by
    simp only [Kn.bs, List.mem_cons, List.mem_append] at hx
    rcases hx with rfl | hx | hx
    · exact blk_lt hi.1
    · exact in_lt hi.2.1 x hx
    · exact in_lt hi.2.2 x hx
theorem in_typed {w : World} : ∀ {T : Kn ByteArray Int}, In w T → ∀ x ∈ T.bs, ∃ cells, w.heap[x]? = some (.cells cells 83 (0, 0))
  | .nil, _, x, hx => by simp [Kn.bs] at hx
  | .node b k v l r, hi, x, hx => by
    simp only [Kn.bs, List.mem_cons, List.mem_append] at hx
    rcases hx with rfl | hx | hx
    · exact ⟨_, hi.1⟩
    · exact in_typed hi.2.1 x hx
    · exact in_typed hi.2.2 x hx
theorem in_below {w w' : World} (h : Below w.heap.size w w') {T : Kn ByteArray Int} (hi : In w T) : In w' T := in_fr (B := []) (Fr.of_below h) hi (fun _ _ hx => by cases hx)
theorem in_drewN {w : World} (n : Nat) : ∀ {T : Kn ByteArray Int}, In w T → In (w.drewN n) T
  | .nil, _ => trivial
  | .node _ _ _ _ _, hi => ⟨hi.1, in_drewN n hi.2.1, in_drewN n hi.2.2⟩

attribute [local go_sem] max2_int max_two
set_option maxHeartbeats 2000000
set_option maxRecDepth 100000
theorem depth_any (T : Kn ByteArray Int) (w : World) (h : In w T) : Calls Try.prog 64 #[.pointer T.adr] w fun e w' => e = .returned (.int .i64 T.hgt) ∧ w' = w := by
  cases T with
  | nil =>
    show Calls Try.prog 64 #[.pointer none] w _
    go_enter Try.func64, Try.ntmps64
    go_wp2
    go_ret
    exact ⟨rfl, rfl⟩
  | node b k v l r =>
    show Calls Try.prog 64 #[.pointer (some ⟨b, 0, none⟩)] w _
    have c : w.cell? ⟨b, 4, none⟩ = some (.int .i64 (Kn.node b k v l r).hgt) := blk_cell h.1 4
    go_enter Try.func64, Try.ntmps64
    go_wp2
    go_ret
    exact ⟨rfl, rfl⟩
theorem size_any (T : Kn ByteArray Int) (w : World) (h : In w T) : Calls Try.prog 43 #[.pointer T.adr] w fun e w' => e = .returned (.int .i64 T.cnt) ∧ w' = w := by
  cases T with
  | nil =>
    show Calls Try.prog 43 #[.pointer none] w _
    go_enter Try.func43, Try.ntmps43
    go_wp2
    go_ret
    exact ⟨rfl, rfl⟩
  | node b k v l r =>
    show Calls Try.prog 43 #[.pointer (some ⟨b, 0, none⟩)] w _
    have c : w.cell? ⟨b, 5, none⟩ = some (.int .i64 (Kn.node b k v l r).cnt) := blk_cell h.1 5
    go_enter Try.func43, Try.ntmps43
    go_wp2
    go_ret
    exact ⟨rfl, rfl⟩
theorem fresh_any (b : Nat) (k : ByteArray) (v : Int) (l r : Kn ByteArray Int) (d s : Int) (w : World)
    (hb : w.heap[b]? = some (.cells #[.string k, .int .i64 v, .pointer l.adr, .pointer r.adr, .int .i64 d, .int .i64 s] 83 (0, 0))) (hl : In w l) (hr : In w r) (nl : b ∉ l.bs) (nr : b ∉ r.bs) (hc : l.cnt + r.cnt < 4611686018427387904) :
    Calls Try.prog 57 #[.pointer (some ⟨b, 0, none⟩)] w fun e w' => e = .returned (.pointer (some ⟨b, 0, none⟩)) ∧ In w' (.node b k v l r) ∧ Fr [b] w w' := by
  obtain ⟨m, hm⟩ : ∃ m, m = mx l.hgt r.hgt := ⟨_, rfl⟩
  have h1 := Kn.bounds l
  have h2 := Kn.bounds r
  have hm2 : 0 ≤ m ∧ m < 4611686018427387904 := by rw [hm]; unfold mx; split <;> omega
  have hw1 : IntKind.i64.wrap (1 + m) = 1 + m := IntWalk.i64_in _ (by omega)
  have hmH : Hid (m = mx l.hgt r.hgt) := hm
  clear hm
  have hw2 : IntKind.i64.wrap (1 + l.cnt) = 1 + l.cnt := IntWalk.i64_in _ (by omega)
  have hw3 : IntKind.i64.wrap (1 + l.cnt + r.cnt) = 1 + l.cnt + r.cnt := IntWalk.i64_in _ (by omega)
  go_enter Try.func57, Try.ntmps57
  go_wp2_with fail
  refine still_tail 13 (by kernel_rfl) (by kernel_rfl) (fun W hW => ?_)
  simp only [List.take_succ_cons, List.take_zero, List.drop_succ_cons, List.drop_zero]
  have hb1 : W.heap[b]? = some (.cells #[.string k, .int .i64 v, .pointer l.adr, .pointer r.adr, .int .i64 d, .int .i64 s] 83 (0, 0)) := by rw [hW]; exact hb
  have fr1 : Fr [b] w W := by rw [hW]; exact (Fr.refl _ _).drew
  clear hW hb
  have hl1 : In W l := in_fr fr1 hl (fun x hx => by simp; rintro rfl; exact nl hx)
  have hr1 : In W r := in_fr fr1 hr (fun x hx => by simp; rintro rfl; exact nr hx)
  have c2 : W.cell? ⟨b, 2, none⟩ = some (.pointer l.adr) := blk_cell hb1 2
  have c3 : W.cell? ⟨b, 3, none⟩ = some (.pointer r.adr) := blk_cell hb1 3
  have c4 : W.cell? ⟨b, 4, none⟩ = some (.int .i64 d) := blk_cell hb1 4
  have f4 := blk_frozen hb1 4
  iterate 5 still_step
  still_call (depth_any l _ hl1)
  iterate 4 still_step
  still_call (depth_any r _ hr1)
  iterate 2 still_step
  refine wpStill_nil ?_
  simp only [show (if l.hgt < r.hgt then r.hgt else l.hgt) = m from hmH.out.symm, hw1]
  go_wp2_with fail
  refine still_tail 13 (by kernel_rfl) (by kernel_rfl) (fun W2 hW2 => ?_)
  simp only [List.take_succ_cons, List.take_zero, List.drop_succ_cons, List.drop_zero]
  have hb2 : W2.heap[b]? = some (.cells #[.string k, .int .i64 v, .pointer l.adr, .pointer r.adr, .int .i64 (1 + m), .int .i64 s] 83 (0, 0)) := by rw [hW2]; exact blk_put hb1 4 _ rfl
  have fr2 : Fr [b] W W2 := by rw [hW2]; exact ((Fr.refl _ _).set (.inl (by simp)) _).drew
  clear hW2 hb1 c2 c3 c4 f4
  have hl2 : In W2 l := in_fr fr2 hl1 (fun x hx => by simp; rintro rfl; exact nl hx)
  have hr2 : In W2 r := in_fr fr2 hr1 (fun x hx => by simp; rintro rfl; exact nr hx)
  have c2 : W2.cell? ⟨b, 2, none⟩ = some (.pointer l.adr) := blk_cell hb2 2
  have c3 : W2.cell? ⟨b, 3, none⟩ = some (.pointer r.adr) := blk_cell hb2 3
  have c5 : W2.cell? ⟨b, 5, none⟩ = some (.int .i64 s) := blk_cell hb2 5
  have f5 := blk_frozen hb2 5
  iterate 5 still_step
  still_call (size_any l _ hl2)
  iterate 5 still_step
  still_call (size_any r _ hr2)
  still_step
  refine wpStill_nil ?_
  go_wp2_with fail
  go_ret
  have fr3 : Fr [b] W2 (W2.setCell ⟨b, 5, none⟩ (.int .i64 (1 + l.cnt + r.cnt))) := (Fr.refl _ _).set (.inl (by simp)) _
  refine ⟨rfl, ⟨?_, in_fr fr3 hl2 (fun x hx => by simp; rintro rfl; exact nl hx), in_fr fr3 hr2 (fun x hx => by simp; rintro rfl; exact nr hx)⟩, (fr1.trans fr2 (fun x hx => .inl hx)).trans fr3 (fun x hx => .inl hx)⟩
  simp only [Kn.hgt, Kn.cnt, ← hmH.out]
  exact blk_put hb2 5 _ rfl
end Go.Proofs.Ytdbkjpnejihnhaa.OrdSi
