/- THE ROW of CursorForks: for every input the call returns true, and each argument reads afterwards as it read before: no condition beyond the row's own. Out of the walk (its contract over the Lean function of the same text) and the plain law (module YtljnlnbopohghaaPureCursorForks). (Laid by rowgen.py.) -/
/- Texts of one claim (laid by shake.py). -/
import Derived.Test.YtljnlnbopohghaaZCf13
import Derived.Test.YtljnlnbopohghaaZCf11
import Derived.Shelf.SlMaps.Clone
import Derived.Ground.SlmcProg
import Derived.Test.YtljnlnbopohghaaProg
import Derived.Deep.RegionHeld3
import Derived.Test.YtljnlnbopohghaaRows
import Derived.WalkKit
import Derived.ProofKit
import Derived.OpenShut
import Derived.ShutString
import Derived.ChangeOld
import Derived.Below
import Derived.SizedLaws
set_option linter.unusedVariables false
set_option linter.unusedSimpArgs false
section
namespace Go.Proofs.Ytljnlnbopohghaa.Mdl
open Go.RowKit Go.Shelf Go.Proofs.YtljnlnbopohghaaW.PrintWords Go.Proofs.YtljnlnbopohghaaW.PrintLast Go.Proofs.YtljnlnbopohghaaW.PrintMore Go.Proofs.Ytljnlnbopohghaa.Own Go.Proofs.Ytljnlnbopohghaa.Ord Go.Proofs.Ytljnlnbopohghaa Go.Proofs.Ytljnlnbopohghaa.P
open Go.Proofs.Ytljnlnbopohghaa.Cur (upd tookV now rrB)
set_option maxRecDepth 100000
set_option maxHeartbeats 4000000
theorem at_D27 {w : World} {A : Option Addr} {n : Nat} {xs : List Dd27} (h : Kd.C P.k32 w A n xs) (i : Int) (h0 : 0 ≤ i) (h1 : i < n) : ∃ ad, ∃ x : Dd27, ∃ A5 c5, A = some ad ∧ xs[i.toNat]? = some x ∧ (w.cell? (ad.add (i.toNat * 6)) = some (.int .i64 x.f0) ∧
  w.cell? ⟨(ad.add (i.toNat * 6)).block, (ad.add (i.toNat * 6)).off + 1, none⟩ = some (.int .i64 x.f1) ∧ w.cell? ⟨(ad.add (i.toNat * 6)).block, (ad.add (i.toNat * 6)).off + 2, none⟩ = some (.int .i64 x.f2) ∧ w.cell? ⟨(ad.add (i.toNat * 6)).block, (ad.add (i.toNat * 6)).off + 3, none⟩ = some (.string x.f3.f0) ∧
  w.cell? ⟨(ad.add (i.toNat * 6)).block, (ad.add (i.toNat * 6)).off + 4, none⟩ = some (.string x.f3.f1) ∧ w.cell? ⟨(ad.add (i.toNat * 6)).block, (ad.add (i.toNat * 6)).off + 5, none⟩ = some (.slice A5 x.f4.length c5)) ∧ x.f4.length ≤ c5 ∧ Kd.C P.k103 w A5 x.f4.length x.f4 := by
 obtain ⟨ad, c, e, _, hK, hc0⟩ := Kd.C_get h P.z32 i h0 h1
 have hc : ∀ j u, c[j]? = some u → w.cell? (ad.add (i.toNat * 6 + j)) = some u := hc0
 obtain ⟨A5, c5, rfl, q, r⟩ := P.k32_open hK
 have hl := h.1
 refine ⟨ad, _, A5, c5, e, ?_, ⟨hc 0 _ rfl, by rw [← add_field _ _ 1 (by omega)]; exact hc 1 _ rfl, by rw [← add_field _ _ 2 (by omega)]; exact hc 2 _ rfl, by rw [← add_field _ _ 3 (by omega)]; exact hc 3 _ rfl, by rw [← add_field _ _ 4 (by omega)]; exact hc 4 _ rfl, by rw [← add_field _ _ 5 (by omega)]; exact hc 5 _ rfl⟩, q, r⟩
 rw [List.getD_eq_getElem?_getD, List.getElem?_eq_getElem (by omega)]
 rfl
theorem cell_b27 {w W : World} (hb : Below w.heap.size w W) {a : Addr} {v : Value} (h : w.cell? a = some v) : W.cell? a = some v := (World.cell?_of_block (hb.block a.block (World.block_lt_of_cell? w a h))).trans h
theorem new_ex27 (w : World) : Calls Try.prog 10 #[] w fun e w' => ∃ p b, e = .returned (.pointer (some ⟨p, 0, none⟩)) ∧ w.heap.size ≤ p ∧ w.heap.size ≤ b ∧ Cur.Tb w' p b 0 0 (fun _ => none) 0 ∧ Below w.heap.size w w' :=
 (Cur.new_any w).mono fun e w' q => ⟨_, _, q.1, by omega, by omega, q.2.1, q.2.2⟩
def St27 (w0 : World) (p b : Nat) (i : Int) (cs : List Cu) (A : Option Addr) (cp : Nat) (w : World) : Prop := ∃ m, Sx (fun k => k ≠ p ∧ k ≠ b) w p b m cs A cp ∧ cs.length ≤ i.toNat ∧ m ≤ i.toNat ∧ Below w0.heap.size w0 w ∧ w0.heap.size ≤ p ∧ w0.heap.size ≤ b
theorem fr_old {w0 w w' : World} {p b : Nat} (h : Below w0.heap.size w0 w) (hp : w0.heap.size ≤ p) (hb : w0.heap.size ≤ b) (f : Fr [p, b] w w') : Below w0.heap.size w0 w' :=
 ⟨f.os.trans h.os, f.tape.trans h.tape, f.output.trans h.output, Nat.le_trans h.size f.size, fun k hk => (f.block k (Nat.lt_of_lt_of_le hk h.size) (by simp; omega)).trans (h.block k hk)⟩
theorem St27.below {w0 w w' : World} {p b : Nat} {i : Int} {cs : List Cu} {A : Option Addr} {cp : Nat} (h : St27 w0 p b i cs A cp w) (hb : Below w.heap.size w w') : St27 w0 p b i cs A cp w' := by
 obtain ⟨m, h1, h2, h3, h4, h5, h6⟩ := h
 exact ⟨m, h1.fr (B := []) (Fr.of_below hb) (by simp) (by simp) (by simp), h2, h3, below_then h4 h4.size hb, h5, h6⟩
theorem St27.old {w0 w : World} {p b : Nat} {i : Int} {cs : List Cu} {A : Option Addr} {cp : Nat} (h : St27 w0 p b i cs A cp w) : Below w0.heap.size w0 w := by
 obtain ⟨m, h1, h2, h3, h4, h5, h6⟩ := h
 exact h4
theorem St27.step {w0 w : World} {p b : Nat} {i : Int} {cs : List Cu} {A : Option Addr} {cp : Nat} (h : St27 w0 p b i cs A cp w) (hi0 : 0 ≤ i) (hi : i ≤ 1000) (d : Dd27) (hd : okd27 d = true) {A5 : Option Addr} {c5 : Nat} (hC : Kd.C P.k103 w0 A5 d.f4.length d.f4) (hc5 : d.f4.length ≤ c5) :
  Calls Try.prog 11 #[.pointer (some ⟨p, 0, none⟩), .slice A cs.length cp, .agg #[.int .i64 d.f0, .int .i64 d.f1, .int .i64 d.f2, .string d.f3.f0, .string d.f3.f1, .slice A5 d.f4.length c5]] w fun e w' => ∃ B cp', e = .returned (.tuple #[.slice B (stepC cs d).length cp', .bool true]) ∧ St27 w0 p b (i + 1) (stepC cs d) B cp' w' := by
 obtain ⟨m, h1, h2, h3, h4, h5, h6⟩ := h
 have hpl := blk_lt h1.tb.blk
 have hbl := h1.tb.map.lt
 refine (step_any h1 (fun k hk => hk) (fun k hk => ⟨by omega, by omega⟩) (by omega) (by omega) d hd A5 c5 (fun W hW => ?_) hc5).mono ?_
 ·rcases hW with q | q
  ·exact Kd.C_below hC (below_then h4 h4.size q)
  exact Kd.C_below hC (fr_old h4 h5 h6 q)
 rintro e w' ⟨B, cp', m', rfl, e1, e2, e3⟩
 have := stepC_len cs d
 exact ⟨B, cp', rfl, m', e1, by omega, by omega, fr_old h4 h5 h6 e3, h5, h6⟩
theorem St27.start {w w1 : World} {p b : Nat} (hp : w.heap.size ≤ p) (hb : w.heap.size ≤ b) (hT : Cur.Tb w1 p b 0 0 (fun _ => none) 0) (hB : Below w.heap.size w w1) : St27 w p b 0 [] none 0 w1 :=
 ⟨0, ⟨by rw [tabF_nil]; exact hT, Kd.V_nil _ _ _ _ _⟩, Nat.le_refl _, Nat.le_refl _, hB, hp, hb⟩
end Go.Proofs.Ytljnlnbopohghaa.Mdl
end
section
namespace Go.Proofs
open Go.Shelf
def Try.cloneC_ren : Go.Shelf.Ren := ⟨fun | 5 => 45 | 7 => 77 | n => n, fun | 23 => 86 | 25 => 3 | 3 => 106 | 4 => 4 | 20 => 20 | n => n, fun | n => n⟩
theorem Try.cloneC : Go.Proofs.SlLaysW.n5 Try.prog Try.cloneC_ren := {
 mixed := by kernel_rfl
 f5 := ⟨Try.f45.name, by decide, Try.func45.trans (congrArg some (by kernel_rfl))⟩
 f7 := Try.func77.trans (congrArg some (by kernel_rfl))
 t4 := Try.underlying4
 a4 := Try.isAgg4
 z4 := Try.sizeOf4
 v4 := Try.zeroValue4
 t20 := Try.underlying20
 a20 := Try.isAgg20
 z20 := Try.sizeOf20
 v20 := Try.zeroValue20
 t23 := Try.underlying86
 a23 := Try.isAgg86
 z23 := Try.sizeOf86
 v23 := Try.zeroValue86 }
end Go.Proofs
end
section
namespace Go.Proofs.Ytljnlnbopohghaa.Cur
open Go Go.RowKit Go.Maps Go.Shelf Go.Proofs.YtljnlnbopohghaaW.PrintWords Go.Proofs.YtljnlnbopohghaaW.PrintLast Go.Proofs.YtljnlnbopohghaaW.PrintMore Go.Proofs.Ytljnlnbopohghaa.Own Go.Proofs.Ytljnlnbopohghaa.Ord Go.Proofs.Ytljnlnbopohghaa.P
set_option maxHeartbeats 2000000
set_option maxRecDepth 100000
theorem cell_al {w : World} (o : Obj) {a : Addr} {v : Value} (h : w.cell? a = some v) : (w.alloc o).cell? a = some v := (World.cell?_of_block ((below_alloc (Below.refl w.heap.size w) o).block a.block (World.block_lt_of_cell? w a h))).trans h
theorem clone_any {w : World} {b n c : Nat} {F : Int → Option X} (h : TM w b n F c) :
  Calls Try.prog 45 #[.map (some b)] w fun e w' => e = .returned (.map (some w.heap.size)) ∧ TM w' w.heap.size n F c ∧ Below w.heap.size w w' := by
 obtain ⟨D, h1, h2, h3⟩ := h
 have hc := AnyW.maps_Clone_owns Try.cloneC 3 restR b n D w h1
 change Calls Try.prog 45 _ _ _ at hc
 refine hc.mono ?_
 rintro e w' ⟨rfl, g1, _, g2⟩
 exact ⟨rfl, ⟨D, g1, h2, h3⟩, g2⟩
theorem fork_any {w : World} {p b n c : Nat} {last : Int} {F : Int → Option X} (h : Tb w p b last n F c) :
  Calls Try.prog 14 #[.pointer (some ⟨p, 0, none⟩)] w fun e w' => ∃ p' b', e = .returned (.pointer (some ⟨p', 0, none⟩)) ∧ w.heap.size ≤ p' ∧ w.heap.size ≤ b' ∧ Tb w' p' b' last n F c ∧ Below w.heap.size w w' := by
 have hus := Try.underlying88
 have hbd : w.drew.heap[p]? = _ := h.blk
 have c0 := blk_cell hbd 0
 have c1 := blk_cell hbd 1
 simp at c0 c1
 have hd : TM w.drew b n F c := h.map.fr (B := []) ((Fr.refl _ _).drew) (by simp)
 have CL := (clone_any hd).mono (R' := fun e w' => e = .returned (.map (some w.heap.size)) ∧ (w'.cell? ⟨p, 0, none⟩ = some (.int .i64 last) ∧ w'.cell? ⟨p, 1, none⟩ = some (.map (some b))) ∧ Aside0 (TM w' w.heap.size n F c ∧ Below w.heap.size w w')) (by
  rintro e w' ⟨rfl, g1, g2⟩
  have hb1 := blk_below hbd g2
  exact ⟨rfl, ⟨blk_cell hb1 0, blk_cell hb1 1⟩, ⟨g1, below_then (below_drew1 (Below.refl _ _)) (Nat.le_refl _) g2⟩⟩)
 clear h hbd hd
 go_enter Try.func14, Try.ntmps14
 go_wp2
 go_region_held3 (fun w' => w'.cell? ⟨p, 0, none⟩ = some (.int .i64 last) ∧ w'.cell? ⟨p, 1, none⟩ = some (.map (some b))) (first | exact ⟨by assumption, by assumption⟩ | exact ⟨c0, c1⟩ | exact ⟨cell_al _ q0, cell_al _ q1⟩)
  (first
   | (go_at_call 45; refine CL.mono ?_; clear CL; rintro e_ w1 ⟨rfl, ⟨q0, q1⟩, hS⟩))
 go_wp2
 go_ret
 obtain ⟨g1, g2⟩ := hS.out
 exact ⟨_, _, rfl, g2.size, Nat.le_refl _, ⟨blk_new _ _, g1.fr (B := []) ((Fr.refl _ _).alloc _) (by simp)⟩, below_alloc g2 _⟩
theorem fork_nil {w : World} : Calls Try.prog 14 #[.pointer none] w fun e w' => e = .returned (.pointer none) ∧ Below w.heap.size w w' := by
 go_enter Try.func14, Try.ntmps14
 go_wp2
 go_ret
 exact ⟨rfl, Below.refl _ _⟩
theorem len_nil {w : World} : Calls Try.prog 19 #[.pointer none] w fun e w' => e = .returned (.int .i64 0) ∧ Below w.heap.size w w' := by
 go_enter Try.func19, Try.ntmps19
 go_wp2
 go_ret
 exact ⟨rfl, Below.refl _ _⟩
theorem open_nil {w : World} (f t : ByteArray) : Calls Try.prog 15 #[.pointer none, .agg #[.string f, .string t]] w fun e w' => e = .returned (.tuple #[.int .i64 0, .int .i64 1]) ∧ Below w.heap.size w w' := by
 have hur := Try.underlying29
 have hB := below_alloc (Below.refl w.heap.size w) (.cells #[.string f, .string t] 29)
 go_enter Try.func15, Try.ntmps15
 go_wp2
 go_ret2
 exact ⟨rfl, hB⟩
theorem find_nil {w : World} (k : Int) : Calls Try.prog 47 #[.pointer none, .int .i64 k] w fun e w' => e = .returned (.tuple #[.agg #[.string ⟨#[]⟩, .string ⟨#[]⟩, .bool false], .int .i64 1]) ∧ Below w.heap.size w w' := by
 have hur := Try.underlying29
 have hux := Try.underlying106
 have hB1 : Below w.heap.size w (w.alloc (.cells #[.string ⟨#[]⟩, .string ⟨#[]⟩, .bool false] 106)) := below_alloc (Below.refl _ _) _
 go_enter Try.func47, Try.ntmps47
 go_wp2
 refine bodyPost_ret (results_ct rfl _ _ w.heap.size 106 _ (0, 0) _ rfl (blk_new _ _) hux rfl (by kernel_rfl)) rfl ?_
 exact ⟨rfl, hB1⟩
theorem close_nil {w : World} (k : Int) : Calls Try.prog 18 #[.pointer none, .int .i64 k] w fun e w' => e = .returned (.int .i64 1) ∧ Below w.heap.size w w' := by
 have hux := Try.underlying106
 have hur := Try.underlying29
 have hfind := find_nil (w := w) k
 go_enter Try.func18, Try.ntmps18
 go_wp2_with (go_at_call 47; refine hfind.mono ?_; clear hfind; rintro e w1 ⟨rfl, hB2⟩)
 go_ret
 exact ⟨rfl, below_alloc hB2 _⟩
theorem took_nil {w : World} (k : Int) (A : Option Addr) (n cl : Nat) (most : Int) : Calls Try.prog 17 #[.pointer none, .int .i64 k, .slice A n cl, .int .i64 most] w fun e w' => e = .returned (.tuple #[.bool false, .int .i64 1]) ∧ Below w.heap.size w w' := by
 have hur := Try.underlying29
 have hux := Try.underlying106
 have hus := Try.underlying88
 have hue := Try.underlying103
 have hfind := find_nil (w := w) k
 go_enter Try.func17, Try.ntmps17
 go_wp2_with (go_at_call 47; refine hfind.mono ?_; clear hfind; rintro e w1 ⟨rfl, hB1⟩; have hBF := below_alloc hB1 (.cells #[.string ⟨#[]⟩, .string ⟨#[]⟩, .bool false] 106))
 go_ret2
 exact ⟨rfl, hBF⟩
theorem left_gen_nil {w : World} (k : Int) (f t : ByteArray) (d : Bool) (er : Int)
  (hfind : Calls Try.prog 47 #[.pointer none, .int .i64 k] (w.alloc (.cells #[.string ⟨#[]⟩, .string ⟨#[]⟩] 29)) fun e w' => e = .returned (.tuple #[.agg #[.string f, .string t, .bool d], .int .i64 er]) ∧ Below (w.alloc (.cells #[.string ⟨#[]⟩, .string ⟨#[]⟩] 29)).heap.size (w.alloc (.cells #[.string ⟨#[]⟩, .string ⟨#[]⟩] 29)) w') :
  Calls Try.prog 16 #[.pointer none, .int .i64 k] w fun e w' => e = .returned (.tuple #[.agg #[.string f, .string t], .bool d, .int .i64 er]) ∧ Below w.heap.size w w' := by
 have hur := Try.underlying29
 have hux := Try.underlying106
 have hB1 : Below w.heap.size w (w.alloc (.cells #[.string ⟨#[]⟩, .string ⟨#[]⟩] 29)) := below_alloc (Below.refl _ _) _
 go_enter Try.func16, Try.ntmps16
 go_wp2_with (go_at_call 47; refine hfind.mono ?_; clear hfind; rintro e w1 ⟨rfl, hB2⟩; have hb1 := blk_below (blk_new w (.cells #[.string ⟨#[]⟩, .string ⟨#[]⟩] 29)) hB2; have hB3 := below_step hB1 hB2; have hlt : w1.heap.size ≠ w.heap.size := (by have := hB2.size; simp at this; omega); clear hB1 hB2)
 have hb2 : (w1.alloc (.cells #[.string f, .string t, .bool d] 106)).heap[w.heap.size]? = some (.cells #[.string ⟨#[]⟩, .string ⟨#[]⟩] 29 (0, 0)) := blk_alloc hb1 _
 have hn2 := blk_new w1 (.cells #[.string f, .string t, .bool d] 106)
 have hB4 : Below w.heap.size w (w1.alloc (.cells #[.string f, .string t, .bool d] 106)) := below_alloc hB3 _
 clear hb1 hB3
 generalize w1.alloc (.cells #[.string f, .string t, .bool d] 106) = W at hb2 hn2 hB4 ⊢
 have c0 := blk_cell hn2 0
 have c1 := blk_cell hn2 1
 have c2 := blk_cell hn2 2
 have d0 := blk_cell hb2 0
 have d1 := blk_cell hb2 1
 have z0 := blk_frozen hb2 0
 have z1 := blk_frozen hb2 1
 simp at c0 c1 c2 d0 d1
 have hA1 := aK_ hb2
 have hA2 := aK_ hB4
 clear hb2 hn2 hB4
 have hne : w1.heap.size ≠ w.heap.size := hlt
 go_region_held3 (fun w' => w'.cell? ⟨w1.heap.size, 0, none⟩ = some (.string f) ∧ w'.cell? ⟨w1.heap.size, 1, none⟩ = some (.string t) ∧ w'.cell? ⟨w1.heap.size, 2, none⟩ = some (.bool d)) (first | assumption | exact ⟨c0, c1, c2⟩ | (simp [World.cell?_setCell_other, hne, hne.symm, c0, c1, c2]; done)) (fail)
 go_wp2_with fail
 refine bodyPost_ret (results_ctt rfl _ _ w.heap.size 29 #[.string f, .string t] (0, 0) _ rfl ?_ hur rfl (by kernel_rfl)) rfl ?_
 ·exact blk_set (blk_set (blk_drew hA1.out) 0 _) 1 _
 exact ⟨rfl, below_set (below_set (below_drew1 hA2.out) (Nat.le_refl _)) (Nat.le_refl _)⟩
theorem left_nil {w : World} (k : Int) : Calls Try.prog 16 #[.pointer none, .int .i64 k] w fun e w' => e = .returned (.tuple #[.agg #[.string ⟨#[]⟩, .string ⟨#[]⟩], .bool false, .int .i64 1]) ∧ Below w.heap.size w w' :=
 left_gen_nil k ⟨#[]⟩ ⟨#[]⟩ false 1 (find_nil k)
end Go.Proofs.Ytljnlnbopohghaa.Cur
end
section
namespace Go.Proofs.Ytljnlnbopohghaa.Mdl
open Go.RowKit Go.Shelf Go.Proofs.YtljnlnbopohghaaW.PrintWords Go.Proofs.YtljnlnbopohghaaW.PrintLast Go.Proofs.YtljnlnbopohghaaW.PrintMore Go.Proofs.Ytljnlnbopohghaa.Own Go.Proofs.Ytljnlnbopohghaa.Ord Go.Proofs.Ytljnlnbopohghaa Go.Proofs.Ytljnlnbopohghaa.P
open Go.Proofs.Ytljnlnbopohghaa.Cur (upd tookV now rrB fork_any fork_nil len_nil open_nil left_nil close_nil took_nil)
set_option maxRecDepth 100000
set_option maxHeartbeats 4000000
structure Tw0 (w0 : World) (p b q c : Nat) (i : Int) (cs : List Cu) (A : Option Addr) (cp : Nat) (ds : List Cu) (B : Option Addr) (dp : Nat) (w : World) (n m : Nat) : Prop where
 one : Sx (fun k => k ≠ p ∧ k ≠ b ∧ k ≠ q ∧ k ≠ c) w p b n cs A cp
 two : Sx (fun k => k ≠ p ∧ k ≠ b ∧ k ≠ q ∧ k ≠ c) w q c m ds B dp
 l1 : cs.length ≤ 1000
 l2 : ds.length ≤ 1000 + i.toNat
 l3 : m ≤ 1000 + i.toNat
 old : Below w0.heap.size w0 w
 hp : w0.heap.size ≤ p ∧ w0.heap.size ≤ b ∧ w0.heap.size ≤ q ∧ w0.heap.size ≤ c
 ne : p ≠ q ∧ p ≠ c ∧ b ≠ q ∧ b ≠ c
def Tw (w0 : World) (p b q c : Nat) (i : Int) (cs : List Cu) (A : Option Addr) (cp : Nat) (ds : List Cu) (B : Option Addr) (dp : Nat) (w : World) : Prop := ∃ n m, Tw0 w0 p b q c i cs A cp ds B dp w n m
theorem Tw.below {w0 w w' : World} {p b q c : Nat} {i : Int} {cs ds : List Cu} {A B : Option Addr} {cp dp : Nat} (h : Tw w0 p b q c i cs A cp ds B dp w) (hb : Below w.heap.size w w') : Tw w0 p b q c i cs A cp ds B dp w' := by
 obtain ⟨n, m, h⟩ := h
 exact ⟨n, m, h.one.fr (B := []) (Fr.of_below hb) (by simp) (by simp) (by simp), h.two.fr (B := []) (Fr.of_below hb) (by simp) (by simp) (by simp), h.l1, h.l2, h.l3, below_then h.old h.old.size hb, h.hp, h.ne⟩
theorem Tw.old {w0 w : World} {p b q c : Nat} {i : Int} {cs ds : List Cu} {A B : Option Addr} {cp dp : Nat} (h : Tw w0 p b q c i cs A cp ds B dp w) : Below w0.heap.size w0 w := by
 obtain ⟨n, m, h⟩ := h
 exact h.old
theorem St27.fork {w0 w : World} {p b : Nat} {i : Int} {cs : List Cu} {A : Option Addr} {cp : Nat} (h : St27 w0 p b i cs A cp w) (hi : i ≤ 1000) :
  Calls Try.prog 14 #[.pointer (some ⟨p, 0, none⟩)] w fun e w' => ∃ q c, e = .returned (.pointer (some ⟨q, 0, none⟩)) ∧ Aside0 (Tw w0 p b q c 0 cs A cp cs A cp w') := by
 obtain ⟨m, h1, h2, h3, h4, h5, h6⟩ := h
 have hpl := blk_lt h1.tb.blk
 have hbl := h1.tb.map.lt
 refine (fork_any h1.tb).mono ?_
 rintro e w' ⟨q, c, rfl, e1, e2, e3, e4⟩
 have hV : Kd.V P.k97 97 w' 0 (fun k => k ≠ p ∧ k ≠ b ∧ k ≠ q ∧ k ≠ c) (.slice A cs.length cp) cs := Kd.V_mono (Kd.V_below (Kd.V_bound h1.row) e4) (fun k hk => ⟨hk.1.1, hk.1.2, by have := hk.2; omega, by have := hk.2; omega⟩)
 have hs := h4.size
 exact ⟨q, c, rfl, ⟨m, m, ⟨h1.tb.fr (B := []) (Fr.of_below e4) (by simp) (by simp), hV⟩, ⟨e3, hV⟩, by omega, by omega, by omega, below_then h4 h4.size e4, ⟨h5, h6, by omega, by omega⟩, ⟨by omega, by omega, by omega, by omega⟩⟩⟩
theorem Tw.step {w0 w : World} {p b q c : Nat} {i : Int} {cs ds : List Cu} {A B : Option Addr} {cp dp : Nat} (h : Tw w0 p b q c i cs A cp ds B dp w) (hi0 : 0 ≤ i) (hi : i ≤ 1000) (d : Dd27) (hd : okd27 d = true) {A5 : Option Addr} {c5 : Nat} (hC : Kd.C P.k103 w0 A5 d.f4.length d.f4) (hc5 : d.f4.length ≤ c5) :
  Calls Try.prog 11 #[.pointer (some ⟨q, 0, none⟩), .slice B ds.length dp, .agg #[.int .i64 d.f0, .int .i64 d.f1, .int .i64 d.f2, .string d.f3.f0, .string d.f3.f1, .slice A5 d.f4.length c5]] w fun e w' => ∃ B' dp', e = .returned (.tuple #[.slice B' (stepC ds d).length dp', .bool true]) ∧ Aside0 (Tw w0 p b q c (i + 1) cs A cp (stepC ds d) B' dp' w') := by
 obtain ⟨n, m, h⟩ := h
 have hp1 := blk_lt h.one.tb.blk
 have hb1 := h.one.tb.map.lt
 have hp2 := blk_lt h.two.tb.blk
 have hb2 := h.two.tb.map.lt
 obtain ⟨g1, g2, g3, g4⟩ := h.hp
 obtain ⟨n1, n2, n3, n4⟩ := h.ne
 have l1 := h.l1
 have l2 := h.l2
 have l3 := h.l3
 refine (step_any h.two (fun k hk => ⟨hk.2.2.1, hk.2.2.2⟩) (fun k hk => ⟨by omega, by omega, by omega, by omega⟩) (by omega) (by omega) d hd A5 c5 (fun W hW => ?_) hc5).mono ?_
 ·rcases hW with r | r
  ·exact Kd.C_below hC (below_then h.old h.old.size r)
  exact Kd.C_below hC (fr_old h.old g3 g4 r)
 rintro e w' ⟨B', dp', m', rfl, e1, e2, e3⟩
 have := stepC_len ds d
 exact ⟨B', dp', rfl, ⟨n, m', h.one.fr e3 (by simp; omega) (by simp; omega) (fun k hk => by simp; omega), e1, l1, by omega, by omega, fr_old h.old g3 g4 e3, h.hp, h.ne⟩⟩
theorem Tw.alike1 {w0 w : World} {p b q c : Nat} {i : Int} {cs ds : List Cu} {A B : Option Addr} {cp dp : Nat} (h : Tw w0 p b q c i cs A cp ds B dp w) :
  Calls Try.prog 12 #[.pointer (some ⟨p, 0, none⟩), .slice A cs.length cp] w fun e w' => e = .returned (.bool true) ∧ Below w.heap.size w w' := by
 obtain ⟨n, m, h⟩ := h
 have l1 := h.l1
 exact alike27 h.one.tb h.one.row (by omega)
theorem Tw.alike2 {w0 w : World} {p b q c : Nat} {i : Int} {cs ds : List Cu} {A B : Option Addr} {cp dp : Nat} (h : Tw w0 p b q c i cs A cp ds B dp w) (hi : i ≤ 1000) :
  Calls Try.prog 12 #[.pointer (some ⟨q, 0, none⟩), .slice B ds.length dp] w fun e w' => e = .returned (.bool true) ∧ Below w.heap.size w w' := by
 obtain ⟨n, m, h⟩ := h
 have l2 := h.l2
 exact alike27 h.two.tb h.two.row (by omega)
def Tail (w0 W : World) (p q : Nat) (n : Nat) (A : Option Addr) (cp m : Nat) (B : Option Addr) (dp : Nat) : Prop :=
 Calls Try.prog 15 #[.pointer none, .agg #[.string ⟨#[]⟩, .string ⟨#[]⟩]] W fun e w1 => e = .returned (.tuple #[.int .i64 0, .int .i64 1]) ∧
 Calls Try.prog 16 #[.pointer none, .int .i64 1] w1 fun e w2 => e = .returned (.tuple #[.agg #[.string ⟨#[]⟩, .string ⟨#[]⟩], .bool false, .int .i64 1]) ∧
 Calls Try.prog 17 #[.pointer none, .int .i64 1, .slice none 0 0, .int .i64 1] (w2.alloc (.cells #[.string ⟨#[]⟩, .string ⟨#[]⟩] 29)) fun e w3 => e = .returned (.tuple #[.bool false, .int .i64 1]) ∧
 Calls Try.prog 13 #[] w3 fun e w4 => e = .returned (.bool true) ∧
 Calls Try.prog 12 #[.pointer (some ⟨p, 0, none⟩), .slice A n cp] w4 fun e w5 => e = .returned (.bool true) ∧
 Calls Try.prog 12 #[.pointer (some ⟨q, 0, none⟩), .slice B m dp] w5 fun e w6 => e = .returned (.bool true) ∧
 Calls Try.prog 18 #[.pointer none, .int .i64 1] w6 fun e w7 => e = .returned (.int .i64 1) ∧
 Calls Try.prog 19 #[.pointer none] w7 fun e w8 => e = .returned (.int .i64 0) ∧
 Calls Try.prog 14 #[.pointer none] w8 fun e w9 => e = .returned (.pointer none) ∧ Aside0 (Below w0.heap.size w0 w9)
theorem Tw.tail {w0 w : World} {p b q c : Nat} {i : Int} {cs ds : List Cu} {A B : Option Addr} {cp dp : Nat} (h : Tw w0 p b q c i cs A cp ds B dp w) (hi : i ≤ 1000) : Tail w0 w p q cs.length A cp ds.length B dp := by
 refine (open_nil _ _).mono ?_
 rintro e w1 ⟨rfl, h1⟩
 replace h := h.below h1
 refine ⟨rfl, (left_nil _).mono ?_⟩
 rintro e w2 ⟨rfl, h2⟩
 replace h := (h.below h2).below (below_alloc (Below.refl _ _) (.cells #[.string ⟨#[]⟩, .string ⟨#[]⟩] 29))
 refine ⟨rfl, (took_nil _ _ _ _ _).mono ?_⟩
 rintro e w3 ⟨rfl, h3⟩
 replace h := h.below h3
 refine ⟨rfl, (Cur.live_any _).mono ?_⟩
 rintro e w4 ⟨rfl, h4⟩
 replace h := h.below h4
 refine ⟨rfl, h.alike1.mono ?_⟩
 rintro e w5 ⟨rfl, h5⟩
 replace h := h.below h5
 refine ⟨rfl, (h.alike2 hi).mono ?_⟩
 rintro e w6 ⟨rfl, h6⟩
 replace h := h.below h6
 refine ⟨rfl, (close_nil _).mono ?_⟩
 rintro e w7 ⟨rfl, h7⟩
 replace h := h.below h7
 refine ⟨rfl, (Cur.len_nil (w := w7)).mono ?_⟩
 rintro e w8 ⟨rfl, h8⟩
 replace h := h.below h8
 refine ⟨rfl, (Cur.fork_nil (w := w8)).mono ?_⟩
 rintro e w9 ⟨rfl, h9⟩
 exact ⟨rfl, ⟨(h.below h9).old⟩⟩
theorem forks27 {w : World} {A A' : Option Addr} {cap cap' : Nat} {l l' : List Dd27} (hC : Kd.C P.k32 w A l.length l) (hcap : l.length ≤ cap) (hwf : ∀ d ∈ l, okd27 d = true) (hC' : Kd.C P.k32 w A' l'.length l') (hcap' : l'.length ≤ cap') (hwf' : ∀ d ∈ l', okd27 d = true) :
  Calls Try.prog 4 #[.slice A l.length cap, .slice A' l'.length cap'] w fun e w' => e = .returned (.bool true) ∧ Below w.heap.size w w' := by
 have hud := Try.underlying32
 have hur := Try.underlying29
 have NW := new_ex27 w
 have hA0 := aK_ (And.intro hC hwf)
 have hA1 := aK_ (And.intro hC' hwf')
 clear hC hwf hC' hwf'
 go_enter Try.func4, Try.ntmps4
 go_wp2_with (go_at_call 10; refine NW.mono ?_; clear NW; rintro e w1 ⟨p, b, rfl, hp, hb, hT1, hB1⟩; have hS : Aside0 (St27 w p b 0 [] none 0 w1) := ⟨St27.start hp hb hT1 hB1⟩; clear hp hb hT1 hB1)
 go_loopg [6, 7] 60 (fun g xv iv wr => ∃ (i : Int) (cs : List Cu) (B : Option Addr) (cp : Nat), xv = .slice B cs.length cp ∧ iv = .int .i64 i ∧ Aside0 (0 ≤ i ∧ i.toNat + g = 60) ∧ Aside0 (St27 w p b i cs B cp wr))
 case atStart => exact ⟨0, [], none, 0, rfl, rfl, ⟨Int.le_refl _, rfl⟩, hS⟩
 clear hS
 obtain ⟨i, cs, B, cp, rfl, rfl, hiA, hS⟩ := hrel
 obtain ⟨hi0, hig⟩ := hiA.out
 by_cases hA : i < l.length ∧ i < 60
 ·obtain ⟨hA, hB6⟩ := hA
  cases gk with
  | zero => omega
  | succ g => ?_
  obtain ⟨ad, d, A5, c5, rfl, hdj, hcs, hc5, hC5⟩ := at_D27 hA0.out.1 i hi0 hA
  have hwd := hA0.out.2 d (List.mem_of_getElem? hdj)
  have hold := hS.out.old
  obtain ⟨q0, q1, q2, q3, q4, q5⟩ := hcs
  replace q0 := cell_b27 hold q0
  replace q1 := cell_b27 hold q1
  replace q2 := cell_b27 hold q2
  replace q3 := cell_b27 hold q3
  replace q4 := cell_b27 hold q4
  replace q5 := cell_b27 hold q5
  have SP := (hS.out.step hi0 (by omega) d hwd hC5 hc5).mono (R' := fun e w2 => ∃ B' cp', e = .returned (.tuple #[.slice B' (stepC cs d).length cp', .bool true]) ∧ Aside0 (St27 w p b (i + 1) (stepC cs d) B' cp' w2)) (by
   rintro e w2 ⟨B', cp', rfl, h2⟩
   exact ⟨B', cp', rfl, ⟨h2⟩⟩)
  have d0 := decide_eq_true hi0
  have d1 := decide_eq_true hA
  have d2 := decide_eq_true hB6
  have p0 := eq_true hi0
  have p1 := eq_true hA
  have hwi : wrap64 (i + 1) = i + 1 := IntWalk.wrap64_in _ (by omega)
  clear hi0 hig hA hB6 hdj hC5 hwd hold hc5 hS hcap
  go_wp2_with (go_at_call 11; refine SP.mono ?_; clear SP; rintro e w2 ⟨B', cp', rfl, hS⟩)
  go_roundg g
  case measure => omega
  case rel => exact ⟨i + 1, stepC cs d, B', cp', rfl, by rw [hwi], ⟨by have := hiA.out; omega, by have := hiA.out; omega⟩, hS⟩
 have hor : decide (i < (l.length : Int)) = false ∨ (decide (i < (l.length : Int)) = true ∧ decide (i < 60) = false) := by
  by_cases hA2 : i < (l.length : Int)
  ·exact .inr ⟨decide_eq_true hA2, decide_eq_false (fun q => hA ⟨hA2, q⟩)⟩
  exact .inl (decide_eq_false hA2)
 have FK := hS.out.fork (by omega)
 clear hA hcap hi0 hig hS hiA hA0
 rcases hor with d1 | ⟨d1, d2⟩ <;> (
 go_wp2_with (go_at_call 14; refine FK.mono ?_; clear FK; rintro e w2 ⟨q, c, rfl, hS⟩)
 clear d1
 go_loopg [9, 10] 60 (fun g xv iv wr => ∃ (i : Int) (ds : List Cu) (D : Option Addr) (dp : Nat), xv = .slice D ds.length dp ∧ iv = .int .i64 i ∧ Aside0 (0 ≤ i ∧ i.toNat + g = 60) ∧ Aside0 (Tw w p b q c i cs B cp ds D dp wr))
 case atStart => exact ⟨0, cs, B, cp, rfl, rfl, ⟨Int.le_refl _, rfl⟩, hS⟩
 clear hS
 obtain ⟨i, ds, D, dp, rfl, rfl, hiA, hS⟩ := hrel
 obtain ⟨hi0, hig⟩ := hiA.out
 by_cases hA : i < l'.length ∧ i < 60
 ·obtain ⟨hA, hB6⟩ := hA
  cases gk with
  | zero => omega
  | succ g => ?_
  obtain ⟨ad, d, A5, c5, rfl, hdj, hcs, hc5, hC5⟩ := at_D27 hA1.out.1 i hi0 hA
  have hwd := hA1.out.2 d (List.mem_of_getElem? hdj)
  have hold := hS.out.old
  obtain ⟨q0, q1, q2, q3, q4, q5⟩ := hcs
  replace q0 := cell_b27 hold q0
  replace q1 := cell_b27 hold q1
  replace q2 := cell_b27 hold q2
  replace q3 := cell_b27 hold q3
  replace q4 := cell_b27 hold q4
  replace q5 := cell_b27 hold q5
  have SP := hS.out.step hi0 (by omega) d hwd hC5 hc5
  have d0 := decide_eq_true hi0
  have d1 := decide_eq_true hA
  have d2 := decide_eq_true hB6
  have p0 := eq_true hi0
  have p1 := eq_true hA
  have hwi : wrap64 (i + 1) = i + 1 := IntWalk.wrap64_in _ (by omega)
  clear hi0 hig hA hB6 hdj hC5 hwd hold hc5 hS hcap'
  go_wp2_with (go_at_call 11; refine SP.mono ?_; clear SP; rintro e w3 ⟨B', cp', rfl, hS⟩)
  go_roundg g
  case measure => omega
  case rel => exact ⟨i + 1, stepC ds d, B', cp', rfl, by rw [hwi], ⟨by have := hiA.out; omega, by have := hiA.out; omega⟩, hS⟩
 have hor : decide (i < (l'.length : Int)) = false ∨ (decide (i < (l'.length : Int)) = true ∧ decide (i < 60) = false) := by
  by_cases hA2 : i < (l'.length : Int)
  ·exact .inr ⟨decide_eq_true hA2, decide_eq_false (fun q => hA ⟨hA2, q⟩)⟩
  exact .inl (decide_eq_false hA2)
 have TL := hS.out.tail (by omega)
 unfold Tail at TL
 clear hA hcap' hi0 hig hS hiA hA1
 rcases hor with d1 | ⟨d1, d2⟩ <;> (
 go_wp2_with (first
  | (go_at_call 15; refine TL.mono ?_; clear TL; rintro e w3 ⟨rfl, T1⟩)
  | (go_at_call 16; refine T1.mono ?_; clear T1; rintro e w4 ⟨rfl, T2⟩)
  | (go_at_call 17; refine T2.mono ?_; clear T2; rintro e w5 ⟨rfl, T3⟩)
  | (go_at_call 13; refine T3.mono ?_; clear T3; rintro e w6 ⟨rfl, T4⟩)
  | (go_at_call 12; refine T4.mono ?_; clear T4; rintro e w7 ⟨rfl, T5⟩)
  | (go_at_call 12; refine T5.mono ?_; clear T5; rintro e w8 ⟨rfl, T6⟩)
  | (go_at_call 18; refine T6.mono ?_; clear T6; rintro e w9 ⟨rfl, T7⟩)
  | (go_at_call 19; refine T7.mono ?_; clear T7; rintro e w10 ⟨rfl, T8⟩)
  | (go_at_call 14; refine T8.mono ?_; clear T8; rintro e w11 ⟨rfl, hE⟩))
 go_ret
 exact ⟨rfl, hE.out⟩))
end Go.Proofs.Ytljnlnbopohghaa.Mdl
end
section
namespace Go.Proofs.Ytljnlnbopohghaa.P
open Go.RowKit Go.Proofs.YtljnlnbopohghaaW.PrintWords
def catchmentlaw27_CursorForks.f (k : Nat) (l0 : List S32) (l1 : List S32) : Option Bool := if l0.all Mdl.okd27 = true ∧ l1.all Mdl.okd27 = true then some true else none
theorem catchmentlaw27_CursorForks.calls (k : Nat) (A0 : Option Addr) (c0 : Nat) (l0 : List S32) (A1 : Option Addr) (c1 : Nat) (l1 : List S32) (r : Bool) (w : World) (hr0 : Kd.C k32 w A0 l0.length l0) (hc0 : l0.length ≤ c0) (hr1 : Kd.C k32 w A1 l1.length l1) (hc1 : l1.length ≤ c1) (h : catchmentlaw27_CursorForks.f k l0 l1 = some r) :
  Calls Try.prog 4 #[.slice A0 l0.length c0, .slice A1 l1.length c1] w fun e w' => e = .returned (.bool r) ∧ Below w.heap.size w w' := by
 unfold catchmentlaw27_CursorForks.f at h
 split at h
 ·rename_i hq
  cases h
  exact Mdl.forks27 hr0 hc0 (List.all_eq_true.1 hq.1) hr1 hc1 (List.all_eq_true.1 hq.2)
 cases h
theorem catchmentlaw27_CursorForks.yes (l0 l1 : List S32) (h0 : ∀ a ∈ l0, wf32 a) (h1 : ∀ a ∈ l1, wf32 a) : catchmentlaw27_CursorForks.f 0 l0 l1 = some true :=
 if_pos ⟨List.all_eq_true.2 fun d hd => Mdl.okd27_wf (h0 d hd), List.all_eq_true.2 fun d hd => Mdl.okd27_wf (h1 d hd)⟩
end Go.Proofs.Ytljnlnbopohghaa.P
end
section
namespace Go.Proofs.Ytljnlnbopohghaa.Pure
open Go.RowKit Go.Proofs.Ytljnlnbopohghaa.P Go.Proofs.YtljnlnbopohghaaW.PrintWords Go.Proofs.YtljnlnbopohghaaW.PrintLast Go.Proofs.YtljnlnbopohghaaW.PrintMore
theorem CursorForks : ∀ (x0 : (List S32)) (x1 : (List S32)), (x0.length * 80 ≤ 140737488351232 ∧ ∀ a_ ∈ x0, wf32 a_) → (x1.length * 80 ≤ 140737488351232 ∧ ∀ a_ ∈ x1, wf32 a_) → ∃ k, catchmentlaw27_CursorForks.f k x0 x1 = some true := by
 intro x0 x1 h0 h1; exact ⟨0, catchmentlaw27_CursorForks.yes _ _ h0.2 h1.2⟩
end Go.Proofs.Ytljnlnbopohghaa.Pure
end
section
namespace Go.Proofs.Ytljnlnbopohghaa.cursorForks
open Go.ChangeShapes Go.WideShapes Go.ChangeAt Go.RowKit Go.Proofs.Ytljnlnbopohghaa.P Go.Proofs.Ytljnlnbopohghaa.Rd Go.Proofs.YtljnlnbopohghaaW.PrintWords
open Go.ChangeMaps (open_string shut_string)
theorem own : ownKnob Try.prog.godebug = none := by kernel_rfl
theorem laidOut : laidOutB Try.prog = true := by kernel_rfl
set_option maxHeartbeats 2000000 in
set_option maxRecDepth 100000 in
theorem lifted (os : Os) (started : os.Started) (H : Type) (enc : TypeId × Value → H) :
  ReturnsInHanded {} Try.checked os 4 .any (Rows.cursorForksSpec.pre6 enc Try.prog Try.f4 Rows.cursorForksRow.domain false) (Rows.cursorForksSpec.post enc Try.prog Try.f4 false true false false) := by
 refine returnsInHanded_of_change_sized (C := Try.checked) own started (by kernel_rfl) Try.func4
  (ChangeSpec.witness6 (enc := enc) (C := Try.checked) false ⟨#[], #[.slice none 0 0, .slice none 0 0], []⟩ 8 (by kernel_rfl) (by kernel_rfl) (by kernel_rfl) (by kernel_rfl)) ?_
 intro W base args ds gs before hval0 hW hcnd hsz0 _
 have hsz : (DataW.weightsEach Try.prog (Try.f4.params.toList ++ Rows.cursorForksSpec.plain.varTypes Try.prog) (ds ++ gs)).all (· ≤ reachBytes) = true := hsz0
 have hval : ∀ (j : Nat) t v, Try.f4.params[j]? = some t → args[j]? = some v → Value.okWide Try.prog W .any base t v := hval0
 have hW' := hW
 obtain ⟨p, q, hA0, hV, rfl, hfz, hnd⟩ := hW
 have hA : DataW.TrodAll enc Try.prog W 0 (fun _ => true) true Try.f4.params.toList args.toList ds p := hA0
 rw [Try.params4] at hA hval hsz
 obtain ⟨v0, vs0, d0, ds0, p0, q0, hargs, rfl, rfl, h0, r0⟩ := trodAll_cons hA
 obtain ⟨v1, vs1, d1, ds1, p1, q1, rfl, rfl, rfl, h1, r1⟩ := trodAll_cons r0
 obtain ⟨rfl, rfl, rfl⟩ := trodAll_nil r1
 obtain rfl : args = #[v0, v1] := by cases args; simp_all
 obtain ⟨rfl, rfl⟩ := trodVars_none hV
 have k0 := h0
 have lt0 : ∀ x ∈ p0, x.block < W.heap.size := by obtain ⟨m, hm⟩ := k0; exact DataW.trod_lt m _ _ _ hm
 have ww0 : ∀ n ∈ d0.weights Try.prog 22, n ≤ reachBytes := fun n hn => by simpa using List.all_eq_true.1 hsz n (DataW.weights_mem_each (j := 0) rfl rfl n hn)
 obtain ⟨ad0, len0, cap0, rfl⟩ := okWide_slice Try.underlying22 (hval 0 22 v0 rfl rfl)
 obtain ⟨fu0, hf0⟩ := h0
 obtain ⟨x0, kx0, w0⟩ := o22.down hf0 ww0
 obtain ⟨A0, c0, e0, hc0, hr0⟩ := kx0
 obtain ⟨rfl, rfl, rfl⟩ : ad0 = A0 ∧ len0 = x0.length ∧ cap0 = c0 := by simpa [Value.cells] using e0
 have k1 := h1
 have lt1 : ∀ x ∈ p1, x.block < W.heap.size := by obtain ⟨m, hm⟩ := k1; exact DataW.trod_lt m _ _ _ hm
 have ww1 : ∀ n ∈ d1.weights Try.prog 22, n ≤ reachBytes := fun n hn => by simpa using List.all_eq_true.1 hsz n (DataW.weights_mem_each (j := 1) rfl rfl n hn)
 obtain ⟨ad1, len1, cap1, rfl⟩ := okWide_slice Try.underlying22 (hval 1 22 v1 rfl rfl)
 obtain ⟨fu1, hf1⟩ := h1
 obtain ⟨x1, kx1, w1⟩ := o22.down hf1 ww1
 obtain ⟨A1, c1, e1, hc1, hr1⟩ := kx1
 obtain ⟨rfl, rfl, rfl⟩ : ad1 = A1 ∧ len1 = x1.length ∧ cap1 = c1 := by simpa [Value.cells] using e1
 clear hA0 hval0 hsz0 hsz
 obtain ⟨k_, hp⟩ := Pure.CursorForks x0 x1 w0 w1
 refine (catchmentlaw27_CursorForks.calls (k := k_) (r := true) (w := W) (hr0 := hr0) (hc0 := hc0) (hr1 := hr1) (hc1 := hc1) (h := hp)).mono fun e W' ⟨he, bel0⟩ => ?_
 have bel : Below W.heap.size W W' := bel0
 subst he
 exact ⟨_, rfl, _, _, _, [], _, [], hW', trodAll_mk1 (shut_bool Try.underlying4 _), (trodAll_cons_mk (Below.trod laidOut (by kernel_rfl) (of_decide_eq_true (by kernel_rfl)) k0 bel lt0) (trodAll_cons_mk (Below.trod laidOut (by kernel_rfl) (of_decide_eq_true (by kernel_rfl)) k1 bel lt1) trodAll_mk0)), rfl, bel.frame _, fun h => by cases h⟩
theorem over : Rows.cursorForksRow.holds Try.pinned (OpenSpec.ofChange Rows.cursorForksSpec) :=
 OpenClaim.holds_of_wide 4 Try.f4 rfl rfl rfl rfl rfl rfl rfl ⟨rfl, rfl, rfl, rfl, rfl⟩ rfl rfl rfl rfl rfl (by kernel_rfl) Try.func4 (by kernel_rfl)
  (of_decide_eq_true (by kernel_rfl)) (by unfold Func.isWrapper; first | (rw [if_pos (by decide +kernel)]; kernel_rfl) | (rw [if_neg (by decide +kernel)]; exact ⟨rfl, rfl⟩))
  (fun os started H enc _ => lifted os started H enc)
end Go.Proofs.Ytljnlnbopohghaa.cursorForks
namespace Go.Proofs.Ytljnlnbopohghaa
theorem cursorForks_holds : Rows.CursorForksSaid := cursorForks.over
#print axioms cursorForks_holds
end Go.Proofs.Ytljnlnbopohghaa
end
