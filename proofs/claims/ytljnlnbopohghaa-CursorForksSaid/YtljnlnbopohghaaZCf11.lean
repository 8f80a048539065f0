/- Texts of one claim (laid by shake.py). -/
import Derived.Test.YtljnlnbopohghaaZCf7
import Derived.Test.YtljnlnbopohghaaZCf8
import Derived.Laws.BitsAllLaws
import Derived.Test.YtljnlnbopohghaaZCf10
import Derived.Test.YtljnlnbopohghaaZCf5
import Derived.Test.YtljnlnbopohghaaZCf9
import Derived.Test.YtljnlnbopohghaaZCf3
set_option linter.unusedVariables false
set_option linter.unusedSimpArgs false
section
namespace Go.Proofs.Ytljnlnbopohghaa.P
open Go.RowKit Go.Proofs.YtljnlnbopohghaaW.PrintWords Go.Proofs.YtljnlnbopohghaaW.PrintLast Go.Proofs.YtljnlnbopohghaaW.PrintMore Go.Proofs.Ytljnlnbopohghaa.Own Go.Proofs.Ytljnlnbopohghaa
abbrev En := S103
theorem drop_any {α : Type} {L l : List α} {i : Nat} {x : α} (hd : L.drop i = x :: l) : i < L.length ∧ L[i]? = some x ∧ L.drop (i + 1) = l ∧ L.take (i + 1) = L.take i ++ [x] ∧ x ∈ L := by
 have hlt : i < L.length := by
  rcases Nat.lt_or_ge i L.length with h | h
  ·exact h
  rw [List.drop_eq_nil_of_le h] at hd; cases hd
 have hx : L[i]? = some x := by
  have := congrArg (fun z => z[0]?) hd
  simpa using this
 refine ⟨hlt, hx, ?_, ?_, List.mem_of_getElem? hx⟩
 ·have := congrArg (List.drop 1) hd
  simpa [List.drop_drop] using this
 rw [List.take_add_one, hx]; rfl
theorem drop_none {α : Type} {L : List α} {i : Nat} (hd : L.drop i = []) (hi : i ≤ L.length) : i = L.length := by
 have := congrArg List.length hd
 simp at this
 omega
theorem rdE_at {L : List En} {i : Nat} {x : En} (h : L[i]? = some x) : rd_T103 L (i : Int) = x := by
 show L.getD ((i : Int).toNat) _ = x
 rw [Int.toNat_natCast, List.getD_eq_getElem?_getD, h]; rfl
theorem wrap1 {i : Nat} (h : i ≤ 1000000) : wrap64 ((i : Int) + 1) = ((i + 1 : Nat) : Int) := by rw [IntWalk.wrap64_in _ (by omega)]; omega
def tidy (p : ByteArray × Bool) : Prop := p.2 = false → p.1 = e0
end Go.Proofs.Ytljnlnbopohghaa.P
end
section
namespace Go.Proofs.Ytljnlnbopohghaa.Mdl
open Go.RowKit Go.Shelf Go.Proofs.YtljnlnbopohghaaW.PrintWords Go.Proofs.YtljnlnbopohghaaW.PrintLast Go.Proofs.YtljnlnbopohghaaW.PrintMore Go.Proofs.Ytljnlnbopohghaa.Own Go.Proofs.Ytljnlnbopohghaa.Ord Go.Proofs.Ytljnlnbopohghaa Go.Proofs.Ytljnlnbopohghaa.P
open Go.Proofs.Ytljnlnbopohghaa.OrdSm (Hold hold_len)
set_option maxHeartbeats 2000000
set_option maxRecDepth 100000
abbrev Cu := S97
def curX (c : Cu) : Cur.X := (c.f0.f0, c.f0.f1, c.f1)
def tabF (cs : List Cu) (k : Int) : Option Cur.X := if 1 ≤ k then (match cs[(k - 1).toNat]? with
 | some c => if c.f2 = true then none else some (curX c)
 | none => none) else none
def cntV (cs : List Cu) : Nat := (cs.filter (fun c => !c.f2)).length
theorem tabF_nil : tabF [] = fun _ => none := by
 funext k
 simp [tabF]
theorem Tb_eq {w w' : World} {p b n c : Nat} {last : Int} {F : Int → Option Cur.X} (h : Cur.Tb w p b last n F c) (e1 : w'.heap[p]? = w.heap[p]?) (e2 : w'.heap[b]? = w.heap[b]?) : Cur.Tb w' p b last n F c := by
 obtain ⟨hb, D, ⟨es, clock, h1, r⟩, h2⟩ := h
 exact ⟨e1.trans hb, D, ⟨es, clock, e2.trans h1, r⟩, h2⟩
theorem Tb_lt {w : World} {p b n c : Nat} {last : Int} {F : Int → Option Cur.X} (h : Cur.Tb w p b last n F c) : p < w.heap.size ∧ b < w.heap.size := ⟨blk_lt h.blk, h.map.lt⟩
structure Mx (G : Nat → Nat) (w : World) (m : Nat) (c : Cf) (n sends : Int) (L : Row) (T : Int → List Cu) (N em cb nn : Nat) (F : Int → Option Nat) (B : Int → Nat) : Prop where
 hm : w.heap[m]? = some (objM c n em cb sends)
 gm : G m = 1
 hH : Hold (fun k => G k = 3) w em L
 hT : TP w cb nn F
 gc : G cb = 2
 hn : nn ≤ N
 non : ∀ who, F who = none → T who = []
 tab : ∀ who p, F who = some p → 1 ≤ who ∧ G p = 4 + 2 * who.toNat ∧ G (B who) = 5 + 2 * who.toNat ∧ ∃ k, k ≤ N ∧ Cur.Tb w p (B who) (T who).length k (tabF (T who)) (cntV (T who))
theorem Mx.frm {G : Nat → Nat} {w w' : World} {m : Nat} {c : Cf} {n sends : Int} {L : Row} {T : Int → List Cu} {N em cb nn : Nat} {F : Int → Option Nat} {B : Int → Nat} (h : Mx G w m c n sends L T N em cb nn F B) (f : It.FrM (fun k => G k = 0) w w') : Mx G w' m c n sends L T N em cb nn F B := by
 refine ⟨f.blk h.hm (by rw [h.gm]; decide), h.gm, h.hH.frm f (fun k hk _ e => by rw [hk] at e; cases e), h.hT.fr (f.block cb h.hT.lt (by rw [h.gc]; decide)), h.gc, h.hn, h.non, fun who p hF => ?_⟩
 obtain ⟨h1, h2, h3, k, hk, hb⟩ := h.tab who p hF
 obtain ⟨l1, l2⟩ := Tb_lt hb
 exact ⟨h1, h2, h3, k, hk, Tb_eq hb (f.block p l1 (by rw [h2]; omega)) (f.block _ l2 (by rw [h3]; omega))⟩
theorem Mx.mono {G : Nat → Nat} {w : World} {m : Nat} {c : Cf} {n sends : Int} {L : Row} {T : Int → List Cu} {N N' em cb nn : Nat} {F : Int → Option Nat} {B : Int → Nat} (h : Mx G w m c n sends L T N em cb nn F B) (hN : N ≤ N') : Mx G w m c n sends L T N' em cb nn F B :=
 ⟨h.hm, h.gm, h.hH, h.hT, h.gc, Nat.le_trans h.hn hN, h.non, fun who p hF => by
  obtain ⟨h1, h2, h3, k, hk, hb⟩ := h.tab who p hF
  exact ⟨h1, h2, h3, k, Nat.le_trans hk hN, hb⟩⟩
section
variable {G : Nat → Nat} {w : World} {m : Nat} {c : Cf} {n sends : Int} {L : Row} {T : Int → List Cu} {N : Nat}
theorem len_nil (w : World) : Calls Try.prog 19 #[.pointer none] w fun e w' => e = .returned (.int .i64 0) ∧ w' = w := by
 go_enter Try.func19, Try.ntmps19
 go_wp2
 go_ret
 exact ⟨rfl, rfl⟩
end
end Go.Proofs.Ytljnlnbopohghaa.Mdl
end
section
namespace Go.Proofs.Ytljnlnbopohghaa.Cur
open Go Go.RowKit Go.Maps Go.Proofs.YtljnlnbopohghaaW.PrintWords Go.Proofs.YtljnlnbopohghaaW.PrintLast Go.Proofs.YtljnlnbopohghaaW.PrintMore Go.Proofs.Ytljnlnbopohghaa.Own Go.Proofs.Ytljnlnbopohghaa.Ord Go.Proofs.Ytljnlnbopohghaa.P
set_option maxHeartbeats 2000000
set_option maxRecDepth 100000
theorem eqA_range (d : Nat) (w : World) (x0 y0 : BA) (x1 y1 : BA) :
  (Op.equalIn (d + 2) 29 (.agg #[.string x0, .string x1]) (.agg #[.string y0, .string y1])).run Try.prog w = .ok (x0.toList == y0.toList && (x1.toList == y1.toList)) w := by
 refine eqA_of Try.underlying29 (by kernel_rfl) ?_
 refine eqf_cons (by rfl) (by go_simp; rfl) (by go_simp; rfl) (by go_simp) ?_
 exact eqf_last (by rfl) (by go_simp; rfl) (by go_simp; rfl) (by go_simp)
theorem C_two {W : World} {g : Nat} {a b c d : ByteArray} (h : W.heap[g]? = some (.cells #[.string a, .string b, .string c, .string d] 103 (0, 0))) : Kd.C P.k103 W (some ⟨g, 0, none⟩) 2 [⟨a, b⟩, ⟨c, d⟩] := by
  refine ⟨rfl, by omega, fun _ => ⟨_, rfl, fun j p hj => ?_⟩⟩
  match j, hj with
  | 0, hj =>
    cases hj
    refine ⟨[.string a, .string b], rfl, ⟨[.string a], [.string b], rfl, rfl, rfl⟩, fun i u hu => ?_⟩
    match i, hu with
    | 0, hu => cases hu; exact blk_cell h 0
    | 1, hu => cases hu; exact blk_cell h 1
    | _ + 2, hu => simp at hu
  | 1, hj =>
    cases hj
    refine ⟨[.string c, .string d], rfl, ⟨[.string c], [.string d], rfl, rfl, rfl⟩, fun i u hu => ?_⟩
    match i, hu with
    | 0, hu => cases hu; exact blk_cell h 2
    | 1, hu => cases hu; exact blk_cell h 3
    | _ + 2, hu => simp at hu
  | _ + 2, hj => simp at hj
attribute [local go_sem high] eqA_range
def bA : ByteArray := ⟨#[97]⟩
theorem rr_az : rrB ⟨#[97]⟩ ⟨#[122]⟩ = true := by simp [rrB, ba_mk]; decide
theorem aft_c : aft ⟨#[99]⟩ = ⟨#[99, 0]⟩ := by rfl
theorem took_live : tookV (some (⟨#[97]⟩, ⟨#[122]⟩, false)) [⟨⟨#[98]⟩, ⟨#[]⟩⟩, ⟨⟨#[99]⟩, ⟨#[]⟩⟩] 2 = (false, 0, some (⟨#[99, 0]⟩, ⟨#[122]⟩, false)) := by
  have h1 : incB [(⟨⟨#[98]⟩, ⟨#[]⟩⟩ : En), ⟨⟨#[99]⟩, ⟨#[]⟩⟩] = true := by simp [incB, ltB, ba_mk]; decide
  have h2 : outside ⟨#[97]⟩ ⟨#[122]⟩ [(⟨⟨#[98]⟩, ⟨#[]⟩⟩ : En), ⟨⟨#[99]⟩, ⟨#[]⟩⟩] = false := by simp [outside, holdsB, rrB, ltB, ba_mk]; decide
  have h3 : rrB (⟨#[99, 0]⟩ : ByteArray) ⟨#[122]⟩ = true := by simp [rrB, ba_mk]; decide
  unfold tookV
  simp [h1, h2, behV, aft_c, h3]
theorem live_took {w : World} {p b : Nat} (h : Tb w p b (0 + 1) (0 + 1) (upd (fun x => none) (0 + 1) (some (⟨#[97]⟩, ⟨#[122]⟩, false))) 1) :
    Calls Try.prog 17 #[.pointer (some ⟨p, 0, none⟩), .int .i64 1, .slice (some ⟨w.heap.size, 0, none⟩) 2 2, .int .i64 2] (w.alloc (.cells #[.string ⟨#[98]⟩, .string ⟨#[]⟩, .string ⟨#[99]⟩, .string ⟨#[]⟩] 103)) fun e w' =>
      e = .returned (.tuple #[.bool false, .int .i64 0]) ∧ Tb w' p b (0 + 1) (0 + 1 + 1) (upd (upd (fun x => none) (0 + 1) (some (⟨#[97]⟩, ⟨#[122]⟩, false))) 1 (some (⟨#[99, 0]⟩, ⟨#[122]⟩, false))) 1 ∧ Fr [b] (w.alloc (.cells #[.string ⟨#[98]⟩, .string ⟨#[]⟩, .string ⟨#[99]⟩, .string ⟨#[]⟩] 103)) w' := by
  have hTk := took_any (h.fr (B := []) ((Fr.refl [] _).alloc (.cells #[.string ⟨#[98]⟩, .string ⟨#[]⟩, .string ⟨#[99]⟩, .string ⟨#[]⟩] 103)) (by simp) (by simp)) 1 (wf_small (by omega) (by omega)) (C_two (blk_new w _)) (cl := 2) (by simp) 2 (by omega) (by intro x hx; simp at hx; rcases hx with rfl | rfl <;> simp [ba_size, ba_mk]) (by simp)
  rw [show upd (fun x => none) (0 + 1) (some (⟨#[97]⟩, ⟨#[122]⟩, false)) (1 : Int) = (some (⟨#[97]⟩, ⟨#[122]⟩, false) : Option X) from rfl, took_live] at hTk
  exact hTk
theorem live_any (w : World) : Calls Try.prog 13 #[] w fun e w' => e = .returned (.bool true) ∧ Below w.heap.size w w' := by
  have hur := Try.underlying29
  have hue := Try.underlying103
  have NW := new_any w
  have hcA : Aside (1 = (if ((fun _ => none : Int → Option X) (0 + 1)).isSome then 0 else 0 + 1)) := rfl
  go_enter Try.func13, Try.ntmps13
  go_wp2_with (first
    | (go_at_call 10; refine NW.mono ?_; clear NW; rintro e w1 ⟨rfl, hT1, hB1⟩; have hO := open_yes hT1 (by omega) (by omega) (by omega) _ _ rr_az hcA; clear hT1)
    | (go_at_call 15; refine hO.mono ?_; clear hO hcA; rintro e w2 ⟨rfl, hT2, f2⟩; have hTk := live_took hT2; have hB2 : Below w.heap.size w (w2.alloc (.cells #[.string ⟨#[98]⟩, .string ⟨#[]⟩, .string ⟨#[99]⟩, .string ⟨#[]⟩] 103)) := below_alloc (((Fr.of_below (B := []) hB1).trans f2 (fun x hx => .inr (by simp at hx; omega))).below (by simp) (Nat.le_refl _)) _; clear hT2 f2 hB1)
    | (go_at_call 17; refine hTk.mono ?_; clear hTk; rintro e w3 ⟨rfl, hT3, f3⟩; have hL := left_some hT3 1 (wf_small (by omega) (by omega)) _ _ _ (upd_same _ _ _); have hB3 : Below w.heap.size w w3 := ((Fr.of_below (B := []) hB2).trans f3 (fun x hx => .inr (by simp at hx; omega))).below (by simp) (Nat.le_refl _); clear f3 hB2)
    | (go_at_call 16; refine hL.mono ?_; clear hL; rintro e w4 ⟨rfl, hB4⟩; have hT4 := (hT3.fr (B := []) (Fr.of_below hB4) (by simp) (by simp)).fr (B := []) ((Fr.refl [] w4).alloc (.cells #[.string ⟨#[99, 0]⟩, .string ⟨#[122]⟩] 29)) (by simp) (by simp); have hN := len_any hT4; have hX := close_none hT4 2 (wf_small (by omega) (by omega)) rfl; have hB5 := below_alloc (below_step hB3 hB4) (.cells #[.string ⟨#[99, 0]⟩, .string ⟨#[122]⟩] 29); clear hT3 hT4 hB4 hB3)
    | (go_at_call 19; refine hN.mono ?_; clear hN; rintro e w5 ⟨rfl, hw⟩; obtain rfl := hw.symm)
    | (go_at_call 18; refine hX.mono ?_; clear hX; rintro e w6 ⟨rfl, hB6⟩))
  go_ret
  exact ⟨rfl, below_step hB5 hB6⟩
end Go.Proofs.Ytljnlnbopohghaa.Cur
end
section
namespace Go.Proofs.Ytljnlnbopohghaa.Cur
open Go Go.RowKit Go.Maps Go.Proofs.YtljnlnbopohghaaW.PrintWords Go.Proofs.YtljnlnbopohghaaW.PrintLast Go.Proofs.YtljnlnbopohghaaW.PrintMore Go.Proofs.Ytljnlnbopohghaa.Own Go.Proofs.Ytljnlnbopohghaa.Ord Go.Proofs.Ytljnlnbopohghaa.P
set_option maxHeartbeats 2000000
set_option maxRecDepth 100000
theorem lt_trans {a b c : ByteArray} (h : ltB a b = true) (k : ltB b c = true) : ltB a c = true := Bo.trans h k
theorem lt_irrefl (a : ByteArray) : ltB a a = false := Bo.irrefl _
theorem holds2_eq (f t s : ByteArray) : catchmentref02_Holds.f f t s = some (holdsB f t s) := by
 unfold catchmentref02_Holds.f holdsB rrB ltB
 cases Op.bytesLess s.toList f.toList
 ·by_cases ht : t.toList = [] <;> simp [ht]
 rfl
theorem right_eq (f t : ByteArray) : catchmentref02_Right.f f t = some (rrB f t) := by
 unfold catchmentref02_Right.f rrB
 split <;> rfl
theorem left_gen {w : World} {p : Nat} (k : Int) (f t : ByteArray) (d : Bool) (er : Int)
  (hfind : Calls Try.prog 47 #[.pointer (some ⟨p, 0, none⟩), .int .i64 k] (w.alloc (.cells #[.string ⟨#[]⟩, .string ⟨#[]⟩] 29)) fun e w' => e = .returned (.tuple #[.agg #[.string f, .string t, .bool d], .int .i64 er]) ∧ Below (w.alloc (.cells #[.string ⟨#[]⟩, .string ⟨#[]⟩] 29)).heap.size (w.alloc (.cells #[.string ⟨#[]⟩, .string ⟨#[]⟩] 29)) w') :
  Calls Try.prog 16 #[.pointer (some ⟨p, 0, none⟩), .int .i64 k] w fun e w' => e = .returned (.tuple #[.agg #[.string f, .string t], .bool d, .int .i64 er]) ∧ Below w.heap.size w w' := by
 have hur := Try.underlying29
 have hux := Try.underlying106
 have hB1 : Below w.heap.size w (w.alloc (.cells #[.string ⟨#[]⟩, .string ⟨#[]⟩] 29)) := below_alloc (Below.refl _ _) _
 go_enter Try.func16, Try.ntmps16
 go_wp2_with (go_at_call 47; refine hfind.mono ?_; clear hfind; rintro e w1 ⟨rfl, hB2⟩; have hb1 := blk_below (blk_new w (.cells #[.string ⟨#[]⟩, .string ⟨#[]⟩] 29)) hB2; have hB3 := below_step hB1 hB2; have hlt : w1.heap.size ≠ w.heap.size := (by have := hB2.size; simp at this; omega); clear hB1 hB2)
 have hb2 : (w1.alloc (.cells #[.string f, .string t, .bool d] 106)).heap[w.heap.size]? = some (.cells #[.string ⟨#[]⟩, .string ⟨#[]⟩] 29 (0, 0)) := blk_alloc hb1 _
 have hn2 := blk_new w1 (.cells #[.string f, .string t, .bool d] 106)
 have hB4 : Below w.heap.size w (w1.alloc (.cells #[.string f, .string t, .bool d] 106)) := below_alloc hB3 _
 clear hb1 hB3
 generalize w1.alloc (.cells #[.string f, .string t, .bool d] 106) = W at hb2 hn2 hB4 ⊢
 have c0 := blk_cell hn2 0
 have c1 := blk_cell hn2 1
 have c2 := blk_cell hn2 2
 have d0 := blk_cell hb2 0
 have d1 := blk_cell hb2 1
 have z0 := blk_frozen hb2 0
 have z1 := blk_frozen hb2 1
 simp at c0 c1 c2 d0 d1
 have hA1 := aK_ hb2
 have hA2 := aK_ hB4
 clear hb2 hn2 hB4
 have hne : w1.heap.size ≠ w.heap.size := hlt
 go_region_held3 (fun w' => w'.cell? ⟨w1.heap.size, 0, none⟩ = some (.string f) ∧ w'.cell? ⟨w1.heap.size, 1, none⟩ = some (.string t) ∧ w'.cell? ⟨w1.heap.size, 2, none⟩ = some (.bool d)) (first | assumption | exact ⟨c0, c1, c2⟩ | (simp [World.cell?_setCell_other, hne, hne.symm, c0, c1, c2]; done)) (fail)
 go_wp2_with fail
 refine bodyPost_ret (results_ctt rfl _ _ w.heap.size 29 #[.string f, .string t] (0, 0) _ rfl ?_ hur rfl (by kernel_rfl)) rfl ?_
 ·exact blk_set (blk_set (blk_drew hA1.out) 0 _) 1 _
 exact ⟨rfl, below_set (below_set (below_drew1 hA2.out) (Nat.le_refl _)) (Nat.le_refl _)⟩
theorem left_any {w : World} {p b n c : Nat} {last : Int} {F : Int → Option X} (h : Tb w p b last n F c) (k : Int) (hk : (Lit.int .i64 k).wf = true) :
  Calls Try.prog 16 #[.pointer (some ⟨p, 0, none⟩), .int .i64 k] w fun e w' => e = .returned (.tuple #[.agg #[.string ((F k).getD x0).1, .string ((F k).getD x0).2.1], .bool ((F k).getD x0).2.2, .int .i64 (if (F k).isSome then 0 else 11)]) ∧ Below w.heap.size w w' := by
 have hT1 : Tb (w.alloc (.cells #[.string ⟨#[]⟩, .string ⟨#[]⟩] 29)) p b last n F c := h.fr (B := []) ((Fr.refl _ _).alloc _) (by simp) (by simp)
 cases hF : F k with
 | none => exact left_gen k ⟨#[]⟩ ⟨#[]⟩ false 11 (find_none hT1 k hk hF)
 | some x =>
  obtain ⟨f, t, d⟩ := x
  exact left_gen k f t d 0 (find_some hT1 k hk f t d hF)
theorem close_any {w : World} {p b n c : Nat} {last : Int} {F : Int → Option X} (h : Tb w p b last n F c) (k : Int) (hk : (Lit.int .i64 k).wf = true) :
  Calls Try.prog 18 #[.pointer (some ⟨p, 0, none⟩), .int .i64 k] w fun e w' => e = .returned (.int .i64 (if (F k).isSome then 0 else 11)) ∧ (∀ c', c' + (if (F k).isSome then 1 else 0) = c → Tb w' p b last n (upd F k none) c') ∧ Fr [b] w w' := by
 cases hF : F k with
 | none =>
  refine (close_none h k hk hF).mono ?_
  rintro e w' ⟨rfl, hB⟩
  refine ⟨rfl, fun c' hc => ?_, Fr.of_below hB⟩
  have e1 : upd F k none = F := by
   funext j
   unfold upd
   split
   ·rename_i q; rw [q, hF]
   rfl
  have e2 : c' = c := by simpa using hc
  rw [e1, e2]
  exact h.fr (B := []) (Fr.of_below hB) (by simp) (by simp)
 | some x =>
  obtain ⟨f, t, d⟩ := x
  refine (close_some h k hk f t d hF).mono ?_
  rintro e w' ⟨rfl, hT, hf⟩
  exact ⟨rfl, fun c' hc => hT c' hc, hf⟩
theorem open_any {w : World} {p b n c : Nat} {last : Int} {F : Int → Option X} (h : Tb w p b last n F c) (h0 : 0 ≤ last) (h1 : last < 1000000) (hn : n < 1000000) (hF : F (last + 1) = none) (f t : ByteArray) :
  Calls Try.prog 15 #[.pointer (some ⟨p, 0, none⟩), .agg #[.string f, .string t]] w fun e w' => e = .returned (.tuple #[.int .i64 (if rrB f t = true then last + 1 else 0), .int .i64 (if rrB f t = true then 0 else 7)]) ∧
   (if rrB f t = true then Tb w' p b (last + 1) (n + 1) (upd F (last + 1) (some (f, t, false))) (c + 1) else Tb w' p b last n F c) ∧ Fr [p, b] w w' := by
 cases hr : rrB f t with
 | true =>
  refine (open_yes h h0 h1 hn f t hr (c' := c + 1) (show _ = _ by rw [hF]; rfl)).mono ?_
  rintro e w' ⟨rfl, hT, hf⟩
  exact ⟨rfl, hT, hf⟩
 | false =>
  refine (open_no (p := p) f t hr).mono ?_
  rintro e w' ⟨rfl, hB⟩
  exact ⟨rfl, h.fr (B := []) (Fr.of_below hB) (by simp) (by simp), Fr.of_below hB⟩
end Go.Proofs.Ytljnlnbopohghaa.Cur
end
