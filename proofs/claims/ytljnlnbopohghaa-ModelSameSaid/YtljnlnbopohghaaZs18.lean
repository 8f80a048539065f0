/- Texts of one claim (laid by shake.py). -/
import Derived.Test.YtljnlnbopohghaaZs12
import Derived.Test.YtljnlnbopohghaaZs17
import Derived.Test.YtljnlnbopohghaaZs4
import Derived.Test.YtljnlnbopohghaaZs7
import Derived.Test.YtljnlnbopohghaaZs15
import Derived.Test.YtljnlnbopohghaaZs16
import Derived.Test.YtljnlnbopohghaaZs10
import Derived.Test.YtljnlnbopohghaaZs2
set_option linter.unusedVariables false
set_option linter.unusedSimpArgs false
section
namespace Go.Proofs.Ytljnlnbopohghaa.P
open Go.RowKit Go.Proofs.YtljnlnbopohghaaW.PrintWords Go.Proofs.YtljnlnbopohghaaW.PrintLast Go.Proofs.YtljnlnbopohghaaW.PrintMore Go.Proofs.Ytljnlnbopohghaa.Own Go.Proofs.Ytljnlnbopohghaa
abbrev Ms := S117
abbrev En := S103
theorem drop_any {α : Type} {L l : List α} {i : Nat} {x : α} (hd : L.drop i = x :: l) : i < L.length ∧ L[i]? = some x ∧ L.drop (i + 1) = l ∧ L.take (i + 1) = L.take i ++ [x] ∧ x ∈ L := by
 have hlt : i < L.length := by
  rcases Nat.lt_or_ge i L.length with h | h
  ·exact h
  ·rw [List.drop_eq_nil_of_le h] at hd; cases hd
 have hx : L[i]? = some x := by
  have := congrArg (fun z => z[0]?) hd
  simpa using this
 refine ⟨hlt, hx, ?_, ?_, List.mem_of_getElem? hx⟩
 ·have := congrArg (List.drop 1) hd
  simpa [List.drop_drop] using this
 ·rw [List.take_add_one, hx]; rfl
theorem drop_none {α : Type} {L : List α} {i : Nat} (hd : L.drop i = []) (hi : i ≤ L.length) : i = L.length := by
 have := congrArg List.length hd
 simp at this
 omega
theorem rdE_at {L : List En} {i : Nat} {x : En} (h : L[i]? = some x) : rd_T103 L (i : Int) = x := by
 show L.getD ((i : Int).toNat) _ = x
 rw [Int.toNat_natCast, List.getD_eq_getElem?_getD, h]; rfl
theorem wrap1 {i : Nat} (h : i ≤ 1000000) : wrap64 ((i : Int) + 1) = ((i + 1 : Nat) : Int) := by rw [IntWalk.wrap64_in _ (by omega)]; omega
def sameE : List En → List En → Bool
 | [], [] => true
 | x :: a, y :: b => same x.f0 y.f0 && same x.f1 y.f1 && sameE a b
 | _, _ => false
theorem sameE_iff : ∀ {a b : List En}, sameE a b = true ↔ a = b
 | [], [] => by simp [sameE]
 | [], _ :: _ => by simp [sameE]
 | _ :: _, [] => by simp [sameE]
 | x :: a, y :: b => by
  simp only [sameE, Bool.and_eq_true, same_iff, sameE_iff, List.cons.injEq]
  constructor
  ·rintro ⟨⟨h1, h2⟩, h3⟩
   exact ⟨by cases x; cases y; simp_all, h3⟩
  ·rintro ⟨rfl, rfl⟩
   exact ⟨⟨rfl, rfl⟩, rfl⟩
theorem sameE_len : ∀ {a b : List En}, a.length ≠ b.length → sameE a b = false
 | [], [], h => by simp at h
 | [], _ :: _, _ => rfl
 | _ :: _, [], _ => rfl
 | x :: a, y :: b, h => by
  simp only [sameE]
  rw [sameE_len (by simpa using h)]
  simp
end Go.Proofs.Ytljnlnbopohghaa.P
end
section
namespace Go.Proofs.Ytljnlnbopohghaa.P
open Go.RowKit Go.Proofs.YtljnlnbopohghaaW.PrintWords Go.Proofs.YtljnlnbopohghaaW.PrintLast Go.Proofs.YtljnlnbopohghaaW.PrintMore Go.Proofs.Ytljnlnbopohghaa.Own Go.Proofs.Ytljnlnbopohghaa
def tidy (p : ByteArray × Bool) : Prop := p.2 = false → p.1 = e0
end Go.Proofs.Ytljnlnbopohghaa.P
end
section
namespace Go.Proofs.Ytljnlnbopohghaa.Mdl
open Go.RowKit Go.Shelf Go.Proofs.YtljnlnbopohghaaW.PrintWords Go.Proofs.YtljnlnbopohghaaW.PrintLast Go.Proofs.YtljnlnbopohghaaW.PrintMore Go.Proofs.Ytljnlnbopohghaa.Own Go.Proofs.Ytljnlnbopohghaa.Ord Go.Proofs.Ytljnlnbopohghaa Go.Proofs.Ytljnlnbopohghaa.P
open Go.Proofs.Ytljnlnbopohghaa.OrdSm (Hold hold_len)
set_option maxHeartbeats 2000000
set_option maxRecDepth 100000
abbrev Cu := S97
def curX (c : Cu) : Cur.X := (c.f0.f0, c.f0.f1, c.f1)
def tabF (cs : List Cu) (k : Int) : Option Cur.X := if 1 ≤ k then (match cs[(k - 1).toNat]? with
 | some c => if c.f2 = true then none else some (curX c)
 | none => none) else none
def cntV (cs : List Cu) : Nat := (cs.filter (fun c => !c.f2)).length
theorem tabF_nil : tabF [] = fun _ => none := by
 funext k
 simp [tabF]
theorem Tb_eq {w w' : World} {p b n c : Nat} {last : Int} {F : Int → Option Cur.X} (h : Cur.Tb w p b last n F c) (e1 : w'.heap[p]? = w.heap[p]?) (e2 : w'.heap[b]? = w.heap[b]?) : Cur.Tb w' p b last n F c := by
 obtain ⟨hb, D, ⟨es, clock, h1, r⟩, h2⟩ := h
 exact ⟨e1.trans hb, D, ⟨es, clock, e2.trans h1, r⟩, h2⟩
theorem Tb_lt {w : World} {p b n c : Nat} {last : Int} {F : Int → Option Cur.X} (h : Cur.Tb w p b last n F c) : p < w.heap.size ∧ b < w.heap.size := ⟨blk_lt h.blk, h.map.lt⟩
structure Mx (G : Nat → Nat) (w : World) (m : Nat) (c : Cf) (n sends : Int) (L : Row) (T : Int → List Cu) (N em cb nn : Nat) (F : Int → Option Nat) (B : Int → Nat) : Prop where
 hm : w.heap[m]? = some (objM c n em cb sends)
 gm : G m = 1
 hH : Hold (fun k => G k = 3) w em L
 hT : TP w cb nn F
 gc : G cb = 2
 hn : nn ≤ N
 non : ∀ who, F who = none → T who = []
 tab : ∀ who p, F who = some p → 1 ≤ who ∧ G p = 4 + 2 * who.toNat ∧ G (B who) = 5 + 2 * who.toNat ∧ ∃ k, k ≤ N ∧ Cur.Tb w p (B who) (T who).length k (tabF (T who)) (cntV (T who))
def Mw (G : Nat → Nat) (w : World) (m : Nat) (c : Cf) (n sends : Int) (L : Row) (T : Int → List Cu) (N : Nat) : Prop :=
 (∀ k, G k ≠ 0 → k < w.heap.size) ∧ ∃ em cb nn F B, Mx G w m c n sends L T N em cb nn F B
theorem Mx.frm {G : Nat → Nat} {w w' : World} {m : Nat} {c : Cf} {n sends : Int} {L : Row} {T : Int → List Cu} {N em cb nn : Nat} {F : Int → Option Nat} {B : Int → Nat} (h : Mx G w m c n sends L T N em cb nn F B) (f : It.FrM (fun k => G k = 0) w w') : Mx G w' m c n sends L T N em cb nn F B := by
 refine ⟨f.blk h.hm (by rw [h.gm]; decide), h.gm, h.hH.frm f (fun k hk _ e => by rw [hk] at e; cases e), h.hT.fr (f.block cb h.hT.lt (by rw [h.gc]; decide)), h.gc, h.hn, h.non, fun who p hF => ?_⟩
 obtain ⟨h1, h2, h3, k, hk, hb⟩ := h.tab who p hF
 obtain ⟨l1, l2⟩ := Tb_lt hb
 exact ⟨h1, h2, h3, k, hk, Tb_eq hb (f.block p l1 (by rw [h2]; omega)) (f.block _ l2 (by rw [h3]; omega))⟩
theorem Mx.mono {G : Nat → Nat} {w : World} {m : Nat} {c : Cf} {n sends : Int} {L : Row} {T : Int → List Cu} {N N' em cb nn : Nat} {F : Int → Option Nat} {B : Int → Nat} (h : Mx G w m c n sends L T N em cb nn F B) (hN : N ≤ N') : Mx G w m c n sends L T N' em cb nn F B :=
 ⟨h.hm, h.gm, h.hH, h.hT, h.gc, Nat.le_trans h.hn hN, h.non, fun who p hF => by
  obtain ⟨h1, h2, h3, k, hk, hb⟩ := h.tab who p hF
  exact ⟨h1, h2, h3, k, Nat.le_trans hk hN, hb⟩⟩
theorem Mw.mono {G : Nat → Nat} {w : World} {m : Nat} {c : Cf} {n sends : Int} {L : Row} {T : Int → List Cu} {N N' : Nat} (h : Mw G w m c n sends L T N) (hN : N ≤ N') : Mw G w m c n sends L T N' := by
 obtain ⟨h1, em, cb, nn, F, B, hx⟩ := h
 exact ⟨h1, em, cb, nn, F, B, hx.mono hN⟩
theorem Mw.frm {G : Nat → Nat} {w w' : World} {m : Nat} {c : Cf} {n sends : Int} {L : Row} {T : Int → List Cu} {N : Nat} (h : Mw G w m c n sends L T N) (f : It.FrM (fun k => G k = 0) w w') : Mw G w' m c n sends L T N := by
 obtain ⟨h1, em, cb, nn, F, B, hx⟩ := h
 exact ⟨fun k hk => Nat.lt_of_lt_of_le (h1 k hk) f.size, em, cb, nn, F, B, hx.frm f⟩
theorem Mw.below {G : Nat → Nat} {w w' : World} {m : Nat} {c : Cf} {n sends : Int} {L : Row} {T : Int → List Cu} {N : Nat} (h : Mw G w m c n sends L T N) (f : Below w.heap.size w w') : Mw G w' m c n sends L T N := h.frm (.of_below f)
def Mo (G : Nat → Nat) (w : World) (Q : (Nat → Nat) → World → Prop) (w' : World) : Prop := ∃ G', (∀ k, k < w.heap.size → G' k = G k) ∧ Q G' w' ∧ It.FrM (fun k => G k ≠ 0) w w'
theorem Mo.same {G : Nat → Nat} {w w' : World} {Q : (Nat → Nat) → World → Prop} (h : Q G w') (f : Below w.heap.size w w') : Mo G w Q w' := ⟨G, fun _ _ => rfl, h, .of_below f⟩
theorem Mo.trans {G : Nat → Nat} {w w1 w2 : World} {Q : (Nat → Nat) → World → Prop} {G1 : Nat → Nat} (e : ∀ k, k < w.heap.size → G1 k = G k) (f : It.FrM (fun k => G k ≠ 0) w w1) (h : Mo G1 w1 Q w2) : Mo G w Q w2 := by
 obtain ⟨G2, e2, q, f2⟩ := h
 refine ⟨G2, fun k hk => (e2 k (Nat.lt_of_lt_of_le hk f.size)).trans (e k hk), q, f.trans f2 (fun i hi => ?_)⟩
 rcases Nat.lt_or_ge i w.heap.size with q | q
 ·rw [e i q] at hi; exact .inl hi
 ·exact .inr q
section
variable {G : Nat → Nat} {w : World} {m : Nat} {c : Cf} {n sends : Int} {L : Row} {T : Int → List Cu} {N : Nat}
theorem sends_any (h : Mw G w m c n sends L T N) : Calls Try.prog 26 #[.pointer (some ⟨m, 0, none⟩)] w fun e w' => e = .returned (.int .i64 sends) ∧ w' = w := by
 have hum := Try.underlying122
 obtain ⟨_, em, cb, nn, F, B, hx⟩ := h
 have z0 := blk_cell hx.hm 12
 simp at z0
 clear hx
 go_enter Try.func26, Try.ntmps26
 go_wp2
 go_ret
 exact ⟨rfl, rfl⟩
end
end Go.Proofs.Ytljnlnbopohghaa.Mdl
end
section
namespace Go.Proofs.Ytljnlnbopohghaa.Mdl
open Go.RowKit Go.Shelf Go.Proofs.YtljnlnbopohghaaW.PrintWords Go.Proofs.YtljnlnbopohghaaW.PrintLast Go.Proofs.YtljnlnbopohghaaW.PrintMore Go.Proofs.Ytljnlnbopohghaa.Own Go.Proofs.Ytljnlnbopohghaa.Ord Go.Proofs.Ytljnlnbopohghaa Go.Proofs.Ytljnlnbopohghaa.P
open List renaming setIfInBounds_toArray → sA1, set_cons_zero → sA2, set_cons_succ → sA3, getElem_toArray → sA4, getElem_cons_zero → sA5, getElem_cons_succ → sA6
open Go.Proofs.Ytljnlnbopohghaa.OrdSm (Hold hold_len)
set_option maxHeartbeats 2000000
set_option maxRecDepth 100000
theorem new_ex (w : World) : Calls Try.prog 10 #[] w fun e w' => ∃ p b, e = .returned (.pointer (some ⟨p, 0, none⟩)) ∧ w.heap.size ≤ p ∧ w.heap.size ≤ b ∧ p ≠ b ∧ Cur.Tb w' p b 0 0 (fun _ => none) 0 ∧ Below w.heap.size w w' :=
 (Cur.new_any w).mono (by rintro e w' ⟨rfl, hT, hb⟩; exact ⟨_, _, rfl, by omega, by omega, by omega, hT, hb⟩)
theorem storeP_run {w : World} {b n : Nat} {F : Int → Option Nat} (hT : TP w b n F) (hn : n < 1000000) (k : Int) (hk : (Lit.int .i64 k).wf = true) (y : Nat) :
  ∃ w', (Instr.mapUpdate 120 (.map (some b)) (.int .i64 k) (.pointer (some ⟨y, 0, none⟩))).run Try.prog w = .ok () w' ∧ TP w' b (n + 1) (updP F k (some y)) ∧ Fr [b] w w' := by
 obtain ⟨D, h1, h2⟩ := hT
 obtain ⟨w', r0, r1, r2⟩ := h1.store Cur.law Try.underlying120 (by unfold maxLen; omega) (Cur.wf_key hk) (ptrR_mk (some y))
 exact ⟨w', r0, ⟨_, r1, h2.put h1.isMap k y⟩, Cur.Fr.of_turned r2⟩
def Mt (m : Nat) (c : Cf) (n sends : Int) (L : Row) (T : Int → List Cu) (N em cb : Nat) (who : Int) (p : Nat) (G : Nat → Nat) (w : World) : Prop := (∀ k, G k ≠ 0 → k < w.heap.size) ∧ ∃ nn F B, Mx G w m c n sends L T N em cb nn F B ∧ F who = some p
theorem tabT2 : rtab .any (opsOf Try.f58 2) = rtab .any (opsOf Try.f58 2) := rfl
theorem table_any {G : Nat → Nat} {w : World} {m : Nat} {c : Cf} {n sends : Int} {L : Row} {T : Int → List Cu} {N em cb nn : Nat} {F : Int → Option Nat} {B : Int → Nat} (hlt : ∀ k, G k ≠ 0 → k < w.heap.size) (h : Mx G w m c n sends L T N em cb nn F B) (who : Int) (h1 : 1 ≤ who) (h2 : who ≤ 1000000) (hN : N < 1000000) :
  Calls Try.prog 58 #[.pointer (some ⟨m, 0, none⟩), .int .i64 who] w fun e w' => ∃ p, e = .returned (.pointer (some ⟨p, 0, none⟩)) ∧ Mo G w (Mt m c n sends L T (N + 1) em cb who p) w' := by
 have hum := Try.underlying122
 have hw := Cur.wf_small (k := who) (by omega) (by omega)
 have z0 := blk_cell h.hm 11
 simp at z0
 have hT := h.hT
 have hnn := h.hn
 cases hF : F who with
 | some p =>
  have hFA := Aside0.mk hF
  have hA := Aside0.mk h
  clear h hF
  go_enter Try.func58, Try.ntmps58
  go_wp2_with (refine lookP _ rfl _ _ rfl cb nn F rfl hT who rfl hw (some p) hFA.out ?_; simp only [ptrV])
  go_ret
  exact ⟨p, rfl, Mo.same ⟨hlt, nn, F, B, hA.out.mono (by omega), hFA.out⟩ (Below.refl _ _)⟩
 | none =>
  have hFA := Aside0.mk hF
  have hA := Aside0.mk h
  have hm2 : w.drew.heap[m]? = some (objM c n em cb sends) := h.hm
  have hTd : TP w.drew cb nn F := hT
  have z2 : w.drew.cell? ⟨m, 11, none⟩ = some (.map (some cb)) := z0
  have NW := new_ex w.drew
  clear h hF
  go_enter Try.func58, Try.ntmps58
  go_wp2_with (refine lookP _ rfl _ _ rfl cb nn F rfl hT who rfl hw none hFA.out ?_; simp only [ptrV])
  refine start_ (n := 7) (S := fun w' : World => w'.cell? ⟨m, 11, none⟩ = some (.map (some cb))) (ds := [6]) #[false, false, false, false, false, false, false] (by kernel_rfl) rfl rfl z2 (fun hHeld => ?_)
  have HT_ := Aside0.mk tabT2
  refine pU_ 0 12 #[true, false, false, false, false, false, false] ?_
  refine pU_ 1 13 #[true, true, false, false, false, false, false] ?_
  refine pU_ 2 14 #[true, true, true, false, false, false, false] ?_
  refine take_ (i := 3) (N := some 15) (v := ?_) (a' := ?_) #[true, true, true, true, false, false, false] rfl rfl (take_of HT_.out (by kernel_rfl)) (fun _ _ _ h => h) (Or.inl ⟨by rfl, ?_⟩) hHeld ?_ ?_
  rotate_left
  ·rintro w' s0
   go_simp
   with_reducible rfl
  rotate_left
  ·simp only [Act.put, sA1, sA2, sA3, i64_w, i32_w]
   rfl
  refine pU_ 4 16 #[true, true, true, true, true, false, false] ?_
  refine one_ (i := 5) (N := some 17) #[true, true, true, true, true, true, false] rfl rfl (one_of HT_.out (by kernel_rfl)) (by decide) (fun K hK => ?_)
  refine goes_ Try.func10 (by kernel_rfl) rfl #[] (by rfl) rfl rfl (by (try simp only [List.map_toArray, List.map_cons, List.map_nil]); first | done | rfl) ?_
  refine (NW).mono ?_
  rintro e w3 ⟨p, b, rfl, hp, hb, hpb, hTb, hB3⟩
  refine ⟨_, rfl, ?_⟩
  have hm3 := blk_below hm2 hB3
  have z3 := blk_cell hm3 11
  simp at z3
  refine hK.out _ _ z3 (fun hHeld => ?_)
  clear hK K
  refine norm_ (a' := ?_) ?_ ?_
  rotate_left
  ·show Act.put _ (some 17) _ = _
   simp only [Act.put, sA1, sA2, sA3, i64_w, i32_w]
   rfl
  obtain ⟨w5, hrun, hT5, f5⟩ := storeP_run (hTd.fr (hB3.block cb (by simpa using hT.lt))) (by omega : nn < 1000000) who hw p
  refine last_ (i := 6) (N := none) #[true, true, true, true, true, true, true] rfl rfl (one_of HT_.out (by kernel_rfl)) (by decide) (fun K hK => ?_)
  refine skip_ (w1 := w5) (by rfl) rfl ?_ ?_
  ·first | (go_simp; done) | (go_simp; rfl) | (simp [execOp, Act.eval, hrun, Result.andThen]; done)
  refine hK.out _ _ ?_
  clear hK K
  refine done_ (done_of HT_.out (by kernel_rfl)) ?_
  have hbd := hB3.size
  have hpb' : w.heap.size ≤ p ∧ w.heap.size ≤ b := ⟨hp, hb⟩
  have hsz3 : w.heap.size ≤ w3.heap.size := hbd
  have g5 := f5.blk hm3 (by
   have h1 := hA.out.gm
   have h2 := hA.out.gc
   intro e
   rw [List.mem_singleton.1 e, h2] at h1
   cases h1)
  have z5 := blk_cell g5 11
  simp at z5
  have hF5 : Aside0 (updP F who (some p) who = some p) := ⟨updP_same _ _ _⟩
  have hB3A := Aside0.mk (And.intro hB3 (And.intro f5 (And.intro hTb hT5)))
  clear hB3 f5 hTb hm3 z3 hHeld hrun hTd z2 z0 hm2
  go_wp2_with (refine lookP _ rfl _ _ rfl cb (nn + 1) (updP F who (some p)) rfl hT5 who rfl hw (some p) hF5.out ?_; simp only [ptrV])
  go_ret
  obtain ⟨hB3, f5, hTb, hT5⟩ := hB3A.out
  have h := hA.out
  have hml := blk_lt h.hm
  have hcl := h.hT.lt
  have fr : It.FrM (fun k => k = cb) w w5 := ⟨f5.os.trans hB3.os, f5.tape.trans hB3.tape, f5.output.trans hB3.output, Nat.le_trans hB3.size f5.size, fun k hk hn => (f5.block k (Nat.lt_of_lt_of_le hk hB3.size) (by simpa using hn)).trans (hB3.block k hk)⟩
  have hTn := h.non who hFA.out
  have new : ∀ k, w.heap.size ≤ k → k < w3.heap.size → w5.heap[k]? = w3.heap[k]? := fun k h1 h2 => f5.block k h2 (by simp; omega)
  obtain ⟨lp, lb⟩ := Tb_lt hTb
  refine ⟨p, rfl, fun k => if k = p then 4 + 2 * who.toNat else if k = b then 5 + 2 * who.toNat else G k, fun k hk => ?_, ⟨fun k hk => ?_, nn + 1, updP F who (some p), fun v => if v = who then b else B v, ?_, updP_same _ _ _⟩, fr.mono (fun i hi => .inl (by rw [hi, h.gc]; decide))⟩
  ·show (if k = p then _ else if k = b then _ else G k) = G k
   rw [if_neg (by omega), if_neg (by omega)]
  ·have hs5 := f5.size
   by_cases e1 : k = p
   ·omega
   ·by_cases e2 : k = b
    ·omega
    ·simp only [if_neg e1, if_neg e2] at hk
     have := hlt k hk
     omega
  ·refine ⟨fr.blk h.hm (fun e => ?_), ?_, ?_, hT5, ?_, by have := h.hn; omega, fun v hv => ?_, fun v q hq => ?_⟩
   ·have h1 := h.gm; rw [e, h.gc] at h1; cases h1
   ·show (if m = p then _ else if m = b then _ else G m) = 1
    rw [if_neg (by omega), if_neg (by omega)]; exact h.gm
   ·refine ((h.hH.bound).frm fr (fun k hk _ e => ?_)).mono (fun k hk => ?_)
    ·have h1 := hk.1; rw [e, h.gc] at h1; cases h1
    ·show (if k = p then _ else if k = b then _ else G k) = 3
     rw [if_neg (by have := hk.2; omega), if_neg (by have := hk.2; omega)]; exact hk.1
   ·show (if cb = p then _ else if cb = b then _ else G cb) = 2
    rw [if_neg (by omega), if_neg (by omega)]; exact h.gc
   ·by_cases e : v = who
    ·subst e; exact hTn
    ·rw [updP_other _ e] at hv; exact h.non v hv
   ·by_cases e : v = who
    ·subst e
     rw [updP_same] at hq
     cases hq
     refine ⟨h1, ?_, ?_, 0, by omega, ?_⟩
     ·show (if p = p then _ else _) = _
      rw [if_pos rfl]
     ·show (if (if v = v then b else B v) = p then _ else if (if v = v then b else B v) = b then _ else _) = _
      rw [if_pos rfl, if_neg (fun e => hpb e.symm), if_pos rfl]
     ·rw [hTn, tabF_nil]
      show Cur.Tb w5 p (if v = v then b else B v) 0 0 _ 0
      rw [if_pos rfl]
      exact Tb_eq hTb (new p hpb'.1 lp) (new b hpb'.2 lb)
    ·rw [updP_other _ e] at hq
     obtain ⟨h1', h2', h3', k, hk, hb'⟩ := h.tab v q hq
     obtain ⟨l1, l2⟩ := Tb_lt hb'
     have n1 : q ≠ cb := fun e => by rw [e, h.gc] at h2'; omega
     have n2 : B v ≠ cb := fun e => by rw [e, h.gc] at h3'; omega
     refine ⟨h1', ?_, ?_, k, by omega, ?_⟩
     ·show (if q = p then _ else if q = b then _ else G q) = _
      rw [if_neg (by omega), if_neg (by omega)]; exact h2'
     ·show (if (if v = who then b else B v) = p then _ else if (if v = who then b else B v) = b then _ else G (if v = who then b else B v)) = _
      rw [if_neg e, if_neg (by omega), if_neg (by omega)]; exact h3'
     ·show Cur.Tb w5 q (if v = who then b else B v) _ _ _ _
      rw [if_neg e]
      exact Tb_eq hb' (fr.block q l1 n1) (fr.block _ l2 n2)
end Go.Proofs.Ytljnlnbopohghaa.Mdl
end
section
namespace Go.Proofs.Ytljnlnbopohghaa.Mdl
open Go.RowKit Go.Shelf Go.Proofs.YtljnlnbopohghaaW.PrintWords Go.Proofs.YtljnlnbopohghaaW.PrintLast Go.Proofs.YtljnlnbopohghaaW.PrintMore Go.Proofs.Ytljnlnbopohghaa.Own Go.Proofs.Ytljnlnbopohghaa.Ord Go.Proofs.Ytljnlnbopohghaa Go.Proofs.Ytljnlnbopohghaa.P
open Go.Proofs.Ytljnlnbopohghaa.OrdSm (Hold hold_len hold_get hold_put hold_drop lin)
set_option maxHeartbeats 2000000
set_option maxRecDepth 100000
theorem at_M {w : World} {A : Option Addr} {n : Nat} {xs : List Ms} (h : Kd.C P.k117 w A n xs) (i : Int) (h0 : 0 ≤ i) (h1 : i < n) : ∃ ad, ∃ x : Ms, A = some ad ∧ xs[i.toNat]? = some x ∧ w.cell? (ad.add (i.toNat * 6)) = some (.int .u8 x.f0) ∧
  w.cell? ⟨(ad.add (i.toNat * 6)).block, (ad.add (i.toNat * 6)).off + 1, none⟩ = some (.int .i64 x.f1) ∧ w.cell? ⟨(ad.add (i.toNat * 6)).block, (ad.add (i.toNat * 6)).off + 2, none⟩ = some (.string x.f2) ∧ w.cell? ⟨(ad.add (i.toNat * 6)).block, (ad.add (i.toNat * 6)).off + 3, none⟩ = some (.string x.f3) ∧
  w.cell? ⟨(ad.add (i.toNat * 6)).block, (ad.add (i.toNat * 6)).off + 4, none⟩ = some (.string x.f4) ∧ w.cell? ⟨(ad.add (i.toNat * 6)).block, (ad.add (i.toNat * 6)).off + 5, none⟩ = some (.int .u64 x.f5) := by
 obtain ⟨ad, c, e, _, hK, hc0⟩ := Kd.C_get h P.z117 i h0 h1
 have hc : ∀ j u, c[j]? = some u → w.cell? (ad.add (i.toNat * 6 + j)) = some u := hc0
 obtain rfl := P.k117_open hK
 have hl := h.1
 refine ⟨ad, _, e, ?_, hc 0 _ rfl, by rw [← add_field _ _ 1 (by omega)]; exact hc 1 _ rfl, by rw [← add_field _ _ 2 (by omega)]; exact hc 2 _ rfl, by rw [← add_field _ _ 3 (by omega)]; exact hc 3 _ rfl, by rw [← add_field _ _ 4 (by omega)]; exact hc 4 _ rfl, by rw [← add_field _ _ 5 (by omega)]; exact hc 5 _ rfl⟩
 rw [List.getD_eq_getElem?_getD, List.getElem?_eq_getElem (by omega)]
 rfl
theorem at_E {w : World} {A : Option Addr} {n : Nat} {xs : List En} (h : Kd.C P.k103 w A n xs) (i : Int) (h0 : 0 ≤ i) (h1 : i < n) : ∃ ad, ∃ x : En, A = some ad ∧ xs[i.toNat]? = some x ∧ w.cell? (ad.add (i.toNat * 2)) = some (.string x.f0) ∧
  w.cell? ⟨(ad.add (i.toNat * 2)).block, (ad.add (i.toNat * 2)).off + 1, none⟩ = some (.string x.f1) := Cur.at_E h i h0 h1
def gotL (L : Row) (s : ByteArray) : ByteArray × Bool := match lookK OrdSm.lt s L with
 | some v => (v, true)
 | none => (ByteArray.empty, false)
def dropsV (ks : List ByteArray) (L : Row) : Row := ks.foldl (fun L k => del OrdSm.lt k L) L
def sendV (L : Row) (m : Ms) : Row :=
 if m.f0 = 4 then dropsV ((L.filter (fun x => holds m.f2 m.f3 x.1)).map (·.1)) L
 else if (applyV m.f0 m.f4 m.f5 (gotL L m.f2).1 (gotL L m.f2).2).2 = true then ins OrdSm.lt m.f2 (applyV m.f0 m.f4 m.f5 (gotL L m.f2).1 (gotL L m.f2).2).1 L else del OrdSm.lt m.f2 L
theorem drops_length : ∀ (ks : List ByteArray) (L : Row), (dropsV ks L).length ≤ L.length
 | [], _ => Nat.le_refl _
 | k :: ks, L => Nat.le_trans (drops_length ks (del OrdSm.lt k L)) (List.length_filter_le _ _)
theorem ins_len' (s v : ByteArray) {L : Row} (h : Rise OrdSm.lt L) : (ins OrdSm.lt s v L).length ≤ L.length + 1 := by
 unfold ins
 rw [List.length_append, List.length_cons]
 have key : ∀ l : Row, (l.filter (fun x => OrdSm.lt x.1 s)).length + (l.filter (fun x => OrdSm.lt s x.1)).length ≤ l.length := fun l => by
  induction l with
  | nil => simp
  | cons x l ih =>
   rw [List.filter_cons, List.filter_cons]
   cases h1 : OrdSm.lt x.1 s with
   | true =>
    have h2 : OrdSm.lt s x.1 = false := lin.asym h1
    simp only [h2, if_true, Bool.false_eq_true, if_false, List.length_cons]
    omega
   | false =>
    simp only [Bool.false_eq_true, if_false]
    split <;> simp only [List.length_cons] <;> omega
 have := key L
 omega
theorem send_length {L : Row} (h : Rise OrdSm.lt L) (m : Ms) : (sendV L m).length ≤ L.length + 1 := by
 unfold sendV
 split
 ·have := drops_length ((L.filter (fun x => holds m.f2 m.f3 x.1)).map (·.1)) L; omega
 ·split
  ·exact ins_len' _ _ h
  ·have := List.length_filter_le (fun x : ByteArray × ByteArray => OrdSm.lt x.1 m.f2 || OrdSm.lt m.f2 x.1) L; unfold del; omega
theorem drops_rise : ∀ (ks : List ByteArray) {L : Row}, Rise OrdSm.lt L → Rise OrdSm.lt (dropsV ks L)
 | [], _, h => h
 | k :: ks, L, h => drops_rise ks (del_rise k h)
theorem send_rise {L : Row} (h : Rise OrdSm.lt L) (m : Ms) : Rise OrdSm.lt (sendV L m) := by
 unfold sendV
 split
 ·exact drops_rise _ h
 ·split
  ·exact ins_rise lin _ _ h
  ·exact del_rise _ h
theorem sends_rise : ∀ (l : List Ms) {L : Row}, Rise OrdSm.lt L → Rise OrdSm.lt (l.foldl sendV L) ∧ (l.foldl sendV L).length ≤ L.length + l.length
 | [], L, h => ⟨h, by simp⟩
 | m :: l, L, h => by
  obtain ⟨a, b⟩ := sends_rise l (send_rise h m)
  have := send_length h m
  exact ⟨a, by simp only [List.foldl_cons, List.length_cons]; omega⟩
theorem Mx.entries {G : Nat → Nat} {w w' : World} {m : Nat} {c : Cf} {n sends sends' : Int} {L L' : Row} {T : Int → List Cu} {N em cb nn : Nat} {F : Int → Option Nat} {B : Int → Nat} (hlt : ∀ k, G k ≠ 0 → k < w.heap.size) (h : Mx G w m c n sends L T N em cb nn F B)
  (hm : w'.heap[m]? = some (objM c n em cb sends')) (hH : Hold (fun k => G k = 3 ∨ w.heap.size ≤ k) w' em L') (f : It.FrM (fun k => G k = 3 ∨ k = m) w w') : Mo G w (fun G' w' => Mw G' w' m c n sends' L' T N) w' := by
 have hs := f.size
 refine ⟨fun k => if k < w.heap.size then G k else if k < w'.heap.size then 3 else 0, fun k hk => if_pos hk, ⟨fun k hk => ?_, em, cb, nn, F, B, hm, ?_, hH.bound.mono (fun k hk => ?_), h.hT.fr (f.block cb h.hT.lt (by
  rintro (e | e)
  ·rw [h.gc] at e; cases e
  ·have := h.gm; rw [← e, h.gc] at this; cases this)), ?_, h.hn, h.non, fun who p hF => ?_⟩, f.mono (fun i hi => ?_)⟩
 ·by_cases h1 : k < w.heap.size
  ·omega
  ·simp only [if_neg h1] at hk
   split at hk
   ·assumption
   ·exact absurd rfl hk
 ·show (if m < w.heap.size then _ else _) = _
  rw [if_pos (blk_lt h.hm)]; exact h.gm
 ·show (if k < w.heap.size then _ else _) = _
  by_cases h1 : k < w.heap.size
  ·rw [if_pos h1]
   rcases hk.1 with q | q
   ·exact q
   ·omega
  ·rw [if_neg h1, if_pos hk.2]
 ·show (if cb < w.heap.size then _ else _) = _
  rw [if_pos h.hT.lt]; exact h.gc
 ·obtain ⟨h1, h2, h3, k, hk, hb⟩ := h.tab who p hF
  obtain ⟨l1, l2⟩ := Tb_lt hb
  refine ⟨h1, ?_, ?_, k, hk, Tb_eq hb (f.block p l1 ?_) (f.block _ l2 ?_)⟩
  ·show (if p < w.heap.size then _ else _) = _
   rw [if_pos l1]; exact h2
  ·show (if B who < w.heap.size then _ else _) = _
   rw [if_pos l2]; exact h3
  ·rintro (e | e)
   ·omega
   ·have := h.gm; rw [← e] at this; omega
  ·rintro (e | e)
   ·omega
   ·have := h.gm; rw [← e] at this; omega
 ·left
  rcases hi with e | e
  ·rw [e]; decide
  ·rw [e, h.gm]; decide
theorem upd_ok {G : Nat → Nat} {w w6 w' : World} {m em D : Nat} {o : Obj} {cs : Array Value} {t : TypeId} {L' : Row} (hlt : ∀ k, G k ≠ 0 → k < w.heap.size) (hxm : G m = 1) (hm : w6.heap[m]? = some o) (hf : It.FrM (fun k => G k = 3 ∨ k = m) w w6) (hbx : w6.heap[D]? = some (.cells cs t (0, 0))) (hD : w.heap.size ≤ D)
  (hH : Hold (fun k => ((G k = 3 ∨ w.heap.size ≤ k) ∧ k < D) ∨ w6.heap.size ≤ k) w' em L') (hF : It.FrM (fun k => ((G k = 3 ∨ w.heap.size ≤ k) ∧ k < D) ∨ w6.heap.size ≤ k) w6.drew w') :
  w'.heap[m]? = some o ∧ w'.heap[D]? = some (.cells cs t (0, 0)) ∧ Hold (fun k => G k = 3 ∨ w.heap.size ≤ k) w' em L' ∧ It.FrM (fun k => G k = 3 ∨ k = m) w w' := by
 have hsw := hf.size
 have hml : m < w.heap.size := hlt m (by rw [hxm]; decide)
 have hDl := blk_lt hbx
 refine ⟨hF.blk (g := m) (by exact hm) ?_, hF.blk (g := D) (by exact hbx) ?_, hH.mono (fun k hk => ?_), ?_⟩
 ·rintro (⟨e | e, _⟩ | e)
  ·rw [hxm] at e; cases e
  ·omega
  ·omega
 ·rintro (⟨_, e⟩ | e)
  ·omega
  ·omega
 ·rcases hk with ⟨q, _⟩ | q
  ·exact q
  ·exact .inr (by omega)
 ·refine (hf.drewN 1).trans hF (fun i hi => ?_)
  rcases hi with ⟨q | q, _⟩ | q
  ·exact .inl (.inl q)
  ·exact .inr q
  ·exact .inr (by omega)
theorem frm_set (w : World) (m i : Nat) (v : Value) : It.FrM (fun k => k = m) w (w.setCell ⟨m, i, none⟩ v) :=
 ⟨rfl, rfl, rfl, by simp, fun k _ hn => Below.heap_setCell w ⟨m, i, none⟩ v k hn⟩
def Ss (G : Nat → Nat) (w : World) (m : Nat) (c : Cf) (n sends : Int) (em cb : Nat) (L : Row) (i : Nat) (wr : World) (l : List Ms) : Prop :=
 wr.heap[m]? = some (objM c n em cb sends) ∧ Hold (fun k => G k = 3 ∨ w.heap.size ≤ k) wr em ((l.take i).foldl sendV L) ∧ It.FrM (fun k => G k = 3 ∨ k = m) w wr
theorem send_any {G : Nat → Nat} {w : World} {m : Nat} {c : Cf} {n sends : Int} {L : Row} {T : Int → List Cu} {N : Nat} (h : Mw G w m c n sends L T N) (hs0 : 0 ≤ sends) (hs1 : sends < 1000000) (hl : L.length ≤ 500000) {A : Option Addr} {cap : Nat} {l : List Ms} (hC : ∀ W, It.FrM (fun k => G k ≠ 0) w W → Kd.C P.k117 W A l.length l) (hcap : l.length ≤ cap) (hlen : l.length ≤ 100000) (hsz : ∀ x ∈ l, x.f2.size ≤ 140737488351232) :
  Calls Try.prog 57 #[.pointer (some ⟨m, 0, none⟩), .slice A l.length cap] w fun e w' => (∃ v, e = .returned v) ∧ Mo G w (fun G' w' => Mw G' w' m c n (sends + 1) (l.foldl sendV L) T N) w' := by
 have hum := Try.underlying122
 have hux := Try.underlying117
 have hue := Try.underlying103
 obtain ⟨hlt, em, cb, nn, F, B, hx⟩ := h
 have hmax := Kd.C_max (hC w (It.FrM.refl _ _))
 have hml := blk_lt hx.hm
 have z0 := blk_cell hx.hm 12
 have y0 := blk_frozen hx.hm 12
 simp at z0
 have hws : wrap64 (sends + 1) = sends + 1 := IntWalk.wrap64_in _ (by omega)
 have hxA := Aside0.mk hx
 have hCA := Aside0.mk hC
 clear hx hC
 go_enter Try.func57, Try.ntmps57
 go_wp2
 have hS0 : Aside0 (Ss G w m c n (sends + 1) em cb L 0 (w.setCell ⟨m, 12, none⟩ (.int .i64 (sends + 1))) l) := ⟨by
  have hx := hxA.out
  have f : It.FrM (fun k => k = m) w (w.setCell ⟨m, 12, none⟩ (.int .i64 (sends + 1))) := frm_set w m 12 _
  refine ⟨by simpa using blk_set hx.hm 12 (.int .i64 (sends + 1)), (hx.hH.frm f (fun k hk _ e => ?_)).mono (fun k hk => .inl hk), f.mono (fun i hi => .inl (.inr hi))⟩
  have := hx.gm; rw [← e, hk] at this; cases this⟩
 have hxm := hxA.out.gm
 clear z0 y0
 go_loopg [20] l.length (fun g iv wr => ∃ i : Int, iv = .int .i64 i ∧ Aside0 (0 ≤ i ∧ i.toNat + g = l.length) ∧ Aside0 (Ss G w m c n (sends + 1) em cb L i.toNat wr l))
 case atStart => exact ⟨0, rfl, ⟨Int.le_refl _, by simp⟩, hS0⟩
 case round =>
  clear hS0
  obtain ⟨i, rfl, hI, hS⟩ := hrel
  cases gk with
  | zero =>
   have hie : i = (l.length : Int) := by have := hI.out; omega
   have d0 : decide (i < (l.length : Int)) = false := decide_eq_false (by omega)
   have hS1 := hS.out
   rw [show i.toNat = l.length by omega] at hS1
   unfold Ss at hS1
   rw [List.take_length] at hS1
   clear hS hI hie
   go_wp2
   refine bodyPost_end (results_none rfl _ _ _) rfl ?_
   exact ⟨⟨_, rfl⟩, Mx.entries hlt hxA.out hS1.1 hS1.2.1 hS1.2.2⟩
  | succ g =>
   have i0 : 0 ≤ i := hI.out.1
   have i1 : i < (l.length : Int) := by have := hI.out; omega
   obtain ⟨hm, hH, hf⟩ := hS.out
   have hC := hCA.out wr (hf.mono (fun k hk => .inl (by rcases hk with e | e; rw [e]; decide; rw [e, hxm]; decide)))
   obtain ⟨ad, ⟨q0, q1, q2, q3, q4, q5⟩, rfl, hxi, p0, p1, p2, p3, p4, p5⟩ := at_M hC i i0 i1
   have hq2 : q2.size ≤ 140737488351232 := hsz _ (List.mem_of_getElem? hxi)
   simp only at p0 p1 p2 p3 p4 p5
   have d0 := decide_eq_true i1
   have d1 := decide_eq_true i0
   have d2 := eq_true i0
   have d3 := eq_true i1
   have hwi : wrap64 (i + 1) = i + 1 := IntWalk.wrap64_in _ (by omega)
   have hrl := sends_rise (l.take i.toNat) hxA.out.hH.rise
   have htk : Aside0 ((l.take (i + 1).toNat).foldl sendV L = sendV ((l.take i.toNat).foldl sendV L) ⟨q0, q1, q2, q3, q4, q5⟩) := ⟨by
    rw [show (i + 1).toNat = i.toNat + 1 by omega, List.take_add_one, hxi, List.foldl_append]
    rfl⟩
   have hlL : Aside0 (((l.take i.toNat).foldl sendV L).length ≤ 600000) := ⟨by have := hrl.2; rw [List.length_take] at this; omega⟩
   obtain ⟨Lc, hLc⟩ : ∃ Lc, Lc = (l.take i.toNat).foldl sendV L := ⟨_, rfl⟩
   rw [← hLc] at hH htk hlL
   have hrise := Aside0.mk hH.rise
   have hD0 : w.heap.size ≤ wr.heap.size := hf.size
   replace hH := hH.bound
   have hmA := Aside0.mk (And.intro hm (And.intro hH hf))
   have hIA := Aside0.mk (And.intro i0 i1)
   have hw0 : Aside0 (w.heap.size ≤ wr.heap.size) := ⟨hf.size⟩
   have hmW : Aside0 (m < wr.heap.size) := ⟨blk_lt hm⟩
   obtain ⟨⟨sf, st⟩, hsp⟩ : ∃ p, p = span q0 q2 q3 := ⟨_, rfl⟩
   have SP : msg_Span.f q0 q1 q2 q3 q4 q5 = some (sf, st) := (Span_eq _ _ _ _ _ _ hq2).trans (by rw [← hsp])
   have hBx : Below wr.heap.size wr (wr.alloc (.cells #[.int .u8 q0, .int .i64 q1, .string q2, .string q3, .string q4, .int .u64 q5] 117)) := below_alloc (Below.refl _ _) _
   have hbx := Aside0.mk (And.intro hBx (blk_new wr (.cells #[.int .u8 q0, .int .i64 q1, .string q2, .string q3, .string q4, .int .u64 q5] 117)))
   clear hC hm hH hf hrl hLc hxi i0 i1 hS hBx
   by_cases h4 : q0 = 4
   ·subst h4
    have hs2 : (sf, st) = (q2, q3) := hsp.trans (by simp [span, isPt])
    injection hs2 with hs2 hs3
    subst hs2 hs3
    clear hsp
    go_wp2_with (first
     | (go_at_call 87; refine (msg_Span.calls 4 q1 sf st q4 q5 _ _ _ SP).mono ?_; clear SP; rintro r w2 ⟨rfl, hB3⟩; obtain ⟨hBx, bx⟩ := hbx.out; have bx2 := blk_alloc (blk_below bx hB3) (.cells #[.string sf, .string st] 29); have x0 := blk_cell bx2 0; simp at x0; have hB3A := Aside0.mk (And.intro hB3 (And.intro hBx (And.intro bx2 (blk_new w2 (.cells #[.string sf, .string st] 29))))); have hrs : Aside0 (wr.heap.size < w2.heap.size) := ⟨blk_lt (blk_below bx hB3)⟩; clear hB3 bx hBx bx2))
    obtain ⟨hB3, hBx, bx2, br⟩ := hB3A.out
    have hBw : Below wr.heap.size wr (w2.alloc (.cells #[.string sf, .string st] 29)) := below_alloc (below_step hBx hB3) _
    generalize w2.alloc (.cells #[.string sf, .string st] 29) = w3 at bx2 x0 hBw br ⊢
    clear hB3 hBx hB3A
    obtain ⟨hm, hH, hf⟩ := hmA.out
    have hm3 : w3.drew.heap[m]? = some (objM c n em cb (sends + 1)) := by have := blk_below hm hBw; exact this
    have hH3 : Hold (fun k => (G k = 3 ∨ w.heap.size ≤ k) ∧ k < wr.heap.size) w3.drew em Lc := (hH.below hBw).below (below_drew1 (Below.refl _ _))
    have hf3 : It.FrM (fun k => G k = 3 ∨ k = m) w w3.drew := (hf.trans (.of_below (M := fun _ => False) hBw) (fun i hi => hi.elim)).drewN 1
    have hs3 : wr.heap.size ≤ w3.drew.heap.size := hBw.size
    have z0 := blk_cell hm3 10
    have z1 := blk_cell br 0
    have z2 := blk_cell br 1
    simp at z0 z1 z2
    have LN := hold_len hH3
    have SM := some_any hm3 hH3 (by have := hlL.out; omega) sf st (Lc.length : Int)
    have hsm : someM sf st Lc Lc.length = Lc.filter (fun x => holds sf st x.1) := by
     unfold someM
     exact List.take_of_length_le (by have := List.length_filter_le (fun x : ByteArray × ByteArray => holds sf st x.1) Lc; omega)
    rw [hsm] at SM
    have hKl : Aside0 (((Lc.filter (fun x => holds sf st x.1)).map toE).length ≤ 600000) := ⟨by rw [List.length_map]; exact Nat.le_trans (List.length_filter_le _ _) hlL.out⟩
    obtain ⟨Kl, hKe⟩ : ∃ Kl, Kl = (Lc.filter (fun x => holds sf st x.1)).map toE := ⟨_, rfl⟩
    rw [← hKe] at SM hKl
    have hKA := Aside0.mk hKe
    have hA3 := Aside0.mk (And.intro hm3 (And.intro hH3 hf3))
    have hA4 := Aside0.mk (And.intro (show w3.drew.heap[w2.heap.size]? = _ from br) hs3)
    have SM2 := SM.mono (R' := fun e w' => ∃ Ak ck, e = .returned (.slice Ak Kl.length ck) ∧ (w'.cell? ⟨m, 10, none⟩ = some (.pointer (some ⟨em, 0, none⟩)) ∧ w'.cell? ⟨w2.heap.size, 0, none⟩ = some (.string sf) ∧ w'.cell? ⟨w2.heap.size, 1, none⟩ = some (.string st)) ∧ Aside0 (P.k103.R 103 w' w3.drew.heap.size (fun _ => True) (.slice Ak Kl.length ck) Kl ∧ Below w3.drew.heap.size w3.drew w')) (by
     rintro e w' ⟨v, rfl, hR, hb⟩
     obtain ⟨Ak, ck, rfl⟩ := Kd.R_slice hR
     refine ⟨Ak, ck, rfl, ⟨?_, ?_, ?_⟩, ⟨hR, hb⟩⟩
     ·have := blk_cell (blk_below hm3 hb) 10; simpa using this
     ·have := blk_cell (blk_below (show w3.drew.heap[w2.heap.size]? = _ from br) hb) 0; simpa using this
     ·have := blk_cell (blk_below (show w3.drew.heap[w2.heap.size]? = _ from br) hb) 1; simpa using this)
    clear hm hH hf hm3 hH3 hf3 hs3 hmA hbx bx2 br SM hsm hKe hBw
    go_region_held3 (fun w' => w'.cell? ⟨m, 10, none⟩ = some (.pointer (some ⟨em, 0, none⟩)) ∧ w'.cell? ⟨w2.heap.size, 0, none⟩ = some (.string sf) ∧ w'.cell? ⟨w2.heap.size, 1, none⟩ = some (.string st)) (first | exact ⟨by assumption, by assumption, by assumption⟩ | exact ⟨z0, z1, z2⟩)
     (first
      | (go_at_call 54; refine LN.mono ?_; clear LN; rintro r w4 ⟨rfl, hw⟩; obtain rfl := hw.symm)
      | (go_at_call 53; refine SM2.mono ?_; clear SM2; rintro r w4 ⟨Ak, ck, rfl, ⟨y0, y1, y2⟩, hR4⟩))
    go_wp2
    have hK0 : Aside0 (w4.heap[m]? = some (objM c n em cb (sends + 1)) ∧ Hold (fun k => (G k = 3 ∨ w.heap.size ≤ k) ∧ k < wr.heap.size) w4 em (dropsV ((Kl.take (0 : Int).toNat).map (·.f0)) Lc) ∧ It.FrM (fun k => (G k = 3 ∨ w.heap.size ≤ k) ∧ k < wr.heap.size) w4 w4) := ⟨by
     have hb := hR4.out.2
     exact ⟨blk_below hA3.out.1 hb, (hA3.out.2.1).below hb, It.FrM.refl _ _⟩⟩
    have hf4 : Aside0 (It.FrM (fun k => G k = 3 ∨ k = m) w w4 ∧ wr.heap.size ≤ w4.heap.size) := ⟨(hA3.out.2.2).trans (.of_below (M := fun _ => False) hR4.out.2) (fun i hi => hi.elim), Nat.le_trans hA4.out.2 hR4.out.2.size⟩
    have hRA : Aside0 (∀ wv, It.FrM (fun k => (G k = 3 ∨ w.heap.size ≤ k) ∧ k < wr.heap.size) w4 wv → Kd.C P.k103 wv Ak Kl.length Kl) := ⟨fun wv f => by
     have h1 := hA4.out.2
     exact (Kd.R_reads' (Kd.R_step (Kd.R_bound hR4.out.1) (fun k hk hkl => f.block k hkl (by have := hk.2.1; omega)))).2.2⟩
    have hKmax : Kl.length ≤ 9223372036854775807 := by have := hKl.out; omega
    clear y0 y1 y2 z0 z1 z2 x0 hA3 hA4 hR4
    go_loopg [38] Kl.length (fun g2 jv wv => ∃ j : Int, jv = .int .i64 j ∧ Aside0 (0 ≤ j ∧ j.toNat + g2 = Kl.length) ∧ Aside0 (wv.heap[m]? = some (objM c n em cb (sends + 1)) ∧ Hold (fun k => (G k = 3 ∨ w.heap.size ≤ k) ∧ k < wr.heap.size) wv em (dropsV ((Kl.take j.toNat).map (·.f0)) Lc) ∧ It.FrM (fun k => (G k = 3 ∨ w.heap.size ≤ k) ∧ k < wr.heap.size) w4 wv))
    case atStart => exact ⟨0, rfl, ⟨Int.le_refl _, by simp⟩, hK0⟩
    case round =>
     clear hK0
     obtain ⟨j, rfl, hJ, hS2⟩ := hrel
     cases gk with
     | zero =>
      have hje : j = (Kl.length : Int) := by have := hJ.out; omega
      have d0 : decide (j < (Kl.length : Int)) = false := decide_eq_false (by omega)
      have hS3 := hS2.out
      rw [show j.toNat = Kl.length by omega, List.take_length] at hS3
      have hS4 := Aside0.mk hS3
      clear hS2 hS3 hJ hje
      go_wp2
      go_roundg g
      case measure => have := hI.out; clear hwi; omega
      case rel =>
       obtain ⟨s1, s2, s3⟩ := hS4.out
       refine ⟨i + 1, congrArg (Value.int .i64) (by first | rfl | exact hwi), ⟨by have := hIA.out; clear hwi; omega, by have := hI.out; have := hIA.out; clear hwi; omega⟩, ⟨s1, ?_, hf4.out.1.trans s3 (fun k hk => ?_)⟩⟩
       ·rw [htk.out]
        unfold sendV
        rw [if_pos rfl]
        have e : Kl.map (·.f0) = (Lc.filter (fun x => holds sf st x.1)).map (·.1) := by
         rw [hKA.out, List.map_map]
         rfl
        rw [e] at s2
        exact s2.mono (fun k hk => hk.1)
       ·rcases hk.1 with q | q
        ·exact .inl (.inl q)
        ·exact .inr q
     | succ g2 =>
      have j0 : 0 ≤ j := hJ.out.1
      have j1 : j < (Kl.length : Int) := by have := hJ.out; omega
      obtain ⟨s1, s2, s3⟩ := hS2.out
      obtain ⟨ak, ⟨e0', e1'⟩, rfl, hxj, c0, c1⟩ := at_E (hRA.out _ s3) j j0 j1
      simp only at c0 c1
      have b0 := decide_eq_true j1
      have b1 := decide_eq_true j0
      have b2 := eq_true j0
      have b3 := eq_true j1
      have hwj : wrap64 (j + 1) = j + 1 := IntWalk.wrap64_in _ (by have := hKl.out; omega)
      have htj : Aside0 (dropsV ((Kl.take (j + 1).toNat).map (·.f0)) Lc = del OrdSm.lt e0' (dropsV ((Kl.take j.toNat).map (·.f0)) Lc)) := ⟨by
       rw [show (j + 1).toNat = j.toNat + 1 by omega, List.take_add_one, hxj, List.map_append]
       unfold dropsV
       rw [List.foldl_append]
       rfl⟩
      have hll := drops_length ((Kl.take j.toNat).map (·.f0)) Lc
      have hJA := Aside0.mk (And.intro j0 j1)
      obtain ⟨v0, hv0⟩ : ∃ v0 : World, v0 = wr := ⟨_, rfl⟩
      have hBv : Below v0.heap.size v0 (v0.alloc (.cells #[.string e0', .string e1'] 103)) := below_alloc (Below.refl _ _) _
      have bv := blk_new v0 (.cells #[.string e0', .string e1'] 103)
      rw [hv0] at hBv bv
      have s1' : (wr.alloc (.cells #[.string e0', .string e1'] 103)).drew.heap[m]? = some (objM c n em cb (sends + 1)) := by have := blk_below s1 hBv; exact this
      have s2' := (s2.below hBv).below (below_drew1 (Below.refl _ _))
      have bv' : (wr.alloc (.cells #[.string e0', .string e1'] 103)).drew.heap[wr.heap.size]? = some (.cells #[.string e0', .string e1'] 103 (0, 0)) := bv
      have s3' := (s3.trans (.of_below (M := fun _ => False) hBv) (fun i hi => hi.elim)).drewN 1
      have hsz4 : Aside0 (w4.heap.size ≤ wr.heap.size) := ⟨s3.size⟩
      have DR := hold_drop s2' (by have := hlL.out; omega) e0'
      have DR2 := DR.mono (R' := fun e w' => (∃ b, e = .returned (.bool b)) ∧ (w'.cell? ⟨m, 10, none⟩ = some (.pointer (some ⟨em, 0, none⟩)) ∧ w'.cell? ⟨wr.heap.size, 0, none⟩ = some (.string e0')) ∧ Aside0 (w'.heap[m]? = some (objM c n em cb (sends + 1)) ∧ Hold (fun k => (G k = 3 ∨ w.heap.size ≤ k) ∧ k < _) w' em (dropsV ((Kl.take (j + 1).toNat).map (·.f0)) Lc) ∧ It.FrM (fun k => (G k = 3 ∨ w.heap.size ≤ k) ∧ k < _) w4 w')) (by
       rintro e w' ⟨hb, hH7, hF7⟩
       have u1 : w'.heap[m]? = some (objM c n em cb (sends + 1)) := hF7.blk s1' (by
        rintro ⟨e | e, _⟩
        ·rw [hxm] at e; cases e
        ·omega)
       have u2 := hF7.blk bv' (by
        rintro ⟨_, e⟩
        have h1 := hf4.out.2
        have h2 := hsz4.out
        omega)
       refine ⟨hb, ⟨by have := blk_cell u1 10; simpa using this, by have := blk_cell u2 0; simpa using this⟩, ⟨u1, ?_, s3'.trans hF7 (fun k hk => .inl hk)⟩⟩
       rw [htj.out]
       exact hH7)
      have z0 := blk_cell s1' 10
      have z1 := (blk_cell bv' 0).trans (show _ = some (Value.string e0') from rfl)
      simp at z0
      clear s1 s2 s3 s1' s2' s3' bv bv' DR hll hxj hS2 hBv j0 j1 hv0
      go_wp2
      go_region_held3 (fun w' => w'.cell? ⟨m, 10, none⟩ = some (.pointer (some ⟨em, 0, none⟩)) ∧ w'.cell? ⟨wr.heap.size, 0, none⟩ = some (.string e0')) (first | exact ⟨by assumption, by assumption⟩ | exact ⟨z0, z1⟩)
       (first
        | (go_at_call 88; refine DR2.mono ?_; clear DR2; rintro r w7 ⟨⟨b, rfl⟩, ⟨y0, y1⟩, hS7⟩))
      go_wp2
      go_roundg g2
      case measure => have := hJ.out; clear hwj hwi; omega
      case rel => exact ⟨j + 1, congrArg (Value.int .i64) (by first | rfl | exact hwj), ⟨by have := hJA.out; clear hwj hwi; omega, by have := hJ.out; have := hJA.out; clear hwj hwi; omega⟩, hS7⟩
   ·have b4 : (q0 == 4) = false := by simpa using h4
    have h4A := Aside0.mk h4
    clear h4 hsp
    go_wp2_with (first
     | (go_at_call 87; refine (msg_Span.calls q0 q1 q2 q3 q4 q5 _ _ _ SP).mono ?_; clear SP; rintro r w2 ⟨rfl, hB3⟩; obtain ⟨hBx, bx⟩ := hbx.out; have bx2 := blk_alloc (blk_below bx hB3) (.cells #[.string sf, .string st] 29); have x0 := blk_cell bx2 0; simp at x0; have hB3A := Aside0.mk (And.intro hB3 (And.intro hBx bx2)); clear hB3 bx hBx bx2))
    obtain ⟨hB3, hBx, bx2⟩ := hB3A.out
    have hBw : Below wr.heap.size wr (w2.alloc (.cells #[.string sf, .string st] 29)) := below_alloc (below_step hBx hB3) _
    generalize w2.alloc (.cells #[.string sf, .string st] 29) = w3 at bx2 x0 hBw ⊢
    clear hB3 hBx hB3A
    obtain ⟨hm, hH, hf⟩ := hmA.out
    have hm3 := blk_below hm hBw
    have hH3 := hH.below hBw
    have hf3 := Aside0.mk (hf.trans (.of_below (M := fun _ => False) hBw) (fun i hi => hi.elim))
    have z0 := blk_cell hm3 10
    have z1 := blk_cell bx2 2
    simp at z0 z1
    have GT := hold_get (w := w3.drew) (hH3.below (below_drew1 (Below.refl _ _))) q2
    obtain ⟨⟨gv, gi⟩, hgot⟩ : ∃ p, p = gotL Lc q2 := ⟨_, rfl⟩
    have hgv : (lookK OrdSm.lt q2 Lc).getD ByteArray.empty = gv ∧ (lookK OrdSm.lt q2 Lc).isSome = gi := by
     unfold gotL at hgot
     cases hq : lookK OrdSm.lt q2 Lc with
     | none => rw [hq] at hgot; injection hgot with a b; subst a b; exact ⟨rfl, rfl⟩
     | some v => rw [hq] at hgot; injection hgot with a b; subst a b; exact ⟨rfl, rfl⟩
    rw [hgv.1, hgv.2] at GT
    have hgA := Aside0.mk hgot
    have hA3 := Aside0.mk (And.intro hm3 (And.intro hH3 bx2))
    clear hm hH hf hm3 hH3 hgot hgv hmA hbx bx2
    go_region_held3 (fun w' => w'.cell? ⟨m, 10, none⟩ = some (.pointer (some ⟨em, 0, none⟩)) ∧ w'.cell? ⟨wr.heap.size, 2, none⟩ = some (.string q2)) (first | exact ⟨by assumption, by assumption⟩ | exact ⟨z0, z1⟩)
     (first
      | (go_at_call 56; refine GT.mono ?_; clear GT; rintro r w4 ⟨rfl, hw⟩; obtain rfl := hw.symm))
    obtain ⟨⟨av, ai⟩, hap⟩ : ∃ p, p = applyV q0 q4 q5 gv gi := ⟨_, rfl⟩
    have AP : msg_Apply.f (0 + 9) q0 q1 q2 q3 q4 q5 gv gi = some (av, ai) := (Apply_eq _ _ _ _ _ _ _ _ _).trans (by rw [← hap])
    have hapA := Aside0.mk hap
    have bx5 : w3.drew.heap[wr.heap.size]? = some (.cells #[.int .u8 q0, .int .i64 q1, .string q2, .string q3, .string q4, .int .u64 q5] 117 (0, 0)) := hA3.out.2.2
    have hm5 : w3.drew.heap[m]? = some (objM c n em cb (sends + 1)) := hA3.out.1
    have hH5 : Hold (fun k => (G k = 3 ∨ w.heap.size ≤ k) ∧ k < wr.heap.size) w3.drew em Lc := hA3.out.2.1.below (below_drew1 (Below.refl _ _))
    have hf5 : It.FrM (fun k => G k = 3 ∨ k = m) w w3.drew := hf3.out.drewN 1
    have hs5 : wr.heap.size < w3.drew.heap.size := blk_lt bx5
    generalize w3.drew = w5 at bx5 hm5 hH5 hf5 hs5 ⊢
    have x0 := blk_cell bx5 0
    have x1 := blk_cell bx5 1
    have x2 := blk_cell bx5 2
    have x3 := blk_cell bx5 3
    have x4 := blk_cell bx5 4
    have x5 := blk_cell bx5 5
    simp at x0 x1 x2 x3 x4 x5
    have hA5 := Aside0.mk (And.intro hm5 (And.intro hH5 (And.intro hf5 bx5)))
    clear hm5 hH5 hf5 bx5 hA3 hf3 z0 z1 hBw hap
    cases ai with
    | true =>
     go_wp2_with (first
      | (go_at_call 89; refine (msg_Apply.calls _ q0 q1 q2 q3 q4 q5 gv gi av true _ AP).mono ?_; clear AP; rintro r w6 ⟨rfl, hB6⟩))
     obtain ⟨hm5, hH5, hf5, bx5⟩ := hA5.out
     have hm6 := blk_below hm5 hB6
     have bx6 := blk_below bx5 hB6
     have z0 := blk_cell hm6 10
     have z1 := blk_cell bx6 2
     simp at z0 z1
     have PT := hold_put (w := w6.drew) (U := fun k => ((G k = 3 ∨ w.heap.size ≤ k) ∧ k < wr.heap.size) ∨ w6.heap.size ≤ k) (((hH5.below hB6).below (below_drew1 (Below.refl _ _))).mono (fun k hk => .inl hk)) (fun k hk => .inr hk) (by have := hlL.out; omega) q2 av
     have hf6 := hf5.trans (.of_below (M := fun _ => False) hB6) (fun i hi => hi.elim)
     have PT2 := PT.mono (R' := fun e w' => (∃ b, e = .returned (.bool b)) ∧ (w'.cell? ⟨m, 10, none⟩ = some (.pointer (some ⟨em, 0, none⟩)) ∧ w'.cell? ⟨wr.heap.size, 2, none⟩ = some (.string q2)) ∧ Aside0 (Ss G w m c n (sends + 1) em cb L (i + 1).toNat w' l)) (by
      rintro e w' ⟨hb, hH7, hF7⟩
      obtain ⟨u1, u2, u3, u4⟩ := upd_ok hlt hxm hm6 hf6 bx6 hD0 hH7 hF7
      refine ⟨hb, ⟨by have := blk_cell u1 10; simpa using this, by have := blk_cell u2 2; simpa using this⟩, ⟨u1, ?_, u4⟩⟩
      rw [htk.out]
      unfold sendV
      simp only [if_neg h4A.out, ← hgA.out, ← hapA.out, if_true]
      exact u3)
     clear PT hm5 hH5 hf5 bx5 hm6 bx6 hf6 hA5
     go_region_held3 (fun w' => w'.cell? ⟨m, 10, none⟩ = some (.pointer (some ⟨em, 0, none⟩)) ∧ w'.cell? ⟨wr.heap.size, 2, none⟩ = some (.string q2)) (first | exact ⟨by assumption, by assumption⟩ | exact ⟨z0, z1⟩)
      (first
       | (go_at_call 90; refine PT2.mono ?_; clear PT2; rintro r w7 ⟨⟨b, rfl⟩, ⟨y0, y1⟩, hS7⟩))
     go_wp2
     go_roundg g
     case measure => have := hI.out; clear hwi; omega
     case rel => exact ⟨i + 1, congrArg (Value.int .i64) (by first | rfl | exact hwi), ⟨by have := hIA.out; clear hwi; omega, by have := hI.out; have := hIA.out; clear hwi; omega⟩, hS7⟩
    | false =>
     go_wp2_with (first
      | (go_at_call 89; refine (msg_Apply.calls _ q0 q1 q2 q3 q4 q5 gv gi av false _ AP).mono ?_; clear AP; rintro r w6 ⟨rfl, hB6⟩))
     obtain ⟨hm5, hH5, hf5, bx5⟩ := hA5.out
     have hm6 := blk_below hm5 hB6
     have bx6 := blk_below bx5 hB6
     have z0 := blk_cell hm6 10
     have z1 := blk_cell bx6 2
     simp at z0 z1
     have PT := hold_drop (w := w6.drew) (U := fun k => ((G k = 3 ∨ w.heap.size ≤ k) ∧ k < wr.heap.size) ∨ w6.heap.size ≤ k) (((hH5.below hB6).below (below_drew1 (Below.refl _ _))).mono (fun k hk => .inl hk)) (by have := hlL.out; omega) q2
     have hf6 := hf5.trans (.of_below (M := fun _ => False) hB6) (fun i hi => hi.elim)
     have PT2 := PT.mono (R' := fun e w' => (∃ b, e = .returned (.bool b)) ∧ (w'.cell? ⟨m, 10, none⟩ = some (.pointer (some ⟨em, 0, none⟩)) ∧ w'.cell? ⟨wr.heap.size, 2, none⟩ = some (.string q2)) ∧ Aside0 (Ss G w m c n (sends + 1) em cb L (i + 1).toNat w' l)) (by
      rintro e w' ⟨hb, hH7, hF7⟩
      obtain ⟨u1, u2, u3, u4⟩ := upd_ok hlt hxm hm6 hf6 bx6 hD0 hH7 hF7
      refine ⟨hb, ⟨by have := blk_cell u1 10; simpa using this, by have := blk_cell u2 2; simpa using this⟩, ⟨u1, ?_, u4⟩⟩
      rw [htk.out]
      unfold sendV
      simp only [if_neg h4A.out, ← hgA.out, ← hapA.out, Bool.false_eq_true, if_false]
      exact u3)
     clear PT hm5 hH5 hf5 bx5 hm6 bx6 hf6 hA5
     go_region_held3 (fun w' => w'.cell? ⟨m, 10, none⟩ = some (.pointer (some ⟨em, 0, none⟩)) ∧ w'.cell? ⟨wr.heap.size, 2, none⟩ = some (.string q2)) (first | exact ⟨by assumption, by assumption⟩ | exact ⟨z0, z1⟩)
      (first
       | (go_at_call 88; refine PT2.mono ?_; clear PT2; rintro r w7 ⟨⟨b, rfl⟩, ⟨y0, y1⟩, hS7⟩))
     go_wp2
     go_roundg g
     case measure => have := hI.out; clear hwi; omega
     case rel => exact ⟨i + 1, congrArg (Value.int .i64) (by first | rfl | exact hwi), ⟨by have := hIA.out; clear hwi; omega, by have := hI.out; have := hIA.out; clear hwi; omega⟩, hS7⟩
end Go.Proofs.Ytljnlnbopohghaa.Mdl
end
section
namespace Go.Proofs.Ytljnlnbopohghaa.Cur
open Go Go.RowKit Go.Maps Go.Proofs.YtljnlnbopohghaaW.PrintWords Go.Proofs.YtljnlnbopohghaaW.PrintLast Go.Proofs.YtljnlnbopohghaaW.PrintMore Go.Proofs.Ytljnlnbopohghaa.Own Go.Proofs.Ytljnlnbopohghaa.Ord Go.Proofs.Ytljnlnbopohghaa.P
set_option maxHeartbeats 2000000
set_option maxRecDepth 100000
theorem eqA_range (d : Nat) (w : World) (x0 y0 : BA) (x1 y1 : BA) :
  (Op.equalIn (d + 2) 29 (.agg #[.string x0, .string x1]) (.agg #[.string y0, .string y1])).run Try.prog w = .ok (x0.toList == y0.toList && (x1.toList == y1.toList)) w := by
 refine eqA_of Try.underlying29 (by kernel_rfl) ?_
 refine eqf_cons (by rfl) (by go_simp; rfl) (by go_simp; rfl) (by go_simp) ?_
 exact eqf_last (by rfl) (by go_simp; rfl) (by go_simp; rfl) (by go_simp)
theorem C_two {W : World} {g : Nat} {a b c d : ByteArray} (h : W.heap[g]? = some (.cells #[.string a, .string b, .string c, .string d] 103 (0, 0))) : Kd.C P.k103 W (some ⟨g, 0, none⟩) 2 [⟨a, b⟩, ⟨c, d⟩] := by
  refine ⟨rfl, by omega, fun _ => ⟨_, rfl, fun j p hj => ?_⟩⟩
  match j, hj with
  | 0, hj =>
    cases hj
    refine ⟨[.string a, .string b], rfl, ⟨[.string a], [.string b], rfl, rfl, rfl⟩, fun i u hu => ?_⟩
    match i, hu with
    | 0, hu => cases hu; exact blk_cell h 0
    | 1, hu => cases hu; exact blk_cell h 1
    | _ + 2, hu => simp at hu
  | 1, hj =>
    cases hj
    refine ⟨[.string c, .string d], rfl, ⟨[.string c], [.string d], rfl, rfl, rfl⟩, fun i u hu => ?_⟩
    match i, hu with
    | 0, hu => cases hu; exact blk_cell h 2
    | 1, hu => cases hu; exact blk_cell h 3
    | _ + 2, hu => simp at hu
  | _ + 2, hj => simp at hj
attribute [local go_sem high] eqA_range
def bA : ByteArray := ⟨#[97]⟩
theorem rr_az : rrB ⟨#[97]⟩ ⟨#[122]⟩ = true := by simp [rrB, ba_mk]; decide
theorem aft_c : aft ⟨#[99]⟩ = ⟨#[99, 0]⟩ := by rfl
theorem took_live : tookV (some (⟨#[97]⟩, ⟨#[122]⟩, false)) [⟨⟨#[98]⟩, ⟨#[]⟩⟩, ⟨⟨#[99]⟩, ⟨#[]⟩⟩] 2 = (false, 0, some (⟨#[99, 0]⟩, ⟨#[122]⟩, false)) := by
  have h1 : incB [(⟨⟨#[98]⟩, ⟨#[]⟩⟩ : En), ⟨⟨#[99]⟩, ⟨#[]⟩⟩] = true := by simp [incB, ltB, ba_mk]; decide
  have h2 : outside ⟨#[97]⟩ ⟨#[122]⟩ [(⟨⟨#[98]⟩, ⟨#[]⟩⟩ : En), ⟨⟨#[99]⟩, ⟨#[]⟩⟩] = false := by simp [outside, holdsB, rrB, ltB, ba_mk]; decide
  have h3 : rrB (⟨#[99, 0]⟩ : ByteArray) ⟨#[122]⟩ = true := by simp [rrB, ba_mk]; decide
  unfold tookV
  simp [h1, h2, behV, aft_c, h3]
theorem live_took {w : World} {p b : Nat} (h : Tb w p b (0 + 1) (0 + 1) (upd (fun x => none) (0 + 1) (some (⟨#[97]⟩, ⟨#[122]⟩, false))) 1) :
    Calls Try.prog 17 #[.pointer (some ⟨p, 0, none⟩), .int .i64 1, .slice (some ⟨w.heap.size, 0, none⟩) 2 2, .int .i64 2] (w.alloc (.cells #[.string ⟨#[98]⟩, .string ⟨#[]⟩, .string ⟨#[99]⟩, .string ⟨#[]⟩] 103)) fun e w' =>
      e = .returned (.tuple #[.bool false, .int .i64 0]) ∧ Tb w' p b (0 + 1) (0 + 1 + 1) (upd (upd (fun x => none) (0 + 1) (some (⟨#[97]⟩, ⟨#[122]⟩, false))) 1 (some (⟨#[99, 0]⟩, ⟨#[122]⟩, false))) 1 ∧ Fr [b] (w.alloc (.cells #[.string ⟨#[98]⟩, .string ⟨#[]⟩, .string ⟨#[99]⟩, .string ⟨#[]⟩] 103)) w' := by
  have hTk := took_any (h.fr (B := []) ((Fr.refl [] _).alloc (.cells #[.string ⟨#[98]⟩, .string ⟨#[]⟩, .string ⟨#[99]⟩, .string ⟨#[]⟩] 103)) (by simp) (by simp)) 1 (wf_small (by omega) (by omega)) (C_two (blk_new w _)) (cl := 2) (by simp) 2 (by omega) (by intro x hx; simp at hx; rcases hx with rfl | rfl <;> simp [ba_size, ba_mk]) (by simp)
  rw [show upd (fun x => none) (0 + 1) (some (⟨#[97]⟩, ⟨#[122]⟩, false)) (1 : Int) = (some (⟨#[97]⟩, ⟨#[122]⟩, false) : Option X) from rfl, took_live] at hTk
  exact hTk
theorem live_any (w : World) : Calls Try.prog 13 #[] w fun e w' => e = .returned (.bool true) ∧ Below w.heap.size w w' := by
  have hur := Try.underlying29
  have hue := Try.underlying103
  have NW := new_any w
  have hcA : Aside (1 = (if ((fun _ => none : Int → Option X) (0 + 1)).isSome then 0 else 0 + 1)) := rfl
  go_enter Try.func13, Try.ntmps13
  go_wp2_with (first
    | (go_at_call 10; refine NW.mono ?_; clear NW; rintro e w1 ⟨rfl, hT1, hB1⟩; have hO := open_yes hT1 (by omega) (by omega) (by omega) _ _ rr_az hcA; clear hT1)
    | (go_at_call 15; refine hO.mono ?_; clear hO hcA; rintro e w2 ⟨rfl, hT2, f2⟩; have hTk := live_took hT2; have hB2 : Below w.heap.size w (w2.alloc (.cells #[.string ⟨#[98]⟩, .string ⟨#[]⟩, .string ⟨#[99]⟩, .string ⟨#[]⟩] 103)) := below_alloc (((Fr.of_below (B := []) hB1).trans f2 (fun x hx => .inr (by simp at hx; omega))).below (by simp) (Nat.le_refl _)) _; clear hT2 f2 hB1)
    | (go_at_call 17; refine hTk.mono ?_; clear hTk; rintro e w3 ⟨rfl, hT3, f3⟩; have hL := left_some hT3 1 (wf_small (by omega) (by omega)) _ _ _ (upd_same _ _ _); have hB3 : Below w.heap.size w w3 := ((Fr.of_below (B := []) hB2).trans f3 (fun x hx => .inr (by simp at hx; omega))).below (by simp) (Nat.le_refl _); clear f3 hB2)
    | (go_at_call 16; refine hL.mono ?_; clear hL; rintro e w4 ⟨rfl, hB4⟩; have hT4 := (hT3.fr (B := []) (Fr.of_below hB4) (by simp) (by simp)).fr (B := []) ((Fr.refl [] w4).alloc (.cells #[.string ⟨#[99, 0]⟩, .string ⟨#[122]⟩] 29)) (by simp) (by simp); have hN := len_any hT4; have hX := close_none hT4 2 (wf_small (by omega) (by omega)) rfl; have hB5 := below_alloc (below_step hB3 hB4) (.cells #[.string ⟨#[99, 0]⟩, .string ⟨#[122]⟩] 29); clear hT3 hT4 hB4 hB3)
    | (go_at_call 19; refine hN.mono ?_; clear hN; rintro e w5 ⟨rfl, hw⟩; obtain rfl := hw.symm)
    | (go_at_call 18; refine hX.mono ?_; clear hX; rintro e w6 ⟨rfl, hB6⟩))
  go_ret
  exact ⟨rfl, below_step hB5 hB6⟩
end Go.Proofs.Ytljnlnbopohghaa.Cur
end
section
namespace Go.Proofs.Ytljnlnbopohghaa.Cur
open Go Go.RowKit Go.Maps Go.Proofs.YtljnlnbopohghaaW.PrintWords Go.Proofs.YtljnlnbopohghaaW.PrintLast Go.Proofs.YtljnlnbopohghaaW.PrintMore Go.Proofs.Ytljnlnbopohghaa.Own Go.Proofs.Ytljnlnbopohghaa.Ord Go.Proofs.Ytljnlnbopohghaa.P
theorem lt_trans {a b c : ByteArray} (h : ltB a b = true) (k : ltB b c = true) : ltB a c = true := Bo.trans h k
theorem lt_irrefl (a : ByteArray) : ltB a a = false := Bo.irrefl _
end Go.Proofs.Ytljnlnbopohghaa.Cur
end
