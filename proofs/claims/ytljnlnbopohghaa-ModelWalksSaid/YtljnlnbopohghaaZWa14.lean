/- Texts of one claim (laid by shake.py). -/
import Derived.Test.YtljnlnbopohghaaZWa13
import Derived.Test.YtljnlnbopohghaaZWa10
import Derived.Test.YtljnlnbopohghaaZWa3
import Derived.Test.YtljnlnbopohghaaZWa0
set_option linter.unusedVariables false
set_option linter.unusedSimpArgs false
section
namespace Go.Proofs.Ytljnlnbopohghaa.Mdl
open Go.RowKit Go.Shelf Go.Proofs.YtljnlnbopohghaaW.PrintWords Go.Proofs.YtljnlnbopohghaaW.PrintLast Go.Proofs.YtljnlnbopohghaaW.PrintMore Go.Proofs.Ytljnlnbopohghaa.Own Go.Proofs.Ytljnlnbopohghaa.Ord Go.Proofs.Ytljnlnbopohghaa Go.Proofs.Ytljnlnbopohghaa.P
open Go.Proofs.Ytljnlnbopohghaa.OrdSm (Hold hold_len hold_get hold_put hold_drop lin)
set_option maxHeartbeats 2000000
set_option maxRecDepth 100000
theorem at_M {w : World} {A : Option Addr} {n : Nat} {xs : List Ms} (h : Kd.C P.k117 w A n xs) (i : Int) (h0 : 0 ≤ i) (h1 : i < n) : ∃ ad, ∃ x : Ms, A = some ad ∧ xs[i.toNat]? = some x ∧ w.cell? (ad.add (i.toNat * 6)) = some (.int .u8 x.f0) ∧
  w.cell? ⟨(ad.add (i.toNat * 6)).block, (ad.add (i.toNat * 6)).off + 1, none⟩ = some (.int .i64 x.f1) ∧ w.cell? ⟨(ad.add (i.toNat * 6)).block, (ad.add (i.toNat * 6)).off + 2, none⟩ = some (.string x.f2) ∧ w.cell? ⟨(ad.add (i.toNat * 6)).block, (ad.add (i.toNat * 6)).off + 3, none⟩ = some (.string x.f3) ∧
  w.cell? ⟨(ad.add (i.toNat * 6)).block, (ad.add (i.toNat * 6)).off + 4, none⟩ = some (.string x.f4) ∧ w.cell? ⟨(ad.add (i.toNat * 6)).block, (ad.add (i.toNat * 6)).off + 5, none⟩ = some (.int .u64 x.f5) := by
 obtain ⟨ad, c, e, _, hK, hc0⟩ := Kd.C_get h P.z117 i h0 h1
 have hc : ∀ j u, c[j]? = some u → w.cell? (ad.add (i.toNat * 6 + j)) = some u := hc0
 obtain rfl := P.k117_open hK
 have hl := h.1
 refine ⟨ad, _, e, ?_, hc 0 _ rfl, by rw [← add_field _ _ 1 (by omega)]; exact hc 1 _ rfl, by rw [← add_field _ _ 2 (by omega)]; exact hc 2 _ rfl, by rw [← add_field _ _ 3 (by omega)]; exact hc 3 _ rfl, by rw [← add_field _ _ 4 (by omega)]; exact hc 4 _ rfl, by rw [← add_field _ _ 5 (by omega)]; exact hc 5 _ rfl⟩
 rw [List.getD_eq_getElem?_getD, List.getElem?_eq_getElem (by omega)]
 rfl
theorem at_E {w : World} {A : Option Addr} {n : Nat} {xs : List En} (h : Kd.C P.k103 w A n xs) (i : Int) (h0 : 0 ≤ i) (h1 : i < n) : ∃ ad, ∃ x : En, A = some ad ∧ xs[i.toNat]? = some x ∧ w.cell? (ad.add (i.toNat * 2)) = some (.string x.f0) ∧
  w.cell? ⟨(ad.add (i.toNat * 2)).block, (ad.add (i.toNat * 2)).off + 1, none⟩ = some (.string x.f1) := Cur.at_E h i h0 h1
def gotL (L : Row) (s : ByteArray) : ByteArray × Bool := match lookK OrdSm.lt s L with
 | some v => (v, true)
 | none => (ByteArray.empty, false)
def dropsV (ks : List ByteArray) (L : Row) : Row := ks.foldl (fun L k => del OrdSm.lt k L) L
def sendV (L : Row) (m : Ms) : Row :=
 if m.f0 = 4 then dropsV ((L.filter (fun x => holds m.f2 m.f3 x.1)).map (·.1)) L
 else if (applyV m.f0 m.f4 m.f5 (gotL L m.f2).1 (gotL L m.f2).2).2 = true then ins OrdSm.lt m.f2 (applyV m.f0 m.f4 m.f5 (gotL L m.f2).1 (gotL L m.f2).2).1 L else del OrdSm.lt m.f2 L
theorem drops_length : ∀ (ks : List ByteArray) (L : Row), (dropsV ks L).length ≤ L.length
 | [], _ => Nat.le_refl _
 | k :: ks, L => Nat.le_trans (drops_length ks (del OrdSm.lt k L)) (List.length_filter_le _ _)
theorem ins_len' (s v : ByteArray) {L : Row} (h : Rise OrdSm.lt L) : (ins OrdSm.lt s v L).length ≤ L.length + 1 := by
 unfold ins
 rw [List.length_append, List.length_cons]
 have key : ∀ l : Row, (l.filter (fun x => OrdSm.lt x.1 s)).length + (l.filter (fun x => OrdSm.lt s x.1)).length ≤ l.length := fun l => by
  induction l with
  | nil => simp
  | cons x l ih =>
   rw [List.filter_cons, List.filter_cons]
   cases h1 : OrdSm.lt x.1 s with
   | true =>
    have h2 : OrdSm.lt s x.1 = false := lin.asym h1
    simp only [h2, if_true, Bool.false_eq_true, if_false, List.length_cons]
    omega
   | false =>
    simp only [Bool.false_eq_true, if_false]
    split <;> simp only [List.length_cons] <;> omega
 have := key L
 omega
theorem send_length {L : Row} (h : Rise OrdSm.lt L) (m : Ms) : (sendV L m).length ≤ L.length + 1 := by
 unfold sendV
 split
 ·have := drops_length ((L.filter (fun x => holds m.f2 m.f3 x.1)).map (·.1)) L; omega
 split
 ·exact ins_len' _ _ h
 have := List.length_filter_le (fun x : ByteArray × ByteArray => OrdSm.lt x.1 m.f2 || OrdSm.lt m.f2 x.1) L; unfold del; omega
theorem drops_rise : ∀ (ks : List ByteArray) {L : Row}, Rise OrdSm.lt L → Rise OrdSm.lt (dropsV ks L)
 | [], _, h => h
 | k :: ks, L, h => drops_rise ks (del_rise k h)
theorem send_rise {L : Row} (h : Rise OrdSm.lt L) (m : Ms) : Rise OrdSm.lt (sendV L m) := by
 unfold sendV
 split
 ·exact drops_rise _ h
 split
 ·exact ins_rise lin _ _ h
 exact del_rise _ h
theorem sends_rise : ∀ (l : List Ms) {L : Row}, Rise OrdSm.lt L → Rise OrdSm.lt (l.foldl sendV L) ∧ (l.foldl sendV L).length ≤ L.length + l.length
 | [], L, h => ⟨h, by simp⟩
 | m :: l, L, h => by
  obtain ⟨a, b⟩ := sends_rise l (send_rise h m)
  have := send_length h m
  exact ⟨a, by simp only [List.foldl_cons, List.length_cons]; omega⟩
theorem Mx.entries {G : Nat → Nat} {w w' : World} {m : Nat} {c : Cf} {n sends sends' : Int} {L L' : Row} {T : Int → List Cu} {N em cb nn : Nat} {F : Int → Option Nat} {B : Int → Nat} (hlt : ∀ k, G k ≠ 0 → k < w.heap.size) (h : Mx G w m c n sends L T N em cb nn F B)
  (hm : w'.heap[m]? = some (objM c n em cb sends')) (hH : Hold (fun k => G k = 3 ∨ w.heap.size ≤ k) w' em L') (f : It.FrM (fun k => G k = 3 ∨ k = m) w w') : Mo G w (fun G' w' => Mw G' w' m c n sends' L' T N) w' := by
 have hs := f.size
 refine ⟨fun k => if k < w.heap.size then G k else if k < w'.heap.size then 3 else 0, fun k hk => if_pos hk, ⟨fun k hk => ?_, em, cb, nn, F, B, hm, ?_, hH.bound.mono (fun k hk => ?_), h.hT.fr (f.block cb h.hT.lt (by
  rintro (e | e)
  ·rw [h.gc] at e; cases e
  have := h.gm; rw [← e, h.gc] at this; cases this)), ?_, h.hn, h.non, fun who p hF => ?_⟩, f.mono (fun i hi => ?_)⟩
 ·by_cases h1 : k < w.heap.size
  ·omega
  simp only [if_neg h1] at hk
  split at hk
  ·assumption
  exact absurd rfl hk
 ·show (if m < w.heap.size then _ else _) = _
  rw [if_pos (blk_lt h.hm)]; exact h.gm
 ·show (if k < w.heap.size then _ else _) = _
  by_cases h1 : k < w.heap.size
  ·rw [if_pos h1]
   rcases hk.1 with q | q
   ·exact q
   omega
  rw [if_neg h1, if_pos hk.2]
 ·show (if cb < w.heap.size then _ else _) = _
  rw [if_pos h.hT.lt]; exact h.gc
 ·obtain ⟨h1, h2, h3, k, hk, hb⟩ := h.tab who p hF
  obtain ⟨l1, l2⟩ := Tb_lt hb
  refine ⟨h1, ?_, ?_, k, hk, Tb_eq hb (f.block p l1 ?_) (f.block _ l2 ?_)⟩
  ·show (if p < w.heap.size then _ else _) = _
   rw [if_pos l1]; exact h2
  ·show (if B who < w.heap.size then _ else _) = _
   rw [if_pos l2]; exact h3
  ·rintro (e | e)
   ·omega
   have := h.gm; rw [← e] at this; omega
  rintro (e | e)
  ·omega
  have := h.gm; rw [← e] at this; omega
 left
 rcases hi with e | e
 ·rw [e]; decide
 rw [e, h.gm]; decide
theorem upd_ok {G : Nat → Nat} {w w6 w' : World} {m em D : Nat} {o : Obj} {cs : Array Value} {t : TypeId} {L' : Row} (hlt : ∀ k, G k ≠ 0 → k < w.heap.size) (hxm : G m = 1) (hm : w6.heap[m]? = some o) (hf : It.FrM (fun k => G k = 3 ∨ k = m) w w6) (hbx : w6.heap[D]? = some (.cells cs t (0, 0))) (hD : w.heap.size ≤ D)
  (hH : Hold (fun k => ((G k = 3 ∨ w.heap.size ≤ k) ∧ k < D) ∨ w6.heap.size ≤ k) w' em L') (hF : It.FrM (fun k => ((G k = 3 ∨ w.heap.size ≤ k) ∧ k < D) ∨ w6.heap.size ≤ k) w6.drew w') :
  w'.heap[m]? = some o ∧ w'.heap[D]? = some (.cells cs t (0, 0)) ∧ Hold (fun k => G k = 3 ∨ w.heap.size ≤ k) w' em L' ∧ It.FrM (fun k => G k = 3 ∨ k = m) w w' := by
 have hsw := hf.size
 have hml : m < w.heap.size := hlt m (by rw [hxm]; decide)
 have hDl := blk_lt hbx
 refine ⟨hF.blk (g := m) (by exact hm) ?_, hF.blk (g := D) (by exact hbx) ?_, hH.mono (fun k hk => ?_), ?_⟩
 ·rintro (⟨e | e, _⟩ | e)
  ·rw [hxm] at e; cases e
  ·omega
  omega
 ·rintro (⟨_, e⟩ | e)
  ·omega
  omega
 ·rcases hk with ⟨q, _⟩ | q
  ·exact q
  exact .inr (by omega)
 refine (hf.drewN 1).trans hF (fun i hi => ?_)
 rcases hi with ⟨q | q, _⟩ | q
 ·exact .inl (.inl q)
 ·exact .inr q
 exact .inr (by omega)
theorem frm_set (w : World) (m i : Nat) (v : Value) : It.FrM (fun k => k = m) w (w.setCell ⟨m, i, none⟩ v) :=
 ⟨rfl, rfl, rfl, by simp, fun k _ hn => Below.heap_setCell w ⟨m, i, none⟩ v k hn⟩
def Ss (G : Nat → Nat) (w : World) (m : Nat) (c : Cf) (n sends : Int) (em cb : Nat) (L : Row) (i : Nat) (wr : World) (l : List Ms) : Prop :=
 wr.heap[m]? = some (objM c n em cb sends) ∧ Hold (fun k => G k = 3 ∨ w.heap.size ≤ k) wr em ((l.take i).foldl sendV L) ∧ It.FrM (fun k => G k = 3 ∨ k = m) w wr
theorem send_any {G : Nat → Nat} {w : World} {m : Nat} {c : Cf} {n sends : Int} {L : Row} {T : Int → List Cu} {N : Nat} (h : Mw G w m c n sends L T N) (hs0 : 0 ≤ sends) (hs1 : sends < 1000000) (hl : L.length ≤ 500000) {A : Option Addr} {cap : Nat} {l : List Ms} (hC : ∀ W, It.FrM (fun k => G k ≠ 0) w W → Kd.C P.k117 W A l.length l) (hcap : l.length ≤ cap) (hlen : l.length ≤ 100000) (hsz : ∀ x ∈ l, x.f2.size ≤ 140737488351232) :
  Calls Try.prog 57 #[.pointer (some ⟨m, 0, none⟩), .slice A l.length cap] w fun e w' => (∃ v, e = .returned v) ∧ Mo G w (fun G' w' => Mw G' w' m c n (sends + 1) (l.foldl sendV L) T N) w' := by
 have hum := Try.underlying122
 have hux := Try.underlying117
 have hue := Try.underlying103
 obtain ⟨hlt, em, cb, nn, F, B, hx⟩ := h
 have hmax := Kd.C_max (hC w (It.FrM.refl _ _))
 have hml := blk_lt hx.hm
 have z0 := blk_cell hx.hm 12
 have y0 := blk_frozen hx.hm 12
 simp at z0
 have hws : wrap64 (sends + 1) = sends + 1 := IntWalk.wrap64_in _ (by omega)
 have hxA := aK_ hx
 have hCA := aK_ hC
 clear hx hC
 go_enter Try.func57, Try.ntmps57
 go_wp2
 have hS0 : Aside0 (Ss G w m c n (sends + 1) em cb L 0 (w.setCell ⟨m, 12, none⟩ (.int .i64 (sends + 1))) l) := ⟨by
  have hx := hxA.out
  have f : It.FrM (fun k => k = m) w (w.setCell ⟨m, 12, none⟩ (.int .i64 (sends + 1))) := frm_set w m 12 _
  refine ⟨by simpa using blk_set hx.hm 12 (.int .i64 (sends + 1)), (hx.hH.frm f (fun k hk _ e => ?_)).mono (fun k hk => .inl hk), f.mono (fun i hi => .inl (.inr hi))⟩
  have := hx.gm; rw [← e, hk] at this; cases this⟩
 have hxm := hxA.out.gm
 clear z0 y0
 go_loopg [20] l.length (fun g iv wr => ∃ i : Int, iv = .int .i64 i ∧ Aside0 (0 ≤ i ∧ i.toNat + g = l.length) ∧ Aside0 (Ss G w m c n (sends + 1) em cb L i.toNat wr l))
 case atStart => exact ⟨0, rfl, ⟨Int.le_refl _, by simp⟩, hS0⟩
 clear hS0
 obtain ⟨i, rfl, hI, hS⟩ := hrel
 cases gk with
 | zero =>
  have hie : i = (l.length : Int) := by have := hI.out; omega
  have d0 : decide (i < (l.length : Int)) = false := decide_eq_false (by omega)
  have hS1 := hS.out
  rw [show i.toNat = l.length by omega] at hS1
  unfold Ss at hS1
  rw [List.take_length] at hS1
  clear hS hI hie
  go_wp2
  refine bodyPost_end (results_none rfl _ _ _) rfl ?_
  exact ⟨⟨_, rfl⟩, Mx.entries hlt hxA.out hS1.1 hS1.2.1 hS1.2.2⟩
 | succ g => ?_
 have i0 : 0 ≤ i := hI.out.1
 have i1 : i < (l.length : Int) := by have := hI.out; omega
 obtain ⟨hm, hH, hf⟩ := hS.out
 have hC := hCA.out wr (hf.mono (fun k hk => .inl (by rcases hk with e | e; rw [e]; decide; rw [e, hxm]; decide)))
 obtain ⟨ad, ⟨q0, q1, q2, q3, q4, q5⟩, rfl, hxi, p0, p1, p2, p3, p4, p5⟩ := at_M hC i i0 i1
 have hq2 : q2.size ≤ 140737488351232 := hsz _ (List.mem_of_getElem? hxi)
 simp only at p0 p1 p2 p3 p4 p5
 have d0 := decide_eq_true i1
 have d1 := decide_eq_true i0
 have d2 := eq_true i0
 have d3 := eq_true i1
 have hwi : wrap64 (i + 1) = i + 1 := IntWalk.wrap64_in _ (by omega)
 have hrl := sends_rise (l.take i.toNat) hxA.out.hH.rise
 have htk : Aside0 ((l.take (i + 1).toNat).foldl sendV L = sendV ((l.take i.toNat).foldl sendV L) ⟨q0, q1, q2, q3, q4, q5⟩) := ⟨by
  rw [show (i + 1).toNat = i.toNat + 1 by omega, List.take_add_one, hxi, List.foldl_append]
  rfl⟩
 have hlL : Aside0 (((l.take i.toNat).foldl sendV L).length ≤ 600000) := ⟨by have := hrl.2; rw [List.length_take] at this; omega⟩
 obtain ⟨Lc, hLc⟩ : ∃ Lc, Lc = (l.take i.toNat).foldl sendV L := ⟨_, rfl⟩
 rw [← hLc] at hH htk hlL
 have hrise := aK_ hH.rise
 have hD0 : w.heap.size ≤ wr.heap.size := hf.size
 replace hH := hH.bound
 have hmA := aK_ (And.intro hm (And.intro hH hf))
 have hIA := aK_ (And.intro i0 i1)
 have hw0 : Aside0 (w.heap.size ≤ wr.heap.size) := ⟨hf.size⟩
 have hmW : Aside0 (m < wr.heap.size) := ⟨blk_lt hm⟩
 obtain ⟨⟨sf, st⟩, hsp⟩ : ∃ p, p = span q0 q2 q3 := ⟨_, rfl⟩
 have SP : msg_Span.f q0 q1 q2 q3 q4 q5 = some (sf, st) := (Span_eq _ _ _ _ _ _ hq2).trans (by rw [← hsp])
 have hBx : Below wr.heap.size wr (wr.alloc (.cells #[.int .u8 q0, .int .i64 q1, .string q2, .string q3, .string q4, .int .u64 q5] 117)) := below_alloc (Below.refl _ _) _
 have hbx := aK_ (And.intro hBx (blk_new wr (.cells #[.int .u8 q0, .int .i64 q1, .string q2, .string q3, .string q4, .int .u64 q5] 117)))
 clear hC hm hH hf hrl hLc hxi i0 i1 hS hBx
 by_cases h4 : q0 = 4
 ·subst h4
  have hs2 : (sf, st) = (q2, q3) := hsp.trans (by simp [span, isPt])
  injection hs2 with hs2 hs3
  subst hs2 hs3
  clear hsp
  go_wp2_with (first
   | (go_at_call 87; refine (msg_Span.calls 4 q1 sf st q4 q5 _ _ _ SP).mono ?_; clear SP; rintro r w2 ⟨rfl, hB3⟩; obtain ⟨hBx, bx⟩ := hbx.out; have bx2 := blk_alloc (blk_below bx hB3) (.cells #[.string sf, .string st] 29); have x0 := blk_cell bx2 0; simp at x0; have hB3A := aK_ (And.intro hB3 (And.intro hBx (And.intro bx2 (blk_new w2 (.cells #[.string sf, .string st] 29))))); have hrs : Aside0 (wr.heap.size < w2.heap.size) := ⟨blk_lt (blk_below bx hB3)⟩; clear hB3 bx hBx bx2))
  obtain ⟨hB3, hBx, bx2, br⟩ := hB3A.out
  have hBw : Below wr.heap.size wr (w2.alloc (.cells #[.string sf, .string st] 29)) := below_alloc (below_step hBx hB3) _
  generalize w2.alloc (.cells #[.string sf, .string st] 29) = w3 at bx2 x0 hBw br ⊢
  clear hB3 hBx hB3A
  obtain ⟨hm, hH, hf⟩ := hmA.out
  have hm3 : w3.drew.heap[m]? = some (objM c n em cb (sends + 1)) := by have := blk_below hm hBw; exact this
  have hH3 : Hold (fun k => (G k = 3 ∨ w.heap.size ≤ k) ∧ k < wr.heap.size) w3.drew em Lc := (hH.below hBw).below (below_drew1 (Below.refl _ _))
  have hf3 : It.FrM (fun k => G k = 3 ∨ k = m) w w3.drew := (hf.trans (.of_below (M := fun _ => False) hBw) (fun i hi => hi.elim)).drewN 1
  have hs3 : wr.heap.size ≤ w3.drew.heap.size := hBw.size
  have z0 := blk_cell hm3 10
  have z1 := blk_cell br 0
  have z2 := blk_cell br 1
  simp at z0 z1 z2
  have LN := hold_len hH3
  have SM := some_any hm3 hH3 (by have := hlL.out; omega) sf st (Lc.length : Int)
  have hsm : someM sf st Lc Lc.length = Lc.filter (fun x => holds sf st x.1) := by
   unfold someM
   exact List.take_of_length_le (by have := List.length_filter_le (fun x : ByteArray × ByteArray => holds sf st x.1) Lc; omega)
  rw [hsm] at SM
  have hKl : Aside0 (((Lc.filter (fun x => holds sf st x.1)).map toE).length ≤ 600000) := ⟨by rw [List.length_map]; exact Nat.le_trans (List.length_filter_le _ _) hlL.out⟩
  obtain ⟨Kl, hKe⟩ : ∃ Kl, Kl = (Lc.filter (fun x => holds sf st x.1)).map toE := ⟨_, rfl⟩
  rw [← hKe] at SM hKl
  have hKA := aK_ hKe
  have hA3 := aK_ (And.intro hm3 (And.intro hH3 hf3))
  have hA4 := aK_ (And.intro (show w3.drew.heap[w2.heap.size]? = _ from br) hs3)
  have SM2 := SM.mono (R' := fun e w' => ∃ Ak ck, e = .returned (.slice Ak Kl.length ck) ∧ (w'.cell? ⟨m, 10, none⟩ = some (.pointer (some ⟨em, 0, none⟩)) ∧ w'.cell? ⟨w2.heap.size, 0, none⟩ = some (.string sf) ∧ w'.cell? ⟨w2.heap.size, 1, none⟩ = some (.string st)) ∧ Aside0 (P.k103.R 103 w' w3.drew.heap.size (fun _ => True) (.slice Ak Kl.length ck) Kl ∧ Below w3.drew.heap.size w3.drew w')) (by
   rintro e w' ⟨v, rfl, hR, hb⟩
   obtain ⟨Ak, ck, rfl⟩ := Kd.R_slice hR
   refine ⟨Ak, ck, rfl, ⟨?_, ?_, ?_⟩, ⟨hR, hb⟩⟩
   ·have := blk_cell (blk_below hm3 hb) 10; simpa using this
   ·have := blk_cell (blk_below (show w3.drew.heap[w2.heap.size]? = _ from br) hb) 0; simpa using this
   have := blk_cell (blk_below (show w3.drew.heap[w2.heap.size]? = _ from br) hb) 1; simpa using this)
  clear hm hH hf hm3 hH3 hf3 hs3 hmA hbx bx2 br SM hsm hKe hBw
  go_region_held3 (fun w' => w'.cell? ⟨m, 10, none⟩ = some (.pointer (some ⟨em, 0, none⟩)) ∧ w'.cell? ⟨w2.heap.size, 0, none⟩ = some (.string sf) ∧ w'.cell? ⟨w2.heap.size, 1, none⟩ = some (.string st)) (first | exact ⟨by assumption, by assumption, by assumption⟩ | exact ⟨z0, z1, z2⟩)
   (first
    | (go_at_call 54; refine LN.mono ?_; clear LN; rintro r w4 ⟨rfl, hw⟩; obtain rfl := hw.symm)
    | (go_at_call 53; refine SM2.mono ?_; clear SM2; rintro r w4 ⟨Ak, ck, rfl, ⟨y0, y1, y2⟩, hR4⟩))
  go_wp2
  have hK0 : Aside0 (w4.heap[m]? = some (objM c n em cb (sends + 1)) ∧ Hold (fun k => (G k = 3 ∨ w.heap.size ≤ k) ∧ k < wr.heap.size) w4 em (dropsV ((Kl.take (0 : Int).toNat).map (·.f0)) Lc) ∧ It.FrM (fun k => (G k = 3 ∨ w.heap.size ≤ k) ∧ k < wr.heap.size) w4 w4) := ⟨by
   have hb := hR4.out.2
   exact ⟨blk_below hA3.out.1 hb, (hA3.out.2.1).below hb, It.FrM.refl _ _⟩⟩
  have hf4 : Aside0 (It.FrM (fun k => G k = 3 ∨ k = m) w w4 ∧ wr.heap.size ≤ w4.heap.size) := ⟨(hA3.out.2.2).trans (.of_below (M := fun _ => False) hR4.out.2) (fun i hi => hi.elim), Nat.le_trans hA4.out.2 hR4.out.2.size⟩
  have hRA : Aside0 (∀ wv, It.FrM (fun k => (G k = 3 ∨ w.heap.size ≤ k) ∧ k < wr.heap.size) w4 wv → Kd.C P.k103 wv Ak Kl.length Kl) := ⟨fun wv f => by
   have h1 := hA4.out.2
   exact (Kd.R_reads' (Kd.R_step (Kd.R_bound hR4.out.1) (fun k hk hkl => f.block k hkl (by have := hk.2.1; omega)))).2.2⟩
  have hKmax : Kl.length ≤ 9223372036854775807 := by have := hKl.out; omega
  clear y0 y1 y2 z0 z1 z2 x0 hA3 hA4 hR4
  go_loopg [38] Kl.length (fun g2 jv wv => ∃ j : Int, jv = .int .i64 j ∧ Aside0 (0 ≤ j ∧ j.toNat + g2 = Kl.length) ∧ Aside0 (wv.heap[m]? = some (objM c n em cb (sends + 1)) ∧ Hold (fun k => (G k = 3 ∨ w.heap.size ≤ k) ∧ k < wr.heap.size) wv em (dropsV ((Kl.take j.toNat).map (·.f0)) Lc) ∧ It.FrM (fun k => (G k = 3 ∨ w.heap.size ≤ k) ∧ k < wr.heap.size) w4 wv))
  case atStart => exact ⟨0, rfl, ⟨Int.le_refl _, by simp⟩, hK0⟩
  clear hK0
  obtain ⟨j, rfl, hJ, hS2⟩ := hrel
  cases gk with
  | zero =>
   have hje : j = (Kl.length : Int) := by have := hJ.out; omega
   have d0 : decide (j < (Kl.length : Int)) = false := decide_eq_false (by omega)
   have hS3 := hS2.out
   rw [show j.toNat = Kl.length by omega, List.take_length] at hS3
   have hS4 := aK_ hS3
   clear hS2 hS3 hJ hje
   go_wp2
   go_roundg g
   case measure => have := hI.out; clear hwi; omega
   obtain ⟨s1, s2, s3⟩ := hS4.out
   refine ⟨i + 1, congrArg (Value.int .i64) (by first | rfl | exact hwi), ⟨by have := hIA.out; clear hwi; omega, by have := hI.out; have := hIA.out; clear hwi; omega⟩, ⟨s1, ?_, hf4.out.1.trans s3 (fun k hk => ?_)⟩⟩
   ·rw [htk.out]
    unfold sendV
    rw [if_pos rfl]
    have e : Kl.map (·.f0) = (Lc.filter (fun x => holds sf st x.1)).map (·.1) := by
     rw [hKA.out, List.map_map]
     rfl
    rw [e] at s2
    exact s2.mono (fun k hk => hk.1)
   rcases hk.1 with q | q
   ·exact .inl (.inl q)
   exact .inr q
  | succ g2 => ?_
  have j0 : 0 ≤ j := hJ.out.1
  have j1 : j < (Kl.length : Int) := by have := hJ.out; omega
  obtain ⟨s1, s2, s3⟩ := hS2.out
  obtain ⟨ak, ⟨e0', e1'⟩, rfl, hxj, c0, c1⟩ := at_E (hRA.out _ s3) j j0 j1
  simp only at c0 c1
  have b0 := decide_eq_true j1
  have b1 := decide_eq_true j0
  have b2 := eq_true j0
  have b3 := eq_true j1
  have hwj : wrap64 (j + 1) = j + 1 := IntWalk.wrap64_in _ (by have := hKl.out; omega)
  have htj : Aside0 (dropsV ((Kl.take (j + 1).toNat).map (·.f0)) Lc = del OrdSm.lt e0' (dropsV ((Kl.take j.toNat).map (·.f0)) Lc)) := ⟨by
   rw [show (j + 1).toNat = j.toNat + 1 by omega, List.take_add_one, hxj, List.map_append]
   unfold dropsV
   rw [List.foldl_append]
   rfl⟩
  have hll := drops_length ((Kl.take j.toNat).map (·.f0)) Lc
  have hJA := aK_ (And.intro j0 j1)
  obtain ⟨v0, hv0⟩ : ∃ v0 : World, v0 = wr := ⟨_, rfl⟩
  have hBv : Below v0.heap.size v0 (v0.alloc (.cells #[.string e0', .string e1'] 103)) := below_alloc (Below.refl _ _) _
  have bv := blk_new v0 (.cells #[.string e0', .string e1'] 103)
  rw [hv0] at hBv bv
  have s1' : (wr.alloc (.cells #[.string e0', .string e1'] 103)).drew.heap[m]? = some (objM c n em cb (sends + 1)) := by have := blk_below s1 hBv; exact this
  have s2' := (s2.below hBv).below (below_drew1 (Below.refl _ _))
  have bv' : (wr.alloc (.cells #[.string e0', .string e1'] 103)).drew.heap[wr.heap.size]? = some (.cells #[.string e0', .string e1'] 103 (0, 0)) := bv
  have s3' := (s3.trans (.of_below (M := fun _ => False) hBv) (fun i hi => hi.elim)).drewN 1
  have hsz4 : Aside0 (w4.heap.size ≤ wr.heap.size) := ⟨s3.size⟩
  have DR := hold_drop s2' (by have := hlL.out; omega) e0'
  have DR2 := DR.mono (R' := fun e w' => (∃ b, e = .returned (.bool b)) ∧ (w'.cell? ⟨m, 10, none⟩ = some (.pointer (some ⟨em, 0, none⟩)) ∧ w'.cell? ⟨wr.heap.size, 0, none⟩ = some (.string e0')) ∧ Aside0 (w'.heap[m]? = some (objM c n em cb (sends + 1)) ∧ Hold (fun k => (G k = 3 ∨ w.heap.size ≤ k) ∧ k < _) w' em (dropsV ((Kl.take (j + 1).toNat).map (·.f0)) Lc) ∧ It.FrM (fun k => (G k = 3 ∨ w.heap.size ≤ k) ∧ k < _) w4 w')) (by
   rintro e w' ⟨hb, hH7, hF7⟩
   have u1 : w'.heap[m]? = some (objM c n em cb (sends + 1)) := hF7.blk s1' (by
    rintro ⟨e | e, _⟩
    ·rw [hxm] at e; cases e
    omega)
   have u2 := hF7.blk bv' (by
    rintro ⟨_, e⟩
    have h1 := hf4.out.2
    have h2 := hsz4.out
    omega)
   refine ⟨hb, ⟨by have := blk_cell u1 10; simpa using this, by have := blk_cell u2 0; simpa using this⟩, ⟨u1, ?_, s3'.trans hF7 (fun k hk => .inl hk)⟩⟩
   rw [htj.out]
   exact hH7)
  have z0 := blk_cell s1' 10
  have z1 := (blk_cell bv' 0).trans (show _ = some (Value.string e0') from rfl)
  simp at z0
  clear s1 s2 s3 s1' s2' s3' bv bv' DR hll hxj hS2 hBv j0 j1 hv0
  go_wp2
  go_region_held3 (fun w' => w'.cell? ⟨m, 10, none⟩ = some (.pointer (some ⟨em, 0, none⟩)) ∧ w'.cell? ⟨wr.heap.size, 0, none⟩ = some (.string e0')) (first | exact ⟨by assumption, by assumption⟩ | exact ⟨z0, z1⟩)
   (first
    | (go_at_call 88; refine DR2.mono ?_; clear DR2; rintro r w7 ⟨⟨b, rfl⟩, ⟨y0, y1⟩, hS7⟩))
  go_wp2
  go_roundg g2
  case measure => have := hJ.out; clear hwj hwi; omega
  case rel => exact ⟨j + 1, congrArg (Value.int .i64) (by first | rfl | exact hwj), ⟨by have := hJA.out; clear hwj hwi; omega, by have := hJ.out; have := hJA.out; clear hwj hwi; omega⟩, hS7⟩
 have b4 : (q0 == 4) = false := by simpa using h4
 have h4A := aK_ h4
 clear h4 hsp
 go_wp2_with (first
  | (go_at_call 87; refine (msg_Span.calls q0 q1 q2 q3 q4 q5 _ _ _ SP).mono ?_; clear SP; rintro r w2 ⟨rfl, hB3⟩; obtain ⟨hBx, bx⟩ := hbx.out; have bx2 := blk_alloc (blk_below bx hB3) (.cells #[.string sf, .string st] 29); have x0 := blk_cell bx2 0; simp at x0; have hB3A := aK_ (And.intro hB3 (And.intro hBx bx2)); clear hB3 bx hBx bx2))
 obtain ⟨hB3, hBx, bx2⟩ := hB3A.out
 have hBw : Below wr.heap.size wr (w2.alloc (.cells #[.string sf, .string st] 29)) := below_alloc (below_step hBx hB3) _
 generalize w2.alloc (.cells #[.string sf, .string st] 29) = w3 at bx2 x0 hBw ⊢
 clear hB3 hBx hB3A
 obtain ⟨hm, hH, hf⟩ := hmA.out
 have hm3 := blk_below hm hBw
 have hH3 := hH.below hBw
 have hf3 := aK_ (hf.trans (.of_below (M := fun _ => False) hBw) (fun i hi => hi.elim))
 have z0 := blk_cell hm3 10
 have z1 := blk_cell bx2 2
 simp at z0 z1
 have GT := hold_get (w := w3.drew) (hH3.below (below_drew1 (Below.refl _ _))) q2
 obtain ⟨⟨gv, gi⟩, hgot⟩ : ∃ p, p = gotL Lc q2 := ⟨_, rfl⟩
 have hgv : (lookK OrdSm.lt q2 Lc).getD ByteArray.empty = gv ∧ (lookK OrdSm.lt q2 Lc).isSome = gi := by
  unfold gotL at hgot
  cases hq : lookK OrdSm.lt q2 Lc with
  | none => rw [hq] at hgot; injection hgot with a b; subst a b; exact ⟨rfl, rfl⟩
  | some v => rw [hq] at hgot; injection hgot with a b; subst a b; exact ⟨rfl, rfl⟩
 rw [hgv.1, hgv.2] at GT
 have hgA := aK_ hgot
 have hA3 := aK_ (And.intro hm3 (And.intro hH3 bx2))
 clear hm hH hf hm3 hH3 hgot hgv hmA hbx bx2
 go_region_held3 (fun w' => w'.cell? ⟨m, 10, none⟩ = some (.pointer (some ⟨em, 0, none⟩)) ∧ w'.cell? ⟨wr.heap.size, 2, none⟩ = some (.string q2)) (first | exact ⟨by assumption, by assumption⟩ | exact ⟨z0, z1⟩)
  (first
   | (go_at_call 56; refine GT.mono ?_; clear GT; rintro r w4 ⟨rfl, hw⟩; obtain rfl := hw.symm))
 obtain ⟨⟨av, ai⟩, hap⟩ : ∃ p, p = applyV q0 q4 q5 gv gi := ⟨_, rfl⟩
 have AP : msg_Apply.f (0 + 9) q0 q1 q2 q3 q4 q5 gv gi = some (av, ai) := (Apply_eq _ _ _ _ _ _ _ _ _).trans (by rw [← hap])
 have hapA := aK_ hap
 have bx5 : w3.drew.heap[wr.heap.size]? = some (.cells #[.int .u8 q0, .int .i64 q1, .string q2, .string q3, .string q4, .int .u64 q5] 117 (0, 0)) := hA3.out.2.2
 have hm5 : w3.drew.heap[m]? = some (objM c n em cb (sends + 1)) := hA3.out.1
 have hH5 : Hold (fun k => (G k = 3 ∨ w.heap.size ≤ k) ∧ k < wr.heap.size) w3.drew em Lc := hA3.out.2.1.below (below_drew1 (Below.refl _ _))
 have hf5 : It.FrM (fun k => G k = 3 ∨ k = m) w w3.drew := hf3.out.drewN 1
 have hs5 : wr.heap.size < w3.drew.heap.size := blk_lt bx5
 generalize w3.drew = w5 at bx5 hm5 hH5 hf5 hs5 ⊢
 have x0 := blk_cell bx5 0
 have x1 := blk_cell bx5 1
 have x2 := blk_cell bx5 2
 have x3 := blk_cell bx5 3
 have x4 := blk_cell bx5 4
 have x5 := blk_cell bx5 5
 simp at x0 x1 x2 x3 x4 x5
 have hA5 := aK_ (And.intro hm5 (And.intro hH5 (And.intro hf5 bx5)))
 clear hm5 hH5 hf5 bx5 hA3 hf3 z0 z1 hBw hap
 cases ai with
 | true =>
  go_wp2_with (first
   | (go_at_call 89; refine (msg_Apply.calls _ q0 q1 q2 q3 q4 q5 gv gi av true _ AP).mono ?_; clear AP; rintro r w6 ⟨rfl, hB6⟩))
  obtain ⟨hm5, hH5, hf5, bx5⟩ := hA5.out
  have hm6 := blk_below hm5 hB6
  have bx6 := blk_below bx5 hB6
  have z0 := blk_cell hm6 10
  have z1 := blk_cell bx6 2
  simp at z0 z1
  have PT := hold_put (w := w6.drew) (U := fun k => ((G k = 3 ∨ w.heap.size ≤ k) ∧ k < wr.heap.size) ∨ w6.heap.size ≤ k) (((hH5.below hB6).below (below_drew1 (Below.refl _ _))).mono (fun k hk => .inl hk)) (fun k hk => .inr hk) (by have := hlL.out; omega) q2 av
  have hf6 := hf5.trans (.of_below (M := fun _ => False) hB6) (fun i hi => hi.elim)
  have PT2 := PT.mono (R' := fun e w' => (∃ b, e = .returned (.bool b)) ∧ (w'.cell? ⟨m, 10, none⟩ = some (.pointer (some ⟨em, 0, none⟩)) ∧ w'.cell? ⟨wr.heap.size, 2, none⟩ = some (.string q2)) ∧ Aside0 (Ss G w m c n (sends + 1) em cb L (i + 1).toNat w' l)) (by
   rintro e w' ⟨hb, hH7, hF7⟩
   obtain ⟨u1, u2, u3, u4⟩ := upd_ok hlt hxm hm6 hf6 bx6 hD0 hH7 hF7
   refine ⟨hb, ⟨by have := blk_cell u1 10; simpa using this, by have := blk_cell u2 2; simpa using this⟩, ⟨u1, ?_, u4⟩⟩
   rw [htk.out]
   unfold sendV
   simp only [if_neg h4A.out, ← hgA.out, ← hapA.out, if_true]
   exact u3)
  clear PT hm5 hH5 hf5 bx5 hm6 bx6 hf6 hA5
  go_region_held3 (fun w' => w'.cell? ⟨m, 10, none⟩ = some (.pointer (some ⟨em, 0, none⟩)) ∧ w'.cell? ⟨wr.heap.size, 2, none⟩ = some (.string q2)) (first | exact ⟨by assumption, by assumption⟩ | exact ⟨z0, z1⟩)
   (first
    | (go_at_call 90; refine PT2.mono ?_; clear PT2; rintro r w7 ⟨⟨b, rfl⟩, ⟨y0, y1⟩, hS7⟩))
  go_wp2
  go_roundg g
  case measure => have := hI.out; clear hwi; omega
  case rel => exact ⟨i + 1, congrArg (Value.int .i64) (by first | rfl | exact hwi), ⟨by have := hIA.out; clear hwi; omega, by have := hI.out; have := hIA.out; clear hwi; omega⟩, hS7⟩
 | false =>
  go_wp2_with (first
   | (go_at_call 89; refine (msg_Apply.calls _ q0 q1 q2 q3 q4 q5 gv gi av false _ AP).mono ?_; clear AP; rintro r w6 ⟨rfl, hB6⟩))
  obtain ⟨hm5, hH5, hf5, bx5⟩ := hA5.out
  have hm6 := blk_below hm5 hB6
  have bx6 := blk_below bx5 hB6
  have z0 := blk_cell hm6 10
  have z1 := blk_cell bx6 2
  simp at z0 z1
  have PT := hold_drop (w := w6.drew) (U := fun k => ((G k = 3 ∨ w.heap.size ≤ k) ∧ k < wr.heap.size) ∨ w6.heap.size ≤ k) (((hH5.below hB6).below (below_drew1 (Below.refl _ _))).mono (fun k hk => .inl hk)) (by have := hlL.out; omega) q2
  have hf6 := hf5.trans (.of_below (M := fun _ => False) hB6) (fun i hi => hi.elim)
  have PT2 := PT.mono (R' := fun e w' => (∃ b, e = .returned (.bool b)) ∧ (w'.cell? ⟨m, 10, none⟩ = some (.pointer (some ⟨em, 0, none⟩)) ∧ w'.cell? ⟨wr.heap.size, 2, none⟩ = some (.string q2)) ∧ Aside0 (Ss G w m c n (sends + 1) em cb L (i + 1).toNat w' l)) (by
   rintro e w' ⟨hb, hH7, hF7⟩
   obtain ⟨u1, u2, u3, u4⟩ := upd_ok hlt hxm hm6 hf6 bx6 hD0 hH7 hF7
   refine ⟨hb, ⟨by have := blk_cell u1 10; simpa using this, by have := blk_cell u2 2; simpa using this⟩, ⟨u1, ?_, u4⟩⟩
   rw [htk.out]
   unfold sendV
   simp only [if_neg h4A.out, ← hgA.out, ← hapA.out, Bool.false_eq_true, if_false]
   exact u3)
  clear PT hm5 hH5 hf5 bx5 hm6 bx6 hf6 hA5
  go_region_held3 (fun w' => w'.cell? ⟨m, 10, none⟩ = some (.pointer (some ⟨em, 0, none⟩)) ∧ w'.cell? ⟨wr.heap.size, 2, none⟩ = some (.string q2)) (first | exact ⟨by assumption, by assumption⟩ | exact ⟨z0, z1⟩)
   (first
    | (go_at_call 88; refine PT2.mono ?_; clear PT2; rintro r w7 ⟨⟨b, rfl⟩, ⟨y0, y1⟩, hS7⟩))
  go_wp2
  go_roundg g
  case measure => have := hI.out; clear hwi; omega
  case rel => exact ⟨i + 1, congrArg (Value.int .i64) (by first | rfl | exact hwi), ⟨by have := hIA.out; clear hwi; omega, by have := hI.out; have := hIA.out; clear hwi; omega⟩, hS7⟩
theorem ents_map (f t : ByteArray) (L : Row) : ents f t (L.map toE) = (L.filter (fun x => holds f t x.1)).map toE := by
 unfold ents
 rw [List.filter_map]
 rfl
theorem some_ref {L : Row} (h : risesV (L.map toE) = true) (f t : ByteArray) (hr : rr f t = true) (k : Int) : someV [] (L.map toE) f t k = (someM f t L k).map toE := by
 unfold someV someM
 rw [entriesV_nil _ _ _ h hr, ents_map, List.map_take]
theorem rises_map : ∀ {L : Row}, Rise OrdSm.lt L → risesV (L.map toE) = true
 | [], _ => rfl
 | [_], _ => rfl
 | x :: y :: l, h => by
  have h1 := List.pairwise_cons.1 h
  have a : P.lt x.1 y.1 = true := h1.1 y List.mem_cons_self
  have b := rises_map h1.2
  simp only [List.map_cons] at b ⊢
  show (P.lt x.1 y.1 && risesV (toE y :: l.map toE)) = true
  rw [a, b]; rfl
theorem find_ref : ∀ (L : Row) (s : ByteArray), findV (L.map toE) s = gotL L s
 | [], _ => rfl
 | x :: l, s => by
  have ih := find_ref l s
  show (if same x.1 s = true then (x.2, true) else findV (l.map toE) s) = _
  unfold gotL lookK at ih ⊢
  rw [List.find?_cons]
  by_cases e : x.1 = s
  ·have e1 : same x.1 s = true := by rw [e]; simp [same]
   have e2 : (!OrdSm.lt x.1 s && !OrdSm.lt s x.1) = true := by
    have : OrdSm.lt s s = false := P.lt_irrefl s
    rw [e, this]; rfl
   rw [if_pos e1, e2]
   rfl
  have e1 : ¬ same x.1 s = true := fun h => e (same_iff.1 h)
  have e2 : (!OrdSm.lt x.1 s && !OrdSm.lt s x.1) = false := by
   rcases P.lt_tri x.1 s with h | h | h
   ·have h : OrdSm.lt x.1 s = true := h
    rw [h]; rfl
   ·exact absurd h e
   have h : OrdSm.lt s x.1 = true := h
   rw [h]; simp
  rw [if_neg e1, e2]
  exact ih
end Go.Proofs.Ytljnlnbopohghaa.Mdl
end
section
namespace Go.Proofs.Ytljnlnbopohghaa.Cur
open Go Go.RowKit Go.Maps Go.Proofs.YtljnlnbopohghaaW.PrintWords Go.Proofs.YtljnlnbopohghaaW.PrintLast Go.Proofs.YtljnlnbopohghaaW.PrintMore Go.Proofs.Ytljnlnbopohghaa.Own Go.Proofs.Ytljnlnbopohghaa.Ord Go.Proofs.Ytljnlnbopohghaa.P
set_option maxHeartbeats 2000000
set_option maxRecDepth 100000
theorem eqA_range (d : Nat) (w : World) (x0 y0 : BA) (x1 y1 : BA) :
  (Op.equalIn (d + 2) 29 (.agg #[.string x0, .string x1]) (.agg #[.string y0, .string y1])).run Try.prog w = .ok (x0.toList == y0.toList && (x1.toList == y1.toList)) w := by
 refine eqA_of Try.underlying29 (by kernel_rfl) ?_
 refine eqf_cons (by rfl) (by go_simp; rfl) (by go_simp; rfl) (by go_simp) ?_
 exact eqf_last (by rfl) (by go_simp; rfl) (by go_simp; rfl) (by go_simp)
theorem C_two {W : World} {g : Nat} {a b c d : ByteArray} (h : W.heap[g]? = some (.cells #[.string a, .string b, .string c, .string d] 103 (0, 0))) : Kd.C P.k103 W (some ⟨g, 0, none⟩) 2 [⟨a, b⟩, ⟨c, d⟩] := by
  refine ⟨rfl, by omega, fun _ => ⟨_, rfl, fun j p hj => ?_⟩⟩
  match j, hj with
  | 0, hj =>
    cases hj
    refine ⟨[.string a, .string b], rfl, ⟨[.string a], [.string b], rfl, rfl, rfl⟩, fun i u hu => ?_⟩
    match i, hu with
    | 0, hu => cases hu; exact blk_cell h 0
    | 1, hu => cases hu; exact blk_cell h 1
    | _ + 2, hu => simp at hu
  | 1, hj =>
    cases hj
    refine ⟨[.string c, .string d], rfl, ⟨[.string c], [.string d], rfl, rfl, rfl⟩, fun i u hu => ?_⟩
    match i, hu with
    | 0, hu => cases hu; exact blk_cell h 2
    | 1, hu => cases hu; exact blk_cell h 3
    | _ + 2, hu => simp at hu
  | _ + 2, hj => simp at hj
attribute [local go_sem high] eqA_range
def bA : ByteArray := ⟨#[97]⟩
theorem rr_az : rrB ⟨#[97]⟩ ⟨#[122]⟩ = true := by simp [rrB, ba_mk]; decide
theorem aft_c : aft ⟨#[99]⟩ = ⟨#[99, 0]⟩ := by rfl
theorem took_live : tookV (some (⟨#[97]⟩, ⟨#[122]⟩, false)) [⟨⟨#[98]⟩, ⟨#[]⟩⟩, ⟨⟨#[99]⟩, ⟨#[]⟩⟩] 2 = (false, 0, some (⟨#[99, 0]⟩, ⟨#[122]⟩, false)) := by
  have h1 : incB [(⟨⟨#[98]⟩, ⟨#[]⟩⟩ : En), ⟨⟨#[99]⟩, ⟨#[]⟩⟩] = true := by simp [incB, ltB, ba_mk]; decide
  have h2 : outside ⟨#[97]⟩ ⟨#[122]⟩ [(⟨⟨#[98]⟩, ⟨#[]⟩⟩ : En), ⟨⟨#[99]⟩, ⟨#[]⟩⟩] = false := by simp [outside, holdsB, rrB, ltB, ba_mk]; decide
  have h3 : rrB (⟨#[99, 0]⟩ : ByteArray) ⟨#[122]⟩ = true := by simp [rrB, ba_mk]; decide
  unfold tookV
  simp [h1, h2, behV, aft_c, h3]
theorem live_took {w : World} {p b : Nat} (h : Tb w p b (0 + 1) (0 + 1) (upd (fun x => none) (0 + 1) (some (⟨#[97]⟩, ⟨#[122]⟩, false))) 1) :
    Calls Try.prog 17 #[.pointer (some ⟨p, 0, none⟩), .int .i64 1, .slice (some ⟨w.heap.size, 0, none⟩) 2 2, .int .i64 2] (w.alloc (.cells #[.string ⟨#[98]⟩, .string ⟨#[]⟩, .string ⟨#[99]⟩, .string ⟨#[]⟩] 103)) fun e w' =>
      e = .returned (.tuple #[.bool false, .int .i64 0]) ∧ Tb w' p b (0 + 1) (0 + 1 + 1) (upd (upd (fun x => none) (0 + 1) (some (⟨#[97]⟩, ⟨#[122]⟩, false))) 1 (some (⟨#[99, 0]⟩, ⟨#[122]⟩, false))) 1 ∧ Fr [b] (w.alloc (.cells #[.string ⟨#[98]⟩, .string ⟨#[]⟩, .string ⟨#[99]⟩, .string ⟨#[]⟩] 103)) w' := by
  have hTk := took_any (h.fr (B := []) ((Fr.refl [] _).alloc (.cells #[.string ⟨#[98]⟩, .string ⟨#[]⟩, .string ⟨#[99]⟩, .string ⟨#[]⟩] 103)) (by simp) (by simp)) 1 (wf_small (by omega) (by omega)) (C_two (blk_new w _)) (cl := 2) (by simp) 2 (by omega) (by intro x hx; simp at hx; rcases hx with rfl | rfl <;> simp [ba_size, ba_mk]) (by simp)
  rw [show upd (fun x => none) (0 + 1) (some (⟨#[97]⟩, ⟨#[122]⟩, false)) (1 : Int) = (some (⟨#[97]⟩, ⟨#[122]⟩, false) : Option X) from rfl, took_live] at hTk
  exact hTk
theorem live_any (w : World) : Calls Try.prog 13 #[] w fun e w' => e = .returned (.bool true) ∧ Below w.heap.size w w' := by
  have hur := Try.underlying29
  have hue := Try.underlying103
  have NW := new_any w
  have hcA : Aside (1 = (if ((fun _ => none : Int → Option X) (0 + 1)).isSome then 0 else 0 + 1)) := rfl
  go_enter Try.func13, Try.ntmps13
  go_wp2_with (first
    | (go_at_call 10; refine NW.mono ?_; clear NW; rintro e w1 ⟨rfl, hT1, hB1⟩; have hO := open_yes hT1 (by omega) (by omega) (by omega) _ _ rr_az hcA; clear hT1)
    | (go_at_call 15; refine hO.mono ?_; clear hO hcA; rintro e w2 ⟨rfl, hT2, f2⟩; have hTk := live_took hT2; have hB2 : Below w.heap.size w (w2.alloc (.cells #[.string ⟨#[98]⟩, .string ⟨#[]⟩, .string ⟨#[99]⟩, .string ⟨#[]⟩] 103)) := below_alloc (((Fr.of_below (B := []) hB1).trans f2 (fun x hx => .inr (by simp at hx; omega))).below (by simp) (Nat.le_refl _)) _; clear hT2 f2 hB1)
    | (go_at_call 17; refine hTk.mono ?_; clear hTk; rintro e w3 ⟨rfl, hT3, f3⟩; have hL := left_some hT3 1 (wf_small (by omega) (by omega)) _ _ _ (upd_same _ _ _); have hB3 : Below w.heap.size w w3 := ((Fr.of_below (B := []) hB2).trans f3 (fun x hx => .inr (by simp at hx; omega))).below (by simp) (Nat.le_refl _); clear f3 hB2)
    | (go_at_call 16; refine hL.mono ?_; clear hL; rintro e w4 ⟨rfl, hB4⟩; have hT4 := (hT3.fr (B := []) (Fr.of_below hB4) (by simp) (by simp)).fr (B := []) ((Fr.refl [] w4).alloc (.cells #[.string ⟨#[99, 0]⟩, .string ⟨#[122]⟩] 29)) (by simp) (by simp); have hN := len_any hT4; have hX := close_none hT4 2 (wf_small (by omega) (by omega)) rfl; have hB5 := below_alloc (below_step hB3 hB4) (.cells #[.string ⟨#[99, 0]⟩, .string ⟨#[122]⟩] 29); clear hT3 hT4 hB4 hB3)
    | (go_at_call 19; refine hN.mono ?_; clear hN; rintro e w5 ⟨rfl, hw⟩; obtain rfl := hw.symm)
    | (go_at_call 18; refine hX.mono ?_; clear hX; rintro e w6 ⟨rfl, hB6⟩))
  go_ret
  exact ⟨rfl, below_step hB5 hB6⟩
end Go.Proofs.Ytljnlnbopohghaa.Cur
end
section
namespace Go.Proofs.Ytljnlnbopohghaa.Cur
open Go Go.RowKit Go.Maps Go.Proofs.YtljnlnbopohghaaW.PrintWords Go.Proofs.YtljnlnbopohghaaW.PrintLast Go.Proofs.YtljnlnbopohghaaW.PrintMore Go.Proofs.Ytljnlnbopohghaa.Own Go.Proofs.Ytljnlnbopohghaa.Ord Go.Proofs.Ytljnlnbopohghaa.P
set_option maxHeartbeats 2000000
set_option maxRecDepth 100000
theorem lt_trans {a b c : ByteArray} (h : ltB a b = true) (k : ltB b c = true) : ltB a c = true := Bo.trans h k
theorem lt_irrefl (a : ByteArray) : ltB a a = false := Bo.irrefl _
theorem le_lt {a b c : ByteArray} (h : ltB b a = false) (k : ltB b c = true) : ltB a c = true := by
 rcases Bo.not_lt h with e | h1
 ·unfold ltB at *; rw [← e]; exact k
 exact Bo.trans h1 k
theorem lt_le {a b c : ByteArray} (h : ltB a b = true) (k : ltB c b = false) : ltB a c = true := by
 rcases Bo.not_lt k with e | h1
 ·unfold ltB at *; rw [e]; exact h
 exact Bo.trans h h1
theorem not_lt_of_lt {a b : ByteArray} (h : ltB a b = true) : ltB b a = false := Bo.asymm h
theorem aft_iff (a b : ByteArray) : ltB a (aft b) = true ↔ ltB b a = false := by
 unfold ltB aft
 have e : (b ++ (⟨#[0]⟩ : ByteArray)).toList = b.toList ++ [0] := by rw [ba_append]; simp [ba_mk]
 rw [e]
 exact Bo.succ _ _
theorem inc_lt : ∀ (x : En) (l : List En), incB (x :: l) = true → ∀ y ∈ l, ltB x.f0 y.f0 = true
 | _, [], _, _, hy => by cases hy
 | x, z :: l, h, y, hy => by
  simp only [incB, Bool.and_eq_true] at h
  rcases List.mem_cons.1 hy with rfl | hy
  ·exact h.1
  exact lt_trans h.1 (inc_lt z l h.2 y hy)
theorem inc_tail {x : En} {l : List En} (h : incB (x :: l) = true) : incB l = true := by
 cases l with
 | nil => rfl
 | cons y l => simp only [incB, Bool.and_eq_true] at h; exact h.2
theorem inc_append : ∀ (a b : List En), incB a = true → incB b = true → (∀ x ∈ a, ∀ y ∈ b, ltB x.f0 y.f0 = true) → incB (a ++ b) = true
 | [], b, _, hb, _ => hb
 | [x], [], _, _, _ => rfl
 | [x], y :: b, _, hb, h => by
  show (ltB x.f0 y.f0 && incB (y :: b)) = true
  rw [h x (by simp) y (by simp), hb]; rfl
 | x :: z :: a, b, ha, hb, h => by
  simp only [incB, Bool.and_eq_true] at ha
  show (ltB x.f0 z.f0 && incB (z :: a ++ b)) = true
  rw [ha.1, inc_append (z :: a) b ha.2 hb (fun q hq y hy => h q (List.mem_cons_of_mem _ hq) y hy)]
  rfl
theorem inc_last : ∀ (l : List En) (z : En), incB l = true → l[l.length - 1]? = some z → ∀ y ∈ l, ltB z.f0 y.f0 = false
 | [], _, _, _, _, hy => by cases hy
 | [x], z, _, hz, y, hy => by
  simp at hz hy
  subst hz; subst hy
  exact lt_irrefl _
 | x :: u :: l, z, h, hz, y, hy => by
  have h2 : (u :: l)[(u :: l).length - 1]? = some z := by simpa using hz
  have ht := inc_tail h
  rcases List.mem_cons.1 hy with rfl | hy
  ·have hm : z ∈ u :: l := List.mem_of_getElem? h2
   exact not_lt_of_lt (inc_lt y _ h z hm)
  ·exact inc_last (u :: l) z ht h2 y hy
structure Inv (f t : ByteArray) (x : X) (T : List En) : Prop where
 inc : incB T = true
 hold : ∀ y ∈ T, holdsB f t y.f0 = true
 on : x.2.2 = false → x.2.1 = t ∧ ltB x.1 f = false ∧ ∀ y ∈ T, ltB y.f0 x.1 = true
theorem Inv.start (f t : ByteArray) : Inv f t (f, t, false) [] := ⟨rfl, by simp, fun _ => ⟨rfl, lt_irrefl f, by simp⟩⟩
theorem holds_iff {f t s : ByteArray} : holdsB f t s = true ↔ ltB s f = false ∧ rrB s t = true := by
 unfold holdsB
 cases ltB s f <;> simp
theorem Inv.step {f t : ByteArray} {x : X} {T : List En} (h : Inv f t x T) {l : List En} (hi : incB l = true) (ho : outside x.1 x.2.1 l = false) (hx : x.2.2 = true → l = []) (x' : X)
  (hx' : x'.2.2 = true ∨ (x.2.2 = false ∧ ∃ z, l[l.length - 1]? = some z ∧ x' = behV x.1 x.2.1 z.f0)) : Inv f t x' (T ++ l) := by
 have hold : ∀ y ∈ l, x.2.2 = false ∧ ltB y.f0 x.1 = false ∧ rrB y.f0 x.2.1 = true := fun y hy => by
  have hd : x.2.2 = false := by
   cases hd : x.2.2 with
   | false => rfl
   | true => rw [hx hd] at hy; cases hy
  have h1 : holdsB x.1 x.2.1 y.f0 = true := by
   unfold outside at ho
   rw [List.any_eq_false] at ho
   have := ho y hy
   simpa using this
  exact ⟨hd, (holds_iff.1 h1).1, (holds_iff.1 h1).2⟩
 refine ⟨inc_append T l h.inc hi (fun a ha b hb => ?_), fun y hy => ?_, fun hd => ?_⟩
 ·obtain ⟨hd, h1, _⟩ := hold b hb
  exact lt_le ((h.on hd).2.2 a ha) h1
 ·rcases List.mem_append.1 hy with hy | hy
  ·exact h.hold y hy
  obtain ⟨hd, h1, h2⟩ := hold y hy
  obtain ⟨e1, e2, _⟩ := h.on hd
  refine holds_iff.2 ⟨?_, by rw [← e1]; exact h2⟩
  cases e : ltB y.f0 f with
  | false => rfl
  | true => rw [lt_le e e2] at h1; cases h1
 rcases hx' with hx' | ⟨h0, z, hz, rfl⟩
 ·rw [hx'] at hd; cases hd
 obtain ⟨e1, e2, e3⟩ := h.on h0
 unfold behV at hd ⊢
 split at hd
 ·rename_i hr
  rw [if_pos hr]
  have hzm := List.mem_of_getElem? hz
  obtain ⟨_, hz1, _⟩ := hold z hzm
  refine ⟨e1, ?_, fun y hy => ?_⟩
  ·have h1 : ltB x.1 (aft z.f0) = true := (aft_iff _ _).2 hz1
   exact not_lt_of_lt (le_lt e2 h1)
  rcases List.mem_append.1 hy with hy | hy
  ·exact lt_trans (lt_le (e3 y hy) hz1) ((aft_iff _ _).2 (lt_irrefl _))
  exact (aft_iff _ _).2 (inc_last l z hi hz y hy)
 cases hd
theorem holds2_eq (f t s : ByteArray) : catchmentref02_Holds.f f t s = some (holdsB f t s) := by
 unfold catchmentref02_Holds.f holdsB rrB ltB
 cases Op.bytesLess s.toList f.toList
 ·by_cases ht : t.toList = [] <;> simp [ht]
 rfl
theorem right_eq (f t : ByteArray) : catchmentref02_Right.f f t = some (rrB f t) := by
 unfold catchmentref02_Right.f rrB
 split <;> rfl
theorem left_gen {w : World} {p : Nat} (k : Int) (f t : ByteArray) (d : Bool) (er : Int)
  (hfind : Calls Try.prog 47 #[.pointer (some ⟨p, 0, none⟩), .int .i64 k] (w.alloc (.cells #[.string ⟨#[]⟩, .string ⟨#[]⟩] 29)) fun e w' => e = .returned (.tuple #[.agg #[.string f, .string t, .bool d], .int .i64 er]) ∧ Below (w.alloc (.cells #[.string ⟨#[]⟩, .string ⟨#[]⟩] 29)).heap.size (w.alloc (.cells #[.string ⟨#[]⟩, .string ⟨#[]⟩] 29)) w') :
  Calls Try.prog 16 #[.pointer (some ⟨p, 0, none⟩), .int .i64 k] w fun e w' => e = .returned (.tuple #[.agg #[.string f, .string t], .bool d, .int .i64 er]) ∧ Below w.heap.size w w' := by
 have hur := Try.underlying29
 have hux := Try.underlying106
 have hB1 : Below w.heap.size w (w.alloc (.cells #[.string ⟨#[]⟩, .string ⟨#[]⟩] 29)) := below_alloc (Below.refl _ _) _
 go_enter Try.func16, Try.ntmps16
 go_wp2_with (go_at_call 47; refine hfind.mono ?_; clear hfind; rintro e w1 ⟨rfl, hB2⟩; have hb1 := blk_below (blk_new w (.cells #[.string ⟨#[]⟩, .string ⟨#[]⟩] 29)) hB2; have hB3 := below_step hB1 hB2; have hlt : w1.heap.size ≠ w.heap.size := (by have := hB2.size; simp at this; omega); clear hB1 hB2)
 have hb2 : (w1.alloc (.cells #[.string f, .string t, .bool d] 106)).heap[w.heap.size]? = some (.cells #[.string ⟨#[]⟩, .string ⟨#[]⟩] 29 (0, 0)) := blk_alloc hb1 _
 have hn2 := blk_new w1 (.cells #[.string f, .string t, .bool d] 106)
 have hB4 : Below w.heap.size w (w1.alloc (.cells #[.string f, .string t, .bool d] 106)) := below_alloc hB3 _
 clear hb1 hB3
 generalize w1.alloc (.cells #[.string f, .string t, .bool d] 106) = W at hb2 hn2 hB4 ⊢
 have c0 := blk_cell hn2 0
 have c1 := blk_cell hn2 1
 have c2 := blk_cell hn2 2
 have d0 := blk_cell hb2 0
 have d1 := blk_cell hb2 1
 have z0 := blk_frozen hb2 0
 have z1 := blk_frozen hb2 1
 simp at c0 c1 c2 d0 d1
 have hA1 := aK_ hb2
 have hA2 := aK_ hB4
 clear hb2 hn2 hB4
 have hne : w1.heap.size ≠ w.heap.size := hlt
 go_region_held3 (fun w' => w'.cell? ⟨w1.heap.size, 0, none⟩ = some (.string f) ∧ w'.cell? ⟨w1.heap.size, 1, none⟩ = some (.string t) ∧ w'.cell? ⟨w1.heap.size, 2, none⟩ = some (.bool d)) (first | assumption | exact ⟨c0, c1, c2⟩ | (simp [World.cell?_setCell_other, hne, hne.symm, c0, c1, c2]; done)) (fail)
 go_wp2_with fail
 refine bodyPost_ret (results_ctt rfl _ _ w.heap.size 29 #[.string f, .string t] (0, 0) _ rfl ?_ hur rfl (by kernel_rfl)) rfl ?_
 ·exact blk_set (blk_set (blk_drew hA1.out) 0 _) 1 _
 exact ⟨rfl, below_set (below_set (below_drew1 hA2.out) (Nat.le_refl _)) (Nat.le_refl _)⟩
theorem left_any {w : World} {p b n c : Nat} {last : Int} {F : Int → Option X} (h : Tb w p b last n F c) (k : Int) (hk : (Lit.int .i64 k).wf = true) :
  Calls Try.prog 16 #[.pointer (some ⟨p, 0, none⟩), .int .i64 k] w fun e w' => e = .returned (.tuple #[.agg #[.string ((F k).getD x0).1, .string ((F k).getD x0).2.1], .bool ((F k).getD x0).2.2, .int .i64 (if (F k).isSome then 0 else 11)]) ∧ Below w.heap.size w w' := by
 have hT1 : Tb (w.alloc (.cells #[.string ⟨#[]⟩, .string ⟨#[]⟩] 29)) p b last n F c := h.fr (B := []) ((Fr.refl _ _).alloc _) (by simp) (by simp)
 cases hF : F k with
 | none => exact left_gen k ⟨#[]⟩ ⟨#[]⟩ false 11 (find_none hT1 k hk hF)
 | some x =>
  obtain ⟨f, t, d⟩ := x
  exact left_gen k f t d 0 (find_some hT1 k hk f t d hF)
theorem close_any {w : World} {p b n c : Nat} {last : Int} {F : Int → Option X} (h : Tb w p b last n F c) (k : Int) (hk : (Lit.int .i64 k).wf = true) :
  Calls Try.prog 18 #[.pointer (some ⟨p, 0, none⟩), .int .i64 k] w fun e w' => e = .returned (.int .i64 (if (F k).isSome then 0 else 11)) ∧ (∀ c', c' + (if (F k).isSome then 1 else 0) = c → Tb w' p b last n (upd F k none) c') ∧ Fr [b] w w' := by
 cases hF : F k with
 | none =>
  refine (close_none h k hk hF).mono ?_
  rintro e w' ⟨rfl, hB⟩
  refine ⟨rfl, fun c' hc => ?_, Fr.of_below hB⟩
  have e1 : upd F k none = F := by
   funext j
   unfold upd
   split
   ·rename_i q; rw [q, hF]
   rfl
  have e2 : c' = c := by simpa using hc
  rw [e1, e2]
  exact h.fr (B := []) (Fr.of_below hB) (by simp) (by simp)
 | some x =>
  obtain ⟨f, t, d⟩ := x
  refine (close_some h k hk f t d hF).mono ?_
  rintro e w' ⟨rfl, hT, hf⟩
  exact ⟨rfl, fun c' hc => hT c' hc, hf⟩
theorem open_any {w : World} {p b n c : Nat} {last : Int} {F : Int → Option X} (h : Tb w p b last n F c) (h0 : 0 ≤ last) (h1 : last < 1000000) (hn : n < 1000000) (hF : F (last + 1) = none) (f t : ByteArray) :
  Calls Try.prog 15 #[.pointer (some ⟨p, 0, none⟩), .agg #[.string f, .string t]] w fun e w' => e = .returned (.tuple #[.int .i64 (if rrB f t = true then last + 1 else 0), .int .i64 (if rrB f t = true then 0 else 7)]) ∧
   (if rrB f t = true then Tb w' p b (last + 1) (n + 1) (upd F (last + 1) (some (f, t, false))) (c + 1) else Tb w' p b last n F c) ∧ Fr [p, b] w w' := by
 cases hr : rrB f t with
 | true =>
  refine (open_yes h h0 h1 hn f t hr (c' := c + 1) (show _ = _ by rw [hF]; rfl)).mono ?_
  rintro e w' ⟨rfl, hT, hf⟩
  exact ⟨rfl, hT, hf⟩
 | false =>
  refine (open_no (p := p) f t hr).mono ?_
  rintro e w' ⟨rfl, hB⟩
  exact ⟨rfl, h.fr (B := []) (Fr.of_below hB) (by simp) (by simp), Fr.of_below hB⟩
end Go.Proofs.Ytljnlnbopohghaa.Cur
end
