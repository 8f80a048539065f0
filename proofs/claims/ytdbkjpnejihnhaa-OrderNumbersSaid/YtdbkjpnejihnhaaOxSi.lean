/- The walks over knots [string, int]: up, down, even. (Laid by inst.py out of inst/XOx.) -/
import Derived.Test.YtdbkjpnejihnhaaOwSi
set_option linter.unusedVariables false
set_option linter.unusedSimpArgs false
namespace Go.Proofs.Ytdbkjpnejihnhaa.OrdSi
open Go.RowKit Go.Proofs.YtdbkjpnejihnhaaW.PrintWords Go.Proofs.YtdbkjpnejihnhaaW.PrintLast Go.Proofs.YtdbkjpnejihnhaaW.PrintMore Go.Proofs.Ytdbkjpnejihnhaa.Own Go.Proofs.Ytdbkjpnejihnhaa.Ord

/-- A knot whose numbers need not be right. -/
def Top (w : World) (b : Nat) (k : ByteArray) (v : Int) (l r : Option Addr) : Prop := ∃ d s : Int, w.heap[b]? = some (.cells #[.string k, .int .i64 v, .pointer l, .pointer r, .int .i64 d, .int .i64 s] 83 (0, 0))
theorem Top.fr {w w' : World} {B : List Nat} {b : Nat} {k : ByteArray} {v : Int} {l r : Option Addr} (h : Top w b k v l r) (f : Fr B w w') (hn : b ∉ B) : Top w' b k v l r := by
  obtain ⟨d, s, h⟩ := h
  exact ⟨d, s, f.blk h hn⟩
theorem Top.low {w : World} {b : Nat} {k : ByteArray} {v : Int} {l r : Option Addr} (h : Top w b k v l r) (l' : Option Addr) : Top (w.setCell ⟨b, 2, none⟩ (.pointer l')) b k v l' r := by
  obtain ⟨d, s, h⟩ := h
  exact ⟨d, s, blk_put h 2 _ rfl⟩
theorem Top.high {w : World} {b : Nat} {k : ByteArray} {v : Int} {l r : Option Addr} (h : Top w b k v l r) (r' : Option Addr) : Top (w.setCell ⟨b, 3, none⟩ (.pointer r')) b k v l r' := by
  obtain ⟨d, s, h⟩ := h
  exact ⟨d, s, blk_put h 3 _ rfl⟩
theorem Top.of_in {w : World} {b : Nat} {k : ByteArray} {v : Int} {l r : Kn ByteArray Int} (h : In w (.node b k v l r)) : Top w b k v l.adr r.adr := ⟨_, _, h.1⟩
theorem Top.cells {w : World} {b : Nat} {k : ByteArray} {v : Int} {l r : Option Addr} (h : Top w b k v l r) :
    w.cell? ⟨b, 0, none⟩ = some (.string k) ∧ w.cell? ⟨b, 1, none⟩ = some (.int .i64 v) ∧ w.cell? ⟨b, 2, none⟩ = some (.pointer l) ∧ w.cell? ⟨b, 3, none⟩ = some (.pointer r) ∧ w.frozen? ⟨b, 1, none⟩ = false ∧ w.frozen? ⟨b, 2, none⟩ = false ∧ w.frozen? ⟨b, 3, none⟩ = false := by
  obtain ⟨d, s, h⟩ := h
  exact ⟨blk_cell h 0, blk_cell h 1, blk_cell h 2, blk_cell h 3, blk_frozen h 1, blk_frozen h 2, blk_frozen h 3⟩
theorem fresh_top {b : Nat} {k : ByteArray} {v : Int} {l r : Kn ByteArray Int} {w : World} (hb : Top w b k v l.adr r.adr) (hl : In w l) (hr : In w r) (nl : b ∉ l.bs) (nr : b ∉ r.bs) (hc : l.cnt + r.cnt < 4611686018427387904) :
    Calls Try.prog 57 #[.pointer (some ⟨b, 0, none⟩)] w fun e w' => e = .returned (.pointer (some ⟨b, 0, none⟩)) ∧ In w' (.node b k v l r) ∧ Fr [b] w w' := by
  obtain ⟨d, s, hb⟩ := hb
  exact fresh_any b k v l r d s w hb hl hr nl nr hc
theorem set_in {w : World} {T : Kn ByteArray Int} (h : In w T) {b : Nat} (hn : b ∉ T.bs) (i : Nat) (u : Value) : In (w.setCell ⟨b, i, none⟩ u) T :=
  in_fr (B := [b]) ((Fr.refl _ w).set (.inl (by simp)) u) h (fun x hx => by simp; rintro rfl; exact hn hx)

set_option maxHeartbeats 2000000
set_option maxRecDepth 100000
theorem up_any {b hb : Nat} {k hk : ByteArray} {v hv : Int} {l hl hr : Kn ByteArray Int} {w : World} (h1 : Top w b k v l.adr (some ⟨hb, 0, none⟩)) (h2 : Top w hb hk hv hl.adr hr.adr) (il : In w l) (ihl : In w hl) (ihr : In w hr)
    (hnd : (Kn.node b k v l (.node hb hk hv hl hr)).bs.Nodup) (hc : (Kn.node b k v l (.node hb hk hv hl hr)).cnt < 4611686018427387904) :
    Calls Try.prog 65 #[.pointer (some ⟨b, 0, none⟩)] w fun e w' => e = .returned (.pointer (some ⟨hb, 0, none⟩)) ∧ In w' (.node hb hk hv (.node b k v l hl) hr) ∧ Fr [b, hb] w w' := by
  simp only [Kn.bs, List.nodup_cons, List.nodup_append, List.mem_append, List.mem_cons, not_or] at hnd
  simp only [Kn.cnt] at hc
  obtain ⟨⟨nbl, nbh, nbhl, nbhr⟩, ndl, ⟨⟨nhhl, nhhr⟩, ndhl, ndhr, dj⟩, dl⟩ := hnd
  have nhl : hb ∉ l.bs := fun h => dl hb h hb (.inl rfl) rfl
  have := Kn.bounds l; have := Kn.bounds hl; have := Kn.bounds hr
  have b1 : l.cnt + hl.cnt < 4611686018427387904 := by omega
  have b2 : (Kn.node b k v l hl).cnt + hr.cnt < 4611686018427387904 := by simp only [Kn.cnt]; omega
  obtain ⟨c10, c11, c12, c13, f11, f12, f13⟩ := h1.cells
  obtain ⟨c20, c21, c22, c23, f21, f22, f23⟩ := h2.cells
  have W1 := fresh_top (h1.high hl.adr) (set_in il nbl 3 _) (set_in ihl nbhl 3 _) nbl nbhl b1
  have fr0 : Fr [b, hb] w (w.setCell ⟨b, 3, none⟩ (.pointer hl.adr)) := (Fr.refl _ _).set (.inl (by simp)) _
  have h2' : Top (w.setCell ⟨b, 3, none⟩ (.pointer hl.adr)) hb hk hv hl.adr hr.adr := h2.fr (B := [b]) ((Fr.refl _ _).set (.inl (by simp)) _) (by simp; exact fun e => nbh e.symm)
  have ihr' := set_in ihr nbhr 3 (.pointer hl.adr)
  clear h1 h2 il ihl ihr
  go_enter Try.func65, Try.ntmps65
  go_wp2_with (first
    | (go_at_call_of 57 (some (⟨b, 0, none⟩ : Addr))
       refine W1.mono ?_
       clear W1
       rintro e w1 ⟨rfl, hi, fr⟩
       have h3 := h2'.fr fr (by simp; exact fun e => nbh e.symm)
       have ihr1 := in_fr fr ihr' (fun x hx => by simp; rintro rfl; exact nbhr hx)
       obtain ⟨c30, c31, c32, c33, f31, f32, f33⟩ := h3.cells
       have nn : hb ∉ (Kn.node b k v l hl).bs := by simp only [Kn.bs, List.mem_cons, List.mem_append, not_or]; exact ⟨fun e => nbh e.symm, nhl, nhhl⟩
       have W2 := fresh_top (h3.low (some ⟨b, 0, none⟩)) (l := Kn.node b k v l hl) (set_in hi nn 2 _) (set_in ihr1 nhhr 2 _) nn nhhr b2
       have fr1 : Fr [b, hb] w (w1.setCell ⟨hb, 2, none⟩ (.pointer (some ⟨b, 0, none⟩))) := (fr0.trans fr (fun x hx => .inl (by simp at hx; simp [hx]))).set (.inl (by simp)) _
       clear h3 ihr1 hi)
    | (go_at_call_of 57 (some (⟨hb, 0, none⟩ : Addr))
       refine W2.mono ?_
       clear W2
       rintro e w2 ⟨rfl, hi2, fr2⟩))

  go_ret
  exact ⟨rfl, hi2, fr1.trans fr2 (fun x hx => .inl (by simp at hx; simp [hx]))⟩
theorem down_any {b lb : Nat} {k lk : ByteArray} {v lv : Int} {r ll lr : Kn ByteArray Int} {w : World} (h1 : Top w b k v (some ⟨lb, 0, none⟩) r.adr) (h2 : Top w lb lk lv ll.adr lr.adr) (ir : In w r) (ill : In w ll) (ilr : In w lr)
    (hnd : (Kn.node b k v (.node lb lk lv ll lr) r).bs.Nodup) (hc : (Kn.node b k v (.node lb lk lv ll lr) r).cnt < 4611686018427387904) :
    Calls Try.prog 66 #[.pointer (some ⟨b, 0, none⟩)] w fun e w' => e = .returned (.pointer (some ⟨lb, 0, none⟩)) ∧ In w' (.node lb lk lv ll (.node b k v lr r)) ∧ Fr [b, lb] w w' := by
  simp only [Kn.bs, List.nodup_cons, List.nodup_append, List.mem_append, List.mem_cons, not_or] at hnd
  simp only [Kn.cnt] at hc
  obtain ⟨⟨⟨nbh, nbll, nblr⟩, nbr⟩, ⟨⟨nlll, nllr⟩, ndll, ndlr, dj⟩, ndr, dl⟩ := hnd
  have nlr : lb ∉ r.bs := fun h => dl lb (.inl rfl) lb h rfl
  have := Kn.bounds r; have := Kn.bounds ll; have := Kn.bounds lr
  have b1 : lr.cnt + r.cnt < 4611686018427387904 := by omega
  have b2 : ll.cnt + (Kn.node b k v lr r).cnt < 4611686018427387904 := by simp only [Kn.cnt]; omega
  obtain ⟨c10, c11, c12, c13, f11, f12, f13⟩ := h1.cells
  obtain ⟨c20, c21, c22, c23, f21, f22, f23⟩ := h2.cells
  have W1 := fresh_top (h1.low lr.adr) (set_in ilr nblr 2 _) (set_in ir nbr 2 _) nblr nbr b1
  have fr0 : Fr [b, lb] w (w.setCell ⟨b, 2, none⟩ (.pointer lr.adr)) := (Fr.refl _ _).set (.inl (by simp)) _
  have h2' : Top (w.setCell ⟨b, 2, none⟩ (.pointer lr.adr)) lb lk lv ll.adr lr.adr := h2.fr (B := [b]) ((Fr.refl _ _).set (.inl (by simp)) _) (by simp; exact fun e => nbh e.symm)
  have ill' := set_in ill nbll 2 (.pointer lr.adr)
  clear h1 h2 ill ilr ir
  go_enter Try.func66, Try.ntmps66
  go_wp2_with (first
    | (go_at_call_of 57 (some (⟨b, 0, none⟩ : Addr))
       refine W1.mono ?_
       clear W1
       rintro e w1 ⟨rfl, hi, fr⟩
       have h3 := h2'.fr fr (by simp; exact fun e => nbh e.symm)
       have ill1 := in_fr fr ill' (fun x hx => by simp; rintro rfl; exact nbll hx)
       obtain ⟨c30, c31, c32, c33, f31, f32, f33⟩ := h3.cells
       have nn : lb ∉ (Kn.node b k v lr r).bs := by simp only [Kn.bs, List.mem_cons, List.mem_append, not_or]; exact ⟨fun e => nbh e.symm, nllr, nlr⟩
       have W2 := fresh_top (h3.high (some ⟨b, 0, none⟩)) (r := Kn.node b k v lr r) (set_in ill1 nlll 3 _) (set_in hi nn 3 _) nlll nn b2
       have fr1 : Fr [b, lb] w (w1.setCell ⟨lb, 3, none⟩ (.pointer (some ⟨b, 0, none⟩))) := (fr0.trans fr (fun x hx => .inl (by simp at hx; simp [hx]))).set (.inl (by simp)) _
       clear h3 ill1 hi)
    | (go_at_call_of 57 (some (⟨lb, 0, none⟩ : Addr))
       refine W2.mono ?_
       clear W2
       rintro e w2 ⟨rfl, hi2, fr2⟩))
  go_ret
  exact ⟨rfl, hi2, fr1.trans fr2 (fun x hx => .inl (by simp at hx; simp [hx]))⟩
end Go.Proofs.Ytdbkjpnejihnhaa.OrdSi
