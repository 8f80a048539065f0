/- Texts of one claim (laid by shake.py). -/
import Derived.Test.YtljnlnbopohghaaZs27
set_option linter.unusedVariables false
set_option linter.unusedSimpArgs false
section
namespace Go.Proofs.Ytljnlnbopohghaa.Mdl
open Go.RowKit Go.Shelf Go.Proofs.YtljnlnbopohghaaW.PrintWords Go.Proofs.YtljnlnbopohghaaW.PrintLast Go.Proofs.YtljnlnbopohghaaW.PrintMore Go.Proofs.Ytljnlnbopohghaa.Own Go.Proofs.Ytljnlnbopohghaa.Ord Go.Proofs.Ytljnlnbopohghaa Go.Proofs.Ytljnlnbopohghaa.P
set_option maxHeartbeats 2000000
set_option maxRecDepth 100000
abbrev repA (r : Rp) (A : Option Addr) (cp : Nat) : Value := .agg #[.int .i64 r.e, .bool r.fd, .string r.v, .slice A r.l.length cp, .int .i64 r.n, .bool r.fin]
def Dq (G G' : Nat → Nat) (w : World) (m : Nat) (c : Cf) (n : Int) (N : Nat) (r : Rp) (s : St) (A : Option Addr) (cp : Nat) (w' : World) : Prop :=
 (∀ k, k < w.heap.size → G' k = G k) ∧ Mw G' w' m c n s.s s.L s.T N ∧ It.FrM (fun k => G k ≠ 0) w w' ∧ Kd.V P.k103 103 w' 0 (fun k => w.heap.size ≤ k ∧ k < w'.heap.size ∧ G' k = 0) (.slice A r.l.length cp) r.l
def Dd (G : Nat → Nat) (w : World) (m : Nat) (c : Cf) (n : Int) (N : Nat) (r : Rp) (s : St) (A : Option Addr) (cp : Nat) (w' : World) : Prop := ∃ G', Dq G G' w m c n N r s A cp w'
theorem do_dd {G : Nat → Nat} {w : World} {m : Nat} {c : Cf} {n : Int} {s : St} {N : Nat} (h : Mw G w m c n s.s s.L s.T N) (who : Int) (o : Oq) (hk : Okd n s who o N) {A : Option Addr} {cap : Nat} (hC : ∀ W, It.FrM (fun k => G k ≠ 0) w W → Kd.C P.k117 W A o.b.length o.b) (hcap : o.b.length ≤ cap) {r : Rp} {s' : St} (e : doV c n s who o = (r, s')) :
  Calls Try.prog 23 #[.pointer (some ⟨m, 0, none⟩), .int .i64 who, .agg #[.int .u8 o.k, .string o.y, .string o.t, .int .i64 o.n, .slice A o.b.length cap]] w fun x w' => ∃ B cp, x = .returned (repA r B cp) ∧ Dd G w m c n (N + 2) r s' B cp w' := by
 refine (do_any h who o hk hC hcap).mono ?_
 rintro x w' ⟨v, rfl, G', h1, h2, h3, B, cp, rfl, h4⟩
 rw [e] at h2 h4 ⊢
 exact ⟨B, cp, rfl, G', h1, h2, h3, h4⟩
theorem do_bare {G : Nat → Nat} {w : World} {m : Nat} {c : Cf} {n : Int} {s : St} {N : Nat} (h : Mw G w m c n s.s s.L s.T N) (who k nn : Int) (y t : ByteArray) (hk : Okd n s who ⟨k, y, t, nn, []⟩ N) {r : Rp} {s' : St} (e : doV c n s who ⟨k, y, t, nn, []⟩ = (r, s')) :
  Calls Try.prog 23 #[.pointer (some ⟨m, 0, none⟩), .int .i64 who, .agg #[.int .u8 k, .string y, .string t, .int .i64 nn, .slice none 0 0]] w fun x w' => ∃ B cp, x = .returned (repA r B cp) ∧ Dd G w m c n (N + 2) r s' B cp w' :=
 do_dd h who ⟨k, y, t, nn, []⟩ hk (A := none) (cap := 0) (fun W _ => Kd.C_nil _ W) (Nat.le_refl 0) e
def c0 : Cf := ⟨2, 8, 4, 0, 4, 2, 4, 0, 1⟩
abbrev sa : ByteArray := ⟨#[97]⟩
abbrev sb : ByteArray := ⟨#[98]⟩
abbrev s1 : ByteArray := ⟨#[49]⟩
abbrev s2 : ByteArray := ⟨#[50]⟩
def b0 : List Ms := [⟨1, 0, sa, ⟨#[]⟩, s1, 0⟩, ⟨1, 0, sb, ⟨#[]⟩, s2, 0⟩]
def T0 : Int → List Cu := fun _ => []
def L1 : Row := [(sa, s1), (sb, s2)]
def k1 : List Cu := [⟨⟨⟨#[]⟩, ⟨#[]⟩⟩, false, false⟩]
def k2 : List Cu := [⟨⟨⟨#[97, 0]⟩, ⟨#[]⟩⟩, false, false⟩]
def k3 : List Cu := [⟨⟨⟨#[98, 0]⟩, ⟨#[]⟩⟩, false, false⟩]
theorem lv1 : doV c0 1 ⟨0, [], T0⟩ 1 ⟨2, ⟨#[]⟩, ⟨#[]⟩, 0, b0⟩ = (⟨0, false, ⟨#[]⟩, [], 0, false⟩, ⟨1, L1, T0⟩) := by kernel_rfl
theorem lv2 : doV c0 1 ⟨1, L1, T0⟩ 1 ⟨4, ⟨#[]⟩, ⟨#[]⟩, 0, []⟩ = (⟨0, false, ⟨#[]⟩, [], 1, false⟩, ⟨1, L1, setT T0 1 k1⟩) := by kernel_rfl
def T1 : Int → List Cu := setT T0 1 k1
def T2 : Int → List Cu := setT T1 1 k2
def T3 : Int → List Cu := setT T2 1 k3
def k4 : List Cu := [⟨⟨⟨#[]⟩, ⟨#[]⟩⟩, true, false⟩]
def T4 : Int → List Cu := setT T3 1 k4
theorem lv3 : doV c0 1 ⟨1, L1, T1⟩ 1 ⟨5, ⟨#[]⟩, ⟨#[]⟩, 1, []⟩ = (⟨0, false, ⟨#[]⟩, [⟨sa, s1⟩], 0, false⟩, ⟨1, L1, T2⟩) := by kernel_rfl
theorem lv4 : doV c0 1 ⟨1, L1, T2⟩ 1 ⟨5, ⟨#[]⟩, ⟨#[]⟩, 1, []⟩ = (⟨0, false, ⟨#[]⟩, [⟨sb, s2⟩], 0, false⟩, ⟨1, L1, T3⟩) := by kernel_rfl
theorem lv5 : doV c0 1 ⟨1, L1, T3⟩ 1 ⟨5, ⟨#[]⟩, ⟨#[]⟩, 1, []⟩ = (⟨0, false, ⟨#[]⟩, [], 0, true⟩, ⟨1, L1, T4⟩) := by kernel_rfl
theorem lk (k : Int) (s : St) (N : Nat) (b : List Ms) (h0 : 0 ≤ k) (h1 : k ≤ 255) (hb : b.length ≤ 2) (hb2 : ∀ x ∈ b, x.f2.size ≤ 1) (hs0 : 0 ≤ s.s) (hs1 : s.s ≤ 1) (hL : s.L.length ≤ 2) (hL2 : ∀ x ∈ s.L, x.1.size ≤ 1) (hT : (s.T 1).length ≤ 1) (hN : N ≤ 10) (nn : Int) (hn : 0 ≤ nn ∧ nn ≤ 1) : Okd 1 s 1 ⟨k, ⟨#[]⟩, ⟨#[]⟩, nn, b⟩ N :=
 ⟨by omega, h0, h1, Cur.wf_small (by show _ ≤ nn; omega) (by show nn ≤ _; omega), by show b.length ≤ _; omega, fun x hx => by have := hb2 x hx; omega, hs0, by omega, by omega, fun x hx => by have := hL2 x hx; omega, by omega, by omega⟩
abbrev objB : Obj := .cells #[.int .u8 1, .int .i64 0, .string sa, .string ⟨#[]⟩, .string s1, .int .u64 0, .int .u8 1, .int .i64 0, .string sb, .string ⟨#[]⟩, .string s2, .int .u64 0] 117 (0, 0)
theorem b0_reads {W : World} {b : Nat} (h : W.heap[b]? = some objB) : Kd.C P.k117 W (some ⟨b, 0, none⟩) 2 b0 := by
 refine ⟨rfl, by decide, fun _ => ⟨_, rfl, fun j p hp => ?_⟩⟩
 match j, hp with
 | 0, hp =>
  cases hp
  refine ⟨_, rfl, P.k117_mk W _, fun i u hu => ?_⟩
  match i, hu with
  | 0, hu => cases hu; exact blk_cell h 0
  | 1, hu => cases hu; exact blk_cell h 1
  | 2, hu => cases hu; exact blk_cell h 2
  | 3, hu => cases hu; exact blk_cell h 3
  | 4, hu => cases hu; exact blk_cell h 4
  | 5, hu => cases hu; exact blk_cell h 5
 | 1, hp =>
  cases hp
  refine ⟨_, rfl, P.k117_mk W _, fun i u hu => ?_⟩
  match i, hu with
  | 0, hu => cases hu; exact blk_cell h 6
  | 1, hu => cases hu; exact blk_cell h 7
  | 2, hu => cases hu; exact blk_cell h 8
  | 3, hu => cases hu; exact blk_cell h 9
  | 4, hu => cases hu; exact blk_cell h 10
  | 5, hu => cases hu; exact blk_cell h 11
theorem keepZ {G G' : Nat → Nat} {W W' : World} {k : Nat} {o : Obj} (hG : ∀ j, j < W.heap.size → G' j = G j) (hf : It.FrM (fun j => G j ≠ 0) W W') (h0 : G k = 0) (hb : W.heap[k]? = some o) : W'.heap[k]? = some o ∧ G' k = 0 :=
 ⟨hf.blk hb (by rw [h0]; simp), (hG k (blk_lt hb)).trans h0⟩
theorem keepV {G G' : Nat → Nat} {W W' : World} {Z : Nat → Prop} {v : Value} {xs : List En} (hG : ∀ j, j < W.heap.size → G' j = G j) (hf : It.FrM (fun j => G j ≠ 0) W W') (h0 : ∀ k, Z k → k < W.heap.size ∧ G k = 0) (hV : Kd.V P.k103 103 W 0 Z v xs) : Kd.V P.k103 103 W' 0 Z v xs ∧ ∀ k, Z k → k < W'.heap.size ∧ G' k = 0 :=
 ⟨Kd.V_step hV (fun j hj hjl => hf.block j hjl (by rw [(h0 j hj).2]; simp)), fun k hk => ⟨Nat.lt_of_lt_of_le (h0 k hk).1 hf.size, (hG k (h0 k hk).1).trans (h0 k hk).2⟩⟩
abbrev objR (r : Rp) (A : Option Addr) (cp : Nat) : Obj := .cells #[.int .i64 r.e, .bool r.fd, .string r.v, .slice A r.l.length cp, .int .i64 r.n, .bool r.fin] 59 (0, 0)
abbrev r1 : Rp := ⟨0, false, ⟨#[]⟩, [], 0, false⟩
abbrev r2 : Rp := ⟨0, false, ⟨#[]⟩, [], 1, false⟩
abbrev r3 : Rp := ⟨0, false, ⟨#[]⟩, [⟨sa, s1⟩], 0, false⟩
abbrev r4 : Rp := ⟨0, false, ⟨#[]⟩, [⟨sb, s2⟩], 0, false⟩
abbrev r5 : Rp := ⟨0, false, ⟨#[]⟩, [], 0, true⟩
theorem chk0 : room_Check.f c0.f0 c0.f1 c0.f2 c0.f3 c0.f4 c0.f5 c0.f6 c0.f7 c0.f8 = some 0 := by kernel_rfl
theorem below_of_frm {G : Nat → Nat} {w W W' : World} (h0 : ∀ k, k < w.heap.size → G k = 0) (hB : Below w.heap.size w W) (hf : It.FrM (fun j => G j ≠ 0) W W') : Below w.heap.size w W' :=
 ⟨hf.os.trans hB.os, hf.tape.trans hB.tape, hf.output.trans hB.output, Nat.le_trans hB.size hf.size, fun k hk => (hf.block k (Nat.lt_of_lt_of_le hk hB.size) (by rw [h0 k hk]; simp)).trans (hB.block k hk)⟩
theorem belowF {G G' : Nat → Nat} {w W W' : World} (h0 : ∀ k, k < w.heap.size → G k = 0) (hB : Below w.heap.size w W) (hG : ∀ j, j < W.heap.size → G' j = G j) (hf : It.FrM (fun j => G j ≠ 0) W W') : Below w.heap.size w W' ∧ ∀ k, k < w.heap.size → G' k = 0 :=
 ⟨below_of_frm h0 hB hf, fun k hk => (hG k (Nat.lt_of_lt_of_le hk hB.size)).trans (h0 k hk)⟩
def LiveE (w : World) (m : Nat) (G6 : Nat → Nat) (a3 a4 a5 a6 : Nat) (B4 B5 B6 : Option Addr) (cp4 cp5 cp6 : Nat) (F : World) : Prop :=
 (∃ ad, B4 = some ad ∧ F.cell? ad = some (.string sa) ∧ F.cell? ⟨ad.block, ad.off + 1, none⟩ = some (.string s1)) ∧
 F.cell? ⟨a3, 4, none⟩ = some (.int .i64 1) ∧ F.cell? ⟨a4, 3, none⟩ = some (.slice B4 1 cp4) ∧ F.cell? ⟨a4, 5, none⟩ = some (.bool false) ∧ F.cell? ⟨a5, 3, none⟩ = some (.slice B5 1 cp5) ∧ F.cell? ⟨a5, 5, none⟩ = some (.bool false) ∧ F.cell? ⟨a6, 3, none⟩ = some (.slice B6 0 cp6) ∧ F.cell? ⟨a6, 5, none⟩ = some (.bool true) ∧ (∃ N, Mw G6 F m c0 1 1 L1 T4 N) ∧ Below w.heap.size w F
theorem live_end {w w1 w2 w3 w4 w5 w6 : World} {m N1 N2 N3 N4 N5 cp2 cp3 cp4 cp5 cp6 : Nat} {G G2 G3 G4 G5 G6 : Nat → Nat} {B2 B3 B4 B5 B6 : Option Addr} (a0 : ∀ k, k < w.heap.size → G k = 0) (a1 : Below w.heap.size w w1)
  (d1 : Dq G G2 (w1.alloc objB) m c0 1 N1 r1 ⟨1, L1, T0⟩ B2 cp2 w2) (d2 : Dq G2 G3 w2 m c0 1 N2 r2 ⟨1, L1, T1⟩ B3 cp3 w3)
  (d3 : Dq G3 G4 (w3.alloc (objR r2 B3 cp3)) m c0 1 N3 r3 ⟨1, L1, T2⟩ B4 cp4 w4) (d4 : Dq G4 G5 (w4.alloc (objR r3 B4 cp4)) m c0 1 N4 r4 ⟨1, L1, T3⟩ B5 cp5 w5) (d5 : Dq G5 G6 (w5.alloc (objR r4 B5 cp5)) m c0 1 N5 r5 ⟨1, L1, T4⟩ B6 cp6 w6) :
  LiveE w m G6 w3.heap.size w4.heap.size w5.heap.size w6.heap.size B4 B5 B6 cp4 cp5 cp6 (w6.alloc (objR r5 B6 cp6)) := by
 have A := fun (W : World) (o : Obj) => below_alloc (Below.refl W.heap.size W) o
 obtain ⟨b1, z1⟩ := belowF a0 (below_alloc a1 _) d1.1 d1.2.2.1
 obtain ⟨b2, z2⟩ := belowF z1 b1 d2.1 d2.2.2.1
 obtain ⟨b3, z3⟩ := belowF z2 (below_alloc b2 _) d3.1 d3.2.2.1
 obtain ⟨b4, z4⟩ := belowF z3 (below_alloc b3 _) d4.1 d4.2.2.1
 obtain ⟨b5, z5⟩ := belowF z4 (below_alloc b4 _) d5.1 d5.2.2.1
 obtain ⟨p4, q4⟩ := keepZ d3.1 d3.2.2.1 (g0 d2.2.1.1 _ (Nat.le_refl _)) (blk_new w3 (objR r2 B3 cp3))
 obtain ⟨p5, q5⟩ := keepZ d4.1 d4.2.2.1 q4 (blk_alloc p4 _)
 obtain ⟨p6, q6⟩ := keepZ d5.1 d5.2.2.1 q5 (blk_alloc p5 _)
 have p7 := blk_alloc p6 (objR r5 B6 cp6)
 obtain ⟨u5, v5⟩ := keepZ d4.1 d4.2.2.1 (g0 d3.2.1.1 _ (Nat.le_refl _)) (blk_new w4 (objR r3 B4 cp4))
 obtain ⟨u6, v6⟩ := keepZ d5.1 d5.2.2.1 v5 (blk_alloc u5 _)
 have u7 := blk_alloc u6 (objR r5 B6 cp6)
 obtain ⟨t6, x6⟩ := keepZ d5.1 d5.2.2.1 (g0 d4.2.1.1 _ (Nat.le_refl _)) (blk_new w5 (objR r4 B5 cp5))
 have t7 := blk_alloc t6 (objR r5 B6 cp6)
 have y7 := blk_new w6 (objR r5 B6 cp6)
 obtain ⟨V5, Z5⟩ := keepV d4.1 d4.2.2.1 (fun k hk => ⟨Nat.lt_of_lt_of_le hk.2.1 (A w4 (objR r3 B4 cp4)).size, hk.2.2⟩) (Kd.V_alloc d3.2.2.2 (objR r3 B4 cp4))
 obtain ⟨V6, Z6⟩ := keepV d5.1 d5.2.2.1 (fun k hk => ⟨Nat.lt_of_lt_of_le (Z5 k hk).1 (A w5 (objR r4 B5 cp5)).size, (Z5 k hk).2⟩) (Kd.V_alloc V5 (objR r4 B5 cp5))
 have C7 := (Kd.V_reads' (Kd.V_alloc V6 (objR r5 B6 cp6))).2.2
 obtain ⟨ad, x, e, hx, c0_, c1_⟩ := at_E C7 0 (by decide) (by decide)
 cases hx
 have ea : ad.add ((0 : Int).toNat * 2) = ad := by show ad.add 0 = ad; simp [Addr.add]
 rw [ea] at c0_ c1_
 exact ⟨⟨ad, e, c0_, c1_⟩, blk_cell p7 4, blk_cell u7 3, blk_cell u7 5, blk_cell t7 3, blk_cell t7 5, blk_cell y7 3, blk_cell y7 5, ⟨N5, d5.2.1.below (A _ _)⟩, below_alloc b5 _⟩
attribute [local go_sem high] P.eqA103
theorem live_any (w : World) : Calls Try.prog 21 #[] w fun e w' => e = .returned (.bool true) ∧ Below w.heap.size w w' := by
 have hup := Try.underlying59
 have huo := Try.underlying56
 have hux := Try.underlying117
 have hue := Try.underlying103
 have huc := Try.underlying47
 have NW := new_ok w c0 1 chk0 (by omega) (by omega)
 have NW2 : Calls Try.prog 34 #[.agg #[.int .i64 2, .int .i64 8, .int .i64 4, .int .i64 0, .int .i64 4, .int .i64 2, .int .i64 4, .int .i64 0, .int .i64 1], .int .i64 1] w (NewV w c0 1) := NW
 clear NW
 go_enter Try.func21, Try.ntmps21
 go_wp2_with (first
  | (go_at_call 34; refine NW2.mono ?_; clear NW2; rintro e w1 ⟨m, G, rfl, hM1, hG1, hB1⟩; have bB := blk_new w1 objB; have z1 := g0 hM1.1 _ (Nat.le_refl _); have D1 := do_dd (w := w1.alloc objB) (s := ⟨0, [], T0⟩) (hM1.below (below_alloc (Below.refl _ _) _)) 1 ⟨2, ⟨#[]⟩, ⟨#[]⟩, 0, b0⟩ (lk _ _ _ _ (by decide) (by decide) (by decide) (by decide) (by decide) (by decide) (by decide) (by decide) (by decide) (by decide) _ (by decide)) (A := some ⟨w1.heap.size, 0, none⟩) (cap := 2) (fun W f => b0_reads (f.blk bB (by rw [z1]; simp))) (Nat.le_refl 2) lv1; have hA1 := Aside0.mk (And.intro hM1 (And.intro hG1 hB1)); clear hM1 hG1 hB1 z1 bB)
  | (go_at_call 23; refine D1.mono ?_; clear D1; rintro e w2 ⟨B2, cp2, rfl, G2, hD2⟩; have D2 := do_bare (s := ⟨1, L1, T0⟩) hD2.2.1 1 4 0 ⟨#[]⟩ ⟨#[]⟩ (lk _ _ _ _ (by decide) (by decide) (by decide) (by decide) (by decide) (by decide) (by decide) (by decide) (by decide) (by decide) _ (by decide)) lv2; have hA2 := Aside0.mk hD2; clear hD2)
  | (go_at_call 23; refine D2.mono ?_; clear D2; rintro e w3 ⟨B3, cp3, rfl, G3, hD3⟩; have D3 := do_bare (w := w3.alloc (objR r2 B3 cp3)) (s := ⟨1, L1, T1⟩) (hD3.2.1.below (below_alloc (Below.refl _ _) _)) 1 5 1 ⟨#[]⟩ ⟨#[]⟩ (lk _ _ _ _ (by decide) (by decide) (by decide) (by decide) (by decide) (by decide) (by decide) (by decide) (by decide) (by decide) _ (by decide)) lv3; have hA3 := Aside0.mk hD3; clear hD3)
  | (go_at_call 23; refine D3.mono ?_; clear D3; rintro e w4 ⟨B4, cp4, rfl, G4, hD4⟩; have D4 := do_bare (w := w4.alloc (objR r3 B4 cp4)) (s := ⟨1, L1, T2⟩) (hD4.2.1.below (below_alloc (Below.refl _ _) _)) 1 5 1 ⟨#[]⟩ ⟨#[]⟩ (lk _ _ _ _ (by decide) (by decide) (by decide) (by decide) (by decide) (by decide) (by decide) (by decide) (by decide) (by decide) _ (by decide)) lv4; have hA4 := Aside0.mk hD4; clear hD4)
  | (go_at_call 23; refine D4.mono ?_; clear D4; rintro e w5 ⟨B5, cp5, rfl, G5, hD5⟩; have D5 := do_bare (w := w5.alloc (objR r4 B5 cp5)) (s := ⟨1, L1, T3⟩) (hD5.2.1.below (below_alloc (Below.refl _ _) _)) 1 5 1 ⟨#[]⟩ ⟨#[]⟩ (lk _ _ _ _ (by decide) (by decide) (by decide) (by decide) (by decide) (by decide) (by decide) (by decide) (by decide) (by decide) _ (by decide)) lv5; have hA5 := Aside0.mk hD5; clear hD5)
  | (go_at_call 23; refine D5.mono ?_; clear D5; rintro e w6 ⟨B6, cp6, rfl, G6, hD6⟩; have hE : LiveE w m G6 w3.heap.size w4.heap.size w5.heap.size w6.heap.size B4 B5 B6 cp4 cp5 cp6 (w6.alloc (.cells #[.int .i64 0, .bool false, .string ⟨#[]⟩, .slice B6 0 cp6, .int .i64 0, .bool true] 59)) := live_end hA1.out.2.1 hA1.out.2.2 hA2.out hA3.out hA4.out hA5.out hD6; clear hA2 hA3 hA4 hA5 hD6; obtain ⟨⟨ad, rfl, k0, k1⟩, k2, k3, k4, k5, k6, k7, k8, ⟨N6, hM6⟩, hBF⟩ := hE; have SN := sends_any hM6; have hBA := Aside0.mk hBF; clear hBF hM6)
  | (go_at_call 26; refine SN.mono ?_; clear SN; rintro e w7 ⟨rfl, rfl⟩)
  | (refine ⟨trivial, ?_⟩))
 go_ret
 exact ⟨rfl, hBA.out⟩
end Go.Proofs.Ytljnlnbopohghaa.Mdl
end
section
namespace Go.Proofs.Ytljnlnbopohghaa.Lv
open Go.RowKit
def liveF : Option Bool := some true
theorem liveF_calls {r : Bool} (w : World) (h : liveF = some r) :
  Calls Try.prog 21 #[] w fun e w' => e = .returned (.bool r) ∧ Below w.heap.size w w' := by
 cases h
 exact Mdl.live_any w
end Go.Proofs.Ytljnlnbopohghaa.Lv
end
