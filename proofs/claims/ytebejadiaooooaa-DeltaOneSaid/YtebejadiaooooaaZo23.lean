/- Texts of one claim (laid by shake.py). -/
import Derived.Test.YtebejadiaooooaaZo16
import Derived.Test.YtebejadiaooooaaZo20
import Derived.Test.YtebejadiaooooaaZo22
import Derived.Test.YtebejadiaooooaaZo10
import Derived.Test.YtebejadiaooooaaZo7
import Derived.Test.YtebejadiaooooaaZo19
import Derived.LoopTactic
set_option linter.unusedVariables false
set_option linter.unusedSimpArgs false
section
namespace Go.Proofs.Ytebejadiaooooaa.P
open Go.RowKit Go.Proofs.YtebejadiaooooaaW.PrintWords Go.Proofs.YtebejadiaooooaaW.PrintLast Go.Proofs.YtebejadiaooooaaW.PrintMore Go.Proofs.Ytebejadiaooooaa.Own Go.Proofs.Ytebejadiaooooaa
def first (a b : ByteArray) : ByteArray := if before b a = true then b else a
def meet (f t g u : ByteArray) : ByteArray × ByteArray × Bool :=
 if (rr f t && rr g u && rr (mxs f g) (first t u)) = true then (mxs f g, first t u, true) else (e0, e0, false)
def within (f t g u : ByteArray) : Bool := (meet f t g u).2.2 && (same (meet f t g u).1 f && same (meet f t g u).2.1 t)
end Go.Proofs.Ytebejadiaooooaa.P
end
section
namespace Go.Proofs.Ytebejadiaooooaa.P
open Go.RowKit Go.Proofs.YtebejadiaooooaaW.PrintWords Go.Proofs.YtebejadiaooooaaW.PrintLast Go.Proofs.YtebejadiaooooaaW.PrintMore Go.Proofs.Ytebejadiaooooaa.Own Go.Proofs.Ytebejadiaooooaa
def touchesM (m : Ms) (s : ByteArray) : Bool := touches m.f0 m.f2 m.f3 s
def lastN (l : List Ms) (s : ByteArray) : Nat → Int
 | 0 => -1
 | n + 1 => match l[n]? with
  | some m => if touchesM m s = true then (n : Int) else lastN l s n
  | none => lastN l s n
def lastI (l : List Ms) (s : ByteArray) : Int := lastN l s l.length
def okS (m : Ms) : Prop := m.f2.size ≤ 140737488351232
theorem last_loop (l : List Ms) (s : ByteArray) (hl : l.length ≤ 1000000) (hs : ∀ m ∈ l, okS m) : ∀ (n k : Nat), n ≤ l.length → n < k → compact_last.l0 k l s ((n : Int) - 1) = some (lastN l s n) := by
 intro n
 induction n with
 | zero =>
  intro k _ hk
  obtain ⟨k, rfl⟩ : ∃ m, k = m + 1 := ⟨k - 1, by omega⟩
  rw [compact_last.l0, if_neg (by omega)]
  rfl
 | succ n ih =>
  intro k hn hk
  obtain ⟨k, rfl⟩ : ∃ m, k = m + 1 := ⟨k - 1, by omega⟩
  have e : ((n + 1 : Nat) : Int) - 1 = (n : Int) := by omega
  have hx : l[n]? = some l[n] := List.getElem?_eq_getElem (by omega)
  rw [compact_last.l0, e, if_pos (by omega), if_pos (by omega), if_pos (by omega), rdM_at hx, Touches_eq _ _ _ _ _ _ _ (hs _ (List.getElem_mem _)), Option.bind_some, IntWalk.wrap64_in _ (by omega), ih k (by omega) (by omega)]
  have e2 : lastN l s (n + 1) = if touchesM l[n] s = true then (n : Int) else lastN l s n := by rw [lastN, hx]
  rw [e2]
  unfold touchesM
  split <;> rfl
theorem last_eq (k : Nat) (l : List Ms) (s : ByteArray) (hl : l.length ≤ 1000000) (hs : ∀ m ∈ l, okS m) (hk : l.length < k) : compact_last.f k l s = some (lastI l s) := by
 unfold compact_last.f lastI
 rw [IntWalk.wrap64_in _ (by omega)]
 exact last_loop l s hl hs l.length k (Nat.le_refl _) hk
def gone (f t : ByteArray) (x : Ms) : Bool := (isPt x.f0 && holds f t x.f2) || (decide (x.f0 = 4) && within x.f2 x.f3 f t)
end Go.Proofs.Ytebejadiaooooaa.P
end
section
namespace Go.Proofs.Ytebejadiaooooaa.Cp
open Go.RowKit Go.Shelf Go.Proofs.YtebejadiaooooaaW.PrintWords Go.Proofs.YtebejadiaooooaaW.PrintLast Go.Proofs.YtebejadiaooooaaW.PrintMore Go.Proofs.Ytebejadiaooooaa.Own Go.Proofs.Ytebejadiaooooaa
set_option maxHeartbeats 4000000
set_option maxRecDepth 100000
abbrev objM (m : Ms) : Obj := .cells #[.int .u8 m.f0, .int .i64 m.f1, .string m.f2, .string m.f3, .string m.f4, .int .u64 m.f5] 32 (0, 0)
end Go.Proofs.Ytebejadiaooooaa.Cp
end
section
namespace Go.Proofs.Ytebejadiaooooaa.Cp
open Go.RowKit Go.Shelf Go.Proofs.YtebejadiaooooaaW.PrintWords Go.Proofs.YtebejadiaooooaaW.PrintLast Go.Proofs.YtebejadiaooooaaW.PrintMore Go.Proofs.Ytebejadiaooooaa.Own Go.Proofs.Ytebejadiaooooaa
set_option maxHeartbeats 2000000
set_option maxRecDepth 100000
theorem at_M {w : World} {A : Option Addr} {n : Nat} {xs : List Ms} (h : Kd.C P.k32 w A n xs) (i : Int) (h0 : 0 ≤ i) (h1 : i < n) : ∃ ad, ∃ x : Ms, A = some ad ∧ xs[i.toNat]? = some x ∧ w.cell? (ad.add (i.toNat * 6)) = some (.int .u8 x.f0) ∧
  w.cell? ⟨(ad.add (i.toNat * 6)).block, (ad.add (i.toNat * 6)).off + 1, none⟩ = some (.int .i64 x.f1) ∧ w.cell? ⟨(ad.add (i.toNat * 6)).block, (ad.add (i.toNat * 6)).off + 2, none⟩ = some (.string x.f2) ∧ w.cell? ⟨(ad.add (i.toNat * 6)).block, (ad.add (i.toNat * 6)).off + 3, none⟩ = some (.string x.f3) ∧
  w.cell? ⟨(ad.add (i.toNat * 6)).block, (ad.add (i.toNat * 6)).off + 4, none⟩ = some (.string x.f4) ∧ w.cell? ⟨(ad.add (i.toNat * 6)).block, (ad.add (i.toNat * 6)).off + 5, none⟩ = some (.int .u64 x.f5) := by
 obtain ⟨ad, c, e, _, hK, hc0⟩ := Kd.C_get h P.z32 i h0 h1
 have hc : ∀ j u, c[j]? = some u → w.cell? (ad.add (i.toNat * 6 + j)) = some u := hc0
 obtain rfl := P.k32_open hK
 have hl := h.1
 refine ⟨ad, _, e, ?_, hc 0 _ rfl, by rw [← add_field _ _ 1 (by omega)]; exact hc 1 _ rfl, by rw [← add_field _ _ 2 (by omega)]; exact hc 2 _ rfl, by rw [← add_field _ _ 3 (by omega)]; exact hc 3 _ rfl, by rw [← add_field _ _ 4 (by omega)]; exact hc 4 _ rfl, by rw [← add_field _ _ 5 (by omega)]; exact hc 5 _ rfl⟩
 rw [List.getD_eq_getElem?_getD, List.getElem?_eq_getElem (by omega)]
 rfl
theorem cell_below {w W : World} (hb : Below w.heap.size w W) {a : Addr} {v : Value} (h : w.cell? a = some v) : W.cell? a = some v := (World.cell?_of_block (hb.block a.block (World.block_lt_of_cell? w a h))).trans h
end Go.Proofs.Ytebejadiaooooaa.Cp
end
section
namespace Go.Proofs.Ytebejadiaooooaa.Cp
open Go.RowKit Go.Shelf Go.Lib Go.Proofs.YtebejadiaooooaaW.PrintWords Go.Proofs.YtebejadiaooooaaW.PrintLast Go.Proofs.YtebejadiaooooaaW.PrintMore Go.Proofs.Ytebejadiaooooaa.Own Go.Proofs.Ytebejadiaooooaa
set_option maxHeartbeats 4000000
set_option maxRecDepth 1000000
def zM : Value := .agg #[.int .u8 0, .int .i64 0, .string ⟨#[]⟩, .string ⟨#[]⟩, .string ⟨#[]⟩, .int .u64 0]
end Go.Proofs.Ytebejadiaooooaa.Cp
end
section
namespace Go.Proofs.Ytebejadiaooooaa.Cp
open Go.RowKit Go.Shelf Go.Proofs.YtebejadiaooooaaW.PrintWords Go.Proofs.YtebejadiaooooaaW.PrintLast Go.Proofs.YtebejadiaooooaaW.PrintMore Go.Proofs.Ytebejadiaooooaa.Own Go.Proofs.Ytebejadiaooooaa
set_option maxHeartbeats 4000000
set_option maxRecDepth 100000
theorem Rw.snoc {w' : World} {base : Nat} {v' : Value} {l : List Ms} {m : Ms} (h : w'.ownsRow base 32 6 v' (l.length + 1) (flat l ++ enc m)) : Rw w' base v' (l ++ [m]) := by
 show w'.ownsRow _ _ _ _ _ _
 rw [List.length_append, flat_snoc]
 exact h
theorem cell_enc {W : World} {D : Nat} {m : Ms} (h : W.heap[D]? = some (objM m)) : ∀ j u, (enc m)[j]? = some u → W.cell? ((⟨D, 0, none⟩ : Addr).add j) = some u := by
 intro j u hu
 rw [Addr.add_lit, Nat.zero_add, cell_of_row W D j _ _ _ h]
 have hj : j < 6 := (List.getElem?_eq_some_iff.1 hu).1
 obtain rfl | rfl | rfl | rfl | rfl | rfl : j = 0 ∨ j = 1 ∨ j = 2 ∨ j = 3 ∨ j = 4 ∨ j = 5 := by omega
 all_goals exact hu
theorem enc_one (m : Ms) : ∀ u ∈ enc m, u.oneCell' = true := fun u hu => flat_one (l := [m]) (by rw [flat_cons, flat_nil, List.append_nil]; exact hu)
theorem le_max {n : Nat} (h : n ≤ 100000) : n + 1 ≤ maxLen := Nat.le_trans (Nat.succ_le_succ h) (by unfold maxLen; decide)
end Go.Proofs.Ytebejadiaooooaa.Cp
end
section
namespace Go.Proofs.Ytebejadiaooooaa.Cp
open Go.RowKit Go.Shelf Go.Proofs.YtebejadiaooooaaW.PrintWords Go.Proofs.YtebejadiaooooaaW.PrintLast Go.Proofs.YtebejadiaooooaaW.PrintMore Go.Proofs.Ytebejadiaooooaa.Own Go.Proofs.Ytebejadiaooooaa
set_option maxHeartbeats 4000000
set_option maxRecDepth 100000
theorem put_any (d : Int) (W : World) : Calls Try.prog 95 #[.int .u64 d] W fun e w' => e = .returned (.string (strOfNums (Wp.eight d))) ∧ Below W.heap.size W w' := P.word_Put.calls d _ W rfl
end Go.Proofs.Ytebejadiaooooaa.Cp
end
section
namespace Go.Proofs.Ytebejadiaooooaa.Cp
open Go.RowKit Go.Shelf Go.Proofs.YtebejadiaooooaaW.PrintWords Go.Proofs.YtebejadiaooooaaW.PrintLast Go.Proofs.YtebejadiaooooaaW.PrintMore Go.Proofs.Ytebejadiaooooaa.Own Go.Proofs.Ytebejadiaooooaa
set_option maxHeartbeats 4000000
set_option maxRecDepth 100000
def St (g cap : Nat) (l : List Ms) (p : Ms → Bool) (i j : Nat) (W : World) : Prop :=
 ∃ cur : Array Value, W.heap[g]? = some (.cells cur 32 (0, 0)) ∧ cur.size = cap * 6 ∧ cur.toList.take (i * 6) = flat ((l.take j).filter p) ∧ (cur.toList.drop (j * 6)).take ((l.length - j) * 6) = flat (l.drop j)
theorem St.below {g cap i j : Nat} {l : List Ms} {p : Ms → Bool} {W W' : World} (h : St g cap l p i j W) (hb : Below W.heap.size W W') : St g cap l p i j W' := by
 obtain ⟨cur, hh, h1, h2, h3⟩ := h
 exact ⟨cur, blk_below hh hb, h1, h2, h3⟩
theorem St.lt {g cap i j : Nat} {l : List Ms} {p : Ms → Bool} {W : World} (h : St g cap l p i j W) : g < W.heap.size := by
 obtain ⟨cur, hh, _⟩ := h
 exact (Array.getElem?_eq_some_iff.1 hh).1
end Go.Proofs.Ytebejadiaooooaa.Cp
end
section
namespace Go.Proofs.Ytebejadiaooooaa.Cp
open Go.RowKit Go.Shelf Go.Proofs.YtebejadiaooooaaW.PrintWords Go.Proofs.YtebejadiaooooaaW.PrintLast Go.Proofs.YtebejadiaooooaaW.PrintMore Go.Proofs.Ytebejadiaooooaa.Own Go.Proofs.Ytebejadiaooooaa
theorem append_step {P : Program} {ops : Array Oper} {o : Oper} {a : Act} {w : World} {Q : Exit → Act → World → Prop} {Kc : Act → World → Prop} {N : Option Tmp} (hw : Region.wanted o (yielded ops a.tmps) = true) (hN : o.dst = N) (s x : Operand) (t : TypeId)
  (ho : o.op = .call { callee := .builtin .append, args := #[s, x], argTypes := #[t, t] })
  (base : Nat) (e : TypeId) (i : TypeInfo) (z : Value) (size bytes : Nat) (ht : P.underlying t = some (.slice e)) (hi : P.info? e = some i) (hz : i.zero = some z)
  (hsize : i.size = size) (hby : i.bytes = bytes) (hzs : z.cells.size = size) (hsz : 0 < size)
  (v : Value) (n : Nat) (xs : List Value) (hs : a.eval s = v) (hown : w.ownsRow base e size v n xs)
  (ad : Addr) (m c : Nat) (news : List Value) (hx : a.eval x = .slice (some ad) m c) (hl : news.length = m * size) (hnews : ∀ j u, news[j]? = some u → w.cell? (ad.add j) = some u) (h1 : ∀ u ∈ news, u.oneCell' = true)
  (h63 : n + m ≤ maxLen) (hbytes : (n + m) * bytes ≤ 140737488355328) (hbase : base ≤ w.heap.size)
  (h : ∀ v' w', w'.ownsRow base e size v' (n + m) (xs ++ news) → w.grownBy w' v.ownBlock → (v'.ownBlock = v.ownBlock ∨ v'.ownBlock = some w.heap.size) → Kc (a.put N v') w') :
  if Region.wanted o (yielded ops a.tmps) = true then Oper.wp P o a w Kc Q else Kc (a.put N undef) w := by
 rw [if_pos hw]
 subst hN
 obtain ⟨v', w', hr, h2, h3, h4, h5⟩ := run_append_own_at (P := P) w base t o.type e i z size bytes ht hi hz hsize hby hzs hsz v n xs hown ad m c news hl hnews h1 h63 hbytes hbase
 unfold Oper.wp
 simp [execOp, ho, resolve, invoke, builtin, hs, hx, hr, Result.andThen]
 exact h v' w' h2 h3 h5
end Go.Proofs.Ytebejadiaooooaa.Cp
end
