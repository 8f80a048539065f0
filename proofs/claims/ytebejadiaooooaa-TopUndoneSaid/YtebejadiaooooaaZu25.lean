/- Texts of one claim (laid by shake.py). -/
import Derived.Test.YtebejadiaooooaaZu24
import Derived.LoopTactic
import Derived.Test.YtebejadiaooooaaZu20
set_option linter.unusedVariables false
set_option linter.unusedSimpArgs false
section
namespace Go.Proofs.Ytebejadiaooooaa.Cp
open Go.RowKit Go.Shelf Go.Proofs.YtebejadiaooooaaW.PrintWords Go.Proofs.YtebejadiaooooaaW.PrintLast Go.Proofs.YtebejadiaooooaaW.PrintMore Go.Proofs.Ytebejadiaooooaa.Own Go.Proofs.Ytebejadiaooooaa
set_option maxHeartbeats 2000000
set_option maxRecDepth 100000
theorem gone_any {W : World} {B : Nat} {f t : ByteArray} (hB : W.heap[B]? = some (objR f t)) (x : Ms) (hx : P.okS x) :
  Calls Try.prog 62 #[aggM x, .pointer (some ⟨B, 0, none⟩)] W fun e w' => e = .returned (.bool (P.gone f t x)) ∧ Below W.heap.size W w' := by
 have hG : P.gone f t x = ((P.isPt x.f0 && P.holds f t x.f2) || (decide (x.f0 = 4) && P.within x.f2 x.f3 f t)) := rfl
 cases hp : P.isPt x.f0 with
 | true =>
  have hk : (x.f0 == 4) = false := by simpa using P.isPt_ne4 hp
  have hk2 : decide (x.f0 = 4) = false := by simpa using P.isPt_ne4 hp
  cases hh : P.holds f t x.f2 with
  | true =>
   rw [hG, hp, hh]
   exact gone_A hB x hx hp hh
  | false =>
   rw [hG, hp, hh, hk2]
   exact gone_B hB x hx hp hh hk
 | false =>
  by_cases h4 : x.f0 = 4
  ·rw [hG, hp, decide_eq_true h4]
   simp only [Bool.false_and, Bool.false_or, Bool.true_and]
   exact gone_C hB x hx hp (by simpa using h4)
  ·rw [hG, hp, decide_eq_false h4]
   exact gone_D hB x hx hp (by simpa using h4)
theorem at_M {w : World} {A : Option Addr} {n : Nat} {xs : List Ms} (h : Kd.C P.k32 w A n xs) (i : Int) (h0 : 0 ≤ i) (h1 : i < n) : ∃ ad, ∃ x : Ms, A = some ad ∧ xs[i.toNat]? = some x ∧ w.cell? (ad.add (i.toNat * 6)) = some (.int .u8 x.f0) ∧
  w.cell? ⟨(ad.add (i.toNat * 6)).block, (ad.add (i.toNat * 6)).off + 1, none⟩ = some (.int .i64 x.f1) ∧ w.cell? ⟨(ad.add (i.toNat * 6)).block, (ad.add (i.toNat * 6)).off + 2, none⟩ = some (.string x.f2) ∧ w.cell? ⟨(ad.add (i.toNat * 6)).block, (ad.add (i.toNat * 6)).off + 3, none⟩ = some (.string x.f3) ∧
  w.cell? ⟨(ad.add (i.toNat * 6)).block, (ad.add (i.toNat * 6)).off + 4, none⟩ = some (.string x.f4) ∧ w.cell? ⟨(ad.add (i.toNat * 6)).block, (ad.add (i.toNat * 6)).off + 5, none⟩ = some (.int .u64 x.f5) := by
 obtain ⟨ad, c, e, _, hK, hc0⟩ := Kd.C_get h P.z32 i h0 h1
 have hc : ∀ j u, c[j]? = some u → w.cell? (ad.add (i.toNat * 6 + j)) = some u := hc0
 obtain rfl := P.k32_open hK
 have hl := h.1
 refine ⟨ad, _, e, ?_, hc 0 _ rfl, by rw [← add_field _ _ 1 (by omega)]; exact hc 1 _ rfl, by rw [← add_field _ _ 2 (by omega)]; exact hc 2 _ rfl, by rw [← add_field _ _ 3 (by omega)]; exact hc 3 _ rfl, by rw [← add_field _ _ 4 (by omega)]; exact hc 4 _ rfl, by rw [← add_field _ _ 5 (by omega)]; exact hc 5 _ rfl⟩
 rw [List.getD_eq_getElem?_getD, List.getElem?_eq_getElem (by omega)]
 rfl
theorem cell_below {w W : World} (hb : Below w.heap.size w W) {a : Addr} {v : Value} (h : w.cell? a = some v) : W.cell? a = some v := (World.cell?_of_block (hb.block a.block (World.block_lt_of_cell? w a h))).trans h
abbrev fnG (B : Nat) : Value := .func (.func 62) #[] #[.pointer (some ⟨B, 0, none⟩)]
def Idx (p : Ms → Bool) (l : List Ms) (r : Int) : Prop :=
 (r = -1 ∧ ∀ x ∈ l, p x = false) ∨ ∃ (i : Nat) (x : Ms), r = (i : Int) ∧ l[i]? = some x ∧ p x = true ∧ ∀ (j : Nat) (y : Ms), j < i → l[j]? = some y → p y = false
theorem index_any {w : World} {A : Option Addr} {c B : Nat} {l : List Ms} {f t : ByteArray} (hC : Kd.C P.k32 w A l.length l) (hcap : l.length ≤ c) (hlen : l.length ≤ 100000) (hB : w.heap[B]? = some (objR f t)) (hsz : ∀ x ∈ l, P.okS x) :
  Calls Try.prog 96 #[.slice A l.length c, fnG B] w fun e w' => ∃ r, e = .returned (.int .i64 r) ∧ Idx (P.gone f t) l r ∧ Below w.heap.size w w' := by
 have hmax := Kd.C_max hC
 have hum := Try.underlying32
 go_enter Try.func96, Try.ntmps96
 go_wp2
 go_loopg [8] l.length (fun g iv wr => ∃ i : Int, iv = .int .i64 i ∧ Aside (0 ≤ i ∧ i.toNat + g = l.length) ∧ Aside (∀ (j : Nat) (y : Ms), j < i.toNat → l[j]? = some y → P.gone f t y = false) ∧ Aside (Below w.heap.size w wr))
 case atStart => exact ⟨0, rfl, ⟨Int.le_refl _, by simp⟩, fun j y hj => by simp at hj, Below.refl _ _⟩
 case round =>
  obtain ⟨i, rfl, hA, hN, hB1⟩ := hrel
  obtain ⟨h0, hg⟩ := hA.out
  cases gk with
  | zero =>
   have d0 : decide (i < (l.length : Int)) = false := decide_eq_false (by omega)
   clear hg hC
   go_wp2
   go_ret
   refine ⟨-1, rfl, .inl ⟨rfl, fun x hx => ?_⟩, hB1.out⟩
   obtain ⟨j, hj⟩ := List.getElem?_of_mem hx
   have := hA.out
   exact hN.out j x (by have := (List.getElem?_eq_some_iff.1 hj).1; omega) hj
  | succ g =>
   have hlt : i < (l.length : Int) := by omega
   obtain ⟨ad, x, rfl, hx, q0, q1, q2, q3, q4, q5⟩ := at_M hC i h0 hlt
   have e0 := cell_below hB1.out q0
   have e1 := cell_below hB1.out q1
   have e2 := cell_below hB1.out q2
   have e3 := cell_below hB1.out q3
   have e4 := cell_below hB1.out q4
   have e5 := cell_below hB1.out q5
   have d0 := decide_eq_true hlt
   have d1 := decide_eq_true h0
   have d2 := eq_true h0
   have d3 := eq_true hlt
   have hwi : wrap64 (i + 1) = i + 1 := IntWalk.wrap64_in _ (by omega)
   have hX := Aside0.mk hx
   have hCA := Aside0.mk hC
   have GN := gone_any (blk_below hB hB1.out) x (hsz x (List.mem_of_getElem? hx))
   have hgA := Aside0.mk (And.intro h0 (And.intro hlt hg))
   clear hC hg hx q0 q1 q2 q3 q4 q5 hlt h0 hA
   cases hk : P.gone f t x with
   | true =>
    rw [hk] at GN
    go_wp2_with (go_at_call 62; refine GN.mono ?_; clear GN; rintro e w1 ⟨rfl, hb1⟩)
    go_ret
    obtain ⟨h0, hlt, hg⟩ := hgA.out
    refine ⟨i, rfl, .inr ⟨i.toNat, x, by omega, hX.out, hk, hN.out⟩, below_step hB1.out hb1⟩
   | false =>
    rw [hk] at GN
    go_wp2_with (go_at_call 62; refine GN.mono ?_; clear GN; rintro e w1 ⟨rfl, hb1⟩)
    go_roundg g
    case measure => omega
    case rel =>
     obtain ⟨h0, hlt, hg⟩ := hgA.out
     refine ⟨i + 1, by rw [hwi], ⟨by omega, by omega⟩, fun j y hj hy => ?_, below_step hB1.out hb1⟩
     rcases Nat.lt_or_ge j i.toNat with h | h
     ·exact hN.out j y h hy
     ·have e : j = i.toNat := by omega
      subst e
      rw [hX.out] at hy
      rw [← Option.some.inj hy]
      exact hk
end Go.Proofs.Ytebejadiaooooaa.Cp
end
section
namespace Go.Proofs.Ytebejadiaooooaa.Cp
open Go.RowKit Go.Shelf Go.Lib Go.Proofs.YtebejadiaooooaaW.PrintWords Go.Proofs.YtebejadiaooooaaW.PrintLast Go.Proofs.YtebejadiaooooaaW.PrintMore Go.Proofs.Ytebejadiaooooaa.Own Go.Proofs.Ytebejadiaooooaa
set_option maxHeartbeats 4000000
set_option maxRecDepth 1000000
def zM : Value := .agg #[.int .u8 0, .int .i64 0, .string ⟨#[]⟩, .string ⟨#[]⟩, .string ⟨#[]⟩, .int .u64 0]
def zs (n : Nat) : List Value := (Builtin.zeroCells zM.cells n).toList
theorem zs_length (n : Nat) : (zs n).length = n * 6 := by
 simp only [zs, Builtin.zeroCells, Array.toList_map, List.length_map, Array.length_toList, Array.size_range]
 rfl
theorem zs_one {n : Nat} {u : Value} (h : u ∈ zs n) : u.oneCell' = true := by
 simp only [zs, Builtin.zeroCells, Array.toList_map, List.mem_map] at h
 obtain ⟨i, _, rfl⟩ := h
 have h6 : i % zM.cells.size < 6 := Nat.mod_lt _ (by decide)
 generalize i % zM.cells.size = j at h6 ⊢
 obtain rfl | rfl | rfl | rfl | rfl | rfl : j = 0 ∨ j = 1 ∨ j = 2 ∨ j = 3 ∨ j = 4 ∨ j = 5 := by omega
 all_goals rfl
theorem zeroM (w : World) : (zeroValue 32).run Try.prog w = .ok zM w := by
 obtain ⟨i0, hi0, hz0, hz1, hz2⟩ := info_parts P.info32
 go_simp
 try simp [zeroValue, typeInfo, hi0, hz0, zM]
theorem run_clear_rows (w : World) (ty : TypeId) (b o n c : Nat) (hn : 0 < n) (hc : ∀ j, j < n * 6 → (w.cell? ⟨b, o + j, none⟩).isSome = true) (hf : ∀ j, j < n * 6 → w.frozen? ⟨b, o + j, none⟩ = false) :
  (Builtin.clear_ #[22] ty #[.slice (some ⟨b, o, none⟩) n c]).run Try.prog w = .ok (.tuple #[]) (w.setCells b o (zs n)) := by
 have hst := run_storeCells_cells (P := Try.prog) b o (zs n) 0 w (by rw [zs_length]; simpa using hc) (by rw [zs_length]; simpa using hf) (fun v hv => zs_one hv)
 simp only [Nat.add_zero] at hst
 obtain ⟨m, rfl⟩ : ∃ m, n = m + 1 := ⟨n - 1, by omega⟩
 have hst2 : (storeCells ⟨b, o, none⟩ (Builtin.zeroCells (Value.agg #[.int .u8 0, .int .i64 0, .string ⟨#[]⟩, .string ⟨#[]⟩, .string ⟨#[]⟩, .int .u64 0]).cells (m + 1)).toList).run Try.prog w = .ok () (w.setCells b o (zs (m + 1))) := hst
 simp [Builtin.clear_, run_underlying Try.underlying22, zeroM, hst2]
theorem delete_any {w : World} {base g cap : Nat} {cur : Array Value} {l : List Ms} (i j : Nat) (hb : base ≤ g) (hh : w.heap[g]? = some (.cells cur 32 (0, 0))) (hc : l.length ≤ cap) (hm : cap ≤ maxLen) (hs : cur.size = cap * 6) (ht : cur.toList.take (l.length * 6) = flat l) (hj : j = i + 1) (hi : i < l.length) :
  Calls Try.prog 94 #[.slice (some ⟨g, 0, none⟩) l.length cap, .int .i64 i, .int .i64 j] w fun e w' => e = .returned (.slice (some ⟨g, 0, none⟩) (l.eraseIdx i).length cap) ∧ Rw w' base (.slice (some ⟨g, 0, none⟩) (l.eraseIdx i).length cap) (l.eraseIdx i) ∧ w.grownBy w' (some g) := by
 obtain ⟨i0, hi0, hz0, hz1, hz2⟩ := info_parts P.info32
 have hmx : maxLen = 9223372036854775807 := rfl
 obtain ⟨news, hnews⟩ : ∃ news, news = flat (l.drop j) := ⟨_, rfl⟩
 have hlen : news.length = (l.length - j) * 6 := by rw [hnews, flat_length, List.length_drop]
 have hcl : ∀ t u, (flat l)[t]? = some u → w.drew.cell? ⟨g, t, none⟩ = some u := fun t u hu => cell_of_take (w := w.drew) hh (by rw [flat_length]; exact ht) hu
 obtain ⟨A, hA, hsrc⟩ : ∃ A : Addr, (if cap = j then some (⟨g, 0, none⟩ : Addr) else some ⟨g, j * 6, none⟩) = some A ∧ Hid (∀ t u, news[t]? = some u → w.drew.cell? (A.add t) = some u) := by
  by_cases h : cap = j
  ·refine ⟨⟨g, 0, none⟩, by simp [h], fun t u hu => ?_⟩
   have h0 : news.length = 0 := by rw [hlen]; omega
   rw [List.length_eq_zero_iff.1 h0] at hu
   simp at hu
  ·refine ⟨⟨g, j * 6, none⟩, by simp [h], fun t u hu => ?_⟩
   rw [Addr.add_lit]
   refine hcl _ _ ?_
   rw [← hu, hnews, ← flat_drop, List.getElem?_drop]
 have s1 : Hid (news.length = (l.length - j) * 6) := hlen
 have s2 : Hid (∀ u ∈ news, u.oneCell' = true) := fun u hu => flat_one (by rw [hnews] at hu; exact hu)
 have s3 : Hid (∀ t, t < news.length → (w.drew.cell? ⟨g, 0 + i * 6 + t, none⟩).isSome = true ∧ w.drew.frozen? ⟨g, 0 + i * 6 + t, none⟩ = false) := by
  intro t ht2
  rw [hlen] at ht2
  refine ⟨?_, blk_frozen (w := w.drew) hh _⟩
  rw [cell_of_row w.drew g _ cur 32 (0, 0) hh]
  rw [Array.getElem?_eq_getElem (by omega)]
  rfl
 obtain ⟨W1, hW1⟩ : ∃ W1, W1 = w.drew.setCells g (0 + i * 6) news := ⟨_, rfl⟩
 obtain ⟨cur1, hh1, hcur1⟩ := heap_setCells news (0 + i * 6) w.drew cur hh (by rw [hlen, hs]; omega)
 rw [← hW1] at hh1
 have hsz1 : cur1.size = cur.size := by
  rw [← Array.length_toList, hcur1, List.length_append, List.length_append, List.length_take, List.length_drop, Array.length_toList, hlen, hs]
  omega
 have hclr : ∀ ty, (Builtin.clear_ #[22] ty #[.slice (some ⟨g, (i + (l.length - j)) * 6, none⟩) (l.length - (i + (l.length - j))) (cap - (i + (l.length - j)))]).run Try.prog W1 = .ok (.tuple #[]) (W1.setCells g ((i + (l.length - j)) * 6) (zs (l.length - (i + (l.length - j))))) :=
  fun ty => run_clear_rows W1 ty g _ _ _ (by omega) (fun t ht => by rw [cell_of_row W1 g _ cur1 32 (0, 0) hh1, Array.getElem?_eq_getElem (by omega)]; rfl) (fun t ht => blk_frozen hh1 _)
 have X : Aside (W1.heap[g]? = some (.cells cur1 32 (0, 0))) := hh1
 have hW : Hid (W1 = w.drew.setCells g (0 + i * 6) news) := hW1
 have hic : i ≤ cap := by omega
 have hjc : j ≤ cap := by omega
 have hnc : l.length ≤ cap := hc
 have S1 : Aside (cur1.toList = cur.toList.take (0 + i * 6) ++ news ++ cur.toList.drop (0 + i * 6 + news.length) ∧ cur1.size = cap * 6) := ⟨hcur1, hsz1.trans hs⟩
 have S0 : Aside (cur.toList.take (l.length * 6) = flat l ∧ news = flat (l.drop j) ∧ cur.size = cap * 6) := ⟨ht, hnews, hs⟩
 have S2 : Aside (w.heap[g]? = some (.cells cur 32 (0, 0))) := hh
 have hin : ¬ (cap = i + (l.length - j)) := by omega
 have hne : ¬ (i = j) := by omega
 have mixed : Try.prog.follows Departure.mixedOrders = true := by kernel_rfl
 have hij : i ≤ j := by omega
 have hlt : i < j := by omega
 have hj2 : j ≤ l.length := by omega
 have hJ : Hid (j = i + 1) := hj
 clear hW1 hh1 hcur1 hsz1 hcl hnews hlen hs ht hh hj hi
 go_enter Try.func94, Try.ntmps94
 go_wp2_with fail
 go_region_law_o (refine step_append_room rfl (.tmp 22) (.tmp 25) 22 rfl 32 i0 6 Try.underlying22 hi0 hz1 g 0 i cap (by simp [Act.eval, Act.put]) A (l.length - j) (cap - j) news (by simp [Act.eval, Act.put]) s1.out hsrc.out s2.out (by omega) s3.out ?_; rw [← hW.out])
 go_wp2
 go_ret
 obtain rfl := hJ.out
 obtain ⟨hcur1, hsz1⟩ := S1.out
 obtain ⟨ht, hnews, hs⟩ := S0.out
 have hh := S2.out
 have hh1 := X.out
 have hle : (l.eraseIdx i).length = l.length - 1 := List.length_eraseIdx_of_lt (by omega)
 obtain ⟨cur2, hh2, hcur2⟩ := heap_setCells (zs (l.length - (i + (l.length - (i + 1))))) ((i + (l.length - (i + 1))) * 6) W1 cur1 hh1 (by rw [zs_length, hsz1]; omega)
 have hnl : news.length = (l.length - (i + 1)) * 6 := s1.out
 have hl1 : cur1.toList.length = cap * 6 := by rw [Array.length_toList, hsz1]
 have hl2 : cur2.size = cap * 6 := by
  have h := congrArg List.length hcur2
  rw [List.length_append, List.length_append, List.length_take, List.length_drop, zs_length, Array.length_toList, hl1] at h
  omega
 have hl0 : cur.toList.length = cap * 6 := by rw [Array.length_toList, hs]
 refine ⟨?_, ?_, ?_⟩
 ·rw [hle]
  show Ending.returned (Value.slice _ (i + (l.length - (i + 1))) cap) = _
  rw [show i + (l.length - (i + 1)) = l.length - 1 by omega]
 ·refine Rw.mk hb hh2 (by omega) hm hl2 ?_
  rw [hcur2, hle, List.append_assoc, List.take_append_of_le_length (by rw [List.length_take, hl1]; omega), List.take_take, Nat.min_eq_left (by omega), hcur1]
  have e1 : cur.toList.take (0 + i * 6) = flat (l.take i) := by
   rw [← flat_take, ← ht, List.take_take, Nat.min_eq_left (by omega), Nat.zero_add]
  have hll : (flat (l.take i) ++ flat (l.drop (i + 1))).length = (l.length - 1) * 6 := by
   rw [List.length_append, flat_length, flat_length, List.length_take, List.length_drop]
   omega
  rw [e1, hnews, List.take_append_of_le_length (by rw [hll]; omega), List.take_of_length_le (by rw [hll]; omega), ← flat_append, List.eraseIdx_eq_take_drop_succ]
 ·refine ((grown_drew w (some g)).trans ?_).trans (grown_setCells g _ _ _)
  rw [hW.out]
  exact grown_setCells g _ _ _
end Go.Proofs.Ytebejadiaooooaa.Cp
end
section
namespace Go.Proofs.Ytebejadiaooooaa.Cp
open Go.RowKit Go.Shelf Go.Proofs.YtebejadiaooooaaW.PrintWords Go.Proofs.YtebejadiaooooaaW.PrintLast Go.Proofs.YtebejadiaooooaaW.PrintMore Go.Proofs.Ytebejadiaooooaa.Own Go.Proofs.Ytebejadiaooooaa
set_option maxHeartbeats 4000000
set_option maxRecDepth 100000
def Pt (w : World) (base : Nat) (v : Value) (l' : List Ms) (e : Ending) (w' : World) : Prop :=
 ∃ v', e = .returned v' ∧ Rw w' base v' l' ∧ w.grownBy w' v.ownBlock ∧ (v'.ownBlock = v.ownBlock ∨ ∃ k, v'.ownBlock = some k ∧ w.heap.size ≤ k)
theorem Rw.snoc {w' : World} {base : Nat} {v' : Value} {l : List Ms} {m : Ms} (h : w'.ownsRow base 32 6 v' (l.length + 1) (flat l ++ enc m)) : Rw w' base v' (l ++ [m]) := by
 show w'.ownsRow _ _ _ _ _ _
 rw [List.length_append, flat_snoc]
 exact h
theorem last_any {W : World} {A : Option Addr} {c : Nat} {l : List Ms} (hC : Kd.C P.k32 W A l.length l) (hcap : l.length ≤ c) (hlen : l.length ≤ 100000) (hsz : ∀ x ∈ l, P.okS x) (s : ByteArray) :
  Calls Try.prog 92 #[.slice A l.length c, .string s] W fun e w' => e = .returned (.int .i64 (P.lastI l s)) ∧ Below W.heap.size W w' :=
 P.compact_last.calls (l.length + 1) A c l s _ W hC hcap (P.last_eq _ l s (by omega) hsz (by omega))
theorem cell_enc {W : World} {D : Nat} {m : Ms} (h : W.heap[D]? = some (objM m)) : ∀ j u, (enc m)[j]? = some u → W.cell? ((⟨D, 0, none⟩ : Addr).add j) = some u := by
 intro j u hu
 rw [Addr.add_lit, Nat.zero_add, cell_of_row W D j _ _ _ h]
 have hj : j < 6 := (List.getElem?_eq_some_iff.1 hu).1
 obtain rfl | rfl | rfl | rfl | rfl | rfl : j = 0 ∨ j = 1 ∨ j = 2 ∨ j = 3 ∨ j = 4 ∨ j = 5 := by omega
 all_goals exact hu
theorem enc_one (m : Ms) : ∀ u ∈ enc m, u.oneCell' = true := fun u hu => flat_one (l := [m]) (by rw [flat_cons, flat_nil, List.append_nil]; exact hu)
theorem le_max {n : Nat} (h : n ≤ 100000) : n + 1 ≤ maxLen := Nat.le_trans (Nat.succ_le_succ h) (by unfold maxLen; decide)
theorem row_succ {w : World} {base e size n : Nat} {v : Value} {xs : List Value} (h : w.ownsRow base e size v (n + 1) xs) : ∃ g cap, v = .slice (some ⟨g, 0, none⟩) (n + 1) cap := by
 rcases h.2 with ⟨_, h⟩ | ⟨g, cap, cur, hv, _⟩
 ·omega
 ·exact ⟨g, cap, hv⟩
theorem pt_end {w W w2 : World} {base : Nat} {v v' : Value} {l : List Ms} {m : Ms} (hg : w.grownBy W v.ownBlock) (hown : w2.ownsRow base 32 6 v' (l.length + 1) (flat l ++ enc m)) (hgr : W.grownBy w2 v.ownBlock) (hat : v'.ownBlock = v.ownBlock ∨ v'.ownBlock = some W.heap.size) : Pt w base v (l ++ [m]) (.returned v') w2 :=
 ⟨v', rfl, Rw.snoc hown, hg.trans hgr, hat.imp id (fun h => ⟨_, h, hg.size⟩)⟩
theorem pt_new {w : World} {base : Nat} {v : Value} {l : List Ms} (m : Ms) (hr : Rw w base v l) (hbase : base ≤ w.heap.size) (hlen : l.length ≤ 100000) (hsz : ∀ x ∈ l, P.okS x) (hl : P.lastI l m.f2 = -1) :
  Calls Try.prog 60 #[v, aggM m] w (Pt w base v (l ++ [m])) := by
 obtain ⟨A, c, rfl⟩ := hr.slice
 obtain ⟨_, hcap, hC⟩ := C_of_Rw hr
 have LA := last_any (Kd.C_below hC (below_alloc (Below.refl _ _) (objM m))) hcap hlen hsz m.f2
 rw [hl] at LA
 have hum := Try.underlying32
 obtain ⟨i0, hi, hz0, hz1, hz2⟩ := info_parts P.info32
 have hmx : maxLen = 9223372036854775807 := rfl
 clear hC
 go_enter Try.func60, Try.ntmps60
 go_wp2_with (first
  | (go_at_call 92; refine LA.mono ?_; clear LA; rintro e w1 ⟨rfl, hb1⟩; have hD := blk_below (blk_new w (objM m)) hb1; have y0 := blk_cell hD 0; have y1 := blk_cell hD 1; have y2 := blk_cell hD 2; have y3 := blk_cell hD 3; have y4 := blk_cell hD 4; have y5 := blk_cell hD 5; simp at y0 y1 y2 y3 y4 y5; have hr1 := (hr.below (below_alloc (Below.refl _ _) (objM m))).below hb1; have hs1 := hb1.size)
  | (at_builtin; refine wpList_append_own_at _ rfl _ _ 22 rfl base 32 i0 zM 6 72 Try.underlying22 hi hz0 hz1 hz2 rfl (by decide) _ _ _ rfl (World.ownsRow.alloc hr1 _) ⟨w1.heap.size, 0, none⟩ 1 1 (enc m) rfl rfl (cell_enc (blk_new w1 (objM m))) (enc_one m) (le_max hlen) (by omega) (by simp at hs1 ⊢; omega) ?_; intro v' w2 hown hgr _ hat))
 obtain ⟨g', cap', rfl⟩ := row_succ hown
 go_ret
 exact pt_end (((grown_below (below_alloc (Below.refl _ _) (objM m)) _).trans (grown_below hb1 _)).trans (grown_below (below_alloc (Below.refl _ _) (objM m)) _)) hown hgr hat
theorem pt_keep {w : World} {base : Nat} {v : Value} {l : List Ms} (m : Ms) (hr : Rw w base v l) (hbase : base ≤ w.heap.size) (hlen : l.length ≤ 100000) (hsz : ∀ x ∈ l, P.okS x) {i : Nat} {x : Ms} (hl : P.lastI l m.f2 = (i : Int)) (hx : l[i]? = some x) (hp : P.isPt x.f0 = false) (h2 : (m.f0 == 2) = true) :
  Calls Try.prog 60 #[v, aggM m] w (Pt w base v l) := by
 obtain ⟨A, c, rfl⟩ := hr.slice
 obtain ⟨_, hcap, hC⟩ := C_of_Rw hr
 have hC1 := Kd.C_below hC (below_alloc (Below.refl _ _) (objM m))
 have LA := last_any hC1 hcap hlen hsz m.f2
 rw [hl] at LA
 have IP := isPt_any x
 rw [hp] at IP
 have hum := Try.underlying32
 have hil : i < l.length := (List.getElem?_eq_some_iff.1 hx).1
 obtain ⟨ad, x', rfl, hx', q0, q1, q2, q3, q4, q5⟩ := at_M hC1 (i : Int) (by omega) (by omega)
 obtain rfl : x' = x := by simp at hx'; rw [hx] at hx'; exact (Option.some.inj hx').symm
 simp only [Int.toNat_natCast] at q0 q1 q2 q3 q4 q5
 have d0 : ((i : Int) < 0) = False := eq_false (by omega)
 have d1 : decide ((i : Int) < 0) = false := decide_eq_false (by omega)
 have d2 : decide (0 ≤ (i : Int)) = true := decide_eq_true (by omega)
 have d3 : decide ((i : Int) < (l.length : Int)) = true := decide_eq_true (by omega)
 have d4 : ((i : Int) < (l.length : Int)) = True := eq_true (by omega)
 have d5 : (0 ≤ (i : Int)) = True := eq_true (by omega)
 have hi2 : i < l.length := hil
 clear hC hx hx' hil hl hp hC1
 go_enter Try.func60, Try.ntmps60
 go_wp2_with (first
  | (go_at_call 92; refine LA.mono ?_; clear LA; rintro e w1 ⟨rfl, hb1⟩; have hD := blk_below (blk_new w (objM m)) hb1; have y0 := blk_cell hD 0; have y1 := blk_cell hD 1; have y2 := blk_cell hD 2; have y3 := blk_cell hD 3; have y4 := blk_cell hD 4; have y5 := blk_cell hD 5; simp at y0 y1 y2 y3 y4 y5; have e0 := cell_below hb1 q0; have e1 := cell_below hb1 q1; have e2 := cell_below hb1 q2; have e3 := cell_below hb1 q3; have e4 := cell_below hb1 q4; have e5 := cell_below hb1 q5)
  | (go_at_call 55; refine (IP _).mono ?_; clear IP; rintro e w2 ⟨rfl, hb2⟩; have hD2 := blk_below hD hb2; (try clear y0 y1 y2 y3 y4 y5); have y0 := blk_cell hD2 0; have y1 := blk_cell hD2 1; have y2 := blk_cell hD2 2; have y3 := blk_cell hD2 3; have y4 := blk_cell hD2 4; have y5 := blk_cell hD2 5; simp at y0 y1 y2 y3 y4 y5))
 go_ret
 have hb : Below w.heap.size w w2 := below_step (below_step (below_alloc (Below.refl _ _) (objM m)) hb1) hb2
 exact ⟨_, rfl, hr.below hb, grown_below hb _, .inl rfl⟩
theorem pt_app {w : World} {base : Nat} {v : Value} {l : List Ms} (m : Ms) (hr : Rw w base v l) (hbase : base ≤ w.heap.size) (hlen : l.length ≤ 100000) (hsz : ∀ x ∈ l, P.okS x) {i : Nat} {x : Ms} (hl : P.lastI l m.f2 = (i : Int)) (hx : l[i]? = some x) (hp : P.isPt x.f0 = false) (h2 : (m.f0 == 2) = false) (h3 : (m.f0 == 3) = false) :
  Calls Try.prog 60 #[v, aggM m] w (Pt w base v (l ++ [m])) := by
 obtain ⟨A, c, rfl⟩ := hr.slice
 obtain ⟨_, hcap, hC⟩ := C_of_Rw hr
 have hC1 := Kd.C_below hC (below_alloc (Below.refl _ _) (objM m))
 have LA := last_any hC1 hcap hlen hsz m.f2
 rw [hl] at LA
 have IP := isPt_any x
 rw [hp] at IP
 have hum := Try.underlying32
 obtain ⟨i0, hi, hz0, hz1, hz2⟩ := info_parts P.info32
 have hmx : maxLen = 9223372036854775807 := rfl
 have hil : i < l.length := (List.getElem?_eq_some_iff.1 hx).1
 obtain ⟨ad, x', rfl, hx', q0, q1, q2, q3, q4, q5⟩ := at_M hC1 (i : Int) (by omega) (by omega)
 obtain rfl : x' = x := by simp at hx'; rw [hx] at hx'; exact (Option.some.inj hx').symm
 simp only [Int.toNat_natCast] at q0 q1 q2 q3 q4 q5
 have d0 : ((i : Int) < 0) = False := eq_false (by omega)
 have d1 : decide ((i : Int) < 0) = false := decide_eq_false (by omega)
 have d2 : decide (0 ≤ (i : Int)) = true := decide_eq_true (by omega)
 have d3 : decide ((i : Int) < (l.length : Int)) = true := decide_eq_true (by omega)
 have d4 : ((i : Int) < (l.length : Int)) = True := eq_true (by omega)
 have d5 : (0 ≤ (i : Int)) = True := eq_true (by omega)
 have hi2 : i < l.length := hil
 clear hC hx hx' hil hl hp hC1
 go_enter Try.func60, Try.ntmps60
 go_wp2_with (first
  | (go_at_call 92; refine LA.mono ?_; clear LA; rintro e w1 ⟨rfl, hb1⟩; have hD := blk_below (blk_new w (objM m)) hb1; have y0 := blk_cell hD 0; have y1 := blk_cell hD 1; have y2 := blk_cell hD 2; have y3 := blk_cell hD 3; have y4 := blk_cell hD 4; have y5 := blk_cell hD 5; simp at y0 y1 y2 y3 y4 y5; have e0 := cell_below hb1 q0; have e1 := cell_below hb1 q1; have e2 := cell_below hb1 q2; have e3 := cell_below hb1 q3; have e4 := cell_below hb1 q4; have e5 := cell_below hb1 q5)
  | (go_at_call 55; refine (IP _).mono ?_; clear IP; rintro e w2 ⟨rfl, hb2⟩; have hD2 := blk_below hD hb2; (try clear y0 y1 y2 y3 y4 y5); have y0 := blk_cell hD2 0; have y1 := blk_cell hD2 1; have y2 := blk_cell hD2 2; have y3 := blk_cell hD2 3; have y4 := blk_cell hD2 4; have y5 := blk_cell hD2 5; simp at y0 y1 y2 y3 y4 y5; have hb := Aside0.mk (below_step (below_step (below_alloc (Below.refl w.heap.size w) (objM m)) hb1) hb2); have hr1 := Aside0.mk (hr.below hb.out); have hs1 := hb.out.size)
  | (at_builtin; refine wpList_append_own_at _ rfl _ _ 22 rfl base 32 i0 zM 6 72 Try.underlying22 hi hz0 hz1 hz2 rfl (by decide) _ _ _ rfl (World.ownsRow.alloc hr1.out _) ⟨w2.heap.size, 0, none⟩ 1 1 (enc m) rfl rfl (cell_enc (blk_new w2 (objM m))) (enc_one m) (le_max hlen) (by omega) (by simp; omega) ?_; intro v' w3 hown hgr _ hat))
 obtain ⟨g', cap', rfl⟩ := row_succ hown
 go_ret
 exact pt_end ((grown_below hb.out _).trans (grown_below (below_alloc (Below.refl _ _) (objM m)) _)) hown hgr hat
end Go.Proofs.Ytebejadiaooooaa.Cp
end
section
namespace Go.Proofs.Ytebejadiaooooaa.Cp
open Go.RowKit Go.Shelf Go.Proofs.YtebejadiaooooaaW.PrintWords Go.Proofs.YtebejadiaooooaaW.PrintLast Go.Proofs.YtebejadiaooooaaW.PrintMore Go.Proofs.Ytebejadiaooooaa.Own Go.Proofs.Ytebejadiaooooaa
open List renaming setIfInBounds_toArray → sA1, set_cons_zero → sA2, set_cons_succ → sA3, getElem_toArray → sA4, getElem_cons_zero → sA5, getElem_cons_succ → sA6
set_option maxHeartbeats 4000000
set_option maxRecDepth 100000
theorem ptT4 : rtab .any (opsOf Try.f60 4) = rtab .any (opsOf Try.f60 4) := rfl
theorem ptT5 : rtab .any (opsOf Try.f60 5) = rtab .any (opsOf Try.f60 5) := rfl
theorem ptT9 : rtab .any (opsOf Try.f60 9) = rtab .any (opsOf Try.f60 9) := rfl
theorem box_set {W : World} {D : Nat} {m : Ms} (m' : Ms) (h : W.heap[D]? = some (objM m)) : (W.setCells D 0 (enc m')).heap[D]? = some (objM m') :=
 blk_set (blk_set (blk_set (blk_set (blk_set (blk_set h 0 _) 1 _) 2 _) 3 _) 4 _) 5 _
theorem put_any (d : Int) (W : World) : Calls Try.prog 95 #[.int .u64 d] W fun e w' => e = .returned (.string (strOfNums (Wp.eight d))) ∧ Below W.heap.size W w' := P.word_Put.calls d _ W rfl
theorem join_any (a b : Ms) (ha : P.isPt a.f0 = true) (hb : P.isPt b.f0 = true) (hk : a.f2 = b.f2) (W : World) : Calls Try.prog 93 #[aggM a, aggM b] W fun e w' => e = .returned (.tuple #[aggM (P.joinM a b), .bool true]) ∧ Below W.heap.size W w' :=
 P.msg_Join.calls (0 + 10) _ _ _ _ _ _ _ _ _ _ _ _ _ _ _ _ _ _ _ W (P.Join_eq 0 a b ha hb hk)
theorem pt_add {w : World} {base : Nat} {v : Value} {l : List Ms} (m : Ms) (hr : Rw w base v l) (hbase : base ≤ w.heap.size) (hlen : l.length ≤ 100000) (hsz : ∀ x ∈ l, P.okS x) {i : Nat} {x : Ms} (hl : P.lastI l m.f2 = (i : Int)) (hx : l[i]? = some x) (hp : P.isPt x.f0 = false) (h2 : (m.f0 == 2) = false) (h3 : (m.f0 == 3) = true) :
  Calls Try.prog 60 #[v, aggM m] w (Pt w base v (l ++ [⟨1, m.f1, m.f2, P.e0, strOfNums (Wp.eight m.f5), 0⟩])) := by
 obtain ⟨A, c, rfl⟩ := hr.slice
 obtain ⟨_, hcap, hC⟩ := C_of_Rw hr
 have hC1 := Kd.C_below hC (below_alloc (Below.refl _ _) (objM m))
 have LA := last_any hC1 hcap hlen hsz m.f2
 rw [hl] at LA
 have IP := isPt_any x
 rw [hp] at IP
 have hum := Try.underlying32
 obtain ⟨i0, hi, hz0, hz1, hz2⟩ := info_parts P.info32
 have hmx : maxLen = 9223372036854775807 := rfl
 have hil : i < l.length := (List.getElem?_eq_some_iff.1 hx).1
 obtain ⟨ad, x', rfl, hx', q0, q1, q2, q3, q4, q5⟩ := at_M hC1 (i : Int) (by omega) (by omega)
 obtain rfl : x' = x := by simp at hx'; rw [hx] at hx'; exact (Option.some.inj hx').symm
 simp only [Int.toNat_natCast] at q0 q1 q2 q3 q4 q5
 have d0 : ((i : Int) < 0) = False := eq_false (by omega)
 have d1 : decide ((i : Int) < 0) = false := decide_eq_false (by omega)
 have d2 : decide (0 ≤ (i : Int)) = true := decide_eq_true (by omega)
 have d3 : decide ((i : Int) < (l.length : Int)) = true := decide_eq_true (by omega)
 have d4 : ((i : Int) < (l.length : Int)) = True := eq_true (by omega)
 have d5 : (0 ≤ (i : Int)) = True := eq_true (by omega)
 have hi2 : i < l.length := hil
 clear hC hx hx' hil hl hp hC1
 go_enter Try.func60, Try.ntmps60
 go_wp2_with (first
  | (go_at_call 92; refine LA.mono ?_; clear LA; rintro e w1 ⟨rfl, hb1⟩; have hD := blk_below (blk_new w (objM m)) hb1; have y0 := blk_cell hD 0; have y1 := blk_cell hD 1; have y2 := blk_cell hD 2; have y3 := blk_cell hD 3; have y4 := blk_cell hD 4; have y5 := blk_cell hD 5; simp at y0 y1 y2 y3 y4 y5; have e0 := cell_below hb1 q0; have e1 := cell_below hb1 q1; have e2 := cell_below hb1 q2; have e3 := cell_below hb1 q3; have e4 := cell_below hb1 q4; have e5 := cell_below hb1 q5)
  | (go_at_call 55; refine (IP _).mono ?_; clear IP; rintro e w2 ⟨rfl, hb2⟩; have hD2 := blk_below hD hb2; (try clear y0 y1 y2 y3 y4 y5); have y0 := blk_cell hD2 0; have y1 := blk_cell hD2 1; have y2 := blk_cell hD2 2; have y3 := blk_cell hD2 3; have y4 := blk_cell hD2 4; have y5 := blk_cell hD2 5; simp at y0 y1 y2 y3 y4 y5; have hb := Aside0.mk (below_step (below_step (below_alloc (Below.refl w.heap.size w) (objM m)) hb1) hb2); have hr1 := Aside0.mk (hr.below hb.out); have hs1 := hb.out.size))
 rename_i K0 hK0
 clear y0 y1 y2 y3 y4 y5
 have hDd : w2.drew.heap[w.heap.size]? = some (objM m) := hD2
 refine start_ (n := 9) (S := fun w' => w'.cell? ⟨w.heap.size, 0, none⟩ = some (.int .u8 m.f0) ∧ w'.cell? ⟨w.heap.size, 1, none⟩ = some (.int .i64 m.f1) ∧ w'.cell? ⟨w.heap.size, 2, none⟩ = some (.string m.f2) ∧ w'.cell? ⟨w.heap.size, 3, none⟩ = some (.string m.f3) ∧ w'.cell? ⟨w.heap.size, 4, none⟩ = some (.string m.f4) ∧ w'.cell? ⟨w.heap.size, 5, none⟩ = some (.int .u64 m.f5)) (ds := [8]) #[false, false, false, false, false, false, false, false, false] (by kernel_rfl) rfl rfl ⟨blk_cell hDd 0, blk_cell hDd 1, blk_cell hDd 2, blk_cell hDd 3, blk_cell hDd 4, blk_cell hDd 5⟩ (fun hHeld => ?_)
 have HT_ := Aside0.mk ptT9
 refine pure_ (i := 0) (N := some 44) (v := ?_) (a' := ?_) #[true, false, false, false, false, false, false, false, false] rfl rfl (any_of HT_.out (by kernel_rfl)) (fun _ _ _ h => h) (Or.inl ⟨by rfl, ?_⟩) ?_ ?_
 rotate_left
 ·intro w'
  go_simp
  with_reducible rfl
 rotate_left
 ·simp only [Act.put, sA1, sA2, sA3, i64_w, i32_w]
  rfl
 refine pure_ (i := 2) (N := some 46) (v := ?_) (a' := ?_) #[true, false, true, false, false, false, false, false, false] rfl rfl (any_of HT_.out (by kernel_rfl)) (fun _ _ _ h => h) (Or.inl ⟨by rfl, ?_⟩) ?_ ?_
 rotate_left
 ·intro w'
  go_simp
  with_reducible rfl
 rotate_left
 ·simp only [Act.put, sA1, sA2, sA3, i64_w, i32_w]
  rfl
 refine pure_ (i := 4) (N := some 48) (v := ?_) (a' := ?_) #[true, false, true, false, true, false, false, false, false] rfl rfl (any_of HT_.out (by kernel_rfl)) (fun _ _ _ h => h) (Or.inl ⟨by rfl, ?_⟩) ?_ ?_
 rotate_left
 ·intro w'
  go_simp
  with_reducible rfl
 rotate_left
 ·simp only [Act.put, sA1, sA2, sA3, i64_w, i32_w]
  rfl
 refine take_ (i := 1) (N := some 45) (v := ?_) (a' := ?_) #[true, true, true, false, true, false, false, false, false] rfl rfl (take_of HT_.out (by kernel_rfl)) (fun _ _ _ h => h) (Or.inl ⟨by rfl, ?_⟩) hHeld ?_ ?_
 rotate_left
 ·rintro w' ⟨s0, s1, s2, s3, s4, s5⟩
  go_simp
  with_reducible rfl
 rotate_left
 ·simp only [Act.put, sA1, sA2, sA3, i64_w, i32_w]
  rfl
 refine take_ (i := 3) (N := some 47) (v := ?_) (a' := ?_) #[true, true, true, true, true, false, false, false, false] rfl rfl (take_of HT_.out (by kernel_rfl)) (fun _ _ _ h => h) (Or.inl ⟨by rfl, ?_⟩) hHeld ?_ ?_
 rotate_left
 ·rintro w' ⟨s0, s1, s2, s3, s4, s5⟩
  go_simp
  with_reducible rfl
 rotate_left
 ·simp only [Act.put, sA1, sA2, sA3, i64_w, i32_w]
  rfl
 refine take_ (i := 5) (N := some 49) (v := ?_) (a' := ?_) #[true, true, true, true, true, true, false, false, false] rfl rfl (take_of HT_.out (by kernel_rfl)) (fun _ _ _ h => h) (Or.inl ⟨by rfl, ?_⟩) hHeld ?_ ?_
 rotate_left
 ·rintro w' ⟨s0, s1, s2, s3, s4, s5⟩
  go_simp
  with_reducible rfl
 rotate_left
 ·simp only [Act.put, sA1, sA2, sA3, i64_w, i32_w]
  rfl
 refine one_ (i := 6) (N := some 50) #[true, true, true, true, true, true, true, false, false] rfl rfl (one_of HT_.out (by kernel_rfl)) (by decide) (fun K hK => ?_)
 refine goes_ Try.func95 (by kernel_rfl) rfl #[.int .u64 m.f5] (by rfl) rfl rfl (by (try simp only [List.map_toArray, List.map_cons, List.map_nil]); first | done | rfl) ?_
 refine (put_any m.f5 _).mono ?_
 rintro e w3 ⟨rfl, hb3⟩
 refine ⟨_, rfl, ?_⟩
 have hD3 := blk_below hDd hb3
 refine hK.out _ _ ⟨blk_cell hD3 0, blk_cell hD3 1, blk_cell hD3 2, blk_cell hD3 3, blk_cell hD3 4, blk_cell hD3 5⟩ (fun hHeld => ?_)
 clear hK K
 refine norm_ (a' := ?_) ?_ ?_
 rotate_left
 ·show Act.put _ (some 50) _ = _
  simp only [Act.put, sA1, sA2, sA3, i64_w, i32_w]
  rfl
 refine pure_ (i := 7) (N := some 51) (v := ?_) (a' := ?_) #[true, true, true, true, true, true, true, true, false] rfl rfl (any_of HT_.out (by kernel_rfl)) (fun _ _ _ h => h) (Or.inl ⟨by rfl, ?_⟩) ?_ ?_
 rotate_left
 ·intro w'
  go_simp
  with_reducible rfl
 rotate_left
 ·simp only [Act.put, sA1, sA2, sA3, i64_w, i32_w]
  rfl
 have z0 := blk_frozen hD3 0
 have z1 := blk_frozen hD3 1
 have z2 := blk_frozen hD3 2
 have z3 := blk_frozen hD3 3
 have z4 := blk_frozen hD3 4
 have z5 := blk_frozen hD3 5
 obtain ⟨t0, t1, t2, t3, t4, t5⟩ := hHeld
 refine last_ (i := 8) (N := none) #[true, true, true, true, true, true, true, true, true] rfl rfl (one_of HT_.out (by kernel_rfl)) (by decide) (fun K hK => ?_)
 refine skip_ (w1 := w3.setCells w.heap.size 0 (enc ⟨1, m.f1, m.f2, P.e0, strOfNums (Wp.eight m.f5), 0⟩)) (by rfl) rfl ?_ ?_
 ·go_simp
  rfl
 refine hK.out _ _ ?_
 clear hK K
 refine done_ (done_of HT_.out (by kernel_rfl)) ?_
 have hD4 := box_set ⟨1, m.f1, m.f2, P.e0, strOfNums (Wp.eight m.f5), 0⟩ hD3
 have hg4 := grown_setCells w.heap.size (enc ⟨1, m.f1, m.f2, P.e0, strOfNums (Wp.eight m.f5), 0⟩) 0 w3
 generalize hm4 : (⟨1, m.f1, m.f2, P.e0, strOfNums (Wp.eight m.f5), 0⟩ : Ms) = m4 at hD4 hg4 ⊢
 generalize w3.setCells w.heap.size 0 (enc m4) = w4 at hD4 hg4 ⊢
 have hb03 : Below w.heap.size w w3 := below_step (below_drew hb.out) hb3
 have hr4 := Aside0.mk (own_move (hr.below hb03) (fun k hk => hg4.block k (own_lt (hr.below hb03) k hk) (fun e => by have h1 := own_lt hr k hk; injection e with e; omega)))
 have hs4 : w.heap.size ≤ w4.heap.size := Nat.le_trans hb03.size hg4.size
 have hgA := Aside0.mk (grown_then (grown_below hb03 ((Value.slice (some ad) l.length c).ownBlock)) hg4 (fun j hj => by injection hj with hj; exact .inl (by omega)))
 clear t0 t1 t2 t3 t4 t5 z0 z1 z2 z3 z4 z5
 have y0 := blk_cell hD4 0
 have y1 := blk_cell hD4 1
 have y2 := blk_cell hD4 2
 have y3 := blk_cell hD4 3
 have y4 := blk_cell hD4 4
 have y5 := blk_cell hD4 5
 simp at y0 y1 y2 y3 y4 y5
 have hmA := Aside0.mk hm4
 clear hm4
 show K0 _ _
 refine hK0 _ _ ?_
 go_wp2_with (at_builtin; refine wpList_append_own_at _ rfl _ _ 22 rfl base 32 i0 zM 6 72 Try.underlying22 hi hz0 hz1 hz2 rfl (by decide) _ _ _ rfl (World.ownsRow.alloc hr4.out _) ⟨w4.heap.size, 0, none⟩ 1 1 (enc m4) rfl rfl (cell_enc (blk_new w4 (objM m4))) (enc_one m4) (le_max hlen) (by omega) (by simp; omega) ?_; intro v' w5 hown hgr _ hat)
 obtain ⟨g', cap', rfl⟩ := row_succ hown
 go_ret
 rw [hmA.out]
 exact (show Pt w base (.slice (some ad) l.length c) (l ++ [m4]) (.returned (.slice (some ⟨g', 0, none⟩) (l.length + 1) cap')) w5 from pt_end (hgA.out.trans (grown_below (below_alloc (Below.refl _ _) (objM m4)) _)) hown hgr hat)
theorem delete_any' {w : World} {base g cap : Nat} {cur : Array Value} {l : List Ms} (i : Nat) (hb : base ≤ g) (hh : w.heap[g]? = some (.cells cur 32 (0, 0))) (hc : l.length ≤ cap) (hm : cap ≤ maxLen) (hs : cur.size = cap * 6) (ht : cur.toList.take (l.length * 6) = flat l) (hi : i < l.length) :
  Calls Try.prog 94 #[.slice (some ⟨g, 0, none⟩) l.length cap, .int .i64 (i : Int), .int .i64 ((i : Int) + 1)] w fun e w' => e = .returned (.slice (some ⟨g, 0, none⟩) (l.eraseIdx i).length cap) ∧ Rw w' base (.slice (some ⟨g, 0, none⟩) (l.eraseIdx i).length cap) (l.eraseIdx i) ∧ w.grownBy w' (some g) :=
 delete_any i (i + 1) hb hh hc hm hs ht rfl hi
theorem pt_join {w : World} {base : Nat} {v : Value} {l : List Ms} (m : Ms) (hr : Rw w base v l) (hbase : base ≤ w.heap.size) (hlen : l.length ≤ 100000) (hsz : ∀ x ∈ l, P.okS x) {i : Nat} {x : Ms} (hl : P.lastI l m.f2 = (i : Int)) (hx : l[i]? = some x) (hp : P.isPt x.f0 = true) (hmp : P.isPt m.f0 = true) (hkk : x.f2 = m.f2) {l2 : List Ms} (ih : ∀ {W : World} {v : Value}, Rw W base v (l.eraseIdx i) → base ≤ W.heap.size → Calls Try.prog 60 #[v, aggM (P.joinM x m)] W (Pt W base v l2)) :
  Calls Try.prog 60 #[v, aggM m] w (Pt w base v l2) := by
 obtain ⟨A, c, rfl⟩ := hr.slice
 obtain ⟨_, hcap, hC⟩ := C_of_Rw hr
 have hC1 := Kd.C_below hC (below_alloc (Below.refl _ _) (objM m))
 have LA := last_any hC1 hcap hlen hsz m.f2
 rw [hl] at LA
 have IP := isPt_any x
 rw [hp] at IP
 have hum := Try.underlying32
 obtain ⟨i0, hi, hz0, hz1, hz2⟩ := info_parts P.info32
 have hmx : maxLen = 9223372036854775807 := rfl
 have hil : i < l.length := (List.getElem?_eq_some_iff.1 hx).1
 obtain ⟨ad, x', rfl, hx', q0, q1, q2, q3, q4, q5⟩ := at_M hC1 (i : Int) (by omega) (by omega)
 obtain rfl : x' = x := by simp at hx'; rw [hx] at hx'; exact (Option.some.inj hx').symm
 simp only [Int.toNat_natCast] at q0 q1 q2 q3 q4 q5
 have d0 : ((i : Int) < 0) = False := eq_false (by omega)
 have d1 : decide ((i : Int) < 0) = false := decide_eq_false (by omega)
 have d2 : decide (0 ≤ (i : Int)) = true := decide_eq_true (by omega)
 have d3 : decide ((i : Int) < (l.length : Int)) = true := decide_eq_true (by omega)
 have d4 : ((i : Int) < (l.length : Int)) = True := eq_true (by omega)
 have d5 : (0 ≤ (i : Int)) = True := eq_true (by omega)
 have hi2 : i < l.length := hil
 have JN := join_any x' m hp hmp hkk
 have hilA := Aside0.mk hil
 have hwi : wrap64 ((i : Int) + 1) = (i : Int) + 1 := IntWalk.wrap64_in _ (by omega)
 generalize P.joinM x' m = jm at JN ih
 clear hC hx hx' hil hl hp hC1 hmp hkk
 go_enter Try.func60, Try.ntmps60
 go_wp2_with (first
  | (go_at_call 92; refine LA.mono ?_; clear LA; rintro e w1 ⟨rfl, hb1⟩; have hD := blk_below (blk_new w (objM m)) hb1; have y0 := blk_cell hD 0; have y1 := blk_cell hD 1; have y2 := blk_cell hD 2; have y3 := blk_cell hD 3; have y4 := blk_cell hD 4; have y5 := blk_cell hD 5; simp at y0 y1 y2 y3 y4 y5; have e0 := cell_below hb1 q0; have e1 := cell_below hb1 q1; have e2 := cell_below hb1 q2; have e3 := cell_below hb1 q3; have e4 := cell_below hb1 q4; have e5 := cell_below hb1 q5)
  | (go_at_call 55; refine (IP _).mono ?_; clear IP; rintro e w2 ⟨rfl, hb2⟩; have hD2 := blk_below hD hb2; (try clear y0 y1 y2 y3 y4 y5); have y0 := blk_cell hD2 0; have y1 := blk_cell hD2 1; have y2 := blk_cell hD2 2; have y3 := blk_cell hD2 3; have y4 := blk_cell hD2 4; have y5 := blk_cell hD2 5; simp at y0 y1 y2 y3 y4 y5; have hb := Aside0.mk (below_step (below_step (below_alloc (Below.refl w.heap.size w) (objM m)) hb1) hb2); have hr1 := Aside0.mk (hr.below hb.out); have hs1 := hb.out.size))
 rename_i K0 hK0
 clear y0 y1 y2 y3 y4 y5
 have hDd : w2.drew.heap[w.heap.size]? = some (objM m) := hD2
 have g0 : w2.drew.cell? (ad.add (i * 6)) = some (.int .u8 x'.f0) := cell_below hb2 e0
 have g1 : w2.drew.cell? ⟨(ad.add (i * 6)).block, (ad.add (i * 6)).off + 1, none⟩ = some (.int .i64 x'.f1) := cell_below hb2 e1
 have g2 : w2.drew.cell? ⟨(ad.add (i * 6)).block, (ad.add (i * 6)).off + 2, none⟩ = some (.string x'.f2) := cell_below hb2 e2
 have g3 : w2.drew.cell? ⟨(ad.add (i * 6)).block, (ad.add (i * 6)).off + 3, none⟩ = some (.string x'.f3) := cell_below hb2 e3
 have g4 : w2.drew.cell? ⟨(ad.add (i * 6)).block, (ad.add (i * 6)).off + 4, none⟩ = some (.string x'.f4) := cell_below hb2 e4
 have g5 : w2.drew.cell? ⟨(ad.add (i * 6)).block, (ad.add (i * 6)).off + 5, none⟩ = some (.int .u64 x'.f5) := cell_below hb2 e5
 refine start_ (n := 10) (S := fun w' => w'.cell? ⟨w.heap.size, 0, none⟩ = some (.int .u8 m.f0) ∧ w'.cell? ⟨w.heap.size, 1, none⟩ = some (.int .i64 m.f1) ∧ w'.cell? ⟨w.heap.size, 2, none⟩ = some (.string m.f2) ∧ w'.cell? ⟨w.heap.size, 3, none⟩ = some (.string m.f3) ∧ w'.cell? ⟨w.heap.size, 4, none⟩ = some (.string m.f4) ∧ w'.cell? ⟨w.heap.size, 5, none⟩ = some (.int .u64 m.f5) ∧ w'.cell? (ad.add (i * 6)) = some (.int .u8 x'.f0) ∧ w'.cell? ⟨(ad.add (i * 6)).block, (ad.add (i * 6)).off + 1, none⟩ = some (.int .i64 x'.f1) ∧ w'.cell? ⟨(ad.add (i * 6)).block, (ad.add (i * 6)).off + 2, none⟩ = some (.string x'.f2) ∧ w'.cell? ⟨(ad.add (i * 6)).block, (ad.add (i * 6)).off + 3, none⟩ = some (.string x'.f3) ∧ w'.cell? ⟨(ad.add (i * 6)).block, (ad.add (i * 6)).off + 4, none⟩ = some (.string x'.f4) ∧ w'.cell? ⟨(ad.add (i * 6)).block, (ad.add (i * 6)).off + 5, none⟩ = some (.int .u64 x'.f5)) (ds := [9]) #[false, false, false, false, false, false, false, false, false, false] (by kernel_rfl) rfl rfl ⟨blk_cell hDd 0, blk_cell hDd 1, blk_cell hDd 2, blk_cell hDd 3, blk_cell hDd 4, blk_cell hDd 5, g0, g1, g2, g3, g4, g5⟩ (fun hHeld => ?_)
 have HT_ := Aside0.mk ptT4
 refine pure_ (i := 0) (N := some 20) (v := ?_) (a' := ?_) #[true, false, false, false, false, false, false, false, false, false] rfl rfl (any_of HT_.out (by kernel_rfl)) (fun _ _ _ h => h) (Or.inl ⟨by rfl, ?_⟩) ?_ ?_
 rotate_left
 ·intro w'
  go_simp
  with_reducible rfl
 rotate_left
 ·simp only [Act.put, sA1, sA2, sA3, i64_w, i32_w]
  rfl
 refine pure_ (i := 1) (N := some 21) (v := ?_) (a' := ?_) #[true, true, false, false, false, false, false, false, false, false] rfl rfl (any_of HT_.out (by kernel_rfl)) (fun _ _ _ h => h) (Or.inl ⟨by rfl, ?_⟩) ?_ ?_
 rotate_left
 ·intro w'
  go_simp
  with_reducible rfl
 rotate_left
 ·simp only [Act.put, sA1, sA2, sA3, i64_w, i32_w]
  rfl
 refine pure_ (i := 2) (N := some 22) (v := ?_) (a' := ?_) #[true, true, true, false, false, false, false, false, false, false] rfl rfl (any_of HT_.out (by kernel_rfl)) (fun _ _ _ h => h) (Or.inl ⟨by rfl, ?_⟩) ?_ ?_
 rotate_left
 ·intro w'
  go_simp
  with_reducible rfl
 rotate_left
 ·simp only [Act.put, sA1, sA2, sA3, i64_w, i32_w]
  rfl
 refine take_ (i := 3) (N := some 23) (v := ?_) (a' := ?_) #[true, true, true, true, false, false, false, false, false, false] rfl rfl (take_of HT_.out (by kernel_rfl)) (fun _ _ _ h => h) (Or.inl ⟨by rfl, ?_⟩) hHeld ?_ ?_
 rotate_left
 ·rintro w' ⟨s0, s1, s2, s3, s4, s5, s6, s7, s8, s9, s10, s11⟩
  go_simp
  with_reducible rfl
 rotate_left
 ·simp only [Act.put, sA1, sA2, sA3, i64_w, i32_w]
  rfl
 refine take_ (i := 4) (N := some 24) (v := ?_) (a' := ?_) #[true, true, true, true, true, false, false, false, false, false] rfl rfl (take_of HT_.out (by kernel_rfl)) (fun _ _ _ h => h) (Or.inl ⟨by rfl, ?_⟩) hHeld ?_ ?_
 rotate_left
 ·rintro w' ⟨s0, s1, s2, s3, s4, s5, s6, s7, s8, s9, s10, s11⟩
  go_simp
  with_reducible rfl
 rotate_left
 ·simp only [Act.put, sA1, sA2, sA3, i64_w, i32_w]
  rfl
 refine one_ (i := 5) (N := some 25) #[true, true, true, true, true, true, false, false, false, false] rfl rfl (one_of HT_.out (by kernel_rfl)) (by decide) (fun K hK => ?_)
 refine goes_ Try.func93 (by kernel_rfl) rfl #[aggM x', aggM m] (by rfl) rfl rfl (by (try simp only [List.map_toArray, List.map_cons, List.map_nil]); first | done | rfl) ?_
 refine (JN _).mono ?_
 rintro e w3 ⟨rfl, hb3⟩
 refine ⟨_, rfl, ?_⟩
 have hD3 := blk_below hDd hb3
 refine hK.out _ _ ⟨blk_cell hD3 0, blk_cell hD3 1, blk_cell hD3 2, blk_cell hD3 3, blk_cell hD3 4, blk_cell hD3 5, cell_below hb3 g0, cell_below hb3 g1, cell_below hb3 g2, cell_below hb3 g3, cell_below hb3 g4, cell_below hb3 g5⟩ (fun hHeld => ?_)
 clear hK K
 refine norm_ (a' := ?_) ?_ ?_
 rotate_left
 ·show Act.put _ (some 25) _ = _
  simp only [Act.put, sA1, sA2, sA3, i64_w, i32_w]
  rfl
 refine pure_ (i := 6) (N := some 19) (v := ?_) (a' := ?_) #[true, true, true, true, true, true, true, false, false, false] rfl rfl (any_of HT_.out (by kernel_rfl)) (fun _ _ _ h => h) (Or.inl ⟨by rfl, ?_⟩) ?_ ?_
 rotate_left
 ·intro w'
  go_simp
  with_reducible rfl
 rotate_left
 ·simp only [Act.put, sA1, sA2, sA3, i64_w, i32_w]
  rfl
 refine pure_ (i := 7) (N := some 26) (v := ?_) (a' := ?_) #[true, true, true, true, true, true, true, true, false, false] rfl rfl (any_of HT_.out (by kernel_rfl)) (fun _ _ _ h => h) (Or.inl ⟨by rfl, ?_⟩) ?_ ?_
 rotate_left
 ·intro w'
  go_simp
  with_reducible rfl
 rotate_left
 ·simp only [Act.put, sA1, sA2, sA3, i64_w, i32_w]
  rfl
 refine pure_ (i := 8) (N := some 27) (v := ?_) (a' := ?_) #[true, true, true, true, true, true, true, true, true, false] rfl rfl (any_of HT_.out (by kernel_rfl)) (fun _ _ _ h => h) (Or.inl ⟨by rfl, ?_⟩) ?_ ?_
 rotate_left
 ·intro w'
  go_simp
  with_reducible rfl
 rotate_left
 ·simp only [Act.put, sA1, sA2, sA3, i64_w, i32_w]
  rfl
 have z0 := blk_frozen hD3 0
 have z1 := blk_frozen hD3 1
 have z2 := blk_frozen hD3 2
 have z3 := blk_frozen hD3 3
 have z4 := blk_frozen hD3 4
 have z5 := blk_frozen hD3 5
 obtain ⟨t0, t1, t2, t3, t4, t5, t6, t7, t8, t9, t10, t11⟩ := hHeld
 refine last_ (i := 9) (N := none) #[true, true, true, true, true, true, true, true, true, true] rfl rfl (one_of HT_.out (by kernel_rfl)) (by decide) (fun K hK => ?_)
 refine skip_ (w1 := w3.setCells w.heap.size 0 (enc jm)) (by rfl) rfl ?_ ?_
 ·go_simp
  rfl
 refine hK.out _ _ ?_
 clear hK K
 refine done_ (done_of HT_.out (by kernel_rfl)) ?_
 have hD4 := box_set jm hD3
 have hg4 := grown_setCells w.heap.size (enc jm) 0 w3
 generalize w3.setCells w.heap.size 0 (enc jm) = w4 at hD4 hg4 ⊢
 have hb03 : Below w.heap.size w w3 := below_step (below_drew hb.out) hb3
 have hr4 := own_move (hr.below hb03) (fun k hk => hg4.block k (own_lt (hr.below hb03) k hk) (fun e => by have h1 := own_lt hr k hk; injection e with e; omega))
 have hs4 : w.heap.size ≤ w4.heap.size := Nat.le_trans hb03.size hg4.size
 have hgA := Aside0.mk (grown_then (grown_below hb03 ((Value.slice (some ad) l.length c).ownBlock)) hg4 (fun j hj => by injection hj with hj; exact .inl (by omega)))
 have hlt := own_lt hr
 clear t0 t1 t2 t3 t4 t5 t6 t7 t8 t9 t10 t11 z0 z1 z2 z3 z4 z5 q0 q1 q2 q3 q4 q5 e0 e1 e2 e3 e4 e5 g0 g1 g2 g3 g4 g5
 obtain ⟨g, cap, cur, hv, hbg, hh, hc4, hm4, hz4, ht4⟩ := Rw.block hr4 (by have := hilA.out; omega)
 injection hv with hv1 hv2 hv3
 injection hv1 with hv1
 subst hv1
 subst hv3
 have hgD : w.heap.size ≠ g := fun e => by have := hlt g rfl; omega
 have DL := delete_any' (w := w4.drew) i hbg hh hc4 hm4 hz4 ht4 hilA.out
 rw [← hwi] at DL
 have hDd4 : w4.drew.heap[w.heap.size]? = some (objM jm) := hD4
 have hDlt := blk_lt hD4
 have hgA2 := hgA.out
 clear hr4 hh hc4 hm4 hz4 ht4
 show K0 _ _
 refine hK0 _ _ ?_
 clear hK0
 go_wp2
 rename_i K1 hK1
 refine start_ (n := 8) (S := fun w' => w'.cell? ⟨w.heap.size, 0, none⟩ = some (.int .u8 jm.f0) ∧ w'.cell? ⟨w.heap.size, 1, none⟩ = some (.int .i64 jm.f1) ∧ w'.cell? ⟨w.heap.size, 2, none⟩ = some (.string jm.f2) ∧ w'.cell? ⟨w.heap.size, 3, none⟩ = some (.string jm.f3) ∧ w'.cell? ⟨w.heap.size, 4, none⟩ = some (.string jm.f4) ∧ w'.cell? ⟨w.heap.size, 5, none⟩ = some (.int .u64 jm.f5)) (ds := []) #[false, false, false, false, false, false, false, false] (by kernel_rfl) rfl rfl ⟨blk_cell hDd4 0, blk_cell hDd4 1, blk_cell hDd4 2, blk_cell hDd4 3, blk_cell hDd4 4, blk_cell hDd4 5⟩ (fun hHeld => ?_)
 have HT_ := Aside0.mk ptT5
 refine pure_ (i := 0) (N := some 28) (v := ?_) (a' := ?_) #[true, false, false, false, false, false, false, false] rfl rfl (any_of HT_.out (by kernel_rfl)) (fun _ _ _ h => h) (Or.inl ⟨by rfl, ?_⟩) ?_ ?_
 rotate_left
 ·intro w'
  go_simp
  with_reducible rfl
 rotate_left
 ·simp only [Act.put, sA1, sA2, sA3, i64_w, i32_w]
  rfl
 refine pure_ (i := 1) (N := some 29) (v := ?_) (a' := ?_) #[true, true, false, false, false, false, false, false] rfl rfl (any_of HT_.out (by kernel_rfl)) (fun _ _ _ h => h) (Or.inl ⟨by rfl, ?_⟩) ?_ ?_
 rotate_left
 ·intro w'
  go_simp
  with_reducible rfl
 rotate_left
 ·simp only [Act.put, sA1, sA2, sA3, i64_w, i32_w]
  rfl
 refine pure_ (i := 2) (N := some 30) (v := ?_) (a' := ?_) #[true, true, true, false, false, false, false, false] rfl rfl (any_of HT_.out (by kernel_rfl)) (fun _ _ _ h => h) (Or.inl ⟨by rfl, ?_⟩) ?_ ?_
 rotate_left
 ·intro w'
  go_simp
  with_reducible rfl
 rotate_left
 ·simp only [Act.put, sA1, sA2, sA3, i64_w, i32_w]
  rfl
 refine pure_ (i := 3) (N := some 31) (v := ?_) (a' := ?_) #[true, true, true, true, false, false, false, false] rfl rfl (any_of HT_.out (by kernel_rfl)) (fun _ _ _ h => h) (Or.inl ⟨by rfl, ?_⟩) ?_ ?_
 rotate_left
 ·intro w'
  go_simp
  with_reducible rfl
 rotate_left
 ·simp only [Act.put, sA1, sA2, sA3, i64_w, i32_w]
  rfl
 refine take_ (i := 5) (N := some 33) (v := ?_) (a' := ?_) #[true, true, true, true, false, true, false, false] rfl rfl (take_of HT_.out (by kernel_rfl)) (fun _ _ _ h => h) (Or.inl ⟨by rfl, ?_⟩) hHeld ?_ ?_
 rotate_left
 ·rintro w' ⟨s0, s1, s2, s3, s4, s5⟩
  go_simp
  with_reducible rfl
 rotate_left
 ·simp only [Act.put, sA1, sA2, sA3, i64_w, i32_w]
  rfl
 refine one_ (i := 4) (N := some 32) #[true, true, true, true, true, true, false, false] rfl rfl (one_of HT_.out (by kernel_rfl)) (by decide) (fun K hK => ?_)
 refine goes_ Try.func94 (by kernel_rfl) rfl #[.slice (some ⟨g, 0, none⟩) l.length c, .int .i64 (i : Int), .int .i64 (wrap64 ((i : Int) + 1))] (by rfl) rfl rfl (by (try simp only [List.map_toArray, List.map_cons, List.map_nil]); first | done | rfl) ?_
 refine (DL).mono ?_
 rintro e w6 ⟨rfl, hr6, hg6⟩
 refine ⟨_, rfl, ?_⟩
 have hD6 := (hg6.block w.heap.size hDlt (fun e => hgD (Option.some.inj e))).trans hDd4
 have hs6 := hg6.size
 have hs6' : w4.heap.size ≤ w6.heap.size := hs6
 refine hK.out _ _ ⟨blk_cell hD6 0, blk_cell hD6 1, blk_cell hD6 2, blk_cell hD6 3, blk_cell hD6 4, blk_cell hD6 5⟩ (fun hHeld => ?_)
 clear hK K
 refine norm_ (a' := ?_) ?_ ?_
 rotate_left
 ·show Act.put _ (some 32) _ = _
  simp only [Act.put, sA1, sA2, sA3, i64_w, i32_w]
  rfl
 refine one_ (i := 6) (N := some 34) #[true, true, true, true, true, true, true, false] rfl rfl (one_of HT_.out (by kernel_rfl)) (by decide) (fun K hK => ?_)
 refine goes_ Try.func60 (by kernel_rfl) rfl #[.slice (some ⟨g, 0, none⟩) (l.eraseIdx i).length c, aggM jm] (by rfl) rfl rfl (by (try simp only [List.map_toArray, List.map_cons, List.map_nil]); first | done | rfl) ?_
 refine (ih hr6 (by omega)).mono ?_
 rintro e w7 ⟨v', rfl, hr7, hg7, hat7⟩
 refine ⟨_, rfl, ?_⟩
 have hD7 := (hg7.block w.heap.size (by omega) (fun e => hgD (Option.some.inj e))).trans hD6
 refine hK.out _ _ ⟨blk_cell hD7 0, blk_cell hD7 1, blk_cell hD7 2, blk_cell hD7 3, blk_cell hD7 4, blk_cell hD7 5⟩ (fun hHeld => ?_)
 clear hK K
 refine norm_ (a' := ?_) ?_ ?_
 rotate_left
 ·show Act.put _ (some 34) _ = _
  simp only [Act.put, sA1, sA2, sA3, i64_w, i32_w]
  rfl
 refine pure_ (i := 7) (N := some 4) (v := ?_) (a' := ?_) #[true, true, true, true, true, true, true, true] rfl rfl (any_of HT_.out (by kernel_rfl)) (fun _ _ _ h => h) (Or.inl ⟨by rfl, ?_⟩) ?_ ?_
 rotate_left
 ·intro w'
  go_simp
  with_reducible rfl
 rotate_left
 ·simp only [Act.put, sA1, sA2, sA3, i64_w, i32_w]
  rfl
 refine done_ (done_of HT_.out (by kernel_rfl)) ?_
 obtain ⟨A7, c7, rfl⟩ := Rw.slice hr7
 go_wp2
 go_ret
 refine (show Pt w base (.slice (some ⟨g, 0, none⟩) l.length c) l2 (.returned (.slice A7 l2.length c7)) w7 from ⟨_, rfl, hr7, ?_, ?_⟩)
 ·exact ((hgA2.trans (grown_drew _ _)).trans hg6).trans hg7
 ·rcases hat7 with q | ⟨k, q, hk⟩
  ·exact .inl q
  ·exact .inr ⟨k, q, by omega⟩
end Go.Proofs.Ytebejadiaooooaa.Cp
end
section
namespace Go.Proofs.Ytebejadiaooooaa.Cp
open Go.RowKit Go.Shelf Go.Proofs.YtebejadiaooooaaW.PrintWords Go.Proofs.YtebejadiaooooaaW.PrintLast Go.Proofs.YtebejadiaooooaaW.PrintMore Go.Proofs.Ytebejadiaooooaa.Own Go.Proofs.Ytebejadiaooooaa
set_option maxHeartbeats 4000000
set_option maxRecDepth 100000
theorem Idx_none {p : Ms → Bool} {l : List Ms} {r : Int} (h : ∀ x ∈ l, p x = false) (hI : Idx p l r) : r = -1 := by
 rcases hI with ⟨hr, _⟩ | ⟨i, x, _, hx, hp, _⟩
 ·exact hr
 ·rw [h x (List.mem_of_getElem? hx)] at hp; cases hp
theorem Idx_some {p : Ms → Bool} {l : List Ms} {r : Int} {i : Nat} {x : Ms} (hx : l[i]? = some x) (hp : p x = true) (hn : ∀ (j : Nat) (y : Ms), j < i → l[j]? = some y → p y = false) (hI : Idx p l r) : r = (i : Int) := by
 rcases hI with ⟨hr, h⟩ | ⟨k, y, hr, hy, hq, hm⟩
 ·rw [h x (List.mem_of_getElem? hx)] at hp; cases hp
 ·rcases Nat.lt_trichotomy i k with h | h | h
  ·rw [hm i x h hx] at hp; cases hp
  ·rw [hr, h]
  ·rw [hn k y h hy] at hq; cases hq
theorem first_of {p : Ms → Bool} : ∀ {l : List Ms}, (∀ x ∈ l, p x = false) ∨ ∃ (i : Nat) (x : Ms), l[i]? = some x ∧ p x = true ∧ ∀ (j : Nat) (y : Ms), j < i → l[j]? = some y → p y = false
 | [] => .inl (fun x h => by simp at h)
 | a :: l => by
  cases ha : p a with
  | true => exact .inr ⟨0, a, rfl, ha, fun j y h => by omega⟩
  | false =>
   rcases first_of (p := p) (l := l) with h | ⟨i, x, hx, hp, hm⟩
   ·exact .inl (fun x hx => by rcases List.mem_cons.1 hx with rfl | hx; exact ha; exact h x hx)
   ·refine .inr ⟨i + 1, x, by simpa using hx, hp, fun j y hj hy => ?_⟩
    cases j with
    | zero => simp at hy; rw [← hy]; exact ha
    | succ j => exact hm j y (by omega) (by simpa using hy)
def St (g cap : Nat) (l : List Ms) (p : Ms → Bool) (i j : Nat) (W : World) : Prop :=
 ∃ cur : Array Value, W.heap[g]? = some (.cells cur 32 (0, 0)) ∧ cur.size = cap * 6 ∧ cur.toList.take (i * 6) = flat ((l.take j).filter p) ∧ (cur.toList.drop (j * 6)).take ((l.length - j) * 6) = flat (l.drop j)
theorem St.below {g cap i j : Nat} {l : List Ms} {p : Ms → Bool} {W W' : World} (h : St g cap l p i j W) (hb : Below W.heap.size W W') : St g cap l p i j W' := by
 obtain ⟨cur, hh, h1, h2, h3⟩ := h
 exact ⟨cur, blk_below hh hb, h1, h2, h3⟩
theorem St.lt {g cap i j : Nat} {l : List Ms} {p : Ms → Bool} {W : World} (h : St g cap l p i j W) : g < W.heap.size := by
 obtain ⟨cur, hh, _⟩ := h
 exact (Array.getElem?_eq_some_iff.1 hh).1
theorem St.read {g cap i j : Nat} {l : List Ms} {p : Ms → Bool} {W : World} (h : St g cap l p i j W) (hj : j < l.length) {x : Ms} (hx : l[j]? = some x) :
  W.cell? ⟨g, j * 6, none⟩ = some (.int .u8 x.f0) ∧ W.cell? ⟨g, j * 6 + 1, none⟩ = some (.int .i64 x.f1) ∧ W.cell? ⟨g, j * 6 + 2, none⟩ = some (.string x.f2) ∧ W.cell? ⟨g, j * 6 + 3, none⟩ = some (.string x.f3) ∧ W.cell? ⟨g, j * 6 + 4, none⟩ = some (.string x.f4) ∧ W.cell? ⟨g, j * 6 + 5, none⟩ = some (.int .u64 x.f5) := by
 obtain ⟨cur, hh, h1, h2, h3⟩ := h
 have hd : l.drop j = x :: l.drop (j + 1) := by rw [List.drop_eq_getElem?_toList_append, hx]; rfl
 have key : ∀ t u, (enc x)[t]? = some u → W.cell? ⟨g, j * 6 + t, none⟩ = some u := by
  intro t u hu
  have ht : t < 6 := (List.getElem?_eq_some_iff.1 hu).1
  rw [cell_of_row W g _ cur 32 (0, 0) hh, ← Array.getElem?_toList]
  have h4 : _ = _ := congrArg (fun q : List Value => q[t]?) h3
  rw [List.getElem?_take, if_pos (by omega), List.getElem?_drop, hd, flat_cons, List.getElem?_append_left (by rw [enc_length]; exact ht), hu] at h4
  exact h4
 exact ⟨key 0 _ rfl, key 1 _ rfl, key 2 _ rfl, key 3 _ rfl, key 4 _ rfl, key 5 _ rfl⟩
theorem St.room {g cap i j : Nat} {l : List Ms} {p : Ms → Bool} {W : World} (h : St g cap l p i j W) {k : Nat} (hk : k < cap * 6) : ∃ v, W.cell? ⟨g, k, none⟩ = some v ∧ W.frozen? ⟨g, k, none⟩ = false := by
 obtain ⟨cur, hh, h1, h2, h3⟩ := h
 refine ⟨cur[k]'(by omega), ?_, blk_frozen hh _⟩
 rw [cell_of_row W g _ cur 32 (0, 0) hh, Array.getElem?_eq_getElem]
theorem St.pass {g cap i j : Nat} {l : List Ms} {p : Ms → Bool} {W : World} (h : St g cap l p i j W) (hj : j < l.length) {x : Ms} (hx : l[j]? = some x) (hp : p x = false) : St g cap l p i (j + 1) W := by
 obtain ⟨cur, hh, h1, h2, h3⟩ := h
 refine ⟨cur, hh, h1, ?_, ?_⟩
 ·rw [h2, List.take_add_one, hx, List.filter_append]
  simp [hp]
 ·have h4 := congrArg (fun q => q.drop 6) h3
  simp only [List.drop_take, List.drop_drop] at h4
  rw [show (j + 1) * 6 = j * 6 + 6 by omega, show (l.length - (j + 1)) * 6 = (l.length - j) * 6 - 6 by omega, h4]
  have := flat_drop (l.drop j) 1
  rw [List.drop_drop] at this
  simpa using this
theorem St.keep {g cap i j : Nat} {l : List Ms} {p : Ms → Bool} {W : World} (h : St g cap l p i j W) (hj : j < l.length) (hc : l.length ≤ cap) (hij : i < j) (hi : i = ((l.take j).filter p).length) {x : Ms} (hx : l[j]? = some x) (hp : p x = true) : St g cap l p (i + 1) (j + 1) (W.setCells g (i * 6) (enc x)) := by
 obtain ⟨cur, hh, h1, h2, h3⟩ := h
 obtain ⟨cur', hh', hcur⟩ := heap_setCells (enc x) (i * 6) W cur hh (by rw [enc_length]; omega)
 have hl : cur.toList.length = cap * 6 := by rw [Array.length_toList, h1]
 have hl' : cur'.toList.length = cap * 6 := by
  rw [hcur, List.length_append, List.length_append, List.length_take, List.length_drop, enc_length, hl]
  omega
 refine ⟨cur', hh', by rw [← Array.length_toList]; exact hl', ?_, ?_⟩
 ·rw [hcur, h2, List.take_add_one, hx, List.filter_append]
  have hfl : (flat ((l.take j).filter p)).length = i * 6 := by rw [flat_length, ← hi]
  rw [List.take_append_of_le_length (by rw [List.length_append, hfl, enc_length]; omega), List.take_of_length_le (by rw [List.length_append, hfl, enc_length]; omega)]
  simp [hp, flat_append, flat_cons, flat_nil]
 ·rw [hcur, List.drop_append, List.drop_append]
  have hfl : (cur.toList.take (i * 6)).length = i * 6 := by rw [List.length_take, hl]; omega
  rw [List.drop_of_length_le (by rw [hfl]; omega), List.drop_of_length_le (by rw [enc_length, hfl]; omega), List.drop_drop, List.length_append, hfl, enc_length]
  have h4 := congrArg (fun q => q.drop 6) h3
  simp only [List.drop_take, List.drop_drop] at h4
  rw [show i * 6 + 6 + ((j + 1) * 6 - (i * 6 + 6)) = j * 6 + 6 by omega, show (l.length - (j + 1)) * 6 = (l.length - j) * 6 - 6 by omega]
  simp only [List.nil_append]
  rw [h4]
  have := flat_drop (l.drop j) 1
  rw [List.drop_drop] at this
  simpa using this
end Go.Proofs.Ytebejadiaooooaa.Cp
end
