/- Texts of one claim (laid by shake.py). -/
import Derived.Test.YtebejadiaooooaaZt26
import Derived.Maps.OwnSet
import Derived.WalkArith
import Derived.Test.YtebejadiaooooaaZt28
import Derived.Test.YtebejadiaooooaaZt13
import Derived.Test.YtebejadiaooooaaZt10
import Derived.Test.YtebejadiaooooaaZt29
set_option linter.unusedVariables false
set_option linter.unusedSimpArgs false
section
namespace Go.Proofs.Ytebejadiaooooaa.Th
open Go Go.RowKit Go.Maps Go.Proofs.YtebejadiaooooaaW.PrintWords Go.Proofs.YtebejadiaooooaaW.PrintLast Go.Proofs.YtebejadiaooooaaW.PrintMore Go.Proofs.Ytebejadiaooooaa.Own
abbrev X := P.S32
def x0 : X := ⟨0, 0, P.e0, P.e0, P.e0, 0⟩
def restV (x : X) : Value := .agg #[.int .u8 x.f0, .int .i64 x.f1, .string x.f2, .string x.f3, .string x.f4, .int .u64 x.f5]
def restD (x : X) : DataW Unit := .agg [.lit (.int .u8 x.f0), .lit (.int .i64 x.f1), .lit (.string x.f2.data.toList), .lit (.string x.f3.data.toList), .lit (.string x.f4.data.toList), .lit (.int .u64 x.f5)]
def restR (v : Value) : Option (DataW Unit × List MemPlace) :=
 match v with
 | .agg cs => match cs.toList with
  | [.int .u8 a, .int .i64 b, .string c, .string d, .string e, .int .u64 f] => some (restD ⟨a, b, c, d, e, f⟩, [])
  | _ => none
 | _ => none
theorem restR_mk (x : X) : restR (restV x) = some (restD x, []) := rfl
theorem bytes_inj {a c : ByteArray} (h : a.data.toList = c.data.toList) : a = c := by
 obtain ⟨⟨a⟩⟩ := a; obtain ⟨⟨c⟩⟩ := c; simp at h; rw [h]
theorem restD_inj {x y : X} (h : restD x = restD y) : x = y := by
 obtain ⟨a, b, c, d, e, f⟩ := x
 obtain ⟨a2, b2, c2, d2, e2, f2⟩ := y
 simp only [restD, DataW.agg.injEq, List.cons.injEq, DataW.lit.injEq, Lit.string.injEq, Lit.int.injEq, true_and, and_true] at h
 obtain ⟨rfl, rfl, h1, h2, h3, rfl⟩ := h
 rw [bytes_inj h1, bytes_inj h2, bytes_inj h3]
theorem restR_inv {v : Value} {d : DataW Unit} {ps : List MemPlace} (h : restR v = some (d, ps)) : ∃ x, v = restV x ∧ d = restD x := by
 unfold restR at h
 split at h
 ·rename_i cs
  split at h
  ·rename_i a b c d e f hl
   cases h
   refine ⟨⟨a, b, c, d, e, f⟩, ?_, rfl⟩
   show Value.agg cs = Value.agg #[.int .u8 a, .int .i64 b, .string c, .string d, .string e, .int .u64 f]
   rw [Array.toList_inj.1 (show cs.toList = (#[.int .u8 a, .int .i64 b, .string c, .string d, .string e, .int .u64 f] : Array Value).toList from hl)]
  ·cases h
 ·cases h
def key (k : ByteArray) : Lit := .string k.data.toList
theorem key_inj {a b : ByteArray} (h : key a = key b) : a = b := by
 unfold key at h; exact bytes_inj (Lit.string.inj h)
def Fits (D : DataW Unit) (F : ByteArray → Option X) : Prop := ∀ k, has D (key k) = (F k).isSome ∧ ∀ x, F k = some x → ∀ z, D.atKey (key k) z = restD x
def upd (F : ByteArray → Option X) (n : ByteArray) (x : Option X) : ByteArray → Option X := fun k => if k = n then x else F k
theorem upd_same (F : ByteArray → Option X) (n : ByteArray) (x : Option X) : upd F n x n = x := if_pos rfl
theorem upd_other (F : ByteArray → Option X) {n k : ByteArray} (h : k ≠ n) (x : Option X) : upd F n x k = F k := if_neg h
theorem Fits.empty : Fits (.map []) (fun _ => none) := fun k => ⟨rfl, fun x h => by cases h⟩
theorem Fits.put {D : DataW Unit} {F : ByteArray → Option X} (h : Fits D F) (hD : IsMap D) (n : ByteArray) (x : X) : Fits (D.put (key n) (restD x)) (upd F n (some x)) := fun k => by
 by_cases hk : k = n
 ·subst hk
  rw [upd_same]
  exact ⟨has_put_same hD (by simp [key, WideAt.IsKeyLit]) _, fun y hy z => by cases hy; exact atKey_put_same hD (by simp [key, WideAt.IsKeyLit]) _ _⟩
 ·have hne : key k ≠ key n := fun e => hk (key_inj e)
  rw [upd_other F hk]
  exact ⟨by rw [has_put_other hne]; exact (h k).1, fun y hy z => by rw [atKey_put_other hne]; exact (h k).2 y hy z⟩
theorem Fits.del {D : DataW Unit} {F : ByteArray → Option X} (h : Fits D F) (n : ByteArray) : Fits (D.del (key n)) (upd F n none) := fun k => by
 by_cases hk : k = n
 ·subst hk
  rw [upd_same]
  exact ⟨has_del_same, fun y hy => by cases hy⟩
 ·have hne : key k ≠ key n := fun e => hk (key_inj e)
  rw [upd_other F hk]
  exact ⟨by rw [has_del_other hne]; exact (h k).1, fun y hy z => by rw [atKey_del_other hne]; exact (h k).2 y hy z⟩
def TM (w : World) (b n : Nat) (F : ByteArray → Option X) (c : Nat) : Prop := ∃ D, w.ownsMap Try.prog 9 restR b n D ∧ Fits D F ∧ size D = c
theorem law : Keyed Try.prog 9 := string_keyed Try.underlying9
theorem wf_key {k : ByteArray} (h : k.size ≤ 140737488351232) : keyOf Try.prog 9 (.string k) = some (key k) := by
 rw [keyOf_string Try.underlying9]
 simp only [mapKey, Try.underlying9]
 rw [if_pos (by unfold maxLen; omega)]
 rfl
theorem zeroE (w : World) : (zeroValue 32).run Try.prog w = .ok (restV x0) w := by kernel_rfl
theorem TM.lt {w : World} {b n : Nat} {F : ByteArray → Option X} {c : Nat} (h : TM w b n F c) : b < w.heap.size := by obtain ⟨D, h1, _⟩ := h; exact h1.lt
theorem TM.kept {w w' : World} {b n : Nat} {F : ByteArray → Option X} {c : Nat} {row : Option Nat} (h : TM w b n F c) (f : w.grownBy w' row) (hb : some b ≠ row) : TM w' b n F c := by
 obtain ⟨D, h1, h2, h3⟩ := h
 exact ⟨D, h1.kept f hb, h2, h3⟩
theorem TM.below {w w' : World} {b n B : Nat} {F : ByteArray → Option X} {c : Nat} (h : TM w b n F c) (f : Below B w w') (hb : b < B) : TM w' b n F c := by
 obtain ⟨D, h1, h2, h3⟩ := h
 obtain ⟨es, clock, hb1, r⟩ := h1
 exact ⟨D, ⟨es, clock, (f.block b hb).trans hb1, r⟩, h2, h3⟩
theorem TM.mono {w : World} {b n n' : Nat} {F : ByteArray → Option X} {c : Nat} (h : TM w b n F c) (hn : n ≤ n') : TM w b n' F c := by
 obtain ⟨D, h1, h2, h3⟩ := h
 exact ⟨D, h1.mono hn, h2, h3⟩
theorem TM.made (w : World) : TM (w.alloc (.map #[] 0)) w.heap.size 0 (fun _ => none) 0 := ⟨_, World.ownsMap_made w _ _ _, Fits.empty, rfl⟩
section
variable (w : World) {ops : Array Oper} {rest : List Oper} {o : Oper} {a : Act} {Q : Exit → Act → World → Prop}
theorem look (hg : o.guard = none) (m x : Operand) (hop : o.op = Op.lookup 100 m x true) (b n : Nat) (F : ByteArray → Option X) (c : Nat)
  (hm : a.eval m = .map (some b)) (hT : TM w b n F c) (k : ByteArray) (hx : a.eval x = .string k) (hk : k.size ≤ 140737488351232)
  (hK : wpList Try.prog ops Q rest (a.put o.dst (.tuple #[restV ((F k).getD x0), .bool (F k).isSome])) w) : wpList Try.prog ops Q (o :: rest) a w := by
 obtain ⟨D, h1, h2, _⟩ := hT
 refine wpList_lookup_own_ok w hg m x _ hop _ _ law Try.underlying100 restR (zeroE w) (restD x0) [] (restR_mk x0) b n D hm h1 _ _ hx (wf_key hk) (fun v ps hv => ?_)
 rw [(h2 k).1]
 obtain ⟨y, rfl, hy⟩ := restR_inv hv
 have e : y = (F k).getD x0 := by
  cases hF : F k with
  | none =>
   have h3 := (h2 k).1
   rw [hF] at h3
   rw [atKey_of_not_has h3] at hy
   exact (restD_inj hy).symm
  | some z =>
   rw [(h2 k).2 z hF] at hy
   exact (restD_inj hy).symm
 rw [e]
 exact hK
theorem store (hg : o.guard = none) (m x v : Operand) (hop : o.op = Op.mapUpdate 100 m x v) (b n : Nat) (F : ByteArray → Option X) (c : Nat)
  (hm : a.eval m = .map (some b)) (hT : TM w b n F c) (hn : n < 1000000) (k : ByteArray) (hx : a.eval x = .string k) (hk : k.size ≤ 140737488351232) (y : X) (hv : a.eval v = restV y)
  (hK : ∀ w', TM w' b (n + 1) (upd F k (some y)) (if (F k).isSome then c else c + 1) → w.mapTurned w' b → wpList Try.prog ops Q rest (a.put o.dst undef) w') : wpList Try.prog ops Q (o :: rest) a w := by
 obtain ⟨D, h1, h2, h3⟩ := hT
 refine wpList_mapUpdate_in w hg m x v _ hop _ _ law Try.underlying100 restR b n D hm h1 (by unfold maxLen; omega) _ _ _ hx hv (wf_key hk) (restD y) [] (restR_mk y) (fun w' r1 r2 => ?_)
 refine hK w' ⟨_, r1, h2.put h1.isMap k y, ?_⟩ r2
 rw [size_put (h1.tidy law), (h2 k).1, h3]
end
end Go.Proofs.Ytebejadiaooooaa.Th
end
section
namespace Go.Proofs.Ytebejadiaooooaa.Th
open Go.Proofs.Ytebejadiaooooaa.Ord (Fr)
open Go.Proofs.Ytebejadiaooooaa.Dl (own_obj fr_grown own_down own_slice)
open Go.RowKit Go.Shelf Go.Maps Go.Proofs.Ytebejadiaooooaa.Cp Go.Proofs.YtebejadiaooooaaW.PrintWords Go.Proofs.YtebejadiaooooaaW.PrintLast Go.Proofs.YtebejadiaooooaaW.PrintMore Go.Proofs.Ytebejadiaooooaa.Own Go.Proofs.Ytebejadiaooooaa
set_option maxHeartbeats 8000000
set_option maxRecDepth 100000
attribute [local go_sem high] P.eqA32
abbrev En := P.S39
def emptyF : ByteArray → Option X := fun _ => none
def lookF (l : List X) : ByteArray → Option X := l.foldl (fun F m => upd F m.f2 (some m)) emptyF
theorem lookF_snoc {l : List X} {i : Nat} {x : X} (h : l[i]? = some x) : lookF (l.take (i + 1)) = upd (lookF (l.take i)) x.f2 (some x) := by
 unfold lookF
 rw [List.take_add_one, h, List.foldl_append]
 rfl
def neB (x m : X) : Bool := !(x.f0 == m.f0) || (!(x.f1 == m.f1) || (!(x.f2.toList == m.f2.toList) || (!(x.f3.toList == m.f3.toList) || (!(x.f4.toList == m.f4.toList) || !(x.f5 == m.f5)))))
theorem neB_false {x m : X} (h : neB x m = false) : x.f0 = m.f0 ∧ x.f1 = m.f1 ∧ x.f2 = m.f2 ∧ x.f3 = m.f3 ∧ x.f4 = m.f4 ∧ x.f5 = m.f5 := by
 unfold neB at h
 simp only [Bool.or_eq_false_iff, Bool.not_eq_false', beq_iff_eq] at h
 have key : ∀ a b : ByteArray, a.toList = b.toList → a = b := fun a b h => P.ba_ext h
 exact ⟨h.1, h.2.1, key _ _ h.2.2.1, key _ _ h.2.2.2.1, key _ _ h.2.2.2.2.1, h.2.2.2.2.2⟩
def stepT (F : ByteArray → Option X) (p : List X × List ByteArray) (m : X) : List X × List ByteArray :=
 match F m.f2 with
 | none => (p.1 ++ [m], p.2)
 | some x => if neB x m = true then (p.1, p.2 ++ [m.f2]) else p
def threeF (F : ByteArray → Option X) (t : List X) : List X × List ByteArray := t.foldl (stepT F) ([], [])
theorem threeF_snoc {F : ByteArray → Option X} {l : List X} {i : Nat} {x : X} (h : l[i]? = some x) : threeF F (l.take (i + 1)) = stepT F (threeF F (l.take i)) x := by
 unfold threeF
 rw [List.take_add_one, h, List.foldl_append]
 rfl
theorem threeF_bound (F : ByteArray → Option X) : ∀ (l : List X) (p : List X × List ByteArray), (l.foldl (stepT F) p).1.length ≤ p.1.length + l.length ∧ (l.foldl (stepT F) p).2.length ≤ p.2.length + l.length
 | [], p => by simp
 | x :: l, p => by
  have h := threeF_bound F l (stepT F p x)
  have h1 : (stepT F p x).1.length ≤ p.1.length + 1 ∧ (stepT F p x).2.length ≤ p.2.length + 1 := by
   unfold stepT
   split
   ·simp
   ·split <;> simp
  simp only [List.foldl_cons, List.length_cons]
  omega
structure St (W : World) (base b n : Nat) (F : ByteArray → Option X) (c : Nat) (lv cv : Value) (out : List X) (row : List ByteArray) : Prop where
 hm : TM W b n F c
 ho : Rw W base lv out
 hr : Sw W base cv row
theorem St.alloc {W : World} {base b n c : Nat} {F : ByteArray → Option X} {lv cv : Value} {out : List X} {row : List ByteArray} (h : St W base b n F c lv cv out row) (x : Obj) : St (W.alloc x) base b n F c lv cv out row :=
 ⟨h.hm.kept (World.grownBy_alloc W x none) (by simp), World.ownsRow.alloc h.ho x, World.ownsRow.alloc h.hr x⟩
theorem map_obj {W : World} {b n c : Nat} {F : ByteArray → Option X} (h : TM W b n F c) : ∃ es clock, W.heap[b]? = some (.map es clock) := by
 obtain ⟨D, ⟨es, clock, hb, _⟩, _⟩ := h
 exact ⟨es, clock, hb⟩
theorem map_ne {W : World} {b n c base e size m : Nat} {F : ByteArray → Option X} {v : Value} {xs : List Value} (h : TM W b n F c) (ho : W.ownsRow base e size v m xs) : some b ≠ v.ownBlock := by
 intro he
 obtain ⟨cur, hc⟩ := own_obj ho he.symm
 obtain ⟨es, clock, hb⟩ := map_obj h
 rw [hb] at hc
 cases hc
theorem own_ne {W : World} {base e size m base' e' size' m' : Nat} {v v' : Value} {xs xs' : List Value} (h : W.ownsRow base e size v m xs) (h' : W.ownsRow base' e' size' v' m' xs') (hne : e ≠ e') (k : Nat) (hk : v.ownBlock = some k) : some k ≠ v'.ownBlock := by
 intro he
 obtain ⟨c1, e1⟩ := own_obj h hk
 obtain ⟨c2, e2⟩ := own_obj h' he.symm
 rw [e1] at e2
 injection e2 with e2
 injection e2 with _ e2
 exact hne e2
theorem St.told {W W1 : World} {base b n c : Nat} {F : ByteArray → Option X} {lv lv' cv : Value} {out : List X} {row : List ByteArray} {m : X} (h : St W base b n F c lv cv out row) (hown : W1.ownsRow base 32 6 lv' (out.length + 1) (flat out ++ enc m)) (hg : W.grownBy W1 lv.ownBlock) : St W1 base b n F c lv' cv (out ++ [m]) row :=
 ⟨h.hm.kept hg (map_ne h.hm h.ho), Rw.snoc hown, own_move h.hr (fun k hk => hg.block k (own_lt h.hr k hk) (own_ne h.hr h.ho (by decide) k hk))⟩
theorem St.gone {W W1 : World} {base b n c : Nat} {F : ByteArray → Option X} {lv cv cv' : Value} {out : List X} {row : List ByteArray} {s : ByteArray} (h : St W base b n F c lv cv out row) (hown : W1.ownsRow base 9 1 cv' (row.length + 1) (row.map Value.string ++ [.string s])) (hg : W.grownBy W1 cv.ownBlock) : St W1 base b n F c lv cv' out (row ++ [s]) :=
 ⟨h.hm.kept hg (map_ne h.hm h.hr), own_move h.ho (fun k hk => hg.block k (own_lt h.ho k hk) (own_ne h.ho h.hr (by decide) k hk)), by show W1.ownsRow _ _ _ _ _ _; rw [List.length_append, List.map_append]; exact hown⟩
section
variable (w : World) {ops : Array Oper} {rest : List Oper} {o : Oper} {a : Act} {Q : Exit → Act → World → Prop}
theorem lookN (hg : o.guard = none) (m x : Operand) (hop : o.op = Op.lookup 100 m x true) (b n : Nat) (F : ByteArray → Option X) (c : Nat)
  (hm : a.eval m = .map (some b)) (hT : TM w b n F c) (k : ByteArray) (hx : a.eval x = .string k) (hk : k.size ≤ 140737488351232) (hF : F k = none)
  (hK : wpList Try.prog ops Q rest (a.put o.dst (.tuple #[.agg #[.int .u8 0, .int .i64 0, .string P.e0, .string P.e0, .string P.e0, .int .u64 0], .bool false])) w) : wpList Try.prog ops Q (o :: rest) a w := by
 refine look w hg m x hop b n F c hm hT k hx hk ?_
 rw [hF]
 exact hK
theorem lookS (hg : o.guard = none) (m x : Operand) (hop : o.op = Op.lookup 100 m x true) (b n : Nat) (F : ByteArray → Option X) (c : Nat)
  (hm : a.eval m = .map (some b)) (hT : TM w b n F c) (k : ByteArray) (hx : a.eval x = .string k) (hk : k.size ≤ 140737488351232) (y : X) (hF : F k = some y)
  (hK : wpList Try.prog ops Q rest (a.put o.dst (.tuple #[.agg #[.int .u8 y.f0, .int .i64 y.f1, .string y.f2, .string y.f3, .string y.f4, .int .u64 y.f5], .bool true])) w) : wpList Try.prog ops Q (o :: rest) a w := by
 refine look w hg m x hop b n F c hm hT k hx hk ?_
 rw [hF]
 exact hK
end
theorem one_string {s : ByteArray} : ∀ u ∈ [Value.string s], u.oneCell' = true := by simp [Value.oneCell']
theorem rd_in {l : List X} {i : Int} (h0 : 0 ≤ i) (h1 : i < (l.length : Int)) : l[i.toNat]? = some (P.rd_T32 l i) := by
 have h : i.toNat < l.length := by omega
 unfold P.rd_T32
 rw [List.getElem?_eq_getElem h, List.getD_eq_getElem?_getD, List.getElem?_eq_getElem h]
 rfl
theorem three_any {w : World} {A B C : Option Addr} {c d e k : Nat} {base a b : List En} {mine theirs : List X} {p q : List En} (hA : Kd.C P.k39 w A base.length base) (hca : base.length ≤ c) (hB : Kd.C P.k39 w B a.length a) (hcb : a.length ≤ d) (hC : Kd.C P.k39 w C b.length b) (hcc : b.length ≤ e)
  (hM : P.delta_Diff.f k base a = some mine) (hT : P.delta_Diff.f k base b = some theirs) (hlm : mine.length ≤ 20000) (hlt : theirs.length ≤ 20000) (szm : ∀ x ∈ mine, x.f2.size ≤ 140737488351232) (szt : ∀ x ∈ theirs, x.f2.size ≤ 140737488351232)
  (hP : P.delta_Patch.f base mine = some p) (hQ : P.delta_Patch.f p (threeF (lookF mine) theirs).1 = some q) :
  Calls Try.prog 46 #[.slice A base.length c, .slice B a.length d, .slice C b.length e] w fun en w' => ∃ v cv, en = .returned (.tuple #[v, cv]) ∧ Kd.R P.k39 39 w' w.heap.size (fun k_ => some k_ ≠ (cv : Value).ownBlock) v q ∧ Kd.R Kd.string 9 w' w.heap.size (fun k_ => some k_ ≠ (v : Value).ownBlock) cv (threeF (lookF mine) theirs).2 ∧ Below w.heap.size w w' := by
 have hmaxa := Kd.C_max hA
 have hmaxb := Kd.C_max hB
 have hmaxc := Kd.C_max hC
 have hum := Try.underlying32
 have humap := Try.underlying100
 obtain ⟨i0, hi, hz0, hz1, hz2⟩ := info_parts P.info32
 obtain ⟨iS, si, sz0, sz1, sz2⟩ := info_parts2 infoS
 have hMA := Aside0.mk hM
 have hTA := Aside0.mk hT
 have hPA := Aside0.mk hP
 have hQA := Aside0.mk hQ
 have hAA := Aside0.mk hA
 have hBA := Aside0.mk hB
 have hCA := Aside0.mk hC
 have szmA := Aside0.mk szm
 have sztA := Aside0.mk szt
 clear hM hT hP hQ hA hB hC szm szt
 have hmm := @run_makeMap Try.prog
 have D1 := P.delta_Diff.calls k A c base B d a mine w hAA.out hca hBA.out hcb hMA.out
 go_enter Try.func46, Try.ntmps46
 go_wp2_with (first
  | (go_at_call 41; refine D1.mono ?_; clear D1; rintro en w1 ⟨v1, rfl, hR1, hb1⟩; obtain ⟨A1, c1, e1⟩ := Kd.R_slice hR1; subst e1; have hR1A := Aside0.mk hR1; have hb1A := Aside0.mk hb1; clear hR1 hb1)
  | (go_at_call 41; refine (P.delta_Diff.calls k A c base C e b _ w1 (Kd.C_below hAA.out hb1A.out) hca (Kd.C_below hCA.out hb1A.out) hcc hTA.out).mono ?_; rintro en w2 ⟨v2, rfl, hR2, hb2⟩; obtain ⟨A2, c2, e2⟩ := Kd.R_slice hR2; subst e2; have hR2A := Aside0.mk hR2; have hb2A := Aside0.mk hb2; clear hR2 hb2))
 have hBw2 : Aside0 (Below w.heap.size w w2) := ⟨below_step hb1A.out hb2A.out⟩
 have hC0 : Aside0 (Kd.C P.k39 w2 A base.length base) := ⟨Kd.C_below hAA.out hBw2.out⟩
 have hC1 : Aside0 (mine.length ≤ c1 ∧ Kd.C P.k32 w2 A1 mine.length mine) := ⟨(Kd.R_reads' hR1A.out).2.1, Kd.C_below (Kd.R_reads' hR1A.out).2.2 hb2A.out⟩
 have hC2 : Aside0 (Kd.C P.k32 w2 A2 theirs.length theirs) := ⟨(Kd.R_reads' hR2A.out).2.2⟩
 have hTM0 : Aside0 (∃ c, TM (w2.alloc (.map #[] 0)) w2.heap.size (0 : Int).toNat (lookF (mine.take (0 : Int).toNat)) c) := ⟨0, TM.made w2⟩
 have hB0 : Aside0 (Below w2.heap.size w2 (w2.alloc (.map #[] 0))) := ⟨below_alloc (Below.refl _ _) _⟩
 have hl0 : mine.length ≤ 9223372036854775807 := by omega
 have hl1 : theirs.length ≤ 9223372036854775807 := by omega
 clear hR1A hR2A hb1A hb2A hAA hBA hCA hMA hTA
 go_loopg [28] mine.length (fun n iv wr => ∃ i : Int, iv = .int .i64 i ∧ Aside0 (0 ≤ i ∧ i.toNat + n = mine.length) ∧ Aside0 (∃ c, TM wr w2.heap.size i.toNat (lookF (mine.take i.toNat)) c) ∧ Aside0 (Below w2.heap.size w2 wr))
 case atStart => exact ⟨0, rfl, ⟨Int.le_refl _, by simp⟩, hTM0, hB0⟩
 case round =>
  clear hTM0 hB0
  obtain ⟨i, rfl, hI, hTM, hBr⟩ := hrel
  cases gk with
  | zero =>
   have hie : i = (mine.length : Int) := by have := hI.out; omega
   have d0 : decide (i < (mine.length : Int)) = false := decide_eq_false (by omega)
   have hTM1 : Aside0 (∃ c, TM wr w2.heap.size mine.length (lookF mine) c) := ⟨by
    obtain ⟨c, h⟩ := hTM.out
    rw [show i.toNat = mine.length by omega, List.take_length] at h
    exact ⟨c, h⟩⟩
   clear hTM hI hie
   go_wp2
   obtain ⟨cm, hTM2⟩ := hTM1.out
   have hS0 : Aside0 (St wr w2.heap.size w2.heap.size mine.length (lookF mine) cm (.slice none 0 0) (.slice none 0 0) (threeF (lookF mine) (theirs.take (0 : Int).toNat)).1 (threeF (lookF mine) (theirs.take (0 : Int).toNat)).2) := ⟨hTM2, World.ownsRow_nil _ _ _ _, World.ownsRow_nil _ _ _ _⟩
   clear hTM1 hTM2 d0
   generalize hFe : lookF mine = F at hS0 hQA
   have hFeA := Aside0.mk hFe
   clear hFe
   go_loopg [10, 14, 39] theirs.length (fun n cv lv jv wr2 => ∃ j : Int, jv = .int .i64 j ∧ Aside0 (0 ≤ j ∧ j.toNat + n = theirs.length) ∧ Aside0 (St wr2 w2.heap.size w2.heap.size mine.length F cm lv cv (threeF F (theirs.take j.toNat)).1 (threeF F (theirs.take j.toNat)).2) ∧ Aside0 (Below w2.heap.size w2 wr2))
   case atStart => exact ⟨0, rfl, ⟨Int.le_refl _, by simp⟩, hS0, hBr⟩
   case round =>
    clear hS0 hBr
    obtain ⟨j, rfl, hJ, hS, hBj⟩ := hrel
    have hbd := threeF_bound F (theirs.take j.toNat) ([], [])
    have htl : (theirs.take j.toNat).length ≤ 20000 := by simp; omega
    simp only [List.length_nil] at hbd
    have hbd1 : (threeF F (theirs.take j.toNat)).1.length ≤ 20000 := by unfold threeF; omega
    have hbd2 : (threeF F (theirs.take j.toNat)).2.length ≤ 20000 := by unfold threeF; omega
    clear hbd htl
    cases gk with
    | zero =>
     have hje : j = (theirs.length : Int) := by have := hJ.out; omega
     have d0 : decide (j < (theirs.length : Int)) = false := decide_eq_false (by omega)
     have hS1 := hS.out
     rw [show j.toNat = theirs.length by omega, List.take_length] at hS1 hbd1 hbd2
     obtain ⟨Al, cl, el⟩ := Rw.slice hS1.ho
     subst el
     obtain ⟨Ac, cc, ec⟩ := Go.Proofs.Ytebejadiaooooaa.Dl.own_slice hS1.hr
     subst ec
     have hCl : Aside0 ((threeF F theirs).1.length ≤ cl ∧ Kd.C P.k32 wr Al (threeF F theirs).1.length (threeF F theirs).1) := ⟨(C_of_Rw hS1.ho).2⟩
     have hS2 := Aside0.mk hS1
     clear hS hS1 hJ hje
     generalize hTe : threeF F theirs = T at hCl hS2 hbd1 hbd2 hQA
     have hTeA := Aside0.mk hTe
     clear hTe
     have P1 := P.delta_Patch.calls A c base A1 c1 mine p wr (Kd.C_below hC0.out hBj.out) hca (Kd.C_below hC1.out.2 hBj.out) hC1.out.1 hPA.out
     go_wp2_with (first
      | (go_at_call 45; refine P1.mono ?_; clear P1; rintro en w4 ⟨v4, rfl, hR4, hb4⟩; obtain ⟨A4, c4, e4⟩ := Kd.R_slice hR4; subst e4; have hR4A := Aside0.mk hR4; have hb4A := Aside0.mk hb4; clear hR4 hb4)
      | (go_at_call 45; refine (P.delta_Patch.calls A4 c4 p Al cl T.1 q w4 (Kd.R_reads' hR4A.out).2.2 (Kd.R_reads' hR4A.out).2.1 (Kd.C_below hCl.out.2 hb4A.out) hCl.out.1 hQA.out).mono ?_; rintro en w5 ⟨v5, rfl, hR5, hb5⟩; have hR5A := Aside0.mk hR5; have hb5A := Aside0.mk hb5; clear hR5 hb5))
     refine bodyPost_ret (results_tmp2 rfl _ _ _) rfl ?_
     have hTe := hTeA.out
     rw [← hFeA.out] at hTe
     rw [hTe]
     have hw2 := hBw2.out.size
     have hw4 := hBj.out.size
     have hw5 := hb4A.out.size
     have own5 := own_move (own_move hS2.out.hr (fun k hk => hb4A.out.block k (own_lt hS2.out.hr k hk))) (fun k hk => hb5A.out.block k (Nat.lt_of_lt_of_le (own_lt hS2.out.hr k hk) hw5))
     have own6 := own_down own5 (base' := w.heap.size) (by omega)
     have lt5 : ∀ k, Value.ownBlock (.slice Ac T.2.length cc) = some k → k < w4.heap.size := fun k hk => Nat.lt_of_lt_of_le (own_lt hS2.out.hr k hk) hw5
     refine ⟨_, _, rfl, Kd.R_lower (Kd.R_mono (Kd.R_bound hR5A.out) (fun k hk => ?_)) (by omega), Kd.R_of_own own6 (fun k hk e => ?_), below_step hBw2.out (below_step hBj.out (below_step hb4A.out hb5A.out))⟩
     ·intro e
      have := lt5 k e.symm
      have := hk.2.1
      omega
     ·have h1 := lt5 k hk
      have h2 := own_base hR5A.out.2.choose_spec.1 k e.symm
      omega
    | succ n =>
     have j0' : 0 ≤ j := hJ.out.1
     have j1' : j < (theirs.length : Int) := by have := hJ.out; omega
     have hx := rd_in j0' j1'
     obtain ⟨ad, e1, q0, q1, q2, q3, q4, q5⟩ := P.at_T32 hC2.out j j0' j1'
     subst e1
     have hwj : wrap64 (j + 1) = j + 1 := IntWalk.wrap64_in _ (by omega)
     have hst := Aside0.mk (threeF_snoc (F := F) hx)
     have hxs := sztA.out _ (List.mem_of_getElem? hx)
     generalize P.rd_T32 theirs j = x at hx hst hxs q0 q1 q2 q3 q4 q5
     obtain ⟨x0', x1', x2', x3', x4', x5'⟩ := x
     dsimp only at q0 q1 q2 q3 q4 q5 hxs
     replace q0 := (hBj.out.cell (World.block_lt_of_cell? w2 _ q0)).trans q0
     replace q1 := (hBj.out.cell (World.block_lt_of_cell? w2 _ q1)).trans q1
     replace q2 := (hBj.out.cell (World.block_lt_of_cell? w2 _ q2)).trans q2
     replace q3 := (hBj.out.cell (World.block_lt_of_cell? w2 _ q3)).trans q3
     replace q4 := (hBj.out.cell (World.block_lt_of_cell? w2 _ q4)).trans q4
     replace q5 := (hBj.out.cell (World.block_lt_of_cell? w2 _ q5)).trans q5
     have hSa := Aside0.mk (hS.out.alloc (objM ⟨x0', x1', x2', x3', x4', x5'⟩))
     have hsz := Aside0.mk hBj.out.size
     have hBa := Aside0.mk (below_alloc hBj.out (objM ⟨x0', x1', x2', x3', x4', x5'⟩))
     have d0 := decide_eq_true j1'
     have d1 := decide_eq_true j0'
     have hJA := Aside0.mk (And.intro j0' j1')
     replace j0' := eq_true j0'
     replace j1' := eq_true j1'
     clear hx hS
     generalize threeF F (theirs.take j.toNat) = T at hSa hst hbd1 hbd2
     cases hF : F x2' with
     | none =>
      have hFA := Aside0.mk hF
      clear hF
      have hSb := Aside0.mk ((hSa.out.alloc (objM x0)).alloc (objM ⟨x0', x1', x2', x3', x4', x5'⟩))
      have hblk : Aside0 ((((wr.alloc (objM ⟨x0', x1', x2', x3', x4', x5'⟩)).alloc (objM x0)).alloc (objM ⟨x0', x1', x2', x3', x4', x5'⟩)).heap[wr.heap.size + 2]? = some (objM ⟨x0', x1', x2', x3', x4', x5'⟩)) := ⟨by have := blk_new ((wr.alloc (objM ⟨x0', x1', x2', x3', x4', x5'⟩)).alloc (objM x0)) (objM ⟨x0', x1', x2', x3', x4', x5'⟩); rwa [World.size_alloc, World.size_alloc] at this⟩
      have hmx : Aside0 (T.1.length + 1 ≤ maxLen) := ⟨le_max (by omega)⟩
      have hbt : Aside0 ((T.1.length + 1) * 72 ≤ 140737488355328) := ⟨by omega⟩
      have hbs : Aside0 (w2.heap.size ≤ (((wr.alloc (objM ⟨x0', x1', x2', x3', x4', x5'⟩)).alloc (objM x0)).alloc (objM ⟨x0', x1', x2', x3', x4', x5'⟩)).heap.size) := ⟨by have := hsz.out; simp only [World.size_alloc]; omega⟩
      go_wp2_with (first
       | (refine lookN _ rfl _ _ rfl w2.heap.size mine.length F cm rfl hSa.out.hm x2' rfl hxs hFA.out ?_)
       | (at_builtin; refine wpList_append_own_at _ rfl _ _ 22 rfl w2.heap.size 32 i0 zM 6 72 Try.underlying22 hi hz0 hz1 hz2 rfl (by decide) _ _ _ rfl hSb.out.ho ⟨wr.heap.size + 2, 0, none⟩ 1 1 (enc (⟨x0', x1', x2', x3', x4', x5'⟩ : X)) rfl rfl (cell_enc hblk.out) (enc_one (⟨x0', x1', x2', x3', x4', x5'⟩ : X)) hmx.out hbt.out hbs.out ?_; intro v5 w5 hown5 hg5 hnil5 hat5))
      go_roundg n
      case measure => have := hJ.out; clear hwj; omega
      case rel =>
       refine ⟨j + 1, congrArg (Value.int .i64) (by first | rfl | exact hwj), ⟨by have := hJA.out; clear hwj; omega, by have := hJ.out; have := hJA.out; clear hwj; omega⟩, ⟨?_⟩, ⟨?_⟩⟩
       ·rw [show (j + 1).toNat = j.toNat + 1 by have := hJA.out; clear hwj; omega, hst.out]
        have e9 : stepT F T ⟨x0', x1', x2', x3', x4', x5'⟩ = (T.1 ++ [⟨x0', x1', x2', x3', x4', x5'⟩], T.2) := by simp only [stepT, hFA.out]
        rw [e9]
        exact hSb.out.told hown5 hg5
       ·replace hg5 : World.grownBy _ w5 u14.ownBlock := hg5
        exact (below_alloc (below_alloc hBa.out _) _).trans ((fr_grown hg5).below (fun k hk => by have := own_base hSb.out.ho k (by simpa using hk); omega) hbs.out)
     | some y =>
      obtain ⟨y0', y1', y2', y3', y4', y5'⟩ := y
      have hFA := Aside0.mk hF
      clear hF
      have hSb := Aside0.mk (hSa.out.alloc (objM ⟨y0', y1', y2', y3', y4', y5'⟩))
      cases hne : neB ⟨y0', y1', y2', y3', y4', y5'⟩ ⟨x0', x1', x2', x3', x4', x5'⟩ with
      | false =>
       have hneA := Aside0.mk hne
       obtain ⟨z0, z1, z2, z3, z4, z5⟩ := neB_false hne
       dsimp only at z0 z1 z2 z3 z4 z5
       clear hne
       subst z0 z1 z2 z3 z4 z5
       go_wp2_with (first
        | (refine lookS _ rfl _ _ rfl w2.heap.size mine.length F cm rfl hSa.out.hm _ rfl hxs _ hFA.out ?_))
       go_roundg n
       case measure => have := hJ.out; clear hwj; omega
       case rel =>
        refine ⟨j + 1, congrArg (Value.int .i64) (by first | rfl | exact hwj), ⟨by have := hJA.out; clear hwj; omega, by have := hJ.out; have := hJA.out; clear hwj; omega⟩, ⟨?_⟩, ⟨?_⟩⟩
        ·rw [show (j + 1).toNat = j.toNat + 1 by have := hJA.out; clear hwj; omega, hst.out]
         have e9 : stepT F T ⟨y0', y1', y2', y3', y4', y5'⟩ = T := by simp only [stepT, hFA.out, hneA.out]; rfl
         rw [e9]
         exact hSb.out
        ·exact below_alloc hBa.out _
      | true =>
       have hneA := Aside0.mk hne
       simp only [neB] at hne
       have hSc := Aside0.mk (hSb.out.alloc (.cells #[.string x2'] 9))
       have hblk : Aside0 ((((wr.alloc (objM ⟨x0', x1', x2', x3', x4', x5'⟩)).alloc (objM ⟨y0', y1', y2', y3', y4', y5'⟩)).alloc (.cells #[.string x2'] 9)).heap[wr.heap.size + 2]? = some (.cells #[.string x2'] 9)) := ⟨by have := blk_new ((wr.alloc (objM ⟨x0', x1', x2', x3', x4', x5'⟩)).alloc (objM ⟨y0', y1', y2', y3', y4', y5'⟩)) (.cells #[.string x2'] 9); rwa [World.size_alloc, World.size_alloc] at this⟩
       have hmx : Aside0 (T.2.length + 1 ≤ maxLen) := ⟨le_max (by omega)⟩
       have hbt : Aside0 ((T.2.length + 1) * 16 ≤ 140737488355328) := ⟨by omega⟩
       have hbs : Aside0 (w2.heap.size ≤ (((wr.alloc (objM ⟨x0', x1', x2', x3', x4', x5'⟩)).alloc (objM ⟨y0', y1', y2', y3', y4', y5'⟩)).alloc (.cells #[.string x2'] 9)).heap.size) := ⟨by have := hsz.out; simp only [World.size_alloc]; omega⟩
       go_wp2_with (first
        | (refine lookS _ rfl _ _ rfl w2.heap.size mine.length F cm rfl hSa.out.hm x2' rfl hxs _ hFA.out ?_)
        | (at_builtin; refine wpList_append_own_at _ rfl _ _ 24 rfl w2.heap.size 9 iS (.string ⟨#[]⟩) 1 16 Try.underlying24 si sz0 sz1 sz2 rfl (by decide) _ _ _ rfl hSc.out.hr ⟨wr.heap.size + 2, 0, none⟩ 1 1 [.string x2'] rfl rfl (cell_lit (cs := #[.string x2']) (e := 9) hblk.out) one_string hmx.out hbt.out hbs.out ?_; intro v5 w5 hown5 hg5 hnil5 hat5))
       go_roundg n
       case measure => have := hJ.out; clear hwj; omega
       case rel =>
        refine ⟨j + 1, congrArg (Value.int .i64) (by first | rfl | exact hwj), ⟨by have := hJA.out; clear hwj; omega, by have := hJ.out; have := hJA.out; clear hwj; omega⟩, ⟨?_⟩, ⟨?_⟩⟩
        ·rw [show (j + 1).toNat = j.toNat + 1 by have := hJA.out; clear hwj; omega, hst.out]
         have e9 : stepT F T ⟨x0', x1', x2', x3', x4', x5'⟩ = (T.1, T.2 ++ [x2']) := by simp only [stepT, hFA.out, hneA.out]; rfl
         rw [e9]
         exact hSc.out.gone hown5 hg5
        ·replace hg5 : World.grownBy _ w5 u10.ownBlock := hg5
         exact (below_alloc (below_alloc hBa.out _) _).trans ((fr_grown hg5).below (fun k hk => by have := own_base hSc.out.hr k (by simpa using hk); omega) hbs.out)
  | succ n =>
   have i0' : 0 ≤ i := hI.out.1
   have i1' : i < (mine.length : Int) := by have := hI.out; omega
   have hx := rd_in i0' i1'
   obtain ⟨ad, e1, q0, q1, q2, q3, q4, q5⟩ := P.at_T32 hC1.out.2 i i0' i1'
   subst e1
   have hwi : wrap64 (i + 1) = i + 1 := IntWalk.wrap64_in _ (by omega)
   have hst := Aside0.mk (lookF_snoc hx)
   have hxs := szmA.out _ (List.mem_of_getElem? hx)
   generalize P.rd_T32 mine i = x at hx hst hxs q0 q1 q2 q3 q4 q5
   obtain ⟨x0', x1', x2', x3', x4', x5'⟩ := x
   dsimp only at q0 q1 q2 q3 q4 q5 hxs
   replace q0 := (hBr.out.cell (World.block_lt_of_cell? w2 _ q0)).trans q0
   replace q1 := (hBr.out.cell (World.block_lt_of_cell? w2 _ q1)).trans q1
   replace q2 := (hBr.out.cell (World.block_lt_of_cell? w2 _ q2)).trans q2
   replace q3 := (hBr.out.cell (World.block_lt_of_cell? w2 _ q3)).trans q3
   replace q4 := (hBr.out.cell (World.block_lt_of_cell? w2 _ q4)).trans q4
   replace q5 := (hBr.out.cell (World.block_lt_of_cell? w2 _ q5)).trans q5
   obtain ⟨cm, hTM1⟩ := hTM.out
   have hTM2 := hTM1.kept (World.grownBy_alloc wr (objM ⟨x0', x1', x2', x3', x4', x5'⟩) none) (by simp)
   have d0 := decide_eq_true i1'
   have d1 := decide_eq_true i0'
   have hin : i.toNat < 1000000 := by omega
   have hIA := Aside0.mk (And.intro i0' i1')
   replace i0' := eq_true i0'
   replace i1' := eq_true i1'
   clear hx hTM hTM1
   have hTM3 := Aside0.mk hTM2
   clear hTM2
   go_wp2_with (refine store _ rfl _ _ _ rfl w2.heap.size i.toNat (lookF (mine.take i.toNat)) cm rfl hTM3.out hin x2' rfl hxs ⟨x0', x1', x2', x3', x4', x5'⟩ rfl ?_; intro w5 hT5 f5)
   go_roundg n
   case measure => have := hI.out; clear hwi; omega
   case rel =>
    refine ⟨i + 1, congrArg (Value.int .i64) (by first | rfl | exact hwi), ⟨by have := hIA.out; clear hwi; omega, by have := hI.out; have := hIA.out; clear hwi; omega⟩, ⟨?_⟩, ⟨?_⟩⟩
    ·rw [show (i + 1).toNat = i.toNat + 1 by have := hIA.out; clear hwi; omega, hst.out]
     exact ⟨_, hT5⟩
    ·exact (below_alloc hBr.out _).trans ((fr_grown f5.grown).below (fun k hk => by simp at hk; omega) (by have := hBr.out.size; simp; omega))
end Go.Proofs.Ytebejadiaooooaa.Th
end
section
namespace Go.Proofs.Ytebejadiaooooaa.Th
open Go.RowKit Go.Proofs.Ytebejadiaooooaa.Cp Go.Proofs.YtebejadiaooooaaW.PrintWords Go.Proofs.YtebejadiaooooaaW.PrintLast Go.Proofs.YtebejadiaooooaaW.PrintMore Go.Proofs.Ytebejadiaooooaa.Own Go.Proofs.Ytebejadiaooooaa
def okT (l : List X) : Bool := decide (l.length ≤ 20000) && l.all (fun x => decide (x.f2.size ≤ 140737488351232))
theorem okT_iff {l : List X} : okT l = true ↔ l.length ≤ 20000 ∧ ∀ x ∈ l, x.f2.size ≤ 140737488351232 := by
 simp [okT]
def threeC (k : Nat) (base a b : List En) : Option (List En × List ByteArray) :=
 (P.delta_Diff.f k base a).bind fun mine => (P.delta_Diff.f k base b).bind fun theirs =>
  if (okT mine && okT theirs) = true then (P.delta_Patch.f base mine).bind fun p => (P.delta_Patch.f p (threeF (lookF mine) theirs).1).bind fun q => some (q, (threeF (lookF mine) theirs).2) else none
theorem threeC_calls {w : World} {k : Nat} {A0 A1 A2 : Option Addr} {c0 c1 c2 : Nat} {l0 l1 l2 r1 : List En} {r2 : List ByteArray} (hr0 : Kd.C P.k39 w A0 l0.length l0) (hc0 : l0.length ≤ c0) (hr1 : Kd.C P.k39 w A1 l1.length l1) (hc1 : l1.length ≤ c1) (hr2 : Kd.C P.k39 w A2 l2.length l2) (hc2 : l2.length ≤ c2) (h : threeC k l0 l1 l2 = some (r1, r2)) :
  Calls Try.prog 46 #[.slice A0 l0.length c0, .slice A1 l1.length c1, .slice A2 l2.length c2] w fun e w' => ∃ v0_ v1_ : Value, e = .returned (.tuple #[v0_, v1_]) ∧ Kd.R P.k39 39 w' w.heap.size (fun k_ => some k_ ≠ (v1_ : Value).ownBlock) v0_ r1 ∧ Kd.R Kd.string 9 w' w.heap.size (fun k_ => some k_ ≠ (v0_ : Value).ownBlock) v1_ r2 ∧ Below w.heap.size w w' := by
 unfold threeC at h
 obtain ⟨mine, hM, h⟩ := Option.bind_eq_some_iff.mp h
 obtain ⟨theirs, hT, h⟩ := Option.bind_eq_some_iff.mp h
 split at h
 ·rename_i hk
  rw [Bool.and_eq_true] at hk
  obtain ⟨p, hP, h⟩ := Option.bind_eq_some_iff.mp h
  obtain ⟨q, hQ, h⟩ := Option.bind_eq_some_iff.mp h
  have := Option.some.inj h
  simp only [Prod.mk.injEq] at this
  obtain ⟨rfl, rfl⟩ := this
  obtain ⟨hl, hs⟩ := okT_iff.1 hk.1
  obtain ⟨hm, ht⟩ := okT_iff.1 hk.2
  exact three_any hr0 hc0 hr1 hc1 hr2 hc2 hM hT hl hm hs ht hP hQ
 ·cases h
end Go.Proofs.Ytebejadiaooooaa.Th
end
