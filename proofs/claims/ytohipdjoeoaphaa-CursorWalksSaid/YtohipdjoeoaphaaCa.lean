/- A table of cursors: the map of what each cursor has still to tell, by its numbers; the operations on it as a function of numbers. -/
import Derived.Test.YtohipdjoeoaphaaFr
import Derived.Test.YtohipdjoeoaphaaP2
import Derived.Maps.OwnSet
import Derived.WalkArith
set_option linter.unusedVariables false
set_option linter.unusedSimpArgs false
namespace Go.Proofs.Ytohipdjoeoaphaa.Cur
open Go Go.RowKit Go.Maps Go.Proofs.YtohipdjoeoaphaaW.PrintWords Go.Proofs.YtohipdjoeoaphaaW.PrintLast Go.Proofs.YtohipdjoeoaphaaW.PrintMore Go.Proofs.Ytohipdjoeoaphaa.Own Go.Proofs.Ytohipdjoeoaphaa.Ord
/-- What a cursor has still to tell: from, to, and whether it is at its end. -/
abbrev X := ByteArray × ByteArray × Bool
def e0 : ByteArray := ⟨#[]⟩
def x0 : X := (e0, e0, false)
def restV (x : X) : Value := .agg #[.string x.1, .string x.2.1, .bool x.2.2]
def restD (x : X) : DataW Unit := .agg [.lit (.string x.1.data.toList), .lit (.string x.2.1.data.toList), .lit (.bool x.2.2)]
def restR (v : Value) : Option (DataW Unit × List MemPlace) :=
  match v with
  | .agg cs => match cs.toList with
    | [.string a, .string b, .bool e] => some (restD (a, b, e), [])
    | _ => none
  | _ => none
theorem restR_mk (x : X) : restR (restV x) = some (restD x, []) := rfl
theorem restD_inj {x y : X} (h : restD x = restD y) : x = y := by
  obtain ⟨a, b, e⟩ := x
  obtain ⟨c, d, g⟩ := y
  simp only [restD, DataW.agg.injEq, List.cons.injEq, DataW.lit.injEq, Lit.string.injEq, Lit.bool.injEq, and_true] at h
  obtain ⟨h1, h2, rfl⟩ := h
  have e1 : a = c := by
    obtain ⟨⟨a⟩⟩ := a; obtain ⟨⟨c⟩⟩ := c; simp at h1; rw [h1]
  have e2 : b = d := by
    obtain ⟨⟨a⟩⟩ := b; obtain ⟨⟨c⟩⟩ := d; simp at h2; rw [h2]
  rw [e1, e2]
theorem restR_inv {v : Value} {d : DataW Unit} {ps : List MemPlace} (h : restR v = some (d, ps)) : ∃ x, v = restV x ∧ d = restD x := by
  unfold restR at h
  split at h
  · rename_i cs
    split at h
    · rename_i a b e hl
      cases h
      refine ⟨(a, b, e), ?_, rfl⟩
      show Value.agg cs = Value.agg #[.string a, .string b, .bool e]
      rw [Array.toList_inj.1 (show cs.toList = (#[.string a, .string b, .bool e] : Array Value).toList from hl)]
    · cases h
  · cases h
def key (k : Int) : Lit := .int .i64 k
theorem key_inj {a b : Int} (h : key a = key b) : a = b := by cases h; rfl
/-- The map's datum tells, at each number, what the function tells. -/
def Fits (D : DataW Unit) (F : Int → Option X) : Prop := ∀ k, has D (key k) = (F k).isSome ∧ ∀ x, F k = some x → ∀ z, D.atKey (key k) z = restD x
def upd (F : Int → Option X) (n : Int) (x : Option X) : Int → Option X := fun k => if k = n then x else F k
theorem upd_same (F : Int → Option X) (n : Int) (x : Option X) : upd F n x n = x := if_pos rfl
theorem upd_other (F : Int → Option X) {n k : Int} (h : k ≠ n) (x : Option X) : upd F n x k = F k := if_neg h
theorem Fits.empty : Fits (.map []) (fun _ => none) := fun k => ⟨rfl, fun x h => by cases h⟩
theorem Fits.put {D : DataW Unit} {F : Int → Option X} (h : Fits D F) (hD : IsMap D) (n : Int) (x : X) : Fits (D.put (key n) (restD x)) (upd F n (some x)) := fun k => by
  by_cases hk : k = n
  · subst hk
    rw [upd_same]
    exact ⟨has_put_same hD (by simp [key, WideAt.IsKeyLit]) _, fun y hy z => by cases hy; exact atKey_put_same hD (by simp [key, WideAt.IsKeyLit]) _ _⟩
  · have hne : key k ≠ key n := fun e => hk (key_inj e)
    rw [upd_other F hk]
    exact ⟨by rw [has_put_other hne]; exact (h k).1, fun y hy z => by rw [atKey_put_other hne]; exact (h k).2 y hy z⟩
theorem Fits.del {D : DataW Unit} {F : Int → Option X} (h : Fits D F) (n : Int) : Fits (D.del (key n)) (upd F n none) := fun k => by
  by_cases hk : k = n
  · subst hk
    rw [upd_same]
    exact ⟨has_del_same, fun y hy => by cases hy⟩
  · have hne : key k ≠ key n := fun e => hk (key_inj e)
    rw [upd_other F hk]
    exact ⟨by rw [has_del_other hne]; exact (h k).1, fun y hy z => by rw [atKey_del_other hne]; exact (h k).2 y hy z⟩
/-- The block b is a map that tells F, of c cursors. -/
def TM (w : World) (b n : Nat) (F : Int → Option X) (c : Nat) : Prop := ∃ D, w.ownsMap Try.prog 3 restR b n D ∧ Fits D F ∧ size D = c
theorem law : Keyed Try.prog 3 := int_keyed Try.underlying3
theorem wf_key {k : Int} (h : (Lit.int .i64 k).wf = true) : keyOf Try.prog 3 (.int .i64 k) = some (key k) := keyOf_int_mk Try.underlying3 h
theorem zeroE (w : World) : (zeroValue 52).run Try.prog w = .ok (restV x0) w := by kernel_rfl
theorem TM.lt {w : World} {b n : Nat} {F : Int → Option X} {c : Nat} (h : TM w b n F c) : b < w.heap.size := by obtain ⟨D, h1, _⟩ := h; exact h1.lt
theorem TM.fr {w w' : World} {b n : Nat} {F : Int → Option X} {c : Nat} (h : TM w b n F c) {B : List Nat} (f : Fr B w w') (hb : b ∉ B) : TM w' b n F c := by
  obtain ⟨D, h1, h2, h3⟩ := h
  have hl := h1.lt
  obtain ⟨es, clock, hb1, r⟩ := h1
  exact ⟨D, ⟨es, clock, (f.block b hl hb).trans hb1, r⟩, h2, h3⟩
theorem TM.mono {w : World} {b n n' : Nat} {F : Int → Option X} {c : Nat} (h : TM w b n F c) (hn : n ≤ n') : TM w b n' F c := by
  obtain ⟨D, h1, h2, h3⟩ := h
  exact ⟨D, h1.mono hn, h2, h3⟩
theorem TM.made (w : World) : TM (w.alloc (.map #[] 0)) w.heap.size 0 (fun _ => none) 0 := ⟨_, World.ownsMap_made w _ _ _, Fits.empty, rfl⟩
theorem Fr.of_turned {w w' : World} {b : Nat} (h : w.mapTurned w' b) : Fr [b] w w' := by
  have g := h.grown
  exact ⟨g.os, g.tape, g.output, g.size, fun k hk hn => g.block k hk (fun e => hn (by cases e; simp))⟩
section
variable (w : World) {ops : Array Oper} {rest : List Oper} {o : Oper} {a : Act} {Q : Exit → Act → World → Prop}
theorem look (hg : o.guard = none) (m x : Operand) (hop : o.op = Op.lookup 48 m x true) (b n : Nat) (F : Int → Option X) (c : Nat)
    (hm : a.eval m = .map (some b)) (hT : TM w b n F c) (k : Int) (hx : a.eval x = .int .i64 k) (hk : (Lit.int .i64 k).wf = true)
    (hK : wpList Try.prog ops Q rest (a.put o.dst (.tuple #[restV ((F k).getD x0), .bool (F k).isSome])) w) : wpList Try.prog ops Q (o :: rest) a w := by
  obtain ⟨D, h1, h2, _⟩ := hT
  refine wpList_lookup_own_ok w hg m x _ hop _ _ law Try.underlying48 restR (zeroE w) (restD x0) [] (restR_mk x0) b n D hm h1 _ _ hx (wf_key hk) (fun v ps hv => ?_)
  rw [(h2 k).1]
  obtain ⟨y, rfl, hy⟩ := restR_inv hv
  have e : y = (F k).getD x0 := by
    cases hF : F k with
    | none =>
      have h3 := (h2 k).1
      rw [hF] at h3
      rw [atKey_of_not_has h3] at hy
      exact (restD_inj hy).symm
    | some z =>
      rw [(h2 k).2 z hF] at hy
      exact (restD_inj hy).symm
  rw [e]
  exact hK
theorem store (hg : o.guard = none) (m x v : Operand) (hop : o.op = Op.mapUpdate 48 m x v) (b n : Nat) (F : Int → Option X) (c : Nat)
    (hm : a.eval m = .map (some b)) (hT : TM w b n F c) (hn : n < 1000000) (k : Int) (hx : a.eval x = .int .i64 k) (hk : (Lit.int .i64 k).wf = true) (y : X) (hv : a.eval v = restV y)
    (hK : ∀ w', TM w' b (n + 1) (upd F k (some y)) (if (F k).isSome then c else c + 1) → Fr [b] w w' → wpList Try.prog ops Q rest (a.put o.dst undef) w') : wpList Try.prog ops Q (o :: rest) a w := by
  obtain ⟨D, h1, h2, h3⟩ := hT
  refine wpList_mapUpdate_in w hg m x v _ hop _ _ law Try.underlying48 restR b n D hm h1 (by unfold maxLen; omega) _ _ _ hx hv (wf_key hk) (restD y) [] (restR_mk y) (fun w' r1 r2 => ?_)
  refine hK w' ⟨_, r1, h2.put h1.isMap k y, ?_⟩ (Fr.of_turned r2)
  rw [size_put (h1.tidy law), (h2 k).1, h3]
theorem drop (hg : o.guard = none) (m x : Operand) (hop : o.op = Op.call { callee := Callee.builtin Builtin.delete, args := #[m, x], argTypes := #[48, 3] }) (b n : Nat) (F : Int → Option X) (c : Nat)
    (hm : a.eval m = .map (some b)) (hT : TM w b n F c) (k : Int) (hx : a.eval x = .int .i64 k) (hk : (Lit.int .i64 k).wf = true)
    (hK : ∀ w', (∀ d, d + (if (F k).isSome then 1 else 0) = c → TM w' b n (upd F k none) d) → Fr [b] w w' → wpList Try.prog ops Q rest (a.put o.dst (.tuple #[])) w') : wpList Try.prog ops Q (o :: rest) a w := by
  obtain ⟨D, h1, h2, h3⟩ := hT
  refine wpList_delete_own w hg m x _ _ hop _ law Try.underlying48 restR b n D hm h1 _ _ hx (wf_key hk) (fun w' r1 r2 => ?_)
  refine hK w' (fun d hd => ⟨_, r1, h2.del k, ?_⟩) (Fr.of_turned r2)
  have := size_del (k := key k) (h1.tidy law)
  rw [(h2 k).1, h3] at this
  omega
theorem lenOf (hg : o.guard = none) (m : Operand) (hop : o.op = Op.call { callee := Callee.builtin Builtin.len, args := #[m], argTypes := #[48] }) (b n : Nat) (F : Int → Option X) (c : Nat)
    (hm : a.eval m = .map (some b)) (hT : TM w b n F c) (hK : wpList Try.prog ops Q rest (a.put o.dst (.int .i64 c)) w) : wpList Try.prog ops Q (o :: rest) a w := by
  obtain ⟨D, h1, h2, h3⟩ := hT
  refine wpList_len_own w hg m _ hop _ _ Try.underlying48 restR b n D hm h1 ?_
  rw [h3]
  exact hK
end
end Go.Proofs.Ytohipdjoeoaphaa.Cur
