/- Texts of one claim (laid by shake.py). -/
import Derived.Test.YtljnlnbopohghaaZCf1
import Derived.Test.YtljnlnbopohghaaZCf5
import Derived.Maps.OwnSet
import Derived.WalkArith
import Derived.Maps.OwnOps
import Derived.Test.YtljnlnbopohghaaZCf3
import Derived.StillTailTactics
import Derived.RangeFuncNested
import Derived.RangeFuncBound
import Derived.RangeFuncCalls
import Derived.RangeFuncLeaves
import Derived.RangeFuncKeeps
import Derived.Shelf.RegionOpen
import Derived.Sort.QuietIn
import Derived.Shelf.Abstract
import Derived.WalkKit
import Derived.OwnWalkIn
import Derived.TacticsInMore
import Derived.Maps.AppendAt
import Derived.Below
import Derived.Deep.Draws
set_option linter.unusedVariables false
set_option linter.unusedSimpArgs false
section
namespace Go.Proofs.Ytljnlnbopohghaa.Cur
open Go Go.RowKit Go.Maps Go.Proofs.YtljnlnbopohghaaW.PrintWords Go.Proofs.YtljnlnbopohghaaW.PrintLast Go.Proofs.YtljnlnbopohghaaW.PrintMore Go.Proofs.Ytljnlnbopohghaa.Own Go.Proofs.Ytljnlnbopohghaa.Ord
abbrev X := ByteArray × ByteArray × Bool
def e0 : ByteArray := ⟨#[]⟩
def x0 : X := (e0, e0, false)
def restV (x : X) : Value := .agg #[.string x.1, .string x.2.1, .bool x.2.2]
def restD (x : X) : DataW Unit := .agg [.lit (.string x.1.data.toList), .lit (.string x.2.1.data.toList), .lit (.bool x.2.2)]
def restR (v : Value) : Option (DataW Unit × List MemPlace) :=
 match v with
 | .agg cs => match cs.toList with
  | [.string a, .string b, .bool e] => some (restD (a, b, e), [])
  | _ => none
 | _ => none
theorem restR_mk (x : X) : restR (restV x) = some (restD x, []) := rfl
theorem restD_inj {x y : X} (h : restD x = restD y) : x = y := by
 obtain ⟨a, b, e⟩ := x
 obtain ⟨c, d, g⟩ := y
 simp only [restD, DataW.agg.injEq, List.cons.injEq, DataW.lit.injEq, Lit.string.injEq, Lit.bool.injEq, and_true] at h
 obtain ⟨h1, h2, rfl⟩ := h
 have e1 : a = c := by
  obtain ⟨⟨a⟩⟩ := a; obtain ⟨⟨c⟩⟩ := c; simp at h1; rw [h1]
 have e2 : b = d := by
  obtain ⟨⟨a⟩⟩ := b; obtain ⟨⟨c⟩⟩ := d; simp at h2; rw [h2]
 rw [e1, e2]
theorem restR_inv {v : Value} {d : DataW Unit} {ps : List MemPlace} (h : restR v = some (d, ps)) : ∃ x, v = restV x ∧ d = restD x := by
 unfold restR at h
 split at h
 ·rename_i cs
  split at h
  ·rename_i a b e hl
   cases h
   refine ⟨(a, b, e), ?_, rfl⟩
   show Value.agg cs = Value.agg #[.string a, .string b, .bool e]
   rw [Array.toList_inj.1 (show cs.toList = (#[.string a, .string b, .bool e] : Array Value).toList from hl)]
  cases h
 cases h
def key (k : Int) : Lit := .int .i64 k
theorem key_inj {a b : Int} (h : key a = key b) : a = b := by cases h; rfl
def Fits (D : DataW Unit) (F : Int → Option X) : Prop := ∀ k, has D (key k) = (F k).isSome ∧ ∀ x, F k = some x → ∀ z, D.atKey (key k) z = restD x
def upd (F : Int → Option X) (n : Int) (x : Option X) : Int → Option X := fun k => if k = n then x else F k
theorem upd_same (F : Int → Option X) (n : Int) (x : Option X) : upd F n x n = x := if_pos rfl
theorem upd_other (F : Int → Option X) {n k : Int} (h : k ≠ n) (x : Option X) : upd F n x k = F k := if_neg h
theorem Fits.empty : Fits (.map []) (fun _ => none) := fun k => ⟨rfl, fun x h => by cases h⟩
theorem Fits.put {D : DataW Unit} {F : Int → Option X} (h : Fits D F) (hD : IsMap D) (n : Int) (x : X) : Fits (D.put (key n) (restD x)) (upd F n (some x)) := fun k => by
 by_cases hk : k = n
 ·subst hk
  rw [upd_same]
  exact ⟨has_put_same hD (by simp [key, WideAt.IsKeyLit]) _, fun y hy z => by cases hy; exact atKey_put_same hD (by simp [key, WideAt.IsKeyLit]) _ _⟩
 have hne : key k ≠ key n := fun e => hk (key_inj e)
 rw [upd_other F hk]
 exact ⟨by rw [has_put_other hne]; exact (h k).1, fun y hy z => by rw [atKey_put_other hne]; exact (h k).2 y hy z⟩
theorem Fits.del {D : DataW Unit} {F : Int → Option X} (h : Fits D F) (n : Int) : Fits (D.del (key n)) (upd F n none) := fun k => by
 by_cases hk : k = n
 ·subst hk
  rw [upd_same]
  exact ⟨has_del_same, fun y hy => by cases hy⟩
 have hne : key k ≠ key n := fun e => hk (key_inj e)
 rw [upd_other F hk]
 exact ⟨by rw [has_del_other hne]; exact (h k).1, fun y hy z => by rw [atKey_del_other hne]; exact (h k).2 y hy z⟩
def TM (w : World) (b n : Nat) (F : Int → Option X) (c : Nat) : Prop := ∃ D, w.ownsMap Try.prog 3 restR b n D ∧ Fits D F ∧ size D = c
theorem law : Keyed Try.prog 3 := int_keyed Try.underlying3
theorem wf_key {k : Int} (h : (Lit.int .i64 k).wf = true) : keyOf Try.prog 3 (.int .i64 k) = some (key k) := keyOf_int_mk Try.underlying3 h
theorem zeroE (w : World) : (zeroValue 106).run Try.prog w = .ok (restV x0) w := by kernel_rfl
theorem TM.lt {w : World} {b n : Nat} {F : Int → Option X} {c : Nat} (h : TM w b n F c) : b < w.heap.size := by obtain ⟨D, h1, _⟩ := h; exact h1.lt
theorem TM.fr {w w' : World} {b n : Nat} {F : Int → Option X} {c : Nat} (h : TM w b n F c) {B : List Nat} (f : Fr B w w') (hb : b ∉ B) : TM w' b n F c := by
 obtain ⟨D, h1, h2, h3⟩ := h
 have hl := h1.lt
 obtain ⟨es, clock, hb1, r⟩ := h1
 exact ⟨D, ⟨es, clock, (f.block b hl hb).trans hb1, r⟩, h2, h3⟩
theorem TM.mono {w : World} {b n n' : Nat} {F : Int → Option X} {c : Nat} (h : TM w b n F c) (hn : n ≤ n') : TM w b n' F c := by
 obtain ⟨D, h1, h2, h3⟩ := h
 exact ⟨D, h1.mono hn, h2, h3⟩
theorem TM.made (w : World) : TM (w.alloc (.map #[] 0)) w.heap.size 0 (fun _ => none) 0 := ⟨_, World.ownsMap_made w _ _ _, Fits.empty, rfl⟩
theorem Fr.of_turned {w w' : World} {b : Nat} (h : w.mapTurned w' b) : Fr [b] w w' := by
 have g := h.grown
 exact ⟨g.os, g.tape, g.output, g.size, fun k hk hn => g.block k hk (fun e => hn (by cases e; simp))⟩
section
variable (w : World) {ops : Array Oper} {rest : List Oper} {o : Oper} {a : Act} {Q : Exit → Act → World → Prop}
theorem look (hg : o.guard = none) (m x : Operand) (hop : o.op = Op.lookup 86 m x true) (b n : Nat) (F : Int → Option X) (c : Nat)
  (hm : a.eval m = .map (some b)) (hT : TM w b n F c) (k : Int) (hx : a.eval x = .int .i64 k) (hk : (Lit.int .i64 k).wf = true)
  (hK : wpList Try.prog ops Q rest (a.put o.dst (.tuple #[restV ((F k).getD x0), .bool (F k).isSome])) w) : wpList Try.prog ops Q (o :: rest) a w := by
 obtain ⟨D, h1, h2, _⟩ := hT
 refine wpList_lookup_own_ok w hg m x _ hop _ _ law Try.underlying86 restR (zeroE w) (restD x0) [] (restR_mk x0) b n D hm h1 _ _ hx (wf_key hk) (fun v ps hv => ?_)
 rw [(h2 k).1]
 obtain ⟨y, rfl, hy⟩ := restR_inv hv
 have e : y = (F k).getD x0 := by
  cases hF : F k with
  | none =>
   have h3 := (h2 k).1
   rw [hF] at h3
   rw [atKey_of_not_has h3] at hy
   exact (restD_inj hy).symm
  | some z =>
   rw [(h2 k).2 z hF] at hy
   exact (restD_inj hy).symm
 rw [e]
 exact hK
theorem store (hg : o.guard = none) (m x v : Operand) (hop : o.op = Op.mapUpdate 86 m x v) (b n : Nat) (F : Int → Option X) (c : Nat)
  (hm : a.eval m = .map (some b)) (hT : TM w b n F c) (hn : n < 1000000) (k : Int) (hx : a.eval x = .int .i64 k) (hk : (Lit.int .i64 k).wf = true) (y : X) (hv : a.eval v = restV y)
  (hK : ∀ w', TM w' b (n + 1) (upd F k (some y)) (if (F k).isSome then c else c + 1) → Fr [b] w w' → wpList Try.prog ops Q rest (a.put o.dst undef) w') : wpList Try.prog ops Q (o :: rest) a w := by
 obtain ⟨D, h1, h2, h3⟩ := hT
 refine wpList_mapUpdate_in w hg m x v _ hop _ _ law Try.underlying86 restR b n D hm h1 (by unfold maxLen; omega) _ _ _ hx hv (wf_key hk) (restD y) [] (restR_mk y) (fun w' r1 r2 => ?_)
 refine hK w' ⟨_, r1, h2.put h1.isMap k y, ?_⟩ (Fr.of_turned r2)
 rw [size_put (h1.tidy law), (h2 k).1, h3]
theorem drop (hg : o.guard = none) (m x : Operand) (hop : o.op = Op.call { callee := Callee.builtin Builtin.delete, args := #[m, x], argTypes := #[86, 3] }) (b n : Nat) (F : Int → Option X) (c : Nat)
  (hm : a.eval m = .map (some b)) (hT : TM w b n F c) (k : Int) (hx : a.eval x = .int .i64 k) (hk : (Lit.int .i64 k).wf = true)
  (hK : ∀ w', (∀ d, d + (if (F k).isSome then 1 else 0) = c → TM w' b n (upd F k none) d) → Fr [b] w w' → wpList Try.prog ops Q rest (a.put o.dst (.tuple #[])) w') : wpList Try.prog ops Q (o :: rest) a w := by
 obtain ⟨D, h1, h2, h3⟩ := hT
 refine wpList_delete_own w hg m x _ _ hop _ law Try.underlying86 restR b n D hm h1 _ _ hx (wf_key hk) (fun w' r1 r2 => ?_)
 refine hK w' (fun d hd => ⟨_, r1, h2.del k, ?_⟩) (Fr.of_turned r2)
 have := size_del (k := key k) (h1.tidy law)
 rw [(h2 k).1, h3] at this
 omega
theorem lenOf (hg : o.guard = none) (m : Operand) (hop : o.op = Op.call { callee := Callee.builtin Builtin.len, args := #[m], argTypes := #[86] }) (b n : Nat) (F : Int → Option X) (c : Nat)
  (hm : a.eval m = .map (some b)) (hT : TM w b n F c) (hK : wpList Try.prog ops Q rest (a.put o.dst (.int .i64 c)) w) : wpList Try.prog ops Q (o :: rest) a w := by
 obtain ⟨D, h1, h2, h3⟩ := hT
 refine wpList_len_own w hg m _ hop _ _ Try.underlying86 restR b n D hm h1 ?_
 rw [h3]
 exact hK
end
end Go.Proofs.Ytljnlnbopohghaa.Cur
end
section
namespace Go.Proofs.Ytljnlnbopohghaa.Mdl
open Go Go.RowKit Go.Maps Go.Proofs.YtljnlnbopohghaaW.PrintWords Go.Proofs.YtljnlnbopohghaaW.PrintLast Go.Proofs.YtljnlnbopohghaaW.PrintMore Go.Proofs.Ytljnlnbopohghaa.Own Go.Proofs.Ytljnlnbopohghaa.Ord
open Go.Proofs.Ytljnlnbopohghaa.Cur (key key_inj law wf_key)
def ptrD : Option Nat → DataW Unit
 | none => .agg []
 | some p => .lit (.int .i64 p)
def ptrR (v : Value) : Option (DataW Unit × List MemPlace) :=
 match v with
 | .pointer none => some (ptrD none, [])
 | .pointer (some ⟨p, 0, none⟩) => some (ptrD (some p), [])
 | _ => none
def FitsP (D : DataW Unit) (F : Int → Option Nat) : Prop := ∀ k, has D (key k) = (F k).isSome ∧ ∀ x, F k = some x → ∀ z, D.atKey (key k) z = ptrD (some x)
def updP (F : Int → Option Nat) (n : Int) (x : Option Nat) : Int → Option Nat := fun k => if k = n then x else F k
theorem updP_same (F : Int → Option Nat) (n : Int) (x : Option Nat) : updP F n x n = x := if_pos rfl
theorem updP_other (F : Int → Option Nat) {n k : Int} (h : k ≠ n) (x : Option Nat) : updP F n x k = F k := if_neg h
theorem FitsP.empty : FitsP (.map []) (fun _ => none) := fun k => ⟨rfl, fun x h => by cases h⟩
theorem FitsP.put {D : DataW Unit} {F : Int → Option Nat} (h : FitsP D F) (hD : IsMap D) (n : Int) (x : Nat) : FitsP (D.put (key n) (ptrD (some x))) (updP F n (some x)) := fun k => by
 by_cases hk : k = n
 ·subst hk
  rw [updP_same]
  exact ⟨has_put_same hD (by simp [key, WideAt.IsKeyLit]) _, fun y hy z => by cases hy; exact atKey_put_same hD (by simp [key, WideAt.IsKeyLit]) _ _⟩
 have hne : key k ≠ key n := fun e => hk (key_inj e)
 rw [updP_other F hk]
 exact ⟨by rw [has_put_other hne]; exact (h k).1, fun y hy z => by rw [atKey_put_other hne]; exact (h k).2 y hy z⟩
def TP (w : World) (b n : Nat) (F : Int → Option Nat) : Prop := ∃ D, w.ownsMap Try.prog 3 ptrR b n D ∧ FitsP D F
theorem TP.lt {w : World} {b n : Nat} {F : Int → Option Nat} (h : TP w b n F) : b < w.heap.size := by obtain ⟨D, h1, _⟩ := h; exact h1.lt
theorem TP.fr {w w' : World} {b n : Nat} {F : Int → Option Nat} (h : TP w b n F) (e : w'.heap[b]? = w.heap[b]?) : TP w' b n F := by
 obtain ⟨D, h1, h2⟩ := h
 obtain ⟨es, clock, hb1, r⟩ := h1
 exact ⟨D, ⟨es, clock, e.trans hb1, r⟩, h2⟩
theorem TP.mono {w : World} {b n n' : Nat} {F : Int → Option Nat} (h : TP w b n F) (hn : n ≤ n') : TP w b n' F := by
 obtain ⟨D, h1, h2⟩ := h
 exact ⟨D, h1.mono hn, h2⟩
theorem TP.made (w : World) : TP (w.alloc (.map #[] 0)) w.heap.size 0 (fun _ => none) := ⟨_, World.ownsMap_made w _ _ _, FitsP.empty⟩
end Go.Proofs.Ytljnlnbopohghaa.Mdl
end
section
namespace Go.Proofs.Ytljnlnbopohghaa.OrdSm
open Go.RowKit Go.Proofs.YtljnlnbopohghaaW.PrintWords Go.Proofs.YtljnlnbopohghaaW.PrintLast Go.Proofs.YtljnlnbopohghaaW.PrintMore Go.Proofs.Ytljnlnbopohghaa.Own Go.Proofs.Ytljnlnbopohghaa.Ord
def In (w : World) : Kn ByteArray ByteArray → Prop
 | .nil => True
 | .node b k v l r => w.heap[b]? = some (.cells #[.string k, .string v, .pointer l.adr, .pointer r.adr, .int .i64 (Kn.node b k v l r).hgt, .int .i64 (Kn.node b k v l r).cnt] 159 (0, 0)) ∧ In w l ∧ In w r
theorem in_fr {w w' : World} {B : List Nat} (h : Fr B w w') : ∀ {T : Kn ByteArray ByteArray}, In w T → (∀ x ∈ T.bs, x ∉ B) → In w' T
 | .nil, _, _ => trivial
 | .node b k v l r, hi, hn => ⟨h.blk hi.1 (hn b (by simp [Kn.bs])), in_fr h hi.2.1 (fun x hx => hn x (by simp [Kn.bs, hx])), in_fr h hi.2.2 (fun x hx => hn x (by simp [Kn.bs, hx]))⟩
theorem in_lt {w : World} : ∀ {T : Kn ByteArray ByteArray}, In w T → ∀ x ∈ T.bs, x < w.heap.size
 | .nil, _, x, hx => by simp [Kn.bs] at hx
 | .node b k v l r, hi, x, hx => by
  simp only [Kn.bs, List.mem_cons, List.mem_append] at hx
  rcases hx with rfl | hx | hx
  ·exact blk_lt hi.1
  ·exact in_lt hi.2.1 x hx
  exact in_lt hi.2.2 x hx
theorem in_typed {w : World} : ∀ {T : Kn ByteArray ByteArray}, In w T → ∀ x ∈ T.bs, ∃ cells, w.heap[x]? = some (.cells cells 159 (0, 0))
 | .nil, _, x, hx => by simp [Kn.bs] at hx
 | .node b k v l r, hi, x, hx => by
  simp only [Kn.bs, List.mem_cons, List.mem_append] at hx
  rcases hx with rfl | hx | hx
  ·exact ⟨_, hi.1⟩
  ·exact in_typed hi.2.1 x hx
  exact in_typed hi.2.2 x hx
theorem in_drewN {w : World} (n : Nat) : ∀ {T : Kn ByteArray ByteArray}, In w T → In (w.drewN n) T
 | .nil, _ => trivial
 | .node _ _ _ _ _, hi => ⟨hi.1, in_drewN n hi.2.1, in_drewN n hi.2.2⟩
attribute [local go_sem] max2_int max_two
set_option maxHeartbeats 2000000
set_option maxRecDepth 100000
theorem depth_any (T : Kn ByteArray ByteArray) (w : World) (h : In w T) : Calls Try.prog 133 #[.pointer T.adr] w fun e w' => e = .returned (.int .i64 T.hgt) ∧ w' = w := by
 cases T with
 | nil =>
  show Calls Try.prog 133 #[.pointer none] w _
  go_enter Try.func133, Try.ntmps133
  go_wp2
  go_ret
  exact ⟨rfl, rfl⟩
 | node b k v l r =>
  show Calls Try.prog 133 #[.pointer (some ⟨b, 0, none⟩)] w _
  have c : w.cell? ⟨b, 4, none⟩ = some (.int .i64 (Kn.node b k v l r).hgt) := blk_cell h.1 4
  go_enter Try.func133, Try.ntmps133
  go_wp2
  go_ret
  exact ⟨rfl, rfl⟩
theorem size_any (T : Kn ByteArray ByteArray) (w : World) (h : In w T) : Calls Try.prog 82 #[.pointer T.adr] w fun e w' => e = .returned (.int .i64 T.cnt) ∧ w' = w := by
 cases T with
 | nil =>
  show Calls Try.prog 82 #[.pointer none] w _
  go_enter Try.func82, Try.ntmps82
  go_wp2
  go_ret
  exact ⟨rfl, rfl⟩
 | node b k v l r =>
  show Calls Try.prog 82 #[.pointer (some ⟨b, 0, none⟩)] w _
  have c : w.cell? ⟨b, 5, none⟩ = some (.int .i64 (Kn.node b k v l r).cnt) := blk_cell h.1 5
  go_enter Try.func82, Try.ntmps82
  go_wp2
  go_ret
  exact ⟨rfl, rfl⟩
theorem fresh_any (b : Nat) (k : ByteArray) (v : ByteArray) (l r : Kn ByteArray ByteArray) (d s : Int) (w : World)
  (hb : w.heap[b]? = some (.cells #[.string k, .string v, .pointer l.adr, .pointer r.adr, .int .i64 d, .int .i64 s] 159 (0, 0))) (hl : In w l) (hr : In w r) (nl : b ∉ l.bs) (nr : b ∉ r.bs) (hc : l.cnt + r.cnt < 4611686018427387904) :
  Calls Try.prog 121 #[.pointer (some ⟨b, 0, none⟩)] w fun e w' => e = .returned (.pointer (some ⟨b, 0, none⟩)) ∧ In w' (.node b k v l r) ∧ Fr [b] w w' := by
 obtain ⟨m, hm⟩ : ∃ m, m = mx l.hgt r.hgt := ⟨_, rfl⟩
 have h1 := Kn.bounds l
 have h2 := Kn.bounds r
 have hm2 : 0 ≤ m ∧ m < 4611686018427387904 := by rw [hm]; unfold mx; split <;> omega
 have hw1 : IntKind.i64.wrap (1 + m) = 1 + m := IntWalk.i64_in _ (by omega)
 have hmH : Hid (m = mx l.hgt r.hgt) := hm
 clear hm
 have hw2 : IntKind.i64.wrap (1 + l.cnt) = 1 + l.cnt := IntWalk.i64_in _ (by omega)
 have hw3 : IntKind.i64.wrap (1 + l.cnt + r.cnt) = 1 + l.cnt + r.cnt := IntWalk.i64_in _ (by omega)
 go_enter Try.func121, Try.ntmps121
 go_wp2_with fail
 refine still_tail 13 (by kernel_rfl) (by kernel_rfl) (fun W hW => ?_)
 simp only [List.take_succ_cons, List.take_zero, List.drop_succ_cons, List.drop_zero]
 have hb1 : W.heap[b]? = some (.cells #[.string k, .string v, .pointer l.adr, .pointer r.adr, .int .i64 d, .int .i64 s] 159 (0, 0)) := by rw [hW]; exact hb
 have fr1 : Fr [b] w W := by rw [hW]; exact (Fr.refl _ _).drew
 clear hW hb
 have hl1 : In W l := in_fr fr1 hl (fun x hx => by simp; rintro rfl; exact nl hx)
 have hr1 : In W r := in_fr fr1 hr (fun x hx => by simp; rintro rfl; exact nr hx)
 have c2 : W.cell? ⟨b, 2, none⟩ = some (.pointer l.adr) := blk_cell hb1 2
 have c3 : W.cell? ⟨b, 3, none⟩ = some (.pointer r.adr) := blk_cell hb1 3
 have c4 : W.cell? ⟨b, 4, none⟩ = some (.int .i64 d) := blk_cell hb1 4
 have f4 := blk_frozen hb1 4
 iterate 5 still_step
 still_call (depth_any l _ hl1)
 iterate 4 still_step
 still_call (depth_any r _ hr1)
 iterate 2 still_step
 refine wpStill_nil ?_
 simp only [show (if l.hgt < r.hgt then r.hgt else l.hgt) = m from hmH.out.symm, hw1]
 go_wp2_with fail
 refine still_tail 13 (by kernel_rfl) (by kernel_rfl) (fun W2 hW2 => ?_)
 simp only [List.take_succ_cons, List.take_zero, List.drop_succ_cons, List.drop_zero]
 have hb2 : W2.heap[b]? = some (.cells #[.string k, .string v, .pointer l.adr, .pointer r.adr, .int .i64 (1 + m), .int .i64 s] 159 (0, 0)) := by rw [hW2]; exact blk_put hb1 4 _ rfl
 have fr2 : Fr [b] W W2 := by rw [hW2]; exact ((Fr.refl _ _).set (.inl (by simp)) _).drew
 clear hW2 hb1 c2 c3 c4 f4
 have hl2 : In W2 l := in_fr fr2 hl1 (fun x hx => by simp; rintro rfl; exact nl hx)
 have hr2 : In W2 r := in_fr fr2 hr1 (fun x hx => by simp; rintro rfl; exact nr hx)
 have c2 : W2.cell? ⟨b, 2, none⟩ = some (.pointer l.adr) := blk_cell hb2 2
 have c3 : W2.cell? ⟨b, 3, none⟩ = some (.pointer r.adr) := blk_cell hb2 3
 have c5 : W2.cell? ⟨b, 5, none⟩ = some (.int .i64 s) := blk_cell hb2 5
 have f5 := blk_frozen hb2 5
 iterate 5 still_step
 still_call (size_any l _ hl2)
 iterate 5 still_step
 still_call (size_any r _ hr2)
 still_step
 refine wpStill_nil ?_
 go_wp2_with fail
 go_ret
 have fr3 : Fr [b] W2 (W2.setCell ⟨b, 5, none⟩ (.int .i64 (1 + l.cnt + r.cnt))) := (Fr.refl _ _).set (.inl (by simp)) _
 refine ⟨rfl, ⟨?_, in_fr fr3 hl2 (fun x hx => by simp; rintro rfl; exact nl hx), in_fr fr3 hr2 (fun x hx => by simp; rintro rfl; exact nr hx)⟩, (fr1.trans fr2 (fun x hx => .inl hx)).trans fr3 (fun x hx => .inl hx)⟩
 simp only [Kn.hgt, Kn.cnt, ← hmH.out]
 exact blk_put hb2 5 _ rfl
end Go.Proofs.Ytljnlnbopohghaa.OrdSm
end
section
namespace Go.Proofs.Ytljnlnbopohghaa.OrdSm
open Go.RowKit Go.Proofs.YtljnlnbopohghaaW.PrintWords Go.Proofs.YtljnlnbopohghaaW.PrintLast Go.Proofs.YtljnlnbopohghaaW.PrintMore Go.Proofs.Ytljnlnbopohghaa.Own Go.Proofs.Ytljnlnbopohghaa.Ord
def Top (w : World) (b : Nat) (k : ByteArray) (v : ByteArray) (l r : Option Addr) : Prop := ∃ d s : Int, w.heap[b]? = some (.cells #[.string k, .string v, .pointer l, .pointer r, .int .i64 d, .int .i64 s] 159 (0, 0))
theorem Top.fr {w w' : World} {B : List Nat} {b : Nat} {k : ByteArray} {v : ByteArray} {l r : Option Addr} (h : Top w b k v l r) (f : Fr B w w') (hn : b ∉ B) : Top w' b k v l r := by
  obtain ⟨d, s, h⟩ := h
  exact ⟨d, s, f.blk h hn⟩
theorem Top.low {w : World} {b : Nat} {k : ByteArray} {v : ByteArray} {l r : Option Addr} (h : Top w b k v l r) (l' : Option Addr) : Top (w.setCell ⟨b, 2, none⟩ (.pointer l')) b k v l' r := by
  obtain ⟨d, s, h⟩ := h
  exact ⟨d, s, blk_put h 2 _ rfl⟩
theorem Top.high {w : World} {b : Nat} {k : ByteArray} {v : ByteArray} {l r : Option Addr} (h : Top w b k v l r) (r' : Option Addr) : Top (w.setCell ⟨b, 3, none⟩ (.pointer r')) b k v l r' := by
  obtain ⟨d, s, h⟩ := h
  exact ⟨d, s, blk_put h 3 _ rfl⟩
theorem Top.of_in {w : World} {b : Nat} {k : ByteArray} {v : ByteArray} {l r : Kn ByteArray ByteArray} (h : In w (.node b k v l r)) : Top w b k v l.adr r.adr := ⟨_, _, h.1⟩
theorem Top.cells {w : World} {b : Nat} {k : ByteArray} {v : ByteArray} {l r : Option Addr} (h : Top w b k v l r) :
    w.cell? ⟨b, 0, none⟩ = some (.string k) ∧ w.cell? ⟨b, 1, none⟩ = some (.string v) ∧ w.cell? ⟨b, 2, none⟩ = some (.pointer l) ∧ w.cell? ⟨b, 3, none⟩ = some (.pointer r) ∧ w.frozen? ⟨b, 1, none⟩ = false ∧ w.frozen? ⟨b, 2, none⟩ = false ∧ w.frozen? ⟨b, 3, none⟩ = false := by
  obtain ⟨d, s, h⟩ := h
  exact ⟨blk_cell h 0, blk_cell h 1, blk_cell h 2, blk_cell h 3, blk_frozen h 1, blk_frozen h 2, blk_frozen h 3⟩
theorem fresh_top {b : Nat} {k : ByteArray} {v : ByteArray} {l r : Kn ByteArray ByteArray} {w : World} (hb : Top w b k v l.adr r.adr) (hl : In w l) (hr : In w r) (nl : b ∉ l.bs) (nr : b ∉ r.bs) (hc : l.cnt + r.cnt < 4611686018427387904) :
    Calls Try.prog 121 #[.pointer (some ⟨b, 0, none⟩)] w fun e w' => e = .returned (.pointer (some ⟨b, 0, none⟩)) ∧ In w' (.node b k v l r) ∧ Fr [b] w w' := by
  obtain ⟨d, s, hb⟩ := hb
  exact fresh_any b k v l r d s w hb hl hr nl nr hc
theorem set_in {w : World} {T : Kn ByteArray ByteArray} (h : In w T) {b : Nat} (hn : b ∉ T.bs) (i : Nat) (u : Value) : In (w.setCell ⟨b, i, none⟩ u) T :=
  in_fr (B := [b]) ((Fr.refl _ w).set (.inl (by simp)) u) h (fun x hx => by simp; rintro rfl; exact hn hx)
set_option maxHeartbeats 2000000
set_option maxRecDepth 100000
theorem up_any {b hb : Nat} {k hk : ByteArray} {v hv : ByteArray} {l hl hr : Kn ByteArray ByteArray} {w : World} (h1 : Top w b k v l.adr (some ⟨hb, 0, none⟩)) (h2 : Top w hb hk hv hl.adr hr.adr) (il : In w l) (ihl : In w hl) (ihr : In w hr)
    (hnd : (Kn.node b k v l (.node hb hk hv hl hr)).bs.Nodup) (hc : (Kn.node b k v l (.node hb hk hv hl hr)).cnt < 4611686018427387904) :
    Calls Try.prog 134 #[.pointer (some ⟨b, 0, none⟩)] w fun e w' => e = .returned (.pointer (some ⟨hb, 0, none⟩)) ∧ In w' (.node hb hk hv (.node b k v l hl) hr) ∧ Fr [b, hb] w w' := by
  simp only [Kn.bs, List.nodup_cons, List.nodup_append, List.mem_append, List.mem_cons, not_or] at hnd
  simp only [Kn.cnt] at hc
  obtain ⟨⟨nbl, nbh, nbhl, nbhr⟩, ndl, ⟨⟨nhhl, nhhr⟩, ndhl, ndhr, dj⟩, dl⟩ := hnd
  have nhl : hb ∉ l.bs := fun h => dl hb h hb (.inl rfl) rfl
  have := Kn.bounds l; have := Kn.bounds hl; have := Kn.bounds hr
  have b1 : l.cnt + hl.cnt < 4611686018427387904 := by omega
  have b2 : (Kn.node b k v l hl).cnt + hr.cnt < 4611686018427387904 := by simp only [Kn.cnt]; omega
  obtain ⟨c10, c11, c12, c13, f11, f12, f13⟩ := h1.cells
  obtain ⟨c20, c21, c22, c23, f21, f22, f23⟩ := h2.cells
  have W1 := fresh_top (h1.high hl.adr) (set_in il nbl 3 _) (set_in ihl nbhl 3 _) nbl nbhl b1
  have fr0 : Fr [b, hb] w (w.setCell ⟨b, 3, none⟩ (.pointer hl.adr)) := (Fr.refl _ _).set (.inl (by simp)) _
  have h2' : Top (w.setCell ⟨b, 3, none⟩ (.pointer hl.adr)) hb hk hv hl.adr hr.adr := h2.fr (B := [b]) ((Fr.refl _ _).set (.inl (by simp)) _) (by simp; exact fun e => nbh e.symm)
  have ihr' := set_in ihr nbhr 3 (.pointer hl.adr)
  clear h1 h2 il ihl ihr
  go_enter Try.func134, Try.ntmps134
  go_wp2_with (first
    | (go_at_call_of 121 (some (⟨b, 0, none⟩ : Addr))
       refine W1.mono ?_
       clear W1
       rintro e w1 ⟨rfl, hi, fr⟩
       have h3 := h2'.fr fr (by simp; exact fun e => nbh e.symm)
       have ihr1 := in_fr fr ihr' (fun x hx => by simp; rintro rfl; exact nbhr hx)
       obtain ⟨c30, c31, c32, c33, f31, f32, f33⟩ := h3.cells
       have nn : hb ∉ (Kn.node b k v l hl).bs := by simp only [Kn.bs, List.mem_cons, List.mem_append, not_or]; exact ⟨fun e => nbh e.symm, nhl, nhhl⟩
       have W2 := fresh_top (h3.low (some ⟨b, 0, none⟩)) (l := Kn.node b k v l hl) (set_in hi nn 2 _) (set_in ihr1 nhhr 2 _) nn nhhr b2
       have fr1 : Fr [b, hb] w (w1.setCell ⟨hb, 2, none⟩ (.pointer (some ⟨b, 0, none⟩))) := (fr0.trans fr (fun x hx => .inl (by simp at hx; simp [hx]))).set (.inl (by simp)) _
       clear h3 ihr1 hi)
    | (go_at_call_of 121 (some (⟨hb, 0, none⟩ : Addr))
       refine W2.mono ?_
       clear W2
       rintro e w2 ⟨rfl, hi2, fr2⟩))
  go_ret
  exact ⟨rfl, hi2, fr1.trans fr2 (fun x hx => .inl (by simp at hx; simp [hx]))⟩
theorem down_any {b lb : Nat} {k lk : ByteArray} {v lv : ByteArray} {r ll lr : Kn ByteArray ByteArray} {w : World} (h1 : Top w b k v (some ⟨lb, 0, none⟩) r.adr) (h2 : Top w lb lk lv ll.adr lr.adr) (ir : In w r) (ill : In w ll) (ilr : In w lr)
    (hnd : (Kn.node b k v (.node lb lk lv ll lr) r).bs.Nodup) (hc : (Kn.node b k v (.node lb lk lv ll lr) r).cnt < 4611686018427387904) :
    Calls Try.prog 135 #[.pointer (some ⟨b, 0, none⟩)] w fun e w' => e = .returned (.pointer (some ⟨lb, 0, none⟩)) ∧ In w' (.node lb lk lv ll (.node b k v lr r)) ∧ Fr [b, lb] w w' := by
  simp only [Kn.bs, List.nodup_cons, List.nodup_append, List.mem_append, List.mem_cons, not_or] at hnd
  simp only [Kn.cnt] at hc
  obtain ⟨⟨⟨nbh, nbll, nblr⟩, nbr⟩, ⟨⟨nlll, nllr⟩, ndll, ndlr, dj⟩, ndr, dl⟩ := hnd
  have nlr : lb ∉ r.bs := fun h => dl lb (.inl rfl) lb h rfl
  have := Kn.bounds r; have := Kn.bounds ll; have := Kn.bounds lr
  have b1 : lr.cnt + r.cnt < 4611686018427387904 := by omega
  have b2 : ll.cnt + (Kn.node b k v lr r).cnt < 4611686018427387904 := by simp only [Kn.cnt]; omega
  obtain ⟨c10, c11, c12, c13, f11, f12, f13⟩ := h1.cells
  obtain ⟨c20, c21, c22, c23, f21, f22, f23⟩ := h2.cells
  have W1 := fresh_top (h1.low lr.adr) (set_in ilr nblr 2 _) (set_in ir nbr 2 _) nblr nbr b1
  have fr0 : Fr [b, lb] w (w.setCell ⟨b, 2, none⟩ (.pointer lr.adr)) := (Fr.refl _ _).set (.inl (by simp)) _
  have h2' : Top (w.setCell ⟨b, 2, none⟩ (.pointer lr.adr)) lb lk lv ll.adr lr.adr := h2.fr (B := [b]) ((Fr.refl _ _).set (.inl (by simp)) _) (by simp; exact fun e => nbh e.symm)
  have ill' := set_in ill nbll 2 (.pointer lr.adr)
  clear h1 h2 ill ilr ir
  go_enter Try.func135, Try.ntmps135
  go_wp2_with (first
    | (go_at_call_of 121 (some (⟨b, 0, none⟩ : Addr))
       refine W1.mono ?_
       clear W1
       rintro e w1 ⟨rfl, hi, fr⟩
       have h3 := h2'.fr fr (by simp; exact fun e => nbh e.symm)
       have ill1 := in_fr fr ill' (fun x hx => by simp; rintro rfl; exact nbll hx)
       obtain ⟨c30, c31, c32, c33, f31, f32, f33⟩ := h3.cells
       have nn : lb ∉ (Kn.node b k v lr r).bs := by simp only [Kn.bs, List.mem_cons, List.mem_append, not_or]; exact ⟨fun e => nbh e.symm, nllr, nlr⟩
       have W2 := fresh_top (h3.high (some ⟨b, 0, none⟩)) (r := Kn.node b k v lr r) (set_in ill1 nlll 3 _) (set_in hi nn 3 _) nlll nn b2
       have fr1 : Fr [b, lb] w (w1.setCell ⟨lb, 3, none⟩ (.pointer (some ⟨b, 0, none⟩))) := (fr0.trans fr (fun x hx => .inl (by simp at hx; simp [hx]))).set (.inl (by simp)) _
       clear h3 ill1 hi)
    | (go_at_call_of 121 (some (⟨lb, 0, none⟩ : Addr))
       refine W2.mono ?_
       clear W2
       rintro e w2 ⟨rfl, hi2, fr2⟩))
  go_ret
  exact ⟨rfl, hi2, fr1.trans fr2 (fun x hx => .inl (by simp at hx; simp [hx]))⟩
end Go.Proofs.Ytljnlnbopohghaa.OrdSm
end
section
namespace Go.Proofs.Ytljnlnbopohghaa.OrdSm
open Go.RowKit Go.Proofs.YtljnlnbopohghaaW.PrintWords Go.Proofs.YtljnlnbopohghaaW.PrintLast Go.Proofs.YtljnlnbopohghaaW.PrintMore Go.Proofs.Ytljnlnbopohghaa.Own Go.Proofs.Ytljnlnbopohghaa.Ord
set_option maxHeartbeats 2000000
set_option maxRecDepth 100000
theorem even_a1 {b lb xb : Nat} {k lk xk : ByteArray} {v lv xv : ByteArray} {r ll xl xr : Kn ByteArray ByteArray} {w : World} (h1 : Top w b k v (some ⟨lb, 0, none⟩) r.adr) (il : In w (.node lb lk lv ll (.node xb xk xv xl xr))) (ir : In w r)
    (hnd : (Kn.node b k v (.node lb lk lv ll (.node xb xk xv xl xr)) r).bs.Nodup) (hc : (Kn.node b k v (.node lb lk lv ll (.node xb xk xv xl xr)) r).cnt < 4611686018427387904)
    (hd : 1 < (Kn.node lb lk lv ll (.node xb xk xv xl xr)).hgt - r.hgt) (hx : ll.hgt < (Kn.node xb xk xv xl xr).hgt) :
    Calls Try.prog 118 #[.pointer (some ⟨b, 0, none⟩)] w fun e w' => e = .returned (.pointer (some ⟨xb, 0, none⟩)) ∧ In w' (.node xb xk xv (.node lb lk lv ll xl) (.node b k v xr r)) ∧ Fr (Kn.node b k v (.node lb lk lv ll (.node xb xk xv xl xr)) r).bs w w' := by
  have hndL : (Kn.node lb lk lv ll (.node xb xk xv xl xr)).bs.Nodup := by
    simp only [Kn.bs, List.nodup_cons, List.nodup_append] at hnd ⊢; exact hnd.2.1
  have nbL : b ∉ (Kn.node lb lk lv ll (.node xb xk xv xl xr)).bs := by
    simp only [Kn.bs, List.nodup_cons, List.mem_append, not_or] at hnd ⊢; exact hnd.1.1
  have nbr : b ∉ r.bs := by simp only [Kn.bs, List.nodup_cons, List.mem_append, not_or] at hnd ⊢; exact hnd.1.2
  have nLr : ∀ x ∈ (Kn.node lb lk lv ll (.node xb xk xv xl xr)).bs, x ∉ r.bs := fun x hx hr => by
    have := hnd; simp only [Kn.bs, List.nodup_cons, List.nodup_append] at this hx
    exact this.2.2.2 x hx x hr rfl
  have pU : (Kn.node xb xk xv (.node lb lk lv ll xl) xr).bs.Perm (Kn.node lb lk lv ll (.node xb xk xv xl xr)).bs := Kn.up_bs (.node lb lk lv ll (.node xb xk xv xl xr))
  have hnd2 : (Kn.node b k v (.node xb xk xv (.node lb lk lv ll xl) xr) r).bs.Nodup := (Kn.perm_left pU).nodup_iff.2 hnd
  have hcL : (Kn.node lb lk lv ll (.node xb xk xv xl xr)).cnt < 4611686018427387904 := by
    have := Kn.bounds r; simp only [Kn.cnt] at hc ⊢; omega
  have hc2 : (Kn.node b k v (.node xb xk xv (.node lb lk lv ll xl) xr) r).cnt < 4611686018427387904 := by simp only [Kn.cnt] at hc ⊢; omega
  have hbL := Kn.bounds (Kn.node lb lk lv ll (.node xb xk xv xl xr))
  have hbr := Kn.bounds r
  have hbc : r.cnt < 4611686018427387904 := by simp only [Kn.cnt] at hc; have := Kn.bounds ll; have := Kn.bounds xl; have := Kn.bounds xr; omega
  have hw1 : IntKind.i64.wrap ((Kn.node lb lk lv ll (.node xb xk xv xl xr)).hgt - r.hgt) = (Kn.node lb lk lv ll (.node xb xk xv xl xr)).hgt - r.hgt := IntWalk.i64_in _ (by omega)
  obtain ⟨c10, c11, c12, c13, f11, f12, f13⟩ := h1.cells
  go_enter Try.func118, Try.ntmps118
  go_wp2_with fail
  refine still_all (by kernel_rfl) (by kernel_rfl) (fun W hW => ?_)
  have fr1 : Fr [] w W := by rw [hW]; exact (Fr.refl _ _).drew
  clear hW c10 c11 c12 c13 f11 f12 f13
  have h1 := h1.fr fr1 (by simp)
  have il := in_fr fr1 il (by simp)
  have ir := in_fr fr1 ir (by simp)
  obtain ⟨c10, c11, c12, c13, f11, f12, f13⟩ := h1.cells
  repeat still_step
  still_call (depth_any (Kn.node lb lk lv ll (.node xb xk xv xl xr)) _ il)
  repeat still_step
  still_call (depth_any r _ ir)
  repeat still_step
  refine wpStill_nil ?_
  obtain ⟨D, hD⟩ : ∃ D, D = (Kn.node lb lk lv ll (.node xb xk xv xl xr)).hgt := ⟨_, rfl⟩
  rw [← hD] at hd hw1
  simp only [← hD]
  clear hD
  go_wp2_with fail
  refine still_all (by kernel_rfl) (by kernel_rfl) (fun W2 hW => ?_)
  have fr2 : Fr [] W W2 := by rw [hW]; exact (Fr.refl _ _).drew
  clear hW c10 c11 c12 c13 f11 f12 f13
  have h2 := h1.fr fr2 (by simp)
  have il2 := in_fr fr2 il (by simp)
  have ir2 := in_fr fr2 ir (by simp)
  clear h1 il ir
  obtain ⟨c10, c11, c12, c13, f11, f12, f13⟩ := h2.cells
  obtain ⟨d10, d11, d12, d13, g11, g12, g13⟩ := (Top.of_in il2).cells
  rw [Kn.adr] at d13
  repeat still_step
  still_call (depth_any ll _ il2.2.1)
  repeat still_step
  still_call (depth_any (Kn.node xb xk xv xl xr) _ il2.2.2)
  repeat still_step
  refine wpStill_nil ?_
  obtain ⟨E, hE⟩ : ∃ E, E = (Kn.node xb xk xv xl xr).hgt := ⟨_, rfl⟩
  rw [← hE] at hx
  simp only [← hE]
  clear hE
  have W1 := up_any (Top.of_in il2) (Top.of_in il2.2.2) il2.2.1 il2.2.2.2.1 il2.2.2.2.2 hndL hcL
  have fl : ∀ x ∈ [lb, xb], x ∈ (Kn.node lb lk lv ll (.node xb xk xv xl xr)).bs := by intro x hx; simp at hx; rcases hx with rfl | rfl <;> simp [Kn.bs]
  have fb : b ∉ [lb, xb] := fun h => nbL (fl b h)
  go_wp2_with (first
    | (go_at_call 134
       refine W1.mono ?_
       clear W1
       rintro e w3 ⟨rfl, hi, fr3⟩
       have h3 := h2.fr fr3 fb
       have ir3 := in_fr fr3 ir2 (fun x hx hm => nLr x (fl x hm) hx)
       obtain ⟨c30, c31, c32, c33, f31, f32, f33⟩ := h3.cells
       have nb3 : b ∉ (Kn.node xb xk xv (.node lb lk lv ll xl) xr).bs := fun h => nbL (pU.mem_iff.1 h)
       have hi4 := set_in hi nb3 2 (.pointer (some ⟨xb, 0, none⟩))
       have W4 := down_any (h3.low (some ⟨xb, 0, none⟩)) (Top.of_in hi4) (set_in ir3 nbr 2 _) hi4.2.1 hi4.2.2 hnd2 hc2
       have fr4 : Fr (Kn.node b k v (.node lb lk lv ll (.node xb xk xv xl xr)) r).bs w (w3.setCell ⟨b, 2, none⟩ (.pointer (some ⟨xb, 0, none⟩))) := by
         refine ((((fr1.wide (fun _ h => by cases h)).trans fr2 (fun _ h => by cases h)).trans fr3 (fun x hx => .inl ?_)).set (.inl ?_) _)
         · exact List.mem_cons_of_mem _ (List.mem_append_left _ (fl x hx))
         · simp [Kn.bs]
       clear hi h3 ir3 hi4)
    | (go_at_call 135
       refine W4.mono ?_
       clear W4
       rintro e w5 ⟨rfl, hi5, fr5⟩))
  go_ret
  exact ⟨rfl, hi5, fr4.trans fr5 (fun x hx => .inl (by simp at hx; rcases hx with rfl | rfl <;> simp [Kn.bs]))⟩
theorem even_a2 {b lb : Nat} {k lk : ByteArray} {v lv : ByteArray} {r ll lr : Kn ByteArray ByteArray} {w : World} (h1 : Top w b k v (some ⟨lb, 0, none⟩) r.adr) (il : In w (.node lb lk lv ll lr)) (ir : In w r)
    (hnd : (Kn.node b k v (.node lb lk lv ll lr) r).bs.Nodup) (hc : (Kn.node b k v (.node lb lk lv ll lr) r).cnt < 4611686018427387904)
    (hd : 1 < (Kn.node lb lk lv ll lr).hgt - r.hgt) (hx : ¬ ll.hgt < lr.hgt) :
    Calls Try.prog 118 #[.pointer (some ⟨b, 0, none⟩)] w fun e w' => e = .returned (.pointer (some ⟨lb, 0, none⟩)) ∧ In w' (.node lb lk lv ll (.node b k v lr r)) ∧ Fr (Kn.node b k v (.node lb lk lv ll lr) r).bs w w' := by
  have hbL := Kn.bounds (Kn.node lb lk lv ll lr)
  have hbr := Kn.bounds r
  have hbc : r.cnt < 4611686018427387904 ∧ (Kn.node lb lk lv ll lr).cnt < 4611686018427387904 := by simp only [Kn.cnt] at hc ⊢; have := Kn.bounds ll; have := Kn.bounds lr; omega
  have hw1 : IntKind.i64.wrap ((Kn.node lb lk lv ll lr).hgt - r.hgt) = (Kn.node lb lk lv ll lr).hgt - r.hgt := IntWalk.i64_in _ (by omega)
  have hx2 : lr.hgt ≤ ll.hgt := by omega
  obtain ⟨c10, c11, c12, c13, f11, f12, f13⟩ := h1.cells
  go_enter Try.func118, Try.ntmps118
  go_wp2_with fail
  refine still_all (by kernel_rfl) (by kernel_rfl) (fun W hW => ?_)
  have fr1 : Fr [] w W := by rw [hW]; exact (Fr.refl _ _).drew
  clear hW c10 c11 c12 c13 f11 f12 f13
  have h1 := h1.fr fr1 (by simp)
  have il := in_fr fr1 il (by simp)
  have ir := in_fr fr1 ir (by simp)
  obtain ⟨c10, c11, c12, c13, f11, f12, f13⟩ := h1.cells
  repeat still_step
  still_call (depth_any (Kn.node lb lk lv ll lr) _ il)
  repeat still_step
  still_call (depth_any r _ ir)
  repeat still_step
  refine wpStill_nil ?_
  obtain ⟨D, hD⟩ : ∃ D, D = (Kn.node lb lk lv ll lr).hgt := ⟨_, rfl⟩
  rw [← hD] at hd hw1
  simp only [← hD]
  clear hD
  go_wp2_with fail
  refine still_all (by kernel_rfl) (by kernel_rfl) (fun W2 hW => ?_)
  have fr2 : Fr [] W W2 := by rw [hW]; exact (Fr.refl _ _).drew
  clear hW c10 c11 c12 c13 f11 f12 f13
  have h2 := h1.fr fr2 (by simp)
  have il2 := in_fr fr2 il (by simp)
  have ir2 := in_fr fr2 ir (by simp)
  clear h1 il ir
  obtain ⟨c10, c11, c12, c13, f11, f12, f13⟩ := h2.cells
  obtain ⟨d10, d11, d12, d13, g11, g12, g13⟩ := (Top.of_in il2).cells
  repeat still_step
  still_call (depth_any ll _ il2.2.1)
  repeat still_step
  still_call (depth_any lr _ il2.2.2)
  repeat still_step
  refine wpStill_nil ?_
  have W4 := down_any h2 (Top.of_in il2) ir2 il2.2.1 il2.2.2 hnd hc
  have fr4 : Fr (Kn.node b k v (.node lb lk lv ll lr) r).bs w W2 := (fr1.wide (fun _ h => by cases h)).trans fr2 (fun _ h => by cases h)
  go_wp2_with (go_at_call 135; refine W4.mono ?_; clear W4; rintro e w5 ⟨rfl, hi5, fr5⟩)
  go_ret
  exact ⟨rfl, hi5, fr4.trans fr5 (fun x hx => .inl (by simp at hx; rcases hx with rfl | rfl <;> simp [Kn.bs]))⟩
theorem even_b1 {b rb xb : Nat} {k rk xk : ByteArray} {v rv xv : ByteArray} {l rr xl xr : Kn ByteArray ByteArray} {w : World} (h1 : Top w b k v l.adr (some ⟨rb, 0, none⟩)) (il : In w l) (ir : In w (.node rb rk rv (.node xb xk xv xl xr) rr))
    (hnd : (Kn.node b k v l (.node rb rk rv (.node xb xk xv xl xr) rr)).bs.Nodup) (hc : (Kn.node b k v l (.node rb rk rv (.node xb xk xv xl xr) rr)).cnt < 4611686018427387904)
    (hd : l.hgt - (Kn.node rb rk rv (.node xb xk xv xl xr) rr).hgt < -1) (hx : rr.hgt < (Kn.node xb xk xv xl xr).hgt) :
    Calls Try.prog 118 #[.pointer (some ⟨b, 0, none⟩)] w fun e w' => e = .returned (.pointer (some ⟨xb, 0, none⟩)) ∧ In w' (.node xb xk xv (.node b k v l xl) (.node rb rk rv xr rr)) ∧ Fr (Kn.node b k v l (.node rb rk rv (.node xb xk xv xl xr) rr)).bs w w' := by
  have hndL : (Kn.node rb rk rv (.node xb xk xv xl xr) rr).bs.Nodup := by
    simp only [Kn.bs, List.nodup_cons, List.nodup_append] at hnd ⊢; exact hnd.2.2.1
  have nbL : b ∉ (Kn.node rb rk rv (.node xb xk xv xl xr) rr).bs := by
    simp only [Kn.bs, List.nodup_cons, List.mem_append, not_or] at hnd ⊢; exact hnd.1.2
  have nbr : b ∉ l.bs := by simp only [Kn.bs, List.nodup_cons, List.mem_append, not_or] at hnd ⊢; exact hnd.1.1
  have nLr : ∀ x ∈ (Kn.node rb rk rv (.node xb xk xv xl xr) rr).bs, x ∉ l.bs := fun x hx hr => by
    have := hnd; simp only [Kn.bs, List.nodup_cons, List.nodup_append] at this hx
    exact this.2.2.2 x hr x hx rfl
  have pU : (Kn.node xb xk xv xl (.node rb rk rv xr rr)).bs.Perm (Kn.node rb rk rv (.node xb xk xv xl xr) rr).bs := Kn.down_bs (.node rb rk rv (.node xb xk xv xl xr) rr)
  have hnd2 : (Kn.node b k v l (.node xb xk xv xl (.node rb rk rv xr rr))).bs.Nodup := (Kn.perm_right pU).nodup_iff.2 hnd
  have hcL : (Kn.node rb rk rv (.node xb xk xv xl xr) rr).cnt < 4611686018427387904 := by
    have := Kn.bounds l; simp only [Kn.cnt] at hc ⊢; omega
  have hc2 : (Kn.node b k v l (.node xb xk xv xl (.node rb rk rv xr rr))).cnt < 4611686018427387904 := by simp only [Kn.cnt] at hc ⊢; omega
  have hbL := Kn.bounds (Kn.node rb rk rv (.node xb xk xv xl xr) rr)
  have hbr := Kn.bounds l
  have hbc : l.cnt < 4611686018427387904 := by simp only [Kn.cnt] at hc; have := Kn.bounds rr; have := Kn.bounds xl; have := Kn.bounds xr; omega
  have hw1 : IntKind.i64.wrap (l.hgt - (Kn.node rb rk rv (.node xb xk xv xl xr) rr).hgt) = l.hgt - (Kn.node rb rk rv (.node xb xk xv xl xr) rr).hgt := IntWalk.i64_in _ (by omega)
  obtain ⟨c10, c11, c12, c13, f11, f12, f13⟩ := h1.cells
  go_enter Try.func118, Try.ntmps118
  go_wp2_with fail
  refine still_all (by kernel_rfl) (by kernel_rfl) (fun W hW => ?_)
  have fr1 : Fr [] w W := by rw [hW]; exact (Fr.refl _ _).drew
  clear hW c10 c11 c12 c13 f11 f12 f13
  have h1 := h1.fr fr1 (by simp)
  have il := in_fr fr1 il (by simp)
  have ir := in_fr fr1 ir (by simp)
  obtain ⟨c10, c11, c12, c13, f11, f12, f13⟩ := h1.cells
  repeat still_step
  still_call (depth_any l _ il)
  repeat still_step
  still_call (depth_any (Kn.node rb rk rv (.node xb xk xv xl xr) rr) _ ir)
  repeat still_step
  refine wpStill_nil ?_
  obtain ⟨D, hD⟩ : ∃ D, D = (Kn.node rb rk rv (.node xb xk xv xl xr) rr).hgt := ⟨_, rfl⟩
  rw [← hD] at hd hw1
  simp only [← hD]
  clear hD
  have hd0 : l.hgt - D ≤ 1 := by omega
  go_wp2_with fail
  refine still_all (by kernel_rfl) (by kernel_rfl) (fun W2 hW => ?_)
  have fr2 : Fr [] W W2 := by rw [hW]; exact (Fr.refl _ _).drew
  clear hW c10 c11 c12 c13 f11 f12 f13
  have h2 := h1.fr fr2 (by simp)
  have il2 := in_fr fr2 il (by simp)
  have ir2 := in_fr fr2 ir (by simp)
  clear h1 il ir
  obtain ⟨c10, c11, c12, c13, f11, f12, f13⟩ := h2.cells
  obtain ⟨d10, d11, d12, d13, g11, g12, g13⟩ := (Top.of_in ir2).cells
  rw [Kn.adr] at d12
  repeat still_step
  still_call (depth_any rr _ ir2.2.2)
  repeat still_step
  still_call (depth_any (Kn.node xb xk xv xl xr) _ ir2.2.1)
  repeat still_step
  refine wpStill_nil ?_
  obtain ⟨E, hE⟩ : ∃ E, E = (Kn.node xb xk xv xl xr).hgt := ⟨_, rfl⟩
  rw [← hE] at hx
  simp only [← hE]
  clear hE
  have W1 := down_any (Top.of_in ir2) (Top.of_in ir2.2.1) ir2.2.2 ir2.2.1.2.1 ir2.2.1.2.2 hndL hcL
  have fl : ∀ x ∈ [rb, xb], x ∈ (Kn.node rb rk rv (.node xb xk xv xl xr) rr).bs := by intro x hx; simp at hx; rcases hx with rfl | rfl <;> simp [Kn.bs]
  have fb : b ∉ [rb, xb] := fun h => nbL (fl b h)
  go_wp2_with (first
    | (go_at_call 135
       refine W1.mono ?_
       clear W1
       rintro e w3 ⟨rfl, hi, fr3⟩
       have h3 := h2.fr fr3 fb
       have il3 := in_fr fr3 il2 (fun x hx hm => nLr x (fl x hm) hx)
       obtain ⟨c30, c31, c32, c33, f31, f32, f33⟩ := h3.cells
       have nb3 : b ∉ (Kn.node xb xk xv xl (.node rb rk rv xr rr)).bs := fun h => nbL (pU.mem_iff.1 h)
       have hi4 := set_in hi nb3 3 (.pointer (some ⟨xb, 0, none⟩))
       have W4 := up_any (h3.high (some ⟨xb, 0, none⟩)) (Top.of_in hi4) (set_in il3 nbr 3 _) hi4.2.1 hi4.2.2 hnd2 hc2
       have fr4 : Fr (Kn.node b k v l (.node rb rk rv (.node xb xk xv xl xr) rr)).bs w (w3.setCell ⟨b, 3, none⟩ (.pointer (some ⟨xb, 0, none⟩))) := by
         refine ((((fr1.wide (fun _ h => by cases h)).trans fr2 (fun _ h => by cases h)).trans fr3 (fun x hx => .inl ?_)).set (.inl ?_) _)
         · exact List.mem_cons_of_mem _ (List.mem_append_right _ (fl x hx))
         · simp [Kn.bs]
       clear hi h3 il3 hi4)
    | (go_at_call 134
       refine W4.mono ?_
       clear W4
       rintro e w5 ⟨rfl, hi5, fr5⟩))
  go_ret
  exact ⟨rfl, hi5, fr4.trans fr5 (fun x hx => .inl (by simp at hx; rcases hx with rfl | rfl <;> simp [Kn.bs]))⟩
theorem even_b2 {b rb : Nat} {k rk : ByteArray} {v rv : ByteArray} {l rl rr : Kn ByteArray ByteArray} {w : World} (h1 : Top w b k v l.adr (some ⟨rb, 0, none⟩)) (il : In w l) (ir : In w (.node rb rk rv rl rr))
    (hnd : (Kn.node b k v l (.node rb rk rv rl rr)).bs.Nodup) (hc : (Kn.node b k v l (.node rb rk rv rl rr)).cnt < 4611686018427387904)
    (hd : l.hgt - (Kn.node rb rk rv rl rr).hgt < -1) (hx : ¬ rr.hgt < rl.hgt) :
    Calls Try.prog 118 #[.pointer (some ⟨b, 0, none⟩)] w fun e w' => e = .returned (.pointer (some ⟨rb, 0, none⟩)) ∧ In w' (.node rb rk rv (.node b k v l rl) rr) ∧ Fr (Kn.node b k v l (.node rb rk rv rl rr)).bs w w' := by
  have hbL := Kn.bounds (Kn.node rb rk rv rl rr)
  have hbr := Kn.bounds l
  have hbc : l.cnt < 4611686018427387904 ∧ (Kn.node rb rk rv rl rr).cnt < 4611686018427387904 := by simp only [Kn.cnt] at hc ⊢; have := Kn.bounds rl; have := Kn.bounds rr; omega
  have hw1 : IntKind.i64.wrap (l.hgt - (Kn.node rb rk rv rl rr).hgt) = l.hgt - (Kn.node rb rk rv rl rr).hgt := IntWalk.i64_in _ (by omega)
  have hx2 : rl.hgt ≤ rr.hgt := by omega
  obtain ⟨c10, c11, c12, c13, f11, f12, f13⟩ := h1.cells
  go_enter Try.func118, Try.ntmps118
  go_wp2_with fail
  refine still_all (by kernel_rfl) (by kernel_rfl) (fun W hW => ?_)
  have fr1 : Fr [] w W := by rw [hW]; exact (Fr.refl _ _).drew
  clear hW c10 c11 c12 c13 f11 f12 f13
  have h1 := h1.fr fr1 (by simp)
  have il := in_fr fr1 il (by simp)
  have ir := in_fr fr1 ir (by simp)
  obtain ⟨c10, c11, c12, c13, f11, f12, f13⟩ := h1.cells
  repeat still_step
  still_call (depth_any l _ il)
  repeat still_step
  still_call (depth_any (Kn.node rb rk rv rl rr) _ ir)
  repeat still_step
  refine wpStill_nil ?_
  obtain ⟨D, hD⟩ : ∃ D, D = (Kn.node rb rk rv rl rr).hgt := ⟨_, rfl⟩
  rw [← hD] at hd hw1
  simp only [← hD]
  clear hD
  have hd0 : l.hgt - D ≤ 1 := by omega
  go_wp2_with fail
  refine still_all (by kernel_rfl) (by kernel_rfl) (fun W2 hW => ?_)
  have fr2 : Fr [] W W2 := by rw [hW]; exact (Fr.refl _ _).drew
  clear hW c10 c11 c12 c13 f11 f12 f13
  have h2 := h1.fr fr2 (by simp)
  have il2 := in_fr fr2 il (by simp)
  have ir2 := in_fr fr2 ir (by simp)
  clear h1 il ir
  obtain ⟨c10, c11, c12, c13, f11, f12, f13⟩ := h2.cells
  obtain ⟨d10, d11, d12, d13, g11, g12, g13⟩ := (Top.of_in ir2).cells
  repeat still_step
  still_call (depth_any rr _ ir2.2.2)
  repeat still_step
  still_call (depth_any rl _ ir2.2.1)
  repeat still_step
  refine wpStill_nil ?_
  have W4 := up_any h2 (Top.of_in ir2) il2 ir2.2.1 ir2.2.2 hnd hc
  have fr4 : Fr (Kn.node b k v l (.node rb rk rv rl rr)).bs w W2 := (fr1.wide (fun _ h => by cases h)).trans fr2 (fun _ h => by cases h)
  go_wp2_with (go_at_call 134; refine W4.mono ?_; clear W4; rintro e w5 ⟨rfl, hi5, fr5⟩)
  go_ret
  exact ⟨rfl, hi5, fr4.trans fr5 (fun x hx => .inl (by simp at hx; rcases hx with rfl | rfl <;> simp [Kn.bs]))⟩
theorem even_c {b : Nat} {k : ByteArray} {v : ByteArray} {l r : Kn ByteArray ByteArray} {w : World} (h1 : Top w b k v l.adr r.adr) (il : In w l) (ir : In w r)
    (hnd : (Kn.node b k v l r).bs.Nodup) (hc : (Kn.node b k v l r).cnt < 4611686018427387904) (hd : l.hgt - r.hgt ≤ 1) (hx : -1 ≤ l.hgt - r.hgt) :
    Calls Try.prog 118 #[.pointer (some ⟨b, 0, none⟩)] w fun e w' => e = .returned (.pointer (some ⟨b, 0, none⟩)) ∧ In w' (.node b k v l r) ∧ Fr (Kn.node b k v l r).bs w w' := by
  have hbL := Kn.bounds l
  have hbr := Kn.bounds r
  have hbc : l.cnt + r.cnt < 4611686018427387904 := by simp only [Kn.cnt] at hc; omega
  have hw1 : IntKind.i64.wrap (l.hgt - r.hgt) = l.hgt - r.hgt := IntWalk.i64_in _ (by omega)
  have nbl : b ∉ l.bs := by simp only [Kn.bs, List.nodup_cons, List.mem_append, not_or] at hnd; exact hnd.1.1
  have nbr : b ∉ r.bs := by simp only [Kn.bs, List.nodup_cons, List.mem_append, not_or] at hnd; exact hnd.1.2
  obtain ⟨c10, c11, c12, c13, f11, f12, f13⟩ := h1.cells
  go_enter Try.func118, Try.ntmps118
  go_wp2_with fail
  refine still_all (by kernel_rfl) (by kernel_rfl) (fun W hW => ?_)
  have fr1 : Fr [] w W := by rw [hW]; exact (Fr.refl _ _).drew
  clear hW c10 c11 c12 c13 f11 f12 f13
  have h1 := h1.fr fr1 (by simp)
  have il := in_fr fr1 il (by simp)
  have ir := in_fr fr1 ir (by simp)
  obtain ⟨c10, c11, c12, c13, f11, f12, f13⟩ := h1.cells
  repeat still_step
  still_call (depth_any l _ il)
  repeat still_step
  still_call (depth_any r _ ir)
  repeat still_step
  refine wpStill_nil ?_
  have W4 := fresh_top h1 il ir nbl nbr hbc
  go_wp2_with (go_at_call 121; refine W4.mono ?_; clear W4; rintro e w5 ⟨rfl, hi5, fr5⟩)
  go_ret
  exact ⟨rfl, hi5, (fr1.wide (fun _ h => by cases h)).trans fr5 (fun x hx => .inl (by simp at hx; subst hx; simp [Kn.bs]))⟩
theorem even_any {b : Nat} {k : ByteArray} {v : ByteArray} {l r : Kn ByteArray ByteArray} {w : World} (h1 : Top w b k v l.adr r.adr) (il : In w l) (ir : In w r) (hnd : (Kn.node b k v l r).bs.Nodup) (hc : (Kn.node b k v l r).cnt < 4611686018427387904) :
    Calls Try.prog 118 #[.pointer (some ⟨b, 0, none⟩)] w fun e w' => e = .returned (.pointer (Kn.even b k v l r).adr) ∧ In w' (Kn.even b k v l r) ∧ Fr (Kn.node b k v l r).bs w w' := by
  by_cases hA : l.hgt - r.hgt > 1
  · cases l with
    | nil => have := Kn.bounds r; simp only [Kn.hgt] at hA; omega
    | node lb lk lv ll lr =>
      by_cases hx : ll.hgt < lr.hgt
      · cases lr with
        | nil => have := Kn.bounds ll; simp only [Kn.hgt] at hx; omega
        | node xb xk xv xl xr =>
          have e : Kn.even b k v (.node lb lk lv ll (.node xb xk xv xl xr)) r = .node xb xk xv (.node lb lk lv ll xl) (.node b k v xr r) := by
            unfold Kn.even; rw [if_pos hA]; simp only [if_pos hx]; rfl
          rw [e]
          exact even_a1 h1 il ir hnd hc hA hx
      · have e : Kn.even b k v (.node lb lk lv ll lr) r = .node lb lk lv ll (.node b k v lr r) := by
          unfold Kn.even; rw [if_pos hA]; simp only [if_neg hx]; rfl
        rw [e]
        exact even_a2 h1 il ir hnd hc hA hx
  · by_cases hB : l.hgt - r.hgt < -1
    · cases r with
      | nil => have := Kn.bounds l; simp only [Kn.hgt] at hB; omega
      | node rb rk rv rl rr =>
        by_cases hx : rr.hgt < rl.hgt
        · cases rl with
          | nil => have := Kn.bounds rr; simp only [Kn.hgt] at hx; omega
          | node xb xk xv xl xr =>
            have e : Kn.even b k v l (.node rb rk rv (.node xb xk xv xl xr) rr) = .node xb xk xv (.node b k v l xl) (.node rb rk rv xr rr) := by
              unfold Kn.even; rw [if_neg hA, if_pos hB]; simp only [if_pos hx]; rfl
            rw [e]
            exact even_b1 h1 il ir hnd hc hB hx
        · have e : Kn.even b k v l (.node rb rk rv rl rr) = .node rb rk rv (.node b k v l rl) rr := by
            unfold Kn.even; rw [if_neg hA, if_pos hB]; simp only [if_neg hx]; rfl
          rw [e]
          exact even_b2 h1 il ir hnd hc hB hx
    · have e : Kn.even b k v l r = .node b k v l r := by unfold Kn.even; rw [if_neg hA, if_neg hB]
      rw [e]
      exact even_c h1 il ir hnd hc (by omega) (by omega)
end Go.Proofs.Ytljnlnbopohghaa.OrdSm
end
section
namespace Go.Proofs.Ytljnlnbopohghaa.OrdSm
open Go.RowKit Go.Proofs.YtljnlnbopohghaaW.PrintWords Go.Proofs.YtljnlnbopohghaaW.PrintLast Go.Proofs.YtljnlnbopohghaaW.PrintMore Go.Proofs.Ytljnlnbopohghaa.Own Go.Proofs.Ytljnlnbopohghaa.Ord
abbrev lt (a b : ByteArray) : Bool := Op.bytesLess a.toList b.toList
set_option maxHeartbeats 2000000
set_option maxRecDepth 100000
theorem nan_any (x : ByteArray) (w : World) : Calls Try.prog 116 #[.string x] w fun e w' => e = .returned (.bool false) ∧ w' = w := by
 go_enter Try.func116, Try.ntmps116
 go_wp2
 go_ret
 simp
theorem cmp_any (x y : ByteArray) (w : World) : Calls Try.prog 102 #[.string x, .string y] w fun e w' => e = .returned (.int .i64 (Kn.cmpK lt x y)) ∧ w' = w := by
 unfold Kn.cmpK
 by_cases h1 : lt x y = true
 ·rw [if_pos h1]
  go_enter Try.func102, Try.ntmps102
  go_wp2_with (go_at_call 116; refine (nan_any _ _).mono ?_; rintro e w1 ⟨rfl, rfl⟩)
  go_ret
  simp
 rw [if_neg h1]
 by_cases h2 : lt y x = true
 ·rw [if_pos h2]
  go_enter Try.func102, Try.ntmps102
  go_wp2_with (go_at_call 116; refine (nan_any _ _).mono ?_; rintro e w1 ⟨rfl, rfl⟩)
  go_ret
  simp
 rw [if_neg h2]
 go_enter Try.func102, Try.ntmps102
 go_wp2_with (go_at_call 116; refine (nan_any _ _).mono ?_; rintro e w1 ⟨rfl, rfl⟩)
 go_ret
 simp
end Go.Proofs.Ytljnlnbopohghaa.OrdSm
end
section
namespace Go.Proofs.Ytljnlnbopohghaa.OrdSm
open Go.RowKit Go.Proofs.YtljnlnbopohghaaW.PrintWords Go.Proofs.YtljnlnbopohghaaW.PrintLast Go.Proofs.YtljnlnbopohghaaW.PrintMore Go.Proofs.Ytljnlnbopohghaa.Own Go.Proofs.Ytljnlnbopohghaa.Ord
set_option maxHeartbeats 2000000
set_option maxRecDepth 100000
theorem least_any (l : Kn ByteArray ByteArray) : ∀ (b : Nat) (k : ByteArray) (v : ByteArray) (r : Kn ByteArray ByteArray) (w : World), In w (.node b k v l r) → (Kn.node b k v l r).bs.Nodup → (Kn.node b k v l r).cnt < 4611686018427387904 →
    Calls Try.prog 117 #[.pointer (some ⟨b, 0, none⟩)] w fun e w' => e = .returned (.tuple #[.pointer (Kn.least b k v l r).1.adr, .pointer (some ⟨(Kn.least b k v l r).2.1, 0, none⟩)]) ∧ In w' (Kn.least b k v l r).1 ∧ Fr (Kn.node b k v l r).bs w w' ∧
      (∃ lo, Top w' (Kn.least b k v l r).2.1 (Kn.least b k v l r).2.2.1 (Kn.least b k v l r).2.2.2.1 lo (Kn.least b k v l r).2.2.2.2.adr) := by
  induction l with
  | nil =>
    intro b k v r w hin hnd hc
    have h1 := Top.of_in hin
    obtain ⟨c10, c11, c12, c13, f11, f12, f13⟩ := h1.cells
    rw [show (Kn.nil : Kn ByteArray ByteArray).adr = none from rfl] at c12
    go_enter Try.func117, Try.ntmps117
    go_wp2
    go_ret2
    exact ⟨rfl, hin.2.2, Fr.refl _ _, none, h1⟩
  | node lb lk lv ll lr ihl ihr =>
    intro b k v r w hin hnd hc
    clear ihr
    obtain ⟨nd2, no2, sub2, mem2⟩ := Kn.least_out hnd
    have nbl : b ∉ (Kn.node lb lk lv ll lr).bs := by rw [show (Kn.node b k v (.node lb lk lv ll lr) r).bs = b :: ((Kn.node lb lk lv ll lr).bs ++ r.bs) from rfl, List.nodup_cons, List.mem_append, not_or] at hnd; exact hnd.1.1
    have nbr : b ∉ r.bs := by rw [show (Kn.node b k v (.node lb lk lv ll lr) r).bs = b :: ((Kn.node lb lk lv ll lr).bs ++ r.bs) from rfl, List.nodup_cons, List.mem_append, not_or] at hnd; exact hnd.1.2
    have ndl : (Kn.node lb lk lv ll lr).bs.Nodup := by rw [show (Kn.node b k v (.node lb lk lv ll lr) r).bs = b :: ((Kn.node lb lk lv ll lr).bs ++ r.bs) from rfl, List.nodup_cons, List.nodup_append] at hnd; exact hnd.2.1
    have dj : ∀ x ∈ (Kn.node lb lk lv ll lr).bs, x ∉ r.bs := fun x hx hr => by rw [show (Kn.node b k v (.node lb lk lv ll lr) r).bs = b :: ((Kn.node lb lk lv ll lr).bs ++ r.bs) from rfl, List.nodup_cons, List.nodup_append] at hnd; exact hnd.2.2.2 x hx x hr rfl
    have hcr := Kn.bounds r
    have hcl := Kn.bounds (Kn.node lb lk lv ll lr)
    have hc1 : (Kn.node lb lk lv ll lr).cnt < 4611686018427387904 := by rw [show (Kn.node b k v (.node lb lk lv ll lr) r).cnt = 1 + (Kn.node lb lk lv ll lr).cnt + r.cnt from rfl] at hc; omega
    have hc2 : (Kn.node b k v (Kn.least lb lk lv ll lr).1 r).cnt < 4611686018427387904 := by
      have := Kn.least_cnt lb lk lv ll lr
      rw [show (Kn.node b k v (.node lb lk lv ll lr) r).cnt = 1 + (Kn.node lb lk lv ll lr).cnt + r.cnt from rfl] at hc
      rw [show (Kn.node b k v (Kn.least lb lk lv ll lr).1 r).cnt = 1 + (Kn.least lb lk lv ll lr).1.cnt + r.cnt from rfl]; omega
    have h1 := Top.of_in hin
    have ir := hin.2.2
    have nbP : b ∉ (Kn.least lb lk lv ll lr).1.bs := fun h => nbl (sub2 b h)
    have nxb : (Kn.least lb lk lv ll lr).2.1 ≠ b := fun h => nbl (h ▸ mem2)
    obtain ⟨c10, c11, c12, c13, f11, f12, f13⟩ := h1.cells
    rw [show (Kn.node lb lk lv ll lr).adr = some ⟨lb, 0, none⟩ from rfl] at c12
    have W1 := ihl lb lk lv lr w hin.2.1 ndl hc1
    clear ihl hin
    have e1 : (Kn.least b k v (.node lb lk lv ll lr) r).1 = Kn.even b k v (Kn.least lb lk lv ll lr).1 r := rfl
    have e2 : (Kn.least b k v (.node lb lk lv ll lr) r).2 = (Kn.least lb lk lv ll lr).2 := rfl
    rw [e1, e2]
    generalize Kn.least lb lk lv ll lr = x at *
    obtain ⟨P, xb, xk, xv, xr⟩ := x
    dsimp only at *
    have W2 := W1.mono (R' := fun e w2 => e = .returned (.tuple #[.pointer P.adr, .pointer (some ⟨xb, 0, none⟩)]) ∧ Top w2 b k v (some ⟨lb, 0, none⟩) r.adr ∧ (∃ lo, Top (w2.setCell ⟨b, 2, none⟩ (.pointer P.adr)) xb xk xv lo xr.adr) ∧ Fr (Kn.node b k v (.node lb lk lv ll lr) r).bs w (w2.setCell ⟨b, 2, none⟩ (.pointer P.adr)) ∧
        Calls Try.prog 118 #[.pointer (some ⟨b, 0, none⟩)] (w2.setCell ⟨b, 2, none⟩ (.pointer P.adr)) fun e w' => e = .returned (.pointer (Kn.even b k v P r).adr) ∧ In w' (Kn.even b k v P r) ∧ Fr (Kn.node b k v P r).bs (w2.setCell ⟨b, 2, none⟩ (.pointer P.adr)) w') (by
      rintro e w2 ⟨rfl, hi, fr, lo, ht⟩
      have h2 := h1.fr fr nbl
      have ir2 := in_fr fr ir (fun x hx hm => dj x hm hx)
      refine ⟨rfl, h2, ⟨lo, ht.fr (B := [b]) ((Fr.refl [b] w2).set (.inl (by simp)) _) (by simpa using nxb)⟩, ?_, even_any (h2.low P.adr) (set_in hi nbP 2 _) (set_in ir2 nbr 2 _) nd2 hc2⟩
      exact (fr.wide (fun x hx => .inl (List.mem_cons_of_mem _ (List.mem_append_left _ hx)))).set (.inl (by simp [Kn.bs])) _)
    clear W1 h1 ir
    go_enter Try.func117, Try.ntmps117
    go_wp2_with (first
      | (go_at_call 117
         refine W2.mono ?_
         clear W2
         rintro e w2 ⟨rfl, h2, ⟨lo, ht2⟩, fr2, W3⟩
         obtain ⟨c20, c21, c22, c23, f21, f22, f23⟩ := h2.cells)
      | (go_at_call 118
         refine W3.mono ?_
         clear W3
         rintro e w4 ⟨rfl, hi4, fr4⟩))
    go_ret2
    refine ⟨rfl, hi4, fr2.trans fr4 (fun x hx => .inl ?_), lo, ht2.fr fr4 no2⟩
    rw [show (Kn.node b k v P r).bs = b :: (P.bs ++ r.bs) from rfl, List.mem_cons, List.mem_append] at hx
    rw [show (Kn.node b k v (.node lb lk lv ll lr) r).bs = b :: ((Kn.node lb lk lv ll lr).bs ++ r.bs) from rfl, List.mem_cons, List.mem_append]
    rcases hx with hx | hx | hx
    · exact .inl hx
    · exact .inr (.inl (sub2 x hx))
    · exact .inr (.inr hx)
theorem drop_any (key : ByteArray) (T : Kn ByteArray ByteArray) : ∀ w : World, In w T → T.bs.Nodup → T.cnt < 4611686018427387904 →
    Calls Try.prog 105 #[.pointer T.adr, .string key] w fun e w' => e = .returned (.pointer (Kn.drop lt key T).adr) ∧ In w' (Kn.drop lt key T) ∧ Fr T.bs w w' := by
  induction T with
  | nil =>
    intro w _ _ _
    show Calls Try.prog 105 #[.pointer none, .string key] w _
    go_enter Try.func105, Try.ntmps105
    go_wp2
    go_ret
    exact ⟨rfl, trivial, Fr.refl _ _⟩
  | node b k v l r ihl ihr =>
    intro w hin hnd hc
    have nbl : b ∉ l.bs := by simp only [Kn.bs, List.nodup_cons, List.mem_append, not_or] at hnd; exact hnd.1.1
    have nbr : b ∉ r.bs := by simp only [Kn.bs, List.nodup_cons, List.mem_append, not_or] at hnd; exact hnd.1.2
    have ndl : l.bs.Nodup := by simp only [Kn.bs, List.nodup_cons, List.nodup_append] at hnd; exact hnd.2.1
    have ndr : r.bs.Nodup := by simp only [Kn.bs, List.nodup_cons, List.nodup_append] at hnd; exact hnd.2.2.1
    have dj : ∀ x ∈ l.bs, x ∉ r.bs := fun x hx hr => by simp only [Kn.bs, List.nodup_cons, List.nodup_append] at hnd; exact hnd.2.2.2 x hx x hr rfl
    have hcl := Kn.bounds l
    have hcr := Kn.bounds r
    simp only [Kn.cnt] at hc
    have h1 := Top.of_in hin
    have il := hin.2.1
    have ir := hin.2.2
    clear hin
    obtain ⟨c10, c11, c12, c13, f11, f12, f13⟩ := h1.cells
    show Calls Try.prog 105 #[.pointer (some ⟨b, 0, none⟩), .string key] w _
    by_cases hA : lt key k = true
    · have hcmp : ∀ W, Calls Try.prog 102 #[.string key, .string k] W fun e w' => e = .returned (.int .i64 (-1)) ∧ w' = W := fun W => by
        have := cmp_any key k W; unfold Kn.cmpK at this; rw [if_pos hA] at this; exact this
      have W1 := (ihl w il ndl (by omega)).mono (R' := fun e w2 => e = .returned (.pointer (Kn.drop lt key l).adr) ∧ Top w2 b k v l.adr r.adr ∧ Fr (Kn.node b k v l r).bs w (w2.setCell ⟨b, 2, none⟩ (.pointer (Kn.drop lt key l).adr)) ∧
          Calls Try.prog 118 #[.pointer (some ⟨b, 0, none⟩)] (w2.setCell ⟨b, 2, none⟩ (.pointer (Kn.drop lt key l).adr)) fun e w' => e = .returned (.pointer (Kn.even b k v (Kn.drop lt key l) r).adr) ∧ In w' (Kn.even b k v (Kn.drop lt key l) r) ∧ Fr (Kn.node b k v (Kn.drop lt key l) r).bs (w2.setCell ⟨b, 2, none⟩ (.pointer (Kn.drop lt key l).adr)) w') (by
        rintro e w2 ⟨rfl, hi, fr⟩
        have h2 := h1.fr fr nbl
        have io2 := in_fr fr ir (fun x hx hm => dj x hm hx)
        refine ⟨rfl, h2, ?_, even_any (h2.low (Kn.drop lt key l).adr) (set_in hi (fun h => nbl (Kn.drop_mem h)) 2 _) (set_in io2 nbr 2 _) (Kn.drop_left_nodup hnd) (by have := Kn.drop_cnt lt key l; simp only [Kn.cnt]; omega)⟩
        exact (fr.wide (fun x hx => .inl (List.mem_cons_of_mem _ (List.mem_append_left _ hx)))).set (.inl (by simp [Kn.bs])) _)
      have e : Kn.drop lt key (.node b k v l r) = (Kn.even b k v (Kn.drop lt key l) r) := by simp only [Kn.drop]; rw [if_pos hA]
      rw [e]
      clear ihl ihr h1 il ir e
      go_enter Try.func105, Try.ntmps105
      go_wp2_with (first
        | (go_at_call 102; refine (hcmp _).mono ?_; rintro e w1 ⟨rfl, hw⟩; obtain rfl := hw.symm)
        | (go_at_call 105
           refine W1.mono ?_
           clear W1
           rintro e w2 ⟨rfl, h2, fr2, W3⟩
           obtain ⟨c20, c21, c22, c23, f21, f22, f23⟩ := h2.cells)
        | (go_at_call 118
           refine W3.mono ?_
           clear W3
           rintro e w4 ⟨rfl, hi4, fr4⟩))
      go_ret
      refine ⟨rfl, hi4, fr2.trans fr4 (fun x hx => .inl ?_)⟩
      simp only [Kn.bs, List.mem_cons, List.mem_append] at hx ⊢
      rcases hx with hx | hx | hx
      · exact .inl hx
      · exact .inr (.inl (Kn.drop_mem hx))
      · exact .inr (.inr hx)
    · by_cases hB : lt k key = true
      · have hcmp : ∀ W, Calls Try.prog 102 #[.string key, .string k] W fun e w' => e = .returned (.int .i64 1) ∧ w' = W := fun W => by
          have := cmp_any key k W; unfold Kn.cmpK at this; rw [if_neg hA, if_pos hB] at this; exact this
        have W1 := (ihr w ir ndr (by omega)).mono (R' := fun e w2 => e = .returned (.pointer (Kn.drop lt key r).adr) ∧ Top w2 b k v l.adr r.adr ∧ Fr (Kn.node b k v l r).bs w (w2.setCell ⟨b, 3, none⟩ (.pointer (Kn.drop lt key r).adr)) ∧
            Calls Try.prog 118 #[.pointer (some ⟨b, 0, none⟩)] (w2.setCell ⟨b, 3, none⟩ (.pointer (Kn.drop lt key r).adr)) fun e w' => e = .returned (.pointer (Kn.even b k v l (Kn.drop lt key r)).adr) ∧ In w' (Kn.even b k v l (Kn.drop lt key r)) ∧ Fr (Kn.node b k v l (Kn.drop lt key r)).bs (w2.setCell ⟨b, 3, none⟩ (.pointer (Kn.drop lt key r).adr)) w') (by
          rintro e w2 ⟨rfl, hi, fr⟩
          have h2 := h1.fr fr nbr
          have io2 := in_fr fr il (fun x hx hm => dj x hx hm)
          refine ⟨rfl, h2, ?_, even_any (h2.high (Kn.drop lt key r).adr) (set_in io2 nbl 3 _) (set_in hi (fun h => nbr (Kn.drop_mem h)) 3 _) (Kn.drop_right_nodup hnd) (by have := Kn.drop_cnt lt key r; simp only [Kn.cnt]; omega)⟩
          exact (fr.wide (fun x hx => .inl (List.mem_cons_of_mem _ (List.mem_append_right _ hx)))).set (.inl (by simp [Kn.bs])) _)
        have e : Kn.drop lt key (.node b k v l r) = (Kn.even b k v l (Kn.drop lt key r)) := by simp only [Kn.drop]; rw [if_neg hA, if_pos hB]
        rw [e]
        clear ihl ihr h1 il ir e
        go_enter Try.func105, Try.ntmps105
        go_wp2_with (first
          | (go_at_call 102; refine (hcmp _).mono ?_; rintro e w1 ⟨rfl, hw⟩; obtain rfl := hw.symm)
          | (go_at_call 105
             refine W1.mono ?_
             clear W1
             rintro e w2 ⟨rfl, h2, fr2, W3⟩
             obtain ⟨c20, c21, c22, c23, f21, f22, f23⟩ := h2.cells)
          | (go_at_call 118
             refine W3.mono ?_
             clear W3
             rintro e w4 ⟨rfl, hi4, fr4⟩))
        go_ret
        refine ⟨rfl, hi4, fr2.trans fr4 (fun x hx => .inl ?_)⟩
        simp only [Kn.bs, List.mem_cons, List.mem_append] at hx ⊢
        rcases hx with hx | hx | hx
        · exact .inl hx
        · exact .inr (.inl hx)
        · exact .inr (.inr (Kn.drop_mem hx))
      · have hcmp : ∀ W, Calls Try.prog 102 #[.string key, .string k] W fun e w' => e = .returned (.int .i64 0) ∧ w' = W := fun W => by
          have := cmp_any key k W; unfold Kn.cmpK at this; rw [if_neg hA, if_neg hB] at this; exact this
        clear ihl ihr
        cases r with
        | nil =>
          have e : Kn.drop lt key (.node b k v l .nil) = l := by simp only [Kn.drop]; rw [if_neg hA, if_neg hB]
          rw [e]
          rw [show (Kn.nil : Kn ByteArray ByteArray).adr = none from rfl] at c13
          clear h1 ir e
          go_enter Try.func105, Try.ntmps105
          go_wp2_with (go_at_call 102; refine (hcmp _).mono ?_; rintro e w1 ⟨rfl, hw⟩; obtain rfl := hw.symm)
          go_ret
          exact ⟨rfl, il, Fr.refl _ _⟩
        | node rb rk rv rl rr =>
          have e : Kn.drop lt key (.node b k v l (.node rb rk rv rl rr)) = Kn.even (Kn.least rb rk rv rl rr).2.1 (Kn.least rb rk rv rl rr).2.2.1 (Kn.least rb rk rv rl rr).2.2.2.1 l (Kn.least rb rk rv rl rr).1 := by simp only [Kn.drop]; rw [if_neg hA, if_neg hB]
          rw [e]
          have p := Kn.least_bs rb rk rv rl rr
          have jn := Kn.join_nodup hnd (Kn.least rb rk rv rl rr).2.2.1 (Kn.least rb rk rv rl rr).2.2.2.1
          have jl := Kn.least_nodup ndr
          have hcx := Kn.least_cnt rb rk rv rl rr
          have W0 := least_any rl rb rk rv rr w ir ndr (by omega)
          rw [show (Kn.node rb rk rv rl rr).adr = some ⟨rb, 0, none⟩ from rfl] at c13 h1
          generalize Kn.least rb rk rv rl rr = x at *
          obtain ⟨P, xb, xk, xv, xr⟩ := x
          dsimp only at *
          have nxl : xb ∉ l.bs := fun h => dj xb h (p.mem_iff.1 List.mem_cons_self)
          have hc3 : (Kn.node xb xk xv l P).cnt < 4611686018427387904 := by simp only [Kn.cnt] at *; omega
          have W1 := W0.mono (R' := fun e w2 => e = .returned (.tuple #[.pointer P.adr, .pointer (some ⟨xb, 0, none⟩)]) ∧ Top w2 b k v l.adr (some ⟨rb, 0, none⟩) ∧ (∃ lo, Top w2 xb xk xv lo xr.adr) ∧ Fr (Kn.node b k v l (.node rb rk rv rl rr)).bs w ((w2.setCell ⟨xb, 2, none⟩ (.pointer l.adr)).setCell ⟨xb, 3, none⟩ (.pointer P.adr)) ∧
              Calls Try.prog 118 #[.pointer (some ⟨xb, 0, none⟩)] ((w2.setCell ⟨xb, 2, none⟩ (.pointer l.adr)).setCell ⟨xb, 3, none⟩ (.pointer P.adr)) fun e w' => e = .returned (.pointer (Kn.even xb xk xv l P).adr) ∧ In w' (Kn.even xb xk xv l P) ∧ Fr (Kn.node xb xk xv l P).bs ((w2.setCell ⟨xb, 2, none⟩ (.pointer l.adr)).setCell ⟨xb, 3, none⟩ (.pointer P.adr)) w') (by
            rintro e w2 ⟨rfl, hi, fr, lo, ht⟩
            have h2 := h1.fr fr nbr
            have il2 := in_fr fr il (fun x hx hm => dj x hx hm)
            have xm : xb ∈ (Kn.node b k v l (.node rb rk rv rl rr)).bs := List.mem_cons_of_mem _ (List.mem_append_right _ (p.mem_iff.1 List.mem_cons_self))
            refine ⟨rfl, h2, ⟨lo, ht⟩, ?_, even_any ((ht.low l.adr).high P.adr) (set_in (set_in il2 nxl 2 _) nxl 3 _) (set_in (set_in hi jl.2 2 _) jl.2 3 _) jn hc3⟩
            exact ((fr.wide (fun x hx => .inl (List.mem_cons_of_mem _ (List.mem_append_right _ hx)))).set (.inl xm) _).set (.inl xm) _)
          clear W0 h1 il ir e
          go_enter Try.func105, Try.ntmps105
          go_wp2_with (first
            | (go_at_call 102; refine (hcmp _).mono ?_; rintro e w1 ⟨rfl, hw⟩; obtain rfl := hw.symm)
            | (go_at_call 117
               refine W1.mono ?_
               clear W1
               rintro e w2 ⟨rfl, h2, ⟨lo, ht2⟩, fr2, W3⟩
               obtain ⟨c20, c21, c22, c23, f21, f22, f23⟩ := h2.cells
               obtain ⟨c30, c31, c32, c33, f31, f32, f33⟩ := ht2.cells)
            | (go_at_call 118
               refine W3.mono ?_
               clear W3
               rintro e w4 ⟨rfl, hi4, fr4⟩))
          go_ret
          refine ⟨rfl, hi4, fr2.trans fr4 (fun x hx => .inl ?_)⟩
          rw [show (Kn.node xb xk xv l P).bs = xb :: (l.bs ++ P.bs) from rfl, List.mem_cons, List.mem_append] at hx
          rcases hx with rfl | hx | hx
          · exact List.mem_cons_of_mem _ (List.mem_append_right _ (p.mem_iff.1 List.mem_cons_self))
          · exact List.mem_cons_of_mem _ (List.mem_append_left _ hx)
          · exact List.mem_cons_of_mem _ (List.mem_append_right _ (p.mem_iff.1 (List.mem_cons_of_mem _ hx)))
structure Mp (w : World) (m : Nat) (T : Kn ByteArray ByteArray) : Prop where
 blk : w.heap[m]? = some (.cells #[.pointer T.adr] 153 (0, 0))
 inn : In w T
 nd : T.bs.Nodup
theorem Mp.ne {w : World} {m : Nat} {T : Kn ByteArray ByteArray} (h : Mp w m T) : m ∉ T.bs := fun hm => by
 obtain ⟨cells, hc⟩ := in_typed h.inn m hm
 rw [h.blk] at hc
 injection hc with hc
 injection hc with _ hc
 exact absurd hc (by decide)
theorem Mp.fr {w w' : World} {m : Nat} {T : Kn ByteArray ByteArray} {B : List Nat} (h : Mp w m T) (f : Fr B w w') (hm : m ∉ B) (hn : ∀ x ∈ T.bs, x ∉ B) : Mp w' m T := ⟨f.blk h.blk hm, in_fr f h.inn hn, h.nd⟩
theorem Mp.below {w w' : World} {m : Nat} {T : Kn ByteArray ByteArray} (h : Mp w m T) (f : Below w.heap.size w w') : Mp w' m T := h.fr (B := []) (Fr.of_below f) (by simp) (by simp)
theorem new_any (w : World) : Calls Try.prog 68 #[] w fun e w' => ∃ m, w.heap.size ≤ m ∧ e = .returned (.pointer (some ⟨m, 0, none⟩)) ∧ Mp w' m .nil ∧ Fr [] w w' := by
 go_enter Try.func68, Try.ntmps68
 go_wp2
 go_ret
 exact ⟨w.heap.size, Nat.le_refl _, rfl, ⟨blk_new _ _, trivial, by simp [Kn.bs]⟩, (Fr.refl _ _).alloc _⟩
theorem len_any {w : World} {m : Nat} {T : Kn ByteArray ByteArray} (h : Mp w m T) : Calls Try.prog 54 #[.pointer (some ⟨m, 0, none⟩)] w fun e w' => e = .returned (.int .i64 T.cnt) ∧ w' = w := by
 have c0 : w.cell? ⟨m, 0, none⟩ = some (.pointer T.adr) := blk_cell h.blk 0
 have W1 := size_any T w h.inn
 go_enter Try.func54, Try.ntmps54
 go_wp2_with (go_at_call 82; refine W1.mono ?_; clear W1; rintro e w1 ⟨rfl, rfl⟩)
 go_ret
 exact ⟨rfl, rfl⟩
end Go.Proofs.Ytljnlnbopohghaa.OrdSm
end
section
namespace Go.Proofs.Ytljnlnbopohghaa.OrdSm
open Go.RowKit Go.Shelf Go.Proofs.YtljnlnbopohghaaW.PrintWords Go.Proofs.YtljnlnbopohghaaW.PrintLast Go.Proofs.YtljnlnbopohghaaW.PrintMore Go.Proofs.Ytljnlnbopohghaa.Own Go.Proofs.Ytljnlnbopohghaa.Ord
open List renaming setIfInBounds_toArray → sA1, set_cons_zero → sA2, set_cons_succ → sA3, getElem_toArray → sA4, getElem_cons_zero → sA5, getElem_cons_succ → sA6
attribute [local go_sem] Oper.semAt_some
set_option maxHeartbeats 2000000
set_option maxRecDepth 100000
theorem tkI_ {F : Fence} {n : Nat} {P : Program} {ops : Array Oper} {Q : Exit → Act → World → Prop} {md : Region.Mode} (i : Nat) {oi : Oper} {v : Value} {fuel : Nat} {listed : Array Bool} {a : Act} {w : World} (hi : ops[i]? = some oi) (hw : ∀ w, (execOp a.eval oi).run P w = .ok (.value v) w) (h : wpAnyIn F n P md ops Q fuel (listed.setIfInBounds i true) (a.put oi.dst v) w)
 (hro : F.round = none := by rfl) (hs : Region.noSelect ops = true := by kernel_rfl) (hf : Region.free md ops listed i = true := by kernel_rfl) (hr : (Region.ready md ops listed).contains i = true := by kernel_rfl) (hQ : ∀ c a w, Q (.panic c) (a.put oi.dst v) w → Q (.panic c) a w := by exact fun _ _ _ h => h) (h1 : Region.wanted oi (yielded ops a.tmps) = true := by rfl) (h2 : ∀ w, oi.about P w a.eval = none := by exact fun _ => rfl) : wpAnyIn F n P md ops Q (fuel + 1) listed a w := wpAnyIn_take hro hi hs hf hr hQ ⟨Or.inl ⟨h1, hw⟩, h2⟩ h
theorem tkJ_ {F : Fence} {n : Nat} {P : Program} {ops : Array Oper} {Q : Exit → Act → World → Prop} {md : Region.Mode} (i : Nat) {N : Tmp} {oi : Oper} {v : Value} {fuel : Nat} {listed : Array Bool} {a a' : Act} {w : World} (hi : ops[i]? = some oi) (h : wpAnyIn F n P md ops Q fuel (listed.setIfInBounds i true) a' w)
 (hro : F.round = none := by rfl) (hs : Region.noSelect ops = true := by kernel_rfl) (hf : Region.free md ops listed i = true := by kernel_rfl) (hr : (Region.ready md ops listed).contains i = true := by kernel_rfl) (hQ : ∀ c a w, Q (.panic c) (a.put oi.dst v) w → Q (.panic c) a w := by exact fun _ _ _ h => h) (h1 : Region.wanted oi (yielded ops a.tmps) = true := by rfl) (h2 : ∀ w, oi.about P w a.eval = none := by exact fun _ => rfl) (hw : ∀ w, (execOp a.eval oi).run P w = .ok (.value v) w := by (intro w; go_simp; first | done | with_reducible rfl)) (hN : oi.dst = some N := by rfl) (ha : a.put (some N) v = a' := by (simp only [Act.put, sA1, sA2, sA3, sA4, sA5, sA6]; rfl)) : wpAnyIn F n P md ops Q (fuel + 1) listed a w := by
 subst ha
 rw [← hN] at h
 exact wpAnyIn_take hro hi hs hf hr hQ ⟨Or.inl ⟨h1, hw⟩, h2⟩ h
theorem tkU_ {F : Fence} {n : Nat} {P : Program} {ops : Array Oper} {Q : Exit → Act → World → Prop} {md : Region.Mode} (i : Nat) {N : Tmp} {oi : Oper} {fuel : Nat} {listed : Array Bool} {a a' : Act} {w : World} (hi : ops[i]? = some oi) (h : wpAnyIn F n P md ops Q fuel (listed.setIfInBounds i true) a' w)
 (hro : F.round = none := by rfl) (hs : Region.noSelect ops = true := by kernel_rfl) (hf : Region.free md ops listed i = true := by kernel_rfl) (hr : (Region.ready md ops listed).contains i = true := by kernel_rfl) (hQ : ∀ c a w, Q (.panic c) (a.put oi.dst undef) w → Q (.panic c) a w := by exact fun _ _ _ h => h) (hy : YieldsFenced P ops oi undef a := by exact ⟨Or.inr ⟨by rfl, rfl⟩, fun _ => rfl⟩) (hN : oi.dst = some N := by rfl) (ha : a.put (some N) undef = a' := by (simp only [Act.put, sA1, sA2, sA3, sA4, sA5, sA6]; rfl)) : wpAnyIn F n P md ops Q (fuel + 1) listed a w := by
 subst ha
 rw [← hN] at h
 exact wpAnyIn_take hro hi hs hf hr hQ hy h
theorem RoundIn.anyDepth {F : Fence} (hd : F.depth = none) {m m' : Nat} {P : Program} {l : Nat} {f : FuncId} {tmps : Array Value} {assign body : Code} {w : World} {R : Ending → World → Prop}
  (h : RoundIn F m P l f tmps assign body w R) : RoundIn F m' P l f tmps assign body w R := ⟨h.1, fun c cs _ => h.2 c cs (fun d h => by rw [hd] at h; cases h)⟩
theorem YieldAt.anyDepth {F : Fence} (hd : F.depth = none) {m : Nat} (m' : Nat) {P : Program} {l : Nat} {args : Array Value} {W : World} {R : Ending → World → Prop} (h : YieldAt F m P l args W R) : YieldAt F m' P l args W R := by
 obtain ⟨fn, tmps, assign, body, hy, hR⟩ := h
 exact ⟨fn, tmps, assign, body, hy, RoundIn.anyDepth hd hR⟩
theorem less_any (x y : ByteArray) (w : World) : Calls Try.prog 113 #[.string x, .string y] w fun e w' => e = .returned (.bool (lt x y)) ∧ w' = w := by
 by_cases h1 : lt x y = true
 ·rw [h1]
  go_enter Try.func113, Try.ntmps113
  go_wp2_with (go_at_call 116; refine (nan_any _ _).mono ?_; rintro e w1 ⟨rfl, rfl⟩)
  go_ret
  simp
 have h2 : lt x y = false := by cases h : lt x y <;> simp_all
 rw [h2]
 go_enter Try.func113, Try.ntmps113
 go_wp2_with (go_at_call 116; refine (nan_any _ _).mono ?_; rintro e w1 ⟨rfl, rfl⟩)
 go_ret
 simp
structure Kee (S : Nat → Prop) (W W' : World) : Prop where
 size : W.heap.size ≤ W'.heap.size
 block : ∀ k, S k → W'.heap[k]? = W.heap[k]?
namespace Kee
variable {S : Nat → Prop} {A B C : World}
theorem refl (S : Nat → Prop) (W : World) : Kee S W W := ⟨Nat.le_refl _, fun _ _ => rfl⟩
theorem trans (h : Kee S A B) (k : Kee S B C) : Kee S A C := ⟨Nat.le_trans h.size k.size, fun i hi => (k.block i hi).trans (h.block i hi)⟩
theorem cell (h : Kee S A B) {p : Addr} (hp : S p.block) : B.cell? p = A.cell? p := by unfold World.cell?; rw [h.block _ hp]
theorem drewN (h : Kee S A B) (n : Nat) : Kee S A (B.drewN n) := ⟨h.size, h.block⟩
theorem drew (h : Kee S A B) : Kee S A B.drew := ⟨h.size, h.block⟩
end Kee
theorem in_kee {S : Nat → Prop} {A B : World} (h : Kee S A B) : ∀ {T : Kn ByteArray ByteArray}, In A T → (∀ x ∈ T.bs, S x) → In B T
 | .nil, _, _ => trivial
 | .node b k v l r, hi, hn => ⟨(h.block b (hn b (by simp [Kn.bs]))).trans hi.1, in_kee h hi.2.1 (fun x hx => hn x (by simp [Kn.bs, hx])), in_kee h hi.2.2 (fun x hx => hn x (by simp [Kn.bs, hx]))⟩
def walkA : Kn ByteArray ByteArray → List (ByteArray × ByteArray)
 | .nil => []
 | .node b k v l r => walkA l ++ (k, v) :: walkA r
def walkB (s : ByteArray) : Kn ByteArray ByteArray → List (ByteArray × ByteArray)
 | .nil => []
 | .node b k v l r => if lt k s = true then walkB s r else walkB s l ++ (k, v) :: walkA r
theorem calls_wide {n : Nat} {f : FuncId} {args : Array Value} {w : World} {R : Ending → World → Prop} (h : Calls Try.prog f args w R) : CallsIn Fence.wide n Try.prog f args w R := callsIn_wide.2 h
theorem cut2 {G C : Prop} (h : G → C) (g : G) : C := h g
theorem walk_none (l N : Nat) (S : Nat → Prop) (J Jx : List (ByteArray × ByteArray) → World → Prop) (hJd : ∀ pre W n, J pre W → J pre (W.drewN n))
  (hY : ∀ m pre x W, J pre W → pre.length < N → YieldAt Fence.wide m Try.prog l #[.string x.1, .string x.2] W fun e W' =>
   (e = .returned (.bool true) ∧ J (pre ++ [x]) W' ∧ Kee S W W') ∨ (e = .returned (.bool false) ∧ Jx (pre ++ [x]) W')) (T : Kn ByteArray ByteArray) :
  ∀ (n : Nat) (pre : List (ByteArray × ByteArray)) (W : World), In W T → (∀ x ∈ T.bs, S x) → J pre W → pre.length + (walkA T).length ≤ N →
   CallsIn Fence.wide n Try.prog 100 #[.pointer T.adr, .pointer none, .func (.yield l) #[] #[]] W fun e W' =>
    (e = .returned (.bool true) ∧ J (pre ++ walkA T) W' ∧ Kee S W W') ∨ (e = .returned (.bool false) ∧ ∃ q, q <+: walkA T ∧ Jx (pre ++ q) W') := by
 induction T with
 | nil =>
  intro n pre W _ _ hJ _
  show CallsIn Fence.wide n Try.prog 100 #[.pointer none, .pointer none, .func (.yield l) #[] #[]] W _
  refine callsIn_of_wp Try.func100 rfl trivial ?_ rfl
  simp only [Try.ntmps100, List.size_toArray, List.length_cons, List.length_nil, Nat.reduceAdd, Nat.reduceSub, Array.replicate_succ, Array.replicate_zero, List.push_toArray, List.append_toArray, List.nil_append, List.cons_append]
  gi_wp2
  go_ret
  exact .inl ⟨rfl, by simpa [walkA] using hJ, Kee.refl _ _⟩
 | node b k v tl tr ihl ihr =>
  intro n pre W hin hlt hJ hN
  have hdd : ∀ k : Nat, (Fence.wide.depth.isSome = true → 1 ≤ k) := fun k h => by cases h
  have hb : S b := hlt b (by simp [Kn.bs])
  have hltl : ∀ x ∈ tl.bs, S x := fun x hx => hlt x (by simp [Kn.bs, hx])
  have hltr : ∀ x ∈ tr.bs, S x := fun x hx => hlt x (by simp [Kn.bs, hx])
  obtain ⟨c10, c11, c12, c13, _, _, _⟩ := (Top.of_in hin).cells
  simp only [walkA] at hN ⊢
  show CallsIn Fence.wide n Try.prog 100 #[.pointer (some ⟨b, 0, none⟩), .pointer none, .func (.yield l) #[] #[]] W _
  refine callsIn_of_wp Try.func100 rfl trivial ?_ rfl
  simp only [Try.ntmps100, List.size_toArray, List.length_cons, List.length_nil, Nat.reduceAdd, Nat.reduceSub, Array.replicate_succ, Array.replicate_zero, List.push_toArray, List.append_toArray, List.nil_append, List.cons_append]
  gi_wp2
  refine wpIn_region_quiet_lit rfl (by kernel_rfl) (by kernel_rfl) ?_
  repeat (refine wpQuietIn_step (fun _ _ _ _ => trivial) (fun K hK => ?_); go_simp; first | (refine hK _ ?_; clear hK K) | (refine ⟨_, fun _ => rfl, hK _ ?_⟩; clear hK K))
  refine wpQuietIn_nil ?_
  intro _ hw'
  obtain ⟨nq, hw''⟩ := hw'
  subst hw''
  obtain ⟨W0, hW⟩ : ∃ W0, W0 = W.drewN nq := ⟨_, rfl⟩
  rw [← hW]
  have hin : In W0 (.node b k v tl tr) := by rw [hW]; exact in_drewN _ hin
  have bl : Kee S W W0 := by rw [hW]; exact (Kee.refl _ _).drewN _
  have hJ : J pre W0 := by rw [hW]; exact hJd _ _ _ hJ
  clear hW c10 c11 c12 c13
  obtain ⟨c10, c11, c12, c13, _, _, _⟩ := (Top.of_in hin).cells
  simp only [List.length_append, List.length_cons] at hN
  have hy2 : ∀ W1, J (pre ++ walkA tl) W1 → Kee S W0 W1 → YieldAt Fence.wide (n - 1) Try.prog l #[.string k, .string v] W1 fun e W2 =>
    (e = .returned (.bool true) ∧ J (pre ++ walkA tl ++ [(k, v)]) W2 ∧ Kee S W0 W2 ∧ W2.cell? ⟨b, 3, none⟩ = some (.pointer tr.adr) ∧ In W2 tr) ∨ (e = .returned (.bool false) ∧ Jx (pre ++ walkA tl ++ [(k, v)]) W2) := fun W1 hJ1 hb1 =>
   YieldAt.mono (hY (n - 1) _ (k, v) W1 hJ1 (by simp; omega)) fun e W2 h => h.elim
    (fun ⟨he, hj, hb2⟩ => .inl ⟨he, hj, hb1.trans hb2, ((hb1.trans hb2).cell (p := ⟨b, 3, none⟩) hb).trans c13, in_kee (hb1.trans hb2) hin.2.2 hltr⟩) .inr
  have ih1 := (ihl (n - 1) pre W0.drew (in_drewN 1 hin.2.1) hltl (hJd _ _ 1 hJ) (by omega)).mono (R' := fun e W1 =>
    (e = .returned (.bool true) ∧ W1.cell? ⟨b, 0, none⟩ = some (.string k) ∧ W1.cell? ⟨b, 1, none⟩ = some (.string v) ∧ YieldAt Fence.wide (n - 1) Try.prog l #[.string k, .string v] W1 fun e W2 =>
     (e = .returned (.bool true) ∧ J (pre ++ walkA tl ++ [(k, v)]) W2 ∧ Kee S W0 W2 ∧ W2.cell? ⟨b, 3, none⟩ = some (.pointer tr.adr) ∧ In W2 tr) ∨ (e = .returned (.bool false) ∧ Jx (pre ++ walkA tl ++ [(k, v)]) W2)) ∨
    (e = .returned (.bool false) ∧ ∃ q, q <+: walkA tl ∧ Jx (pre ++ q) W1))
   (fun e W1 h => h.elim (fun ⟨he, hj, hb0⟩ => have hb1 := (Kee.refl S W0).drew.trans hb0; .inl ⟨he, (hb1.cell (p := ⟨b, 0, none⟩) hb).trans c10, (hb1.cell (p := ⟨b, 1, none⟩) hb).trans c11, hy2 W1 hj hb1⟩) .inr)
  clear hy2 ihl
  gi_wp2
  refine wpIn_region_any (by kernel_rfl) ?_
  change wpAnyIn _ _ _ _ _ _ _ _ _ (World.drew _)
  refine tkJ_ 0 rfl ?_
  refine tkJ_ 1 rfl ?_
  refine tkJ_ 2 rfl ?_
  refine tkJ_ 4 rfl ?_
  refine tkJ_ 5 rfl ?_
  refine wpAnyIn_ready (rs := [3]) (by kernel_rfl) (by simp) ?_
  refine AllReadyIn.cons rfl (fun K hK => ?_) ?_
  ·go_simp
   refine hK _ _ ?_
   clear hK K
   refine wpAnyIn_ready (rs := [6]) (by kernel_rfl) (by simp) ?_
   refine AllReadyIn.cons rfl (fun K hK => ?_) ?_
   ·go_simp
    refine ⟨trivial, hdd _, ih1.mono ?_⟩
    clear ih1
    rintro e W1 (⟨rfl, c10', c11', fn, tmps, assign, body, hy, hR⟩ | ⟨rfl, q, hq, hx1⟩)
    ·refine hK _ _ ?_
     clear hK K
     refine tkJ_ 7 rfl ?_
     refine tkJ_ 8 rfl ?_
     refine tkJ_ 9 rfl ?_
     refine tkJ_ 10 rfl ?_
     refine tkJ_ 11 rfl ?_
     refine tkJ_ 13 rfl ?_
     refine tkJ_ 14 rfl ?_
     refine tkJ_ 15 rfl ?_
     apply cut2
     ·intro hcont
      refine wpAnyIn_ready (rs := [12, 16]) (by kernel_rfl) (by simp) ?_
      refine AllReadyIn.cons rfl (fun K hK => ?_) ?_
      ·go_simp
       refine hK _ _ ?_
       clear hK K
       refine wpAnyIn_ready (rs := [16]) (by kernel_rfl) (by simp) ?_
       refine AllReadyIn.cons rfl (fun K hK => ?_) ?_
       ·go_simp
        refine hK _ _ ?_
        clear hK K
        exact hcont
       exact AllReadyIn.nil
      refine AllReadyIn.cons rfl (fun K hK => ?_) ?_
      ·go_simp
       refine hK _ _ ?_
       clear hK K
       refine wpAnyIn_ready (rs := [12]) (by kernel_rfl) (by simp) ?_
       refine AllReadyIn.cons rfl (fun K hK => ?_) ?_
       ·go_simp
        refine hK _ _ ?_
        clear hK K
        exact hcont
       exact AllReadyIn.nil
      exact AllReadyIn.nil
     refine wpAnyIn_ready (rs := [17]) (by kernel_rfl) (by simp) ?_
     refine AllReadyIn.cons rfl (fun K hK => ?_) ?_
     ·go_simp
      refine ⟨hdd _, hR.mono ?_⟩
      clear hR
      rintro e W2 (⟨rfl, hJ2, hb2, c13', hr2⟩ | ⟨rfl, hx2⟩)
      ·refine hK _ _ ?_
       clear hK K
       refine tkJ_ 18 rfl ?_
       refine tkJ_ 19 rfl ?_
       refine tkJ_ 20 rfl ?_
       refine tkJ_ 21 rfl ?_
       refine tkJ_ 22 rfl ?_
       refine tkJ_ 24 rfl ?_
       refine wpAnyIn_ready (rs := [23]) (by kernel_rfl) (by simp) ?_
       refine AllReadyIn.cons rfl (fun K hK => ?_) ?_
       ·go_simp
        refine hK _ _ ?_
        clear hK K
        refine wpAnyIn_ready (rs := [25]) (by kernel_rfl) (by simp) ?_
        refine AllReadyIn.cons rfl (fun K hK => ?_) ?_
        ·go_simp
         refine ⟨trivial, hdd _, (ihr (n - 1) _ _ hr2 hltr hJ2 (by simp; omega)).mono ?_⟩
         rintro e W3 (⟨rfl, hJ3, hb3⟩ | ⟨rfl, q, hq, hx3⟩)
         ·refine hK _ _ ?_
          clear hK K
          refine tkJ_ 26 rfl ?_
          refine tkJ_ 27 rfl ?_
          refine wpAnyIn_done (by kernel_rfl) ?_ _
          gi_wp2
          go_ret
          exact .inl ⟨rfl, by simpa [List.append_assoc] using hJ3, bl.trans (hb2.trans hb3)⟩
         refine hK _ _ ?_
         clear hK K
         refine tkJ_ 26 rfl ?_
         refine tkJ_ 27 rfl ?_
         refine wpAnyIn_done (by kernel_rfl) ?_ _
         gi_wp2
         go_ret
         obtain ⟨r, hr'⟩ := hq
         exact .inr ⟨rfl, walkA tl ++ (k, v) :: q, ⟨r, by rw [← hr']; simp⟩, by simpa [List.append_assoc] using hx3⟩
        exact AllReadyIn.nil
       exact AllReadyIn.nil
      refine hK _ _ ?_
      clear hK K
      refine tkJ_ 18 rfl ?_
      refine tkJ_ 19 rfl ?_
      refine tkU_ 20 rfl ?_
      refine tkU_ 21 rfl ?_
      refine tkU_ 22 rfl ?_
      refine tkU_ 23 rfl ?_
      refine tkU_ 24 rfl ?_
      refine wpAnyIn_ready (rs := [25]) (by kernel_rfl) (by simp) ?_
      refine AllReadyIn.cons rfl (fun K hK => ?_) ?_
      ·go_simp
       refine ⟨trivial, ?_⟩
       refine hK _ _ ?_
       clear hK K
       refine tkJ_ 26 rfl ?_
       refine tkJ_ 27 rfl ?_
       refine wpAnyIn_done (by kernel_rfl) ?_ _
       gi_wp2
       go_ret
       exact .inr ⟨rfl, walkA tl ++ [(k, v)], ⟨walkA tr, by simp⟩, by simpa [List.append_assoc] using hx2⟩
      exact AllReadyIn.nil
     exact AllReadyIn.nil
    refine hK _ _ ?_
    clear hK K
    refine tkJ_ 7 rfl ?_
    refine tkU_ 8 rfl ?_
    refine tkU_ 9 rfl ?_
    refine tkU_ 10 rfl ?_
    refine tkU_ 11 rfl ?_
    refine tkU_ 12 rfl ?_
    refine tkU_ 13 rfl ?_
    refine tkU_ 14 rfl ?_
    refine tkU_ 15 rfl ?_
    refine tkU_ 16 rfl ?_
    refine wpAnyIn_ready (rs := [17]) (by kernel_rfl) (by simp) ?_
    refine AllReadyIn.cons rfl (fun K hK => ?_) ?_
    ·go_simp
     refine ⟨fun _ _ => trivial, ?_⟩
     refine hK _ _ ?_
     clear hK K
     refine tkJ_ 18 rfl ?_
     refine tkJ_ 19 rfl ?_
     refine tkU_ 20 rfl ?_
     refine tkU_ 21 rfl ?_
     refine tkU_ 22 rfl ?_
     refine tkU_ 23 rfl ?_
     refine tkU_ 24 rfl ?_
     refine wpAnyIn_ready (rs := [25]) (by kernel_rfl) (by simp) ?_
     refine AllReadyIn.cons rfl (fun K hK => ?_) ?_
     ·go_simp
      refine ⟨trivial, ?_⟩
      refine hK _ _ ?_
      clear hK K
      refine tkJ_ 26 rfl ?_
      refine tkJ_ 27 rfl ?_
      refine wpAnyIn_done (by kernel_rfl) ?_ _
      gi_wp2
      go_ret
      exact .inr ⟨rfl, q, hq.trans (List.prefix_append _ _), hx1⟩
     exact AllReadyIn.nil
    exact AllReadyIn.nil
   exact AllReadyIn.nil
  exact AllReadyIn.nil
theorem walk_some (l N : Nat) (S : Nat → Prop) (J Jx : List (ByteArray × ByteArray) → World → Prop) (hJd : ∀ pre W n, J pre W → J pre (W.drewN n))
  (hY : ∀ m pre x W, J pre W → pre.length < N → YieldAt Fence.wide m Try.prog l #[.string x.1, .string x.2] W fun e W' =>
   (e = .returned (.bool true) ∧ J (pre ++ [x]) W' ∧ Kee S W W') ∨ (e = .returned (.bool false) ∧ Jx (pre ++ [x]) W')) (a : Addr) (s : ByteArray) (ha : S a.block) (T : Kn ByteArray ByteArray) :
  ∀ (n : Nat) (pre : List (ByteArray × ByteArray)) (W : World), In W T → (∀ x ∈ T.bs, S x) → W.cell? a = some (.string s) → J pre W → pre.length + (walkB s T).length ≤ N →
   CallsIn Fence.wide n Try.prog 100 #[.pointer T.adr, .pointer (some a), .func (.yield l) #[] #[]] W fun e W' =>
    (e = .returned (.bool true) ∧ J (pre ++ walkB s T) W' ∧ Kee S W W') ∨ (e = .returned (.bool false) ∧ ∃ q, q <+: walkB s T ∧ Jx (pre ++ q) W') := by
 induction T with
 | nil =>
  intro n pre W _ _ _ hJ _
  show CallsIn Fence.wide n Try.prog 100 #[.pointer none, .pointer (some a), .func (.yield l) #[] #[]] W _
  refine callsIn_of_wp Try.func100 rfl trivial ?_ rfl
  simp only [Try.ntmps100, List.size_toArray, List.length_cons, List.length_nil, Nat.reduceAdd, Nat.reduceSub, Array.replicate_succ, Array.replicate_zero, List.push_toArray, List.append_toArray, List.nil_append, List.cons_append]
  gi_wp2
  go_ret
  exact .inl ⟨rfl, by simpa [walkB] using hJ, Kee.refl _ _⟩
 | node b k v tl tr ihl ihb =>
  intro n pre W hin hlt cs hJ hN
  have hdd : ∀ k : Nat, (Fence.wide.depth.isSome = true → 1 ≤ k) := fun k h => by cases h
  have hb : S b := hlt b (by simp [Kn.bs])
  have hltl : ∀ x ∈ tl.bs, S x := fun x hx => hlt x (by simp [Kn.bs, hx])
  have hltr : ∀ x ∈ tr.bs, S x := fun x hx => hlt x (by simp [Kn.bs, hx])
  obtain ⟨c10, c11, c12, c13, _, _, _⟩ := (Top.of_in hin).cells
  have ihr := walk_none l N S J Jx hJd hY tr
  by_cases hs : lt k s = true
  ·simp only [walkB, if_pos hs] at hN ⊢
   show CallsIn Fence.wide n Try.prog 100 #[.pointer (some ⟨b, 0, none⟩), .pointer (some a), .func (.yield l) #[] #[]] W _
   refine callsIn_of_wp Try.func100 rfl trivial ?_ rfl
   simp only [Try.ntmps100, List.size_toArray, List.length_cons, List.length_nil, Nat.reduceAdd, Nat.reduceSub, Array.replicate_succ, Array.replicate_zero, List.push_toArray, List.append_toArray, List.nil_append, List.cons_append]
   gi_wp2
   refine wpIn_region_any (by kernel_rfl) ?_
   change wpAnyIn _ _ _ _ _ _ _ _ _ (World.drew _)
   obtain ⟨W0, hW⟩ : ∃ W0, W0 = W.drewN 1 := ⟨_, rfl⟩
   have nq := 1
   change wpAnyIn _ _ _ _ _ _ _ _ _ (W.drewN 1)
   rw [← hW]
   have hin : In W0 (.node b k v tl tr) := by rw [hW]; exact in_drewN _ hin
   have bl : Kee S W W0 := by rw [hW]; exact (Kee.refl _ _).drewN _
   have hJ : J pre W0 := by rw [hW]; exact hJd _ _ _ hJ
   have cs := (bl.cell ha).trans cs
   clear hW c10 c11 c12 c13
   obtain ⟨c10, c11, c12, c13, _, _, _⟩ := (Top.of_in hin).cells
   refine tkJ_ 0 rfl ?_
   refine tkJ_ 1 rfl ?_
   refine tkJ_ 2 rfl ?_
   refine tkJ_ 3 rfl ?_
   refine tkJ_ 4 rfl ?_
   refine tkJ_ 5 rfl ?_
   refine tkJ_ 7 rfl ?_
   refine tkJ_ 8 rfl ?_
   apply cut2
   ·intro hcont
    refine wpAnyIn_ready (rs := [6, 9]) (by kernel_rfl) (by simp) ?_
    refine AllReadyIn.cons rfl (fun K hK => ?_) ?_
    ·go_simp
     refine hK _ _ ?_
     clear hK K
     refine wpAnyIn_ready (rs := [9]) (by kernel_rfl) (by simp) ?_
     refine AllReadyIn.cons rfl (fun K hK => ?_) ?_
     ·go_simp
      refine hK _ _ ?_
      clear hK K
      exact hcont
     exact AllReadyIn.nil
    refine AllReadyIn.cons rfl (fun K hK => ?_) ?_
    ·go_simp
     refine hK _ _ ?_
     clear hK K
     refine wpAnyIn_ready (rs := [6]) (by kernel_rfl) (by simp) ?_
     refine AllReadyIn.cons rfl (fun K hK => ?_) ?_
     ·go_simp
      refine hK _ _ ?_
      clear hK K
      exact hcont
     exact AllReadyIn.nil
    exact AllReadyIn.nil
   refine wpAnyIn_ready (rs := [10]) (by kernel_rfl) (by simp) ?_
   refine AllReadyIn.cons rfl (fun K hK => ?_) ?_
   ·go_simp
    refine ⟨trivial, hdd _, (calls_wide (less_any k s W0)).mono ?_⟩
    rintro e W1 ⟨rfl, hw⟩
    obtain rfl := hw.symm
    rw [hs]
    refine hK _ _ ?_
    clear hK K
    refine tkJ_ 11 rfl ?_
    refine wpAnyIn_done (by kernel_rfl) ?_ _
    gi_wp2_with (refine ⟨trivial, hdd _, (ihb (n - 1) pre _ (by first | exact hin.2.2 | exact in_drewN 1 hin.2.2) hltr (by first | exact cs | (rw [World.cell?_drew]; exact cs)) (by first | exact hJ | exact hJd _ _ 1 hJ) (by omega)).mono ?_⟩; rintro e W2 (⟨rfl, hJ2, hb2⟩ | ⟨rfl, hx2⟩))
    ·go_ret
     exact .inl ⟨rfl, hJ2, bl.trans hb2⟩
    go_ret
    exact .inr ⟨rfl, hx2⟩
   exact AllReadyIn.nil
  simp only [walkB, if_neg hs] at hN ⊢
  show CallsIn Fence.wide n Try.prog 100 #[.pointer (some ⟨b, 0, none⟩), .pointer (some a), .func (.yield l) #[] #[]] W _
  refine callsIn_of_wp Try.func100 rfl trivial ?_ rfl
  simp only [Try.ntmps100, List.size_toArray, List.length_cons, List.length_nil, Nat.reduceAdd, Nat.reduceSub, Array.replicate_succ, Array.replicate_zero, List.push_toArray, List.append_toArray, List.nil_append, List.cons_append]
  gi_wp2
  refine wpIn_region_any (by kernel_rfl) ?_
  change wpAnyIn _ _ _ _ _ _ _ _ _ (World.drew _)
  obtain ⟨W0, hW⟩ : ∃ W0, W0 = W.drewN 1 := ⟨_, rfl⟩
  have nq := 1
  change wpAnyIn _ _ _ _ _ _ _ _ _ (W.drewN 1)
  rw [← hW]
  have hin : In W0 (.node b k v tl tr) := by rw [hW]; exact in_drewN _ hin
  have bl : Kee S W W0 := by rw [hW]; exact (Kee.refl _ _).drewN _
  have hJ : J pre W0 := by rw [hW]; exact hJd _ _ _ hJ
  have cs := (bl.cell ha).trans cs
  clear hW c10 c11 c12 c13
  obtain ⟨c10, c11, c12, c13, _, _, _⟩ := (Top.of_in hin).cells
  refine tkJ_ 0 rfl ?_
  refine tkJ_ 1 rfl ?_
  refine tkJ_ 2 rfl ?_
  refine tkJ_ 3 rfl ?_
  refine tkJ_ 4 rfl ?_
  refine tkJ_ 5 rfl ?_
  refine tkJ_ 7 rfl ?_
  refine tkJ_ 8 rfl ?_
  apply cut2
  ·intro hcont
   refine wpAnyIn_ready (rs := [6, 9]) (by kernel_rfl) (by simp) ?_
   refine AllReadyIn.cons rfl (fun K hK => ?_) ?_
   ·go_simp
    refine hK _ _ ?_
    clear hK K
    refine wpAnyIn_ready (rs := [9]) (by kernel_rfl) (by simp) ?_
    refine AllReadyIn.cons rfl (fun K hK => ?_) ?_
    ·go_simp
     refine hK _ _ ?_
     clear hK K
     exact hcont
    exact AllReadyIn.nil
   refine AllReadyIn.cons rfl (fun K hK => ?_) ?_
   ·go_simp
    refine hK _ _ ?_
    clear hK K
    refine wpAnyIn_ready (rs := [6]) (by kernel_rfl) (by simp) ?_
    refine AllReadyIn.cons rfl (fun K hK => ?_) ?_
    ·go_simp
     refine hK _ _ ?_
     clear hK K
     exact hcont
    exact AllReadyIn.nil
   exact AllReadyIn.nil
  refine wpAnyIn_ready (rs := [10]) (by kernel_rfl) (by simp) ?_
  refine AllReadyIn.cons rfl (fun K hK => ?_) ?_
  ·go_simp
   refine ⟨trivial, hdd _, (calls_wide (less_any k s W0)).mono ?_⟩
   rintro e W1 ⟨rfl, hw⟩
   obtain rfl := hw.symm
   rw [(by simpa using hs : lt k s = false)]
   refine hK _ _ ?_
   clear hK K
   refine tkJ_ 11 rfl ?_
   refine wpAnyIn_done (by kernel_rfl) ?_ _
   simp only [List.length_append, List.length_cons] at hN
   have hy2 : ∀ W1, J (pre ++ walkB s tl) W1 → Kee S W0 W1 → YieldAt Fence.wide (n - 1) Try.prog l #[.string k, .string v] W1 fun e W2 =>
     (e = .returned (.bool true) ∧ J (pre ++ walkB s tl ++ [(k, v)]) W2 ∧ Kee S W0 W2 ∧ W2.cell? ⟨b, 3, none⟩ = some (.pointer tr.adr) ∧ In W2 tr) ∨ (e = .returned (.bool false) ∧ Jx (pre ++ walkB s tl ++ [(k, v)]) W2) := fun W1 hJ1 hb1 =>
    YieldAt.mono (hY (n - 1) _ (k, v) W1 hJ1 (by simp; omega)) fun e W2 h => h.elim
     (fun ⟨he, hj, hb2⟩ => .inl ⟨he, hj, hb1.trans hb2, ((hb1.trans hb2).cell (p := ⟨b, 3, none⟩) hb).trans c13, in_kee (hb1.trans hb2) hin.2.2 hltr⟩) .inr
   have ih1 := (ihl (n - 1) pre W0.drew (in_drewN 1 hin.2.1) hltl (((Kee.refl S W0).drew.cell ha).trans cs) (hJd _ _ 1 hJ) (by omega)).mono (R' := fun e W1 =>
     (e = .returned (.bool true) ∧ W1.cell? ⟨b, 0, none⟩ = some (.string k) ∧ W1.cell? ⟨b, 1, none⟩ = some (.string v) ∧ YieldAt Fence.wide (n - 1) Try.prog l #[.string k, .string v] W1 fun e W2 =>
      (e = .returned (.bool true) ∧ J (pre ++ walkB s tl ++ [(k, v)]) W2 ∧ Kee S W0 W2 ∧ W2.cell? ⟨b, 3, none⟩ = some (.pointer tr.adr) ∧ In W2 tr) ∨ (e = .returned (.bool false) ∧ Jx (pre ++ walkB s tl ++ [(k, v)]) W2)) ∨
     (e = .returned (.bool false) ∧ ∃ q, q <+: walkB s tl ∧ Jx (pre ++ q) W1))
    (fun e W1 h => h.elim (fun ⟨he, hj, hb0⟩ => have hb1 := (Kee.refl S W0).drew.trans hb0; .inl ⟨he, (hb1.cell (p := ⟨b, 0, none⟩) hb).trans c10, (hb1.cell (p := ⟨b, 1, none⟩) hb).trans c11, hy2 W1 hj hb1⟩) .inr)
   clear hy2 ihl
   gi_wp2
   refine wpIn_region_any (by kernel_rfl) ?_
   change wpAnyIn _ _ _ _ _ _ _ _ _ (World.drew _)
   refine tkJ_ 0 rfl ?_
   refine tkJ_ 1 rfl ?_
   refine tkJ_ 2 rfl ?_
   refine tkJ_ 4 rfl ?_
   refine tkJ_ 5 rfl ?_
   refine wpAnyIn_ready (rs := [3]) (by kernel_rfl) (by simp) ?_
   refine AllReadyIn.cons rfl (fun K hK => ?_) ?_
   ·go_simp
    refine hK _ _ ?_
    clear hK K
    refine wpAnyIn_ready (rs := [6]) (by kernel_rfl) (by simp) ?_
    refine AllReadyIn.cons rfl (fun K hK => ?_) ?_
    ·go_simp
     refine ⟨trivial, hdd _, ih1.mono ?_⟩
     clear ih1
     rintro e W1 (⟨rfl, c10', c11', fn, tmps, assign, body, hy, hR⟩ | ⟨rfl, q, hq, hx1⟩)
     ·refine hK _ _ ?_
      clear hK K
      refine tkJ_ 7 rfl ?_
      refine tkJ_ 8 rfl ?_
      refine tkJ_ 9 rfl ?_
      refine tkJ_ 10 rfl ?_
      refine tkJ_ 11 rfl ?_
      refine tkJ_ 13 rfl ?_
      refine tkJ_ 14 rfl ?_
      refine tkJ_ 15 rfl ?_
      apply cut2
      ·intro hcont
       refine wpAnyIn_ready (rs := [12, 16]) (by kernel_rfl) (by simp) ?_
       refine AllReadyIn.cons rfl (fun K hK => ?_) ?_
       ·go_simp
        refine hK _ _ ?_
        clear hK K
        refine wpAnyIn_ready (rs := [16]) (by kernel_rfl) (by simp) ?_
        refine AllReadyIn.cons rfl (fun K hK => ?_) ?_
        ·go_simp
         refine hK _ _ ?_
         clear hK K
         exact hcont
        exact AllReadyIn.nil
       refine AllReadyIn.cons rfl (fun K hK => ?_) ?_
       ·go_simp
        refine hK _ _ ?_
        clear hK K
        refine wpAnyIn_ready (rs := [12]) (by kernel_rfl) (by simp) ?_
        refine AllReadyIn.cons rfl (fun K hK => ?_) ?_
        ·go_simp
         refine hK _ _ ?_
         clear hK K
         exact hcont
        exact AllReadyIn.nil
       exact AllReadyIn.nil
      refine wpAnyIn_ready (rs := [17]) (by kernel_rfl) (by simp) ?_
      refine AllReadyIn.cons rfl (fun K hK => ?_) ?_
      ·go_simp
       refine ⟨hdd _, hR.mono ?_⟩
       clear hR
       rintro e W2 (⟨rfl, hJ2, hb2, c13', hr2⟩ | ⟨rfl, hx2⟩)
       ·refine hK _ _ ?_
        clear hK K
        refine tkJ_ 18 rfl ?_
        refine tkJ_ 19 rfl ?_
        refine tkJ_ 20 rfl ?_
        refine tkJ_ 21 rfl ?_
        refine tkJ_ 22 rfl ?_
        refine tkJ_ 24 rfl ?_
        refine wpAnyIn_ready (rs := [23]) (by kernel_rfl) (by simp) ?_
        refine AllReadyIn.cons rfl (fun K hK => ?_) ?_
        ·go_simp
         refine hK _ _ ?_
         clear hK K
         refine wpAnyIn_ready (rs := [25]) (by kernel_rfl) (by simp) ?_
         refine AllReadyIn.cons rfl (fun K hK => ?_) ?_
         ·go_simp
          refine ⟨trivial, hdd _, (ihr (n - 1) _ _ hr2 hltr hJ2 (by simp; omega)).mono ?_⟩
          rintro e W3 (⟨rfl, hJ3, hb3⟩ | ⟨rfl, q, hq, hx3⟩)
          ·refine hK _ _ ?_
           clear hK K
           refine tkJ_ 26 rfl ?_
           refine tkJ_ 27 rfl ?_
           refine wpAnyIn_done (by kernel_rfl) ?_ _
           gi_wp2
           go_ret
           exact .inl ⟨rfl, by simpa [List.append_assoc] using hJ3, bl.trans (hb2.trans hb3)⟩
          refine hK _ _ ?_
          clear hK K
          refine tkJ_ 26 rfl ?_
          refine tkJ_ 27 rfl ?_
          refine wpAnyIn_done (by kernel_rfl) ?_ _
          gi_wp2
          go_ret
          obtain ⟨r, hr'⟩ := hq
          exact .inr ⟨rfl, walkB s tl ++ (k, v) :: q, ⟨r, by rw [← hr']; simp⟩, by simpa [List.append_assoc] using hx3⟩
         exact AllReadyIn.nil
        exact AllReadyIn.nil
       refine hK _ _ ?_
       clear hK K
       refine tkJ_ 18 rfl ?_
       refine tkJ_ 19 rfl ?_
       refine tkU_ 20 rfl ?_
       refine tkU_ 21 rfl ?_
       refine tkU_ 22 rfl ?_
       refine tkU_ 23 rfl ?_
       refine tkU_ 24 rfl ?_
       refine wpAnyIn_ready (rs := [25]) (by kernel_rfl) (by simp) ?_
       refine AllReadyIn.cons rfl (fun K hK => ?_) ?_
       ·go_simp
        refine ⟨trivial, ?_⟩
        refine hK _ _ ?_
        clear hK K
        refine tkJ_ 26 rfl ?_
        refine tkJ_ 27 rfl ?_
        refine wpAnyIn_done (by kernel_rfl) ?_ _
        gi_wp2
        go_ret
        exact .inr ⟨rfl, walkB s tl ++ [(k, v)], ⟨walkA tr, by simp⟩, by simpa [List.append_assoc] using hx2⟩
       exact AllReadyIn.nil
      exact AllReadyIn.nil
     refine hK _ _ ?_
     clear hK K
     refine tkJ_ 7 rfl ?_
     refine tkU_ 8 rfl ?_
     refine tkU_ 9 rfl ?_
     refine tkU_ 10 rfl ?_
     refine tkU_ 11 rfl ?_
     refine tkU_ 12 rfl ?_
     refine tkU_ 13 rfl ?_
     refine tkU_ 14 rfl ?_
     refine tkU_ 15 rfl ?_
     refine tkU_ 16 rfl ?_
     refine wpAnyIn_ready (rs := [17]) (by kernel_rfl) (by simp) ?_
     refine AllReadyIn.cons rfl (fun K hK => ?_) ?_
     ·go_simp
      refine ⟨fun _ _ => trivial, ?_⟩
      refine hK _ _ ?_
      clear hK K
      refine tkJ_ 18 rfl ?_
      refine tkJ_ 19 rfl ?_
      refine tkU_ 20 rfl ?_
      refine tkU_ 21 rfl ?_
      refine tkU_ 22 rfl ?_
      refine tkU_ 23 rfl ?_
      refine tkU_ 24 rfl ?_
      refine wpAnyIn_ready (rs := [25]) (by kernel_rfl) (by simp) ?_
      refine AllReadyIn.cons rfl (fun K hK => ?_) ?_
      ·go_simp
       refine ⟨trivial, ?_⟩
       refine hK _ _ ?_
       clear hK K
       refine tkJ_ 26 rfl ?_
       refine tkJ_ 27 rfl ?_
       refine wpAnyIn_done (by kernel_rfl) ?_ _
       gi_wp2
       go_ret
       exact .inr ⟨rfl, q, hq.trans (List.prefix_append _ _), hx1⟩
      exact AllReadyIn.nil
     exact AllReadyIn.nil
    exact AllReadyIn.nil
   exact AllReadyIn.nil
  exact AllReadyIn.nil
end Go.Proofs.Ytljnlnbopohghaa.OrdSm
end
section
namespace Go.Proofs.Ytljnlnbopohghaa.OrdSm
open Go.RowKit Go.Shelf Go.Proofs.YtljnlnbopohghaaW.PrintWords Go.Proofs.YtljnlnbopohghaaW.PrintLast Go.Proofs.YtljnlnbopohghaaW.PrintMore Go.Proofs.Ytljnlnbopohghaa.Own Go.Proofs.Ytljnlnbopohghaa.Ord
attribute [local go_sem] Oper.semAt_some
set_option maxHeartbeats 2000000
set_option maxRecDepth 100000
def MpI (S : Nat → Prop) (W : World) : Option Addr → Kn ByteArray ByteArray → Prop
 | none, T => T = .nil
 | some a, T => S a.block ∧ W.cell? a = some (.pointer T.adr) ∧ In W T ∧ ∀ x ∈ T.bs, S x
theorem MpI.kee {S : Nat → Prop} {A B : World} (h : Kee S A B) : ∀ {p : Option Addr} {T : Kn ByteArray ByteArray}, MpI S A p T → MpI S B p T
 | none, _, hm => hm
 | some a, _, ⟨h1, h2, h3, h4⟩ => ⟨h1, (h.cell h1).trans h2, in_kee h h3 h4, h4⟩
theorem MpI.wide {S S' : Nat → Prop} {w : World} (hS : ∀ k, S k → S' k) : ∀ {p : Option Addr} {T : Kn ByteArray ByteArray}, MpI S w p T → MpI S' w p T
 | none, _, h => h
 | some _, _, ⟨h1, h2, h3, h4⟩ => ⟨hS _ h1, h2, h3, fun x hx => hS _ (h4 x hx)⟩
theorem cell_two_new (w : World) (x y : Value) (t : TypeId) : ∀ j u, [x, y][j]? = some u → (w.alloc (.cells #[x, y] t)).cell? ((⟨w.heap.size, 0, none⟩ : Addr).add j) = some u := by
 intro j u hj
 match j, hj with
 | 0, hj => simp at hj; subst hj; simp [Addr.add]
 | 1, hj => simp at hj; subst hj; simp [Addr.add]
 | _ + 2, hj => simp at hj
theorem from1_in (n : Nat) (l Bb Bk : Nat) (S : Nat → Prop) (p : Option Addr) (s : ByteArray) (T : Kn ByteArray ByteArray) (J Jx : List (ByteArray × ByteArray) → World → Prop) (hJd : ∀ pre W n, J pre W → J pre (W.drewN n))
  (hY : ∀ pre x W, J pre W → pre.length < (walkB s T).length → YieldAt Fence.wide (n - 1) Try.prog l #[.string x.1, .string x.2] W fun e W' =>
   (e = .returned (.bool true) ∧ J (pre ++ [x]) W' ∧ Kee S W W') ∨ (e = .returned (.bool false) ∧ Jx (pre ++ [x]) W'))
  (W : World) (hB : W.cell? ⟨Bb, 0, none⟩ = some (.pointer p)) (hk : W.cell? ⟨Bk, 0, none⟩ = some (.string s)) (hkS : S Bk) (hT : MpI S W p T) (h0 : J [] W) :
  CallsIn Fence.wide n Try.prog 99 #[.func (.yield l) #[] #[], .pointer (some ⟨Bb, 0, none⟩), .pointer (some ⟨Bk, 0, none⟩)] W fun e W' => (∃ v, e = .returned v) ∧
   ((∃ ys, ys = walkB s T ∧ J ys W') ∨ (∃ pre, pre <+: walkB s T ∧ Jx pre W')) := by
 have hdd : ∀ k : Nat, (Fence.wide.depth.isSome = true → 1 ≤ k) := fun k h => by cases h
 cases p with
 | none =>
  obtain rfl : T = .nil := hT
  refine callsIn_of_wp Try.func99 rfl trivial ?_ rfl
  simp only [Try.ntmps99, List.size_toArray, List.length_cons, List.length_nil, Nat.reduceAdd, Nat.reduceSub, Array.replicate_succ, Array.replicate_zero, List.push_toArray, List.append_toArray, List.nil_append, List.cons_append]
  gi_wp2
  go_end0
  exact ⟨⟨_, rfl⟩, .inl ⟨[], rfl, h0⟩⟩
 | some a =>
  obtain ⟨_, hc, hin, hS⟩ := hT
  have hp := walk_some l (walkB s T).length S J Jx hJd (fun m pre x W hj hl => YieldAt.anyDepth rfl m (hY pre x W hj hl)) ⟨Bk, 0, none⟩ s hkS T (n - 1) [] W hin hS hk h0 (by simp)
  clear hY hin hS hk
  refine callsIn_of_wp Try.func99 rfl trivial ?_ rfl
  simp only [Try.ntmps99, List.size_toArray, List.length_cons, List.length_nil, Nat.reduceAdd, Nat.reduceSub, Array.replicate_succ, Array.replicate_zero, List.push_toArray, List.append_toArray, List.nil_append, List.cons_append]
  gi_wp2_with (refine ⟨trivial, hdd _, hp.mono ?_⟩; clear hp; rintro e W1 (⟨rfl, hJ1, _⟩ | ⟨rfl, q, hq, hx⟩))
  ·go_end0
   exact ⟨⟨_, rfl⟩, .inl ⟨_, rfl, by simpa using hJ1⟩⟩
  go_end0
  exact ⟨⟨_, rfl⟩, .inr ⟨q, hq, by simpa using hx⟩⟩
theorem from_in (n : Nat) (p : Option Addr) (s : ByteArray) (w : World) :
  CallsIn Fence.wide n Try.prog 81 #[.pointer p, .string s] w fun e w' => e = .returned (.func (.func 99) #[] #[.pointer (some ⟨w.heap.size, 0, none⟩), .pointer (some ⟨w.heap.size + 1, 0, none⟩)]) ∧ ∃ t, w' = (w.alloc (.cells #[.pointer p] t)).alloc (.cells #[.string s] 9) := by
 refine callsIn_of_wp Try.func81 rfl trivial ?_ rfl
 simp only [Try.ntmps81, List.size_toArray, List.length_cons, List.length_nil, Nat.reduceAdd, Nat.reduceSub, Array.replicate_succ, Array.replicate_zero, List.push_toArray, List.append_toArray, List.nil_append, List.cons_append]
 gi_wp2
 go_ret
 exact ⟨rfl, _, rfl⟩
end Go.Proofs.Ytljnlnbopohghaa.OrdSm
end
section
namespace Go.Proofs.Ytljnlnbopohghaa.It
open Go Go.RowKit
structure FrM (M : Nat → Prop) (w w' : World) : Prop where
 os : w'.os = w.os
 tape : w'.tape = w.tape
 output : w'.output = w.output
 size : w.heap.size ≤ w'.heap.size
 block : ∀ k, k < w.heap.size → ¬ M k → w'.heap[k]? = w.heap[k]?
namespace FrM
variable {M M' : Nat → Prop} {w w1 w2 : World}
theorem refl (M : Nat → Prop) (w : World) : FrM M w w := ⟨rfl, rfl, rfl, Nat.le_refl _, fun _ _ _ => rfl⟩
theorem trans (h : FrM M w w1) (k : FrM M' w1 w2) (hM : ∀ i, M' i → M i ∨ w.heap.size ≤ i) : FrM M w w2 :=
 ⟨k.os.trans h.os, k.tape.trans h.tape, k.output.trans h.output, Nat.le_trans h.size k.size, fun i hi hn =>
  (k.block i (Nat.lt_of_lt_of_le hi h.size) (fun hc => by rcases hM i hc with q | q; exact hn q; omega)).trans (h.block i hi hn)⟩
theorem mono (h : FrM M w w1) (hM : ∀ i, M i → M' i ∨ w.heap.size ≤ i) : FrM M' w w1 :=
 ⟨h.os, h.tape, h.output, h.size, fun i hi hn => h.block i hi (fun hc => by rcases hM i hc with q | q; exact hn q; omega)⟩
theorem of_below (h : Below w.heap.size w w1) : FrM M w w1 := ⟨h.os, h.tape, h.output, h.size, fun k hk _ => h.block k hk⟩
theorem below (h : FrM M w w1) {base : Nat} (hM : ∀ k, M k → base ≤ k) (hb : base ≤ w.heap.size) : Below base w w1 :=
 ⟨h.os, h.tape, h.output, h.size, fun k hk => h.block k (by omega) (fun hm => by have := hM k hm; omega)⟩
theorem blk (h : FrM M w w1) {g : Nat} {o : Obj} (hg : w.heap[g]? = some o) (hn : ¬ M g) : w1.heap[g]? = some o := (h.block g (Array.getElem?_eq_some_iff.1 hg).1 hn).trans hg
theorem drewN (h : FrM M w w1) (n : Nat) : FrM M w (w1.drewN n) := ⟨h.os, h.tape, h.output, h.size, h.block⟩
theorem alloc (h : FrM M w w1) (o : Obj) : FrM M w (w1.alloc o) := h.trans (of_below (M := fun _ => False) ((Below.refl _ w1).alloc (Nat.le_refl _) o)) (fun _ q => q.elim)
theorem grown {row : Option Nat} (hg : w.grownBy w1 row) (hr : ∀ r, row = some r → M r ∨ w.heap.size ≤ r) : FrM M w w1 :=
 ⟨hg.os, hg.tape, hg.output, hg.size, fun k hk hn => hg.block k hk (fun e => by rcases hr k e.symm with q | q; exact hn q; omega)⟩
theorem putObj (w : World) (l : Nat) (o : Obj) (hl : M l) : FrM M w (w.putObj l o) :=
 ⟨rfl, rfl, rfl, by simp, fun k _ hn => World.putObj_heap_other (fun e => hn (by rw [e]; exact hl))⟩
end FrM
def Stab {β : Type} (B : Nat) (J : β → (Nat → Prop) → World → Prop) : Prop :=
 ∀ s M W W', J s M W → FrM (fun k => ¬ M k ∧ B ≤ k) W W' → J s M W'
theorem Stab.from {β : Type} {B B' : Nat} {J : β → (Nat → Prop) → World → Prop} (h : Stab B J) (hB : B ≤ B') : Stab B' J :=
 fun s M W W' hj hf => h s M W W' hj (hf.mono (fun i hi => .inl ⟨hi.1, Nat.le_trans hB hi.2⟩))
def Told {α : Type} (J Jx : List α → (Nat → Prop) → World → Prop) (pre : List α) (x : α) (M : Nat → Prop) (W : World) (e : Ending) (W' : World) : Prop :=
 ∃ M', (∀ k, M' k → (M k ∨ W.heap.size ≤ k) ∧ k < W'.heap.size) ∧ FrM M W W' ∧ ((e = .returned (.bool true) ∧ J (pre ++ [x]) M' W') ∨ (e = .returned (.bool false) ∧ Jx (pre ++ [x]) M' W'))
def Went {α : Type} (J Jx : List α → (Nat → Prop) → World → Prop) (R Rp : List α → Prop) (M : Nat → Prop) (W : World) (e : Ending) (W' : World) : Prop :=
 (∃ v, e = .returned v) ∧ ∃ M', (∀ k, M' k → (M k ∨ W.heap.size ≤ k) ∧ k < W'.heap.size) ∧ FrM M W W' ∧ ((∃ xs, R xs ∧ J xs M' W') ∨ (∃ pre, Rp pre ∧ Jx pre M' W'))
def Iter {α : Type} (F : Fence) (n : Nat) (P : Program) (g : Nat) (lb : Array Value) (encs : α → Array Value) (R Rp : List α → Prop) (N : Nat) (S : Nat → Prop) (w : World) : Prop :=
 ∀ (l : Nat) (J Jx : List α → (Nat → Prop) → World → Prop) (M : Nat → Prop) (W : World), FrM (fun k => ¬ S k) w W → (∀ k, S k → k < w.heap.size ∧ ¬ M k) → (∀ k, M k → k < W.heap.size) →
  Stab W.heap.size J → Stab W.heap.size Jx →
  (∀ pre x M1 W1, J pre M1 W1 → (∀ k, M1 k → (M k ∨ W.heap.size ≤ k) ∧ k < W1.heap.size) → FrM M W W1 → pre.length < N → YieldAt F (n - 1) P l (encs x) W1 (Told J Jx pre x M1 W1)) →
  J [] M W → CallsIn F n P g (#[.func (.yield l) #[] #[]] ++ lb) W (Went J Jx R Rp M W)
variable {F : Fence} {n : Nat} {P : Program}
def bodyP {α : Type} (I : List α → (Nat → Prop) → World → Prop) (Ix : Code → List α → (Nat → Prop) → World → Prop) (xs : List α) (M : Nat → Prop) (W : World) : Exit → Act → World → Prop
 | .normal, _, W' => ∃ M', (∀ k, M' k → (M k ∨ W.heap.size ≤ k) ∧ k < W'.heap.size) ∧ FrM M W W' ∧ I xs M' W'
 | .ret, _, W' => ∃ M', (∀ k, M' k → (M k ∨ W.heap.size ≤ k) ∧ k < W'.heap.size) ∧ FrM M W W' ∧ Ix .ret xs M' W'
 | .exit id, _, W' => ∃ M', (∀ k, M' k → (M k ∨ W.heap.size ≤ k) ∧ k < W'.heap.size) ∧ FrM M W W' ∧ Ix (.exit id) xs M' W'
 | .goto t, _, W' => ∃ M', (∀ k, M' k → (M k ∨ W.heap.size ≤ k) ∧ k < W'.heap.size) ∧ FrM M W W' ∧ Ix (.goto t) xs M' W'
 | .panic _, _, _ => False
 | .outgrown, _, _ => False
end Go.Proofs.Ytljnlnbopohghaa.It
end
section
namespace Go.Proofs.Ytljnlnbopohghaa.OrdSm
open Go.RowKit Go.Shelf Go.Proofs.YtljnlnbopohghaaW.PrintWords Go.Proofs.YtljnlnbopohghaaW.PrintLast Go.Proofs.YtljnlnbopohghaaW.PrintMore Go.Proofs.Ytljnlnbopohghaa.Own Go.Proofs.Ytljnlnbopohghaa.Ord
theorem iter_of {α : Type} {g : Nat} {lb : Array Value} {encs : α → Array Value} {R Rp : List α → Prop} {N n : Nat} {S : Nat → Prop} {w : World} (hS : ∀ k, S k → k < w.heap.size)
  (h : ∀ (l : Nat) (J Jx : List α → World → Prop) (W : World), (∀ pre W n, J pre W → J pre (W.drewN n)) → (∀ k, S k → W.heap[k]? = w.heap[k]?) → w.heap.size ≤ W.heap.size →
   (∀ pre x W1, J pre W1 → pre.length < N → YieldAt Fence.wide (n - 1) Try.prog l (encs x) W1 fun e W' => (e = .returned (.bool true) ∧ J (pre ++ [x]) W' ∧ Kee S W1 W') ∨ (e = .returned (.bool false) ∧ Jx (pre ++ [x]) W')) → J [] W →
   CallsIn Fence.wide n Try.prog g (#[.func (.yield l) #[] #[]] ++ lb) W fun e W' => (∃ v, e = .returned v) ∧ ((∃ ys, R ys ∧ J ys W') ∨ (∃ pre, Rp pre ∧ Jx pre W'))) :
  It.Iter Fence.wide n Try.prog g lb encs R Rp N S w := by
 intro l J Jx M W hWf hSW hM hJ hJx hY h0
 refine (h l (fun pre W1 => ∃ M1, J pre M1 W1 ∧ (∀ k, M1 k → (M k ∨ W.heap.size ≤ k) ∧ k < W1.heap.size) ∧ It.FrM M W W1) (fun pre W1 => ∃ M1, Jx pre M1 W1 ∧ (∀ k, M1 k → (M k ∨ W.heap.size ≤ k) ∧ k < W1.heap.size) ∧ It.FrM M W W1) W ?_ (fun k hk => hWf.block k (hS k hk) (fun q => q hk)) hWf.size ?_ ⟨M, h0, fun k hk => ⟨.inl hk, hM k hk⟩, It.FrM.refl _ _⟩).mono ?_
 ·rintro pre W1 m ⟨M1, a, b, c⟩
  exact ⟨M1, hJ _ _ _ _ a ((It.FrM.refl _ _).drewN m), b, c.drewN m⟩
 ·rintro pre x W1 ⟨M1, a, b, c⟩ hlen
  refine YieldAt.mono (hY pre x M1 W1 a b c hlen) ?_
  rintro e W' ⟨M', b', f', q⟩
  have bb : ∀ k, M' k → (M k ∨ W.heap.size ≤ k) ∧ k < W'.heap.size := fun k hk => ⟨by
   rcases (b' k hk).1 with z | z
   ·exact (b k z).1
   have := c.size; exact .inr (by omega), (b' k hk).2⟩
  have ff : It.FrM M W W' := c.trans f' (fun i hi => (b i hi).1)
  rcases q with ⟨rfl, hj⟩ | ⟨rfl, hj⟩
  ·refine .inl ⟨rfl, ⟨M', hj, bb, ff⟩, ⟨f'.size, fun k hk => f'.block k (by have := hS k hk; have := c.size; have := hWf.size; omega) (fun hm => ?_)⟩⟩
   rcases (b k hm).1 with z | z
   ·exact (hSW k hk).2 z
   have := hS k hk; have := hWf.size; omega
  exact .inr ⟨rfl, M', hj, bb, ff⟩
 rintro e W' ⟨hv, ⟨ys, hR, M', hj, b, f⟩ | ⟨pre, hR, M', hj, b, f⟩⟩
 ·exact ⟨hv, M', b, f, .inl ⟨ys, hR, hj⟩⟩
 exact ⟨hv, M', b, f, .inr ⟨pre, hR, hj⟩⟩
theorem cell_of_blk {w W : World} {a : Addr} {v : Value} (h : w.cell? a = some v) (e : W.heap[a.block]? = w.heap[a.block]?) : W.cell? a = some v := (World.cell?_of_block e).trans h
theorem from_iter (n Bb Bk : Nat) (S : Nat → Prop) (p : Option Addr) (s : ByteArray) (T : Kn ByteArray ByteArray) (w : World) (hS : ∀ k, S k → k < w.heap.size) (hBb : S Bb) (hc : w.cell? ⟨Bb, 0, none⟩ = some (.pointer p)) (hk : w.cell? ⟨Bk, 0, none⟩ = some (.string s)) (hkS : S Bk) (hT : MpI S w p T) :
  It.Iter Fence.wide n Try.prog 99 #[.pointer (some ⟨Bb, 0, none⟩), .pointer (some ⟨Bk, 0, none⟩)] (fun x : ByteArray × ByteArray => #[.string x.1, .string x.2]) (fun ys => ys = walkB s T) (fun pre => pre <+: walkB s T) (walkB s T).length S w :=
 iter_of hS (fun l J Jx W hJd hSW hsz hY h0 => from1_in n l Bb Bk S p s T J Jx hJd hY W (cell_of_blk hc (hSW Bb hBb)) (cell_of_blk hk (hSW Bk hkS)) hkS (hT.kee ⟨hsz, hSW⟩) h0)
end Go.Proofs.Ytljnlnbopohghaa.OrdSm
end
section
namespace Go.Proofs.Ytljnlnbopohghaa.Ord
namespace Kn
variable {K V : Type}
end Kn
structure Lin {K : Type} (lt : K → K → Bool) : Prop where
 irr : ∀ a, lt a a = false
 tr : ∀ {a b c}, lt a b = true → lt b c = true → lt a c = true
 tri : ∀ {a b}, lt a b = false → lt b a = false → a = b
variable {K V : Type} {lt : K → K → Bool}
abbrev Rise (lt : K → K → Bool) (l : List (K × V)) : Prop := l.Pairwise (fun x y => lt x.1 y.1 = true)
def del (lt : K → K → Bool) (key : K) (l : List (K × V)) : List (K × V) := l.filter (fun x => lt x.1 key || lt key x.1)
theorem fil_all {p : K × V → Bool} {l : List (K × V)} (h : ∀ x ∈ l, p x = true) : l.filter p = l := List.filter_eq_self.2 h
theorem fil_none {p : K × V → Bool} {l : List (K × V)} (h : ∀ x ∈ l, p x = false) : l.filter p = [] := List.filter_eq_nil_iff.2 (fun x hx => by rw [h x hx]; simp)
theorem rise_node {b : Nat} {k : K} {v : V} {l r : Kn K V} (h : Rise lt (Kn.node b k v l r).toL) :
  Rise lt l.toL ∧ Rise lt r.toL ∧ (∀ x ∈ l.toL, lt x.1 k = true) ∧ (∀ x ∈ r.toL, lt k x.1 = true) := by
 simp only [Rise, Kn.toL, List.pairwise_append, List.pairwise_cons] at h
 obtain ⟨h1, ⟨h2, h3⟩, h4⟩ := h
 exact ⟨h1, h3, fun x hx => h4 x hx (k, v) (by simp), h2⟩
end Go.Proofs.Ytljnlnbopohghaa.Ord
end
