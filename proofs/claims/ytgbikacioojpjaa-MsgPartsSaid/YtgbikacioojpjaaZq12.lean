/- THE ROW of MsgParts: for every input the call returns true, and each argument reads afterwards as it read before: no condition beyond the row's own. Out of the walk (its contract over the Lean function of the same text) and the plain law (module YtgbikacioojpjaaPureMsgParts). (Laid by rowgen.py.) -/
/- Texts of this seat's own and of the kit's print program, of one claim: only what the claim uses (laid by wip/tools/shake.py; Lean checks them). -/
import Derived.Test.YtgbikacioojpjaaZq0
import Derived.Deep.Slices
import Derived.ChangeArms
import Derived.SizedLaws
import Derived.OpenShut
import Derived.Test.YtgbikacioojpjaaZq2
import Derived.Test.YtgbikacioojpjaaZq1
import Derived.Lib.Strings
import Derived.Test.YtgbikacioojpjaaZq3
import Derived.Laws.BitsAllLaws
import Derived.Test.YtgbikacioojpjaaZq8
import Derived.Test.YtgbikacioojpjaaZq4
import Derived.Test.YtgbikacioojpjaaZq5
import Derived.Test.YtgbikacioojpjaaZq6
import Derived.KernelRfl
import Derived.Test.YtgbikacioojpjaaZq7
import Derived.Test.YtgbikacioojpjaaZq10
import Derived.Test.YtgbikacioojpjaaZq11
import Derived.Test.YtgbikacioojpjaaRows
import Derived.WalkKit
import Derived.ProofKit
import Derived.ShutString
import Derived.ChangeOld
import Derived.Below
section
namespace Go.Proofs.Ytgbikacioojpjaa.Rd
open Go.RowKit Go.ChangeShapes Go.WideShapes Go.Deep Go.Proofs.YtgbikacioojpjaaW.PrintWords
structure Opens {α : Type} (P : Program) (t : TypeId) (d : Kd α) (wf : α → Prop) : Prop where
  cells : P.cellsOf t = d.sz
  down : ∀ {H : Type} {enc : TypeId × Value → H} {w : World} {base : Nat} {spare : Nat → Bool} {held : Bool} {fuel : Nat} {cs : List Value} {x : DataW H × List MemPlace},
    DataW.trod enc P w base spare held fuel t cs = some x → (∀ n ∈ x.1.weights P t, n ≤ reachBytes) → ∃ a, d.K w a cs ∧ wf a
theorem mem_weightsAll {H : Type} {P : Program} {e : TypeId} {d : DataW H} : ∀ {l : List (DataW H)}, d ∈ l → ∀ n ∈ d.weights P e, n ∈ DataW.weightsAll P e l
  | x :: l, hd, n, hn => by
    simp only [DataW.weightsAll, List.mem_append]
    rcases List.mem_cons.1 hd with rfl | hd
    · exact .inl hn
    · exact .inr (mem_weightsAll hd n hn)
theorem Opens.int {P : Program} {t : TypeId} {k : IntKind} (ht : P.underlying t = some (.int k)) (hc : P.cellsOf t = 1) : Opens P t (Kd.int k) (fun n => (Lit.int k n).wf = true) where
  cells := hc
  down := by
    intro H enc w base spare held fuel cs x h _
    obtain ⟨n, rfl, _, hw⟩ := DataW.trod_int ht h
    exact ⟨n, rfl, hw⟩
theorem Opens.bool {P : Program} {t : TypeId} (ht : P.underlying t = some .bool) (hc : P.cellsOf t = 1) : Opens P t Kd.bool (fun _ => True) where
  cells := hc
  down := by
    intro H enc w base spare held fuel cs x h _
    obtain ⟨b, rfl, _⟩ := DataW.trod_bool ht h
    exact ⟨b, rfl, trivial⟩
theorem Opens.string {P : Program} {t : TypeId} (ht : P.underlying t = some .string) (hc : P.cellsOf t = 1) : Opens P t Kd.string (fun s => s.size ≤ 140737488351232) where
  cells := hc
  down := by
    intro H enc w base spare held fuel cs x h hw
    obtain ⟨s, rfl, rfl, _⟩ := DataW.trod_string ht h
    refine ⟨s, rfl, ?_⟩
    have := hw s.data.toList.length (by simp [DataW.weights])
    have e : s.data.toList.length = s.size := by simp
    rw [e] at this
    exact this
theorem Opens.slice {α : Type} {P : Program} {t e : TypeId} {d : Kd α} {wf : α → Prop} (ht : P.underlying t = some (.slice e)) (hc : P.cellsOf t = 1) {B : Nat} (hB : P.bytesOf e = B) (he : Opens P e d wf) :
    Opens P t (Kd.slice e d) (fun l => l.length * B ≤ 140737488351232 ∧ ∀ a ∈ l, wf a) where
  cells := hc
  down := by
    intro H enc w base spare held fuel cs x h hw
    rcases open_slice ht h with ⟨rfl, _⟩ | ⟨a, len, cap, m, n, D, Pl, rfl, hb, hl, hm, hmm, rfl, hx⟩
    · exact ⟨[], ⟨none, 0, rfl, Nat.le_refl _, rfl, by simp, fun h0 => absurd h0 (by simp)⟩, by simp, fun a ha => by simp at ha⟩
    · have hlm : len ≤ m := by rw [hmm]; split <;> omega
      have hel : ∀ i : Fin len, ∃ y : α, ∃ c : List Value, w.cells? base (a.add (i.1 * P.cellsOf e)) (P.cellsOf e) = some c ∧ d.K w y c ∧ wf y := by
        intro i
        obtain ⟨c, h1, h2⟩ := hx i.1 (by omega)
        obtain ⟨y, hy, hwf⟩ := he.down h2 (fun n hn => hw n (by
          simp only [DataW.weights, ht, List.mem_cons, List.mem_append]
          exact .inr (.inl (mem_weightsAll (List.mem_map.2 ⟨i.1, List.mem_range.2 i.2, rfl⟩) n hn))))
        exact ⟨y, c, h1, hy, hwf⟩
      obtain ⟨f, hf⟩ := Classical.axiomOfChoice hel
      have hlen : (List.ofFn f).length = len := by simp
      have hmax : len ≤ 9223372036854775807 := by simp only [maxLen] at hm; omega
      refine ⟨List.ofFn f, ⟨some a, cap, ?_, ?_, ?_, ?_, ?_⟩, ?_, ?_⟩
      · rw [hlen]
      · rw [hlen]; exact hl
      · rfl
      · rw [hlen]; exact hmax
      · intro _
        refine ⟨a, rfl, fun j p hj => ?_⟩
        obtain ⟨hjl, rfl⟩ := List.getElem?_eq_some_iff.1 hj
        rw [hlen] at hjl
        obtain ⟨c, h1, hy, _⟩ := hf ⟨j, hjl⟩
        obtain ⟨_, hcl, hcell⟩ := World.cells?_some h1
        refine ⟨c, by rw [hcl, he.cells], by simpa using hy, fun i u hu => ?_⟩
        have hi : i < P.cellsOf e := by
          have := (List.getElem?_eq_some_iff.1 hu).1
          omega
        have := hcell i hi
        rw [Go.Deep.add_add] at this
        rw [← he.cells, this, hu]
      · rw [hlen]
        have hz := hw (((List.range len).map D).length + ((List.range (m - len)).map fun j => D (len + j)).length |>.mul (P.bytesOf e)) (by
          simp only [DataW.weights, ht, List.mem_cons]
          exact .inl rfl)
        rw [hB] at hz
        simp only [List.length_map, List.length_range] at hz
        have h2 : len * B ≤ (len + (m - len)) * B := Nat.mul_le_mul_right _ (by omega)
        exact Nat.le_trans h2 hz
      · intro y hy
        obtain ⟨i, rfl⟩ := List.mem_ofFn.1 hy
        obtain ⟨_, _, _, hwf⟩ := hf i
        exact hwf
theorem Opens.iso {α β : Type} {P : Program} {t : TypeId} {d : Kd α} {wf : α → Prop} {f : β → α} (g : α → β) (hg : ∀ a, f (g a) = a) (h : Opens P t d wf) : Opens P t (Kd.iso d f) (fun b => wf (f b)) where
  cells := h.cells
  down := by
    intro H enc w base spare held fuel cs x hx hw
    obtain ⟨a, hk, hwf⟩ := h.down hx hw
    refine ⟨g a, ?_, ?_⟩
    · show d.K w (f (g a)) cs
      rw [hg]; exact hk
    · show wf (f (g a))
      rw [hg]; exact hwf
structure OpensFs {α : Type} (P : Program) (fs : List Field) (off : Nat) (d : Kd α) (wf : α → Prop) : Prop where
  down : ∀ {H : Type} {enc : TypeId × Value → H} {w : World} {base : Nat} {spare : Nat → Bool} {held : Bool} {fuel : Nat} {cs : List Value} {xs : List (DataW H × List MemPlace)},
    cs.length = d.sz → xs.length = fs.length → (∀ (i : Nat) (f : Field), fs[i]? = some f → DataW.trod enc P w base spare held fuel f.type ((cs.drop (f.offset - off)).take (P.cellsOf f.type)) = xs[i]?) →
    (∀ n ∈ DataW.weightsEach P (fs.map (·.type)) (xs.map (·.1)), n ≤ reachBytes) → ∃ a, d.K w a cs ∧ wf a
  offs : ∀ f ∈ fs, off ≤ f.offset
theorem OpensFs.one {α : Type} {P : Program} {f : Field} {off : Nat} {d : Kd α} {wf : α → Prop} (ho : f.offset = off) (h : Opens P f.type d wf) : OpensFs P [f] off d wf where
  offs := by simp [ho]
  down := by
    intro H enc w base spare held fuel cs xs hl hxs hx hw
    have h0 := hx 0 f rfl
    obtain ⟨x, rfl⟩ : ∃ x, xs = [x] := by
      match xs, hxs with
      | [x], _ => exact ⟨x, rfl⟩
    rw [ho, Nat.sub_self, List.drop_zero, h.cells, ← hl, List.take_length] at h0
    exact h.down h0 (fun n hn => hw n (by simp [DataW.weightsEach, hn]))
theorem OpensFs.cons {α β : Type} {P : Program} {f : Field} {fs : List Field} {off off2 : Nat} {d : Kd α} {d2 : Kd β} {wf : α → Prop} {wf2 : β → Prop} (ho : f.offset = off) (h : Opens P f.type d wf) (ho2 : off2 = off + d.sz)
    (h2 : OpensFs P fs off2 d2 wf2) : OpensFs P (f :: fs) off (Kd.pair d d2) (fun p => wf p.1 ∧ wf2 p.2) where
  offs := by
    intro g hg
    rcases List.mem_cons.1 hg with rfl | hg
    · omega
    · have := h2.offs g hg; omega
  down := by
    intro H enc w base spare held fuel cs xs hl hxs hx hw
    obtain ⟨x, ys, rfl⟩ : ∃ x ys, xs = x :: ys := by
      match xs, hxs with
      | x :: ys, _ => exact ⟨x, ys, rfl⟩
    have hl' : cs.length = d.sz + d2.sz := hl
    have h0 := hx 0 f rfl
    rw [ho, Nat.sub_self, List.drop_zero, h.cells] at h0
    obtain ⟨a, ha, hwa⟩ := h.down h0 (fun n hn => hw n (by simp [DataW.weightsEach, hn]))
    obtain ⟨b, hb, hwb⟩ := h2.down (cs := cs.drop d.sz) (xs := ys) (by rw [List.length_drop, hl']; omega) (by simpa using hxs) (fun i g hg => by
      have h1 := hx (i + 1) g (by simpa using hg)
      have hgo := h2.offs g (List.mem_of_getElem? hg)
      rw [List.drop_drop]
      have e : d.sz + (g.offset - off2) = g.offset - off := by omega
      rw [e]
      simpa using h1) (fun n hn => hw n (by simp [DataW.weightsEach, hn]))
    exact ⟨(a, b), ⟨cs.take d.sz, cs.drop d.sz, (List.take_append_drop _ _).symm, ha, hb⟩, hwa, hwb⟩
theorem Opens.struct {α : Type} {P : Program} {t : TypeId} {fs : Array Field} {d : Kd α} {wf : α → Prop} (ht : P.underlying t = some (.struct fs)) (hc : P.cellsOf t = d.sz) (h : OpensFs P fs.toList 0 d wf) : Opens P t d wf where
  cells := hc
  down := by
    intro H enc w base spare held fuel cs x hx hw
    obtain ⟨xs, n, rfl, rfl, hl, hxs, hf⟩ := DataW.trod_struct ht hx
    refine h.down (enc := enc) (w := w) (base := base) (spare := spare) (held := held) (fuel := n) (cs := cs) (xs := xs) (by rw [hl, hc]) (by simpa using hxs) (fun i f hi => ?_) (fun n hn => hw n (by simpa [DataW.weights, ht] using hn))
    rw [Nat.sub_zero]
    exact hf i f (by simpa using hi)
end Go.Proofs.Ytgbikacioojpjaa.Rd
end
section
namespace Go.Proofs.Ytgbikacioojpjaa.P
open Go.RowKit Go.Proofs.Ytgbikacioojpjaa.Rd Go.Proofs.YtgbikacioojpjaaW.PrintWords
theorem o22 : Opens Try.prog 22 (Kd.int .u8) (fun n => (Lit.int .u8 n).wf = true) := Opens.int Try.underlying22 (by kernel_rfl)
theorem o3 : Opens Try.prog 3 (Kd.int .i64) (fun n => (Lit.int .i64 n).wf = true) := Opens.int Try.underlying3 (by kernel_rfl)
theorem o9 : Opens Try.prog 9 Kd.string (fun x_ => x_.size ≤ 140737488351232) := Opens.string Try.underlying9 (by kernel_rfl)
theorem o23 : Opens Try.prog 23 (Kd.int .u64) (fun n => (Lit.int .u64 n).wf = true) := Opens.int Try.underlying23 (by kernel_rfl)
def wf25 (x : S25) : Prop := ((Lit.int .u8 x.f0).wf = true) ∧ ((Lit.int .i64 x.f1).wf = true) ∧ (x.f2.size ≤ 140737488351232) ∧ (x.f3.size ≤ 140737488351232) ∧ (x.f4.size ≤ 140737488351232) ∧ ((Lit.int .u64 x.f5).wf = true)
theorem o25 : Opens Try.prog 25 k25 wf25 := Opens.iso (g := fun p_ => (⟨p_.1, p_.2.1, p_.2.2.1, p_.2.2.2.1, p_.2.2.2.2.1, p_.2.2.2.2.2⟩ : S25)) (fun _ => rfl) (Opens.struct Try.underlying25 (by kernel_rfl) (OpensFs.cons rfl o22 rfl (OpensFs.cons rfl o3 rfl (OpensFs.cons rfl o9 rfl (OpensFs.cons rfl o9 rfl (OpensFs.cons rfl o9 rfl (OpensFs.one rfl o23)))))))
def wf31 (x : S31) : Prop := (x.f0.size ≤ 140737488351232) ∧ (x.f1.size ≤ 140737488351232)
theorem o31 : Opens Try.prog 31 k31 wf31 := Opens.iso (g := fun p_ => (⟨p_.1, p_.2⟩ : S31)) (fun _ => rfl) (Opens.struct Try.underlying31 (by kernel_rfl) (OpensFs.cons rfl o9 rfl (OpensFs.one rfl o9)))
end Go.Proofs.Ytgbikacioojpjaa.P
end
section
set_option linter.unusedVariables false
set_option linter.unusedSimpArgs false
namespace Go.Proofs.Ytgbikacioojpjaa.P
open Go.RowKit Go.Proofs.YtgbikacioojpjaaW.PrintWords Go.Proofs.YtgbikacioojpjaaW.PrintLast Go.Proofs.YtgbikacioojpjaaW.PrintMore Go.Proofs.Ytgbikacioojpjaa.Own Go.Proofs.Ytgbikacioojpjaa
theorem ba_mk (l : Array UInt8) : (⟨l⟩ : ByteArray).toList = l.toList := by rw [Lib.toList_data]
end Go.Proofs.Ytgbikacioojpjaa.P
end
section
set_option linter.unusedVariables false
set_option linter.unusedSimpArgs false
namespace Go.Proofs.Ytgbikacioojpjaa.P
open Go.RowKit Go.Proofs.YtgbikacioojpjaaW.PrintWords Go.Proofs.YtgbikacioojpjaaW.PrintLast Go.Proofs.YtgbikacioojpjaaW.PrintMore Go.Proofs.Ytgbikacioojpjaa.Own Go.Proofs.Ytgbikacioojpjaa
def valN (s : ByteArray) : Nat → Int
  | 0 => 0
  | n + 1 => valN s n * 256 + bt s n
theorem valN_range (s : ByteArray) (n : Nat) : 0 ≤ valN s n ∧ valN s n < 256 ^ n := by
  induction n with
  | zero => simp [valN]
  | succ n ih =>
    have := bt_range s n
    simp only [valN, Int.pow_succ]
    omega
theorem or_add (a b : Int) (ha : 0 ≤ a) (ha2 : a < 72057594037927936) (hb : 0 ≤ b) (hb2 : b ≤ 255) : Go.bits .or .u64 (a * 256) b = a * 256 + b := by
  rw [Go.u64_or _ _ (by omega) (by omega) (by omega) (by omega)]
  obtain ⟨m, rfl⟩ := Int.eq_ofNat_of_zero_le ha
  obtain ⟨n, rfl⟩ := Int.eq_ofNat_of_zero_le hb
  have e : ((m : Int) * 256).toNat = m * 2 ^ 8 := by omega
  have e2 : (n : Int).toNat = n := by omega
  rw [e, e2, ← Nat.shiftLeft_eq, ← Nat.shiftLeft_add_eq_or_of_lt (by omega), Nat.shiftLeft_eq]
  omega
theorem pow_le : ∀ n : Nat, n < 8 → (256 : Int) ^ n ≤ 72057594037927936 := by decide
theorem take_step (k : Nat) (s : ByteArray) (hs : s.size = 8) (n : Nat) (hn : n < 8) : word_Take.l0 (k + 1) s (valN s n) 8 n = word_Take.l0 k s (valN s (n + 1)) 8 ((n + 1 : Nat) : Int) := by
  have hv := valN_range s n
  have hb := bt_range s n
  have hp := pow_le n hn
  have hv2 : valN s n < 72057594037927936 := by omega
  simp only [word_Take.l0]
  rw [if_pos (by omega), if_pos (by omega), if_pos (by omega)]
  rw [IntWalk.u64_in (valN s n * 256) (by omega), IntWalk.u64_in (bt s n) (by omega), or_add _ _ hv.1 hv2 hb.1 hb.2, IntWalk.wrap64_in _ (by omega)]
  rfl
theorem word_Take_eq (k : Nat) (s : ByteArray) : word_Take.f (k + 9) s = some (if s.size = 8 then (valN s 8, true) else (0, false)) := by
  unfold word_Take.f
  by_cases h : s.size = 8
  · rw [if_pos (by omega), if_pos h]
    have e : (s.size : Int) = 8 := by omega
    rw [e]
    have s0 := take_step (k + 8) s h 0 (by omega)
    have s1 := take_step (k + 7) s h 1 (by omega)
    have s2 := take_step (k + 6) s h 2 (by omega)
    have s3 := take_step (k + 5) s h 3 (by omega)
    have s4 := take_step (k + 4) s h 4 (by omega)
    have s5 := take_step (k + 3) s h 5 (by omega)
    have s6 := take_step (k + 2) s h 6 (by omega)
    have s7 := take_step (k + 1) s h 7 (by omega)
    refine s0.trans (s1.trans (s2.trans (s3.trans (s4.trans (s5.trans (s6.trans (s7.trans ?_)))))))
    simp only [word_Take.l0]
    rw [if_neg (by omega)]
  · rw [if_neg (by omega), if_neg h]
def addV (v : ByteArray) (is : Bool) (d : Int) : ByteArray :=
  if is = true then (if v.size = 8 then strOfNums (Wp.eight (IntKind.u64.wrap (valN v 8 + d))) else v) else strOfNums (Wp.eight d)
theorem word_Add_eq (k : Nat) (v : ByteArray) (is : Bool) (d : Int) : word_Add.f (k + 9) v is d = some (addV v is d) := by
  unfold word_Add.f addV word_Put.f
  rw [word_Take_eq]
  cases is <;> by_cases h : v.size = 8 <;> simp [h]
end Go.Proofs.Ytgbikacioojpjaa.P
end
section
set_option linter.unusedVariables false
set_option linter.unusedSimpArgs false
namespace Go.Proofs.Ytgbikacioojpjaa.P
open Go.RowKit Go.Proofs.YtgbikacioojpjaaW.PrintWords Go.Proofs.YtgbikacioojpjaaW.PrintLast Go.Proofs.YtgbikacioojpjaaW.PrintMore Go.Proofs.Ytgbikacioojpjaa.Own Go.Proofs.Ytgbikacioojpjaa
def lt (a b : ByteArray) : Bool := Op.bytesLess a.toList b.toList
def emp (a : ByteArray) : Bool := decide (a.toList = [])
def same (a b : ByteArray) : Bool := decide (a.toList = b.toList)
abbrev e0 : ByteArray := ⟨#[]⟩
def isPt (k : Int) : Bool := decide (k = 1 ∨ k = 2 ∨ k = 3)
def rr (f t : ByteArray) : Bool := emp t || lt f t
def holds (f t s : ByteArray) : Bool := !lt s f && (emp t || lt s t)
def before (a b : ByteArray) : Bool := !emp a && (emp b || lt a b)
def succB (a : ByteArray) : ByteArray := a ++ ⟨#[0]⟩
def span (k : Int) (y t : ByteArray) : ByteArray × ByteArray := if isPt k = true then (y, succB y) else if k = 4 then (y, t) else (e0, e0)
theorem IsPoint_eq (k q : Int) (y t v : ByteArray) (d : Int) : msg_IsPoint.f k q y t v d = some (isPt k) := by
  unfold msg_IsPoint.f isPt
  by_cases h1 : k = 1
  · simp [h1]
  · by_cases h2 : k = 2
    · simp [h2]
    · by_cases h3 : k = 3 <;> simp [h1, h2, h3]
theorem Point_eq (k q : Int) (y t v : ByteArray) (d : Int) : catchmentref04_Point.f k q y t v d = some (isPt k) := by
  unfold catchmentref04_Point.f isPt
  by_cases h : k ≥ 1
  · rw [if_pos h]
    congr 1
    rw [decide_eq_decide]
    omega
  · rw [if_neg h]
    congr 1
    symm
    rw [decide_eq_false_iff_not]
    omega
theorem ahead_eq (s t : ByteArray) : key_ahead.f s t = some (emp t || lt s t) := by
  unfold key_ahead.f emp lt
  by_cases h : t.toList = [] <;> simp [h]
theorem RightRange_eq (f t : ByteArray) : key_RightRange.f f t = some (rr f t) := by
  unfold key_RightRange.f rr
  rw [ahead_eq]
  rfl
theorem After_eq (a : ByteArray) (h : a.size ≤ 140737488351232) : key_After.f a = some (succB a) := by
  unfold key_After.f succB
  rw [if_pos (by omega)]
theorem Point_range_eq (a : ByteArray) (h : a.size ≤ 140737488351232) : key_Point.f a = some (a, succB a) := by
  unfold key_Point.f
  rw [After_eq a h]
  rfl
theorem Span_eq (k q : Int) (y t v : ByteArray) (d : Int) (h : y.size ≤ 140737488351232) : msg_Span.f k q y t v d = some (span k y t) := by
  unfold msg_Span.f span
  rw [IsPoint_eq, Point_range_eq y h]
  simp only [Option.bind_some]
  cases isPt k
  · by_cases h4 : k = 4 <;> simp [h4]
  · simp
theorem isPt_ne4 {k : Int} (h : isPt k = true) : ¬ k = 4 := by
  simp only [isPt, decide_eq_true_eq] at h
  omega
end Go.Proofs.Ytgbikacioojpjaa.P
end
section
set_option linter.unusedVariables false
set_option linter.unusedSimpArgs false
namespace Go.Proofs.Ytgbikacioojpjaa.P
open Go.RowKit Go.Proofs.YtgbikacioojpjaaW.PrintWords Go.Proofs.YtgbikacioojpjaaW.PrintLast Go.Proofs.YtgbikacioojpjaaW.PrintMore Go.Proofs.Ytgbikacioojpjaa.Own Go.Proofs.Ytgbikacioojpjaa
def touches (k : Int) (y t s : ByteArray) : Bool := (isPt k && same y s) || (decide (k = 4) && holds y t s)
def applyV (k : Int) (vv : ByteArray) (d : Int) (v : ByteArray) (is : Bool) : ByteArray × Bool :=
  if k = 1 then (vv, true) else if k = 3 then (addV v is d, true) else if k = 2 ∨ k = 4 then (e0, false) else if is = true then (v, true) else (e0, false)
def onV (k : Int) (y t vv : ByteArray) (d : Int) (s v : ByteArray) (is : Bool) : ByteArray × Bool :=
  if touches k y t s = true then applyV k vv d v is else if is = true then (v, true) else (e0, false)
theorem Holds_eq (f t s : ByteArray) : key_Holds.f f t s = some (holds f t s) := by
  unfold key_Holds.f holds
  rw [ahead_eq]
  by_cases h : Op.bytesLess s.toList f.toList = true
  · simp [h, lt]
  · simp [h, lt]
theorem Touches_eq (k q : Int) (y t v : ByteArray) (d : Int) (s : ByteArray) (h : y.size ≤ 140737488351232) : msg_Touches.f k q y t v d s = some (touches k y t s) := by
  unfold msg_Touches.f touches
  rw [IsPoint_eq]
  simp only [Option.bind_some, Span_eq _ _ _ _ _ _ h]
  cases hp : isPt k with
  | false =>
    by_cases h4 : k = 4
    · simp [h4, Holds_eq, span, show isPt 4 = false from rfl]
    · simp [h4]
  | true =>
    have h4 := isPt_ne4 hp
    by_cases hs : y.toList = s.toList <;> simp [hs, h4, same]
theorem Apply_eq (n : Nat) (k q : Int) (y t vv : ByteArray) (d : Int) (v : ByteArray) (is : Bool) : msg_Apply.f (n + 9) k q y t vv d v is = some (applyV k vv d v is) := by
  unfold msg_Apply.f applyV
  by_cases h1 : k = 1
  · simp [h1]
  · by_cases h3 : k = 3
    · simp [h3, word_Add_eq]
    · by_cases h2 : k = 2
      · simp [h2, msg_Apply.j0]
      · by_cases h4 : k = 4
        · simp [h4, msg_Apply.j0]
        · have b4 : (k == 4) = false := by simp [h4]
          cases is <;> simp [h1, h2, h3, h4, msg_Apply.j0, b4]
theorem On_eq (n : Nat) (k q : Int) (y t vv : ByteArray) (d : Int) (s v : ByteArray) (is : Bool) (h : y.size ≤ 140737488351232) : msg_On.f (n + 9) k q y t vv d s v is = some (onV k y t vv d s v is) := by
  unfold msg_On.f onV
  rw [Touches_eq _ _ _ _ _ _ _ h, Apply_eq, Apply_eq]
  simp only [Option.bind_some]
  cases touches k y t s
  · simp [applyV]
  · simp
theorem Before_eq (a b : ByteArray) : key_Before.f a b = some (before a b) := by
  unfold key_Before.f before emp lt
  by_cases h1 : a.toList = []
  · simp [h1]
  · by_cases h2 : b.toList = [] <;> simp [h1, h2]
theorem First_eq (a b : ByteArray) : key_First.f a b = some (if before b a = true then b else a) := by
  unfold key_First.f
  rw [Before_eq]
  cases before b a <;> simp
end Go.Proofs.Ytgbikacioojpjaa.P
end
section
set_option linter.unusedVariables false
set_option linter.unusedSimpArgs false
namespace Go.Proofs.Ytgbikacioojpjaa.P
open Go.RowKit Go.Proofs.YtgbikacioojpjaaW.PrintWords Go.Proofs.YtgbikacioojpjaaW.PrintLast Go.Proofs.YtgbikacioojpjaaW.PrintMore Go.Proofs.Ytgbikacioojpjaa.Own Go.Proofs.Ytgbikacioojpjaa
def first (a b : ByteArray) : ByteArray := if before b a = true then b else a
def meet (f t g u : ByteArray) : ByteArray × ByteArray × Bool :=
  if (rr f t && rr g u && rr (mxs f g) (first t u)) = true then (mxs f g, first t u, true) else (e0, e0, false)
theorem Meet_eq (n : Nat) (f t g u : ByteArray) : key_Meet.f (n + 9) f t g u = some (meet f t g u) := by
  unfold key_Meet.f meet
  rw [RightRange_eq, RightRange_eq]
  simp only [Option.bind_some]
  cases h1 : rr f t
  · simp [key_Meet.j0]
  · cases h2 : rr g u
    · simp [key_Meet.j0]
    · simp only [if_true, key_Meet.j0, Bool.not_true, Bool.false_eq_true, if_false]
      rw [First_eq]
      simp only [Option.bind_some, RightRange_eq]
      show (if rr (mxs f g) (first t u) = true then _ else _) = _
      cases h3 : rr (mxs f g) (first t u) <;> simp [first]
abbrev M := S25
def clip (k q : Int) (y t v : ByteArray) (d : Int) (f u : ByteArray) : Int × Int × ByteArray × ByteArray × ByteArray × Int × Bool :=
  if (isPt k && rr f u && holds f u y) = true then (k, q, y, t, v, d, true)
  else if (decide (k = 4) && (meet y t f u).2.2) = true then (k, q, (meet y t f u).1, (meet y t f u).2.1, v, d, true)
  else (0, 0, e0, e0, e0, 0, false)
theorem Clip_eq (n : Nat) (k q : Int) (y t v : ByteArray) (d : Int) (f u : ByteArray) (h : y.size ≤ 140737488351232) : msg_Clip.f (n + 19) k q y t v d f u = some (clip k q y t v d f u) := by
  have tail : msg_Clip.j0 (n + 19) false k q y t v d f u = some (if (decide (k = 4) && (meet y t f u).2.2) = true then (k, q, (meet y t f u).1, (meet y t f u).2.1, v, d, true) else (0, 0, e0, e0, e0, 0, false)) := by
    simp only [msg_Clip.j0, Bool.false_eq_true, if_false]
    by_cases h4 : k = 4
    · rw [if_pos h4, Span_eq _ _ _ _ _ _ h]
      simp only [Option.bind_some]
      have e : span k y t = (y, t) := by
        unfold span
        rw [h4]
        rfl
      rw [e, Meet_eq (n + 9)]
      simp only [Option.bind_some, h4, decide_true, Bool.true_and]
      split <;> rfl
    · rw [if_neg h4]
      simp [h4]
  unfold msg_Clip.f clip
  rw [IsPoint_eq]
  simp only [Option.bind_some, RightRange_eq, Holds_eq]
  cases hp : isPt k
  · simp only [Bool.false_eq_true, if_false, Bool.false_and]
    exact tail
  · cases h1 : rr f u
    · simp only [if_true, Bool.false_eq_true, if_false, Bool.and_false, Bool.false_and]
      exact tail
    · cases h2 : holds f u y
      · simp only [if_true, Bool.and_false, Bool.false_eq_true, if_false]
        exact tail
      · simp only [if_true, Bool.and_self]
        simp only [msg_Clip.j0, if_true]
def rest (k q : Int) (y t v : ByteArray) (d : Int) (f u : ByteArray) : List M :=
  if k < 1 ∨ k > 4 then [] else
  if (clip k q y t v d f u).2.2.2.2.2.2 = true then
    (if k = 4 then
      (if lt y (clip k q y t v d f u).2.2.1 = true then [(⟨k, q, y, (clip k q y t v d f u).2.2.1, v, d⟩ : M)] else []) ++
      (if before (clip k q y t v d f u).2.2.2.1 t = true then [(⟨k, q, (clip k q y t v d f u).2.2.2.1, t, v, d⟩ : M)] else [])
    else [])
  else [⟨k, q, y, t, v, d⟩]
theorem Rest_eq (n : Nat) (k q : Int) (y t v : ByteArray) (d : Int) (f u : ByteArray) (h : y.size ≤ 140737488351232) : msg_Rest.f (n + 29) k q y t v d f u = some (rest k q y t v d f u) := by
  have tail : ∀ b, msg_Rest.j0 (n + 29) b k q y t v d f u = some (if b = true then [] else
      if (clip k q y t v d f u).2.2.2.2.2.2 = true then
        (if k = 4 then
          (if lt y (clip k q y t v d f u).2.2.1 = true then [(⟨k, q, y, (clip k q y t v d f u).2.2.1, v, d⟩ : M)] else []) ++
          (if before (clip k q y t v d f u).2.2.2.1 t = true then [(⟨k, q, (clip k q y t v d f u).2.2.2.1, t, v, d⟩ : M)] else [])
        else [])
      else [⟨k, q, y, t, v, d⟩]) := by
    intro b
    simp only [msg_Rest.j0]
    cases b
    · simp only [Bool.false_eq_true, if_false]
      rw [Clip_eq (n + 9) _ _ _ _ _ _ _ _ h]
      simp only [Option.bind_some, msg_Rest.j1, Before_eq]
      generalize clip k q y t v d f u = c
      cases hc : c.2.2.2.2.2.2
      · simp
      · by_cases h4 : k = 4
        · cases h5 : lt y c.2.2.1
          · have h5' : ¬ Op.bytesLess y.toList c.2.2.1.toList = true := by simpa [lt] using h5
            cases h6 : before c.2.2.2.1 t <;> simp [h4, h5']
          · have h5' : Op.bytesLess y.toList c.2.2.1.toList = true := h5
            cases h6 : before c.2.2.2.1 t <;> simp [h4, h5']
        · simp [h4]
    · simp
  unfold msg_Rest.f rest
  by_cases h1 : k < 1
  · rw [if_pos h1, tail, if_pos rfl]
    simp [h1]
  · rw [if_neg h1, tail]
    by_cases h2 : k > 4
    · simp [h2]
    · simp [h1, h2]
end Go.Proofs.Ytgbikacioojpjaa.P
end
section
set_option linter.unusedVariables false
set_option linter.unusedSimpArgs false
namespace Go.Proofs.Ytgbikacioojpjaa.P
open Go.RowKit Go.Proofs.YtgbikacioojpjaaW.PrintWords Go.Proofs.YtgbikacioojpjaaW.PrintLast Go.Proofs.YtgbikacioojpjaaW.PrintMore Go.Proofs.Ytgbikacioojpjaa.Own Go.Proofs.Ytgbikacioojpjaa
theorem lt_mk (a b : Array UInt8) : lt ⟨a⟩ ⟨b⟩ = Op.bytesLess a.toList b.toList := by simp [lt, ba_mk]
theorem emp_mk (a : Array UInt8) : emp ⟨a⟩ = decide (a.toList = []) := by simp [emp, ba_mk]
theorem mxs_lt (a b : ByteArray) : mxs a b = if lt a b = true then b else a := rfl
theorem live_clip : clip 4 0 (⟨#[97]⟩ : ByteArray) (⟨#[122]⟩ : ByteArray) (⟨#[]⟩ : ByteArray) 0 (⟨#[99]⟩ : ByteArray) (⟨#[102]⟩ : ByteArray) = (4, 0, ⟨#[99]⟩, ⟨#[102]⟩, ⟨#[]⟩, 0, true) := by
  have a1 : first (⟨#[122]⟩ : ByteArray) ⟨#[102]⟩ = ⟨#[102]⟩ := by simp [first, before, lt_mk, emp_mk, Op.bytesLess]
  have a2 : mxs (⟨#[97]⟩ : ByteArray) ⟨#[99]⟩ = ⟨#[99]⟩ := by simp [mxs_lt, lt_mk, Op.bytesLess]
  have a3 : meet (⟨#[97]⟩ : ByteArray) ⟨#[122]⟩ ⟨#[99]⟩ ⟨#[102]⟩ = (⟨#[99]⟩, ⟨#[102]⟩, true) := by
    unfold meet
    rw [a1, a2]
    simp [rr, lt_mk, emp_mk, Op.bytesLess]
  unfold clip
  rw [a3]
  simp [isPt]
theorem live_rest : (rest 4 0 (⟨#[97]⟩ : ByteArray) (⟨#[122]⟩ : ByteArray) (⟨#[]⟩ : ByteArray) 0 (⟨#[99]⟩ : ByteArray) (⟨#[102]⟩ : ByteArray)).length = 2 := by
  unfold rest
  rw [live_clip]
  simp [lt_mk, before, emp_mk, Op.bytesLess]
theorem live_on : onV 1 (⟨#[107]⟩ : ByteArray) (⟨#[]⟩ : ByteArray) (⟨#[118]⟩ : ByteArray) 0 (⟨#[107]⟩ : ByteArray) (⟨#[]⟩ : ByteArray) false = (⟨#[118]⟩, true) := by
  simp [onV, touches, isPt, same, applyV]
theorem live_size : msg_Size.f 4 0 (⟨#[97]⟩ : ByteArray) (⟨#[122]⟩ : ByteArray) (⟨#[]⟩ : ByteArray) 0 = some 18 := by kernel_rfl
theorem live_eq (n : Nat) : catchmentlaw04_live.f (n + 39) = some true := by
  unfold catchmentlaw04_live.f
  rw [Clip_eq (n + 20) _ _ _ _ _ _ _ _ (by decide), On_eq (n + 30) _ _ _ _ _ _ _ _ _ (by decide), Rest_eq (n + 10) _ _ _ _ _ _ _ _ (by decide), live_clip, live_on]
  simp only [Option.bind_some, if_true, live_rest, ba_mk]
  rw [live_size]
  simp
end Go.Proofs.Ytgbikacioojpjaa.P
end
section
set_option linter.unusedVariables false
set_option linter.unusedSimpArgs false
namespace Go.Proofs.Ytgbikacioojpjaa.Pure
open Go.RowKit Go.Proofs.Ytgbikacioojpjaa.P Go.Proofs.Ytgbikacioojpjaa.Own Go.Proofs.YtgbikacioojpjaaW.PrintWords Go.Proofs.YtgbikacioojpjaaW.PrintLast Go.Proofs.YtgbikacioojpjaaW.PrintMore Go.Proofs.Ytgbikacioojpjaa
theorem rgt_eq (f t : ByteArray) : Wm.rgt f t = rr f t := by
  unfold Wm.rgt rr emp lt
  by_cases h : t.toList = [] <;> simp [h]
theorem bfr_eq (a b : ByteArray) : Wm.bfr a b = before a b := by
  unfold Wm.bfr before emp lt
  by_cases h1 : a.toList = []
  · simp [h1]
  · by_cases h2 : b.toList = [] <;> simp [h1, h2]
theorem meet_eq (f t g u : ByteArray) : Wm.meet f t g u = meet f t g u := by
  have e1 : Wm.gtr f g = mxs f g := rfl
  have e2 : Wm.lst t u = first t u := by unfold Wm.lst first; rw [bfr_eq]
  unfold Wm.meet meet
  rw [rgt_eq, rgt_eq, rgt_eq, e1, e2]
  cases rr f t <;> cases rr g u <;> cases rr (mxs f g) (first t u) <;> rfl
theorem Holds2_eq (f t s : ByteArray) : catchmentref02_Holds.f f t s = some (holds f t s) := by
  unfold catchmentref02_Holds.f holds lt emp
  cases Op.bytesLess s.toList f.toList
  · by_cases ht : t.toList = [] <;> simp [ht]
  · rfl
theorem Right2_eq (f t : ByteArray) : catchmentref02_Right.f f t = some (rr f t) := by
  unfold catchmentref02_Right.f rr emp lt
  by_cases ht : t.toList = [] <;> simp [ht]
theorem Before2_eq (a b : ByteArray) : catchmentref02_Before.f a b = some (before a b) := by
  unfold catchmentref02_Before.f before emp lt
  by_cases h1 : a.toList = []
  · simp [h1]
  · by_cases h2 : b.toList = [] <;> simp [h1, h2]
theorem Clip4_eq (n : Nat) (k q : Int) (y t v : ByteArray) (d : Int) (f u : ByteArray) : catchmentref04_Clip.f (n + 1) k q y t v d f u = some (clip k q y t v d f u) := by
  have tail : catchmentref04_Clip.j0 (n + 1) false k q y t v d f u = some (if (decide (k = 4) && (meet y t f u).2.2) = true then (k, q, (meet y t f u).1, (meet y t f u).2.1, v, d, true) else (0, 0, e0, e0, e0, 0, false)) := by
    simp only [catchmentref04_Clip.j0, Bool.false_eq_true, if_false]
    unfold catchmentref02_Meet.f
    rw [meet_eq]
    simp only [Option.bind_some]
    by_cases h4 : k = 4
    · simp only [h4, if_true, decide_true, Bool.true_and]
      split <;> rfl
    · simp [h4]
  unfold catchmentref04_Clip.f clip
  rw [Point_eq]
  simp only [Option.bind_some, Right2_eq, Holds2_eq]
  cases hp : isPt k
  · simp only [Bool.false_eq_true, if_false, Bool.false_and]
    exact tail
  · cases h1 : rr f u
    · simp only [if_true, Bool.false_eq_true, if_false, Bool.and_false, Bool.false_and]
      exact tail
    · cases h2 : holds f u y
      · simp only [if_true, Bool.and_false, Bool.false_eq_true, if_false]
        exact tail
      · simp only [if_true, Bool.and_self]
        simp only [catchmentref04_Clip.j0, if_true]
theorem Rest4_eq (n : Nat) (k q : Int) (y t v : ByteArray) (d : Int) (f u : ByteArray) : catchmentref04_Rest.f (n + 1) k q y t v d f u = some (rest k q y t v d f u) := by
  have hpt : isPt k = true → 1 ≤ k ∧ k ≤ 4 := fun h => by simp only [isPt, decide_eq_true_eq] at h; omega
  have hin : (clip k q y t v d f u).2.2.2.2.2.2 = true → ¬ (k < 1 ∨ k > 4) := by
    unfold clip
    split
    · rename_i h
      intro _
      have := hpt (by cases q : isPt k <;> simp [q] at h ⊢)
      omega
    · split
      · rename_i h
        intro _
        have : k = 4 := by by_cases q : k = 4 <;> simp [q] at h ⊢
        omega
      · intro h; cases h
  unfold catchmentref04_Rest.f rest
  simp only [Option.bind_some, Clip4_eq]
  generalize clip k q y t v d f u = c at hin ⊢
  cases hc : c.2.2.2.2.2.2
  · simp only [Bool.false_eq_true, if_false]
    by_cases h1 : k ≥ 1
    · by_cases h2 : k ≤ 4
      · rw [if_pos h1, if_pos h2, if_pos (by simp), if_neg (by omega)]
        rfl
      · rw [if_pos h1, if_neg h2, if_pos (by omega)]
    · rw [if_neg h1, if_pos (by omega)]
  · simp only [if_true]
    rw [if_neg (hin hc)]
    by_cases h4 : k = 4
    · rw [if_pos h4, if_pos h4]
      simp only [catchmentref04_Rest.j0, Before2_eq, Option.bind_some]
      cases h5 : lt y c.2.2.1
      · have h5' : ¬ Op.bytesLess y.toList c.2.2.1.toList = true := by simpa [lt] using h5
        cases h6 : before c.2.2.2.1 t <;> simp [h5']
      · have h5' : Op.bytesLess y.toList c.2.2.1.toList = true := h5
        cases h6 : before c.2.2.2.1 t <;> simp [h5']
    · rw [if_neg h4, if_neg h4]
theorem Same_loop (L : List M) (hL : L.length ≤ 1000) : ∀ (l : List M) (i k : Nat), L.drop i = l → i ≤ L.length → l.length < k → catchmentref04_Same.l0 k L L i = some true := by
  intro l
  induction l with
  | nil =>
    intro i k hd hi hk
    obtain ⟨k, rfl⟩ : ∃ m, k = m + 1 := ⟨k - 1, by omega⟩
    have : L.length ≤ i := by have := congrArg List.length hd; simp at this; omega
    rw [catchmentref04_Same.l0, if_neg (by omega)]
  | cons x l ih =>
    intro i k hd hi hk
    obtain ⟨k, rfl⟩ : ∃ m, k = m + 1 := ⟨k - 1, by omega⟩
    have hlt : i < L.length := by
      rcases Nat.lt_or_ge i L.length with h | h
      · exact h
      · rw [List.drop_eq_nil_of_le h] at hd; cases hd
    have hd2 : L.drop (i + 1) = l := by
      have := congrArg (List.drop 1) hd
      simpa [List.drop_drop] using this
    rw [catchmentref04_Same.l0, if_pos (by omega), if_pos (by omega), if_pos (by omega), IntWalk.wrap64_in _ (by omega)]
    have := ih (i + 1) k hd2 (by omega) (by simp at hk; omega)
    rw [show ((i + 1 : Nat) : Int) = (i : Int) + 1 from by omega] at this
    simp [this]
theorem Same_refl (k : Nat) (L : List M) (hL : L.length ≤ 1000) (hk : L.length < k) : catchmentref04_Same.f k L L = some true := by
  unfold catchmentref04_Same.f
  rw [if_pos rfl]
  exact Same_loop L hL L 0 k rfl (by omega) hk
theorem rest_len (k q : Int) (y t v : ByteArray) (d : Int) (f u : ByteArray) : (rest k q y t v d f u).length ≤ 2 := by
  unfold rest
  (repeat' split) <;> simp
theorem MsgParts : ∀ (x0 : S25) (x1 : S31), (wf25 x0) → (wf31 x1) → ∃ k, catchmentlaw04_MsgParts.f k x0.f0 x0.f1 x0.f2 x0.f3 x0.f4 x0.f5 x1.f0 x1.f1 = some true := by
  intro m r hm _
  obtain ⟨_, _, hy, ht, hv, hd⟩ := hm
  refine ⟨50, ?_⟩
  have hl := rest_len m.f0 m.f1 m.f2 m.f3 m.f4 m.f5 r.f0 r.f1
  unfold catchmentlaw04_MsgParts.f
  rw [Clip_eq 31 _ _ _ _ _ _ _ _ hy, Clip4_eq 49, live_eq 11, Rest_eq 21 _ _ _ _ _ _ _ _ hy, Rest4_eq 49]
  simp only [Option.bind_some, if_true, beq_self_eq_true, Bool.and_self]
  rw [Same_refl 50 _ (by omega) (by omega)]
  rfl
end Go.Proofs.Ytgbikacioojpjaa.Pure
end
section
namespace Go.Proofs.Ytgbikacioojpjaa.msgParts
open Go.ChangeShapes Go.WideShapes Go.ChangeAt Go.RowKit Go.Proofs.Ytgbikacioojpjaa.P Go.Proofs.Ytgbikacioojpjaa.Rd Go.Proofs.YtgbikacioojpjaaW.PrintWords
open Go.ChangeMaps (open_string shut_string)
set_option linter.unusedVariables false
theorem own : ownKnob Try.prog.godebug = none := by kernel_rfl
theorem laidOut : laidOutB Try.prog = true := by kernel_rfl
set_option maxHeartbeats 2000000 in
set_option maxRecDepth 100000 in
theorem lifted (os : Os) (started : os.Started) (H : Type) (enc : TypeId × Value → H) :
    ReturnsInHanded {} Try.checked os 4 .any (Rows.msgPartsSpec.pre6 enc Try.prog Try.f4 Rows.msgPartsRow.domain false) (Rows.msgPartsSpec.post enc Try.prog Try.f4 false true false false) := by
  refine returnsInHanded_of_change_sized (C := Try.checked) own started (by kernel_rfl) Try.func4
    (ChangeSpec.witness6 (enc := enc) (C := Try.checked) false ⟨#[], #[.agg #[.int .u8 0, .int .i64 0, .string ByteArray.empty, .string ByteArray.empty, .string ByteArray.empty, .int .u64 0], .agg #[.string ByteArray.empty, .string ByteArray.empty]], []⟩ 8 (by kernel_rfl) (by kernel_rfl) (by kernel_rfl) (by kernel_rfl)) ?_
  intro W base args ds gs before hval0 hW hcnd hsz0 _
  have hsz : (DataW.weightsEach Try.prog (Try.f4.params.toList ++ Rows.msgPartsSpec.plain.varTypes Try.prog) (ds ++ gs)).all (· ≤ reachBytes) = true := hsz0
  have hval : ∀ (j : Nat) t v, Try.f4.params[j]? = some t → args[j]? = some v → Value.okWide Try.prog W .any base t v := hval0
  have hW' := hW
  obtain ⟨p, q, hA0, hV, rfl, hfz, hnd⟩ := hW
  have hA : DataW.TrodAll enc Try.prog W 0 (fun _ => true) true Try.f4.params.toList args.toList ds p := hA0
  rw [Try.params4] at hA hval hsz
  obtain ⟨v0, vs0, d0, ds0, p0, q0, hargs, rfl, rfl, h0, r0⟩ := trodAll_cons hA
  obtain ⟨v1, vs1, d1, ds1, p1, q1, rfl, rfl, rfl, h1, r1⟩ := trodAll_cons r0
  obtain ⟨rfl, rfl, rfl⟩ := trodAll_nil r1
  obtain rfl : args = #[v0, v1] := by cases args; simp_all
  obtain ⟨rfl, rfl⟩ := trodVars_none hV
  have k0 := h0
  have lt0 : ∀ x ∈ p0, x.block < W.heap.size := by obtain ⟨m, hm⟩ := k0; exact DataW.trod_lt m _ _ _ hm
  have ww0 : ∀ n ∈ d0.weights Try.prog 25, n ≤ reachBytes := fun n hn => by simpa using List.all_eq_true.1 hsz n (DataW.weights_mem_each (j := 0) rfl rfl n hn)
  obtain ⟨cs0, rfl, _⟩ := okWide_struct Try.underlying25 (hval 0 25 v0 rfl rfl)
  obtain ⟨fu0, hf0⟩ := h0
  obtain ⟨x0, kx0, w0⟩ := o25.down hf0 ww0
  have e0 := k25_open kx0
  obtain rfl : cs0 = #[.int .u8 x0.f0, .int .i64 x0.f1, .string x0.f2, .string x0.f3, .string x0.f4, .int .u64 x0.f5] := Array.toList_inj.1 (show cs0.toList = (#[.int .u8 x0.f0, .int .i64 x0.f1, .string x0.f2, .string x0.f3, .string x0.f4, .int .u64 x0.f5] : Array Value).toList from e0)
  have k1 := h1
  have lt1 : ∀ x ∈ p1, x.block < W.heap.size := by obtain ⟨m, hm⟩ := k1; exact DataW.trod_lt m _ _ _ hm
  have ww1 : ∀ n ∈ d1.weights Try.prog 31, n ≤ reachBytes := fun n hn => by simpa using List.all_eq_true.1 hsz n (DataW.weights_mem_each (j := 1) rfl rfl n hn)
  obtain ⟨cs1, rfl, _⟩ := okWide_struct Try.underlying31 (hval 1 31 v1 rfl rfl)
  obtain ⟨fu1, hf1⟩ := h1
  obtain ⟨x1, kx1, w1⟩ := o31.down hf1 ww1
  have e1 := k31_open kx1
  obtain rfl : cs1 = #[.string x1.f0, .string x1.f1] := Array.toList_inj.1 (show cs1.toList = (#[.string x1.f0, .string x1.f1] : Array Value).toList from e1)
  clear hA0 hval0 hsz0 hsz
  obtain ⟨k_, hp⟩ := Pure.MsgParts x0 x1 w0 w1
  refine (catchmentlaw04_MsgParts.calls (k := k_) (r := true) (w := W)  (h := hp)).mono fun e W' ⟨he, bel0⟩ => ?_
  have bel : Below W.heap.size W W' := bel0
  subst he
  exact ⟨_, rfl, _, _, _, [], _, [], hW', trodAll_mk1 (shut_bool Try.underlying4 _), (trodAll_cons_mk (Below.trod laidOut (by kernel_rfl) (of_decide_eq_true (by kernel_rfl)) k0 bel lt0) (trodAll_cons_mk (Below.trod laidOut (by kernel_rfl) (of_decide_eq_true (by kernel_rfl)) k1 bel lt1) trodAll_mk0)), rfl, bel.frame _, fun h => by cases h⟩
theorem over : Rows.msgPartsRow.holds Try.pinned (OpenSpec.ofChange Rows.msgPartsSpec) :=
  OpenClaim.holds_of_wide 4 Try.f4 rfl rfl rfl rfl rfl rfl rfl ⟨rfl, rfl, rfl, rfl, rfl⟩ rfl rfl rfl rfl rfl (by kernel_rfl) Try.func4 (by kernel_rfl)
    (of_decide_eq_true (by kernel_rfl)) (by unfold Func.isWrapper; first | (rw [if_pos (by decide +kernel)]; kernel_rfl) | (rw [if_neg (by decide +kernel)]; exact ⟨rfl, rfl⟩))
    (fun os started H enc _ => lifted os started H enc)
end Go.Proofs.Ytgbikacioojpjaa.msgParts
namespace Go.Proofs.Ytgbikacioojpjaa
theorem msgParts_holds : Rows.MsgPartsSaid := msgParts.over
#print axioms msgParts_holds
end Go.Proofs.Ytgbikacioojpjaa
end
