/- Texts of one claim (laid by shake.py). -/
import Derived.Test.YtebejadiaooooaaZs25
import Derived.Test.YtebejadiaooooaaZs9
import Derived.Test.YtebejadiaooooaaZs10
import Derived.Test.YtebejadiaooooaaZs16
import Derived.RangeFuncBox
set_option linter.unusedVariables false
set_option linter.unusedSimpArgs false
section
namespace Go.Proofs.Ytebejadiaooooaa.Cp
open Go.RowKit Go.Shelf Go.Proofs.YtebejadiaooooaaW.PrintWords Go.Proofs.YtebejadiaooooaaW.PrintLast Go.Proofs.YtebejadiaooooaaW.PrintMore Go.Proofs.Ytebejadiaooooaa.Own Go.Proofs.Ytebejadiaooooaa
set_option maxHeartbeats 8000000
set_option maxRecDepth 100000
def keysM (m : Ms) : List ByteArray := [m.f2, P.succB m.f2, m.f3, P.succB m.f3]
def keys0 : List ByteArray := [P.e0, P.succB P.e0]
def vals0 : List ByteArray := [P.e0, strOfNums (Wp.eight 0), strOfNums (Wp.eight 1)]
def valM (m : Ms) : List ByteArray := if m.f0 = 1 then [m.f4] else []
def marksK (l : List Ms) : List ByteArray := keys0 ++ l.flatMap keysM
def marksV (l : List Ms) : List ByteArray := vals0 ++ l.flatMap valM
theorem keysM_length : ∀ l : List Ms, (l.flatMap keysM).length = 4 * l.length
  | [] => rfl
  | m :: l => by rw [List.flatMap_cons, List.length_append, keysM_length l, List.length_cons]; simp [keysM]; omega
theorem marksK_length (l : List Ms) : (marksK l).length = 2 + 4 * l.length := by unfold marksK; rw [List.length_append, keysM_length]; rfl
theorem valM_length : ∀ l : List Ms, (l.flatMap valM).length ≤ l.length
  | [] => Nat.le_refl _
  | m :: l => by
    rw [List.flatMap_cons, List.length_append, List.length_cons]
    have := valM_length l
    have : (valM m).length ≤ 1 := by unfold valM; split <;> simp
    omega
theorem marksV_length (l : List Ms) : (marksV l).length ≤ 3 + l.length := by unfold marksV; rw [List.length_append]; have := valM_length l; show 3 + _ ≤ _; omega
abbrev Sw (W : World) (base : Nat) (v : Value) (l : List ByteArray) : Prop := W.ownsRow base 9 1 v l.length (l.map Value.string)
structure TwoR (W : World) (base : Nat) (kv vv : Value) (K V : List ByteArray) : Prop where
  k : Sw W base kv K
  v : Sw W base vv V
  ne : kv.ownBlock ≠ vv.ownBlock
theorem Sw.below {w W : World} {base : Nat} {v : Value} {xs : List ByteArray} (ho : Sw w base v xs) (hb : Below w.heap.size w W) : Sw W base v xs :=
  own_move ho (fun k hk => hb.block k (own_lt ho k hk))
theorem TwoR.below {w W : World} {base : Nat} {kv vv : Value} {K V : List ByteArray} (h : TwoR w base kv vv K V) (hb : Below w.heap.size w W) : TwoR W base kv vv K V := ⟨h.k.below hb, h.v.below hb, h.ne⟩
theorem Sw.some {W : World} {base : Nat} {v : Value} {l : List ByteArray} (h : Sw W base v l) (hl : 0 < l.length) : ∃ b, v.ownBlock = some b := by
  rcases h.2 with ⟨h', _⟩ | ⟨g, cap, cur, h', _⟩
  · omega
  · exact ⟨g, by rw [h']; rfl⟩
theorem cell_lit {W : World} {D e : Nat} {cs : Array Value} (h : W.heap[D]? = some (.cells cs e (0, 0))) : ∀ j u, cs.toList[j]? = some u → W.cell? ((⟨D, 0, none⟩ : Addr).add j) = some u := by
  intro j u hj
  have : (⟨D, 0, none⟩ : Addr).add j = ⟨D, j, none⟩ := by unfold Addr.add; split <;> simp_all
  rw [this, cell_of_row W D j cs e (0, 0) h]
  simpa using hj
theorem TwoR.moreK {w w' : World} {base : Nat} {kv kv' vv : Value} {K V l : List ByteArray} (h : TwoR w base kv vv K V) (hV : 0 < V.length) (ho : w'.ownsRow base 9 1 kv' (K.length + l.length) (K.map Value.string ++ l.map Value.string)) (hg : w.grownBy w' kv.ownBlock) (hat : kv'.ownBlock = kv.ownBlock ∨ kv'.ownBlock = some w.heap.size) : TwoR w' base kv' vv (K ++ l) V := by
  refine ⟨by unfold Sw; rw [List.length_append, List.map_append]; exact ho, h.v.kept hg (.inr (fun e => h.ne e.symm)), ?_⟩
  rcases hat with e | e
  · rw [e]; exact h.ne
  · rw [e]
    intro e2
    have := own_lt h.v _ e2.symm
    omega
theorem TwoR.moreV {w w' : World} {base : Nat} {kv vv vv' : Value} {K V l : List ByteArray} (h : TwoR w base kv vv K V) (hK : 0 < K.length) (ho : w'.ownsRow base 9 1 vv' (V.length + l.length) (V.map Value.string ++ l.map Value.string)) (hg : w.grownBy w' vv.ownBlock) (hat : vv'.ownBlock = vv.ownBlock ∨ vv'.ownBlock = some w.heap.size) : TwoR w' base kv vv' K (V ++ l) := by
  refine ⟨h.k.kept hg (.inr h.ne), by unfold Sw; rw [List.length_append, List.map_append]; exact ho, ?_⟩
  rcases hat with e | e
  · rw [e]; exact h.ne
  · rw [e]
    intro e2
    have := own_lt h.k _ e2
    omega
theorem TwoR.alloc {w : World} {base : Nat} {kv vv : Value} {K V : List ByteArray} (h : TwoR w base kv vv K V) (o : Obj) : TwoR (w.alloc o) base kv vv K V := ⟨World.ownsRow.alloc h.k o, World.ownsRow.alloc h.v o, h.ne⟩
theorem infoS : (Try.prog.info? 9).map (fun i => (i.zero, i.size, i.bytes)) = some (some (.string ⟨#[]⟩), 1, 16) := by kernel_rfl
theorem info_parts2 {P : Program} {t : TypeId} {z : Option Value} {a b : Nat} (h : (P.info? t).map (fun i => (i.zero, i.size, i.bytes)) = some (z, a, b)) : ∃ i, P.info? t = some i ∧ i.zero = z ∧ i.size = a ∧ i.bytes = b := by
  cases hi : P.info? t with
  | none => rw [hi] at h; cases h
  | some i =>
    rw [hi] at h
    simp only [Option.map_some, Option.some.injEq, Prod.mk.injEq] at h
    exact ⟨i, rfl, h.1, h.2.1, h.2.2⟩
theorem after_any (s : ByteArray) (hs : s.size ≤ 140737488351232) (W : World) : Calls Try.prog 82 #[.string s] W fun e w' => e = .returned (.string (P.succB s)) ∧ Below W.heap.size W w' :=
  (P.key_After.calls _ _ _ (P.After_eq _ hs)).mono (by rintro e w' ⟨h, ⟨n, rfl⟩⟩; exact ⟨h, pw_below_drewN (Below.refl _ _) n⟩)
theorem le_max4 {n k : Nat} (h : n ≤ 1000000) (hk : k ≤ 10) : n + k ≤ maxLen := Nat.le_trans (Nat.add_le_add h hk) (by unfold maxLen; decide)
def doneJ (a b : List Ms) (j : Int) : List Ms := if j = 0 then [] else if j = 1 then a else a ++ b
def okS2 (m : Ms) : Prop := m.f2.size ≤ 140737488351232 ∧ m.f3.size ≤ 140737488351232
theorem marks_any {w : World} {A B : Option Addr} {c d : Nat} {a b : List Ms} (hA : Kd.C P.k32 w A a.length a) (hB : Kd.C P.k32 w B b.length b) (hca : a.length ≤ c) (hcb : b.length ≤ d) (hla : a.length ≤ 50000) (hlb : b.length ≤ 50000) (hsa : ∀ x ∈ a, okS2 x) (hsb : ∀ x ∈ b, okS2 x) :
    Calls Try.prog 112 #[.slice A a.length c, .slice B b.length d] w fun e w' => ∃ kv vv, e = .returned (.tuple #[kv, vv]) ∧ TwoR w' w.heap.size kv vv (marksK (a ++ b)) (marksV (a ++ b)) ∧ Below w.heap.size w w' := by
  have hmaxa := Kd.C_max hA
  have hmaxb := Kd.C_max hB
  have hum := Try.underlying32
  obtain ⟨iS, hi, hz0, hz1, hz2⟩ := info_parts2 infoS
  have hB0 := Below.refl w.heap.size w
  have hx0 : ∀ (x y : Value) (w : World), (Instr.index 143 (.agg #[x, y]) (.int .i64 0)).run Try.prog w = .ok x w := fun x y w => by rfl
  have hx1 : ∀ (x y : Value) (w : World), (Instr.index 143 (.agg #[x, y]) (.int .i64 1)).run Try.prog w = .ok y w := fun x y w => by rfl
  have hy0 : ∀ (x y : Value) (w : World), (Instr.index 144 (.agg #[x, y]) (.int .i64 0)).run Try.prog w = .ok x w := fun x y w => by rfl
  have hy1 : ∀ (x y : Value) (w : World), (Instr.index 144 (.agg #[x, y]) (.int .i64 1)).run Try.prog w = .ok y w := fun x y w => by rfl
  have AF := after_any P.e0 (by decide)
  have W0 := Wp.put_any 0
  have W1 := Wp.put_any 1
  generalize hp0 : strOfNums (Wp.eight 0) = p0 at W0
  generalize hp1 : strOfNums (Wp.eight 1) = p1 at W1
  go_enter Try.func112, Try.ntmps112
  go_wp2_with (first
    | (go_at_call 82; refine (AF _).mono ?_; clear AF; rintro e w1 ⟨rfl, hb1⟩)
    | (go_at_call 95; refine (W0 _).mono ?_; clear W0; rintro e w2 ⟨rfl, hb2⟩)
    | (go_at_call 95; refine (W1 _).mono ?_; clear W1; rintro e w3 ⟨rfl, hb3⟩))
  have t1 : TwoR (w3.alloc (.cells #[.string P.e0, .string p0, .string p1] 9)) w.heap.size (.slice (some ⟨w1.heap.size, 0, none⟩) 2 2) (.slice (some ⟨w3.heap.size, 0, none⟩) 3 3) keys0 vals0 := by
    have k0 : Sw (w1.alloc (.cells #[.string P.e0, .string (P.succB P.e0)] 9)) w.heap.size (.slice (some ⟨w1.heap.size, 0, none⟩) 2 2) keys0 := World.ownsRow_lit w1 #[.string P.e0, .string (P.succB P.e0)] 2 hb1.size (by unfold maxLen; decide) rfl
    have v0 : Sw (w3.alloc (.cells #[.string P.e0, .string p0, .string p1] 9)) w.heap.size (.slice (some ⟨w3.heap.size, 0, none⟩) 3 3) vals0 := by
      unfold vals0
      rw [hp0, hp1]
      exact World.ownsRow_lit w3 #[.string P.e0, .string p0, .string p1] 3 (by have := hb1.size; have := hb2.size; have := hb3.size; simp at *; omega) (by unfold maxLen; decide) rfl
    refine ⟨World.ownsRow.alloc ((k0.below hb2).below hb3) _, v0, ?_⟩
    intro e
    have e : some w1.heap.size = some w3.heap.size := e
    injection e with e
    have := hb2.size
    have := hb3.size
    simp at *
    omega
  have hB1 : Below w.heap.size w (w3.alloc (.cells #[.string P.e0, .string p0, .string p1] 9)) := below_alloc (below_step (below_step (below_alloc hb1 _) hb2) hb3) _
  have hK1 : marksK (doneJ a b 0) = keys0 := by simp [doneJ, marksK]
  have hV1 : marksV (doneJ a b 0) = vals0 := by simp [doneJ, marksV]
  rw [← hK1, ← hV1] at t1
  clear hK1 hV1 hb1 hb2 hb3 hp0 hp1 hB0
  go_loopg [6, 7, 22] 2 (fun n kv vv jv wr => ∃ j : Int, jv = .int .i64 j ∧ Aside (0 ≤ j ∧ j.toNat + n = 2) ∧ Aside (TwoR wr w.heap.size kv vv (marksK (doneJ a b j)) (marksV (doneJ a b j))) ∧ Aside (Below w.heap.size w wr))
  case atStart => exact ⟨0, rfl, ⟨Int.le_refl _, by simp⟩, t1, hB1⟩
  case round =>
    clear hB1 t1
    obtain ⟨j, rfl, hJ, hT, hBr⟩ := hrel
    obtain ⟨hj0, hj2⟩ := hJ.out
    cases gk with
    | zero =>
      have d0 : decide (j < 2) = false := decide_eq_false (by omega)
      have hTF := hT.out
      have hdn : doneJ a b j = a ++ b := by unfold doneJ; rw [if_neg (by omega), if_neg (by omega)]
      rw [hdn] at hTF
      clear hA hB hJ hj0 hj2 hT
      go_wp2
      refine bodyPost_ret (results_tmp2 rfl _ _ _) rfl ?_
      exact ⟨_, _, rfl, hTF, hBr.out⟩
    | succ n =>
      obtain rfl | rfl : j = 0 ∨ j = 1 := by omega
      · have hpre : doneJ a b 0 = [] := by simp [doneJ]
        have hpost : doneJ a b (0 + 1) = [] ++ a := by simp [doneJ]
        have d00 : decide ((0 : Int) < 2) = true := rfl
        rw [hpre] at hT
        have hJ2 := Aside0.mk (And.intro hj2 hpost)
        clear hj2 hpost hpre hj0 hJ
        go_wp2
        go_loopg [6, 7, 27] a.length (fun n2 kv2 vv2 iv wi => ∃ i : Int, iv = .int .i64 i ∧ Aside (0 ≤ i ∧ i.toNat + n2 = a.length) ∧ Aside (TwoR wi w.heap.size kv2 vv2 (marksK ([] ++ a.take i.toNat)) (marksV ([] ++ a.take i.toNat))) ∧ Aside (Below w.heap.size w wi))
        case atStart => exact ⟨0, rfl, ⟨Int.le_refl _, by simp⟩, by show TwoR _ _ _ _ _ _; simpa using hT.out, hBr.out⟩
        case round =>
          clear hT hBr
          obtain ⟨i, rfl, hI, hT, hBi⟩ := hrel
          obtain ⟨hi0, hi2⟩ := hI.out
          cases gk with
          | zero =>
            have d0 : decide (i < (a.length : Int)) = false := decide_eq_false (by omega)
            have hTF := hT.out
            rw [List.take_of_length_le (by omega)] at hTF
            clear hi0 hi2 hI hT
            go_wp2
            go_roundg n
            case measure => omega
            case rel =>
              obtain ⟨hj2, hpost⟩ := hJ2.out
              exact ⟨0 + 1, rfl, ⟨by decide, by omega⟩, by rw [hpost]; exact hTF, hBi.out⟩
          | succ n2 =>
            have hlt : i < (a.length : Int) := by omega
            obtain ⟨ad, x, hadA, hx, q0, q1, q2, q3, q4, q5⟩ := at_M hA i hi0 hlt
            subst hadA
            have e0 := cell_below hBi.out q0
            have e1 := cell_below hBi.out q1
            have e2 := cell_below hBi.out q2
            have e3 := cell_below hBi.out q3
            have e4 := cell_below hBi.out q4
            have e5 := cell_below hBi.out q5
            have d0 := decide_eq_true hlt
            have d1 := decide_eq_true hi0
            have d2 := eq_true hi0
            have d3 := eq_true hlt
            have hwi : wrap64 (i + 1) = i + 1 := IntWalk.wrap64_in _ (by omega)
            have hxs := hsa x (List.mem_of_getElem? hx)
            have htk : Aside ([] ++ a.take (i + 1).toNat = ([] ++ a.take i.toNat) ++ [x]) := by
              show _ = _
              rw [show (i + 1).toNat = i.toNat + 1 by omega, List.take_add_one, hx, Option.toList_some, List.append_assoc]
            have hln : ([] ++ a.take i.toNat).length ≤ 100000 := by simp only [List.length_append, List.length_nil, List.length_take]; omega
            generalize [] ++ a.take i.toNat = dn at hT htk hln
            have hiA := Aside0.mk (And.intro hi0 (And.intro hlt hi2))
            have hCA := Aside0.mk hA
            have hBs := hBi.out.size
            have AF1 := after_any x.f2 hxs.1
            have AF2 := after_any x.f3 hxs.2
            have hkl := marksK_length dn
            have hvl := marksV_length dn
            clear hx q0 q1 q2 q3 q4 q5 hlt hi0 hi2 hI hxs hA
            go_wp2
            clear e0 e1 e2 e3 e4 e5
            have hTm := hT.out.alloc (objM x)
            have hDm := blk_new wr (objM x)
            have hBm := below_alloc hBi.out (objM x)
            have hnk : u6.ownBlock ≠ some wr.heap.size := fun e => by have := own_lt hT.out.k _ e; omega
            clear hT hBi
            go_loopg [6, 36] 2 (fun n3 kv3 hv w3 => ∃ h : Int, hv = .int .i64 h ∧ Aside (0 ≤ h ∧ h.toNat + n3 = 2) ∧ Aside (TwoR w3 w.heap.size kv3 u7 (marksK dn ++ (keysM x).take (2 * h.toNat)) (marksV dn)) ∧ Aside (w3.heap[wr.heap.size]? = some (objM x)) ∧ Aside (kv3.ownBlock ≠ some wr.heap.size) ∧ Aside (Below w.heap.size w w3))
            case atStart => exact ⟨0, rfl, ⟨Int.le_refl _, by simp⟩, by show TwoR _ _ _ _ _ _; simpa using hTm, hDm, hnk, hBm⟩
            case round =>
             clear hTm hDm hBm hnk
             obtain ⟨h, rfl, hH, hT, hD, hN, hB3⟩ := hrel
             obtain ⟨hh0, hh2⟩ := hH.out
             cases gk with
             | zero =>
              have d5 : decide (h < 2) = false := decide_eq_false (by omega)
              have hTF := hT.out
              rw [show 2 * h.toNat = 4 by omega] at hTF
              obtain ⟨y0, y1, y2, y3, y4, y5⟩ := cellsM hD.out
              clear hh0 hh2 hH hT
              by_cases h1 : x.f0 = 1
              · have hk1 : (x.f0 == 1) = true := by simpa using h1
                have hvx : valM x = [x.f4] := by unfold valM; rw [if_pos h1]
                have hvA := Aside0.mk hvx
                clear h1 hvx
                go_wp2_with (at_builtin; refine wpList_append_own_at _ rfl _ _ 24 rfl w.heap.size 9 iS (.string ⟨#[]⟩) 1 16 Try.underlying24 hi hz0 hz1 hz2 rfl (by decide) _ _ _ rfl (hTF.alloc (.cells #[.string x.f4] 9)).v ⟨_, 0, none⟩ 1 1 [.string x.f4] rfl rfl (cell_lit (blk_new _ (.cells #[.string x.f4] 9))) (by simp [Value.oneCell']) (le_max4 (by omega) (by decide)) (by omega) (below_alloc hB3.out _).size ?_; intro v5 w5 hown5 hg5 hnil5 hat5)
                go_roundg n2
                case measure => omega
                case rel =>
                  obtain ⟨hi0, hlt, hi2⟩ := hiA.out
                  have hT5 := (hTF.alloc (.cells #[.string x.f4] 9)).moreV (l := [x.f4]) (by unfold marksK keys0; simp) hown5 hg5 hat5
                  refine ⟨i + 1, by rw [hwi], ⟨by omega, by omega⟩, ?_, Below.grown (below_alloc hB3.out _) hg5 (below_alloc hB3.out _).size (fun k hk => own_base hTF.v k hk)⟩
                  show TwoR _ _ _ _ _ _
                  rw [htk.out]
                  simpa [marksK, marksV, keysM, hvA.out] using hT5
              · have hk1 : (x.f0 == 1) = false := by simpa using h1
                have hvx : valM x = [] := by unfold valM; rw [if_neg h1]
                have hvA := Aside0.mk hvx
                clear h1 hvx
                go_wp2
                go_roundg n2
                case measure => omega
                case rel =>
                  obtain ⟨hi0, hlt, hi2⟩ := hiA.out
                  refine ⟨i + 1, by rw [hwi], ⟨by omega, by omega⟩, ?_, hB3.out⟩
                  show TwoR _ _ _ _ _ _
                  rw [htk.out]
                  simpa [marksK, marksV, keysM, hvA.out] using hTF
             | succ n3 =>
              obtain rfl | rfl : h = 0 ∨ h = 1 := by omega
              · go_wp2_with (first
                  | (go_at_call 82; refine (AF1 _).mono ?_; rintro e w4 ⟨rfl, hb4⟩; have hT4 := (hT.out.below hb4).alloc (.cells #[.string x.f2, .string (P.succB x.f2)] 9); have hD4 := blk_alloc (blk_below hD.out hb4) (.cells #[.string x.f2, .string (P.succB x.f2)] 9); have hB4 := below_alloc (below_step hB3.out hb4) (.cells #[.string x.f2, .string (P.succB x.f2)] 9))
                  | (at_builtin; refine wpList_append_own_at _ rfl _ _ 24 rfl w.heap.size 9 iS (.string ⟨#[]⟩) 1 16 Try.underlying24 hi hz0 hz1 hz2 rfl (by decide) _ _ _ rfl hT4.k ⟨w4.heap.size, 0, none⟩ 2 2 [.string x.f2, .string (P.succB x.f2)] rfl rfl (cell_lit (blk_new w4 (.cells #[.string x.f2, .string (P.succB x.f2)] 9))) (by simp [Value.oneCell']) (le_max4 (by simp [keysM]; omega) (by decide)) (by simp [keysM]; omega) hB4.size ?_; intro v5 w5 hown5 hg5 hnil5 hat5))
                go_roundg n3
                case measure => omega
                case rel =>
                  have hT5 := hT4.moreK (l := [x.f2, P.succB x.f2]) (by unfold marksV vals0; simp) hown5 hg5 hat5
                  refine ⟨0 + 1, rfl, ⟨by decide, by omega⟩, by show TwoR _ _ _ _ _ _; simpa [keysM] using hT5, blk_grown hD4 hg5 (fun e => hN.out e.symm), ?_, Below.grown hB4 hg5 hB4.size (fun k hk => own_base hT4.k k hk)⟩
                  rcases hat5 with e | e
                  · show v5.ownBlock ≠ _
                    rw [e]; exact hN.out
                  · show v5.ownBlock ≠ _
                    rw [e]
                    intro e2
                    injection e2 with e2
                    have := blk_lt hD4
                    omega
              · go_wp2_with (first
                  | (go_at_call 82; refine (AF2 _).mono ?_; rintro e w4 ⟨rfl, hb4⟩; have hT4 := (hT.out.below hb4).alloc (.cells #[.string x.f3, .string (P.succB x.f3)] 9); have hD4 := blk_alloc (blk_below hD.out hb4) (.cells #[.string x.f3, .string (P.succB x.f3)] 9); have hB4 := below_alloc (below_step hB3.out hb4) (.cells #[.string x.f3, .string (P.succB x.f3)] 9))
                  | (at_builtin; refine wpList_append_own_at _ rfl _ _ 24 rfl w.heap.size 9 iS (.string ⟨#[]⟩) 1 16 Try.underlying24 hi hz0 hz1 hz2 rfl (by decide) _ _ _ rfl hT4.k ⟨w4.heap.size, 0, none⟩ 2 2 [.string x.f3, .string (P.succB x.f3)] rfl rfl (cell_lit (blk_new w4 (.cells #[.string x.f3, .string (P.succB x.f3)] 9))) (by simp [Value.oneCell']) (le_max4 (by simp [keysM]; omega) (by decide)) (by simp [keysM]; omega) hB4.size ?_; intro v5 w5 hown5 hg5 hnil5 hat5))
                go_roundg n3
                case measure => omega
                case rel =>
                  have hT5 := hT4.moreK (l := [x.f3, P.succB x.f3]) (by unfold marksV vals0; simp) hown5 hg5 hat5
                  refine ⟨1 + 1, rfl, ⟨by decide, by omega⟩, by show TwoR _ _ _ _ _ _; simpa [keysM] using hT5, blk_grown hD4 hg5 (fun e => hN.out e.symm), ?_, Below.grown hB4 hg5 hB4.size (fun k hk => own_base hT4.k k hk)⟩
                  rcases hat5 with e | e
                  · show v5.ownBlock ≠ _
                    rw [e]; exact hN.out
                  · show v5.ownBlock ≠ _
                    rw [e]
                    intro e2
                    injection e2 with e2
                    have := blk_lt hD4
                    omega
      · have hpre : doneJ a b 1 = a := by simp [doneJ]
        have hpost : doneJ a b (1 + 1) = a ++ b := by simp [doneJ]
        have d00 : decide ((1 : Int) < 2) = true := rfl
        rw [hpre] at hT
        have hJ2 := Aside0.mk (And.intro hj2 hpost)
        clear hj2 hpost hpre hj0 hJ
        go_wp2
        go_loopg [6, 7, 27] b.length (fun n2 kv2 vv2 iv wi => ∃ i : Int, iv = .int .i64 i ∧ Aside (0 ≤ i ∧ i.toNat + n2 = b.length) ∧ Aside (TwoR wi w.heap.size kv2 vv2 (marksK (a ++ b.take i.toNat)) (marksV (a ++ b.take i.toNat))) ∧ Aside (Below w.heap.size w wi))
        case atStart => exact ⟨0, rfl, ⟨Int.le_refl _, by simp⟩, by show TwoR _ _ _ _ _ _; simpa using hT.out, hBr.out⟩
        case round =>
          clear hT hBr
          obtain ⟨i, rfl, hI, hT, hBi⟩ := hrel
          obtain ⟨hi0, hi2⟩ := hI.out
          cases gk with
          | zero =>
            have d0 : decide (i < (b.length : Int)) = false := decide_eq_false (by omega)
            have hTF := hT.out
            rw [List.take_of_length_le (by omega)] at hTF
            clear hi0 hi2 hI hT
            go_wp2
            go_roundg n
            case measure => omega
            case rel =>
              obtain ⟨hj2, hpost⟩ := hJ2.out
              exact ⟨1 + 1, rfl, ⟨by decide, by omega⟩, by rw [hpost]; exact hTF, hBi.out⟩
          | succ n2 =>
            have hlt : i < (b.length : Int) := by omega
            obtain ⟨ad, x, hadA, hx, q0, q1, q2, q3, q4, q5⟩ := at_M hB i hi0 hlt
            subst hadA
            have e0 := cell_below hBi.out q0
            have e1 := cell_below hBi.out q1
            have e2 := cell_below hBi.out q2
            have e3 := cell_below hBi.out q3
            have e4 := cell_below hBi.out q4
            have e5 := cell_below hBi.out q5
            have d0 := decide_eq_true hlt
            have d1 := decide_eq_true hi0
            have d2 := eq_true hi0
            have d3 := eq_true hlt
            have hwi : wrap64 (i + 1) = i + 1 := IntWalk.wrap64_in _ (by omega)
            have hxs := hsb x (List.mem_of_getElem? hx)
            have htk : Aside (a ++ b.take (i + 1).toNat = (a ++ b.take i.toNat) ++ [x]) := by
              show _ = _
              rw [show (i + 1).toNat = i.toNat + 1 by omega, List.take_add_one, hx, Option.toList_some, List.append_assoc]
            have hln : (a ++ b.take i.toNat).length ≤ 100000 := by simp only [List.length_append, List.length_nil, List.length_take]; omega
            generalize a ++ b.take i.toNat = dn at hT htk hln
            have hiA := Aside0.mk (And.intro hi0 (And.intro hlt hi2))
            have hCA := Aside0.mk hB
            have hBs := hBi.out.size
            have AF1 := after_any x.f2 hxs.1
            have AF2 := after_any x.f3 hxs.2
            have hkl := marksK_length dn
            have hvl := marksV_length dn
            clear hx q0 q1 q2 q3 q4 q5 hlt hi0 hi2 hI hxs hB
            go_wp2
            clear e0 e1 e2 e3 e4 e5
            have hTm := hT.out.alloc (objM x)
            have hDm := blk_new wr (objM x)
            have hBm := below_alloc hBi.out (objM x)
            have hnk : u6.ownBlock ≠ some wr.heap.size := fun e => by have := own_lt hT.out.k _ e; omega
            clear hT hBi
            go_loopg [6, 36] 2 (fun n3 kv3 hv w3 => ∃ h : Int, hv = .int .i64 h ∧ Aside (0 ≤ h ∧ h.toNat + n3 = 2) ∧ Aside (TwoR w3 w.heap.size kv3 u7 (marksK dn ++ (keysM x).take (2 * h.toNat)) (marksV dn)) ∧ Aside (w3.heap[wr.heap.size]? = some (objM x)) ∧ Aside (kv3.ownBlock ≠ some wr.heap.size) ∧ Aside (Below w.heap.size w w3))
            case atStart => exact ⟨0, rfl, ⟨Int.le_refl _, by simp⟩, by show TwoR _ _ _ _ _ _; simpa using hTm, hDm, hnk, hBm⟩
            case round =>
             clear hTm hDm hBm hnk
             obtain ⟨h, rfl, hH, hT, hD, hN, hB3⟩ := hrel
             obtain ⟨hh0, hh2⟩ := hH.out
             cases gk with
             | zero =>
              have d5 : decide (h < 2) = false := decide_eq_false (by omega)
              have hTF := hT.out
              rw [show 2 * h.toNat = 4 by omega] at hTF
              obtain ⟨y0, y1, y2, y3, y4, y5⟩ := cellsM hD.out
              clear hh0 hh2 hH hT
              by_cases h1 : x.f0 = 1
              · have hk1 : (x.f0 == 1) = true := by simpa using h1
                have hvx : valM x = [x.f4] := by unfold valM; rw [if_pos h1]
                have hvA := Aside0.mk hvx
                clear h1 hvx
                go_wp2_with (at_builtin; refine wpList_append_own_at _ rfl _ _ 24 rfl w.heap.size 9 iS (.string ⟨#[]⟩) 1 16 Try.underlying24 hi hz0 hz1 hz2 rfl (by decide) _ _ _ rfl (hTF.alloc (.cells #[.string x.f4] 9)).v ⟨_, 0, none⟩ 1 1 [.string x.f4] rfl rfl (cell_lit (blk_new _ (.cells #[.string x.f4] 9))) (by simp [Value.oneCell']) (le_max4 (by omega) (by decide)) (by omega) (below_alloc hB3.out _).size ?_; intro v5 w5 hown5 hg5 hnil5 hat5)
                go_roundg n2
                case measure => omega
                case rel =>
                  obtain ⟨hi0, hlt, hi2⟩ := hiA.out
                  have hT5 := (hTF.alloc (.cells #[.string x.f4] 9)).moreV (l := [x.f4]) (by unfold marksK keys0; simp) hown5 hg5 hat5
                  refine ⟨i + 1, by rw [hwi], ⟨by omega, by omega⟩, ?_, Below.grown (below_alloc hB3.out _) hg5 (below_alloc hB3.out _).size (fun k hk => own_base hTF.v k hk)⟩
                  show TwoR _ _ _ _ _ _
                  rw [htk.out]
                  simpa [marksK, marksV, keysM, hvA.out] using hT5
              · have hk1 : (x.f0 == 1) = false := by simpa using h1
                have hvx : valM x = [] := by unfold valM; rw [if_neg h1]
                have hvA := Aside0.mk hvx
                clear h1 hvx
                go_wp2
                go_roundg n2
                case measure => omega
                case rel =>
                  obtain ⟨hi0, hlt, hi2⟩ := hiA.out
                  refine ⟨i + 1, by rw [hwi], ⟨by omega, by omega⟩, ?_, hB3.out⟩
                  show TwoR _ _ _ _ _ _
                  rw [htk.out]
                  simpa [marksK, marksV, keysM, hvA.out] using hTF
             | succ n3 =>
              obtain rfl | rfl : h = 0 ∨ h = 1 := by omega
              · go_wp2_with (first
                  | (go_at_call 82; refine (AF1 _).mono ?_; rintro e w4 ⟨rfl, hb4⟩; have hT4 := (hT.out.below hb4).alloc (.cells #[.string x.f2, .string (P.succB x.f2)] 9); have hD4 := blk_alloc (blk_below hD.out hb4) (.cells #[.string x.f2, .string (P.succB x.f2)] 9); have hB4 := below_alloc (below_step hB3.out hb4) (.cells #[.string x.f2, .string (P.succB x.f2)] 9))
                  | (at_builtin; refine wpList_append_own_at _ rfl _ _ 24 rfl w.heap.size 9 iS (.string ⟨#[]⟩) 1 16 Try.underlying24 hi hz0 hz1 hz2 rfl (by decide) _ _ _ rfl hT4.k ⟨w4.heap.size, 0, none⟩ 2 2 [.string x.f2, .string (P.succB x.f2)] rfl rfl (cell_lit (blk_new w4 (.cells #[.string x.f2, .string (P.succB x.f2)] 9))) (by simp [Value.oneCell']) (le_max4 (by simp [keysM]; omega) (by decide)) (by simp [keysM]; omega) hB4.size ?_; intro v5 w5 hown5 hg5 hnil5 hat5))
                go_roundg n3
                case measure => omega
                case rel =>
                  have hT5 := hT4.moreK (l := [x.f2, P.succB x.f2]) (by unfold marksV vals0; simp) hown5 hg5 hat5
                  refine ⟨0 + 1, rfl, ⟨by decide, by omega⟩, by show TwoR _ _ _ _ _ _; simpa [keysM] using hT5, blk_grown hD4 hg5 (fun e => hN.out e.symm), ?_, Below.grown hB4 hg5 hB4.size (fun k hk => own_base hT4.k k hk)⟩
                  rcases hat5 with e | e
                  · show v5.ownBlock ≠ _
                    rw [e]; exact hN.out
                  · show v5.ownBlock ≠ _
                    rw [e]
                    intro e2
                    injection e2 with e2
                    have := blk_lt hD4
                    omega
              · go_wp2_with (first
                  | (go_at_call 82; refine (AF2 _).mono ?_; rintro e w4 ⟨rfl, hb4⟩; have hT4 := (hT.out.below hb4).alloc (.cells #[.string x.f3, .string (P.succB x.f3)] 9); have hD4 := blk_alloc (blk_below hD.out hb4) (.cells #[.string x.f3, .string (P.succB x.f3)] 9); have hB4 := below_alloc (below_step hB3.out hb4) (.cells #[.string x.f3, .string (P.succB x.f3)] 9))
                  | (at_builtin; refine wpList_append_own_at _ rfl _ _ 24 rfl w.heap.size 9 iS (.string ⟨#[]⟩) 1 16 Try.underlying24 hi hz0 hz1 hz2 rfl (by decide) _ _ _ rfl hT4.k ⟨w4.heap.size, 0, none⟩ 2 2 [.string x.f3, .string (P.succB x.f3)] rfl rfl (cell_lit (blk_new w4 (.cells #[.string x.f3, .string (P.succB x.f3)] 9))) (by simp [Value.oneCell']) (le_max4 (by simp [keysM]; omega) (by decide)) (by simp [keysM]; omega) hB4.size ?_; intro v5 w5 hown5 hg5 hnil5 hat5))
                go_roundg n3
                case measure => omega
                case rel =>
                  have hT5 := hT4.moreK (l := [x.f3, P.succB x.f3]) (by unfold marksV vals0; simp) hown5 hg5 hat5
                  refine ⟨1 + 1, rfl, ⟨by decide, by omega⟩, by show TwoR _ _ _ _ _ _; simpa [keysM] using hT5, blk_grown hD4 hg5 (fun e => hN.out e.symm), ?_, Below.grown hB4 hg5 hB4.size (fun k hk => own_base hT4.k k hk)⟩
                  rcases hat5 with e | e
                  · show v5.ownBlock ≠ _
                    rw [e]; exact hN.out
                  · show v5.ownBlock ≠ _
                    rw [e]
                    intro e2
                    injection e2 with e2
                    have := blk_lt hD4
                    omega
end Go.Proofs.Ytebejadiaooooaa.Cp
end
section
namespace Go.Proofs.Ytebejadiaooooaa.Dl
open Go.Proofs.Ytebejadiaooooaa.Ord (Fr)
open List renaming setIfInBounds_toArray → sA1, set_cons_zero → sA2, set_cons_succ → sA3, getElem_toArray → sA4, getElem_cons_zero → sA5, getElem_cons_succ → sA6
open Go.RowKit Go.Shelf Go.Proofs.Ytebejadiaooooaa.Cp Go.Proofs.YtebejadiaooooaaW.PrintWords Go.Proofs.YtebejadiaooooaaW.PrintLast Go.Proofs.YtebejadiaooooaaW.PrintMore Go.Proofs.Ytebejadiaooooaa.Own Go.Proofs.Ytebejadiaooooaa
set_option maxHeartbeats 8000000
set_option maxRecDepth 100000
abbrev Ms := P.S32
structure St (W : World) (base O R : Nat) (ov rv : Value) (out : List Ms) (row : List ByteArray) : Prop where
 bo : W.heap[O]? = some (.cells #[ov] 22 (0, 0))
 br : W.heap[R]? = some (.cells #[rv] 24 (0, 0))
 ho : Rw W base ov out
 hr : Sw W base rv row
theorem St.below {W W' : World} {base O R : Nat} {ov rv : Value} {out : List Ms} {row : List ByteArray} (h : St W base O R ov rv out row) (hb : Below W.heap.size W W') : St W' base O R ov rv out row := ⟨blk_below h.bo hb, blk_below h.br hb, h.ho.below hb, h.hr.below hb⟩
theorem St.alloc {W : World} {base O R : Nat} {ov rv : Value} {out : List Ms} {row : List ByteArray} (h : St W base O R ov rv out row) (x : Obj) : St (W.alloc x) base O R ov rv out row := ⟨blk_alloc h.bo x, blk_alloc h.br x, World.ownsRow.alloc h.ho x, World.ownsRow.alloc h.hr x⟩
theorem own_obj {W : World} {base e size n : Nat} {v : Value} {xs : List Value} (h : W.ownsRow base e size v n xs) {k : Nat} (hk : v.ownBlock = some k) : ∃ cur, W.heap[k]? = some (.cells cur e (0, 0)) := by
 rcases h.2 with ⟨h', _⟩ | ⟨g, cap, cur, h', _, hg, _⟩
 ·rw [h'] at hk; cases hk
 ·rw [h'] at hk
  injection hk with hk
  subst hk
  exact ⟨cur, hg⟩
theorem box_ne {W : World} {base e size n B t : Nat} {v : Value} {xs : List Value} {cs : Array Value} (h : W.ownsRow base e size v n xs) (hB : W.heap[B]? = some (.cells cs t (0, 0))) (hte : t ≠ e) : some B ≠ v.ownBlock := by
 intro he
 obtain ⟨cur, hc⟩ := own_obj h he.symm
 rw [hB] at hc
 injection hc with hc
 injection hc with _ hc
 exact hte hc
theorem St.told {W W1 : World} {base O R : Nat} {ov ov' rv : Value} {out : List Ms} {row : List ByteArray} {m : Ms} (h : St W base O R ov rv out row) (hown : W1.ownsRow base 32 6 ov' (out.length + 1) (flat out ++ enc m)) (hg : W.grownBy W1 ov.ownBlock) (hat : ov'.ownBlock = ov.ownBlock ∨ ov'.ownBlock = some W.heap.size) : St (W1.setCell ⟨O, 0, none⟩ ov') base O R ov' rv (out ++ [m]) row := by
 have hO := box_ne h.ho h.bo (by decide)
 have hR := box_ne h.ho h.br (by decide)
 have bo1 := blk_grown h.bo hg hO
 have br1 := blk_grown h.br hg hR
 have hr1 : Sw W1 base rv row := by
  refine own_move h.hr (fun k hk => hg.block k (own_lt h.hr k hk) (fun e => ?_))
  obtain ⟨c1, e1⟩ := own_obj h.hr hk
  obtain ⟨c2, e2⟩ := own_obj h.ho e.symm
  rw [e1] at e2
  injection e2 with e2
  injection e2 with _ e2
  exact absurd e2 (by decide)
 have hOR : O ≠ R := blk_ne h.bo h.br (by decide)
 have hOo : some O ≠ ov'.ownBlock := box_ne hown bo1 (by decide)
 have hOr : some O ≠ rv.ownBlock := box_ne hr1 bo1 (by decide)
 refine ⟨by simpa using blk_set bo1 0 ov', blk_far br1 (by simpa using fun e => hOR e.symm) ov', ?_, ?_⟩
 ·have : Rw W1 base ov' (out ++ [m]) := Rw.snoc hown
  exact own_move this (fun k hk => Below.heap_setCell W1 _ ov' k (fun e => hOo (by rw [hk, e])))
 ·exact own_move hr1 (fun k hk => Below.heap_setCell W1 _ ov' k (fun e => hOr (by rw [hk, e])))
theorem fr_grown {W W' : World} {r : Option Nat} (hg : W.grownBy W' r) : Fr r.toList W W' := ⟨hg.os, hg.tape, hg.output, hg.size, fun k hk hn => hg.block k hk (fun e => hn (by rw [← e]; simp))⟩
def endV (out : List Ms) (row : List ByteArray) : List Ms :=
 match row with
 | [] => out
 | [s] => out ++ [⟨2, 0, s, P.e0, P.e0, 0⟩]
 | s :: l => out ++ [⟨4, 0, s, P.succB ((s :: l).getLast (by simp)), P.e0, 0⟩]
def EndPost (W : World) (base O R : Nat) (ov : Value) (out : List Ms) (row : List ByteArray) (e : Ending) (w' : World) : Prop :=
 ∃ v ov' rv', e = .returned v ∧ St w' base O R ov' rv' (endV out row) [] ∧ Fr (O :: R :: ov.ownBlock.toList) W w' ∧ (ov'.ownBlock = ov.ownBlock ∨ ∃ k, ov'.ownBlock = some k ∧ W.heap.size ≤ k)
theorem end_0 {W : World} {base O R : Nat} {ov rv : Value} {out : List Ms} (h : St W base O R ov rv out []) :
  Calls Try.prog 81 #[.pointer (some ⟨R, 0, none⟩), .pointer (some ⟨O, 0, none⟩)] W (EndPost W base O R ov out []) := by
 have hrv : ∃ A c, rv = .slice A 0 c := by
  rcases h.hr.2 with ⟨h', _⟩ | ⟨g, cap, cur, h', _⟩
  ·exact ⟨_, _, h'⟩
  ·exact ⟨_, _, h'⟩
 obtain ⟨A, c, rfl⟩ := hrv
 have r0 : W.cell? ⟨R, 0, none⟩ = some (.slice A 0 c) := blk_cell h.br 0
 have hA := Aside0.mk h
 clear h
 go_enter Try.func81, Try.ntmps81
 go_wp2
 refine bodyPost_ret (results_none rfl _ _ _) rfl ?_
 exact ⟨_, _, _, rfl, hA.out, Fr.refl _ _, .inl rfl⟩
theorem St.kept {W W1 : World} {base O R : Nat} {ov rv : Value} {out : List Ms} {row : List ByteArray} (h : St W base O R ov rv out row) (hg : W.grownBy W1 ov.ownBlock) : W1.heap[O]? = some (.cells #[ov] 22 (0, 0)) ∧ W1.heap[R]? = some (.cells #[rv] 24 (0, 0)) ∧ Sw W1 base rv row := by
 refine ⟨blk_grown h.bo hg (box_ne h.ho h.bo (by decide)), blk_grown h.br hg (box_ne h.ho h.br (by decide)), own_move h.hr (fun k hk => hg.block k (own_lt h.hr k hk) (fun e => ?_))⟩
 obtain ⟨c1, e1⟩ := own_obj h.hr hk
 obtain ⟨c2, e2⟩ := own_obj h.ho e.symm
 rw [e1] at e2
 injection e2 with e2
 injection e2 with _ e2
 exact absurd e2 (by decide)
theorem St.clear {W : World} {base O R : Nat} {ov rv : Value} {out : List Ms} {row : List ByteArray} (h : St W base O R ov rv out row) : St (W.setCell ⟨R, 0, none⟩ (.slice none 0 0)) base O R ov (.slice none 0 0) out [] := by
 have hOR : O ≠ R := blk_ne h.bo h.br (by decide)
 have hRo : some R ≠ ov.ownBlock := box_ne h.ho h.br (by decide)
 exact ⟨blk_far h.bo (by simpa using hOR) _, by simpa using blk_set h.br 0 (.slice none 0 0), own_move h.ho (fun k hk => Below.heap_setCell W _ _ k (fun e => hRo (by rw [hk, e]))), World.ownsRow_nil _ _ _ _⟩
theorem end_fr {W W0 W1 W2 : World} {O R : Nat} {ov ov' : Value} (h0 : Fr (O :: R :: ov.ownBlock.toList) W W1) (hg : W1.grownBy W2 ov.ownBlock) : Fr (O :: R :: ov.ownBlock.toList) W ((W2.setCell ⟨O, 0, none⟩ ov').setCell ⟨R, 0, none⟩ (.slice none 0 0)) :=
 Ord.Fr.set (Ord.Fr.set (Ord.Fr.trans h0 (fr_grown hg) (fun x hx => .inl (List.mem_cons_of_mem _ (List.mem_cons_of_mem _ hx)))) (.inl (by simp)) _) (.inl (by simp)) _
theorem end_at {W W1 : World} {ov ov' : Value} (hs : W.heap.size ≤ W1.heap.size) (hat : ov'.ownBlock = ov.ownBlock ∨ ov'.ownBlock = some W1.heap.size) : ov'.ownBlock = ov.ownBlock ∨ ∃ k, ov'.ownBlock = some k ∧ W.heap.size ≤ k := by
 rcases hat with h | h
 ·exact .inl h
 ·exact .inr ⟨_, h, hs⟩
theorem endT5 : rtab .any (opsOf Try.f81 5) = rtab .any (opsOf Try.f81 5) := rfl
theorem endT2 : rtab .any (opsOf Try.f81 2) = rtab .any (opsOf Try.f81 2) := rfl
theorem St.row1 {W : World} {base O R : Nat} {ov : Value} {out : List Ms} {row : List ByteArray} {g cap : Nat} (h : St W base O R ov (.slice (some ⟨g, 0, none⟩) row.length cap) out row) {i : Nat} {s : ByteArray} (hi : row[i]? = some s) : W.cell? ⟨g, i, none⟩ = some (.string s) := by
 have hl := (List.getElem?_eq_some_iff.1 hi).1
 have := World.ownsRow.cellAt h.hr i (by omega)
 rw [this, List.getElem?_map, hi]
 rfl
theorem St.rv {W : World} {base O R : Nat} {ov rv : Value} {out : List Ms} {row : List ByteArray} (h : St W base O R ov rv out row) (hr : 0 < row.length) : ∃ g cap, rv = .slice (some ⟨g, 0, none⟩) row.length cap := by
 rcases h.hr.2 with ⟨_, h'⟩ | ⟨g, cap, cur, h', _⟩
 ·omega
 ·exact ⟨g, cap, h'⟩
theorem end_1 {W : World} {base O R : Nat} {ov rv : Value} {out : List Ms} {s : ByteArray} (h : St W base O R ov rv out [s]) (hb : base ≤ W.heap.size) (hol : out.length ≤ 100000) :
  Calls Try.prog 81 #[.pointer (some ⟨R, 0, none⟩), .pointer (some ⟨O, 0, none⟩)] W (EndPost W base O R ov out [s]) := by
 have hum := Try.underlying32
 obtain ⟨i0, hi, hz0, hz1, hz2⟩ := info_parts P.info32
 obtain ⟨g, cap, rfl⟩ := h.rv (by simp)
 have r0 := blk_cell h.br 0
 simp only [List.getElem?_toArray, List.getElem?_cons_zero] at r0
 have hA := Aside0.mk h
 clear h
 go_enter Try.func81, Try.ntmps81
 go_wp2
 rename_i K0 hK0
 have hA0 : St W.drew base O R ov (.slice (some ⟨g, 0, none⟩) ([s]).length cap) out [s] := ⟨hA.out.bo, hA.out.br, hA.out.ho, hA.out.hr⟩
 clear r0
 refine start_ (n := 8) (S := fun w' => w'.cell? ⟨R, 0, none⟩ = some (.slice (some ⟨g, 0, none⟩) 1 cap) ∧ w'.cell? ⟨O, 0, none⟩ = some ov ∧ w'.cell? ⟨g, 0, none⟩ = some (.string s)) (ds := [7]) #[false, false, false, false, false, false, false, false] (by kernel_rfl) rfl rfl ⟨by simpa using blk_cell hA0.br 0, by simpa using blk_cell hA0.bo 0, hA0.row1 (i := 0) rfl⟩ (fun hHeld => ?_)
 have HT_ := Aside0.mk endT5
 refine take_ (i := 0) (N := some 23) (v := ?_) (a' := ?_) #[true, false, false, false, false, false, false, false] rfl rfl (take_of HT_.out (by kernel_rfl)) (fun _ _ _ h => h) (Or.inl ⟨by rfl, ?_⟩) hHeld ?_ ?_
 rotate_left
 ·rintro w' ⟨s0, s1, s2⟩
  go_simp
  with_reducible rfl
 rotate_left
 ·simp only [Act.put, sA1, sA2, sA3, i64_w, i32_w]
  rfl
 refine take_ (i := 1) (N := some 24) (v := ?_) (a' := ?_) #[true, true, false, false, false, false, false, false] rfl rfl (take_of HT_.out (by kernel_rfl)) (fun _ _ _ h => h) (Or.inl ⟨by rfl, ?_⟩) hHeld ?_ ?_
 rotate_left
 ·rintro w' ⟨s0, s1, s2⟩
  go_simp
  with_reducible rfl
 rotate_left
 ·simp only [Act.put, sA1, sA2, sA3, i64_w, i32_w]
  rfl
 refine pU_ 2 25 #[true, true, true, false, false, false, false, false] ?_
 refine take_ (i := 3) (N := some 26) (v := ?_) (a' := ?_) #[true, true, true, true, false, false, false, false] rfl rfl (take_of HT_.out (by kernel_rfl)) (fun _ _ _ h => h) (Or.inl ⟨by rfl, ?_⟩) hHeld ?_ ?_
 rotate_left
 ·rintro w' ⟨s0, s1, s2⟩
  go_simp
  with_reducible rfl
 rotate_left
 ·simp only [Act.put, sA1, sA2, sA3, i64_w, i32_w]
  rfl
 refine pU_ 4 27 #[true, true, true, true, true, false, false, false] ?_
 refine one_ (i := 5) (N := some 28) #[true, true, true, true, true, true, false, false] rfl rfl (one_of HT_.out (by kernel_rfl)) (by decide) (fun K hK => ?_)
 refine value_ (w1 := W.drew.alloc (objM (⟨2, 0, s, P.e0, P.e0, 0⟩ : Ms))) (v := .slice (some ⟨W.drew.heap.size, 0, none⟩) 1 1) (by rfl) rfl ?_ ?_
 ·first | (go_simp; done) | (go_simp; rfl)
 have hA1 := hA0.alloc (objM (⟨2, 0, s, P.e0, P.e0, 0⟩ : Ms))
 refine hK.out _ _ ⟨by simpa using blk_cell hA1.br 0, by simpa using blk_cell hA1.bo 0, hA1.row1 (i := 0) rfl⟩ (fun hHeld => ?_)
 clear hK K
 refine norm_ (a' := ?_) ?_ ?_
 rotate_left
 ·show Act.put _ (some 28) _ = _
  simp only [Act.put, sA1, sA2, sA3, i64_w, i32_w]
  rfl
 refine one_ (i := 6) (N := some 29) #[true, true, true, true, true, true, true, false] rfl rfl (one_of HT_.out (by kernel_rfl)) (by decide) (fun K hK => ?_)
 refine append_step (by rfl) rfl _ _ 22 rfl base 32 i0 zM 6 72 Try.underlying22 hi hz0 hz1 hz2 rfl (by decide) ov out.length (flat out) rfl hA1.ho ⟨W.drew.heap.size, 0, none⟩ 1 1 (enc (⟨2, 0, s, P.e0, P.e0, 0⟩ : Ms)) rfl rfl (cell_enc (blk_new W.drew (objM (⟨2, 0, s, P.e0, P.e0, 0⟩ : Ms)))) (enc_one (⟨2, 0, s, P.e0, P.e0, 0⟩ : Ms)) (le_max hol) (by omega) (by simpa using Nat.le_succ_of_le hb) ?_
 intro v7 w7 hown7 hg7 hat7
 obtain ⟨A7, c7, e7⟩ := Rw.slice (Rw.snoc (m := (⟨2, 0, s, P.e0, P.e0, 0⟩ : Ms)) hown7)
 subst e7
 obtain ⟨ko, kr, kw⟩ := hA1.kept hg7
 refine hK.out _ _ ⟨by simpa using blk_cell kr 0, by simpa using blk_cell ko 0, by have := World.ownsRow.cellAt kw 0 (by simp); simpa using this⟩ (fun hHeld => ?_)
 clear hK K
 refine norm_ (a' := ?_) ?_ ?_
 rotate_left
 ·show Act.put _ (some 29) _ = _
  simp only [Act.put, sA1, sA2, sA3, i64_w, i32_w]
  rfl
 have z0 := blk_frozen ko 0
 obtain ⟨t0, t1, t2⟩ := hHeld
 refine last_ (i := 7) (N := none) #[true, true, true, true, true, true, true, true] rfl rfl (one_of HT_.out (by kernel_rfl)) (by decide) (fun K hK => ?_)
 refine skip_ (w1 := w7.setCell ⟨O, 0, none⟩ (.slice A7 (out ++ [(⟨2, 0, s, P.e0, P.e0, 0⟩ : Ms)]).length c7)) (by rfl) rfl ?_ ?_
 ·first | (go_simp; done) | (go_simp; rfl)
 refine hK.out _ _ ?_
 clear hK K
 refine done_ (done_of HT_.out (by kernel_rfl)) ?_
 have hT := hA1.told hown7 hg7 hat7
 have hF := end_fr (W0 := W) (ov' := .slice A7 (out ++ [(⟨2, 0, s, P.e0, P.e0, 0⟩ : Ms)]).length c7) (O := O) (R := R) (Ord.Fr.alloc (Ord.Fr.drew (Ord.Fr.refl _ _)) _) hg7
 have hE := end_at (W := W) (W1 := W.drew.alloc (objM (⟨2, 0, s, P.e0, P.e0, 0⟩ : Ms))) (by show W.heap.size ≤ _; simp) hat7
 have y0 := blk_cell hT.br 0
 have y1 := blk_frozen hT.br 0
 simp only [List.getElem?_toArray, List.getElem?_cons_zero] at y0
 have hT2 := Aside0.mk hT.clear
 have hFA := Aside0.mk hF
 have hEA := Aside0.mk hE
 clear hT hF hE z0 t0 t1 t2
 generalize w7.setCell ⟨O, 0, none⟩ (.slice A7 (out ++ [(⟨2, 0, s, P.e0, P.e0, 0⟩ : Ms)]).length c7) = w8 at hT2 hFA y0 y1 ⊢
 show K0 _ _
 refine hK0 _ _ ?_
 go_wp2
 refine bodyPost_ret (results_none rfl _ _ _) rfl ?_
 exact ⟨_, _, _, rfl, hT2.out, hFA.out, hEA.out⟩
theorem row_cell {W : World} {base g cap : Nat} {row : List ByteArray} (h : Sw W base (.slice (some ⟨g, 0, none⟩) row.length cap) row) {i : Nat} {s : ByteArray} (hi : row[i]? = some s) : W.cell? ⟨g, i, none⟩ = some (.string s) := by
 have hl := (List.getElem?_eq_some_iff.1 hi).1
 have := World.ownsRow.cellAt (n := row.length) (size := 1) h i (by omega)
 rw [this, List.getElem?_map, hi]
 rfl
theorem end_n {W : World} {base O R : Nat} {ov rv : Value} {out : List Ms} {row : List ByteArray} {s sl : ByteArray} (hn : 2 ≤ row.length) (hs : row[0]? = some s) (hl : row[row.length - 1]? = some sl) (hsz : sl.size ≤ 140737488351232) (hev : endV out row = out ++ [⟨4, 0, s, P.succB sl, P.e0, 0⟩]) (h : St W base O R ov rv out row) (hb : base ≤ W.heap.size) (hol : out.length ≤ 100000) :
  Calls Try.prog 81 #[.pointer (some ⟨R, 0, none⟩), .pointer (some ⟨O, 0, none⟩)] W (EndPost W base O R ov out row) := by
 have hum := Try.underlying32
 obtain ⟨i0, hi, hz0, hz1, hz2⟩ := info_parts P.info32
 have hmx := h.hr
 have hn0 : ((row.length : Int) == 0) = false := beq_eq_false_iff_ne.2 (by omega)
 have hn1 : ((row.length : Int) == 1) = false := beq_eq_false_iff_ne.2 (by omega)
 have q0 : decide (0 ≤ (row.length : Int) - 1) = true := decide_eq_true (by omega)
 have q1 : decide ((row.length : Int) - 1 < (row.length : Int)) = true := decide_eq_true (by omega)
 have q2 := eq_true (show 0 ≤ (row.length : Int) - 1 by omega)
 have q3 := eq_true (show (row.length : Int) - 1 < (row.length : Int) by omega)
 have q4 := eq_true (show 0 < (row.length : Int) by omega)
 have q5 := decide_eq_true (show 0 < (row.length : Int) by omega)
 have q6 := eq_true (show 0 < row.length by omega)
 have q7 := eq_true (show 1 ≤ (row.length : Int) by omega)
 have q8 := decide_eq_true (show 1 ≤ (row.length : Int) by omega)
 clear hmx
 obtain ⟨g, cap, rfl⟩ := h.rv (by omega)
 have r0 := blk_cell h.br 0
 simp only [List.getElem?_toArray, List.getElem?_cons_zero] at r0
 have hrl : row.length ≤ maxLen := by
  rcases h.hr.2 with ⟨h', _⟩ | ⟨g', cap', cur', h', _, _, h3, h4, _⟩
  ·cases h'
  ·exact Nat.le_trans h3 h4
 have hmx : maxLen = 9223372036854775807 := rfl
 rw [hmx] at hrl
 have hwr : wrap64 ((row.length : Int) - 1) = (row.length : Int) - 1 := IntWalk.wrap64_in _ (by omega)
 clear hmx hrl
 have hA := Aside0.mk h
 clear h
 go_enter Try.func81, Try.ntmps81
 go_wp2
 rename_i K0 hK0
 have hA0 : St W.drew base O R ov (.slice (some ⟨g, 0, none⟩) (row).length cap) out row := ⟨hA.out.bo, hA.out.br, hA.out.ho, hA.out.hr⟩
 clear r0
 refine start_ (n := 14) (S := fun w' => w'.cell? ⟨R, 0, none⟩ = some (.slice (some ⟨g, 0, none⟩) row.length cap) ∧ w'.cell? ⟨O, 0, none⟩ = some ov ∧ w'.cell? ⟨g, 0, none⟩ = some (.string s) ∧ w'.cell? ⟨g, row.length - 1, none⟩ = some (.string sl)) (ds := [13]) #[false, false, false, false, false, false, false, false, false, false, false, false, false, false] (by kernel_rfl) rfl rfl ⟨by simpa using blk_cell hA0.br 0, by simpa using blk_cell hA0.bo 0, hA0.row1 hs, (hA0.row1 hl)⟩ (fun hHeld => ?_)
 have HT_ := Aside0.mk endT2
 refine take_ (i := 0) (N := some 6) (v := ?_) (a' := ?_) #[true, false, false, false, false, false, false, false, false, false, false, false, false, false] rfl rfl (take_of HT_.out (by kernel_rfl)) (fun _ _ _ h => h) (Or.inl ⟨by rfl, ?_⟩) hHeld ?_ ?_
 rotate_left
 ·rintro w' ⟨s0, s1, s2, s3⟩
  go_simp
  with_reducible rfl
 rotate_left
 ·simp only [Act.put, sA1, sA2, sA3, i64_w, i32_w]
  rfl
 refine take_ (i := 1) (N := some 7) (v := ?_) (a' := ?_) #[true, true, false, false, false, false, false, false, false, false, false, false, false, false] rfl rfl (take_of HT_.out (by kernel_rfl)) (fun _ _ _ h => h) (Or.inl ⟨by rfl, ?_⟩) hHeld ?_ ?_
 rotate_left
 ·rintro w' ⟨s0, s1, s2, s3⟩
  go_simp
  with_reducible rfl
 rotate_left
 ·simp only [Act.put, sA1, sA2, sA3, i64_w, i32_w]
  rfl
 refine pU_ 2 8 #[true, true, true, false, false, false, false, false, false, false, false, false, false, false] ?_
 refine take_ (i := 3) (N := some 9) (v := ?_) (a' := ?_) #[true, true, true, true, false, false, false, false, false, false, false, false, false, false] rfl rfl (take_of HT_.out (by kernel_rfl)) (fun _ _ _ h => h) (Or.inl ⟨by rfl, ?_⟩) hHeld ?_ ?_
 rotate_left
 ·rintro w' ⟨s0, s1, s2, s3⟩
  go_simp
  with_reducible rfl
 rotate_left
 ·simp only [Act.put, sA1, sA2, sA3, i64_w, i32_w]
  rfl
 refine take_ (i := 4) (N := some 10) (v := ?_) (a' := ?_) #[true, true, true, true, true, false, false, false, false, false, false, false, false, false] rfl rfl (take_of HT_.out (by kernel_rfl)) (fun _ _ _ h => h) (Or.inl ⟨by rfl, ?_⟩) hHeld ?_ ?_
 rotate_left
 ·rintro w' ⟨s0, s1, s2, s3⟩
  go_simp
  with_reducible rfl
 rotate_left
 ·simp only [Act.put, sA1, sA2, sA3, i64_w, i32_w]
  rfl
 refine pU_ 5 11 #[true, true, true, true, true, true, false, false, false, false, false, false, false, false] ?_
 refine pU_ 6 12 #[true, true, true, true, true, true, true, false, false, false, false, false, false, false] ?_
 refine pU_ 7 13 #[true, true, true, true, true, true, true, true, false, false, false, false, false, false] ?_
 refine take_ (i := 8) (N := some 14) (v := ?_) (a' := ?_) #[true, true, true, true, true, true, true, true, true, false, false, false, false, false] rfl rfl (take_of HT_.out (by kernel_rfl)) (fun _ _ _ h => h) (Or.inl ⟨by rfl, ?_⟩) hHeld ?_ ?_
 rotate_left
 ·rintro w' ⟨s0, s1, s2, s3⟩
  go_simp
  with_reducible rfl
 rotate_left
 ·simp only [Act.put, sA1, sA2, sA3, i64_w, i32_w]
  rfl
 refine one_ (i := 9) (N := some 15) #[true, true, true, true, true, true, true, true, true, true, false, false, false, false] rfl rfl (one_of HT_.out (by kernel_rfl)) (by decide) (fun K hK => ?_)
 refine goes_ Try.func82 (by kernel_rfl) rfl #[.string sl] (by rfl) rfl rfl (by (try simp only [List.map_toArray, List.map_cons, List.map_nil]); first | done | rfl) ?_
 refine (after_any sl hsz _).mono ?_
 rintro e w9 ⟨rfl, hb9⟩
 refine ⟨_, rfl, ?_⟩
 have hA2 := hA0.below hb9
 refine hK.out _ _ ⟨by simpa using blk_cell hA2.br 0, by simpa using blk_cell hA2.bo 0, hA2.row1 hs, (hA2.row1 hl)⟩ (fun hHeld => ?_)
 clear hK K
 refine norm_ (a' := ?_) ?_ ?_
 rotate_left
 ·show Act.put _ (some 15) _ = _
  simp only [Act.put, sA1, sA2, sA3, i64_w, i32_w]
  rfl
 refine pU_ 10 16 #[true, true, true, true, true, true, true, true, true, true, true, false, false, false] ?_
 refine one_ (i := 11) (N := some 17) #[true, true, true, true, true, true, true, true, true, true, true, true, false, false] rfl rfl (one_of HT_.out (by kernel_rfl)) (by decide) (fun K hK => ?_)
 refine value_ (w1 := w9.alloc (objM (⟨4, 0, s, P.succB sl, P.e0, 0⟩ : Ms))) (v := .slice (some ⟨w9.heap.size, 0, none⟩) 1 1) (by rfl) rfl ?_ ?_
 ·first | (go_simp; done) | (go_simp; rfl)
 have hA1 := hA2.alloc (objM (⟨4, 0, s, P.succB sl, P.e0, 0⟩ : Ms))
 have hA2s : W.drew.heap.size ≤ w9.heap.size := hb9.size
 refine hK.out _ _ ⟨by simpa using blk_cell hA1.br 0, by simpa using blk_cell hA1.bo 0, hA1.row1 hs, (hA1.row1 hl)⟩ (fun hHeld => ?_)
 clear hK K
 refine norm_ (a' := ?_) ?_ ?_
 rotate_left
 ·show Act.put _ (some 17) _ = _
  simp only [Act.put, sA1, sA2, sA3, i64_w, i32_w]
  rfl
 refine one_ (i := 12) (N := some 18) #[true, true, true, true, true, true, true, true, true, true, true, true, true, false] rfl rfl (one_of HT_.out (by kernel_rfl)) (by decide) (fun K hK => ?_)
 refine append_step (by rfl) rfl _ _ 22 rfl base 32 i0 zM 6 72 Try.underlying22 hi hz0 hz1 hz2 rfl (by decide) ov out.length (flat out) rfl hA1.ho ⟨w9.heap.size, 0, none⟩ 1 1 (enc (⟨4, 0, s, P.succB sl, P.e0, 0⟩ : Ms)) rfl rfl (cell_enc (blk_new w9 (objM (⟨4, 0, s, P.succB sl, P.e0, 0⟩ : Ms)))) (enc_one (⟨4, 0, s, P.succB sl, P.e0, 0⟩ : Ms)) (le_max hol) (by omega) (by have := hb9.size; simp at this ⊢; omega) ?_
 intro v7 w7 hown7 hg7 hat7
 obtain ⟨A7, c7, e7⟩ := Rw.slice (Rw.snoc (m := (⟨4, 0, s, P.succB sl, P.e0, 0⟩ : Ms)) hown7)
 subst e7
 obtain ⟨ko, kr, kw⟩ := hA1.kept hg7
 refine hK.out _ _ ⟨by simpa using blk_cell kr 0, by simpa using blk_cell ko 0, (row_cell kw hs), (row_cell kw hl)⟩ (fun hHeld => ?_)
 clear hK K
 refine norm_ (a' := ?_) ?_ ?_
 rotate_left
 ·show Act.put _ (some 18) _ = _
  simp only [Act.put, sA1, sA2, sA3, i64_w, i32_w]
  rfl
 have z0 := blk_frozen ko 0
 obtain ⟨t0, t1, t2, t3⟩ := hHeld
 refine last_ (i := 13) (N := none) #[true, true, true, true, true, true, true, true, true, true, true, true, true, true] rfl rfl (one_of HT_.out (by kernel_rfl)) (by decide) (fun K hK => ?_)
 refine skip_ (w1 := w7.setCell ⟨O, 0, none⟩ (.slice A7 (out ++ [(⟨4, 0, s, P.succB sl, P.e0, 0⟩ : Ms)]).length c7)) (by rfl) rfl ?_ ?_
 ·first | (go_simp; done) | (go_simp; rfl)
 refine hK.out _ _ ?_
 clear hK K
 refine done_ (done_of HT_.out (by kernel_rfl)) ?_
 have hT := hA1.told hown7 hg7 hat7
 have hF := end_fr (W0 := W) (ov' := .slice A7 (out ++ [(⟨4, 0, s, P.succB sl, P.e0, 0⟩ : Ms)]).length c7) (O := O) (R := R) (Ord.Fr.alloc (Ord.Fr.trans (Ord.Fr.drew (Ord.Fr.refl _ _)) (Ord.Fr.of_below (B := []) hb9) (fun x hx => by simp at hx)) _) hg7
 have hE := end_at (W := W) (W1 := w9.alloc (objM (⟨4, 0, s, P.succB sl, P.e0, 0⟩ : Ms))) (by have := hb9.size; show W.heap.size ≤ _; simp at this ⊢; omega) hat7
 have y0 := blk_cell hT.br 0
 have y1 := blk_frozen hT.br 0
 simp only [List.getElem?_toArray, List.getElem?_cons_zero] at y0
 have hT2 := Aside0.mk hT.clear
 have hFA := Aside0.mk hF
 have hEA := Aside0.mk hE
 clear hT hF hE z0 t0 t1 t2 t3
 generalize w7.setCell ⟨O, 0, none⟩ (.slice A7 (out ++ [(⟨4, 0, s, P.succB sl, P.e0, 0⟩ : Ms)]).length c7) = w8 at hT2 hFA y0 y1 ⊢
 show K0 _ _
 refine hK0 _ _ ?_
 go_wp2
 refine bodyPost_ret (results_none rfl _ _ _) rfl ?_
 exact ⟨_, _, _, rfl, by rw [hev]; exact hT2.out, hFA.out, hEA.out⟩
end Go.Proofs.Ytebejadiaooooaa.Dl
end
