/- Texts of one claim (laid by shake.py). -/
import Derived.Test.YtljnlnbopohghaaZWa3
import Derived.Test.YtljnlnbopohghaaZWa5
import Derived.Laws.BitsAllLaws
set_option linter.unusedVariables false
set_option linter.unusedSimpArgs false
section
namespace Go.Proofs.Ytljnlnbopohghaa.P
open Go.RowKit Go.Proofs.YtljnlnbopohghaaW.PrintWords Go.Proofs.YtljnlnbopohghaaW.PrintLast Go.Proofs.YtljnlnbopohghaaW.PrintMore Go.Proofs.Ytljnlnbopohghaa.Own Go.Proofs.Ytljnlnbopohghaa
def eight (n : Int) : List Int := [n / 72057594037927936 % 256, n / 281474976710656 % 256, n / 1099511627776 % 256, n / 4294967296 % 256, n / 16777216 % 256, n / 65536 % 256, n / 256 % 256, n % 256]
theorem sON_cons (x : Int) (l : List Int) : strOfNums [x] ++ strOfNums l = strOfNums (x :: l) := by
 apply ba_ext
 rw [ba_append]
 simp [strOfNums, ba_mk]
theorem sON_nil : (⟨#[]⟩ : ByteArray) = strOfNums [] := rfl
theorem put_step (k : Nat) (x : Int) (l : List Int) (i : Int) (h0 : 0 ≤ i) (h8 : i < 8) (hx : 0 ≤ x) (hx2 : x < 18446744073709551616) (hl : l.length ≤ 8) :
  catchmentref03_Put.l0 (k + 1) x (strOfNums l) i = catchmentref03_Put.l0 k (x / 256) (strOfNums ((x % 256) :: l)) (i + 1) := by
 simp only [catchmentref03_Put.l0]
 rw [if_pos h8]
 simp only [Option.bind_some]
 have e1 : (strOfNums [Int.tmod x 256 % 256]).size + (strOfNums l).size ≤ 9223372036854775807 := by
  rw [strOfNums_size, strOfNums_size]; simp; omega
 rw [if_pos e1, sON_cons]
 have e2 : Int.tmod x 256 % 256 = x % 256 := by
  rw [Int.tmod_eq_emod_of_nonneg hx]; omega
 have e3 : IntKind.u64.wrap (Int.tdiv x 256) = x / 256 := by
  rw [Int.tdiv_eq_ediv_of_nonneg hx]
  exact IntWalk.u64_in _ (by omega)
 have e4 : wrap64 (i + 1) = i + 1 := IntWalk.wrap64_in _ (by omega)
 rw [e2, e3, e4]
theorem put_end (k : Nat) (x : Int) (l : ByteArray) : catchmentref03_Put.l0 (k + 1) x l 8 = some l := by
 simp only [catchmentref03_Put.l0]
 rw [if_neg (by omega)]
theorem eight_div (x : Int) : [x / 256 / 256 / 256 / 256 / 256 / 256 / 256 % 256, x / 256 / 256 / 256 / 256 / 256 / 256 % 256, x / 256 / 256 / 256 / 256 / 256 % 256, x / 256 / 256 / 256 / 256 % 256, x / 256 / 256 / 256 % 256, x / 256 / 256 % 256, x / 256 % 256, x % 256] = eight x := by
 unfold eight
 simp only [List.cons.injEq, and_true]
 refine ⟨by omega, by omega, by omega, by omega, by omega, by omega⟩
theorem ref03_Put_eq (k : Nat) (x : Int) (hx : 0 ≤ x) (hx2 : x < 18446744073709551616) : catchmentref03_Put.f (k + 9) x = some (strOfNums (eight x)) := by
 unfold catchmentref03_Put.f
 rw [sON_nil]
 rw [put_step _ _ _ _ (by omega) (by omega) (by omega) (by omega) (by simp), put_step _ _ _ _ (by omega) (by omega) (by omega) (by omega) (by simp), put_step _ _ _ _ (by omega) (by omega) (by omega) (by omega) (by simp), put_step _ _ _ _ (by omega) (by omega) (by omega) (by omega) (by simp), put_step _ _ _ _ (by omega) (by omega) (by omega) (by omega) (by simp), put_step _ _ _ _ (by omega) (by omega) (by omega) (by omega) (by simp), put_step _ _ _ _ (by omega) (by omega) (by omega) (by omega) (by simp), put_step _ _ _ _ (by omega) (by omega) (by omega) (by omega) (by simp)]
 rw [show (0 + 1 + 1 + 1 + 1 + 1 + 1 + 1 + 1 : Int) = 8 from rfl, put_end, eight_div]
def valN (s : ByteArray) : Nat → Int
 | 0 => 0
 | n + 1 => valN s n * 256 + bt s n
theorem valN_range (s : ByteArray) (n : Nat) : 0 ≤ valN s n ∧ valN s n < 256 ^ n := by
 induction n with
 | zero => simp [valN]
 | succ n ih =>
  have := bt_range s n
  simp only [valN, Int.pow_succ]
  omega
theorem pow_le : ∀ n : Nat, n < 8 → (256 : Int) ^ n ≤ 72057594037927936 := by decide
theorem take_step3 (k : Nat) (s : ByteArray) (hs : s.size = 8) (n : Nat) (hn : n < 8) : catchmentref03_Take.l0 (k + 1) s (valN s n) n = catchmentref03_Take.l0 k s (valN s (n + 1)) ((n + 1 : Nat) : Int) := by
 have hv := valN_range s n
 have hb := bt_range s n
 have hp := pow_le n hn
 have hv2 : valN s n < 72057594037927936 := by omega
 simp only [catchmentref03_Take.l0]
 rw [if_pos (by omega), if_pos (by omega), if_pos (by omega)]
 rw [IntWalk.u64_in (valN s n * 256) (by omega), IntWalk.u64_in (bt s n) (by omega), IntWalk.u64_in _ (by omega), IntWalk.wrap64_in _ (by omega)]
 rfl
theorem ref03_Take_eq (k : Nat) (s : ByteArray) : catchmentref03_Take.f (k + 9) s = some (if s.size = 8 then (valN s 8, true) else (0, false)) := by
 unfold catchmentref03_Take.f
 by_cases h : s.size = 8
 ·rw [if_pos (by omega), if_pos h]
  have s0 := take_step3 (k + 8) s h 0 (by omega)
  have s1 := take_step3 (k + 7) s h 1 (by omega)
  have s2 := take_step3 (k + 6) s h 2 (by omega)
  have s3 := take_step3 (k + 5) s h 3 (by omega)
  have s4 := take_step3 (k + 4) s h 4 (by omega)
  have s5 := take_step3 (k + 3) s h 5 (by omega)
  have s6 := take_step3 (k + 2) s h 6 (by omega)
  have s7 := take_step3 (k + 1) s h 7 (by omega)
  refine s0.trans (s1.trans (s2.trans (s3.trans (s4.trans (s5.trans (s6.trans (s7.trans ?_)))))))
  simp only [catchmentref03_Take.l0]
  rw [if_neg (by omega)]
 rw [if_neg (by omega), if_neg h]
def addV (v : ByteArray) (is : Bool) (d : Int) : ByteArray :=
 if is = true then (if v.size = 8 then strOfNums (eight (IntKind.u64.wrap (valN v 8 + d))) else v) else strOfNums (eight d)
theorem u64_wrap_range (x : Int) : 0 ≤ IntKind.u64.wrap x ∧ IntKind.u64.wrap x < 18446744073709551616 := by
 simp only [IntKind.wrap, IntKind.signed, IntKind.bits]
 constructor <;> simp <;> omega
theorem ref03_Add_eq (k : Nat) (v : ByteArray) (is : Bool) (d : Int) (h0 : 0 ≤ d) (h1 : d < 18446744073709551616) : catchmentref03_Add.f (k + 9) v is d = some (addV v is d) := by
 unfold catchmentref03_Add.f addV
 rw [ref03_Take_eq, ref03_Put_eq _ _ h0 h1]
 cases is
 ·simp
 by_cases h : v.size = 8
 ·simp only [h, if_true, Option.bind_some]
  have := u64_wrap_range (valN v 8 + d)
  rw [ref03_Put_eq _ _ this.1 this.2]
  rfl
 simp [h]
theorem Point_eq (k q : Int) (y t v : ByteArray) (d : Int) : catchmentref04_Point.f k q y t v d = some (isPt k) := by
 unfold catchmentref04_Point.f isPt
 by_cases h : k ≥ 1
 ·rw [if_pos h]
  congr 1
  rw [decide_eq_decide]
  omega
 rw [if_neg h]
 congr 1
 symm
 rw [decide_eq_false_iff_not]
 omega
def touches (k : Int) (y t s : ByteArray) : Bool := (isPt k && same y s) || (decide (k = 4) && holds y t s)
def applyV (k : Int) (vv : ByteArray) (d : Int) (v : ByteArray) (is : Bool) : ByteArray × Bool :=
 if k = 1 then (vv, true) else if k = 3 then (addV v is d, true) else if k = 2 ∨ k = 4 then (e0, false) else if is = true then (v, true) else (e0, false)
def onV (k : Int) (y t vv : ByteArray) (d : Int) (s v : ByteArray) (is : Bool) : ByteArray × Bool :=
 if touches k y t s = true then applyV k vv d v is else if is = true then (v, true) else (e0, false)
theorem ref04_Touches_eq (k q : Int) (y t v : ByteArray) (d : Int) (s : ByteArray) : catchmentref04_Touches.f k q y t v d s = some (touches k y t s) := by
 unfold catchmentref04_Touches.f touches
 rw [Point_eq]
 simp only [Option.bind_some]
 cases hp : isPt k with
 | false =>
  by_cases h4 : k = 4
  ·subst h4
   unfold holds lt emp
   by_cases h1 : Op.bytesLess s.toList y.toList = true
   ·simp [h1]
   by_cases h2 : t.toList = [] <;> simp [h1, h2]
  simp [h4]
 | true =>
  simp only [if_true, Bool.true_and, Option.some.injEq]
  have h4 := isPt_ne4 hp
  simp only [h4, decide_false, Bool.false_and, Bool.or_false, same]
  rw [Bool.eq_iff_iff]
  simp
theorem ref04_On_eq (n : Nat) (k q : Int) (y t vv : ByteArray) (d : Int) (s v : ByteArray) (is : Bool) (h0 : 0 ≤ d) (h1 : d < 18446744073709551616) : catchmentref04_On.f (n + 10) k q y t vv d s v is = some (onV k y t vv d s v is) := by
 have key : ∀ v', (is = true → v' = v) → (is = false → v' = e0) → catchmentref04_On.j0 (n + 10) s v' is k q y t vv d = some (onV k y t vv d s v is) := by
  intro v' hv1 hv2
  simp only [catchmentref04_On.j0]
  rw [ref04_Touches_eq]
  simp only [Option.bind_some]
  unfold onV applyV
  rw [ref03_Add_eq _ _ _ _ h0 h1]
  cases ht : touches k y t s with
  | false => cases is <;> simp_all
  | true =>
   by_cases k1 : k = 1
   ·simp [k1]
   by_cases k3 : k = 3
   ·cases is <;> simp_all [addV]
   have k24 : k = 2 ∨ k = 4 := by
    simp only [touches, isPt, Bool.or_eq_true, Bool.and_eq_true, decide_eq_true_eq] at ht
    omega
   simp [k1, k3, k24]
 unfold catchmentref04_On.f
 cases is
 ·simp only [Bool.false_eq_true, if_false]
  exact key _ (by simp) (by simp)
 simp only [if_true]
 exact key _ (by simp) (by simp)
end Go.Proofs.Ytljnlnbopohghaa.P
end
