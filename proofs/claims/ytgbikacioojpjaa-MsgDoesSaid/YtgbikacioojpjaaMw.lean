/- Words on texts and numbers: the order of texts as Bools; a number's eight bytes, put and taken: the printed functions of word (and of its reference), in plain form. -/
import Derived.Test.YtgbikacioojpjaaBo
import Derived.Test.YtgbikacioojpjaaOwn
import Derived.Test.YtgbikacioojpjaaP3
import Derived.Test.YtgbikacioojpjaaP4
import Derived.Lib.Strings
import Derived.Laws.BitsAllLaws
set_option linter.unusedVariables false
set_option linter.unusedSimpArgs false
namespace Go.Proofs.Ytgbikacioojpjaa.P
open Go.RowKit Go.Proofs.YtgbikacioojpjaaW.PrintWords Go.Proofs.YtgbikacioojpjaaW.PrintLast Go.Proofs.YtgbikacioojpjaaW.PrintMore Go.Proofs.Ytgbikacioojpjaa.Own Go.Proofs.Ytgbikacioojpjaa

theorem ba_ext {a b : ByteArray} (h : a.toList = b.toList) : a = b := by
  rw [Lib.toList_data, Lib.toList_data] at h
  cases a; cases b
  simp only [ByteArray.mk.injEq]
  exact Array.toList_inj.1 h
theorem ba_eq {a b : ByteArray} : a.toList = b.toList ↔ a = b := ⟨ba_ext, fun h => by rw [h]⟩
theorem ba_append (a b : ByteArray) : (a ++ b).toList = a.toList ++ b.toList := by
  rw [Lib.toList_data, Lib.toList_data, Lib.toList_data]
  simp
theorem ba_mk (l : Array UInt8) : (⟨l⟩ : ByteArray).toList = l.toList := by rw [Lib.toList_data]
theorem ba_size (a : ByteArray) : a.size = a.toList.length := by rw [Lib.toList_data]; simp

/-! ### numbers as eight bytes -/
theorem sON_cons (x : Int) (l : List Int) : strOfNums [x] ++ strOfNums l = strOfNums (x :: l) := by
  apply ba_ext
  rw [ba_append]
  simp [strOfNums, ba_mk]
theorem sON_nil : (⟨#[]⟩ : ByteArray) = strOfNums [] := rfl

theorem put_step (k : Nat) (x : Int) (l : List Int) (i : Int) (h0 : 0 ≤ i) (h8 : i < 8) (hx : 0 ≤ x) (hx2 : x < 18446744073709551616) (hl : l.length ≤ 8) :
    catchmentref03_Put.l0 (k + 1) x (strOfNums l) i = catchmentref03_Put.l0 k (x / 256) (strOfNums ((x % 256) :: l)) (i + 1) := by
  simp only [catchmentref03_Put.l0]
  rw [if_pos h8]
  simp only [Option.bind_some]
  have e1 : (strOfNums [Int.tmod x 256 % 256]).size + (strOfNums l).size ≤ 9223372036854775807 := by
    rw [strOfNums_size, strOfNums_size]; simp; omega
  rw [if_pos e1, sON_cons]
  have e2 : Int.tmod x 256 % 256 = x % 256 := by
    rw [Int.tmod_eq_emod_of_nonneg hx]; omega
  have e3 : IntKind.u64.wrap (Int.tdiv x 256) = x / 256 := by
    rw [Int.tdiv_eq_ediv_of_nonneg hx]
    exact IntWalk.u64_in _ (by omega)
  have e4 : wrap64 (i + 1) = i + 1 := IntWalk.wrap64_in _ (by omega)
  rw [e2, e3, e4]
theorem put_end (k : Nat) (x : Int) (l : ByteArray) : catchmentref03_Put.l0 (k + 1) x l 8 = some l := by
  simp only [catchmentref03_Put.l0]
  rw [if_neg (by omega)]
theorem eight_div (x : Int) : [x / 256 / 256 / 256 / 256 / 256 / 256 / 256 % 256, x / 256 / 256 / 256 / 256 / 256 / 256 % 256, x / 256 / 256 / 256 / 256 / 256 % 256, x / 256 / 256 / 256 / 256 % 256, x / 256 / 256 / 256 % 256, x / 256 / 256 % 256, x / 256 % 256, x % 256] = Wp.eight x := by
  unfold Wp.eight
  simp only [List.cons.injEq, and_true]
  refine ⟨by omega, by omega, by omega, by omega, by omega, by omega⟩
theorem ref03_Put_eq (k : Nat) (x : Int) (hx : 0 ≤ x) (hx2 : x < 18446744073709551616) : catchmentref03_Put.f (k + 9) x = some (strOfNums (Wp.eight x)) := by
  unfold catchmentref03_Put.f
  rw [sON_nil]
  rw [put_step _ _ _ _ (by omega) (by omega) (by omega) (by omega) (by simp), put_step _ _ _ _ (by omega) (by omega) (by omega) (by omega) (by simp), put_step _ _ _ _ (by omega) (by omega) (by omega) (by omega) (by simp), put_step _ _ _ _ (by omega) (by omega) (by omega) (by omega) (by simp), put_step _ _ _ _ (by omega) (by omega) (by omega) (by omega) (by simp), put_step _ _ _ _ (by omega) (by omega) (by omega) (by omega) (by simp), put_step _ _ _ _ (by omega) (by omega) (by omega) (by omega) (by simp), put_step _ _ _ _ (by omega) (by omega) (by omega) (by omega) (by simp)]
  rw [show (0 + 1 + 1 + 1 + 1 + 1 + 1 + 1 + 1 : Int) = 8 from rfl, put_end, eight_div]

/-- The number that a text's first bytes make, n of them. -/
def valN (s : ByteArray) : Nat → Int
  | 0 => 0
  | n + 1 => valN s n * 256 + bt s n
theorem valN_range (s : ByteArray) (n : Nat) : 0 ≤ valN s n ∧ valN s n < 256 ^ n := by
  induction n with
  | zero => simp [valN]
  | succ n ih =>
    have := bt_range s n
    simp only [valN, Int.pow_succ]
    omega
theorem or_add (a b : Int) (ha : 0 ≤ a) (ha2 : a < 72057594037927936) (hb : 0 ≤ b) (hb2 : b ≤ 255) : Go.bits .or .u64 (a * 256) b = a * 256 + b := by
  rw [Go.u64_or _ _ (by omega) (by omega) (by omega) (by omega)]
  obtain ⟨m, rfl⟩ := Int.eq_ofNat_of_zero_le ha
  obtain ⟨n, rfl⟩ := Int.eq_ofNat_of_zero_le hb
  have e : ((m : Int) * 256).toNat = m * 2 ^ 8 := by omega
  have e2 : (n : Int).toNat = n := by omega
  rw [e, e2, ← Nat.shiftLeft_eq, ← Nat.shiftLeft_add_eq_or_of_lt (by omega), Nat.shiftLeft_eq]
  omega
theorem pow_le : ∀ n : Nat, n < 8 → (256 : Int) ^ n ≤ 72057594037927936 := by decide
theorem take_step (k : Nat) (s : ByteArray) (hs : s.size = 8) (n : Nat) (hn : n < 8) : word_Take.l0 (k + 1) s (valN s n) 8 n = word_Take.l0 k s (valN s (n + 1)) 8 ((n + 1 : Nat) : Int) := by
  have hv := valN_range s n
  have hb := bt_range s n
  have hp := pow_le n hn
  have hv2 : valN s n < 72057594037927936 := by omega
  simp only [word_Take.l0]
  rw [if_pos (by omega), if_pos (by omega), if_pos (by omega)]
  rw [IntWalk.u64_in (valN s n * 256) (by omega), IntWalk.u64_in (bt s n) (by omega), or_add _ _ hv.1 hv2 hb.1 hb.2, IntWalk.wrap64_in _ (by omega)]
  rfl
theorem word_Take_eq (k : Nat) (s : ByteArray) : word_Take.f (k + 9) s = some (if s.size = 8 then (valN s 8, true) else (0, false)) := by
  unfold word_Take.f
  by_cases h : s.size = 8
  · rw [if_pos (by omega), if_pos h]
    have e : (s.size : Int) = 8 := by omega
    rw [e]
    have s0 := take_step (k + 8) s h 0 (by omega)
    have s1 := take_step (k + 7) s h 1 (by omega)
    have s2 := take_step (k + 6) s h 2 (by omega)
    have s3 := take_step (k + 5) s h 3 (by omega)
    have s4 := take_step (k + 4) s h 4 (by omega)
    have s5 := take_step (k + 3) s h 5 (by omega)
    have s6 := take_step (k + 2) s h 6 (by omega)
    have s7 := take_step (k + 1) s h 7 (by omega)
    refine s0.trans (s1.trans (s2.trans (s3.trans (s4.trans (s5.trans (s6.trans (s7.trans ?_)))))))
    simp only [word_Take.l0]
    rw [if_neg (by omega)]
  · rw [if_neg (by omega), if_neg h]
theorem take_step3 (k : Nat) (s : ByteArray) (hs : s.size = 8) (n : Nat) (hn : n < 8) : catchmentref03_Take.l0 (k + 1) s (valN s n) n = catchmentref03_Take.l0 k s (valN s (n + 1)) ((n + 1 : Nat) : Int) := by
  have hv := valN_range s n
  have hb := bt_range s n
  have hp := pow_le n hn
  have hv2 : valN s n < 72057594037927936 := by omega
  simp only [catchmentref03_Take.l0]
  rw [if_pos (by omega), if_pos (by omega), if_pos (by omega)]
  rw [IntWalk.u64_in (valN s n * 256) (by omega), IntWalk.u64_in (bt s n) (by omega), IntWalk.u64_in _ (by omega), IntWalk.wrap64_in _ (by omega)]
  rfl
theorem ref03_Take_eq (k : Nat) (s : ByteArray) : catchmentref03_Take.f (k + 9) s = some (if s.size = 8 then (valN s 8, true) else (0, false)) := by
  unfold catchmentref03_Take.f
  by_cases h : s.size = 8
  · rw [if_pos (by omega), if_pos h]
    have s0 := take_step3 (k + 8) s h 0 (by omega)
    have s1 := take_step3 (k + 7) s h 1 (by omega)
    have s2 := take_step3 (k + 6) s h 2 (by omega)
    have s3 := take_step3 (k + 5) s h 3 (by omega)
    have s4 := take_step3 (k + 4) s h 4 (by omega)
    have s5 := take_step3 (k + 3) s h 5 (by omega)
    have s6 := take_step3 (k + 2) s h 6 (by omega)
    have s7 := take_step3 (k + 1) s h 7 (by omega)
    refine s0.trans (s1.trans (s2.trans (s3.trans (s4.trans (s5.trans (s6.trans (s7.trans ?_)))))))
    simp only [catchmentref03_Take.l0]
    rw [if_neg (by omega)]
  · rw [if_neg (by omega), if_neg h]
/-- What becomes of a value to which a number is added. -/
def addV (v : ByteArray) (is : Bool) (d : Int) : ByteArray :=
  if is = true then (if v.size = 8 then strOfNums (Wp.eight (IntKind.u64.wrap (valN v 8 + d))) else v) else strOfNums (Wp.eight d)
theorem word_Add_eq (k : Nat) (v : ByteArray) (is : Bool) (d : Int) : word_Add.f (k + 9) v is d = some (addV v is d) := by
  unfold word_Add.f addV word_Put.f
  rw [word_Take_eq]
  cases is <;> by_cases h : v.size = 8 <;> simp [h]
theorem u64_wrap_range (x : Int) : 0 ≤ IntKind.u64.wrap x ∧ IntKind.u64.wrap x < 18446744073709551616 := by
  simp only [IntKind.wrap, IntKind.signed, IntKind.bits]
  constructor <;> simp <;> omega
theorem ref03_Add_eq (k : Nat) (v : ByteArray) (is : Bool) (d : Int) (h0 : 0 ≤ d) (h1 : d < 18446744073709551616) : catchmentref03_Add.f (k + 9) v is d = some (addV v is d) := by
  unfold catchmentref03_Add.f addV
  rw [ref03_Take_eq, ref03_Put_eq _ _ h0 h1]
  cases is
  · simp
  · by_cases h : v.size = 8
    · simp only [h, if_true, Option.bind_some]
      have := u64_wrap_range (valN v 8 + d)
      rw [ref03_Put_eq _ _ this.1 this.2]
      rfl
    · simp [h]
end Go.Proofs.Ytgbikacioojpjaa.P
