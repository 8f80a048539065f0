/- Took as a function of what the cursor has still to tell; rows of entries that rise. -/
import Derived.Test.YtohipdjoeoaphaaCe
set_option linter.unusedVariables false
set_option linter.unusedSimpArgs false
namespace Go.Proofs.Ytohipdjoeoaphaa.Cur
open Go Go.RowKit Go.Maps Go.Proofs.YtohipdjoeoaphaaW.PrintWords Go.Proofs.YtohipdjoeoaphaaW.PrintLast Go.Proofs.YtohipdjoeoaphaaW.PrintMore Go.Proofs.Ytohipdjoeoaphaa.Own Go.Proofs.Ytohipdjoeoaphaa.Ord Go.Proofs.Ytohipdjoeoaphaa.P
set_option maxHeartbeats 2000000
set_option maxRecDepth 100000
/-- Do entries rise? -/
def incB : List En → Bool
  | [] => true
  | [_] => true
  | x :: y :: l => ltB x.f0 y.f0 && incB (y :: l)
theorem getD_at {L : List En} {i : Nat} {x : En} (h : L[i]? = some x) : rd_T39 L (i : Int) = x := by
  show L.getD ((i : Int).toNat) _ = x
  rw [Int.toNat_natCast, List.getD_eq_getElem?_getD, h]
  rfl
theorem drop_at {L l : List En} {i : Nat} {x : En} (hd : L.drop i = x :: l) : i < L.length ∧ L[i]? = some x ∧ L.drop (i + 1) = l := by
  have hlt : i < L.length := by
    rcases Nat.lt_or_ge i L.length with h | h
    · exact h
    · rw [List.drop_eq_nil_of_le h] at hd; cases hd
  refine ⟨hlt, ?_, ?_⟩
  · have := congrArg (fun z => z[0]?) hd
    simpa using this
  · have := congrArg (List.drop 1) hd
    simpa [List.drop_drop] using this
theorem rises_loop (L : List En) (hL : L.length ≤ 9223372036854775806) : ∀ (l : List En) (i k : Nat) (x : En), L.drop (i + 1) = l → L[i]? = some x → fold_Rises.l0 (k + 1 + l.length) L L.length ((i : Int) + 1) = some (incB (x :: l)) := by
  intro l
  induction l with
  | nil =>
    intro i k x hd hx
    have hlen : L.length ≤ i + 1 := by have := congrArg List.length hd; simp at this; omega
    rw [List.length_nil, Nat.add_zero, fold_Rises.l0, if_neg (by omega)]
    rfl
  | cons y l ih =>
    intro i k x hd hx
    obtain ⟨hlt, hy, hd2⟩ := drop_at hd
    rw [show k + 1 + (y :: l).length = (k + 1 + l.length) + 1 from by simp; omega, fold_Rises.l0]
    rw [if_pos (by omega), if_pos (by omega), IntWalk.wrap64_in ((i : Int) + 1 - 1) (by omega), if_pos (by omega), if_pos (by omega), if_pos (by omega), if_pos (by omega)]
    rw [show (i : Int) + 1 - 1 = (i : Int) by omega, getD_at hx, show (i : Int) + 1 = ((i + 1 : Nat) : Int) by omega, getD_at hy, IntWalk.wrap64_in _ (by omega)]
    rw [ih (i + 1) k y hd2 hy]
    show (if ltB x.f0 y.f0 = true then _ else _) = some (ltB x.f0 y.f0 && incB (y :: l))
    cases ltB x.f0 y.f0 <;> rfl
theorem fold_eq (k : Nat) (L : List En) (hL : L.length ≤ 9223372036854775806) : fold_Rises.f (k + 2 + L.length) L = some (incB L) := by
  unfold fold_Rises.f
  cases L with
  | nil =>
           rw [List.length_nil, Nat.add_zero, show k + 2 = (k + 1) + 1 from rfl, fold_Rises.l0, if_neg (by simp)]
           try rfl
  | cons x l =>
    rw [show k + 2 + (x :: l).length = (k + 1 + 1 + l.length) + 1 from by simp; omega, fold_Rises.l0, if_pos (by rw [List.length_cons]; omega), if_neg (by omega), IntWalk.wrap64_in _ (by omega)]
    exact rises_loop (x :: l) hL l 0 (k + 1) x rfl rfl
theorem ref_loop (L : List En) (hL : L.length ≤ 9223372036854775806) : ∀ (l : List En) (i k : Nat) (x : En), L.drop (i + 1) = l → L[i]? = some x → catchmentref05_Rises.l0 (k + 1 + l.length) L ((i : Int) + 1) = some (incB (x :: l)) := by
  intro l
  induction l with
  | nil =>
    intro i k x hd hx
    have hlen : L.length ≤ i + 1 := by have := congrArg List.length hd; simp at this; omega
    rw [List.length_nil, Nat.add_zero, catchmentref05_Rises.l0, if_neg (by omega)]
    rfl
  | cons y l ih =>
    intro i k x hd hx
    obtain ⟨hlt, hy, hd2⟩ := drop_at hd
    rw [show k + 1 + (y :: l).length = (k + 1 + l.length) + 1 from by simp; omega, catchmentref05_Rises.l0]
    rw [if_pos (by omega), IntWalk.wrap64_in ((i : Int) + 1 - 1) (by omega), if_pos (by omega), if_pos (by omega), if_pos (by omega)]
    rw [show (i : Int) + 1 - 1 = (i : Int) by omega, getD_at hx, show (i : Int) + 1 = ((i + 1 : Nat) : Int) by omega, getD_at hy, IntWalk.wrap64_in _ (by omega)]
    rw [ih (i + 1) k y hd2 hy]
    show (if ltB x.f0 y.f0 = true then _ else _) = some (ltB x.f0 y.f0 && incB (y :: l))
    cases ltB x.f0 y.f0 <;> rfl
theorem ref_eq (k : Nat) (L : List En) (hL : L.length ≤ 9223372036854775806) : catchmentref05_Rises.f (k + 2 + L.length) L = some (incB L) := by
  unfold catchmentref05_Rises.f
  cases L with
  | nil =>
           rw [List.length_nil, Nat.add_zero, show k + 2 = (k + 1) + 1 from rfl, catchmentref05_Rises.l0, if_neg (by simp)]
           try rfl
  | cons x l =>
    rw [show k + 2 + (x :: l).length = k + 1 + 1 + l.length + 1 from by simp; omega]
    have := ref_loop (x :: l) hL l 0 (k + 2) x rfl rfl
    rw [show k + 2 + 1 + l.length = k + 1 + 1 + l.length + 1 by omega] at this
    exact this
/-- What is still to tell behind a key. -/
def aft (s : ByteArray) : ByteArray := s ++ (⟨#[0]⟩ : ByteArray)
def behV (f t s : ByteArray) : X := if rrB (aft s) t = true then (aft s, t, false) else (e0, e0, true)
theorem behind_eq (f t s : ByteArray) (h : s.size ≤ 140737488351232) : cursor_behind.f f t s = some (behV f t s) := by
  unfold cursor_behind.f key_After.f behV
  rw [if_pos (by omega)]
  simp only [Option.bind_some, rr_eq]
  show (if rrB (aft s) t = true then _ else _) = _
  split <;> rfl
def outside (f t : ByteArray) (l : List En) : Bool := l.any (fun y => !holdsB f t y.f0)
/-- What Took tells, and what the cursor has still to tell then, if it took. -/
def tookV (o : Option X) (l : List En) (most : Int) : Bool × Int × Option X :=
  match o with
  | none => (false, 11, none)
  | some (f, t, d) =>
    if d = true ∧ 0 < l.length then (false, 15, none)
    else if most < 1 then (false, 2, none)
    else if most < l.length then (false, 4, none)
    else if incB l = false then (false, 16, none)
    else if outside f t l = true then (false, 16, none)
    else if d = true ∨ (l.length : Int) < most then (true, 0, some (e0, e0, true))
    else match l[l.length - 1]? with
      | none => (true, 0, none)
      | some x => ((behV f t x.f0).2.2, 0, some (behV f t x.f0))
def now (F : Int → Option X) (k : Int) : Option X → Int → Option X
  | none => F
  | some y => upd F k (some y)
theorem took_any {w : World} {p b n c : Nat} {last : Int} {F : Int → Option X} (h : Tb w p b last n F c) (k : Int) (hk : (Lit.int .i64 k).wf = true) {A : Option Addr} {cl : Nat} {l : List En} (hC : Kd.C P.k39 w A l.length l) (hcap : l.length ≤ cl) (most : Int) (hn : n < 1000000) (hsz : ∀ x ∈ l, x.f0.size ≤ 140737488351232) (hlen : l.length ≤ 1000000) :
    Calls Try.prog 9 #[.pointer (some ⟨p, 0, none⟩), .int .i64 k, .slice A l.length cl, .int .i64 most] w fun e w' => e = .returned (.tuple #[.bool (tookV (F k) l most).1, .int .i64 (tookV (F k) l most).2.1]) ∧ Tb w' p b last (n + 1) (now F k (tookV (F k) l most).2.2) c ∧ Fr [b] w w' := by
  have stay : ∀ {w'}, Below w.heap.size w w' → Tb w' p b last (n + 1) F c ∧ Fr [b] w w' := fun {w'} hb => ⟨⟨(h.fr (B := []) (Fr.of_below hb) (by simp) (by simp)).blk, (h.fr (B := []) (Fr.of_below hb) (by simp) (by simp)).map.mono (by omega)⟩, Fr.of_below hb⟩
  unfold tookV
  cases hF : F k with
  | none => exact (took_none h k hk hC hcap most hF).mono fun e w' q => ⟨q.1, stay q.2⟩
  | some y =>
    obtain ⟨f, t, d⟩ := y
    simp only []
    have hri := fold_eq 0 l (by omega)
    by_cases a1 : d = true ∧ 0 < l.length
    · rw [if_pos a1]
      obtain ⟨rfl, a1⟩ := a1
      exact (took_state h k hk hC hcap most f t hF a1).mono fun e w' q => ⟨q.1, stay q.2⟩
    · rw [if_neg a1]
      by_cases a2 : most < 1
      · rw [if_pos a2]
        cases d with
        | false => exact (took_arg_false h k hk hC hcap most f t hF a2).mono fun e w' q => ⟨q.1, stay q.2⟩
        | true =>
          obtain rfl : l = [] := by cases l with | nil => rfl | cons x l => simp at a1
          exact (took_arg_true h k hk hC most f t hF a2).mono fun e w' q => ⟨q.1, stay q.2⟩
      · rw [if_neg a2]
        by_cases a3 : most < l.length
        · rw [if_pos a3]
          cases d with
          | false => exact (took_limit_false h k hk hC hcap most f t hF (by omega) a3).mono fun e w' q => ⟨q.1, stay q.2⟩
          | true =>
            obtain rfl : l = [] := by cases l with | nil => rfl | cons x l => simp at a1
            simp at a3; omega
        · rw [if_neg a3]
          by_cases a4 : incB l = false
          · rw [if_pos a4]
            rw [a4] at hri
            cases d with
            | false => exact (took_rise_false h k hk hC hcap most f t hF (by omega) (by omega) _ hri).mono fun e w' q => ⟨q.1, stay q.2⟩
            | true =>
              obtain rfl : l = [] := by cases l with | nil => rfl | cons x l => simp at a1
              cases a4
          · rw [if_neg a4]
            rw [Bool.not_eq_false] at a4
            rw [a4] at hri
            by_cases a5 : outside f t l = true
            · rw [if_pos a5]
              cases d with
              | false => exact (took_order_false h k hk hC hcap most f t hF (by omega) (by omega) _ hri a5).mono fun e w' q => ⟨q.1, stay q.2⟩
              | true =>
                obtain rfl : l = [] := by cases l with | nil => rfl | cons x l => simp at a1
                cases a5
            · rw [if_neg a5]
              rw [Bool.not_eq_true] at a5
              by_cases a6 : d = true ∨ (l.length : Int) < most
              · rw [if_pos a6]
                cases d with
                | false => exact took_end_false h k hk hC hcap most f t hF hn (by omega) (by simpa using a6) _ hri a5
                | true =>
                  obtain rfl : l = [] := by cases l with | nil => rfl | cons x l => simp at a1
                  exact took_end_true h k hk hC most f t hF hn (by omega) _ hri a5
              · rw [if_neg a6]
                obtain rfl : d = false := by cases d <;> simp_all
                have hlast : l.length - 1 < l.length := by omega
                rw [List.getElem?_eq_getElem hlast]
                simp only []
                exact took_more h k hk hC hcap most f t hF hn (by omega) (by simp at a6; omega) _ hri a5 _ (List.getElem?_eq_getElem hlast) _ _ _ (behind_eq f t _ (hsz _ (List.getElem_mem hlast)))
end Go.Proofs.Ytohipdjoeoaphaa.Cur
