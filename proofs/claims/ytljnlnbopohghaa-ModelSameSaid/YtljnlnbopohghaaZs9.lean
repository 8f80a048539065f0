/- Texts of one claim (laid by shake.py). -/
import Derived.Test.YtljnlnbopohghaaZs8
import Derived.RangeFuncNested
import Derived.RangeFuncBound
import Derived.RangeFuncCalls
import Derived.RangeFuncLeaves
import Derived.RangeFuncKeeps
import Derived.Shelf.RegionOpen
import Derived.Sort.QuietIn
import Derived.Shelf.Abstract
import Derived.WalkKit
import Derived.OwnWalkIn
import Derived.TacticsInMore
set_option linter.unusedVariables false
set_option linter.unusedSimpArgs false
section
namespace Go.Proofs.Ytljnlnbopohghaa.OrdSm
open Go.RowKit Go.Proofs.YtljnlnbopohghaaW.PrintWords Go.Proofs.YtljnlnbopohghaaW.PrintLast Go.Proofs.YtljnlnbopohghaaW.PrintMore Go.Proofs.Ytljnlnbopohghaa.Own Go.Proofs.Ytljnlnbopohghaa.Ord
set_option maxHeartbeats 2000000
set_option maxRecDepth 100000
theorem find_any (key : ByteArray) (T : Kn ByteArray ByteArray) (w : World) (hin : In w T) :
  Calls Try.prog 86 #[.pointer T.adr, .string key] w fun e w' => e = .returned (.pointer (Kn.find lt key T).adr) ∧ w' = w := by
 go_enter Try.func86, Try.ntmps86
 go_wp2
 go_loopg [0] T.bs.length (fun n p wr => ∃ T' : Kn ByteArray ByteArray, p = .pointer T'.adr ∧ T'.bs.length = n ∧ In w T' ∧ Aside (Kn.find lt key T' = Kn.find lt key T) ∧ wr = w)
 case atStart => exact ⟨T, rfl, rfl, hin, rfl, rfl⟩
 case round =>
  obtain ⟨T', rfl, hn, hi, hf, hw⟩ := hrel
  subst hw
  cases T' with
  | nil =>
   simp only [show (Kn.nil : Kn ByteArray ByteArray).adr = none from rfl]
   go_wp2
   go_ret
   exact ⟨by rw [← hf.out]; rfl, rfl⟩
  | node b k v l r =>
   have h1 := Top.of_in hi
   obtain ⟨c10, c11, c12, c13, f11, f12, f13⟩ := h1.cells
   simp only [show (Kn.node b k v l r).adr = some ⟨b, 0, none⟩ from rfl]
   by_cases hA : lt key k = true
   ·have hcmp : ∀ W, Calls Try.prog 102 #[.string key, .string k] W fun e w' => e = .returned (.int .i64 (-1)) ∧ w' = W := fun W => by
     have := cmp_any key k W; unfold Kn.cmpK at this; rw [if_pos hA] at this; exact this
    have hf2 : Aside (Kn.find lt key l = Kn.find lt key T) := (show Kn.find lt key (Kn.node b k v l r) = Kn.find lt key l from by simp only [Kn.find]; rw [if_pos hA]).symm.trans hf.out
    go_wp2_with (go_at_call 102; refine (hcmp _).mono ?_; rintro e w1 ⟨rfl, hw⟩; obtain rfl := hw.symm)
    go_roundg l.bs.length
    case measure => simp [Kn.bs] at hn; omega
    case rel => exact ⟨l, rfl, rfl, hi.2.1, hf2, rfl⟩
   ·by_cases hB : lt k key = true
    ·have hcmp : ∀ W, Calls Try.prog 102 #[.string key, .string k] W fun e w' => e = .returned (.int .i64 1) ∧ w' = W := fun W => by
      have := cmp_any key k W; unfold Kn.cmpK at this; rw [if_neg hA, if_pos hB] at this; exact this
     have hf2 : Aside (Kn.find lt key r = Kn.find lt key T) := (show Kn.find lt key (Kn.node b k v l r) = Kn.find lt key r from by simp only [Kn.find]; rw [if_neg hA, if_pos hB]).symm.trans hf.out
     go_wp2_with (go_at_call 102; refine (hcmp _).mono ?_; rintro e w1 ⟨rfl, hw⟩; obtain rfl := hw.symm)
     go_roundg r.bs.length
     case measure => simp [Kn.bs] at hn; omega
     case rel => exact ⟨r, rfl, rfl, hi.2.2, hf2, rfl⟩
    ·have hcmp : ∀ W, Calls Try.prog 102 #[.string key, .string k] W fun e w' => e = .returned (.int .i64 0) ∧ w' = W := fun W => by
      have := cmp_any key k W; unfold Kn.cmpK at this; rw [if_neg hA, if_neg hB] at this; exact this
     have hf2 : Aside (Kn.node b k v l r = Kn.find lt key T) := (show Kn.find lt key (Kn.node b k v l r) = Kn.node b k v l r from by simp only [Kn.find]; rw [if_neg hA, if_neg hB]).symm.trans hf.out
     go_wp2_with (go_at_call 102; refine (hcmp _).mono ?_; rintro e w1 ⟨rfl, hw⟩; obtain rfl := hw.symm)
     go_ret
     exact ⟨by rw [← hf2.out]; rfl, rfl⟩
end Go.Proofs.Ytljnlnbopohghaa.OrdSm
end
section
namespace Go.Proofs.Ytljnlnbopohghaa.OrdSm
open Go.RowKit Go.Proofs.YtljnlnbopohghaaW.PrintWords Go.Proofs.YtljnlnbopohghaaW.PrintLast Go.Proofs.YtljnlnbopohghaaW.PrintMore Go.Proofs.Ytljnlnbopohghaa.Own Go.Proofs.Ytljnlnbopohghaa.Ord
set_option maxHeartbeats 2000000
set_option maxRecDepth 100000
theorem least_any (l : Kn ByteArray ByteArray) : ∀ (b : Nat) (k : ByteArray) (v : ByteArray) (r : Kn ByteArray ByteArray) (w : World), In w (.node b k v l r) → (Kn.node b k v l r).bs.Nodup → (Kn.node b k v l r).cnt < 4611686018427387904 →
    Calls Try.prog 117 #[.pointer (some ⟨b, 0, none⟩)] w fun e w' => e = .returned (.tuple #[.pointer (Kn.least b k v l r).1.adr, .pointer (some ⟨(Kn.least b k v l r).2.1, 0, none⟩)]) ∧ In w' (Kn.least b k v l r).1 ∧ Fr (Kn.node b k v l r).bs w w' ∧
      (∃ lo, Top w' (Kn.least b k v l r).2.1 (Kn.least b k v l r).2.2.1 (Kn.least b k v l r).2.2.2.1 lo (Kn.least b k v l r).2.2.2.2.adr) := by
  induction l with
  | nil =>
    intro b k v r w hin hnd hc
    have h1 := Top.of_in hin
    obtain ⟨c10, c11, c12, c13, f11, f12, f13⟩ := h1.cells
    rw [show (Kn.nil : Kn ByteArray ByteArray).adr = none from rfl] at c12
    go_enter Try.func117, Try.ntmps117
    go_wp2
    go_ret2
    exact ⟨rfl, hin.2.2, Fr.refl _ _, none, h1⟩
  | node lb lk lv ll lr ihl ihr =>
    intro b k v r w hin hnd hc
    clear ihr
    obtain ⟨nd2, no2, sub2, mem2⟩ := Kn.least_out hnd
    have nbl : b ∉ (Kn.node lb lk lv ll lr).bs := by rw [show (Kn.node b k v (.node lb lk lv ll lr) r).bs = b :: ((Kn.node lb lk lv ll lr).bs ++ r.bs) from rfl, List.nodup_cons, List.mem_append, not_or] at hnd; exact hnd.1.1
    have nbr : b ∉ r.bs := by rw [show (Kn.node b k v (.node lb lk lv ll lr) r).bs = b :: ((Kn.node lb lk lv ll lr).bs ++ r.bs) from rfl, List.nodup_cons, List.mem_append, not_or] at hnd; exact hnd.1.2
    have ndl : (Kn.node lb lk lv ll lr).bs.Nodup := by rw [show (Kn.node b k v (.node lb lk lv ll lr) r).bs = b :: ((Kn.node lb lk lv ll lr).bs ++ r.bs) from rfl, List.nodup_cons, List.nodup_append] at hnd; exact hnd.2.1
    have dj : ∀ x ∈ (Kn.node lb lk lv ll lr).bs, x ∉ r.bs := fun x hx hr => by rw [show (Kn.node b k v (.node lb lk lv ll lr) r).bs = b :: ((Kn.node lb lk lv ll lr).bs ++ r.bs) from rfl, List.nodup_cons, List.nodup_append] at hnd; exact hnd.2.2.2 x hx x hr rfl
    have hcr := Kn.bounds r
    have hcl := Kn.bounds (Kn.node lb lk lv ll lr)
    have hc1 : (Kn.node lb lk lv ll lr).cnt < 4611686018427387904 := by rw [show (Kn.node b k v (.node lb lk lv ll lr) r).cnt = 1 + (Kn.node lb lk lv ll lr).cnt + r.cnt from rfl] at hc; omega
    have hc2 : (Kn.node b k v (Kn.least lb lk lv ll lr).1 r).cnt < 4611686018427387904 := by
      have := Kn.least_cnt lb lk lv ll lr
      rw [show (Kn.node b k v (.node lb lk lv ll lr) r).cnt = 1 + (Kn.node lb lk lv ll lr).cnt + r.cnt from rfl] at hc
      rw [show (Kn.node b k v (Kn.least lb lk lv ll lr).1 r).cnt = 1 + (Kn.least lb lk lv ll lr).1.cnt + r.cnt from rfl]; omega
    have h1 := Top.of_in hin
    have ir := hin.2.2
    have nbP : b ∉ (Kn.least lb lk lv ll lr).1.bs := fun h => nbl (sub2 b h)
    have nxb : (Kn.least lb lk lv ll lr).2.1 ≠ b := fun h => nbl (h ▸ mem2)
    obtain ⟨c10, c11, c12, c13, f11, f12, f13⟩ := h1.cells
    rw [show (Kn.node lb lk lv ll lr).adr = some ⟨lb, 0, none⟩ from rfl] at c12
    have W1 := ihl lb lk lv lr w hin.2.1 ndl hc1
    clear ihl hin
    have e1 : (Kn.least b k v (.node lb lk lv ll lr) r).1 = Kn.even b k v (Kn.least lb lk lv ll lr).1 r := rfl
    have e2 : (Kn.least b k v (.node lb lk lv ll lr) r).2 = (Kn.least lb lk lv ll lr).2 := rfl
    rw [e1, e2]
    generalize Kn.least lb lk lv ll lr = x at *
    obtain ⟨P, xb, xk, xv, xr⟩ := x
    dsimp only at *
    have W2 := W1.mono (R' := fun e w2 => e = .returned (.tuple #[.pointer P.adr, .pointer (some ⟨xb, 0, none⟩)]) ∧ Top w2 b k v (some ⟨lb, 0, none⟩) r.adr ∧ (∃ lo, Top (w2.setCell ⟨b, 2, none⟩ (.pointer P.adr)) xb xk xv lo xr.adr) ∧ Fr (Kn.node b k v (.node lb lk lv ll lr) r).bs w (w2.setCell ⟨b, 2, none⟩ (.pointer P.adr)) ∧
        Calls Try.prog 118 #[.pointer (some ⟨b, 0, none⟩)] (w2.setCell ⟨b, 2, none⟩ (.pointer P.adr)) fun e w' => e = .returned (.pointer (Kn.even b k v P r).adr) ∧ In w' (Kn.even b k v P r) ∧ Fr (Kn.node b k v P r).bs (w2.setCell ⟨b, 2, none⟩ (.pointer P.adr)) w') (by
      rintro e w2 ⟨rfl, hi, fr, lo, ht⟩
      have h2 := h1.fr fr nbl
      have ir2 := in_fr fr ir (fun x hx hm => dj x hm hx)
      refine ⟨rfl, h2, ⟨lo, ht.fr (B := [b]) ((Fr.refl [b] w2).set (.inl (by simp)) _) (by simpa using nxb)⟩, ?_, even_any (h2.low P.adr) (set_in hi nbP 2 _) (set_in ir2 nbr 2 _) nd2 hc2⟩
      exact (fr.wide (fun x hx => .inl (List.mem_cons_of_mem _ (List.mem_append_left _ hx)))).set (.inl (by simp [Kn.bs])) _)
    clear W1 h1 ir
    go_enter Try.func117, Try.ntmps117
    go_wp2_with (first
      | (go_at_call 117
         refine W2.mono ?_
         clear W2
         rintro e w2 ⟨rfl, h2, ⟨lo, ht2⟩, fr2, W3⟩
         obtain ⟨c20, c21, c22, c23, f21, f22, f23⟩ := h2.cells)
      | (go_at_call 118
         refine W3.mono ?_
         clear W3
         rintro e w4 ⟨rfl, hi4, fr4⟩))
    go_ret2
    refine ⟨rfl, hi4, fr2.trans fr4 (fun x hx => .inl ?_), lo, ht2.fr fr4 no2⟩
    rw [show (Kn.node b k v P r).bs = b :: (P.bs ++ r.bs) from rfl, List.mem_cons, List.mem_append] at hx
    rw [show (Kn.node b k v (.node lb lk lv ll lr) r).bs = b :: ((Kn.node lb lk lv ll lr).bs ++ r.bs) from rfl, List.mem_cons, List.mem_append]
    rcases hx with hx | hx | hx
    · exact .inl hx
    · exact .inr (.inl (sub2 x hx))
    · exact .inr (.inr hx)
theorem drop_any (key : ByteArray) (T : Kn ByteArray ByteArray) : ∀ w : World, In w T → T.bs.Nodup → T.cnt < 4611686018427387904 →
    Calls Try.prog 105 #[.pointer T.adr, .string key] w fun e w' => e = .returned (.pointer (Kn.drop lt key T).adr) ∧ In w' (Kn.drop lt key T) ∧ Fr T.bs w w' := by
  induction T with
  | nil =>
    intro w _ _ _
    show Calls Try.prog 105 #[.pointer none, .string key] w _
    go_enter Try.func105, Try.ntmps105
    go_wp2
    go_ret
    exact ⟨rfl, trivial, Fr.refl _ _⟩
  | node b k v l r ihl ihr =>
    intro w hin hnd hc
    have nbl : b ∉ l.bs := by simp only [Kn.bs, List.nodup_cons, List.mem_append, not_or] at hnd; exact hnd.1.1
    have nbr : b ∉ r.bs := by simp only [Kn.bs, List.nodup_cons, List.mem_append, not_or] at hnd; exact hnd.1.2
    have ndl : l.bs.Nodup := by simp only [Kn.bs, List.nodup_cons, List.nodup_append] at hnd; exact hnd.2.1
    have ndr : r.bs.Nodup := by simp only [Kn.bs, List.nodup_cons, List.nodup_append] at hnd; exact hnd.2.2.1
    have dj : ∀ x ∈ l.bs, x ∉ r.bs := fun x hx hr => by simp only [Kn.bs, List.nodup_cons, List.nodup_append] at hnd; exact hnd.2.2.2 x hx x hr rfl
    have hcl := Kn.bounds l
    have hcr := Kn.bounds r
    simp only [Kn.cnt] at hc
    have h1 := Top.of_in hin
    have il := hin.2.1
    have ir := hin.2.2
    clear hin
    obtain ⟨c10, c11, c12, c13, f11, f12, f13⟩ := h1.cells
    show Calls Try.prog 105 #[.pointer (some ⟨b, 0, none⟩), .string key] w _
    by_cases hA : lt key k = true
    · have hcmp : ∀ W, Calls Try.prog 102 #[.string key, .string k] W fun e w' => e = .returned (.int .i64 (-1)) ∧ w' = W := fun W => by
        have := cmp_any key k W; unfold Kn.cmpK at this; rw [if_pos hA] at this; exact this
      have W1 := (ihl w il ndl (by omega)).mono (R' := fun e w2 => e = .returned (.pointer (Kn.drop lt key l).adr) ∧ Top w2 b k v l.adr r.adr ∧ Fr (Kn.node b k v l r).bs w (w2.setCell ⟨b, 2, none⟩ (.pointer (Kn.drop lt key l).adr)) ∧
          Calls Try.prog 118 #[.pointer (some ⟨b, 0, none⟩)] (w2.setCell ⟨b, 2, none⟩ (.pointer (Kn.drop lt key l).adr)) fun e w' => e = .returned (.pointer (Kn.even b k v (Kn.drop lt key l) r).adr) ∧ In w' (Kn.even b k v (Kn.drop lt key l) r) ∧ Fr (Kn.node b k v (Kn.drop lt key l) r).bs (w2.setCell ⟨b, 2, none⟩ (.pointer (Kn.drop lt key l).adr)) w') (by
        rintro e w2 ⟨rfl, hi, fr⟩
        have h2 := h1.fr fr nbl
        have io2 := in_fr fr ir (fun x hx hm => dj x hm hx)
        refine ⟨rfl, h2, ?_, even_any (h2.low (Kn.drop lt key l).adr) (set_in hi (fun h => nbl (Kn.drop_mem h)) 2 _) (set_in io2 nbr 2 _) (Kn.drop_left_nodup hnd) (by have := Kn.drop_cnt lt key l; simp only [Kn.cnt]; omega)⟩
        exact (fr.wide (fun x hx => .inl (List.mem_cons_of_mem _ (List.mem_append_left _ hx)))).set (.inl (by simp [Kn.bs])) _)
      have e : Kn.drop lt key (.node b k v l r) = (Kn.even b k v (Kn.drop lt key l) r) := by simp only [Kn.drop]; rw [if_pos hA]
      rw [e]
      clear ihl ihr h1 il ir e
      go_enter Try.func105, Try.ntmps105
      go_wp2_with (first
        | (go_at_call 102; refine (hcmp _).mono ?_; rintro e w1 ⟨rfl, hw⟩; obtain rfl := hw.symm)
        | (go_at_call 105
           refine W1.mono ?_
           clear W1
           rintro e w2 ⟨rfl, h2, fr2, W3⟩
           obtain ⟨c20, c21, c22, c23, f21, f22, f23⟩ := h2.cells)
        | (go_at_call 118
           refine W3.mono ?_
           clear W3
           rintro e w4 ⟨rfl, hi4, fr4⟩))
      go_ret
      refine ⟨rfl, hi4, fr2.trans fr4 (fun x hx => .inl ?_)⟩
      simp only [Kn.bs, List.mem_cons, List.mem_append] at hx ⊢
      rcases hx with hx | hx | hx
      · exact .inl hx
      · exact .inr (.inl (Kn.drop_mem hx))
      · exact .inr (.inr hx)
    · by_cases hB : lt k key = true
      · have hcmp : ∀ W, Calls Try.prog 102 #[.string key, .string k] W fun e w' => e = .returned (.int .i64 1) ∧ w' = W := fun W => by
          have := cmp_any key k W; unfold Kn.cmpK at this; rw [if_neg hA, if_pos hB] at this; exact this
        have W1 := (ihr w ir ndr (by omega)).mono (R' := fun e w2 => e = .returned (.pointer (Kn.drop lt key r).adr) ∧ Top w2 b k v l.adr r.adr ∧ Fr (Kn.node b k v l r).bs w (w2.setCell ⟨b, 3, none⟩ (.pointer (Kn.drop lt key r).adr)) ∧
            Calls Try.prog 118 #[.pointer (some ⟨b, 0, none⟩)] (w2.setCell ⟨b, 3, none⟩ (.pointer (Kn.drop lt key r).adr)) fun e w' => e = .returned (.pointer (Kn.even b k v l (Kn.drop lt key r)).adr) ∧ In w' (Kn.even b k v l (Kn.drop lt key r)) ∧ Fr (Kn.node b k v l (Kn.drop lt key r)).bs (w2.setCell ⟨b, 3, none⟩ (.pointer (Kn.drop lt key r).adr)) w') (by
          rintro e w2 ⟨rfl, hi, fr⟩
          have h2 := h1.fr fr nbr
          have io2 := in_fr fr il (fun x hx hm => dj x hx hm)
          refine ⟨rfl, h2, ?_, even_any (h2.high (Kn.drop lt key r).adr) (set_in io2 nbl 3 _) (set_in hi (fun h => nbr (Kn.drop_mem h)) 3 _) (Kn.drop_right_nodup hnd) (by have := Kn.drop_cnt lt key r; simp only [Kn.cnt]; omega)⟩
          exact (fr.wide (fun x hx => .inl (List.mem_cons_of_mem _ (List.mem_append_right _ hx)))).set (.inl (by simp [Kn.bs])) _)
        have e : Kn.drop lt key (.node b k v l r) = (Kn.even b k v l (Kn.drop lt key r)) := by simp only [Kn.drop]; rw [if_neg hA, if_pos hB]
        rw [e]
        clear ihl ihr h1 il ir e
        go_enter Try.func105, Try.ntmps105
        go_wp2_with (first
          | (go_at_call 102; refine (hcmp _).mono ?_; rintro e w1 ⟨rfl, hw⟩; obtain rfl := hw.symm)
          | (go_at_call 105
             refine W1.mono ?_
             clear W1
             rintro e w2 ⟨rfl, h2, fr2, W3⟩
             obtain ⟨c20, c21, c22, c23, f21, f22, f23⟩ := h2.cells)
          | (go_at_call 118
             refine W3.mono ?_
             clear W3
             rintro e w4 ⟨rfl, hi4, fr4⟩))
        go_ret
        refine ⟨rfl, hi4, fr2.trans fr4 (fun x hx => .inl ?_)⟩
        simp only [Kn.bs, List.mem_cons, List.mem_append] at hx ⊢
        rcases hx with hx | hx | hx
        · exact .inl hx
        · exact .inr (.inl hx)
        · exact .inr (.inr (Kn.drop_mem hx))
      · have hcmp : ∀ W, Calls Try.prog 102 #[.string key, .string k] W fun e w' => e = .returned (.int .i64 0) ∧ w' = W := fun W => by
          have := cmp_any key k W; unfold Kn.cmpK at this; rw [if_neg hA, if_neg hB] at this; exact this
        clear ihl ihr
        cases r with
        | nil =>
          have e : Kn.drop lt key (.node b k v l .nil) = l := by simp only [Kn.drop]; rw [if_neg hA, if_neg hB]
          rw [e]
          rw [show (Kn.nil : Kn ByteArray ByteArray).adr = none from rfl] at c13
          clear h1 ir e
          go_enter Try.func105, Try.ntmps105
          go_wp2_with (go_at_call 102; refine (hcmp _).mono ?_; rintro e w1 ⟨rfl, hw⟩; obtain rfl := hw.symm)
          go_ret
          exact ⟨rfl, il, Fr.refl _ _⟩
        | node rb rk rv rl rr =>
          have e : Kn.drop lt key (.node b k v l (.node rb rk rv rl rr)) = Kn.even (Kn.least rb rk rv rl rr).2.1 (Kn.least rb rk rv rl rr).2.2.1 (Kn.least rb rk rv rl rr).2.2.2.1 l (Kn.least rb rk rv rl rr).1 := by simp only [Kn.drop]; rw [if_neg hA, if_neg hB]
          rw [e]
          have p := Kn.least_bs rb rk rv rl rr
          have jn := Kn.join_nodup hnd (Kn.least rb rk rv rl rr).2.2.1 (Kn.least rb rk rv rl rr).2.2.2.1
          have jl := Kn.least_nodup ndr
          have hcx := Kn.least_cnt rb rk rv rl rr
          have W0 := least_any rl rb rk rv rr w ir ndr (by omega)
          rw [show (Kn.node rb rk rv rl rr).adr = some ⟨rb, 0, none⟩ from rfl] at c13 h1
          generalize Kn.least rb rk rv rl rr = x at *
          obtain ⟨P, xb, xk, xv, xr⟩ := x
          dsimp only at *
          have nxl : xb ∉ l.bs := fun h => dj xb h (p.mem_iff.1 List.mem_cons_self)
          have hc3 : (Kn.node xb xk xv l P).cnt < 4611686018427387904 := by simp only [Kn.cnt] at *; omega
          have W1 := W0.mono (R' := fun e w2 => e = .returned (.tuple #[.pointer P.adr, .pointer (some ⟨xb, 0, none⟩)]) ∧ Top w2 b k v l.adr (some ⟨rb, 0, none⟩) ∧ (∃ lo, Top w2 xb xk xv lo xr.adr) ∧ Fr (Kn.node b k v l (.node rb rk rv rl rr)).bs w ((w2.setCell ⟨xb, 2, none⟩ (.pointer l.adr)).setCell ⟨xb, 3, none⟩ (.pointer P.adr)) ∧
              Calls Try.prog 118 #[.pointer (some ⟨xb, 0, none⟩)] ((w2.setCell ⟨xb, 2, none⟩ (.pointer l.adr)).setCell ⟨xb, 3, none⟩ (.pointer P.adr)) fun e w' => e = .returned (.pointer (Kn.even xb xk xv l P).adr) ∧ In w' (Kn.even xb xk xv l P) ∧ Fr (Kn.node xb xk xv l P).bs ((w2.setCell ⟨xb, 2, none⟩ (.pointer l.adr)).setCell ⟨xb, 3, none⟩ (.pointer P.adr)) w') (by
            rintro e w2 ⟨rfl, hi, fr, lo, ht⟩
            have h2 := h1.fr fr nbr
            have il2 := in_fr fr il (fun x hx hm => dj x hx hm)
            have xm : xb ∈ (Kn.node b k v l (.node rb rk rv rl rr)).bs := List.mem_cons_of_mem _ (List.mem_append_right _ (p.mem_iff.1 List.mem_cons_self))
            refine ⟨rfl, h2, ⟨lo, ht⟩, ?_, even_any ((ht.low l.adr).high P.adr) (set_in (set_in il2 nxl 2 _) nxl 3 _) (set_in (set_in hi jl.2 2 _) jl.2 3 _) jn hc3⟩
            exact ((fr.wide (fun x hx => .inl (List.mem_cons_of_mem _ (List.mem_append_right _ hx)))).set (.inl xm) _).set (.inl xm) _)
          clear W0 h1 il ir e
          go_enter Try.func105, Try.ntmps105
          go_wp2_with (first
            | (go_at_call 102; refine (hcmp _).mono ?_; rintro e w1 ⟨rfl, hw⟩; obtain rfl := hw.symm)
            | (go_at_call 117
               refine W1.mono ?_
               clear W1
               rintro e w2 ⟨rfl, h2, ⟨lo, ht2⟩, fr2, W3⟩
               obtain ⟨c20, c21, c22, c23, f21, f22, f23⟩ := h2.cells
               obtain ⟨c30, c31, c32, c33, f31, f32, f33⟩ := ht2.cells)
            | (go_at_call 118
               refine W3.mono ?_
               clear W3
               rintro e w4 ⟨rfl, hi4, fr4⟩))
          go_ret
          refine ⟨rfl, hi4, fr2.trans fr4 (fun x hx => .inl ?_)⟩
          rw [show (Kn.node xb xk xv l P).bs = xb :: (l.bs ++ P.bs) from rfl, List.mem_cons, List.mem_append] at hx
          rcases hx with rfl | hx | hx
          · exact List.mem_cons_of_mem _ (List.mem_append_right _ (p.mem_iff.1 List.mem_cons_self))
          · exact List.mem_cons_of_mem _ (List.mem_append_left _ hx)
          · exact List.mem_cons_of_mem _ (List.mem_append_right _ (p.mem_iff.1 (List.mem_cons_of_mem _ hx)))
end Go.Proofs.Ytljnlnbopohghaa.OrdSm
end
section
namespace Go.Proofs.Ytljnlnbopohghaa.OrdSm
open Go.RowKit Go.Proofs.YtljnlnbopohghaaW.PrintWords Go.Proofs.YtljnlnbopohghaaW.PrintLast Go.Proofs.YtljnlnbopohghaaW.PrintMore Go.Proofs.Ytljnlnbopohghaa.Own Go.Proofs.Ytljnlnbopohghaa.Ord
set_option maxHeartbeats 2000000
set_option maxRecDepth 100000
structure Mp (w : World) (m : Nat) (T : Kn ByteArray ByteArray) : Prop where
  blk : w.heap[m]? = some (.cells #[.pointer T.adr] 153 (0, 0))
  inn : In w T
  nd : T.bs.Nodup
theorem Mp.ne {w : World} {m : Nat} {T : Kn ByteArray ByteArray} (h : Mp w m T) : m ∉ T.bs := fun hm => by
  obtain ⟨cells, hc⟩ := in_typed h.inn m hm
  rw [h.blk] at hc
  injection hc with hc
  injection hc with _ hc
  exact absurd hc (by decide)
theorem Mp.fr {w w' : World} {m : Nat} {T : Kn ByteArray ByteArray} {B : List Nat} (h : Mp w m T) (f : Fr B w w') (hm : m ∉ B) (hn : ∀ x ∈ T.bs, x ∉ B) : Mp w' m T := ⟨f.blk h.blk hm, in_fr f h.inn hn, h.nd⟩
theorem Mp.below {w w' : World} {m : Nat} {T : Kn ByteArray ByteArray} (h : Mp w m T) (f : Below w.heap.size w w') : Mp w' m T := h.fr (B := []) (Fr.of_below f) (by simp) (by simp)
theorem new_any (w : World) : Calls Try.prog 68 #[] w fun e w' => ∃ m, w.heap.size ≤ m ∧ e = .returned (.pointer (some ⟨m, 0, none⟩)) ∧ Mp w' m .nil ∧ Fr [] w w' := by
  go_enter Try.func68, Try.ntmps68
  go_wp2
  go_ret
  exact ⟨w.heap.size, Nat.le_refl _, rfl, ⟨blk_new _ _, trivial, by simp [Kn.bs]⟩, (Fr.refl _ _).alloc _⟩
theorem len_any {w : World} {m : Nat} {T : Kn ByteArray ByteArray} (h : Mp w m T) : Calls Try.prog 54 #[.pointer (some ⟨m, 0, none⟩)] w fun e w' => e = .returned (.int .i64 T.cnt) ∧ w' = w := by
  have c0 : w.cell? ⟨m, 0, none⟩ = some (.pointer T.adr) := blk_cell h.blk 0
  have W1 := size_any T w h.inn
  go_enter Try.func54, Try.ntmps54
  go_wp2_with (go_at_call 82; refine W1.mono ?_; clear W1; rintro e w1 ⟨rfl, rfl⟩)
  go_ret
  exact ⟨rfl, rfl⟩
theorem mput_any (key : ByteArray) (val : ByteArray) {w : World} {m : Nat} {T : Kn ByteArray ByteArray} (h : Mp w m T) (hc : T.cnt + 1 < 4611686018427387904) :
    Calls Try.prog 90 #[.pointer (some ⟨m, 0, none⟩), .string key, .string val] w fun e w' => ∃ nb, w.heap.size ≤ nb ∧ e = .returned (.bool (decide (T.cnt < (Kn.put lt nb key val T).cnt))) ∧ Mp w' m (Kn.put lt nb key val T) ∧ Fr (m :: T.bs) w w' := by
  have c0 : w.cell? ⟨m, 0, none⟩ = some (.pointer T.adr) := blk_cell h.blk 0
  have f0 := blk_frozen h.blk 0
  have L0 := len_any h
  have hlt := in_lt h.inn
  have hmlt := blk_lt h.blk
  have W1 := (put_any key val T w h.inn h.nd hc).mono (R' := fun e w2 => ∃ nb, w.heap.size ≤ nb ∧ e = .returned (.pointer (Kn.put lt nb key val T).adr) ∧ w2.cell? ⟨m, 0, none⟩ = some (.pointer T.adr) ∧ w2.frozen? ⟨m, 0, none⟩ = false ∧ Mp (w2.setCell ⟨m, 0, none⟩ (.pointer (Kn.put lt nb key val T).adr)) m (Kn.put lt nb key val T) ∧ Fr (m :: T.bs) w (w2.setCell ⟨m, 0, none⟩ (.pointer (Kn.put lt nb key val T).adr))) (by
    rintro e w2 ⟨nb, hnb, rfl, hi, fr⟩
    have hb := fr.blk h.blk h.ne
    have mP : m ∉ (Kn.put lt nb key val T).bs := fun hm => by rcases Kn.put_mem hm with e | e; omega; exact h.ne e
    refine ⟨nb, hnb, rfl, blk_cell hb 0, blk_frozen hb 0, ⟨blk_put hb 0 _ rfl, set_in hi mP 0 _, Kn.put_nodup h.nd (fun hm => by have := hlt nb hm; omega)⟩, ?_⟩
    exact (fr.wide (fun x hx => .inl (List.mem_cons_of_mem _ hx))).set (.inl List.mem_cons_self) _)
  clear h
  go_enter Try.func90, Try.ntmps90
  go_wp2_with (first
    | (go_at_call 54; refine L0.mono ?_; clear L0; rintro e w1 ⟨rfl, hw⟩; obtain rfl := hw.symm)
    | (go_at_call 107
       refine W1.mono ?_
       clear W1
       rintro e w2 ⟨nb, hnb, rfl, c2, f2, hm2, fr2⟩
       have L2 := len_any hm2)
    | (go_at_call 54; refine L2.mono ?_; clear L2; rintro e w3 ⟨rfl, hw⟩; obtain rfl := hw.symm))
  go_ret
  exact ⟨nb, hnb, rfl, hm2, fr2⟩
theorem mdrop_any (key : ByteArray) {w : World} {m : Nat} {T : Kn ByteArray ByteArray} (h : Mp w m T) (hc : T.cnt < 4611686018427387904) :
    Calls Try.prog 88 #[.pointer (some ⟨m, 0, none⟩), .string key] w fun e w' => e = .returned (.bool (decide ((Kn.drop lt key T).cnt < T.cnt))) ∧ Mp w' m (Kn.drop lt key T) ∧ Fr (m :: T.bs) w w' := by
  have c0 : w.cell? ⟨m, 0, none⟩ = some (.pointer T.adr) := blk_cell h.blk 0
  have f0 := blk_frozen h.blk 0
  have L0 := len_any h
  have W1 := (drop_any key T w h.inn h.nd hc).mono (R' := fun e w2 => e = .returned (.pointer (Kn.drop lt key T).adr) ∧ w2.cell? ⟨m, 0, none⟩ = some (.pointer T.adr) ∧ w2.frozen? ⟨m, 0, none⟩ = false ∧ Mp (w2.setCell ⟨m, 0, none⟩ (.pointer (Kn.drop lt key T).adr)) m (Kn.drop lt key T) ∧ Fr (m :: T.bs) w (w2.setCell ⟨m, 0, none⟩ (.pointer (Kn.drop lt key T).adr))) (by
    rintro e w2 ⟨rfl, hi, fr⟩
    have hb := fr.blk h.blk h.ne
    have mP : m ∉ (Kn.drop lt key T).bs := fun hm => h.ne (Kn.drop_mem hm)
    refine ⟨rfl, blk_cell hb 0, blk_frozen hb 0, ⟨blk_put hb 0 _ rfl, set_in hi mP 0 _, Kn.drop_nodup h.nd⟩, ?_⟩
    exact (fr.wide (fun x hx => .inl (List.mem_cons_of_mem _ hx))).set (.inl List.mem_cons_self) _)
  clear h
  go_enter Try.func88, Try.ntmps88
  go_wp2_with (first
    | (go_at_call 54; refine L0.mono ?_; clear L0; rintro e w1 ⟨rfl, hw⟩; obtain rfl := hw.symm)
    | (go_at_call 105
       refine W1.mono ?_
       clear W1
       rintro e w2 ⟨rfl, c2, f2, hm2, fr2⟩
       have L2 := len_any hm2)
    | (go_at_call 54; refine L2.mono ?_; clear L2; rintro e w3 ⟨rfl, hw⟩; obtain rfl := hw.symm))
  go_ret
  exact ⟨rfl, hm2, fr2⟩
theorem in_find (key : ByteArray) {w : World} : ∀ {T : Kn ByteArray ByteArray}, In w T → In w (Kn.find lt key T)
  | .nil, _ => trivial
  | .node b k v l r, h => by
    unfold Kn.find
    split
    · exact in_find key h.2.1
    · split
      · exact in_find key h.2.2
      · exact h
def got (key : ByteArray) (T : Kn ByteArray ByteArray) : ByteArray × Bool := match Kn.find lt key T with | .nil => (ByteArray.empty, false) | .node _ _ v _ _ => (v, true)
theorem get_any (key : ByteArray) {w : World} {m : Nat} {T : Kn ByteArray ByteArray} (h : Mp w m T) :
    Calls Try.prog 56 #[.pointer (some ⟨m, 0, none⟩), .string key] w fun e w' => e = .returned (.tuple #[.string (got key T).1, .bool (got key T).2]) ∧ w' = w := by
  have c0 : w.cell? ⟨m, 0, none⟩ = some (.pointer T.adr) := blk_cell h.blk 0
  have W1 := find_any key T w h.inn
  have hi := in_find key h.inn
  unfold got
  clear h
  cases hF : Kn.find lt key T with
  | nil =>
    rw [hF] at W1
    rw [show (Kn.nil : Kn ByteArray ByteArray).adr = none from rfl] at W1
    clear hF
    go_enter Try.func56, Try.ntmps56
    go_wp2_with (go_at_call 86; refine W1.mono ?_; clear W1; rintro e w1 ⟨rfl, hw⟩; obtain rfl := hw.symm)
    go_ret2
    exact ⟨rfl, rfl⟩
  | node b k v l r =>
    rw [hF] at W1 hi
    rw [show (Kn.node b k v l r).adr = some ⟨b, 0, none⟩ from rfl] at W1
    clear hF
    obtain ⟨c10, c11, c12, c13, f11, f12, f13⟩ := (Top.of_in hi).cells
    go_enter Try.func56, Try.ntmps56
    go_wp2_with (go_at_call 86; refine W1.mono ?_; clear W1; rintro e w1 ⟨rfl, hw⟩; obtain rfl := hw.symm)
    go_ret2
    exact ⟨rfl, rfl⟩
end Go.Proofs.Ytljnlnbopohghaa.OrdSm
end
section
namespace Go.Proofs.Ytljnlnbopohghaa.OrdSm
open Go.RowKit Go.Shelf Go.Proofs.YtljnlnbopohghaaW.PrintWords Go.Proofs.YtljnlnbopohghaaW.PrintLast Go.Proofs.YtljnlnbopohghaaW.PrintMore Go.Proofs.Ytljnlnbopohghaa.Own Go.Proofs.Ytljnlnbopohghaa.Ord
open List renaming setIfInBounds_toArray → sA1, set_cons_zero → sA2, set_cons_succ → sA3, getElem_toArray → sA4, getElem_cons_zero → sA5, getElem_cons_succ → sA6
attribute [local go_sem] Oper.semAt_some
set_option maxHeartbeats 2000000
set_option maxRecDepth 100000
theorem tkI_ {F : Fence} {n : Nat} {P : Program} {ops : Array Oper} {Q : Exit → Act → World → Prop} {md : Region.Mode} (i : Nat) {oi : Oper} {v : Value} {fuel : Nat} {listed : Array Bool} {a : Act} {w : World} (hi : ops[i]? = some oi) (hw : ∀ w, (execOp a.eval oi).run P w = .ok (.value v) w) (h : wpAnyIn F n P md ops Q fuel (listed.setIfInBounds i true) (a.put oi.dst v) w)
 (hro : F.round = none := by rfl) (hs : Region.noSelect ops = true := by kernel_rfl) (hf : Region.free md ops listed i = true := by kernel_rfl) (hr : (Region.ready md ops listed).contains i = true := by kernel_rfl) (hQ : ∀ c a w, Q (.panic c) (a.put oi.dst v) w → Q (.panic c) a w := by exact fun _ _ _ h => h) (h1 : Region.wanted oi (yielded ops a.tmps) = true := by rfl) (h2 : ∀ w, oi.about P w a.eval = none := by exact fun _ => rfl) : wpAnyIn F n P md ops Q (fuel + 1) listed a w := wpAnyIn_take hro hi hs hf hr hQ ⟨Or.inl ⟨h1, hw⟩, h2⟩ h
theorem tkJ_ {F : Fence} {n : Nat} {P : Program} {ops : Array Oper} {Q : Exit → Act → World → Prop} {md : Region.Mode} (i : Nat) {N : Tmp} {oi : Oper} {v : Value} {fuel : Nat} {listed : Array Bool} {a a' : Act} {w : World} (hi : ops[i]? = some oi) (h : wpAnyIn F n P md ops Q fuel (listed.setIfInBounds i true) a' w)
 (hro : F.round = none := by rfl) (hs : Region.noSelect ops = true := by kernel_rfl) (hf : Region.free md ops listed i = true := by kernel_rfl) (hr : (Region.ready md ops listed).contains i = true := by kernel_rfl) (hQ : ∀ c a w, Q (.panic c) (a.put oi.dst v) w → Q (.panic c) a w := by exact fun _ _ _ h => h) (h1 : Region.wanted oi (yielded ops a.tmps) = true := by rfl) (h2 : ∀ w, oi.about P w a.eval = none := by exact fun _ => rfl) (hw : ∀ w, (execOp a.eval oi).run P w = .ok (.value v) w := by (intro w; go_simp; first | done | with_reducible rfl)) (hN : oi.dst = some N := by rfl) (ha : a.put (some N) v = a' := by (simp only [Act.put, sA1, sA2, sA3, sA4, sA5, sA6]; rfl)) : wpAnyIn F n P md ops Q (fuel + 1) listed a w := by
 subst ha
 rw [← hN] at h
 exact wpAnyIn_take hro hi hs hf hr hQ ⟨Or.inl ⟨h1, hw⟩, h2⟩ h
theorem tkU_ {F : Fence} {n : Nat} {P : Program} {ops : Array Oper} {Q : Exit → Act → World → Prop} {md : Region.Mode} (i : Nat) {N : Tmp} {oi : Oper} {fuel : Nat} {listed : Array Bool} {a a' : Act} {w : World} (hi : ops[i]? = some oi) (h : wpAnyIn F n P md ops Q fuel (listed.setIfInBounds i true) a' w)
 (hro : F.round = none := by rfl) (hs : Region.noSelect ops = true := by kernel_rfl) (hf : Region.free md ops listed i = true := by kernel_rfl) (hr : (Region.ready md ops listed).contains i = true := by kernel_rfl) (hQ : ∀ c a w, Q (.panic c) (a.put oi.dst undef) w → Q (.panic c) a w := by exact fun _ _ _ h => h) (hy : YieldsFenced P ops oi undef a := by exact ⟨Or.inr ⟨by rfl, rfl⟩, fun _ => rfl⟩) (hN : oi.dst = some N := by rfl) (ha : a.put (some N) undef = a' := by (simp only [Act.put, sA1, sA2, sA3, sA4, sA5, sA6]; rfl)) : wpAnyIn F n P md ops Q (fuel + 1) listed a w := by
 subst ha
 rw [← hN] at h
 exact wpAnyIn_take hro hi hs hf hr hQ hy h
theorem RoundIn.anyDepth {F : Fence} (hd : F.depth = none) {m m' : Nat} {P : Program} {l : Nat} {f : FuncId} {tmps : Array Value} {assign body : Code} {w : World} {R : Ending → World → Prop}
  (h : RoundIn F m P l f tmps assign body w R) : RoundIn F m' P l f tmps assign body w R := ⟨h.1, fun c cs _ => h.2 c cs (fun d h => by rw [hd] at h; cases h)⟩
theorem YieldAt.anyDepth {F : Fence} (hd : F.depth = none) {m : Nat} (m' : Nat) {P : Program} {l : Nat} {args : Array Value} {W : World} {R : Ending → World → Prop} (h : YieldAt F m P l args W R) : YieldAt F m' P l args W R := by
 obtain ⟨fn, tmps, assign, body, hy, hR⟩ := h
 exact ⟨fn, tmps, assign, body, hy, RoundIn.anyDepth hd hR⟩
theorem less_any (x y : ByteArray) (w : World) : Calls Try.prog 113 #[.string x, .string y] w fun e w' => e = .returned (.bool (lt x y)) ∧ w' = w := by
 by_cases h1 : lt x y = true
 ·rw [h1]
  go_enter Try.func113, Try.ntmps113
  go_wp2_with (go_at_call 116; refine (nan_any _ _).mono ?_; rintro e w1 ⟨rfl, rfl⟩)
  go_ret
  simp
 ·have h2 : lt x y = false := by cases h : lt x y <;> simp_all
  rw [h2]
  go_enter Try.func113, Try.ntmps113
  go_wp2_with (go_at_call 116; refine (nan_any _ _).mono ?_; rintro e w1 ⟨rfl, rfl⟩)
  go_ret
  simp
structure Kee (S : Nat → Prop) (W W' : World) : Prop where
 size : W.heap.size ≤ W'.heap.size
 block : ∀ k, S k → W'.heap[k]? = W.heap[k]?
namespace Kee
variable {S : Nat → Prop} {A B C : World}
theorem refl (S : Nat → Prop) (W : World) : Kee S W W := ⟨Nat.le_refl _, fun _ _ => rfl⟩
theorem trans (h : Kee S A B) (k : Kee S B C) : Kee S A C := ⟨Nat.le_trans h.size k.size, fun i hi => (k.block i hi).trans (h.block i hi)⟩
theorem cell (h : Kee S A B) {p : Addr} (hp : S p.block) : B.cell? p = A.cell? p := by unfold World.cell?; rw [h.block _ hp]
theorem drewN (h : Kee S A B) (n : Nat) : Kee S A (B.drewN n) := ⟨h.size, h.block⟩
theorem drew (h : Kee S A B) : Kee S A B.drew := ⟨h.size, h.block⟩
end Kee
theorem in_kee {S : Nat → Prop} {A B : World} (h : Kee S A B) : ∀ {T : Kn ByteArray ByteArray}, In A T → (∀ x ∈ T.bs, S x) → In B T
 | .nil, _, _ => trivial
 | .node b k v l r, hi, hn => ⟨(h.block b (hn b (by simp [Kn.bs]))).trans hi.1, in_kee h hi.2.1 (fun x hx => hn x (by simp [Kn.bs, hx])), in_kee h hi.2.2 (fun x hx => hn x (by simp [Kn.bs, hx]))⟩
def walkA : Kn ByteArray ByteArray → List (ByteArray × ByteArray)
 | .nil => []
 | .node b k v l r => walkA l ++ (k, v) :: walkA r
def walkB (s : ByteArray) : Kn ByteArray ByteArray → List (ByteArray × ByteArray)
 | .nil => []
 | .node b k v l r => if lt k s = true then walkB s r else walkB s l ++ (k, v) :: walkA r
theorem calls_wide {n : Nat} {f : FuncId} {args : Array Value} {w : World} {R : Ending → World → Prop} (h : Calls Try.prog f args w R) : CallsIn Fence.wide n Try.prog f args w R := callsIn_wide.2 h
theorem cut2 {G C : Prop} (h : G → C) (g : G) : C := h g
theorem walk_none (l N : Nat) (S : Nat → Prop) (J Jx : List (ByteArray × ByteArray) → World → Prop) (hJd : ∀ pre W n, J pre W → J pre (W.drewN n))
  (hY : ∀ m pre x W, J pre W → pre.length < N → YieldAt Fence.wide m Try.prog l #[.string x.1, .string x.2] W fun e W' =>
   (e = .returned (.bool true) ∧ J (pre ++ [x]) W' ∧ Kee S W W') ∨ (e = .returned (.bool false) ∧ Jx (pre ++ [x]) W')) (T : Kn ByteArray ByteArray) :
  ∀ (n : Nat) (pre : List (ByteArray × ByteArray)) (W : World), In W T → (∀ x ∈ T.bs, S x) → J pre W → pre.length + (walkA T).length ≤ N →
   CallsIn Fence.wide n Try.prog 100 #[.pointer T.adr, .pointer none, .func (.yield l) #[] #[]] W fun e W' =>
    (e = .returned (.bool true) ∧ J (pre ++ walkA T) W' ∧ Kee S W W') ∨ (e = .returned (.bool false) ∧ ∃ q, q <+: walkA T ∧ Jx (pre ++ q) W') := by
 induction T with
 | nil =>
  intro n pre W _ _ hJ _
  show CallsIn Fence.wide n Try.prog 100 #[.pointer none, .pointer none, .func (.yield l) #[] #[]] W _
  refine callsIn_of_wp Try.func100 rfl trivial ?_ rfl
  simp only [Try.ntmps100, List.size_toArray, List.length_cons, List.length_nil, Nat.reduceAdd, Nat.reduceSub, Array.replicate_succ, Array.replicate_zero, List.push_toArray, List.append_toArray, List.nil_append, List.cons_append]
  gi_wp2
  go_ret
  exact .inl ⟨rfl, by simpa [walkA] using hJ, Kee.refl _ _⟩
 | node b k v tl tr ihl ihr =>
  intro n pre W hin hlt hJ hN
  have hdd : ∀ k : Nat, (Fence.wide.depth.isSome = true → 1 ≤ k) := fun k h => by cases h
  have hb : S b := hlt b (by simp [Kn.bs])
  have hltl : ∀ x ∈ tl.bs, S x := fun x hx => hlt x (by simp [Kn.bs, hx])
  have hltr : ∀ x ∈ tr.bs, S x := fun x hx => hlt x (by simp [Kn.bs, hx])
  obtain ⟨c10, c11, c12, c13, _, _, _⟩ := (Top.of_in hin).cells
  simp only [walkA] at hN ⊢
  show CallsIn Fence.wide n Try.prog 100 #[.pointer (some ⟨b, 0, none⟩), .pointer none, .func (.yield l) #[] #[]] W _
  refine callsIn_of_wp Try.func100 rfl trivial ?_ rfl
  simp only [Try.ntmps100, List.size_toArray, List.length_cons, List.length_nil, Nat.reduceAdd, Nat.reduceSub, Array.replicate_succ, Array.replicate_zero, List.push_toArray, List.append_toArray, List.nil_append, List.cons_append]
  gi_wp2
  refine wpIn_region_quiet_lit rfl (by kernel_rfl) (by kernel_rfl) ?_
  repeat (refine wpQuietIn_step (fun _ _ _ _ => trivial) (fun K hK => ?_); go_simp; first | (refine hK _ ?_; clear hK K) | (refine ⟨_, fun _ => rfl, hK _ ?_⟩; clear hK K))
  refine wpQuietIn_nil ?_
  intro _ hw'
  obtain ⟨nq, hw''⟩ := hw'
  subst hw''
  obtain ⟨W0, hW⟩ : ∃ W0, W0 = W.drewN nq := ⟨_, rfl⟩
  rw [← hW]
  have hin : In W0 (.node b k v tl tr) := by rw [hW]; exact in_drewN _ hin
  have bl : Kee S W W0 := by rw [hW]; exact (Kee.refl _ _).drewN _
  have hJ : J pre W0 := by rw [hW]; exact hJd _ _ _ hJ
  clear hW c10 c11 c12 c13
  obtain ⟨c10, c11, c12, c13, _, _, _⟩ := (Top.of_in hin).cells
  simp only [List.length_append, List.length_cons] at hN
  have hy2 : ∀ W1, J (pre ++ walkA tl) W1 → Kee S W0 W1 → YieldAt Fence.wide (n - 1) Try.prog l #[.string k, .string v] W1 fun e W2 =>
    (e = .returned (.bool true) ∧ J (pre ++ walkA tl ++ [(k, v)]) W2 ∧ Kee S W0 W2 ∧ W2.cell? ⟨b, 3, none⟩ = some (.pointer tr.adr) ∧ In W2 tr) ∨ (e = .returned (.bool false) ∧ Jx (pre ++ walkA tl ++ [(k, v)]) W2) := fun W1 hJ1 hb1 =>
   YieldAt.mono (hY (n - 1) _ (k, v) W1 hJ1 (by simp; omega)) fun e W2 h => h.elim
    (fun ⟨he, hj, hb2⟩ => .inl ⟨he, hj, hb1.trans hb2, ((hb1.trans hb2).cell (p := ⟨b, 3, none⟩) hb).trans c13, in_kee (hb1.trans hb2) hin.2.2 hltr⟩) .inr
  have ih1 := (ihl (n - 1) pre W0.drew (in_drewN 1 hin.2.1) hltl (hJd _ _ 1 hJ) (by omega)).mono (R' := fun e W1 =>
    (e = .returned (.bool true) ∧ W1.cell? ⟨b, 0, none⟩ = some (.string k) ∧ W1.cell? ⟨b, 1, none⟩ = some (.string v) ∧ YieldAt Fence.wide (n - 1) Try.prog l #[.string k, .string v] W1 fun e W2 =>
     (e = .returned (.bool true) ∧ J (pre ++ walkA tl ++ [(k, v)]) W2 ∧ Kee S W0 W2 ∧ W2.cell? ⟨b, 3, none⟩ = some (.pointer tr.adr) ∧ In W2 tr) ∨ (e = .returned (.bool false) ∧ Jx (pre ++ walkA tl ++ [(k, v)]) W2)) ∨
    (e = .returned (.bool false) ∧ ∃ q, q <+: walkA tl ∧ Jx (pre ++ q) W1))
   (fun e W1 h => h.elim (fun ⟨he, hj, hb0⟩ => have hb1 := (Kee.refl S W0).drew.trans hb0; .inl ⟨he, (hb1.cell (p := ⟨b, 0, none⟩) hb).trans c10, (hb1.cell (p := ⟨b, 1, none⟩) hb).trans c11, hy2 W1 hj hb1⟩) .inr)
  clear hy2 ihl
  gi_wp2
  refine wpIn_region_any (by kernel_rfl) ?_
  change wpAnyIn _ _ _ _ _ _ _ _ _ (World.drew _)
  refine tkJ_ 0 rfl ?_
  refine tkJ_ 1 rfl ?_
  refine tkJ_ 2 rfl ?_
  refine tkJ_ 4 rfl ?_
  refine tkJ_ 5 rfl ?_
  refine wpAnyIn_ready (rs := [3]) (by kernel_rfl) (by simp) ?_
  refine AllReadyIn.cons rfl (fun K hK => ?_) ?_
  ·go_simp
   refine hK _ _ ?_
   clear hK K
   refine wpAnyIn_ready (rs := [6]) (by kernel_rfl) (by simp) ?_
   refine AllReadyIn.cons rfl (fun K hK => ?_) ?_
   ·go_simp
    refine ⟨trivial, hdd _, ih1.mono ?_⟩
    clear ih1
    rintro e W1 (⟨rfl, c10', c11', fn, tmps, assign, body, hy, hR⟩ | ⟨rfl, q, hq, hx1⟩)
    ·refine hK _ _ ?_
     clear hK K
     refine tkJ_ 7 rfl ?_
     refine tkJ_ 8 rfl ?_
     refine tkJ_ 9 rfl ?_
     refine tkJ_ 10 rfl ?_
     refine tkJ_ 11 rfl ?_
     refine tkJ_ 13 rfl ?_
     refine tkJ_ 14 rfl ?_
     refine tkJ_ 15 rfl ?_
     apply cut2
     ·intro hcont
      refine wpAnyIn_ready (rs := [12, 16]) (by kernel_rfl) (by simp) ?_
      refine AllReadyIn.cons rfl (fun K hK => ?_) ?_
      ·go_simp
       refine hK _ _ ?_
       clear hK K
       refine wpAnyIn_ready (rs := [16]) (by kernel_rfl) (by simp) ?_
       refine AllReadyIn.cons rfl (fun K hK => ?_) ?_
       ·go_simp
        refine hK _ _ ?_
        clear hK K
        exact hcont
       exact AllReadyIn.nil
      refine AllReadyIn.cons rfl (fun K hK => ?_) ?_
      ·go_simp
       refine hK _ _ ?_
       clear hK K
       refine wpAnyIn_ready (rs := [12]) (by kernel_rfl) (by simp) ?_
       refine AllReadyIn.cons rfl (fun K hK => ?_) ?_
       ·go_simp
        refine hK _ _ ?_
        clear hK K
        exact hcont
       exact AllReadyIn.nil
      exact AllReadyIn.nil
     refine wpAnyIn_ready (rs := [17]) (by kernel_rfl) (by simp) ?_
     refine AllReadyIn.cons rfl (fun K hK => ?_) ?_
     ·go_simp
      refine ⟨hdd _, hR.mono ?_⟩
      clear hR
      rintro e W2 (⟨rfl, hJ2, hb2, c13', hr2⟩ | ⟨rfl, hx2⟩)
      ·refine hK _ _ ?_
       clear hK K
       refine tkJ_ 18 rfl ?_
       refine tkJ_ 19 rfl ?_
       refine tkJ_ 20 rfl ?_
       refine tkJ_ 21 rfl ?_
       refine tkJ_ 22 rfl ?_
       refine tkJ_ 24 rfl ?_
       refine wpAnyIn_ready (rs := [23]) (by kernel_rfl) (by simp) ?_
       refine AllReadyIn.cons rfl (fun K hK => ?_) ?_
       ·go_simp
        refine hK _ _ ?_
        clear hK K
        refine wpAnyIn_ready (rs := [25]) (by kernel_rfl) (by simp) ?_
        refine AllReadyIn.cons rfl (fun K hK => ?_) ?_
        ·go_simp
         refine ⟨trivial, hdd _, (ihr (n - 1) _ _ hr2 hltr hJ2 (by simp; omega)).mono ?_⟩
         rintro e W3 (⟨rfl, hJ3, hb3⟩ | ⟨rfl, q, hq, hx3⟩)
         ·refine hK _ _ ?_
          clear hK K
          refine tkJ_ 26 rfl ?_
          refine tkJ_ 27 rfl ?_
          refine wpAnyIn_done (by kernel_rfl) ?_ _
          gi_wp2
          go_ret
          exact .inl ⟨rfl, by simpa [List.append_assoc] using hJ3, bl.trans (hb2.trans hb3)⟩
         ·refine hK _ _ ?_
          clear hK K
          refine tkJ_ 26 rfl ?_
          refine tkJ_ 27 rfl ?_
          refine wpAnyIn_done (by kernel_rfl) ?_ _
          gi_wp2
          go_ret
          obtain ⟨r, hr'⟩ := hq
          exact .inr ⟨rfl, walkA tl ++ (k, v) :: q, ⟨r, by rw [← hr']; simp⟩, by simpa [List.append_assoc] using hx3⟩
        exact AllReadyIn.nil
       exact AllReadyIn.nil
      ·refine hK _ _ ?_
       clear hK K
       refine tkJ_ 18 rfl ?_
       refine tkJ_ 19 rfl ?_
       refine tkU_ 20 rfl ?_
       refine tkU_ 21 rfl ?_
       refine tkU_ 22 rfl ?_
       refine tkU_ 23 rfl ?_
       refine tkU_ 24 rfl ?_
       refine wpAnyIn_ready (rs := [25]) (by kernel_rfl) (by simp) ?_
       refine AllReadyIn.cons rfl (fun K hK => ?_) ?_
       ·go_simp
        refine ⟨trivial, ?_⟩
        refine hK _ _ ?_
        clear hK K
        refine tkJ_ 26 rfl ?_
        refine tkJ_ 27 rfl ?_
        refine wpAnyIn_done (by kernel_rfl) ?_ _
        gi_wp2
        go_ret
        exact .inr ⟨rfl, walkA tl ++ [(k, v)], ⟨walkA tr, by simp⟩, by simpa [List.append_assoc] using hx2⟩
       exact AllReadyIn.nil
     exact AllReadyIn.nil
    ·refine hK _ _ ?_
     clear hK K
     refine tkJ_ 7 rfl ?_
     refine tkU_ 8 rfl ?_
     refine tkU_ 9 rfl ?_
     refine tkU_ 10 rfl ?_
     refine tkU_ 11 rfl ?_
     refine tkU_ 12 rfl ?_
     refine tkU_ 13 rfl ?_
     refine tkU_ 14 rfl ?_
     refine tkU_ 15 rfl ?_
     refine tkU_ 16 rfl ?_
     refine wpAnyIn_ready (rs := [17]) (by kernel_rfl) (by simp) ?_
     refine AllReadyIn.cons rfl (fun K hK => ?_) ?_
     ·go_simp
      refine ⟨fun _ _ => trivial, ?_⟩
      refine hK _ _ ?_
      clear hK K
      refine tkJ_ 18 rfl ?_
      refine tkJ_ 19 rfl ?_
      refine tkU_ 20 rfl ?_
      refine tkU_ 21 rfl ?_
      refine tkU_ 22 rfl ?_
      refine tkU_ 23 rfl ?_
      refine tkU_ 24 rfl ?_
      refine wpAnyIn_ready (rs := [25]) (by kernel_rfl) (by simp) ?_
      refine AllReadyIn.cons rfl (fun K hK => ?_) ?_
      ·go_simp
       refine ⟨trivial, ?_⟩
       refine hK _ _ ?_
       clear hK K
       refine tkJ_ 26 rfl ?_
       refine tkJ_ 27 rfl ?_
       refine wpAnyIn_done (by kernel_rfl) ?_ _
       gi_wp2
       go_ret
       exact .inr ⟨rfl, q, hq.trans (List.prefix_append _ _), hx1⟩
      exact AllReadyIn.nil
     exact AllReadyIn.nil
   exact AllReadyIn.nil
  exact AllReadyIn.nil
theorem walk_some (l N : Nat) (S : Nat → Prop) (J Jx : List (ByteArray × ByteArray) → World → Prop) (hJd : ∀ pre W n, J pre W → J pre (W.drewN n))
  (hY : ∀ m pre x W, J pre W → pre.length < N → YieldAt Fence.wide m Try.prog l #[.string x.1, .string x.2] W fun e W' =>
   (e = .returned (.bool true) ∧ J (pre ++ [x]) W' ∧ Kee S W W') ∨ (e = .returned (.bool false) ∧ Jx (pre ++ [x]) W')) (a : Addr) (s : ByteArray) (ha : S a.block) (T : Kn ByteArray ByteArray) :
  ∀ (n : Nat) (pre : List (ByteArray × ByteArray)) (W : World), In W T → (∀ x ∈ T.bs, S x) → W.cell? a = some (.string s) → J pre W → pre.length + (walkB s T).length ≤ N →
   CallsIn Fence.wide n Try.prog 100 #[.pointer T.adr, .pointer (some a), .func (.yield l) #[] #[]] W fun e W' =>
    (e = .returned (.bool true) ∧ J (pre ++ walkB s T) W' ∧ Kee S W W') ∨ (e = .returned (.bool false) ∧ ∃ q, q <+: walkB s T ∧ Jx (pre ++ q) W') := by
 induction T with
 | nil =>
  intro n pre W _ _ _ hJ _
  show CallsIn Fence.wide n Try.prog 100 #[.pointer none, .pointer (some a), .func (.yield l) #[] #[]] W _
  refine callsIn_of_wp Try.func100 rfl trivial ?_ rfl
  simp only [Try.ntmps100, List.size_toArray, List.length_cons, List.length_nil, Nat.reduceAdd, Nat.reduceSub, Array.replicate_succ, Array.replicate_zero, List.push_toArray, List.append_toArray, List.nil_append, List.cons_append]
  gi_wp2
  go_ret
  exact .inl ⟨rfl, by simpa [walkB] using hJ, Kee.refl _ _⟩
 | node b k v tl tr ihl ihb =>
  intro n pre W hin hlt cs hJ hN
  have hdd : ∀ k : Nat, (Fence.wide.depth.isSome = true → 1 ≤ k) := fun k h => by cases h
  have hb : S b := hlt b (by simp [Kn.bs])
  have hltl : ∀ x ∈ tl.bs, S x := fun x hx => hlt x (by simp [Kn.bs, hx])
  have hltr : ∀ x ∈ tr.bs, S x := fun x hx => hlt x (by simp [Kn.bs, hx])
  obtain ⟨c10, c11, c12, c13, _, _, _⟩ := (Top.of_in hin).cells
  have ihr := walk_none l N S J Jx hJd hY tr
  by_cases hs : lt k s = true
  ·simp only [walkB, if_pos hs] at hN ⊢
   show CallsIn Fence.wide n Try.prog 100 #[.pointer (some ⟨b, 0, none⟩), .pointer (some a), .func (.yield l) #[] #[]] W _
   refine callsIn_of_wp Try.func100 rfl trivial ?_ rfl
   simp only [Try.ntmps100, List.size_toArray, List.length_cons, List.length_nil, Nat.reduceAdd, Nat.reduceSub, Array.replicate_succ, Array.replicate_zero, List.push_toArray, List.append_toArray, List.nil_append, List.cons_append]
   gi_wp2
   refine wpIn_region_any (by kernel_rfl) ?_
   change wpAnyIn _ _ _ _ _ _ _ _ _ (World.drew _)
   obtain ⟨W0, hW⟩ : ∃ W0, W0 = W.drewN 1 := ⟨_, rfl⟩
   have nq := 1
   change wpAnyIn _ _ _ _ _ _ _ _ _ (W.drewN 1)
   rw [← hW]
   have hin : In W0 (.node b k v tl tr) := by rw [hW]; exact in_drewN _ hin
   have bl : Kee S W W0 := by rw [hW]; exact (Kee.refl _ _).drewN _
   have hJ : J pre W0 := by rw [hW]; exact hJd _ _ _ hJ
   have cs := (bl.cell ha).trans cs
   clear hW c10 c11 c12 c13
   obtain ⟨c10, c11, c12, c13, _, _, _⟩ := (Top.of_in hin).cells
   refine tkJ_ 0 rfl ?_
   refine tkJ_ 1 rfl ?_
   refine tkJ_ 2 rfl ?_
   refine tkJ_ 3 rfl ?_
   refine tkJ_ 4 rfl ?_
   refine tkJ_ 5 rfl ?_
   refine tkJ_ 7 rfl ?_
   refine tkJ_ 8 rfl ?_
   apply cut2
   ·intro hcont
    refine wpAnyIn_ready (rs := [6, 9]) (by kernel_rfl) (by simp) ?_
    refine AllReadyIn.cons rfl (fun K hK => ?_) ?_
    ·go_simp
     refine hK _ _ ?_
     clear hK K
     refine wpAnyIn_ready (rs := [9]) (by kernel_rfl) (by simp) ?_
     refine AllReadyIn.cons rfl (fun K hK => ?_) ?_
     ·go_simp
      refine hK _ _ ?_
      clear hK K
      exact hcont
     exact AllReadyIn.nil
    refine AllReadyIn.cons rfl (fun K hK => ?_) ?_
    ·go_simp
     refine hK _ _ ?_
     clear hK K
     refine wpAnyIn_ready (rs := [6]) (by kernel_rfl) (by simp) ?_
     refine AllReadyIn.cons rfl (fun K hK => ?_) ?_
     ·go_simp
      refine hK _ _ ?_
      clear hK K
      exact hcont
     exact AllReadyIn.nil
    exact AllReadyIn.nil
   refine wpAnyIn_ready (rs := [10]) (by kernel_rfl) (by simp) ?_
   refine AllReadyIn.cons rfl (fun K hK => ?_) ?_
   ·go_simp
    refine ⟨trivial, hdd _, (calls_wide (less_any k s W0)).mono ?_⟩
    rintro e W1 ⟨rfl, hw⟩
    obtain rfl := hw.symm
    rw [hs]
    refine hK _ _ ?_
    clear hK K
    refine tkJ_ 11 rfl ?_
    refine wpAnyIn_done (by kernel_rfl) ?_ _
    gi_wp2_with (refine ⟨trivial, hdd _, (ihb (n - 1) pre _ (by first | exact hin.2.2 | exact in_drewN 1 hin.2.2) hltr (by first | exact cs | (rw [World.cell?_drew]; exact cs)) (by first | exact hJ | exact hJd _ _ 1 hJ) (by omega)).mono ?_⟩; rintro e W2 (⟨rfl, hJ2, hb2⟩ | ⟨rfl, hx2⟩))
    ·go_ret
     exact .inl ⟨rfl, hJ2, bl.trans hb2⟩
    ·go_ret
     exact .inr ⟨rfl, hx2⟩
   exact AllReadyIn.nil
  ·simp only [walkB, if_neg hs] at hN ⊢
   show CallsIn Fence.wide n Try.prog 100 #[.pointer (some ⟨b, 0, none⟩), .pointer (some a), .func (.yield l) #[] #[]] W _
   refine callsIn_of_wp Try.func100 rfl trivial ?_ rfl
   simp only [Try.ntmps100, List.size_toArray, List.length_cons, List.length_nil, Nat.reduceAdd, Nat.reduceSub, Array.replicate_succ, Array.replicate_zero, List.push_toArray, List.append_toArray, List.nil_append, List.cons_append]
   gi_wp2
   refine wpIn_region_any (by kernel_rfl) ?_
   change wpAnyIn _ _ _ _ _ _ _ _ _ (World.drew _)
   obtain ⟨W0, hW⟩ : ∃ W0, W0 = W.drewN 1 := ⟨_, rfl⟩
   have nq := 1
   change wpAnyIn _ _ _ _ _ _ _ _ _ (W.drewN 1)
   rw [← hW]
   have hin : In W0 (.node b k v tl tr) := by rw [hW]; exact in_drewN _ hin
   have bl : Kee S W W0 := by rw [hW]; exact (Kee.refl _ _).drewN _
   have hJ : J pre W0 := by rw [hW]; exact hJd _ _ _ hJ
   have cs := (bl.cell ha).trans cs
   clear hW c10 c11 c12 c13
   obtain ⟨c10, c11, c12, c13, _, _, _⟩ := (Top.of_in hin).cells
   refine tkJ_ 0 rfl ?_
   refine tkJ_ 1 rfl ?_
   refine tkJ_ 2 rfl ?_
   refine tkJ_ 3 rfl ?_
   refine tkJ_ 4 rfl ?_
   refine tkJ_ 5 rfl ?_
   refine tkJ_ 7 rfl ?_
   refine tkJ_ 8 rfl ?_
   apply cut2
   ·intro hcont
    refine wpAnyIn_ready (rs := [6, 9]) (by kernel_rfl) (by simp) ?_
    refine AllReadyIn.cons rfl (fun K hK => ?_) ?_
    ·go_simp
     refine hK _ _ ?_
     clear hK K
     refine wpAnyIn_ready (rs := [9]) (by kernel_rfl) (by simp) ?_
     refine AllReadyIn.cons rfl (fun K hK => ?_) ?_
     ·go_simp
      refine hK _ _ ?_
      clear hK K
      exact hcont
     exact AllReadyIn.nil
    refine AllReadyIn.cons rfl (fun K hK => ?_) ?_
    ·go_simp
     refine hK _ _ ?_
     clear hK K
     refine wpAnyIn_ready (rs := [6]) (by kernel_rfl) (by simp) ?_
     refine AllReadyIn.cons rfl (fun K hK => ?_) ?_
     ·go_simp
      refine hK _ _ ?_
      clear hK K
      exact hcont
     exact AllReadyIn.nil
    exact AllReadyIn.nil
   refine wpAnyIn_ready (rs := [10]) (by kernel_rfl) (by simp) ?_
   refine AllReadyIn.cons rfl (fun K hK => ?_) ?_
   ·go_simp
    refine ⟨trivial, hdd _, (calls_wide (less_any k s W0)).mono ?_⟩
    rintro e W1 ⟨rfl, hw⟩
    obtain rfl := hw.symm
    rw [(by simpa using hs : lt k s = false)]
    refine hK _ _ ?_
    clear hK K
    refine tkJ_ 11 rfl ?_
    refine wpAnyIn_done (by kernel_rfl) ?_ _
    simp only [List.length_append, List.length_cons] at hN
    have hy2 : ∀ W1, J (pre ++ walkB s tl) W1 → Kee S W0 W1 → YieldAt Fence.wide (n - 1) Try.prog l #[.string k, .string v] W1 fun e W2 =>
      (e = .returned (.bool true) ∧ J (pre ++ walkB s tl ++ [(k, v)]) W2 ∧ Kee S W0 W2 ∧ W2.cell? ⟨b, 3, none⟩ = some (.pointer tr.adr) ∧ In W2 tr) ∨ (e = .returned (.bool false) ∧ Jx (pre ++ walkB s tl ++ [(k, v)]) W2) := fun W1 hJ1 hb1 =>
     YieldAt.mono (hY (n - 1) _ (k, v) W1 hJ1 (by simp; omega)) fun e W2 h => h.elim
      (fun ⟨he, hj, hb2⟩ => .inl ⟨he, hj, hb1.trans hb2, ((hb1.trans hb2).cell (p := ⟨b, 3, none⟩) hb).trans c13, in_kee (hb1.trans hb2) hin.2.2 hltr⟩) .inr
    have ih1 := (ihl (n - 1) pre W0.drew (in_drewN 1 hin.2.1) hltl (((Kee.refl S W0).drew.cell ha).trans cs) (hJd _ _ 1 hJ) (by omega)).mono (R' := fun e W1 =>
      (e = .returned (.bool true) ∧ W1.cell? ⟨b, 0, none⟩ = some (.string k) ∧ W1.cell? ⟨b, 1, none⟩ = some (.string v) ∧ YieldAt Fence.wide (n - 1) Try.prog l #[.string k, .string v] W1 fun e W2 =>
       (e = .returned (.bool true) ∧ J (pre ++ walkB s tl ++ [(k, v)]) W2 ∧ Kee S W0 W2 ∧ W2.cell? ⟨b, 3, none⟩ = some (.pointer tr.adr) ∧ In W2 tr) ∨ (e = .returned (.bool false) ∧ Jx (pre ++ walkB s tl ++ [(k, v)]) W2)) ∨
      (e = .returned (.bool false) ∧ ∃ q, q <+: walkB s tl ∧ Jx (pre ++ q) W1))
     (fun e W1 h => h.elim (fun ⟨he, hj, hb0⟩ => have hb1 := (Kee.refl S W0).drew.trans hb0; .inl ⟨he, (hb1.cell (p := ⟨b, 0, none⟩) hb).trans c10, (hb1.cell (p := ⟨b, 1, none⟩) hb).trans c11, hy2 W1 hj hb1⟩) .inr)
    clear hy2 ihl
    gi_wp2
    refine wpIn_region_any (by kernel_rfl) ?_
    change wpAnyIn _ _ _ _ _ _ _ _ _ (World.drew _)
    refine tkJ_ 0 rfl ?_
    refine tkJ_ 1 rfl ?_
    refine tkJ_ 2 rfl ?_
    refine tkJ_ 4 rfl ?_
    refine tkJ_ 5 rfl ?_
    refine wpAnyIn_ready (rs := [3]) (by kernel_rfl) (by simp) ?_
    refine AllReadyIn.cons rfl (fun K hK => ?_) ?_
    ·go_simp
     refine hK _ _ ?_
     clear hK K
     refine wpAnyIn_ready (rs := [6]) (by kernel_rfl) (by simp) ?_
     refine AllReadyIn.cons rfl (fun K hK => ?_) ?_
     ·go_simp
      refine ⟨trivial, hdd _, ih1.mono ?_⟩
      clear ih1
      rintro e W1 (⟨rfl, c10', c11', fn, tmps, assign, body, hy, hR⟩ | ⟨rfl, q, hq, hx1⟩)
      ·refine hK _ _ ?_
       clear hK K
       refine tkJ_ 7 rfl ?_
       refine tkJ_ 8 rfl ?_
       refine tkJ_ 9 rfl ?_
       refine tkJ_ 10 rfl ?_
       refine tkJ_ 11 rfl ?_
       refine tkJ_ 13 rfl ?_
       refine tkJ_ 14 rfl ?_
       refine tkJ_ 15 rfl ?_
       apply cut2
       ·intro hcont
        refine wpAnyIn_ready (rs := [12, 16]) (by kernel_rfl) (by simp) ?_
        refine AllReadyIn.cons rfl (fun K hK => ?_) ?_
        ·go_simp
         refine hK _ _ ?_
         clear hK K
         refine wpAnyIn_ready (rs := [16]) (by kernel_rfl) (by simp) ?_
         refine AllReadyIn.cons rfl (fun K hK => ?_) ?_
         ·go_simp
          refine hK _ _ ?_
          clear hK K
          exact hcont
         exact AllReadyIn.nil
        refine AllReadyIn.cons rfl (fun K hK => ?_) ?_
        ·go_simp
         refine hK _ _ ?_
         clear hK K
         refine wpAnyIn_ready (rs := [12]) (by kernel_rfl) (by simp) ?_
         refine AllReadyIn.cons rfl (fun K hK => ?_) ?_
         ·go_simp
          refine hK _ _ ?_
          clear hK K
          exact hcont
         exact AllReadyIn.nil
        exact AllReadyIn.nil
       refine wpAnyIn_ready (rs := [17]) (by kernel_rfl) (by simp) ?_
       refine AllReadyIn.cons rfl (fun K hK => ?_) ?_
       ·go_simp
        refine ⟨hdd _, hR.mono ?_⟩
        clear hR
        rintro e W2 (⟨rfl, hJ2, hb2, c13', hr2⟩ | ⟨rfl, hx2⟩)
        ·refine hK _ _ ?_
         clear hK K
         refine tkJ_ 18 rfl ?_
         refine tkJ_ 19 rfl ?_
         refine tkJ_ 20 rfl ?_
         refine tkJ_ 21 rfl ?_
         refine tkJ_ 22 rfl ?_
         refine tkJ_ 24 rfl ?_
         refine wpAnyIn_ready (rs := [23]) (by kernel_rfl) (by simp) ?_
         refine AllReadyIn.cons rfl (fun K hK => ?_) ?_
         ·go_simp
          refine hK _ _ ?_
          clear hK K
          refine wpAnyIn_ready (rs := [25]) (by kernel_rfl) (by simp) ?_
          refine AllReadyIn.cons rfl (fun K hK => ?_) ?_
          ·go_simp
           refine ⟨trivial, hdd _, (ihr (n - 1) _ _ hr2 hltr hJ2 (by simp; omega)).mono ?_⟩
           rintro e W3 (⟨rfl, hJ3, hb3⟩ | ⟨rfl, q, hq, hx3⟩)
           ·refine hK _ _ ?_
            clear hK K
            refine tkJ_ 26 rfl ?_
            refine tkJ_ 27 rfl ?_
            refine wpAnyIn_done (by kernel_rfl) ?_ _
            gi_wp2
            go_ret
            exact .inl ⟨rfl, by simpa [List.append_assoc] using hJ3, bl.trans (hb2.trans hb3)⟩
           ·refine hK _ _ ?_
            clear hK K
            refine tkJ_ 26 rfl ?_
            refine tkJ_ 27 rfl ?_
            refine wpAnyIn_done (by kernel_rfl) ?_ _
            gi_wp2
            go_ret
            obtain ⟨r, hr'⟩ := hq
            exact .inr ⟨rfl, walkB s tl ++ (k, v) :: q, ⟨r, by rw [← hr']; simp⟩, by simpa [List.append_assoc] using hx3⟩
          exact AllReadyIn.nil
         exact AllReadyIn.nil
        ·refine hK _ _ ?_
         clear hK K
         refine tkJ_ 18 rfl ?_
         refine tkJ_ 19 rfl ?_
         refine tkU_ 20 rfl ?_
         refine tkU_ 21 rfl ?_
         refine tkU_ 22 rfl ?_
         refine tkU_ 23 rfl ?_
         refine tkU_ 24 rfl ?_
         refine wpAnyIn_ready (rs := [25]) (by kernel_rfl) (by simp) ?_
         refine AllReadyIn.cons rfl (fun K hK => ?_) ?_
         ·go_simp
          refine ⟨trivial, ?_⟩
          refine hK _ _ ?_
          clear hK K
          refine tkJ_ 26 rfl ?_
          refine tkJ_ 27 rfl ?_
          refine wpAnyIn_done (by kernel_rfl) ?_ _
          gi_wp2
          go_ret
          exact .inr ⟨rfl, walkB s tl ++ [(k, v)], ⟨walkA tr, by simp⟩, by simpa [List.append_assoc] using hx2⟩
         exact AllReadyIn.nil
       exact AllReadyIn.nil
      ·refine hK _ _ ?_
       clear hK K
       refine tkJ_ 7 rfl ?_
       refine tkU_ 8 rfl ?_
       refine tkU_ 9 rfl ?_
       refine tkU_ 10 rfl ?_
       refine tkU_ 11 rfl ?_
       refine tkU_ 12 rfl ?_
       refine tkU_ 13 rfl ?_
       refine tkU_ 14 rfl ?_
       refine tkU_ 15 rfl ?_
       refine tkU_ 16 rfl ?_
       refine wpAnyIn_ready (rs := [17]) (by kernel_rfl) (by simp) ?_
       refine AllReadyIn.cons rfl (fun K hK => ?_) ?_
       ·go_simp
        refine ⟨fun _ _ => trivial, ?_⟩
        refine hK _ _ ?_
        clear hK K
        refine tkJ_ 18 rfl ?_
        refine tkJ_ 19 rfl ?_
        refine tkU_ 20 rfl ?_
        refine tkU_ 21 rfl ?_
        refine tkU_ 22 rfl ?_
        refine tkU_ 23 rfl ?_
        refine tkU_ 24 rfl ?_
        refine wpAnyIn_ready (rs := [25]) (by kernel_rfl) (by simp) ?_
        refine AllReadyIn.cons rfl (fun K hK => ?_) ?_
        ·go_simp
         refine ⟨trivial, ?_⟩
         refine hK _ _ ?_
         clear hK K
         refine tkJ_ 26 rfl ?_
         refine tkJ_ 27 rfl ?_
         refine wpAnyIn_done (by kernel_rfl) ?_ _
         gi_wp2
         go_ret
         exact .inr ⟨rfl, q, hq.trans (List.prefix_append _ _), hx1⟩
        exact AllReadyIn.nil
       exact AllReadyIn.nil
     exact AllReadyIn.nil
    exact AllReadyIn.nil
   exact AllReadyIn.nil
end Go.Proofs.Ytljnlnbopohghaa.OrdSm
end
section
namespace Go.Proofs.Ytljnlnbopohghaa.OrdSm
open Go.RowKit Go.Shelf Go.Proofs.YtljnlnbopohghaaW.PrintWords Go.Proofs.YtljnlnbopohghaaW.PrintLast Go.Proofs.YtljnlnbopohghaaW.PrintMore Go.Proofs.Ytljnlnbopohghaa.Own Go.Proofs.Ytljnlnbopohghaa.Ord
attribute [local go_sem] Oper.semAt_some
set_option maxHeartbeats 2000000
set_option maxRecDepth 100000
def MpI (S : Nat → Prop) (W : World) : Option Addr → Kn ByteArray ByteArray → Prop
 | none, T => T = .nil
 | some a, T => S a.block ∧ W.cell? a = some (.pointer T.adr) ∧ In W T ∧ ∀ x ∈ T.bs, S x
theorem MpI.kee {S : Nat → Prop} {A B : World} (h : Kee S A B) : ∀ {p : Option Addr} {T : Kn ByteArray ByteArray}, MpI S A p T → MpI S B p T
 | none, _, hm => hm
 | some a, _, ⟨h1, h2, h3, h4⟩ => ⟨h1, (h.cell h1).trans h2, in_kee h h3 h4, h4⟩
end Go.Proofs.Ytljnlnbopohghaa.OrdSm
end
