/- Texts of one claim (laid by shake.py). -/
import Derived.Test.YtljnlnbopohghaaZWa10
import Derived.RangeFuncNested
import Derived.RangeFuncBound
import Derived.RangeFuncCalls
import Derived.RangeFuncLeaves
import Derived.RangeFuncKeeps
import Derived.Shelf.RegionOpen
import Derived.Sort.QuietIn
import Derived.Shelf.Abstract
import Derived.WalkKit
import Derived.OwnWalkIn
import Derived.TacticsInMore
import Derived.Maps.AppendAt
import Derived.Below
import Derived.Deep.Draws
import Derived.Test.YtljnlnbopohghaaZWa0
import Derived.Lib.Strings
import Derived.Test.YtljnlnbopohghaaProg
import Derived.Test.YtljnlnbopohghaaZWa2
import Derived.LoopN
set_option linter.unusedVariables false
set_option linter.unusedSimpArgs false
section
namespace Go.Proofs.Ytljnlnbopohghaa.OrdSm
open Go.RowKit Go.Proofs.YtljnlnbopohghaaW.PrintWords Go.Proofs.YtljnlnbopohghaaW.PrintLast Go.Proofs.YtljnlnbopohghaaW.PrintMore Go.Proofs.Ytljnlnbopohghaa.Own Go.Proofs.Ytljnlnbopohghaa.Ord
set_option maxHeartbeats 2000000
set_option maxRecDepth 100000
theorem least_any (l : Kn ByteArray ByteArray) : ∀ (b : Nat) (k : ByteArray) (v : ByteArray) (r : Kn ByteArray ByteArray) (w : World), In w (.node b k v l r) → (Kn.node b k v l r).bs.Nodup → (Kn.node b k v l r).cnt < 4611686018427387904 →
    Calls Try.prog 117 #[.pointer (some ⟨b, 0, none⟩)] w fun e w' => e = .returned (.tuple #[.pointer (Kn.least b k v l r).1.adr, .pointer (some ⟨(Kn.least b k v l r).2.1, 0, none⟩)]) ∧ In w' (Kn.least b k v l r).1 ∧ Fr (Kn.node b k v l r).bs w w' ∧
      (∃ lo, Top w' (Kn.least b k v l r).2.1 (Kn.least b k v l r).2.2.1 (Kn.least b k v l r).2.2.2.1 lo (Kn.least b k v l r).2.2.2.2.adr) := by
  induction l with
  | nil =>
    intro b k v r w hin hnd hc
    have h1 := Top.of_in hin
    obtain ⟨c10, c11, c12, c13, f11, f12, f13⟩ := h1.cells
    rw [show (Kn.nil : Kn ByteArray ByteArray).adr = none from rfl] at c12
    go_enter Try.func117, Try.ntmps117
    go_wp2
    go_ret2
    exact ⟨rfl, hin.2.2, Fr.refl _ _, none, h1⟩
  | node lb lk lv ll lr ihl ihr =>
    intro b k v r w hin hnd hc
    clear ihr
    obtain ⟨nd2, no2, sub2, mem2⟩ := Kn.least_out hnd
    have nbl : b ∉ (Kn.node lb lk lv ll lr).bs := by rw [show (Kn.node b k v (.node lb lk lv ll lr) r).bs = b :: ((Kn.node lb lk lv ll lr).bs ++ r.bs) from rfl, List.nodup_cons, List.mem_append, not_or] at hnd; exact hnd.1.1
    have nbr : b ∉ r.bs := by rw [show (Kn.node b k v (.node lb lk lv ll lr) r).bs = b :: ((Kn.node lb lk lv ll lr).bs ++ r.bs) from rfl, List.nodup_cons, List.mem_append, not_or] at hnd; exact hnd.1.2
    have ndl : (Kn.node lb lk lv ll lr).bs.Nodup := by rw [show (Kn.node b k v (.node lb lk lv ll lr) r).bs = b :: ((Kn.node lb lk lv ll lr).bs ++ r.bs) from rfl, List.nodup_cons, List.nodup_append] at hnd; exact hnd.2.1
    have dj : ∀ x ∈ (Kn.node lb lk lv ll lr).bs, x ∉ r.bs := fun x hx hr => by rw [show (Kn.node b k v (.node lb lk lv ll lr) r).bs = b :: ((Kn.node lb lk lv ll lr).bs ++ r.bs) from rfl, List.nodup_cons, List.nodup_append] at hnd; exact hnd.2.2.2 x hx x hr rfl
    have hcr := Kn.bounds r
    have hcl := Kn.bounds (Kn.node lb lk lv ll lr)
    have hc1 : (Kn.node lb lk lv ll lr).cnt < 4611686018427387904 := by rw [show (Kn.node b k v (.node lb lk lv ll lr) r).cnt = 1 + (Kn.node lb lk lv ll lr).cnt + r.cnt from rfl] at hc; omega
    have hc2 : (Kn.node b k v (Kn.least lb lk lv ll lr).1 r).cnt < 4611686018427387904 := by
      have := Kn.least_cnt lb lk lv ll lr
      rw [show (Kn.node b k v (.node lb lk lv ll lr) r).cnt = 1 + (Kn.node lb lk lv ll lr).cnt + r.cnt from rfl] at hc
      rw [show (Kn.node b k v (Kn.least lb lk lv ll lr).1 r).cnt = 1 + (Kn.least lb lk lv ll lr).1.cnt + r.cnt from rfl]; omega
    have h1 := Top.of_in hin
    have ir := hin.2.2
    have nbP : b ∉ (Kn.least lb lk lv ll lr).1.bs := fun h => nbl (sub2 b h)
    have nxb : (Kn.least lb lk lv ll lr).2.1 ≠ b := fun h => nbl (h ▸ mem2)
    obtain ⟨c10, c11, c12, c13, f11, f12, f13⟩ := h1.cells
    rw [show (Kn.node lb lk lv ll lr).adr = some ⟨lb, 0, none⟩ from rfl] at c12
    have W1 := ihl lb lk lv lr w hin.2.1 ndl hc1
    clear ihl hin
    have e1 : (Kn.least b k v (.node lb lk lv ll lr) r).1 = Kn.even b k v (Kn.least lb lk lv ll lr).1 r := rfl
    have e2 : (Kn.least b k v (.node lb lk lv ll lr) r).2 = (Kn.least lb lk lv ll lr).2 := rfl
    rw [e1, e2]
    generalize Kn.least lb lk lv ll lr = x at *
    obtain ⟨P, xb, xk, xv, xr⟩ := x
    dsimp only at *
    have W2 := W1.mono (R' := fun e w2 => e = .returned (.tuple #[.pointer P.adr, .pointer (some ⟨xb, 0, none⟩)]) ∧ Top w2 b k v (some ⟨lb, 0, none⟩) r.adr ∧ (∃ lo, Top (w2.setCell ⟨b, 2, none⟩ (.pointer P.adr)) xb xk xv lo xr.adr) ∧ Fr (Kn.node b k v (.node lb lk lv ll lr) r).bs w (w2.setCell ⟨b, 2, none⟩ (.pointer P.adr)) ∧
        Calls Try.prog 118 #[.pointer (some ⟨b, 0, none⟩)] (w2.setCell ⟨b, 2, none⟩ (.pointer P.adr)) fun e w' => e = .returned (.pointer (Kn.even b k v P r).adr) ∧ In w' (Kn.even b k v P r) ∧ Fr (Kn.node b k v P r).bs (w2.setCell ⟨b, 2, none⟩ (.pointer P.adr)) w') (by
      rintro e w2 ⟨rfl, hi, fr, lo, ht⟩
      have h2 := h1.fr fr nbl
      have ir2 := in_fr fr ir (fun x hx hm => dj x hm hx)
      refine ⟨rfl, h2, ⟨lo, ht.fr (B := [b]) ((Fr.refl [b] w2).set (.inl (by simp)) _) (by simpa using nxb)⟩, ?_, even_any (h2.low P.adr) (set_in hi nbP 2 _) (set_in ir2 nbr 2 _) nd2 hc2⟩
      exact (fr.wide (fun x hx => .inl (List.mem_cons_of_mem _ (List.mem_append_left _ hx)))).set (.inl (by simp [Kn.bs])) _)
    clear W1 h1 ir
    go_enter Try.func117, Try.ntmps117
    go_wp2_with (first
      | (go_at_call 117
         refine W2.mono ?_
         clear W2
         rintro e w2 ⟨rfl, h2, ⟨lo, ht2⟩, fr2, W3⟩
         obtain ⟨c20, c21, c22, c23, f21, f22, f23⟩ := h2.cells)
      | (go_at_call 118
         refine W3.mono ?_
         clear W3
         rintro e w4 ⟨rfl, hi4, fr4⟩))
    go_ret2
    refine ⟨rfl, hi4, fr2.trans fr4 (fun x hx => .inl ?_), lo, ht2.fr fr4 no2⟩
    rw [show (Kn.node b k v P r).bs = b :: (P.bs ++ r.bs) from rfl, List.mem_cons, List.mem_append] at hx
    rw [show (Kn.node b k v (.node lb lk lv ll lr) r).bs = b :: ((Kn.node lb lk lv ll lr).bs ++ r.bs) from rfl, List.mem_cons, List.mem_append]
    rcases hx with hx | hx | hx
    · exact .inl hx
    · exact .inr (.inl (sub2 x hx))
    · exact .inr (.inr hx)
theorem drop_any (key : ByteArray) (T : Kn ByteArray ByteArray) : ∀ w : World, In w T → T.bs.Nodup → T.cnt < 4611686018427387904 →
    Calls Try.prog 105 #[.pointer T.adr, .string key] w fun e w' => e = .returned (.pointer (Kn.drop lt key T).adr) ∧ In w' (Kn.drop lt key T) ∧ Fr T.bs w w' := by
  induction T with
  | nil =>
    intro w _ _ _
    show Calls Try.prog 105 #[.pointer none, .string key] w _
    go_enter Try.func105, Try.ntmps105
    go_wp2
    go_ret
    exact ⟨rfl, trivial, Fr.refl _ _⟩
  | node b k v l r ihl ihr =>
    intro w hin hnd hc
    have nbl : b ∉ l.bs := by simp only [Kn.bs, List.nodup_cons, List.mem_append, not_or] at hnd; exact hnd.1.1
    have nbr : b ∉ r.bs := by simp only [Kn.bs, List.nodup_cons, List.mem_append, not_or] at hnd; exact hnd.1.2
    have ndl : l.bs.Nodup := by simp only [Kn.bs, List.nodup_cons, List.nodup_append] at hnd; exact hnd.2.1
    have ndr : r.bs.Nodup := by simp only [Kn.bs, List.nodup_cons, List.nodup_append] at hnd; exact hnd.2.2.1
    have dj : ∀ x ∈ l.bs, x ∉ r.bs := fun x hx hr => by simp only [Kn.bs, List.nodup_cons, List.nodup_append] at hnd; exact hnd.2.2.2 x hx x hr rfl
    have hcl := Kn.bounds l
    have hcr := Kn.bounds r
    simp only [Kn.cnt] at hc
    have h1 := Top.of_in hin
    have il := hin.2.1
    have ir := hin.2.2
    clear hin
    obtain ⟨c10, c11, c12, c13, f11, f12, f13⟩ := h1.cells
    show Calls Try.prog 105 #[.pointer (some ⟨b, 0, none⟩), .string key] w _
    by_cases hA : lt key k = true
    · have hcmp : ∀ W, Calls Try.prog 102 #[.string key, .string k] W fun e w' => e = .returned (.int .i64 (-1)) ∧ w' = W := fun W => by
        have := cmp_any key k W; unfold Kn.cmpK at this; rw [if_pos hA] at this; exact this
      have W1 := (ihl w il ndl (by omega)).mono (R' := fun e w2 => e = .returned (.pointer (Kn.drop lt key l).adr) ∧ Top w2 b k v l.adr r.adr ∧ Fr (Kn.node b k v l r).bs w (w2.setCell ⟨b, 2, none⟩ (.pointer (Kn.drop lt key l).adr)) ∧
          Calls Try.prog 118 #[.pointer (some ⟨b, 0, none⟩)] (w2.setCell ⟨b, 2, none⟩ (.pointer (Kn.drop lt key l).adr)) fun e w' => e = .returned (.pointer (Kn.even b k v (Kn.drop lt key l) r).adr) ∧ In w' (Kn.even b k v (Kn.drop lt key l) r) ∧ Fr (Kn.node b k v (Kn.drop lt key l) r).bs (w2.setCell ⟨b, 2, none⟩ (.pointer (Kn.drop lt key l).adr)) w') (by
        rintro e w2 ⟨rfl, hi, fr⟩
        have h2 := h1.fr fr nbl
        have io2 := in_fr fr ir (fun x hx hm => dj x hm hx)
        refine ⟨rfl, h2, ?_, even_any (h2.low (Kn.drop lt key l).adr) (set_in hi (fun h => nbl (Kn.drop_mem h)) 2 _) (set_in io2 nbr 2 _) (Kn.drop_left_nodup hnd) (by have := Kn.drop_cnt lt key l; simp only [Kn.cnt]; omega)⟩
        exact (fr.wide (fun x hx => .inl (List.mem_cons_of_mem _ (List.mem_append_left _ hx)))).set (.inl (by simp [Kn.bs])) _)
      have e : Kn.drop lt key (.node b k v l r) = (Kn.even b k v (Kn.drop lt key l) r) := by simp only [Kn.drop]; rw [if_pos hA]
      rw [e]
      clear ihl ihr h1 il ir e
      go_enter Try.func105, Try.ntmps105
      go_wp2_with (first
        | (go_at_call 102; refine (hcmp _).mono ?_; rintro e w1 ⟨rfl, hw⟩; obtain rfl := hw.symm)
        | (go_at_call 105
           refine W1.mono ?_
           clear W1
           rintro e w2 ⟨rfl, h2, fr2, W3⟩
           obtain ⟨c20, c21, c22, c23, f21, f22, f23⟩ := h2.cells)
        | (go_at_call 118
           refine W3.mono ?_
           clear W3
           rintro e w4 ⟨rfl, hi4, fr4⟩))
      go_ret
      refine ⟨rfl, hi4, fr2.trans fr4 (fun x hx => .inl ?_)⟩
      simp only [Kn.bs, List.mem_cons, List.mem_append] at hx ⊢
      rcases hx with hx | hx | hx
      · exact .inl hx
      · exact .inr (.inl (Kn.drop_mem hx))
      · exact .inr (.inr hx)
    · by_cases hB : lt k key = true
      · have hcmp : ∀ W, Calls Try.prog 102 #[.string key, .string k] W fun e w' => e = .returned (.int .i64 1) ∧ w' = W := fun W => by
          have := cmp_any key k W; unfold Kn.cmpK at this; rw [if_neg hA, if_pos hB] at this; exact this
        have W1 := (ihr w ir ndr (by omega)).mono (R' := fun e w2 => e = .returned (.pointer (Kn.drop lt key r).adr) ∧ Top w2 b k v l.adr r.adr ∧ Fr (Kn.node b k v l r).bs w (w2.setCell ⟨b, 3, none⟩ (.pointer (Kn.drop lt key r).adr)) ∧
            Calls Try.prog 118 #[.pointer (some ⟨b, 0, none⟩)] (w2.setCell ⟨b, 3, none⟩ (.pointer (Kn.drop lt key r).adr)) fun e w' => e = .returned (.pointer (Kn.even b k v l (Kn.drop lt key r)).adr) ∧ In w' (Kn.even b k v l (Kn.drop lt key r)) ∧ Fr (Kn.node b k v l (Kn.drop lt key r)).bs (w2.setCell ⟨b, 3, none⟩ (.pointer (Kn.drop lt key r).adr)) w') (by
          rintro e w2 ⟨rfl, hi, fr⟩
          have h2 := h1.fr fr nbr
          have io2 := in_fr fr il (fun x hx hm => dj x hx hm)
          refine ⟨rfl, h2, ?_, even_any (h2.high (Kn.drop lt key r).adr) (set_in io2 nbl 3 _) (set_in hi (fun h => nbr (Kn.drop_mem h)) 3 _) (Kn.drop_right_nodup hnd) (by have := Kn.drop_cnt lt key r; simp only [Kn.cnt]; omega)⟩
          exact (fr.wide (fun x hx => .inl (List.mem_cons_of_mem _ (List.mem_append_right _ hx)))).set (.inl (by simp [Kn.bs])) _)
        have e : Kn.drop lt key (.node b k v l r) = (Kn.even b k v l (Kn.drop lt key r)) := by simp only [Kn.drop]; rw [if_neg hA, if_pos hB]
        rw [e]
        clear ihl ihr h1 il ir e
        go_enter Try.func105, Try.ntmps105
        go_wp2_with (first
          | (go_at_call 102; refine (hcmp _).mono ?_; rintro e w1 ⟨rfl, hw⟩; obtain rfl := hw.symm)
          | (go_at_call 105
             refine W1.mono ?_
             clear W1
             rintro e w2 ⟨rfl, h2, fr2, W3⟩
             obtain ⟨c20, c21, c22, c23, f21, f22, f23⟩ := h2.cells)
          | (go_at_call 118
             refine W3.mono ?_
             clear W3
             rintro e w4 ⟨rfl, hi4, fr4⟩))
        go_ret
        refine ⟨rfl, hi4, fr2.trans fr4 (fun x hx => .inl ?_)⟩
        simp only [Kn.bs, List.mem_cons, List.mem_append] at hx ⊢
        rcases hx with hx | hx | hx
        · exact .inl hx
        · exact .inr (.inl hx)
        · exact .inr (.inr (Kn.drop_mem hx))
      · have hcmp : ∀ W, Calls Try.prog 102 #[.string key, .string k] W fun e w' => e = .returned (.int .i64 0) ∧ w' = W := fun W => by
          have := cmp_any key k W; unfold Kn.cmpK at this; rw [if_neg hA, if_neg hB] at this; exact this
        clear ihl ihr
        cases r with
        | nil =>
          have e : Kn.drop lt key (.node b k v l .nil) = l := by simp only [Kn.drop]; rw [if_neg hA, if_neg hB]
          rw [e]
          rw [show (Kn.nil : Kn ByteArray ByteArray).adr = none from rfl] at c13
          clear h1 ir e
          go_enter Try.func105, Try.ntmps105
          go_wp2_with (go_at_call 102; refine (hcmp _).mono ?_; rintro e w1 ⟨rfl, hw⟩; obtain rfl := hw.symm)
          go_ret
          exact ⟨rfl, il, Fr.refl _ _⟩
        | node rb rk rv rl rr =>
          have e : Kn.drop lt key (.node b k v l (.node rb rk rv rl rr)) = Kn.even (Kn.least rb rk rv rl rr).2.1 (Kn.least rb rk rv rl rr).2.2.1 (Kn.least rb rk rv rl rr).2.2.2.1 l (Kn.least rb rk rv rl rr).1 := by simp only [Kn.drop]; rw [if_neg hA, if_neg hB]
          rw [e]
          have p := Kn.least_bs rb rk rv rl rr
          have jn := Kn.join_nodup hnd (Kn.least rb rk rv rl rr).2.2.1 (Kn.least rb rk rv rl rr).2.2.2.1
          have jl := Kn.least_nodup ndr
          have hcx := Kn.least_cnt rb rk rv rl rr
          have W0 := least_any rl rb rk rv rr w ir ndr (by omega)
          rw [show (Kn.node rb rk rv rl rr).adr = some ⟨rb, 0, none⟩ from rfl] at c13 h1
          generalize Kn.least rb rk rv rl rr = x at *
          obtain ⟨P, xb, xk, xv, xr⟩ := x
          dsimp only at *
          have nxl : xb ∉ l.bs := fun h => dj xb h (p.mem_iff.1 List.mem_cons_self)
          have hc3 : (Kn.node xb xk xv l P).cnt < 4611686018427387904 := by simp only [Kn.cnt] at *; omega
          have W1 := W0.mono (R' := fun e w2 => e = .returned (.tuple #[.pointer P.adr, .pointer (some ⟨xb, 0, none⟩)]) ∧ Top w2 b k v l.adr (some ⟨rb, 0, none⟩) ∧ (∃ lo, Top w2 xb xk xv lo xr.adr) ∧ Fr (Kn.node b k v l (.node rb rk rv rl rr)).bs w ((w2.setCell ⟨xb, 2, none⟩ (.pointer l.adr)).setCell ⟨xb, 3, none⟩ (.pointer P.adr)) ∧
              Calls Try.prog 118 #[.pointer (some ⟨xb, 0, none⟩)] ((w2.setCell ⟨xb, 2, none⟩ (.pointer l.adr)).setCell ⟨xb, 3, none⟩ (.pointer P.adr)) fun e w' => e = .returned (.pointer (Kn.even xb xk xv l P).adr) ∧ In w' (Kn.even xb xk xv l P) ∧ Fr (Kn.node xb xk xv l P).bs ((w2.setCell ⟨xb, 2, none⟩ (.pointer l.adr)).setCell ⟨xb, 3, none⟩ (.pointer P.adr)) w') (by
            rintro e w2 ⟨rfl, hi, fr, lo, ht⟩
            have h2 := h1.fr fr nbr
            have il2 := in_fr fr il (fun x hx hm => dj x hx hm)
            have xm : xb ∈ (Kn.node b k v l (.node rb rk rv rl rr)).bs := List.mem_cons_of_mem _ (List.mem_append_right _ (p.mem_iff.1 List.mem_cons_self))
            refine ⟨rfl, h2, ⟨lo, ht⟩, ?_, even_any ((ht.low l.adr).high P.adr) (set_in (set_in il2 nxl 2 _) nxl 3 _) (set_in (set_in hi jl.2 2 _) jl.2 3 _) jn hc3⟩
            exact ((fr.wide (fun x hx => .inl (List.mem_cons_of_mem _ (List.mem_append_right _ hx)))).set (.inl xm) _).set (.inl xm) _)
          clear W0 h1 il ir e
          go_enter Try.func105, Try.ntmps105
          go_wp2_with (first
            | (go_at_call 102; refine (hcmp _).mono ?_; rintro e w1 ⟨rfl, hw⟩; obtain rfl := hw.symm)
            | (go_at_call 117
               refine W1.mono ?_
               clear W1
               rintro e w2 ⟨rfl, h2, ⟨lo, ht2⟩, fr2, W3⟩
               obtain ⟨c20, c21, c22, c23, f21, f22, f23⟩ := h2.cells
               obtain ⟨c30, c31, c32, c33, f31, f32, f33⟩ := ht2.cells)
            | (go_at_call 118
               refine W3.mono ?_
               clear W3
               rintro e w4 ⟨rfl, hi4, fr4⟩))
          go_ret
          refine ⟨rfl, hi4, fr2.trans fr4 (fun x hx => .inl ?_)⟩
          rw [show (Kn.node xb xk xv l P).bs = xb :: (l.bs ++ P.bs) from rfl, List.mem_cons, List.mem_append] at hx
          rcases hx with rfl | hx | hx
          · exact List.mem_cons_of_mem _ (List.mem_append_right _ (p.mem_iff.1 List.mem_cons_self))
          · exact List.mem_cons_of_mem _ (List.mem_append_left _ hx)
          · exact List.mem_cons_of_mem _ (List.mem_append_right _ (p.mem_iff.1 (List.mem_cons_of_mem _ hx)))
structure Mp (w : World) (m : Nat) (T : Kn ByteArray ByteArray) : Prop where
  blk : w.heap[m]? = some (.cells #[.pointer T.adr] 153 (0, 0))
  inn : In w T
  nd : T.bs.Nodup
theorem Mp.ne {w : World} {m : Nat} {T : Kn ByteArray ByteArray} (h : Mp w m T) : m ∉ T.bs := fun hm => by
  obtain ⟨cells, hc⟩ := in_typed h.inn m hm
  rw [h.blk] at hc
  injection hc with hc
  injection hc with _ hc
  exact absurd hc (by decide)
theorem Mp.fr {w w' : World} {m : Nat} {T : Kn ByteArray ByteArray} {B : List Nat} (h : Mp w m T) (f : Fr B w w') (hm : m ∉ B) (hn : ∀ x ∈ T.bs, x ∉ B) : Mp w' m T := ⟨f.blk h.blk hm, in_fr f h.inn hn, h.nd⟩
theorem Mp.below {w w' : World} {m : Nat} {T : Kn ByteArray ByteArray} (h : Mp w m T) (f : Below w.heap.size w w') : Mp w' m T := h.fr (B := []) (Fr.of_below f) (by simp) (by simp)
theorem new_any (w : World) : Calls Try.prog 68 #[] w fun e w' => ∃ m, w.heap.size ≤ m ∧ e = .returned (.pointer (some ⟨m, 0, none⟩)) ∧ Mp w' m .nil ∧ Fr [] w w' := by
  go_enter Try.func68, Try.ntmps68
  go_wp2
  go_ret
  exact ⟨w.heap.size, Nat.le_refl _, rfl, ⟨blk_new _ _, trivial, by simp [Kn.bs]⟩, (Fr.refl _ _).alloc _⟩
theorem len_any {w : World} {m : Nat} {T : Kn ByteArray ByteArray} (h : Mp w m T) : Calls Try.prog 54 #[.pointer (some ⟨m, 0, none⟩)] w fun e w' => e = .returned (.int .i64 T.cnt) ∧ w' = w := by
  have c0 : w.cell? ⟨m, 0, none⟩ = some (.pointer T.adr) := blk_cell h.blk 0
  have W1 := size_any T w h.inn
  go_enter Try.func54, Try.ntmps54
  go_wp2_with (go_at_call 82; refine W1.mono ?_; clear W1; rintro e w1 ⟨rfl, rfl⟩)
  go_ret
  exact ⟨rfl, rfl⟩
theorem mput_any (key : ByteArray) (val : ByteArray) {w : World} {m : Nat} {T : Kn ByteArray ByteArray} (h : Mp w m T) (hc : T.cnt + 1 < 4611686018427387904) :
    Calls Try.prog 90 #[.pointer (some ⟨m, 0, none⟩), .string key, .string val] w fun e w' => ∃ nb, w.heap.size ≤ nb ∧ e = .returned (.bool (decide (T.cnt < (Kn.put lt nb key val T).cnt))) ∧ Mp w' m (Kn.put lt nb key val T) ∧ Fr (m :: T.bs) w w' := by
  have c0 : w.cell? ⟨m, 0, none⟩ = some (.pointer T.adr) := blk_cell h.blk 0
  have f0 := blk_frozen h.blk 0
  have L0 := len_any h
  have hlt := in_lt h.inn
  have hmlt := blk_lt h.blk
  have W1 := (put_any key val T w h.inn h.nd hc).mono (R' := fun e w2 => ∃ nb, w.heap.size ≤ nb ∧ e = .returned (.pointer (Kn.put lt nb key val T).adr) ∧ w2.cell? ⟨m, 0, none⟩ = some (.pointer T.adr) ∧ w2.frozen? ⟨m, 0, none⟩ = false ∧ Mp (w2.setCell ⟨m, 0, none⟩ (.pointer (Kn.put lt nb key val T).adr)) m (Kn.put lt nb key val T) ∧ Fr (m :: T.bs) w (w2.setCell ⟨m, 0, none⟩ (.pointer (Kn.put lt nb key val T).adr))) (by
    rintro e w2 ⟨nb, hnb, rfl, hi, fr⟩
    have hb := fr.blk h.blk h.ne
    have mP : m ∉ (Kn.put lt nb key val T).bs := fun hm => by rcases Kn.put_mem hm with e | e; omega; exact h.ne e
    refine ⟨nb, hnb, rfl, blk_cell hb 0, blk_frozen hb 0, ⟨blk_put hb 0 _ rfl, set_in hi mP 0 _, Kn.put_nodup h.nd (fun hm => by have := hlt nb hm; omega)⟩, ?_⟩
    exact (fr.wide (fun x hx => .inl (List.mem_cons_of_mem _ hx))).set (.inl List.mem_cons_self) _)
  clear h
  go_enter Try.func90, Try.ntmps90
  go_wp2_with (first
    | (go_at_call 54; refine L0.mono ?_; clear L0; rintro e w1 ⟨rfl, hw⟩; obtain rfl := hw.symm)
    | (go_at_call 107
       refine W1.mono ?_
       clear W1
       rintro e w2 ⟨nb, hnb, rfl, c2, f2, hm2, fr2⟩
       have L2 := len_any hm2)
    | (go_at_call 54; refine L2.mono ?_; clear L2; rintro e w3 ⟨rfl, hw⟩; obtain rfl := hw.symm))
  go_ret
  exact ⟨nb, hnb, rfl, hm2, fr2⟩
theorem mdrop_any (key : ByteArray) {w : World} {m : Nat} {T : Kn ByteArray ByteArray} (h : Mp w m T) (hc : T.cnt < 4611686018427387904) :
    Calls Try.prog 88 #[.pointer (some ⟨m, 0, none⟩), .string key] w fun e w' => e = .returned (.bool (decide ((Kn.drop lt key T).cnt < T.cnt))) ∧ Mp w' m (Kn.drop lt key T) ∧ Fr (m :: T.bs) w w' := by
  have c0 : w.cell? ⟨m, 0, none⟩ = some (.pointer T.adr) := blk_cell h.blk 0
  have f0 := blk_frozen h.blk 0
  have L0 := len_any h
  have W1 := (drop_any key T w h.inn h.nd hc).mono (R' := fun e w2 => e = .returned (.pointer (Kn.drop lt key T).adr) ∧ w2.cell? ⟨m, 0, none⟩ = some (.pointer T.adr) ∧ w2.frozen? ⟨m, 0, none⟩ = false ∧ Mp (w2.setCell ⟨m, 0, none⟩ (.pointer (Kn.drop lt key T).adr)) m (Kn.drop lt key T) ∧ Fr (m :: T.bs) w (w2.setCell ⟨m, 0, none⟩ (.pointer (Kn.drop lt key T).adr))) (by
    rintro e w2 ⟨rfl, hi, fr⟩
    have hb := fr.blk h.blk h.ne
    have mP : m ∉ (Kn.drop lt key T).bs := fun hm => h.ne (Kn.drop_mem hm)
    refine ⟨rfl, blk_cell hb 0, blk_frozen hb 0, ⟨blk_put hb 0 _ rfl, set_in hi mP 0 _, Kn.drop_nodup h.nd⟩, ?_⟩
    exact (fr.wide (fun x hx => .inl (List.mem_cons_of_mem _ hx))).set (.inl List.mem_cons_self) _)
  clear h
  go_enter Try.func88, Try.ntmps88
  go_wp2_with (first
    | (go_at_call 54; refine L0.mono ?_; clear L0; rintro e w1 ⟨rfl, hw⟩; obtain rfl := hw.symm)
    | (go_at_call 105
       refine W1.mono ?_
       clear W1
       rintro e w2 ⟨rfl, c2, f2, hm2, fr2⟩
       have L2 := len_any hm2)
    | (go_at_call 54; refine L2.mono ?_; clear L2; rintro e w3 ⟨rfl, hw⟩; obtain rfl := hw.symm))
  go_ret
  exact ⟨rfl, hm2, fr2⟩
theorem in_find (key : ByteArray) {w : World} : ∀ {T : Kn ByteArray ByteArray}, In w T → In w (Kn.find lt key T)
  | .nil, _ => trivial
  | .node b k v l r, h => by
    unfold Kn.find
    split
    · exact in_find key h.2.1
    · split
      · exact in_find key h.2.2
      · exact h
def got (key : ByteArray) (T : Kn ByteArray ByteArray) : ByteArray × Bool := match Kn.find lt key T with | .nil => (ByteArray.empty, false) | .node _ _ v _ _ => (v, true)
theorem get_any (key : ByteArray) {w : World} {m : Nat} {T : Kn ByteArray ByteArray} (h : Mp w m T) :
    Calls Try.prog 56 #[.pointer (some ⟨m, 0, none⟩), .string key] w fun e w' => e = .returned (.tuple #[.string (got key T).1, .bool (got key T).2]) ∧ w' = w := by
  have c0 : w.cell? ⟨m, 0, none⟩ = some (.pointer T.adr) := blk_cell h.blk 0
  have W1 := find_any key T w h.inn
  have hi := in_find key h.inn
  unfold got
  clear h
  cases hF : Kn.find lt key T with
  | nil =>
    rw [hF] at W1
    rw [show (Kn.nil : Kn ByteArray ByteArray).adr = none from rfl] at W1
    clear hF
    go_enter Try.func56, Try.ntmps56
    go_wp2_with (go_at_call 86; refine W1.mono ?_; clear W1; rintro e w1 ⟨rfl, hw⟩; obtain rfl := hw.symm)
    go_ret2
    exact ⟨rfl, rfl⟩
  | node b k v l r =>
    rw [hF] at W1 hi
    rw [show (Kn.node b k v l r).adr = some ⟨b, 0, none⟩ from rfl] at W1
    clear hF
    obtain ⟨c10, c11, c12, c13, f11, f12, f13⟩ := (Top.of_in hi).cells
    go_enter Try.func56, Try.ntmps56
    go_wp2_with (go_at_call 86; refine W1.mono ?_; clear W1; rintro e w1 ⟨rfl, hw⟩; obtain rfl := hw.symm)
    go_ret2
    exact ⟨rfl, rfl⟩
end Go.Proofs.Ytljnlnbopohghaa.OrdSm
end
section
namespace Go.Proofs.Ytljnlnbopohghaa.OrdSm
open Go.RowKit Go.Shelf Go.Proofs.YtljnlnbopohghaaW.PrintWords Go.Proofs.YtljnlnbopohghaaW.PrintLast Go.Proofs.YtljnlnbopohghaaW.PrintMore Go.Proofs.Ytljnlnbopohghaa.Own Go.Proofs.Ytljnlnbopohghaa.Ord
open List renaming setIfInBounds_toArray → sA1, set_cons_zero → sA2, set_cons_succ → sA3, getElem_toArray → sA4, getElem_cons_zero → sA5, getElem_cons_succ → sA6
attribute [local go_sem] Oper.semAt_some
set_option maxHeartbeats 2000000
set_option maxRecDepth 100000
theorem tkI_ {F : Fence} {n : Nat} {P : Program} {ops : Array Oper} {Q : Exit → Act → World → Prop} {md : Region.Mode} (i : Nat) {oi : Oper} {v : Value} {fuel : Nat} {listed : Array Bool} {a : Act} {w : World} (hi : ops[i]? = some oi) (hw : ∀ w, (execOp a.eval oi).run P w = .ok (.value v) w) (h : wpAnyIn F n P md ops Q fuel (listed.setIfInBounds i true) (a.put oi.dst v) w)
 (hro : F.round = none := by rfl) (hs : Region.noSelect ops = true := by kernel_rfl) (hf : Region.free md ops listed i = true := by kernel_rfl) (hr : (Region.ready md ops listed).contains i = true := by kernel_rfl) (hQ : ∀ c a w, Q (.panic c) (a.put oi.dst v) w → Q (.panic c) a w := by exact fun _ _ _ h => h) (h1 : Region.wanted oi (yielded ops a.tmps) = true := by rfl) (h2 : ∀ w, oi.about P w a.eval = none := by exact fun _ => rfl) : wpAnyIn F n P md ops Q (fuel + 1) listed a w := wpAnyIn_take hro hi hs hf hr hQ ⟨Or.inl ⟨h1, hw⟩, h2⟩ h
theorem tkJ_ {F : Fence} {n : Nat} {P : Program} {ops : Array Oper} {Q : Exit → Act → World → Prop} {md : Region.Mode} (i : Nat) {N : Tmp} {oi : Oper} {v : Value} {fuel : Nat} {listed : Array Bool} {a a' : Act} {w : World} (hi : ops[i]? = some oi) (h : wpAnyIn F n P md ops Q fuel (listed.setIfInBounds i true) a' w)
 (hro : F.round = none := by rfl) (hs : Region.noSelect ops = true := by kernel_rfl) (hf : Region.free md ops listed i = true := by kernel_rfl) (hr : (Region.ready md ops listed).contains i = true := by kernel_rfl) (hQ : ∀ c a w, Q (.panic c) (a.put oi.dst v) w → Q (.panic c) a w := by exact fun _ _ _ h => h) (h1 : Region.wanted oi (yielded ops a.tmps) = true := by rfl) (h2 : ∀ w, oi.about P w a.eval = none := by exact fun _ => rfl) (hw : ∀ w, (execOp a.eval oi).run P w = .ok (.value v) w := by (intro w; go_simp; first | done | with_reducible rfl)) (hN : oi.dst = some N := by rfl) (ha : a.put (some N) v = a' := by (simp only [Act.put, sA1, sA2, sA3, sA4, sA5, sA6]; rfl)) : wpAnyIn F n P md ops Q (fuel + 1) listed a w := by
 subst ha
 rw [← hN] at h
 exact wpAnyIn_take hro hi hs hf hr hQ ⟨Or.inl ⟨h1, hw⟩, h2⟩ h
theorem tkU_ {F : Fence} {n : Nat} {P : Program} {ops : Array Oper} {Q : Exit → Act → World → Prop} {md : Region.Mode} (i : Nat) {N : Tmp} {oi : Oper} {fuel : Nat} {listed : Array Bool} {a a' : Act} {w : World} (hi : ops[i]? = some oi) (h : wpAnyIn F n P md ops Q fuel (listed.setIfInBounds i true) a' w)
 (hro : F.round = none := by rfl) (hs : Region.noSelect ops = true := by kernel_rfl) (hf : Region.free md ops listed i = true := by kernel_rfl) (hr : (Region.ready md ops listed).contains i = true := by kernel_rfl) (hQ : ∀ c a w, Q (.panic c) (a.put oi.dst undef) w → Q (.panic c) a w := by exact fun _ _ _ h => h) (hy : YieldsFenced P ops oi undef a := by exact ⟨Or.inr ⟨by rfl, rfl⟩, fun _ => rfl⟩) (hN : oi.dst = some N := by rfl) (ha : a.put (some N) undef = a' := by (simp only [Act.put, sA1, sA2, sA3, sA4, sA5, sA6]; rfl)) : wpAnyIn F n P md ops Q (fuel + 1) listed a w := by
 subst ha
 rw [← hN] at h
 exact wpAnyIn_take hro hi hs hf hr hQ hy h
theorem RoundIn.anyDepth {F : Fence} (hd : F.depth = none) {m m' : Nat} {P : Program} {l : Nat} {f : FuncId} {tmps : Array Value} {assign body : Code} {w : World} {R : Ending → World → Prop}
  (h : RoundIn F m P l f tmps assign body w R) : RoundIn F m' P l f tmps assign body w R := ⟨h.1, fun c cs _ => h.2 c cs (fun d h => by rw [hd] at h; cases h)⟩
theorem YieldAt.anyDepth {F : Fence} (hd : F.depth = none) {m : Nat} (m' : Nat) {P : Program} {l : Nat} {args : Array Value} {W : World} {R : Ending → World → Prop} (h : YieldAt F m P l args W R) : YieldAt F m' P l args W R := by
 obtain ⟨fn, tmps, assign, body, hy, hR⟩ := h
 exact ⟨fn, tmps, assign, body, hy, RoundIn.anyDepth hd hR⟩
theorem less_any (x y : ByteArray) (w : World) : Calls Try.prog 113 #[.string x, .string y] w fun e w' => e = .returned (.bool (lt x y)) ∧ w' = w := by
 by_cases h1 : lt x y = true
 ·rw [h1]
  go_enter Try.func113, Try.ntmps113
  go_wp2_with (go_at_call 116; refine (nan_any _ _).mono ?_; rintro e w1 ⟨rfl, rfl⟩)
  go_ret
  simp
 have h2 : lt x y = false := by cases h : lt x y <;> simp_all
 rw [h2]
 go_enter Try.func113, Try.ntmps113
 go_wp2_with (go_at_call 116; refine (nan_any _ _).mono ?_; rintro e w1 ⟨rfl, rfl⟩)
 go_ret
 simp
structure Kee (S : Nat → Prop) (W W' : World) : Prop where
 size : W.heap.size ≤ W'.heap.size
 block : ∀ k, S k → W'.heap[k]? = W.heap[k]?
namespace Kee
variable {S : Nat → Prop} {A B C : World}
theorem refl (S : Nat → Prop) (W : World) : Kee S W W := ⟨Nat.le_refl _, fun _ _ => rfl⟩
theorem trans (h : Kee S A B) (k : Kee S B C) : Kee S A C := ⟨Nat.le_trans h.size k.size, fun i hi => (k.block i hi).trans (h.block i hi)⟩
theorem cell (h : Kee S A B) {p : Addr} (hp : S p.block) : B.cell? p = A.cell? p := by unfold World.cell?; rw [h.block _ hp]
theorem drewN (h : Kee S A B) (n : Nat) : Kee S A (B.drewN n) := ⟨h.size, h.block⟩
theorem drew (h : Kee S A B) : Kee S A B.drew := ⟨h.size, h.block⟩
end Kee
theorem in_kee {S : Nat → Prop} {A B : World} (h : Kee S A B) : ∀ {T : Kn ByteArray ByteArray}, In A T → (∀ x ∈ T.bs, S x) → In B T
 | .nil, _, _ => trivial
 | .node b k v l r, hi, hn => ⟨(h.block b (hn b (by simp [Kn.bs]))).trans hi.1, in_kee h hi.2.1 (fun x hx => hn x (by simp [Kn.bs, hx])), in_kee h hi.2.2 (fun x hx => hn x (by simp [Kn.bs, hx]))⟩
def walkA : Kn ByteArray ByteArray → List (ByteArray × ByteArray)
 | .nil => []
 | .node b k v l r => walkA l ++ (k, v) :: walkA r
def walkB (s : ByteArray) : Kn ByteArray ByteArray → List (ByteArray × ByteArray)
 | .nil => []
 | .node b k v l r => if lt k s = true then walkB s r else walkB s l ++ (k, v) :: walkA r
theorem calls_wide {n : Nat} {f : FuncId} {args : Array Value} {w : World} {R : Ending → World → Prop} (h : Calls Try.prog f args w R) : CallsIn Fence.wide n Try.prog f args w R := callsIn_wide.2 h
theorem cut2 {G C : Prop} (h : G → C) (g : G) : C := h g
theorem walk_none (l N : Nat) (S : Nat → Prop) (J Jx : List (ByteArray × ByteArray) → World → Prop) (hJd : ∀ pre W n, J pre W → J pre (W.drewN n))
  (hY : ∀ m pre x W, J pre W → pre.length < N → YieldAt Fence.wide m Try.prog l #[.string x.1, .string x.2] W fun e W' =>
   (e = .returned (.bool true) ∧ J (pre ++ [x]) W' ∧ Kee S W W') ∨ (e = .returned (.bool false) ∧ Jx (pre ++ [x]) W')) (T : Kn ByteArray ByteArray) :
  ∀ (n : Nat) (pre : List (ByteArray × ByteArray)) (W : World), In W T → (∀ x ∈ T.bs, S x) → J pre W → pre.length + (walkA T).length ≤ N →
   CallsIn Fence.wide n Try.prog 100 #[.pointer T.adr, .pointer none, .func (.yield l) #[] #[]] W fun e W' =>
    (e = .returned (.bool true) ∧ J (pre ++ walkA T) W' ∧ Kee S W W') ∨ (e = .returned (.bool false) ∧ ∃ q, q <+: walkA T ∧ Jx (pre ++ q) W') := by
 induction T with
 | nil =>
  intro n pre W _ _ hJ _
  show CallsIn Fence.wide n Try.prog 100 #[.pointer none, .pointer none, .func (.yield l) #[] #[]] W _
  refine callsIn_of_wp Try.func100 rfl trivial ?_ rfl
  simp only [Try.ntmps100, List.size_toArray, List.length_cons, List.length_nil, Nat.reduceAdd, Nat.reduceSub, Array.replicate_succ, Array.replicate_zero, List.push_toArray, List.append_toArray, List.nil_append, List.cons_append]
  gi_wp2
  go_ret
  exact .inl ⟨rfl, by simpa [walkA] using hJ, Kee.refl _ _⟩
 | node b k v tl tr ihl ihr =>
  intro n pre W hin hlt hJ hN
  have hdd : ∀ k : Nat, (Fence.wide.depth.isSome = true → 1 ≤ k) := fun k h => by cases h
  have hb : S b := hlt b (by simp [Kn.bs])
  have hltl : ∀ x ∈ tl.bs, S x := fun x hx => hlt x (by simp [Kn.bs, hx])
  have hltr : ∀ x ∈ tr.bs, S x := fun x hx => hlt x (by simp [Kn.bs, hx])
  obtain ⟨c10, c11, c12, c13, _, _, _⟩ := (Top.of_in hin).cells
  simp only [walkA] at hN ⊢
  show CallsIn Fence.wide n Try.prog 100 #[.pointer (some ⟨b, 0, none⟩), .pointer none, .func (.yield l) #[] #[]] W _
  refine callsIn_of_wp Try.func100 rfl trivial ?_ rfl
  simp only [Try.ntmps100, List.size_toArray, List.length_cons, List.length_nil, Nat.reduceAdd, Nat.reduceSub, Array.replicate_succ, Array.replicate_zero, List.push_toArray, List.append_toArray, List.nil_append, List.cons_append]
  gi_wp2
  refine wpIn_region_quiet_lit rfl (by kernel_rfl) (by kernel_rfl) ?_
  repeat (refine wpQuietIn_step (fun _ _ _ _ => trivial) (fun K hK => ?_); go_simp; first | (refine hK _ ?_; clear hK K) | (refine ⟨_, fun _ => rfl, hK _ ?_⟩; clear hK K))
  refine wpQuietIn_nil ?_
  intro _ hw'
  obtain ⟨nq, hw''⟩ := hw'
  subst hw''
  obtain ⟨W0, hW⟩ : ∃ W0, W0 = W.drewN nq := ⟨_, rfl⟩
  rw [← hW]
  have hin : In W0 (.node b k v tl tr) := by rw [hW]; exact in_drewN _ hin
  have bl : Kee S W W0 := by rw [hW]; exact (Kee.refl _ _).drewN _
  have hJ : J pre W0 := by rw [hW]; exact hJd _ _ _ hJ
  clear hW c10 c11 c12 c13
  obtain ⟨c10, c11, c12, c13, _, _, _⟩ := (Top.of_in hin).cells
  simp only [List.length_append, List.length_cons] at hN
  have hy2 : ∀ W1, J (pre ++ walkA tl) W1 → Kee S W0 W1 → YieldAt Fence.wide (n - 1) Try.prog l #[.string k, .string v] W1 fun e W2 =>
    (e = .returned (.bool true) ∧ J (pre ++ walkA tl ++ [(k, v)]) W2 ∧ Kee S W0 W2 ∧ W2.cell? ⟨b, 3, none⟩ = some (.pointer tr.adr) ∧ In W2 tr) ∨ (e = .returned (.bool false) ∧ Jx (pre ++ walkA tl ++ [(k, v)]) W2) := fun W1 hJ1 hb1 =>
   YieldAt.mono (hY (n - 1) _ (k, v) W1 hJ1 (by simp; omega)) fun e W2 h => h.elim
    (fun ⟨he, hj, hb2⟩ => .inl ⟨he, hj, hb1.trans hb2, ((hb1.trans hb2).cell (p := ⟨b, 3, none⟩) hb).trans c13, in_kee (hb1.trans hb2) hin.2.2 hltr⟩) .inr
  have ih1 := (ihl (n - 1) pre W0.drew (in_drewN 1 hin.2.1) hltl (hJd _ _ 1 hJ) (by omega)).mono (R' := fun e W1 =>
    (e = .returned (.bool true) ∧ W1.cell? ⟨b, 0, none⟩ = some (.string k) ∧ W1.cell? ⟨b, 1, none⟩ = some (.string v) ∧ YieldAt Fence.wide (n - 1) Try.prog l #[.string k, .string v] W1 fun e W2 =>
     (e = .returned (.bool true) ∧ J (pre ++ walkA tl ++ [(k, v)]) W2 ∧ Kee S W0 W2 ∧ W2.cell? ⟨b, 3, none⟩ = some (.pointer tr.adr) ∧ In W2 tr) ∨ (e = .returned (.bool false) ∧ Jx (pre ++ walkA tl ++ [(k, v)]) W2)) ∨
    (e = .returned (.bool false) ∧ ∃ q, q <+: walkA tl ∧ Jx (pre ++ q) W1))
   (fun e W1 h => h.elim (fun ⟨he, hj, hb0⟩ => have hb1 := (Kee.refl S W0).drew.trans hb0; .inl ⟨he, (hb1.cell (p := ⟨b, 0, none⟩) hb).trans c10, (hb1.cell (p := ⟨b, 1, none⟩) hb).trans c11, hy2 W1 hj hb1⟩) .inr)
  clear hy2 ihl
  gi_wp2
  refine wpIn_region_any (by kernel_rfl) ?_
  change wpAnyIn _ _ _ _ _ _ _ _ _ (World.drew _)
  refine tkJ_ 0 rfl ?_
  refine tkJ_ 1 rfl ?_
  refine tkJ_ 2 rfl ?_
  refine tkJ_ 4 rfl ?_
  refine tkJ_ 5 rfl ?_
  refine wpAnyIn_ready (rs := [3]) (by kernel_rfl) (by simp) ?_
  refine AllReadyIn.cons rfl (fun K hK => ?_) ?_
  ·go_simp
   refine hK _ _ ?_
   clear hK K
   refine wpAnyIn_ready (rs := [6]) (by kernel_rfl) (by simp) ?_
   refine AllReadyIn.cons rfl (fun K hK => ?_) ?_
   ·go_simp
    refine ⟨trivial, hdd _, ih1.mono ?_⟩
    clear ih1
    rintro e W1 (⟨rfl, c10', c11', fn, tmps, assign, body, hy, hR⟩ | ⟨rfl, q, hq, hx1⟩)
    ·refine hK _ _ ?_
     clear hK K
     refine tkJ_ 7 rfl ?_
     refine tkJ_ 8 rfl ?_
     refine tkJ_ 9 rfl ?_
     refine tkJ_ 10 rfl ?_
     refine tkJ_ 11 rfl ?_
     refine tkJ_ 13 rfl ?_
     refine tkJ_ 14 rfl ?_
     refine tkJ_ 15 rfl ?_
     apply cut2
     ·intro hcont
      refine wpAnyIn_ready (rs := [12, 16]) (by kernel_rfl) (by simp) ?_
      refine AllReadyIn.cons rfl (fun K hK => ?_) ?_
      ·go_simp
       refine hK _ _ ?_
       clear hK K
       refine wpAnyIn_ready (rs := [16]) (by kernel_rfl) (by simp) ?_
       refine AllReadyIn.cons rfl (fun K hK => ?_) ?_
       ·go_simp
        refine hK _ _ ?_
        clear hK K
        exact hcont
       exact AllReadyIn.nil
      refine AllReadyIn.cons rfl (fun K hK => ?_) ?_
      ·go_simp
       refine hK _ _ ?_
       clear hK K
       refine wpAnyIn_ready (rs := [12]) (by kernel_rfl) (by simp) ?_
       refine AllReadyIn.cons rfl (fun K hK => ?_) ?_
       ·go_simp
        refine hK _ _ ?_
        clear hK K
        exact hcont
       exact AllReadyIn.nil
      exact AllReadyIn.nil
     refine wpAnyIn_ready (rs := [17]) (by kernel_rfl) (by simp) ?_
     refine AllReadyIn.cons rfl (fun K hK => ?_) ?_
     ·go_simp
      refine ⟨hdd _, hR.mono ?_⟩
      clear hR
      rintro e W2 (⟨rfl, hJ2, hb2, c13', hr2⟩ | ⟨rfl, hx2⟩)
      ·refine hK _ _ ?_
       clear hK K
       refine tkJ_ 18 rfl ?_
       refine tkJ_ 19 rfl ?_
       refine tkJ_ 20 rfl ?_
       refine tkJ_ 21 rfl ?_
       refine tkJ_ 22 rfl ?_
       refine tkJ_ 24 rfl ?_
       refine wpAnyIn_ready (rs := [23]) (by kernel_rfl) (by simp) ?_
       refine AllReadyIn.cons rfl (fun K hK => ?_) ?_
       ·go_simp
        refine hK _ _ ?_
        clear hK K
        refine wpAnyIn_ready (rs := [25]) (by kernel_rfl) (by simp) ?_
        refine AllReadyIn.cons rfl (fun K hK => ?_) ?_
        ·go_simp
         refine ⟨trivial, hdd _, (ihr (n - 1) _ _ hr2 hltr hJ2 (by simp; omega)).mono ?_⟩
         rintro e W3 (⟨rfl, hJ3, hb3⟩ | ⟨rfl, q, hq, hx3⟩)
         ·refine hK _ _ ?_
          clear hK K
          refine tkJ_ 26 rfl ?_
          refine tkJ_ 27 rfl ?_
          refine wpAnyIn_done (by kernel_rfl) ?_ _
          gi_wp2
          go_ret
          exact .inl ⟨rfl, by simpa [List.append_assoc] using hJ3, bl.trans (hb2.trans hb3)⟩
         refine hK _ _ ?_
         clear hK K
         refine tkJ_ 26 rfl ?_
         refine tkJ_ 27 rfl ?_
         refine wpAnyIn_done (by kernel_rfl) ?_ _
         gi_wp2
         go_ret
         obtain ⟨r, hr'⟩ := hq
         exact .inr ⟨rfl, walkA tl ++ (k, v) :: q, ⟨r, by rw [← hr']; simp⟩, by simpa [List.append_assoc] using hx3⟩
        exact AllReadyIn.nil
       exact AllReadyIn.nil
      refine hK _ _ ?_
      clear hK K
      refine tkJ_ 18 rfl ?_
      refine tkJ_ 19 rfl ?_
      refine tkU_ 20 rfl ?_
      refine tkU_ 21 rfl ?_
      refine tkU_ 22 rfl ?_
      refine tkU_ 23 rfl ?_
      refine tkU_ 24 rfl ?_
      refine wpAnyIn_ready (rs := [25]) (by kernel_rfl) (by simp) ?_
      refine AllReadyIn.cons rfl (fun K hK => ?_) ?_
      ·go_simp
       refine ⟨trivial, ?_⟩
       refine hK _ _ ?_
       clear hK K
       refine tkJ_ 26 rfl ?_
       refine tkJ_ 27 rfl ?_
       refine wpAnyIn_done (by kernel_rfl) ?_ _
       gi_wp2
       go_ret
       exact .inr ⟨rfl, walkA tl ++ [(k, v)], ⟨walkA tr, by simp⟩, by simpa [List.append_assoc] using hx2⟩
      exact AllReadyIn.nil
     exact AllReadyIn.nil
    refine hK _ _ ?_
    clear hK K
    refine tkJ_ 7 rfl ?_
    refine tkU_ 8 rfl ?_
    refine tkU_ 9 rfl ?_
    refine tkU_ 10 rfl ?_
    refine tkU_ 11 rfl ?_
    refine tkU_ 12 rfl ?_
    refine tkU_ 13 rfl ?_
    refine tkU_ 14 rfl ?_
    refine tkU_ 15 rfl ?_
    refine tkU_ 16 rfl ?_
    refine wpAnyIn_ready (rs := [17]) (by kernel_rfl) (by simp) ?_
    refine AllReadyIn.cons rfl (fun K hK => ?_) ?_
    ·go_simp
     refine ⟨fun _ _ => trivial, ?_⟩
     refine hK _ _ ?_
     clear hK K
     refine tkJ_ 18 rfl ?_
     refine tkJ_ 19 rfl ?_
     refine tkU_ 20 rfl ?_
     refine tkU_ 21 rfl ?_
     refine tkU_ 22 rfl ?_
     refine tkU_ 23 rfl ?_
     refine tkU_ 24 rfl ?_
     refine wpAnyIn_ready (rs := [25]) (by kernel_rfl) (by simp) ?_
     refine AllReadyIn.cons rfl (fun K hK => ?_) ?_
     ·go_simp
      refine ⟨trivial, ?_⟩
      refine hK _ _ ?_
      clear hK K
      refine tkJ_ 26 rfl ?_
      refine tkJ_ 27 rfl ?_
      refine wpAnyIn_done (by kernel_rfl) ?_ _
      gi_wp2
      go_ret
      exact .inr ⟨rfl, q, hq.trans (List.prefix_append _ _), hx1⟩
     exact AllReadyIn.nil
    exact AllReadyIn.nil
   exact AllReadyIn.nil
  exact AllReadyIn.nil
theorem walk_some (l N : Nat) (S : Nat → Prop) (J Jx : List (ByteArray × ByteArray) → World → Prop) (hJd : ∀ pre W n, J pre W → J pre (W.drewN n))
  (hY : ∀ m pre x W, J pre W → pre.length < N → YieldAt Fence.wide m Try.prog l #[.string x.1, .string x.2] W fun e W' =>
   (e = .returned (.bool true) ∧ J (pre ++ [x]) W' ∧ Kee S W W') ∨ (e = .returned (.bool false) ∧ Jx (pre ++ [x]) W')) (a : Addr) (s : ByteArray) (ha : S a.block) (T : Kn ByteArray ByteArray) :
  ∀ (n : Nat) (pre : List (ByteArray × ByteArray)) (W : World), In W T → (∀ x ∈ T.bs, S x) → W.cell? a = some (.string s) → J pre W → pre.length + (walkB s T).length ≤ N →
   CallsIn Fence.wide n Try.prog 100 #[.pointer T.adr, .pointer (some a), .func (.yield l) #[] #[]] W fun e W' =>
    (e = .returned (.bool true) ∧ J (pre ++ walkB s T) W' ∧ Kee S W W') ∨ (e = .returned (.bool false) ∧ ∃ q, q <+: walkB s T ∧ Jx (pre ++ q) W') := by
 induction T with
 | nil =>
  intro n pre W _ _ _ hJ _
  show CallsIn Fence.wide n Try.prog 100 #[.pointer none, .pointer (some a), .func (.yield l) #[] #[]] W _
  refine callsIn_of_wp Try.func100 rfl trivial ?_ rfl
  simp only [Try.ntmps100, List.size_toArray, List.length_cons, List.length_nil, Nat.reduceAdd, Nat.reduceSub, Array.replicate_succ, Array.replicate_zero, List.push_toArray, List.append_toArray, List.nil_append, List.cons_append]
  gi_wp2
  go_ret
  exact .inl ⟨rfl, by simpa [walkB] using hJ, Kee.refl _ _⟩
 | node b k v tl tr ihl ihb =>
  intro n pre W hin hlt cs hJ hN
  have hdd : ∀ k : Nat, (Fence.wide.depth.isSome = true → 1 ≤ k) := fun k h => by cases h
  have hb : S b := hlt b (by simp [Kn.bs])
  have hltl : ∀ x ∈ tl.bs, S x := fun x hx => hlt x (by simp [Kn.bs, hx])
  have hltr : ∀ x ∈ tr.bs, S x := fun x hx => hlt x (by simp [Kn.bs, hx])
  obtain ⟨c10, c11, c12, c13, _, _, _⟩ := (Top.of_in hin).cells
  have ihr := walk_none l N S J Jx hJd hY tr
  by_cases hs : lt k s = true
  ·simp only [walkB, if_pos hs] at hN ⊢
   show CallsIn Fence.wide n Try.prog 100 #[.pointer (some ⟨b, 0, none⟩), .pointer (some a), .func (.yield l) #[] #[]] W _
   refine callsIn_of_wp Try.func100 rfl trivial ?_ rfl
   simp only [Try.ntmps100, List.size_toArray, List.length_cons, List.length_nil, Nat.reduceAdd, Nat.reduceSub, Array.replicate_succ, Array.replicate_zero, List.push_toArray, List.append_toArray, List.nil_append, List.cons_append]
   gi_wp2
   refine wpIn_region_any (by kernel_rfl) ?_
   change wpAnyIn _ _ _ _ _ _ _ _ _ (World.drew _)
   obtain ⟨W0, hW⟩ : ∃ W0, W0 = W.drewN 1 := ⟨_, rfl⟩
   have nq := 1
   change wpAnyIn _ _ _ _ _ _ _ _ _ (W.drewN 1)
   rw [← hW]
   have hin : In W0 (.node b k v tl tr) := by rw [hW]; exact in_drewN _ hin
   have bl : Kee S W W0 := by rw [hW]; exact (Kee.refl _ _).drewN _
   have hJ : J pre W0 := by rw [hW]; exact hJd _ _ _ hJ
   have cs := (bl.cell ha).trans cs
   clear hW c10 c11 c12 c13
   obtain ⟨c10, c11, c12, c13, _, _, _⟩ := (Top.of_in hin).cells
   refine tkJ_ 0 rfl ?_
   refine tkJ_ 1 rfl ?_
   refine tkJ_ 2 rfl ?_
   refine tkJ_ 3 rfl ?_
   refine tkJ_ 4 rfl ?_
   refine tkJ_ 5 rfl ?_
   refine tkJ_ 7 rfl ?_
   refine tkJ_ 8 rfl ?_
   apply cut2
   ·intro hcont
    refine wpAnyIn_ready (rs := [6, 9]) (by kernel_rfl) (by simp) ?_
    refine AllReadyIn.cons rfl (fun K hK => ?_) ?_
    ·go_simp
     refine hK _ _ ?_
     clear hK K
     refine wpAnyIn_ready (rs := [9]) (by kernel_rfl) (by simp) ?_
     refine AllReadyIn.cons rfl (fun K hK => ?_) ?_
     ·go_simp
      refine hK _ _ ?_
      clear hK K
      exact hcont
     exact AllReadyIn.nil
    refine AllReadyIn.cons rfl (fun K hK => ?_) ?_
    ·go_simp
     refine hK _ _ ?_
     clear hK K
     refine wpAnyIn_ready (rs := [6]) (by kernel_rfl) (by simp) ?_
     refine AllReadyIn.cons rfl (fun K hK => ?_) ?_
     ·go_simp
      refine hK _ _ ?_
      clear hK K
      exact hcont
     exact AllReadyIn.nil
    exact AllReadyIn.nil
   refine wpAnyIn_ready (rs := [10]) (by kernel_rfl) (by simp) ?_
   refine AllReadyIn.cons rfl (fun K hK => ?_) ?_
   ·go_simp
    refine ⟨trivial, hdd _, (calls_wide (less_any k s W0)).mono ?_⟩
    rintro e W1 ⟨rfl, hw⟩
    obtain rfl := hw.symm
    rw [hs]
    refine hK _ _ ?_
    clear hK K
    refine tkJ_ 11 rfl ?_
    refine wpAnyIn_done (by kernel_rfl) ?_ _
    gi_wp2_with (refine ⟨trivial, hdd _, (ihb (n - 1) pre _ (by first | exact hin.2.2 | exact in_drewN 1 hin.2.2) hltr (by first | exact cs | (rw [World.cell?_drew]; exact cs)) (by first | exact hJ | exact hJd _ _ 1 hJ) (by omega)).mono ?_⟩; rintro e W2 (⟨rfl, hJ2, hb2⟩ | ⟨rfl, hx2⟩))
    ·go_ret
     exact .inl ⟨rfl, hJ2, bl.trans hb2⟩
    go_ret
    exact .inr ⟨rfl, hx2⟩
   exact AllReadyIn.nil
  simp only [walkB, if_neg hs] at hN ⊢
  show CallsIn Fence.wide n Try.prog 100 #[.pointer (some ⟨b, 0, none⟩), .pointer (some a), .func (.yield l) #[] #[]] W _
  refine callsIn_of_wp Try.func100 rfl trivial ?_ rfl
  simp only [Try.ntmps100, List.size_toArray, List.length_cons, List.length_nil, Nat.reduceAdd, Nat.reduceSub, Array.replicate_succ, Array.replicate_zero, List.push_toArray, List.append_toArray, List.nil_append, List.cons_append]
  gi_wp2
  refine wpIn_region_any (by kernel_rfl) ?_
  change wpAnyIn _ _ _ _ _ _ _ _ _ (World.drew _)
  obtain ⟨W0, hW⟩ : ∃ W0, W0 = W.drewN 1 := ⟨_, rfl⟩
  have nq := 1
  change wpAnyIn _ _ _ _ _ _ _ _ _ (W.drewN 1)
  rw [← hW]
  have hin : In W0 (.node b k v tl tr) := by rw [hW]; exact in_drewN _ hin
  have bl : Kee S W W0 := by rw [hW]; exact (Kee.refl _ _).drewN _
  have hJ : J pre W0 := by rw [hW]; exact hJd _ _ _ hJ
  have cs := (bl.cell ha).trans cs
  clear hW c10 c11 c12 c13
  obtain ⟨c10, c11, c12, c13, _, _, _⟩ := (Top.of_in hin).cells
  refine tkJ_ 0 rfl ?_
  refine tkJ_ 1 rfl ?_
  refine tkJ_ 2 rfl ?_
  refine tkJ_ 3 rfl ?_
  refine tkJ_ 4 rfl ?_
  refine tkJ_ 5 rfl ?_
  refine tkJ_ 7 rfl ?_
  refine tkJ_ 8 rfl ?_
  apply cut2
  ·intro hcont
   refine wpAnyIn_ready (rs := [6, 9]) (by kernel_rfl) (by simp) ?_
   refine AllReadyIn.cons rfl (fun K hK => ?_) ?_
   ·go_simp
    refine hK _ _ ?_
    clear hK K
    refine wpAnyIn_ready (rs := [9]) (by kernel_rfl) (by simp) ?_
    refine AllReadyIn.cons rfl (fun K hK => ?_) ?_
    ·go_simp
     refine hK _ _ ?_
     clear hK K
     exact hcont
    exact AllReadyIn.nil
   refine AllReadyIn.cons rfl (fun K hK => ?_) ?_
   ·go_simp
    refine hK _ _ ?_
    clear hK K
    refine wpAnyIn_ready (rs := [6]) (by kernel_rfl) (by simp) ?_
    refine AllReadyIn.cons rfl (fun K hK => ?_) ?_
    ·go_simp
     refine hK _ _ ?_
     clear hK K
     exact hcont
    exact AllReadyIn.nil
   exact AllReadyIn.nil
  refine wpAnyIn_ready (rs := [10]) (by kernel_rfl) (by simp) ?_
  refine AllReadyIn.cons rfl (fun K hK => ?_) ?_
  ·go_simp
   refine ⟨trivial, hdd _, (calls_wide (less_any k s W0)).mono ?_⟩
   rintro e W1 ⟨rfl, hw⟩
   obtain rfl := hw.symm
   rw [(by simpa using hs : lt k s = false)]
   refine hK _ _ ?_
   clear hK K
   refine tkJ_ 11 rfl ?_
   refine wpAnyIn_done (by kernel_rfl) ?_ _
   simp only [List.length_append, List.length_cons] at hN
   have hy2 : ∀ W1, J (pre ++ walkB s tl) W1 → Kee S W0 W1 → YieldAt Fence.wide (n - 1) Try.prog l #[.string k, .string v] W1 fun e W2 =>
     (e = .returned (.bool true) ∧ J (pre ++ walkB s tl ++ [(k, v)]) W2 ∧ Kee S W0 W2 ∧ W2.cell? ⟨b, 3, none⟩ = some (.pointer tr.adr) ∧ In W2 tr) ∨ (e = .returned (.bool false) ∧ Jx (pre ++ walkB s tl ++ [(k, v)]) W2) := fun W1 hJ1 hb1 =>
    YieldAt.mono (hY (n - 1) _ (k, v) W1 hJ1 (by simp; omega)) fun e W2 h => h.elim
     (fun ⟨he, hj, hb2⟩ => .inl ⟨he, hj, hb1.trans hb2, ((hb1.trans hb2).cell (p := ⟨b, 3, none⟩) hb).trans c13, in_kee (hb1.trans hb2) hin.2.2 hltr⟩) .inr
   have ih1 := (ihl (n - 1) pre W0.drew (in_drewN 1 hin.2.1) hltl (((Kee.refl S W0).drew.cell ha).trans cs) (hJd _ _ 1 hJ) (by omega)).mono (R' := fun e W1 =>
     (e = .returned (.bool true) ∧ W1.cell? ⟨b, 0, none⟩ = some (.string k) ∧ W1.cell? ⟨b, 1, none⟩ = some (.string v) ∧ YieldAt Fence.wide (n - 1) Try.prog l #[.string k, .string v] W1 fun e W2 =>
      (e = .returned (.bool true) ∧ J (pre ++ walkB s tl ++ [(k, v)]) W2 ∧ Kee S W0 W2 ∧ W2.cell? ⟨b, 3, none⟩ = some (.pointer tr.adr) ∧ In W2 tr) ∨ (e = .returned (.bool false) ∧ Jx (pre ++ walkB s tl ++ [(k, v)]) W2)) ∨
     (e = .returned (.bool false) ∧ ∃ q, q <+: walkB s tl ∧ Jx (pre ++ q) W1))
    (fun e W1 h => h.elim (fun ⟨he, hj, hb0⟩ => have hb1 := (Kee.refl S W0).drew.trans hb0; .inl ⟨he, (hb1.cell (p := ⟨b, 0, none⟩) hb).trans c10, (hb1.cell (p := ⟨b, 1, none⟩) hb).trans c11, hy2 W1 hj hb1⟩) .inr)
   clear hy2 ihl
   gi_wp2
   refine wpIn_region_any (by kernel_rfl) ?_
   change wpAnyIn _ _ _ _ _ _ _ _ _ (World.drew _)
   refine tkJ_ 0 rfl ?_
   refine tkJ_ 1 rfl ?_
   refine tkJ_ 2 rfl ?_
   refine tkJ_ 4 rfl ?_
   refine tkJ_ 5 rfl ?_
   refine wpAnyIn_ready (rs := [3]) (by kernel_rfl) (by simp) ?_
   refine AllReadyIn.cons rfl (fun K hK => ?_) ?_
   ·go_simp
    refine hK _ _ ?_
    clear hK K
    refine wpAnyIn_ready (rs := [6]) (by kernel_rfl) (by simp) ?_
    refine AllReadyIn.cons rfl (fun K hK => ?_) ?_
    ·go_simp
     refine ⟨trivial, hdd _, ih1.mono ?_⟩
     clear ih1
     rintro e W1 (⟨rfl, c10', c11', fn, tmps, assign, body, hy, hR⟩ | ⟨rfl, q, hq, hx1⟩)
     ·refine hK _ _ ?_
      clear hK K
      refine tkJ_ 7 rfl ?_
      refine tkJ_ 8 rfl ?_
      refine tkJ_ 9 rfl ?_
      refine tkJ_ 10 rfl ?_
      refine tkJ_ 11 rfl ?_
      refine tkJ_ 13 rfl ?_
      refine tkJ_ 14 rfl ?_
      refine tkJ_ 15 rfl ?_
      apply cut2
      ·intro hcont
       refine wpAnyIn_ready (rs := [12, 16]) (by kernel_rfl) (by simp) ?_
       refine AllReadyIn.cons rfl (fun K hK => ?_) ?_
       ·go_simp
        refine hK _ _ ?_
        clear hK K
        refine wpAnyIn_ready (rs := [16]) (by kernel_rfl) (by simp) ?_
        refine AllReadyIn.cons rfl (fun K hK => ?_) ?_
        ·go_simp
         refine hK _ _ ?_
         clear hK K
         exact hcont
        exact AllReadyIn.nil
       refine AllReadyIn.cons rfl (fun K hK => ?_) ?_
       ·go_simp
        refine hK _ _ ?_
        clear hK K
        refine wpAnyIn_ready (rs := [12]) (by kernel_rfl) (by simp) ?_
        refine AllReadyIn.cons rfl (fun K hK => ?_) ?_
        ·go_simp
         refine hK _ _ ?_
         clear hK K
         exact hcont
        exact AllReadyIn.nil
       exact AllReadyIn.nil
      refine wpAnyIn_ready (rs := [17]) (by kernel_rfl) (by simp) ?_
      refine AllReadyIn.cons rfl (fun K hK => ?_) ?_
      ·go_simp
       refine ⟨hdd _, hR.mono ?_⟩
       clear hR
       rintro e W2 (⟨rfl, hJ2, hb2, c13', hr2⟩ | ⟨rfl, hx2⟩)
       ·refine hK _ _ ?_
        clear hK K
        refine tkJ_ 18 rfl ?_
        refine tkJ_ 19 rfl ?_
        refine tkJ_ 20 rfl ?_
        refine tkJ_ 21 rfl ?_
        refine tkJ_ 22 rfl ?_
        refine tkJ_ 24 rfl ?_
        refine wpAnyIn_ready (rs := [23]) (by kernel_rfl) (by simp) ?_
        refine AllReadyIn.cons rfl (fun K hK => ?_) ?_
        ·go_simp
         refine hK _ _ ?_
         clear hK K
         refine wpAnyIn_ready (rs := [25]) (by kernel_rfl) (by simp) ?_
         refine AllReadyIn.cons rfl (fun K hK => ?_) ?_
         ·go_simp
          refine ⟨trivial, hdd _, (ihr (n - 1) _ _ hr2 hltr hJ2 (by simp; omega)).mono ?_⟩
          rintro e W3 (⟨rfl, hJ3, hb3⟩ | ⟨rfl, q, hq, hx3⟩)
          ·refine hK _ _ ?_
           clear hK K
           refine tkJ_ 26 rfl ?_
           refine tkJ_ 27 rfl ?_
           refine wpAnyIn_done (by kernel_rfl) ?_ _
           gi_wp2
           go_ret
           exact .inl ⟨rfl, by simpa [List.append_assoc] using hJ3, bl.trans (hb2.trans hb3)⟩
          refine hK _ _ ?_
          clear hK K
          refine tkJ_ 26 rfl ?_
          refine tkJ_ 27 rfl ?_
          refine wpAnyIn_done (by kernel_rfl) ?_ _
          gi_wp2
          go_ret
          obtain ⟨r, hr'⟩ := hq
          exact .inr ⟨rfl, walkB s tl ++ (k, v) :: q, ⟨r, by rw [← hr']; simp⟩, by simpa [List.append_assoc] using hx3⟩
         exact AllReadyIn.nil
        exact AllReadyIn.nil
       refine hK _ _ ?_
       clear hK K
       refine tkJ_ 18 rfl ?_
       refine tkJ_ 19 rfl ?_
       refine tkU_ 20 rfl ?_
       refine tkU_ 21 rfl ?_
       refine tkU_ 22 rfl ?_
       refine tkU_ 23 rfl ?_
       refine tkU_ 24 rfl ?_
       refine wpAnyIn_ready (rs := [25]) (by kernel_rfl) (by simp) ?_
       refine AllReadyIn.cons rfl (fun K hK => ?_) ?_
       ·go_simp
        refine ⟨trivial, ?_⟩
        refine hK _ _ ?_
        clear hK K
        refine tkJ_ 26 rfl ?_
        refine tkJ_ 27 rfl ?_
        refine wpAnyIn_done (by kernel_rfl) ?_ _
        gi_wp2
        go_ret
        exact .inr ⟨rfl, walkB s tl ++ [(k, v)], ⟨walkA tr, by simp⟩, by simpa [List.append_assoc] using hx2⟩
       exact AllReadyIn.nil
      exact AllReadyIn.nil
     refine hK _ _ ?_
     clear hK K
     refine tkJ_ 7 rfl ?_
     refine tkU_ 8 rfl ?_
     refine tkU_ 9 rfl ?_
     refine tkU_ 10 rfl ?_
     refine tkU_ 11 rfl ?_
     refine tkU_ 12 rfl ?_
     refine tkU_ 13 rfl ?_
     refine tkU_ 14 rfl ?_
     refine tkU_ 15 rfl ?_
     refine tkU_ 16 rfl ?_
     refine wpAnyIn_ready (rs := [17]) (by kernel_rfl) (by simp) ?_
     refine AllReadyIn.cons rfl (fun K hK => ?_) ?_
     ·go_simp
      refine ⟨fun _ _ => trivial, ?_⟩
      refine hK _ _ ?_
      clear hK K
      refine tkJ_ 18 rfl ?_
      refine tkJ_ 19 rfl ?_
      refine tkU_ 20 rfl ?_
      refine tkU_ 21 rfl ?_
      refine tkU_ 22 rfl ?_
      refine tkU_ 23 rfl ?_
      refine tkU_ 24 rfl ?_
      refine wpAnyIn_ready (rs := [25]) (by kernel_rfl) (by simp) ?_
      refine AllReadyIn.cons rfl (fun K hK => ?_) ?_
      ·go_simp
       refine ⟨trivial, ?_⟩
       refine hK _ _ ?_
       clear hK K
       refine tkJ_ 26 rfl ?_
       refine tkJ_ 27 rfl ?_
       refine wpAnyIn_done (by kernel_rfl) ?_ _
       gi_wp2
       go_ret
       exact .inr ⟨rfl, q, hq.trans (List.prefix_append _ _), hx1⟩
      exact AllReadyIn.nil
     exact AllReadyIn.nil
    exact AllReadyIn.nil
   exact AllReadyIn.nil
  exact AllReadyIn.nil
end Go.Proofs.Ytljnlnbopohghaa.OrdSm
end
section
namespace Go.Proofs.Ytljnlnbopohghaa.OrdSm
open Go.RowKit Go.Shelf Go.Proofs.YtljnlnbopohghaaW.PrintWords Go.Proofs.YtljnlnbopohghaaW.PrintLast Go.Proofs.YtljnlnbopohghaaW.PrintMore Go.Proofs.Ytljnlnbopohghaa.Own Go.Proofs.Ytljnlnbopohghaa.Ord
attribute [local go_sem] Oper.semAt_some
set_option maxHeartbeats 2000000
set_option maxRecDepth 100000
def MpI (S : Nat → Prop) (W : World) : Option Addr → Kn ByteArray ByteArray → Prop
 | none, T => T = .nil
 | some a, T => S a.block ∧ W.cell? a = some (.pointer T.adr) ∧ In W T ∧ ∀ x ∈ T.bs, S x
theorem MpI.kee {S : Nat → Prop} {A B : World} (h : Kee S A B) : ∀ {p : Option Addr} {T : Kn ByteArray ByteArray}, MpI S A p T → MpI S B p T
 | none, _, hm => hm
 | some a, _, ⟨h1, h2, h3, h4⟩ => ⟨h1, (h.cell h1).trans h2, in_kee h h3 h4, h4⟩
theorem MpI.wide {S S' : Nat → Prop} {w : World} (hS : ∀ k, S k → S' k) : ∀ {p : Option Addr} {T : Kn ByteArray ByteArray}, MpI S w p T → MpI S' w p T
 | none, _, h => h
 | some _, _, ⟨h1, h2, h3, h4⟩ => ⟨hS _ h1, h2, h3, fun x hx => hS _ (h4 x hx)⟩
theorem cell_two_new (w : World) (x y : Value) (t : TypeId) : ∀ j u, [x, y][j]? = some u → (w.alloc (.cells #[x, y] t)).cell? ((⟨w.heap.size, 0, none⟩ : Addr).add j) = some u := by
 intro j u hj
 match j, hj with
 | 0, hj => simp at hj; subst hj; simp [Addr.add]
 | 1, hj => simp at hj; subst hj; simp [Addr.add]
 | _ + 2, hj => simp at hj
theorem from1_in (n : Nat) (l Bb Bk : Nat) (S : Nat → Prop) (p : Option Addr) (s : ByteArray) (T : Kn ByteArray ByteArray) (J Jx : List (ByteArray × ByteArray) → World → Prop) (hJd : ∀ pre W n, J pre W → J pre (W.drewN n))
  (hY : ∀ pre x W, J pre W → pre.length < (walkB s T).length → YieldAt Fence.wide (n - 1) Try.prog l #[.string x.1, .string x.2] W fun e W' =>
   (e = .returned (.bool true) ∧ J (pre ++ [x]) W' ∧ Kee S W W') ∨ (e = .returned (.bool false) ∧ Jx (pre ++ [x]) W'))
  (W : World) (hB : W.cell? ⟨Bb, 0, none⟩ = some (.pointer p)) (hk : W.cell? ⟨Bk, 0, none⟩ = some (.string s)) (hkS : S Bk) (hT : MpI S W p T) (h0 : J [] W) :
  CallsIn Fence.wide n Try.prog 99 #[.func (.yield l) #[] #[], .pointer (some ⟨Bb, 0, none⟩), .pointer (some ⟨Bk, 0, none⟩)] W fun e W' => (∃ v, e = .returned v) ∧
   ((∃ ys, ys = walkB s T ∧ J ys W') ∨ (∃ pre, pre <+: walkB s T ∧ Jx pre W')) := by
 have hdd : ∀ k : Nat, (Fence.wide.depth.isSome = true → 1 ≤ k) := fun k h => by cases h
 cases p with
 | none =>
  obtain rfl : T = .nil := hT
  refine callsIn_of_wp Try.func99 rfl trivial ?_ rfl
  simp only [Try.ntmps99, List.size_toArray, List.length_cons, List.length_nil, Nat.reduceAdd, Nat.reduceSub, Array.replicate_succ, Array.replicate_zero, List.push_toArray, List.append_toArray, List.nil_append, List.cons_append]
  gi_wp2
  go_end0
  exact ⟨⟨_, rfl⟩, .inl ⟨[], rfl, h0⟩⟩
 | some a =>
  obtain ⟨_, hc, hin, hS⟩ := hT
  have hp := walk_some l (walkB s T).length S J Jx hJd (fun m pre x W hj hl => YieldAt.anyDepth rfl m (hY pre x W hj hl)) ⟨Bk, 0, none⟩ s hkS T (n - 1) [] W hin hS hk h0 (by simp)
  clear hY hin hS hk
  refine callsIn_of_wp Try.func99 rfl trivial ?_ rfl
  simp only [Try.ntmps99, List.size_toArray, List.length_cons, List.length_nil, Nat.reduceAdd, Nat.reduceSub, Array.replicate_succ, Array.replicate_zero, List.push_toArray, List.append_toArray, List.nil_append, List.cons_append]
  gi_wp2_with (refine ⟨trivial, hdd _, hp.mono ?_⟩; clear hp; rintro e W1 (⟨rfl, hJ1, _⟩ | ⟨rfl, q, hq, hx⟩))
  ·go_end0
   exact ⟨⟨_, rfl⟩, .inl ⟨_, rfl, by simpa using hJ1⟩⟩
  go_end0
  exact ⟨⟨_, rfl⟩, .inr ⟨q, hq, by simpa using hx⟩⟩
theorem from_in (n : Nat) (p : Option Addr) (s : ByteArray) (w : World) :
  CallsIn Fence.wide n Try.prog 81 #[.pointer p, .string s] w fun e w' => e = .returned (.func (.func 99) #[] #[.pointer (some ⟨w.heap.size, 0, none⟩), .pointer (some ⟨w.heap.size + 1, 0, none⟩)]) ∧ ∃ t, w' = (w.alloc (.cells #[.pointer p] t)).alloc (.cells #[.string s] 9) := by
 refine callsIn_of_wp Try.func81 rfl trivial ?_ rfl
 simp only [Try.ntmps81, List.size_toArray, List.length_cons, List.length_nil, Nat.reduceAdd, Nat.reduceSub, Array.replicate_succ, Array.replicate_zero, List.push_toArray, List.append_toArray, List.nil_append, List.cons_append]
 gi_wp2
 go_ret
 exact ⟨rfl, _, rfl⟩
end Go.Proofs.Ytljnlnbopohghaa.OrdSm
end
section
namespace Go.Proofs.Ytljnlnbopohghaa.It
open Go Go.RowKit
structure FrM (M : Nat → Prop) (w w' : World) : Prop where
 os : w'.os = w.os
 tape : w'.tape = w.tape
 output : w'.output = w.output
 size : w.heap.size ≤ w'.heap.size
 block : ∀ k, k < w.heap.size → ¬ M k → w'.heap[k]? = w.heap[k]?
namespace FrM
variable {M M' : Nat → Prop} {w w1 w2 : World}
theorem refl (M : Nat → Prop) (w : World) : FrM M w w := ⟨rfl, rfl, rfl, Nat.le_refl _, fun _ _ _ => rfl⟩
theorem trans (h : FrM M w w1) (k : FrM M' w1 w2) (hM : ∀ i, M' i → M i ∨ w.heap.size ≤ i) : FrM M w w2 :=
 ⟨k.os.trans h.os, k.tape.trans h.tape, k.output.trans h.output, Nat.le_trans h.size k.size, fun i hi hn =>
  (k.block i (Nat.lt_of_lt_of_le hi h.size) (fun hc => by rcases hM i hc with q | q; exact hn q; omega)).trans (h.block i hi hn)⟩
theorem mono (h : FrM M w w1) (hM : ∀ i, M i → M' i ∨ w.heap.size ≤ i) : FrM M' w w1 :=
 ⟨h.os, h.tape, h.output, h.size, fun i hi hn => h.block i hi (fun hc => by rcases hM i hc with q | q; exact hn q; omega)⟩
theorem of_below (h : Below w.heap.size w w1) : FrM M w w1 := ⟨h.os, h.tape, h.output, h.size, fun k hk _ => h.block k hk⟩
theorem below (h : FrM M w w1) {base : Nat} (hM : ∀ k, M k → base ≤ k) (hb : base ≤ w.heap.size) : Below base w w1 :=
 ⟨h.os, h.tape, h.output, h.size, fun k hk => h.block k (by omega) (fun hm => by have := hM k hm; omega)⟩
theorem blk (h : FrM M w w1) {g : Nat} {o : Obj} (hg : w.heap[g]? = some o) (hn : ¬ M g) : w1.heap[g]? = some o := (h.block g (Array.getElem?_eq_some_iff.1 hg).1 hn).trans hg
theorem drewN (h : FrM M w w1) (n : Nat) : FrM M w (w1.drewN n) := ⟨h.os, h.tape, h.output, h.size, h.block⟩
theorem alloc (h : FrM M w w1) (o : Obj) : FrM M w (w1.alloc o) := h.trans (of_below (M := fun _ => False) ((Below.refl _ w1).alloc (Nat.le_refl _) o)) (fun _ q => q.elim)
theorem grown {row : Option Nat} (hg : w.grownBy w1 row) (hr : ∀ r, row = some r → M r ∨ w.heap.size ≤ r) : FrM M w w1 :=
 ⟨hg.os, hg.tape, hg.output, hg.size, fun k hk hn => hg.block k hk (fun e => by rcases hr k e.symm with q | q; exact hn q; omega)⟩
theorem putObj (w : World) (l : Nat) (o : Obj) (hl : M l) : FrM M w (w.putObj l o) :=
 ⟨rfl, rfl, rfl, by simp, fun k _ hn => World.putObj_heap_other (fun e => hn (by rw [e]; exact hl))⟩
end FrM
def Stab {β : Type} (B : Nat) (J : β → (Nat → Prop) → World → Prop) : Prop :=
 ∀ s M W W', J s M W → FrM (fun k => ¬ M k ∧ B ≤ k) W W' → J s M W'
theorem Stab.from {β : Type} {B B' : Nat} {J : β → (Nat → Prop) → World → Prop} (h : Stab B J) (hB : B ≤ B') : Stab B' J :=
 fun s M W W' hj hf => h s M W W' hj (hf.mono (fun i hi => .inl ⟨hi.1, Nat.le_trans hB hi.2⟩))
def Told {α : Type} (J Jx : List α → (Nat → Prop) → World → Prop) (pre : List α) (x : α) (M : Nat → Prop) (W : World) (e : Ending) (W' : World) : Prop :=
 ∃ M', (∀ k, M' k → (M k ∨ W.heap.size ≤ k) ∧ k < W'.heap.size) ∧ FrM M W W' ∧ ((e = .returned (.bool true) ∧ J (pre ++ [x]) M' W') ∨ (e = .returned (.bool false) ∧ Jx (pre ++ [x]) M' W'))
def Went {α : Type} (J Jx : List α → (Nat → Prop) → World → Prop) (R Rp : List α → Prop) (M : Nat → Prop) (W : World) (e : Ending) (W' : World) : Prop :=
 (∃ v, e = .returned v) ∧ ∃ M', (∀ k, M' k → (M k ∨ W.heap.size ≤ k) ∧ k < W'.heap.size) ∧ FrM M W W' ∧ ((∃ xs, R xs ∧ J xs M' W') ∨ (∃ pre, Rp pre ∧ Jx pre M' W'))
def Iter {α : Type} (F : Fence) (n : Nat) (P : Program) (g : Nat) (lb : Array Value) (encs : α → Array Value) (R Rp : List α → Prop) (N : Nat) (S : Nat → Prop) (w : World) : Prop :=
 ∀ (l : Nat) (J Jx : List α → (Nat → Prop) → World → Prop) (M : Nat → Prop) (W : World), FrM (fun k => ¬ S k) w W → (∀ k, S k → k < w.heap.size ∧ ¬ M k) → (∀ k, M k → k < W.heap.size) →
  Stab W.heap.size J → Stab W.heap.size Jx →
  (∀ pre x M1 W1, J pre M1 W1 → (∀ k, M1 k → (M k ∨ W.heap.size ≤ k) ∧ k < W1.heap.size) → FrM M W W1 → pre.length < N → YieldAt F (n - 1) P l (encs x) W1 (Told J Jx pre x M1 W1)) →
  J [] M W → CallsIn F n P g (#[.func (.yield l) #[] #[]] ++ lb) W (Went J Jx R Rp M W)
variable {F : Fence} {n : Nat} {P : Program}
def bodyP {α : Type} (I : List α → (Nat → Prop) → World → Prop) (Ix : Code → List α → (Nat → Prop) → World → Prop) (xs : List α) (M : Nat → Prop) (W : World) : Exit → Act → World → Prop
 | .normal, _, W' => ∃ M', (∀ k, M' k → (M k ∨ W.heap.size ≤ k) ∧ k < W'.heap.size) ∧ FrM M W W' ∧ I xs M' W'
 | .ret, _, W' => ∃ M', (∀ k, M' k → (M k ∨ W.heap.size ≤ k) ∧ k < W'.heap.size) ∧ FrM M W W' ∧ Ix .ret xs M' W'
 | .exit id, _, W' => ∃ M', (∀ k, M' k → (M k ∨ W.heap.size ≤ k) ∧ k < W'.heap.size) ∧ FrM M W W' ∧ Ix (.exit id) xs M' W'
 | .goto t, _, W' => ∃ M', (∀ k, M' k → (M k ∨ W.heap.size ≤ k) ∧ k < W'.heap.size) ∧ FrM M W W' ∧ Ix (.goto t) xs M' W'
 | .panic _, _, _ => False
 | .outgrown, _, _ => False
theorem range_iter {α : Type} {g : Operand} {ps : Array Tmp} {assign body : Code} {Q : Exit → Act → World → Prop} {a : Act} {w : World}
  (hro : F.round = none) (h1 : 1 ≤ n) {gf : Nat} {lb : Array Value} (hg : a.eval g = .func (.func gf) #[] lb) (hFg : F.fn gf) (eg : ∀ args w, (callFunc gf args).run P w = .ok (.enter gf args) w)
  {encs : α → Array Value} {R Rp : List α → Prop} {N : Nat} {S : Nat → Prop} {w0 : World} (hseq : Iter F (n - 1) P gf lb encs R Rp N S w0) (hw0 : FrM (fun k => ¬ S k) w0 w)
  (M : Nat → Prop) (hS : ∀ k, S k → k < w0.heap.size ∧ ¬ M k) (hM : ∀ k, M k → k < w.heap.size) (hps : ∀ x, (encs x).size = ps.size)
  (I : List α → (Nat → Prop) → World → Prop) (Ix : Code → List α → (Nat → Prop) → World → Prop) (hI : Stab w.heap.size I) (hIx : ∀ c, Stab w.heap.size (Ix c)) (h0 : I [] M w) (a₁ : α → Act)
  (hassign : ∀ (l : Nat) (x : α) (W : World) (K : Act → World → Prop), K (a₁ x) W →
   assign.wpIn (F.inRound l) (n - 1 - 1) P (Exit.then K (fun _ _ _ => False)) { tmps := (ps.zip (encs x)).foldl (fun t (p, v) => t.setIfInBounds p v) a.tmps, defers := [] } W)
  (hbody : ∀ (l : Nat) (pre : List α) (x : α) (M1 : Nat → Prop) (W : World), I pre M1 W → (∀ k, M1 k → (M k ∨ w.heap.size ≤ k) ∧ k < W.heap.size) → FrM M w W → pre.length < N →
   body.wpIn (F.inRound l) (n - 1 - 1) P (bodyP I Ix (pre ++ [x]) M1 W) (a₁ x) W)
  (hdone : ∀ (D : Nat) (xs : List α) (M1 : Nat → Prop) (W : World), w.heap.size ≤ D → D < W.heap.size → ¬ M1 D → (∀ k, M1 k → (M k ∨ w.heap.size ≤ k) ∧ k < W.heap.size) → FrM M w W → R xs → I xs M1 W → W.heap[D]? = some (.deferred (some [])) →
   Q .normal { a with defers := { target := .collected D, args := #[] } :: a.defers } W)
  (hstop : ∀ (D : Nat) (c : Code) (pre : List α) (M1 : Nat → Prop) (W : World), w.heap.size ≤ D → D < W.heap.size → ¬ M1 D → (∀ k, M1 k → (M k ∨ w.heap.size ≤ k) ∧ k < W.heap.size) → FrM M w W → Rp pre → Ix c pre M1 W → W.heap[D]? = some (.deferred (some [])) →
   c.wpIn F n P Q { a with defers := { target := .collected D, args := #[] } :: a.defers } W) :
  (Code.rangeFunc g ps assign body).wpIn F n P Q a w := by
 refine wpIn_rangeFunc ?_
 intro fn hfn
 rw [hro]
 obtain ⟨rec, hrec⟩ : ∃ rec : LoopState → Option Code → Loop, rec = fun st pe => { state := st, pending := pe, fn, tmps := a.tmps, params := ps, assign, body, defers := w.heap.size } := ⟨_, rfl⟩
 obtain ⟨W1, hW1⟩ : ∃ W1, (w.alloc (.deferred (some []))).alloc (.loop (rec .ready none)) = W1 := ⟨_, rfl⟩
 have hs1 : W1.heap.size = w.heap.size + 2 := by rw [← hW1]; simp
 have hL1 : W1.heap[w.heap.size + 1]? = some (.loop (rec .ready none)) := by
  rw [← hW1]; have := World.alloc_heap_new (w.alloc (.deferred (some []))) (.loop (rec .ready none)); rwa [World.size_alloc] at this
 have hK1 : W1.heap[w.heap.size]? = some (.deferred (some [])) := by
  rw [← hW1]; exact (Below.heap_alloc _ _ _ (by simp)).trans (World.alloc_heap_new w _)
 have hB1 : Below w.heap.size w W1 := by rw [← hW1]; exact ((Below.refl _ w).alloc (Nat.le_refl _) _).alloc (by simp) _
 have hI1 : I [] M W1 := hI _ _ _ _ h0 (.of_below hB1)
 obtain ⟨J, hJ⟩ : ∃ J : LoopState → Option Code → (List α → (Nat → Prop) → World → Prop) → List α → (Nat → Prop) → World → Prop,
   J = fun st pe I' pre Mx W => ∃ M1 : Nat → Prop, (∀ k, Mx k ↔ (M1 k ∨ k = w.heap.size ∨ k = w.heap.size + 1)) ∧ (∀ k, M1 k → (M k ∨ w.heap.size ≤ k) ∧ k < W.heap.size) ∧ ¬ M1 w.heap.size ∧ ¬ M1 (w.heap.size + 1) ∧ I' pre M1 W ∧
    W.heap[w.heap.size + 1]? = some (.loop (rec st pe)) ∧ W.heap[w.heap.size]? = some (.deferred (some [])) ∧ FrM M w W := ⟨_, rfl⟩
 have hJs : ∀ st pe I', Stab w.heap.size I' → Stab W1.heap.size (J st pe I') := by
  intro st pe I' hI' s Mx A B hs hf
  rw [hJ] at hs ⊢
  obtain ⟨M1, e, hb, hd, hl, hi, gl, gd, fr⟩ := hs
  have fl : ∀ k, k < A.heap.size → (k = w.heap.size ∨ k = w.heap.size + 1) → B.heap[k]? = A.heap[k]? := fun k hk hq => hf.block k hk (fun hc => hc.1 ((e k).2 (.inr hq)))
  refine ⟨M1, e, fun k hk => ⟨(hb k hk).1, Nat.lt_of_lt_of_le (hb k hk).2 hf.size⟩, hd, hl, hI' _ _ _ _ hi (hf.mono (fun i hi => .inl ⟨fun hm => hi.1 ((e i).2 (.inl hm)), by omega⟩)), (fl _ (Array.getElem?_eq_some_iff.1 gl).1 (.inr rfl)).trans gl, (fl _ (Array.getElem?_eq_some_iff.1 gd).1 (.inl rfl)).trans gd, ?_⟩
  exact fr.trans hf (fun i hi => .inr (by omega))
 refine ⟨w.heap.size + 1, [{ target := .collected w.heap.size, args := #[] }], W1, { target := .fn (.func gf) lb, args := #[.func (.yield (w.heap.size + 1)) #[] #[]] }, W1, gf,
  #[.func (.yield (w.heap.size + 1)) #[] #[]] ++ lb, W1, ?_, ?_, ?_, ?_, fun _ => h1, ?_⟩
 ·rw [← hW1, hrec]; exact run_enterLoop_outer _ _ _ _ _
 ·simp only [resolve, hg]
  simp [go_sem]
 ·intro f' hf'; simp [Target.leads] at hf'; subst hf'; exact hFg
 ·simp [invoke, go_sem, eg]
 refine (hseq (w.heap.size + 1) (J .ready none I) (fun pre Mx W => ∃ c, J .done (some c) (Ix c) pre Mx W) (fun k => M k ∨ k = w.heap.size ∨ k = w.heap.size + 1) W1 (hw0.trans (.of_below (M := fun _ => False) hB1) (fun i hi => hi.elim))
  (fun k hk => ⟨(hS k hk).1, ?_⟩) ?_ (hJs _ _ _ hI) ?_ ?_ ?_).mono ?_
 ·rintro (q | q | q)
  ·exact (hS k hk).2 q
  ·have := (hS k hk).1; have := hw0.size; omega
  have := (hS k hk).1; have := hw0.size; omega
 ·rintro k (q | q | q)
  ·have := hM k q; omega
  ·omega
  omega
 ·rintro s Mx A B ⟨c, hs⟩ hf
  exact ⟨c, hJs _ _ _ (hIx c) s Mx A B hs hf⟩
 ·-- a round
  intro pre x Mx W hs hb hfr hlen
  rw [hJ] at hs
  obtain ⟨M1, e, hb1, hd, hln, hi, gl, gd, fr⟩ := hs
  have hlt : w.heap.size + 1 < W.heap.size := (Array.getElem?_eq_some_iff.1 gl).1
  have hy := run_yield (P := P) (args := encs x) gl (by rw [hrec]; exact hps x)
  rw [hrec] at hy
  refine ⟨fn, _, assign, body, hy, roundIn_of_wpIn hfn (hassign _ x W _ ⟨_, run_beginRound gl (by rw [hrec]), ?_⟩)⟩
  obtain ⟨W2, hW2⟩ : ∃ W2, W.putObj (w.heap.size + 1) (.loop { rec .ready none with state := .busy }) = W2 := ⟨_, rfl⟩
  rw [hW2]
  have gl2 : W2.heap[w.heap.size + 1]? = some (.loop { rec .ready none with state := .busy }) := by rw [← hW2]; exact World.putObj_heap_same hlt
  have hs2 : W2.heap.size = W.heap.size := by rw [← hW2]; simp
  have f2 : FrM (fun k => k = w.heap.size + 1) W W2 := by rw [← hW2]; exact .putObj _ _ _ rfl
  have gd2 : W2.heap[w.heap.size]? = some (.deferred (some [])) := f2.blk gd (by omega)
  have hi2 : I pre M1 W2 := hI _ _ _ _ hi (f2.mono (fun i hi => .inl (by subst hi; exact ⟨hln, by omega⟩)))
  refine wpIn_mono (hbody _ pre x M1 W2 hi2 (fun k hk => by rw [hs2]; exact hb1 k hk) (fr.trans f2 (fun i hi => .inr (by omega))) hlen) ?_
  have fin : ∀ (jump : Option Code) (W3 : World) (M' : Nat → Prop) (I' : List α → (Nat → Prop) → World → Prop), Stab w.heap.size I' → (∀ k, M' k → (M1 k ∨ W2.heap.size ≤ k) ∧ k < W3.heap.size) → FrM M1 W2 W3 → I' (pre ++ [x]) M' W3 →
    ∃ Mx', (∀ k, Mx' k → (Mx k ∨ W.heap.size ≤ k) ∧ k < (W3.putObj (w.heap.size + 1) (.loop (rec (if jump.isNone then .ready else .done) jump))).heap.size) ∧
     FrM Mx W (W3.putObj (w.heap.size + 1) (.loop (rec (if jump.isNone then .ready else .done) jump))) ∧
     J (if jump.isNone then .ready else .done) jump I' (pre ++ [x]) Mx' (W3.putObj (w.heap.size + 1) (.loop (rec (if jump.isNone then .ready else .done) jump))) ∧
     (Instr.endRound (w.heap.size + 1) jump).run P W3 = .ok (.bool jump.isNone) (W3.putObj (w.heap.size + 1) (.loop (rec (if jump.isNone then .ready else .done) jump))) := by
   intro jump W3 M' I' hI' hM' f3 hi3
   have gl3 := f3.blk gl2 hln
   have gd3 := f3.blk gd2 hd
   have hlt3 := (Array.getElem?_eq_some_iff.1 gl3).1
   have hr := run_endRound (P := P) jump gl3
   rw [hrec] at hr
   obtain ⟨W4, hW4⟩ : ∃ W4, W3.putObj (w.heap.size + 1) (.loop (rec (if jump.isNone then .ready else .done) jump)) = W4 := ⟨_, rfl⟩
   have hr' : (Instr.endRound (w.heap.size + 1) jump).run P W3 = .ok (.bool jump.isNone) W4 := by rw [← hW4, hrec]; exact hr
   have gl4 : W4.heap[w.heap.size + 1]? = some (.loop (rec (if jump.isNone then .ready else .done) jump)) := by rw [← hW4]; exact World.putObj_heap_same hlt3
   have hs4 : W4.heap.size = W3.heap.size := by rw [← hW4]; simp
   have f4 : FrM (fun k => k = w.heap.size + 1) W3 W4 := by rw [← hW4]; exact .putObj _ _ _ rfl
   have nl : ∀ k, M' k → k ≠ w.heap.size ∧ k ≠ w.heap.size + 1 := fun k hk => by
    rcases (hM' k hk).1 with q | q
    ·exact ⟨fun e2 => hd (e2 ▸ q), fun e2 => hln (e2 ▸ q)⟩
    ·omega
   have fW : FrM Mx W W4 := by
    have a1 : FrM Mx W W2 := f2.mono (fun i hi => .inl ((e i).2 (.inr (.inr hi))))
    have a2 : FrM Mx W W3 := a1.trans f3 (fun i hi => .inl ((e i).2 (.inl hi)))
    exact a2.trans f4 (fun i hi => .inl ((e i).2 (.inr (.inr hi))))
   rw [hW4]
   refine ⟨fun k => M' k ∨ k = w.heap.size ∨ k = w.heap.size + 1, ?_, fW, ?_, hr'⟩
   ·rintro k (q | q | q)
    ·refine ⟨?_, by rw [hs4]; exact (hM' k q).2⟩
     rcases (hM' k q).1 with z | z
     ·exact .inl ((e k).2 (.inl z))
     ·exact .inr (by omega)
    ·exact ⟨.inl ((e k).2 (.inr (.inl q))), by omega⟩
    ·exact ⟨.inl ((e k).2 (.inr (.inr q))), by omega⟩
   ·rw [hJ]
    refine ⟨M', fun k => Iff.rfl, fun k hk => ⟨?_, by rw [hs4]; exact (hM' k hk).2⟩, fun h => (nl _ h).1 rfl, fun h => (nl _ h).2 rfl, hI' _ _ _ _ hi3 (f4.mono (fun i hi => .inl (by subst hi; exact ⟨fun h => (nl _ h).2 rfl, by omega⟩))), gl4, f4.blk gd3 (by omega), ?_⟩
    ·rcases (hM' k hk).1 with z | z
     ·exact (hb1 k z).1
     ·exact .inr (by omega)
    ·have b1 : FrM M w W2 := fr.trans f2 (fun i hi => .inr (by omega))
     have b2 : FrM M w W3 := b1.trans f3 (fun i hi => (hb1 i hi).1)
     exact b2.trans f4 (fun i hi => .inr (by omega))
  rintro ex a3 W3 hp
  cases ex with
  | normal =>
   obtain ⟨M', hM', f3, hi3⟩ := hp
   obtain ⟨Mx', q1, q2, q3, q4⟩ := fin none W3 M' I hI hM' f3 hi3
   exact ⟨_, _, q4, Mx', q1, q2, .inl ⟨rfl, q3⟩⟩
  | ret =>
   obtain ⟨M', hM', f3, hi3⟩ := hp
   obtain ⟨Mx', q1, q2, q3, q4⟩ := fin (some .ret) W3 M' (Ix .ret) (hIx _) hM' f3 hi3
   exact ⟨_, _, q4, Mx', q1, q2, .inr ⟨rfl, .ret, q3⟩⟩
  | exit id =>
   obtain ⟨M', hM', f3, hi3⟩ := hp
   obtain ⟨Mx', q1, q2, q3, q4⟩ := fin (some (.exit id)) W3 M' (Ix (.exit id)) (hIx _) hM' f3 hi3
   exact ⟨_, _, q4, Mx', q1, q2, .inr ⟨rfl, .exit id, q3⟩⟩
  | goto t =>
   obtain ⟨M', hM', f3, hi3⟩ := hp
   obtain ⟨Mx', q1, q2, q3, q4⟩ := fin (some (.goto t)) W3 M' (Ix (.goto t)) (hIx _) hM' f3 hi3
   exact ⟨_, _, q4, Mx', q1, q2, .inr ⟨rfl, .goto t, q3⟩⟩
  | panic ch => exact hp.elim
  | outgrown => exact hp.elim
 ·rw [hJ]
  exact ⟨M, fun k => Iff.rfl, fun k hk => ⟨.inl hk, by have := hM k hk; omega⟩, fun h => by have := hM _ h; omega, fun h => by have := hM _ h; omega, hI1, hL1, hK1, .of_below hB1⟩
 -- behind the iterator
 rintro e W2 ⟨⟨v, rfl⟩, Mx, hMx, f2, hq⟩
 rw [hJ] at hq
 have key : ∀ (st : LoopState) (pe : Option Code) (I' : List α → (Nat → Prop) → World → Prop) (xs : List α) (M1 : Nat → Prop), Stab w.heap.size I' → (∀ k, M1 k → (M k ∨ w.heap.size ≤ k) ∧ k < W2.heap.size) → ¬ M1 w.heap.size → ¬ M1 (w.heap.size + 1) → I' xs M1 W2 →
   W2.heap[w.heap.size + 1]? = some (.loop (rec st pe)) → W2.heap[w.heap.size]? = some (.deferred (some [])) → FrM M w W2 → st ≠ .busy → ∃ W3, (Instr.endLoop (w.heap.size + 1)).run P W2 = .ok pe W3 ∧ w.heap.size < W3.heap.size ∧ (∀ k, M1 k → (M k ∨ w.heap.size ≤ k) ∧ k < W3.heap.size) ∧ FrM M w W3 ∧ I' xs M1 W3 ∧ W3.heap[w.heap.size]? = some (.deferred (some [])) := by
  intro st pe I' xs M1 hI' hb hd hl hi gl gd fr hst
  have hr := run_endLoop (P := P) gl (by rw [hrec]; exact hst)
  rw [hrec] at hr
  refine ⟨_, hr, ?_⟩
  generalize Obj.loop _ = o
  have f4 : FrM (fun k => k = w.heap.size + 1) W2 (W2.putObj (w.heap.size + 1) o) := .putObj _ _ _ rfl
  have hlt := (Array.getElem?_eq_some_iff.1 gl).1
  refine ⟨by simp; omega, fun k hk => ⟨(hb k hk).1, by have := (hb k hk).2; simpa using this⟩, fr.trans f4 (fun i hi => .inr (by omega)), hI' _ _ _ _ hi (f4.mono (fun i hi => .inl (by subst hi; exact ⟨hl, by omega⟩))), f4.blk gd (by omega)⟩
 rcases hq with ⟨xs, hR, M1, e1, hb, hd, hl, hi, gl, gd, fr⟩ | ⟨pre, hRp, c, M1, e1, hb, hd, hl, hi, gl, gd, fr⟩
 ·obtain ⟨W3, k1, k2, k3, k4, k5, k6⟩ := key _ _ _ _ _ hI hb hd hl hi gl gd fr (by simp)
  exact ⟨none, W3, k1, hdone _ xs M1 W3 (Nat.le_refl _) k2 hd k3 k4 hR k5 k6⟩
 obtain ⟨W3, k1, k2, k3, k4, k5, k6⟩ := key _ _ _ _ _ (hIx c) hb hd hl hi gl gd fr (by simp)
 exact ⟨some c, W3, k1, hstop _ c pre M1 W3 (Nat.le_refl _) k2 hd k3 k4 hRp k5 k6⟩
end Go.Proofs.Ytljnlnbopohghaa.It
end
section
namespace Go.Proofs.Ytljnlnbopohghaa.OrdSm
open Go.RowKit Go.Shelf Go.Proofs.YtljnlnbopohghaaW.PrintWords Go.Proofs.YtljnlnbopohghaaW.PrintLast Go.Proofs.YtljnlnbopohghaaW.PrintMore Go.Proofs.Ytljnlnbopohghaa.Own Go.Proofs.Ytljnlnbopohghaa.Ord
theorem iter_of {α : Type} {g : Nat} {lb : Array Value} {encs : α → Array Value} {R Rp : List α → Prop} {N n : Nat} {S : Nat → Prop} {w : World} (hS : ∀ k, S k → k < w.heap.size)
  (h : ∀ (l : Nat) (J Jx : List α → World → Prop) (W : World), (∀ pre W n, J pre W → J pre (W.drewN n)) → (∀ k, S k → W.heap[k]? = w.heap[k]?) → w.heap.size ≤ W.heap.size →
   (∀ pre x W1, J pre W1 → pre.length < N → YieldAt Fence.wide (n - 1) Try.prog l (encs x) W1 fun e W' => (e = .returned (.bool true) ∧ J (pre ++ [x]) W' ∧ Kee S W1 W') ∨ (e = .returned (.bool false) ∧ Jx (pre ++ [x]) W')) → J [] W →
   CallsIn Fence.wide n Try.prog g (#[.func (.yield l) #[] #[]] ++ lb) W fun e W' => (∃ v, e = .returned v) ∧ ((∃ ys, R ys ∧ J ys W') ∨ (∃ pre, Rp pre ∧ Jx pre W'))) :
  It.Iter Fence.wide n Try.prog g lb encs R Rp N S w := by
 intro l J Jx M W hWf hSW hM hJ hJx hY h0
 refine (h l (fun pre W1 => ∃ M1, J pre M1 W1 ∧ (∀ k, M1 k → (M k ∨ W.heap.size ≤ k) ∧ k < W1.heap.size) ∧ It.FrM M W W1) (fun pre W1 => ∃ M1, Jx pre M1 W1 ∧ (∀ k, M1 k → (M k ∨ W.heap.size ≤ k) ∧ k < W1.heap.size) ∧ It.FrM M W W1) W ?_ (fun k hk => hWf.block k (hS k hk) (fun q => q hk)) hWf.size ?_ ⟨M, h0, fun k hk => ⟨.inl hk, hM k hk⟩, It.FrM.refl _ _⟩).mono ?_
 ·rintro pre W1 m ⟨M1, a, b, c⟩
  exact ⟨M1, hJ _ _ _ _ a ((It.FrM.refl _ _).drewN m), b, c.drewN m⟩
 ·rintro pre x W1 ⟨M1, a, b, c⟩ hlen
  refine YieldAt.mono (hY pre x M1 W1 a b c hlen) ?_
  rintro e W' ⟨M', b', f', q⟩
  have bb : ∀ k, M' k → (M k ∨ W.heap.size ≤ k) ∧ k < W'.heap.size := fun k hk => ⟨by
   rcases (b' k hk).1 with z | z
   ·exact (b k z).1
   have := c.size; exact .inr (by omega), (b' k hk).2⟩
  have ff : It.FrM M W W' := c.trans f' (fun i hi => (b i hi).1)
  rcases q with ⟨rfl, hj⟩ | ⟨rfl, hj⟩
  ·refine .inl ⟨rfl, ⟨M', hj, bb, ff⟩, ⟨f'.size, fun k hk => f'.block k (by have := hS k hk; have := c.size; have := hWf.size; omega) (fun hm => ?_)⟩⟩
   rcases (b k hm).1 with z | z
   ·exact (hSW k hk).2 z
   have := hS k hk; have := hWf.size; omega
  exact .inr ⟨rfl, M', hj, bb, ff⟩
 rintro e W' ⟨hv, ⟨ys, hR, M', hj, b, f⟩ | ⟨pre, hR, M', hj, b, f⟩⟩
 ·exact ⟨hv, M', b, f, .inl ⟨ys, hR, hj⟩⟩
 exact ⟨hv, M', b, f, .inr ⟨pre, hR, hj⟩⟩
theorem cell_of_blk {w W : World} {a : Addr} {v : Value} (h : w.cell? a = some v) (e : W.heap[a.block]? = w.heap[a.block]?) : W.cell? a = some v := (World.cell?_of_block e).trans h
theorem from_iter (n Bb Bk : Nat) (S : Nat → Prop) (p : Option Addr) (s : ByteArray) (T : Kn ByteArray ByteArray) (w : World) (hS : ∀ k, S k → k < w.heap.size) (hBb : S Bb) (hc : w.cell? ⟨Bb, 0, none⟩ = some (.pointer p)) (hk : w.cell? ⟨Bk, 0, none⟩ = some (.string s)) (hkS : S Bk) (hT : MpI S w p T) :
  It.Iter Fence.wide n Try.prog 99 #[.pointer (some ⟨Bb, 0, none⟩), .pointer (some ⟨Bk, 0, none⟩)] (fun x : ByteArray × ByteArray => #[.string x.1, .string x.2]) (fun ys => ys = walkB s T) (fun pre => pre <+: walkB s T) (walkB s T).length S w :=
 iter_of hS (fun l J Jx W hJd hSW hsz hY h0 => from1_in n l Bb Bk S p s T J Jx hJd hY W (cell_of_blk hc (hSW Bb hBb)) (cell_of_blk hk (hSW Bk hkS)) hkS (hT.kee ⟨hsz, hSW⟩) h0)
end Go.Proofs.Ytljnlnbopohghaa.OrdSm
end
section
namespace Go.Proofs.Ytljnlnbopohghaa.Ord
namespace Kn
variable {K V : Type}
end Kn
structure Lin {K : Type} (lt : K → K → Bool) : Prop where
 irr : ∀ a, lt a a = false
 tr : ∀ {a b c}, lt a b = true → lt b c = true → lt a c = true
 tri : ∀ {a b}, lt a b = false → lt b a = false → a = b
theorem Lin.asym {K : Type} {lt : K → K → Bool} (L : Lin lt) {a b : K} (h : lt a b = true) : lt b a = false := by
 cases k : lt b a with
 | false => rfl
 | true => have := L.tr h k; rw [L.irr] at this; cases this
variable {K V : Type} {lt : K → K → Bool}
abbrev Rise (lt : K → K → Bool) (l : List (K × V)) : Prop := l.Pairwise (fun x y => lt x.1 y.1 = true)
def ins (lt : K → K → Bool) (key : K) (val : V) (l : List (K × V)) : List (K × V) := l.filter (fun x => lt x.1 key) ++ (key, val) :: l.filter (fun x => lt key x.1)
def del (lt : K → K → Bool) (key : K) (l : List (K × V)) : List (K × V) := l.filter (fun x => lt x.1 key || lt key x.1)
def lookK (lt : K → K → Bool) (key : K) (l : List (K × V)) : Option V := (l.find? (fun x => !lt x.1 key && !lt key x.1)).map (·.2)
theorem fil_all {p : K × V → Bool} {l : List (K × V)} (h : ∀ x ∈ l, p x = true) : l.filter p = l := List.filter_eq_self.2 h
theorem fil_none {p : K × V → Bool} {l : List (K × V)} (h : ∀ x ∈ l, p x = false) : l.filter p = [] := List.filter_eq_nil_iff.2 (fun x hx => by rw [h x hx]; simp)
theorem rise_node {b : Nat} {k : K} {v : V} {l r : Kn K V} (h : Rise lt (Kn.node b k v l r).toL) :
  Rise lt l.toL ∧ Rise lt r.toL ∧ (∀ x ∈ l.toL, lt x.1 k = true) ∧ (∀ x ∈ r.toL, lt k x.1 = true) := by
 simp only [Rise, Kn.toL, List.pairwise_append, List.pairwise_cons] at h
 obtain ⟨h1, ⟨h2, h3⟩, h4⟩ := h
 exact ⟨h1, h3, fun x hx => h4 x hx (k, v) (by simp), h2⟩
theorem put_toL (L : Lin lt) (nb : Nat) (key : K) (val : V) : ∀ T : Kn K V, Rise lt T.toL → (Kn.put lt nb key val T).toL = ins lt key val T.toL
 | .nil, _ => by simp [Kn.put, Kn.toL, ins]
 | .node b k v l r, h => by
  obtain ⟨hl, hr, h1, h2⟩ := rise_node h
  unfold Kn.put
  by_cases hA : lt key k = true
  ·rw [if_pos hA, Kn.even_toL, put_toL L nb key val l hl]
   have e1 : r.toL.filter (fun x => lt x.1 key) = [] := fil_none fun x hx => L.asym (L.tr hA (h2 x hx))
   have e2 : r.toL.filter (fun x => lt key x.1) = r.toL := fil_all fun x hx => L.tr hA (h2 x hx)
   simp only [ins, Kn.toL, List.filter_append, List.filter_cons, e1, e2, hA, L.asym hA]
   simp
  rw [if_neg hA]
  have hA' : lt key k = false := by simpa using hA
  by_cases hB : lt k key = true
  ·rw [if_pos hB, Kn.even_toL, put_toL L nb key val r hr]
   have e1 : l.toL.filter (fun x => lt x.1 key) = l.toL := fil_all fun x hx => L.tr (h1 x hx) hB
   have e2 : l.toL.filter (fun x => lt key x.1) = [] := fil_none fun x hx => L.asym (L.tr (h1 x hx) hB)
   simp only [ins, Kn.toL, List.filter_append, List.filter_cons, e1, e2, hB, L.asym hB]
   simp
  rw [if_neg hB]
  have hB' : lt k key = false := by simpa using hB
  obtain rfl := L.tri hA' hB'
  have e1 : l.toL.filter (fun x => lt x.1 key) = l.toL := fil_all fun x hx => h1 x hx
  have e2 : l.toL.filter (fun x => lt key x.1) = [] := fil_none fun x hx => L.asym (h1 x hx)
  have e3 : r.toL.filter (fun x => lt x.1 key) = [] := fil_none fun x hx => L.asym (h2 x hx)
  have e4 : r.toL.filter (fun x => lt key x.1) = r.toL := fil_all fun x hx => h2 x hx
  simp only [ins, Kn.toL, List.filter_append, List.filter_cons, e1, e2, e3, e4, L.irr]
  simp
theorem least_toL : ∀ (b : Nat) (k : K) (v : V) (l r : Kn K V), (Kn.node b k v l r).toL = ((Kn.least b k v l r).2.2.1, (Kn.least b k v l r).2.2.2.1) :: (Kn.least b k v l r).1.toL
 | b, k, v, .nil, r => rfl
 | b, k, v, .node lb lk lv ll lr, r => by
  simp only [Kn.least, Kn.even_toL]
  rw [Kn.toL, least_toL lb lk lv ll lr]
  rfl
theorem drop_toL (L : Lin lt) (key : K) : ∀ T : Kn K V, Rise lt T.toL → (Kn.drop lt key T).toL = del lt key T.toL
 | .nil, _ => by simp [Kn.drop, Kn.toL, del]
 | .node b k v l r, h => by
  obtain ⟨hl, hr, h1, h2⟩ := rise_node h
  unfold Kn.drop
  by_cases hA : lt key k = true
  ·rw [if_pos hA, Kn.even_toL, drop_toL L key l hl]
   have e2 : r.toL.filter (fun x => lt x.1 key || lt key x.1) = r.toL := fil_all fun x hx => by rw [L.tr hA (h2 x hx)]; simp
   simp only [del, Kn.toL, List.filter_append, List.filter_cons, e2, hA]
   simp
  rw [if_neg hA]
  have hA' : lt key k = false := by simpa using hA
  by_cases hB : lt k key = true
  ·rw [if_pos hB, Kn.even_toL, drop_toL L key r hr]
   have e1 : l.toL.filter (fun x => lt x.1 key || lt key x.1) = l.toL := fil_all fun x hx => by rw [L.tr (h1 x hx) hB]; simp
   simp only [del, Kn.toL, List.filter_append, List.filter_cons, e1, hB]
   simp
  rw [if_neg hB]
  have hB' : lt k key = false := by simpa using hB
  obtain rfl := L.tri hA' hB'
  have e1 : l.toL.filter (fun x => lt x.1 key || lt key x.1) = l.toL := fil_all fun x hx => by rw [h1 x hx]; simp
  have e2 : r.toL.filter (fun x => lt x.1 key || lt key x.1) = r.toL := fil_all fun x hx => by rw [h2 x hx]; simp
  cases r with
  | nil =>
   simp only [del, Kn.toL, List.filter_append, List.filter_cons, e1, L.irr]
   simp
  | node rb rk rv rl rr =>
   simp only [Kn.even_toL, ← least_toL]
   rw [show (Kn.node b key v l (Kn.node rb rk rv rl rr)).toL = l.toL ++ (key, v) :: (Kn.node rb rk rv rl rr).toL from rfl]
   simp only [del, List.filter_append, List.filter_cons, e1, e2, L.irr]
   simp
theorem find_look (L : Lin lt) (key : K) : ∀ T : Kn K V, Rise lt T.toL → (match Kn.find lt key T with | .nil => none | .node _ _ v _ _ => some v) = lookK lt key T.toL
 | .nil, _ => rfl
 | .node b k v l r, h => by
  obtain ⟨hl, hr, h1, h2⟩ := rise_node h
  unfold Kn.find
  by_cases hA : lt key k = true
  ·rw [if_pos hA, find_look L key l hl]
   have e2 : r.toL.find? (fun x => !lt x.1 key && !lt key x.1) = none := by
    rw [List.find?_eq_none]; intro x hx; rw [L.tr hA (h2 x hx)]; simp
   simp only [lookK, Kn.toL, List.find?_append, List.find?_cons, hA, e2]
   simp
  rw [if_neg hA]
  have hA' : lt key k = false := by simpa using hA
  by_cases hB : lt k key = true
  ·rw [if_pos hB, find_look L key r hr]
   have e1 : l.toL.find? (fun x => !lt x.1 key && !lt key x.1) = none := by
    rw [List.find?_eq_none]; intro x hx; rw [L.tr (h1 x hx) hB]; simp
   simp only [lookK, Kn.toL, List.find?_append, List.find?_cons, hB, e1]
   simp
  rw [if_neg hB]
  have hB' : lt k key = false := by simpa using hB
  obtain rfl := L.tri hA' hB'
  have e1 : l.toL.find? (fun x => !lt x.1 key && !lt key x.1) = none := by
   rw [List.find?_eq_none]; intro x hx; rw [h1 x hx]; simp
  simp only [lookK, Kn.toL, List.find?_append, List.find?_cons, e1, L.irr]
  simp
theorem ins_rise (L : Lin lt) (key : K) (val : V) {l : List (K × V)} (h : Rise lt l) : Rise lt (ins lt key val l) := by
 simp only [Rise, ins, List.pairwise_append, List.pairwise_cons, List.mem_filter, List.mem_cons]
 refine ⟨h.filter _, ⟨fun x hx => hx.2, h.filter _⟩, ?_⟩
 rintro x ⟨_, hx⟩ y (rfl | ⟨_, hy⟩)
 ·exact hx
 exact L.tr hx hy
theorem del_rise (key : K) {l : List (K × V)} (h : Rise lt l) : Rise lt (del lt key l) := h.filter _
end Go.Proofs.Ytljnlnbopohghaa.Ord
end
section
namespace Go.Proofs.Ytljnlnbopohghaa.OrdSm
open Go.RowKit Go.Shelf Go.Proofs.YtljnlnbopohghaaW.PrintWords Go.Proofs.YtljnlnbopohghaaW.PrintLast Go.Proofs.YtljnlnbopohghaaW.PrintMore Go.Proofs.Ytljnlnbopohghaa.Own Go.Proofs.Ytljnlnbopohghaa.Ord
theorem ba_ext {a b : ByteArray} (h : a.toList = b.toList) : a = b := by
 cases a; cases b
 rw [Lib.toList_data, Lib.toList_data] at h
 congr 1
 exact Array.toList_inj.1 h
theorem lin : Lin (K := ByteArray) lt := ⟨fun a => Bo.irrefl _, fun h k => Bo.trans h k, fun h k => ba_ext (Bo.tri h k)⟩
theorem walkA_toL : ∀ T : Kn ByteArray ByteArray, walkA T = T.toL
 | .nil => rfl
 | .node _ _ _ l r => by rw [walkA, Kn.toL, walkA_toL l, walkA_toL r]
theorem walkB_toL (s : ByteArray) : ∀ T : Kn ByteArray ByteArray, Rise lt T.toL → walkB s T = T.toL.filter (fun x => !lt x.1 s)
 | .nil, _ => rfl
 | .node b k v l r, h => by
  obtain ⟨hl, hr, h1, h2⟩ := rise_node h
  unfold walkB
  by_cases hA : lt k s = true
  ·rw [if_pos hA, walkB_toL s r hr]
   have e1 : l.toL.filter (fun x => !lt x.1 s) = [] := fil_none fun x hx => by rw [lin.tr (h1 x hx) hA]; rfl
   simp only [Kn.toL, List.filter_append, List.filter_cons, e1, hA]
   simp
  rw [if_neg hA, walkB_toL s l hl, walkA_toL]
  have hA' : lt k s = false := by simpa using hA
  have e2 : r.toL.filter (fun x => !lt x.1 s) = r.toL := fil_all fun x hx => by
   cases q : lt x.1 s with
   | false => rfl
   | true => rw [lin.tr (h2 x hx) q] at hA'; cases hA'
  simp only [Kn.toL, List.filter_append, List.filter_cons, e2, hA']
  simp
theorem got_look (key : ByteArray) (T : Kn ByteArray ByteArray) (h : Rise lt T.toL) : got key T = match lookK lt key T.toL with | some v => (v, true) | none => (ByteArray.empty, false) := by
 rw [← find_look lin key T h]
 unfold got
 cases Kn.find lt key T <;> rfl
def Hold (U : Nat → Prop) (w : World) (m : Nat) (L : List (ByteArray × ByteArray)) : Prop := ∃ T, Mp w m T ∧ T.toL = L ∧ Rise lt L ∧ ∀ x ∈ m :: T.bs, U x
theorem Hold.mono {U U' : Nat → Prop} {w : World} {m : Nat} {L : List (ByteArray × ByteArray)} (h : Hold U w m L) (hU : ∀ k, U k → U' k) : Hold U' w m L := by
 obtain ⟨T, h1, h2, h3, h4⟩ := h
 exact ⟨T, h1, h2, h3, fun x hx => hU x (h4 x hx)⟩
theorem Hold.rise {U : Nat → Prop} {w : World} {m : Nat} {L : List (ByteArray × ByteArray)} (h : Hold U w m L) : Rise lt L := by obtain ⟨T, h1, h2, h3, h4⟩ := h; exact h3
theorem Hold.bound {U : Nat → Prop} {w : World} {m : Nat} {L : List (ByteArray × ByteArray)} (h : Hold U w m L) : Hold (fun k => U k ∧ k < w.heap.size) w m L := by
 obtain ⟨T, h1, h2, h3, h4⟩ := h
 refine ⟨T, h1, h2, h3, fun x hx => ⟨h4 x hx, ?_⟩⟩
 rcases List.mem_cons.1 hx with rfl | hx
 ·exact blk_lt h1.blk
 exact in_lt h1.inn x hx
theorem Hold.frm {U : Nat → Prop} {w w' : World} {m : Nat} {L : List (ByteArray × ByteArray)} (h : Hold U w m L) {M : Nat → Prop} (f : It.FrM M w w') (hM : ∀ k, U k → k < w.heap.size → ¬ M k) : Hold U w' m L := by
 obtain ⟨T, hT, h2, h3, h4⟩ := h
 have f' : Fr ((List.range w.heap.size).filter (fun k => decide (k ∉ m :: T.bs))) w w' := ⟨f.os, f.tape, f.output, f.size, fun k hk hn => f.block k hk (hM k (by
  refine h4 k ?_
  by_cases q : k ∈ m :: T.bs
  ·exact q
  exact absurd (List.mem_filter.2 ⟨List.mem_range.2 hk, by simpa using q⟩) hn) hk)⟩
 refine ⟨T, hT.fr f' (fun hm => ?_) (fun x hx hm => ?_), h2, h3, h4⟩
 ·have := (List.mem_filter.1 hm).2
  simp at this
 have := (List.mem_filter.1 hm).2
 simp only [decide_eq_true_eq] at this
 exact this (List.mem_cons_of_mem _ hx)
theorem Hold.below {U : Nat → Prop} {w w' : World} {m : Nat} {L : List (ByteArray × ByteArray)} (h : Hold U w m L) (b : Below w.heap.size w w') : Hold U w' m L :=
 h.frm (It.FrM.of_below (M := fun _ => False) b) (fun _ _ _ q => q)
theorem Hold.putObj {U : Nat → Prop} {w : World} {m : Nat} {L : List (ByteArray × ByteArray)} (h : Hold U w m L) {D : Nat} {o : Obj} (o' : Obj) (hD : w.heap[D]? = some o) (ho : o.isCells = false) : Hold U (w.putObj D o') m L := by
 obtain ⟨T, hM, h2, h3, h4⟩ := h
 refine ⟨T, hM.fr (B := [D]) ⟨rfl, rfl, rfl, by simp, fun k _ hn => World.putObj_heap_other (by simp at hn; omega)⟩ (fun hm => ?_) (fun x hx hm => ?_), h2, h3, h4⟩
 ·obtain rfl : m = D := by simpa using hm
  rw [hM.blk] at hD; cases hD; cases ho
 obtain rfl : x = D := by simpa using hm
 obtain ⟨cells, hc⟩ := in_typed hM.inn x hx
 rw [hc] at hD; cases hD; cases ho
theorem frm_of_fr {B : List Nat} {U : Nat → Prop} {w w' : World} (f : Fr B w w') (hB : ∀ k ∈ B, U k) : It.FrM U w w' := ⟨f.os, f.tape, f.output, f.size, fun k hk hn => f.block k hk (fun hm => hn (hB k hm))⟩
theorem hold_new (w : World) : Calls Try.prog 68 #[] w fun e w' => ∃ m, e = .returned (.pointer (some ⟨m, 0, none⟩)) ∧ Hold (fun k => w.heap.size ≤ k) w' m [] ∧ Below w.heap.size w w' :=
 (new_any w).mono (by
  rintro e w' ⟨m, hm, rfl, hM, fr⟩
  exact ⟨m, rfl, ⟨.nil, hM, rfl, List.Pairwise.nil, by simp [Kn.bs]; exact hm⟩, fr.below (by simp) (Nat.le_refl _)⟩)
theorem hold_put {U : Nat → Prop} {w : World} {m : Nat} {L : List (ByteArray × ByteArray)} (h : Hold U w m L) (hU : ∀ k, w.heap.size ≤ k → U k) (hl : L.length < 1000000) (k : ByteArray) (v : ByteArray) :
  Calls Try.prog 90 #[.pointer (some ⟨m, 0, none⟩), .string k, .string v] w fun e w' => (∃ b, e = .returned (.bool b)) ∧ Hold U w' m (ins lt k v L) ∧ It.FrM U w w' := by
 obtain ⟨T, hM, rfl, hr, hB⟩ := h
 have hc := Kn.cnt_len T
 refine (mput_any k v hM (by omega)).mono ?_
 rintro e w' ⟨nb, hnb, rfl, hM', fr⟩
 have ht := put_toL lin nb k v T hr
 refine ⟨⟨_, rfl⟩, ⟨_, hM', ht, ins_rise lin k v hr, fun x hx => ?_⟩, frm_of_fr fr hB⟩
 rcases List.mem_cons.1 hx with rfl | hx
 ·exact hB _ List.mem_cons_self
 rcases Kn.put_mem hx with e | e
 ·exact hU _ (by omega)
 exact hB _ (List.mem_cons_of_mem _ e)
theorem hold_len {U : Nat → Prop} {w : World} {m : Nat} {L : List (ByteArray × ByteArray)} (h : Hold U w m L) :
  Calls Try.prog 54 #[.pointer (some ⟨m, 0, none⟩)] w fun e w' => e = .returned (.int .i64 L.length) ∧ w' = w := by
 obtain ⟨T, hM, rfl, hr, hB⟩ := h
 have := len_any hM
 rw [Kn.cnt_len] at this
 exact this
theorem hold_get {U : Nat → Prop} {w : World} {m : Nat} {L : List (ByteArray × ByteArray)} (h : Hold U w m L) (k : ByteArray) :
  Calls Try.prog 56 #[.pointer (some ⟨m, 0, none⟩), .string k] w fun e w' => e = .returned (.tuple #[.string ((lookK lt k L).getD (ByteArray.empty)), .bool (lookK lt k L).isSome]) ∧ w' = w := by
 obtain ⟨T, hM, rfl, hr, hB⟩ := h
 have := get_any k hM
 rw [got_look k T hr] at this
 cases hq : lookK lt k T.toL with
 | none => rw [hq] at this; exact this
 | some v => rw [hq] at this; exact this
theorem hold_drop {U : Nat → Prop} {w : World} {m : Nat} {L : List (ByteArray × ByteArray)} (h : Hold U w m L) (hl : L.length < 1000000) (k : ByteArray) :
  Calls Try.prog 88 #[.pointer (some ⟨m, 0, none⟩), .string k] w fun e w' => (∃ b, e = .returned (.bool b)) ∧ Hold U w' m (del lt k L) ∧ It.FrM U w w' := by
 obtain ⟨T, hM, rfl, hr, hB⟩ := h
 have hc := Kn.cnt_len T
 refine (mdrop_any k hM (by omega)).mono ?_
 rintro e w' ⟨rfl, hM', fr⟩
 have ht := drop_toL lin k T hr
 refine ⟨⟨_, rfl⟩, ⟨_, hM', ht, del_rise k hr, fun x hx => ?_⟩, frm_of_fr fr hB⟩
 rcases List.mem_cons.1 hx with rfl | hx
 ·exact hB _ List.mem_cons_self
 exact hB _ (List.mem_cons_of_mem _ (Kn.drop_mem hx))
theorem hold_from_iter (n Bb Bk : Nat) {U : Nat → Prop} {w0 w : World} {m : Nat} {L : List (ByteArray × ByteArray)} (h : Hold U w0 m L) (hw : Below w0.heap.size w0 w) (s : ByteArray) (hBb : Bb < w.heap.size) (hBk : Bk < w.heap.size) (hc : w.cell? ⟨Bb, 0, none⟩ = some (.pointer (some ⟨m, 0, none⟩))) (hk : w.cell? ⟨Bk, 0, none⟩ = some (.string s)) :
  ∃ S : Nat → Prop, (∀ k, S k → (k = Bb ∨ k = Bk ∨ (U k ∧ k < w0.heap.size)) ∧ k < w.heap.size) ∧ It.Iter Fence.wide n Try.prog 99 #[.pointer (some ⟨Bb, 0, none⟩), .pointer (some ⟨Bk, 0, none⟩)] (fun x : ByteArray × ByteArray => #[.string x.1, .string x.2]) (fun ys => ys = L.filter (fun x => !lt x.1 s)) (fun pre => pre <+: L.filter (fun x => !lt x.1 s)) (L.filter (fun x => !lt x.1 s)).length S w := by
 obtain ⟨T, hM, rfl, hr, hB⟩ := h
 have hlt := in_lt hM.inn
 have hml := blk_lt hM.blk
 have hM' := hM.below hw
 have hsz := hw.size
 have hS : ∀ k, (k = Bb ∨ k = Bk ∨ k ∈ m :: T.bs) → (k = Bb ∨ k = Bk ∨ (U k ∧ k < w0.heap.size)) ∧ k < w.heap.size := by
  rintro k (rfl | rfl | hk)
  ·exact ⟨.inl rfl, hBb⟩
  ·exact ⟨.inr (.inl rfl), hBk⟩
  have h1 : k < w0.heap.size := by
   rcases List.mem_cons.1 hk with rfl | hk
   ·exact hml
   exact hlt k hk
  exact ⟨.inr (.inr ⟨hB k hk, h1⟩), by omega⟩
 refine ⟨fun k => k = Bb ∨ k = Bk ∨ k ∈ m :: T.bs, hS, ?_⟩
 have := from_iter n Bb Bk (fun k => k = Bb ∨ k = Bk ∨ k ∈ m :: T.bs) (some ⟨m, 0, none⟩) s T w (fun k hk => (hS k hk).2) (.inl rfl) hc hk (.inr (.inl rfl)) ⟨.inr (.inr List.mem_cons_self), blk_cell hM'.blk 0, hM'.inn, fun x hx => .inr (.inr (List.mem_cons_of_mem _ hx))⟩
 rw [walkB_toL s T hr] at this
 exact this
end Go.Proofs.Ytljnlnbopohghaa.OrdSm
end
section
namespace Go.Proofs.Ytljnlnbopohghaa.Wp
open Go.RowKit Go.Proofs.YtljnlnbopohghaaW.PrintWords Go.Proofs.YtljnlnbopohghaaW.PrintLast Go.Proofs.YtljnlnbopohghaaW.PrintMore
def eight (n : Int) : List Int := [n / 72057594037927936 % 256, n / 281474976710656 % 256, n / 1099511627776 % 256, n / 4294967296 % 256, n / 16777216 % 256, n / 65536 % 256, n / 256 % 256, n % 256]
theorem eight_conv0 (P : Program) (src dst e : TypeId) (hs : P.underlying src = some (.slice e)) (he : P.underlying e = some (.int .u8)) (hd : P.underlying dst = some .string) (t : TypeId) (w : World) (g : Nat) (n : Int)
  (hb : w.heap[g]? = some (.cells ((eight n).map (Value.int .u8)).toArray t (0, 0))) :
  (convert src dst (.slice (some ⟨g, 0, none⟩) 8 8)).run P w = .ok (.string (strOfNums (eight n))) w := by
 refine run_convert_bytes_arg _ src e hs he g 0 8 8 (eight n) rfl (fun i hi => ?_) dst hd
 have h8 : i = 0 ∨ i = 1 ∨ i = 2 ∨ i = 3 ∨ i = 4 ∨ i = 5 ∨ i = 6 ∨ i = 7 := by omega
 rcases h8 with rfl | rfl | rfl | rfl | rfl | rfl | rfl | rfl <;> (unfold World.cell?; simp only [Nat.zero_add, hb]; rfl)
theorem eight_conv (P : Program) (src dst e : TypeId) (hs : P.underlying src = some (.slice e)) (he : P.underlying e = some (.int .u8)) (hd : P.underlying dst = some .string) (t : TypeId) (w : World) (n : Int) :
  (convert src dst (.slice (some ⟨w.heap.size, 0, none⟩) 8 8)).run P (w.alloc (.cells #[.int .u8 (n / 72057594037927936 % 256), .int .u8 (n / 281474976710656 % 256), .int .u8 (n / 1099511627776 % 256), .int .u8 (n / 4294967296 % 256), .int .u8 (n / 16777216 % 256), .int .u8 (n / 65536 % 256), .int .u8 (n / 256 % 256), .int .u8 (n % 256)] t)) =
   .ok (.string (strOfNums (eight n))) (w.alloc (.cells #[.int .u8 (n / 72057594037927936 % 256), .int .u8 (n / 281474976710656 % 256), .int .u8 (n / 1099511627776 % 256), .int .u8 (n / 4294967296 % 256), .int .u8 (n / 16777216 % 256), .int .u8 (n / 65536 % 256), .int .u8 (n / 256 % 256), .int .u8 (n % 256)] t)) :=
 eight_conv0 P src dst e hs he hd t _ _ n (MapKept.heap_alloc w _).1
set_option maxHeartbeats 4000000 in
set_option maxRecDepth 100000 in
theorem put_any (n : Int) (w : World) : Calls Try.prog 120 #[.int .u64 n] w fun e w' => e = .returned (.string (strOfNums (eight n))) ∧ Below w.heap.size w w' := by
 have hcv := fun (W : World) => eight_conv Try.prog 187 9 5 Try.underlying187 Try.underlying5 Try.underlying9 200 W n
 go_enter Try.func120, Try.ntmps120
 go_wp2
 refine wp_loop_rounds 9 ?_
 iterate 9 (rw [rounds_succ]; go_wp2)
 go_ret
 exact ⟨rfl, (Below.refl _ _).alloc (Nat.le_refl _) _⟩
end Go.Proofs.Ytljnlnbopohghaa.Wp
end
