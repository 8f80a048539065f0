/- The walks over knots [string, int]: least, drop. (Laid by inst.py out of inst/XOl.) -/
import Derived.Test.YtdbkjpnejihnhaaOzSi
set_option linter.unusedVariables false
set_option linter.unusedSimpArgs false
namespace Go.Proofs.Ytdbkjpnejihnhaa.OrdSi
open Go.RowKit Go.Proofs.YtdbkjpnejihnhaaW.PrintWords Go.Proofs.YtdbkjpnejihnhaaW.PrintLast Go.Proofs.YtdbkjpnejihnhaaW.PrintMore Go.Proofs.Ytdbkjpnejihnhaa.Own Go.Proofs.Ytdbkjpnejihnhaa.Ord
set_option maxHeartbeats 2000000
set_option maxRecDepth 100000
theorem least_any (l : Kn ByteArray Int) : ∀ (b : Nat) (k : ByteArray) (v : Int) (r : Kn ByteArray Int) (w : World), In w (.node b k v l r) → (Kn.node b k v l r).bs.Nodup → (Kn.node b k v l r).cnt < 4611686018427387904 →
    Calls Try.prog 59 #[.pointer (some ⟨b, 0, none⟩)] w fun e w' => e = .returned (.tuple #[.pointer (Kn.least b k v l r).1.adr, .pointer (some ⟨(Kn.least b k v l r).2.1, 0, none⟩)]) ∧ In w' (Kn.least b k v l r).1 ∧ Fr (Kn.node b k v l r).bs w w' ∧
      (∃ lo, Top w' (Kn.least b k v l r).2.1 (Kn.least b k v l r).2.2.1 (Kn.least b k v l r).2.2.2.1 lo (Kn.least b k v l r).2.2.2.2.adr) := by
  induction l with
  | nil =>
    intro b k v r w hin hnd hc
    have h1 := Top.of_in hin
    obtain ⟨c10, c11, c12, c13, f11, f12, f13⟩ := h1.cells
    rw [show (Kn.nil : Kn ByteArray Int).adr = none from rfl] at c12
    go_enter Try.func59, Try.ntmps59
    go_wp2
    go_ret2
    exact ⟨rfl, hin.2.2, Fr.refl _ _, none, h1⟩
  | node lb lk lv ll lr ihl ihr =>
    intro b k v r w hin hnd hc
    clear ihr
    obtain ⟨nd2, no2, sub2, mem2⟩ := Kn.least_out hnd
    have nbl : b ∉ (Kn.node lb lk lv ll lr).bs := by rw [show (Kn.node b k v (.node lb lk lv ll lr) r).bs = b :: ((Kn.node lb lk lv ll lr).bs ++ r.bs) from rfl, List.nodup_cons, List.mem_append, not_or] at hnd; exact hnd.1.1
    have nbr : b ∉ r.bs := by rw [show (Kn.node b k v (.node lb lk lv ll lr) r).bs = b :: ((Kn.node lb lk lv ll lr).bs ++ r.bs) from rfl, List.nodup_cons, List.mem_append, not_or] at hnd; exact hnd.1.2
    have ndl : (Kn.node lb lk lv ll lr).bs.Nodup := by rw [show (Kn.node b k v (.node lb lk lv ll lr) r).bs = b :: ((Kn.node lb lk lv ll lr).bs ++ r.bs) from rfl, List.nodup_cons, List.nodup_append] at hnd; exact hnd.2.1
    have dj : ∀ x ∈ (Kn.node lb lk lv ll lr).bs, x ∉ r.bs := fun x hx hr => by rw [show (Kn.node b k v (.node lb lk lv ll lr) r).bs = b :: ((Kn.node lb lk lv ll lr).bs ++ r.bs) from rfl, List.nodup_cons, List.nodup_append] at hnd; exact hnd.2.2.2 x hx x hr rfl
    have hcr := Kn.bounds r
    have hcl := Kn.bounds (Kn.node lb lk lv ll lr)
    have hc1 : (Kn.node lb lk lv ll lr).cnt < 4611686018427387904 := by rw [show (Kn.node b k v (.node lb lk lv ll lr) r).cnt = 1 + (Kn.node lb lk lv ll lr).cnt + r.cnt from rfl] at hc; omega
    have hc2 : (Kn.node b k v (Kn.least lb lk lv ll lr).1 r).cnt < 4611686018427387904 := by
      have := Kn.least_cnt lb lk lv ll lr
      rw [show (Kn.node b k v (.node lb lk lv ll lr) r).cnt = 1 + (Kn.node lb lk lv ll lr).cnt + r.cnt from rfl] at hc
      rw [show (Kn.node b k v (Kn.least lb lk lv ll lr).1 r).cnt = 1 + (Kn.least lb lk lv ll lr).1.cnt + r.cnt from rfl]; omega
    have h1 := Top.of_in hin
    have ir := hin.2.2
    have nbP : b ∉ (Kn.least lb lk lv ll lr).1.bs := fun h => nbl (sub2 b h)
    have nxb : (Kn.least lb lk lv ll lr).2.1 ≠ b := fun h => nbl (h ▸ mem2)
    obtain ⟨c10, c11, c12, c13, f11, f12, f13⟩ := h1.cells
    rw [show (Kn.node lb lk lv ll lr).adr = some ⟨lb, 0, none⟩ from rfl] at c12
    have W1 := ihl lb lk lv lr w hin.2.1 ndl hc1
    clear ihl hin
    have e1 : (Kn.least b k v (.node lb lk lv ll lr) r).1 = Kn.even b k v (Kn.least lb lk lv ll lr).1 r := rfl
    have e2 : (Kn.least b k v (.node lb lk lv ll lr) r).2 = (Kn.least lb lk lv ll lr).2 := rfl
    rw [e1, e2]
    generalize Kn.least lb lk lv ll lr = x at *
    obtain ⟨P, xb, xk, xv, xr⟩ := x
    dsimp only at *
    have W2 := W1.mono (R' := fun e w2 => e = .returned (.tuple #[.pointer P.adr, .pointer (some ⟨xb, 0, none⟩)]) ∧ Top w2 b k v (some ⟨lb, 0, none⟩) r.adr ∧ (∃ lo, Top (w2.setCell ⟨b, 2, none⟩ (.pointer P.adr)) xb xk xv lo xr.adr) ∧ Fr (Kn.node b k v (.node lb lk lv ll lr) r).bs w (w2.setCell ⟨b, 2, none⟩ (.pointer P.adr)) ∧
        Calls Try.prog 58 #[.pointer (some ⟨b, 0, none⟩)] (w2.setCell ⟨b, 2, none⟩ (.pointer P.adr)) fun e w' => e = .returned (.pointer (Kn.even b k v P r).adr) ∧ In w' (Kn.even b k v P r) ∧ Fr (Kn.node b k v P r).bs (w2.setCell ⟨b, 2, none⟩ (.pointer P.adr)) w') (by
      rintro e w2 ⟨rfl, hi, fr, lo, ht⟩
      have h2 := h1.fr fr nbl
      have ir2 := in_fr fr ir (fun x hx hm => dj x hm hx)
      refine ⟨rfl, h2, ⟨lo, ht.fr (B := [b]) ((Fr.refl [b] w2).set (.inl (by simp)) _) (by simpa using nxb)⟩, ?_, even_any (h2.low P.adr) (set_in hi nbP 2 _) (set_in ir2 nbr 2 _) nd2 hc2⟩
      exact (fr.wide (fun x hx => .inl (List.mem_cons_of_mem _ (List.mem_append_left _ hx)))).set (.inl (by simp [Kn.bs])) _)
    clear W1 h1 ir
    go_enter Try.func59, Try.ntmps59
    go_wp2_with (first
      | (go_at_call 59
         refine W2.mono ?_
         clear W2
         rintro e w2 ⟨rfl, h2, ⟨lo, ht2⟩, fr2, W3⟩
         obtain ⟨c20, c21, c22, c23, f21, f22, f23⟩ := h2.cells)
      | (go_at_call 58
         refine W3.mono ?_
         clear W3
         rintro e w4 ⟨rfl, hi4, fr4⟩))
    go_ret2
    refine ⟨rfl, hi4, fr2.trans fr4 (fun x hx => .inl ?_), lo, ht2.fr fr4 no2⟩
    rw [show (Kn.node b k v P r).bs = b :: (P.bs ++ r.bs) from rfl, List.mem_cons, List.mem_append] at hx
    rw [show (Kn.node b k v (.node lb lk lv ll lr) r).bs = b :: ((Kn.node lb lk lv ll lr).bs ++ r.bs) from rfl, List.mem_cons, List.mem_append]
    rcases hx with hx | hx | hx
    · exact .inl hx
    · exact .inr (.inl (sub2 x hx))
    · exact .inr (.inr hx)
theorem drop_any (key : ByteArray) (T : Kn ByteArray Int) : ∀ w : World, In w T → T.bs.Nodup → T.cnt < 4611686018427387904 →
    Calls Try.prog 49 #[.pointer T.adr, .string key] w fun e w' => e = .returned (.pointer (Kn.drop lt key T).adr) ∧ In w' (Kn.drop lt key T) ∧ Fr T.bs w w' := by
  induction T with
  | nil =>
    intro w _ _ _
    show Calls Try.prog 49 #[.pointer none, .string key] w _
    go_enter Try.func49, Try.ntmps49
    go_wp2
    go_ret
    exact ⟨rfl, trivial, Fr.refl _ _⟩
  | node b k v l r ihl ihr =>
    intro w hin hnd hc
    have nbl : b ∉ l.bs := by simp only [Kn.bs, List.nodup_cons, List.mem_append, not_or] at hnd; exact hnd.1.1
    have nbr : b ∉ r.bs := by simp only [Kn.bs, List.nodup_cons, List.mem_append, not_or] at hnd; exact hnd.1.2
    have ndl : l.bs.Nodup := by simp only [Kn.bs, List.nodup_cons, List.nodup_append] at hnd; exact hnd.2.1
    have ndr : r.bs.Nodup := by simp only [Kn.bs, List.nodup_cons, List.nodup_append] at hnd; exact hnd.2.2.1
    have dj : ∀ x ∈ l.bs, x ∉ r.bs := fun x hx hr => by simp only [Kn.bs, List.nodup_cons, List.nodup_append] at hnd; exact hnd.2.2.2 x hx x hr rfl
    have hcl := Kn.bounds l
    have hcr := Kn.bounds r
    simp only [Kn.cnt] at hc
    have h1 := Top.of_in hin
    have il := hin.2.1
    have ir := hin.2.2
    clear hin
    obtain ⟨c10, c11, c12, c13, f11, f12, f13⟩ := h1.cells
    show Calls Try.prog 49 #[.pointer (some ⟨b, 0, none⟩), .string key] w _
    by_cases hA : lt key k = true
    · have hcmp : ∀ W, Calls Try.prog 56 #[.string key, .string k] W fun e w' => e = .returned (.int .i64 (-1)) ∧ w' = W := fun W => by
        have := cmp_any key k W; unfold Kn.cmpK at this; rw [if_pos hA] at this; exact this
      have W1 := (ihl w il ndl (by omega)).mono (R' := fun e w2 => e = .returned (.pointer (Kn.drop lt key l).adr) ∧ Top w2 b k v l.adr r.adr ∧ Fr (Kn.node b k v l r).bs w (w2.setCell ⟨b, 2, none⟩ (.pointer (Kn.drop lt key l).adr)) ∧
          Calls Try.prog 58 #[.pointer (some ⟨b, 0, none⟩)] (w2.setCell ⟨b, 2, none⟩ (.pointer (Kn.drop lt key l).adr)) fun e w' => e = .returned (.pointer (Kn.even b k v (Kn.drop lt key l) r).adr) ∧ In w' (Kn.even b k v (Kn.drop lt key l) r) ∧ Fr (Kn.node b k v (Kn.drop lt key l) r).bs (w2.setCell ⟨b, 2, none⟩ (.pointer (Kn.drop lt key l).adr)) w') (by
        rintro e w2 ⟨rfl, hi, fr⟩
        have h2 := h1.fr fr nbl
        have io2 := in_fr fr ir (fun x hx hm => dj x hm hx)
        refine ⟨rfl, h2, ?_, even_any (h2.low (Kn.drop lt key l).adr) (set_in hi (fun h => nbl (Kn.drop_mem h)) 2 _) (set_in io2 nbr 2 _) (Kn.drop_left_nodup hnd) (by have := Kn.drop_cnt lt key l; simp only [Kn.cnt]; omega)⟩
        exact (fr.wide (fun x hx => .inl (List.mem_cons_of_mem _ (List.mem_append_left _ hx)))).set (.inl (by simp [Kn.bs])) _)
      have e : Kn.drop lt key (.node b k v l r) = (Kn.even b k v (Kn.drop lt key l) r) := by simp only [Kn.drop]; rw [if_pos hA]
      rw [e]
      clear ihl ihr h1 il ir e
      go_enter Try.func49, Try.ntmps49
      go_wp2_with (first
        | (go_at_call 56; refine (hcmp _).mono ?_; rintro e w1 ⟨rfl, hw⟩; obtain rfl := hw.symm)
        | (go_at_call 49
           refine W1.mono ?_
           clear W1
           rintro e w2 ⟨rfl, h2, fr2, W3⟩
           obtain ⟨c20, c21, c22, c23, f21, f22, f23⟩ := h2.cells)
        | (go_at_call 58
           refine W3.mono ?_
           clear W3
           rintro e w4 ⟨rfl, hi4, fr4⟩))
      go_ret
      refine ⟨rfl, hi4, fr2.trans fr4 (fun x hx => .inl ?_)⟩
      simp only [Kn.bs, List.mem_cons, List.mem_append] at hx ⊢
      rcases hx with hx | hx | hx
      · exact .inl hx
      · exact .inr (.inl (Kn.drop_mem hx))
      · exact .inr (.inr hx)
    · by_cases hB : lt k key = true
      · have hcmp : ∀ W, Calls Try.prog 56 #[.string key, .string k] W fun e w' => e = .returned (.int .i64 1) ∧ w' = W := fun W => by
          have := cmp_any key k W; unfold Kn.cmpK at this; rw [if_neg hA, if_pos hB] at this; exact this
        have W1 := (ihr w ir ndr (by omega)).mono (R' := fun e w2 => e = .returned (.pointer (Kn.drop lt key r).adr) ∧ Top w2 b k v l.adr r.adr ∧ Fr (Kn.node b k v l r).bs w (w2.setCell ⟨b, 3, none⟩ (.pointer (Kn.drop lt key r).adr)) ∧
            Calls Try.prog 58 #[.pointer (some ⟨b, 0, none⟩)] (w2.setCell ⟨b, 3, none⟩ (.pointer (Kn.drop lt key r).adr)) fun e w' => e = .returned (.pointer (Kn.even b k v l (Kn.drop lt key r)).adr) ∧ In w' (Kn.even b k v l (Kn.drop lt key r)) ∧ Fr (Kn.node b k v l (Kn.drop lt key r)).bs (w2.setCell ⟨b, 3, none⟩ (.pointer (Kn.drop lt key r).adr)) w') (by
          rintro e w2 ⟨rfl, hi, fr⟩
          have h2 := h1.fr fr nbr
          have io2 := in_fr fr il (fun x hx hm => dj x hx hm)
          refine ⟨rfl, h2, ?_, even_any (h2.high (Kn.drop lt key r).adr) (set_in io2 nbl 3 _) (set_in hi (fun h => nbr (Kn.drop_mem h)) 3 _) (Kn.drop_right_nodup hnd) (by have := Kn.drop_cnt lt key r; simp only [Kn.cnt]; omega)⟩
          exact (fr.wide (fun x hx => .inl (List.mem_cons_of_mem _ (List.mem_append_right _ hx)))).set (.inl (by simp [Kn.bs])) _)
        have e : Kn.drop lt key (.node b k v l r) = (Kn.even b k v l (Kn.drop lt key r)) := by simp only [Kn.drop]; rw [if_neg hA, if_pos hB]
        rw [e]
        clear ihl ihr h1 il ir e
        go_enter Try.func49, Try.ntmps49
        go_wp2_with (first
          | (go_at_call 56; refine (hcmp _).mono ?_; rintro e w1 ⟨rfl, hw⟩; obtain rfl := hw.symm)
          | (go_at_call 49
             refine W1.mono ?_
             clear W1
             rintro e w2 ⟨rfl, h2, fr2, W3⟩
             obtain ⟨c20, c21, c22, c23, f21, f22, f23⟩ := h2.cells)
          | (go_at_call 58
             refine W3.mono ?_
             clear W3
             rintro e w4 ⟨rfl, hi4, fr4⟩))
        go_ret
        refine ⟨rfl, hi4, fr2.trans fr4 (fun x hx => .inl ?_)⟩
        simp only [Kn.bs, List.mem_cons, List.mem_append] at hx ⊢
        rcases hx with hx | hx | hx
        · exact .inl hx
        · exact .inr (.inl hx)
        · exact .inr (.inr (Kn.drop_mem hx))
      · have hcmp : ∀ W, Calls Try.prog 56 #[.string key, .string k] W fun e w' => e = .returned (.int .i64 0) ∧ w' = W := fun W => by
          have := cmp_any key k W; unfold Kn.cmpK at this; rw [if_neg hA, if_neg hB] at this; exact this
        clear ihl ihr
        cases r with
        | nil =>
          have e : Kn.drop lt key (.node b k v l .nil) = l := by simp only [Kn.drop]; rw [if_neg hA, if_neg hB]
          rw [e]
          rw [show (Kn.nil : Kn ByteArray Int).adr = none from rfl] at c13
          clear h1 ir e
          go_enter Try.func49, Try.ntmps49
          go_wp2_with (go_at_call 56; refine (hcmp _).mono ?_; rintro e w1 ⟨rfl, hw⟩; obtain rfl := hw.symm)
          go_ret
          exact ⟨rfl, il, Fr.refl _ _⟩
        | node rb rk rv rl rr =>
          have e : Kn.drop lt key (.node b k v l (.node rb rk rv rl rr)) = Kn.even (Kn.least rb rk rv rl rr).2.1 (Kn.least rb rk rv rl rr).2.2.1 (Kn.least rb rk rv rl rr).2.2.2.1 l (Kn.least rb rk rv rl rr).1 := by simp only [Kn.drop]; rw [if_neg hA, if_neg hB]
          rw [e]
          have p := Kn.least_bs rb rk rv rl rr
          have jn := Kn.join_nodup hnd (Kn.least rb rk rv rl rr).2.2.1 (Kn.least rb rk rv rl rr).2.2.2.1
          have jl := Kn.least_nodup ndr
          have hcx := Kn.least_cnt rb rk rv rl rr
          have W0 := least_any rl rb rk rv rr w ir ndr (by omega)
          rw [show (Kn.node rb rk rv rl rr).adr = some ⟨rb, 0, none⟩ from rfl] at c13 h1
          generalize Kn.least rb rk rv rl rr = x at *
          obtain ⟨P, xb, xk, xv, xr⟩ := x
          dsimp only at *
          have nxl : xb ∉ l.bs := fun h => dj xb h (p.mem_iff.1 List.mem_cons_self)
          have hc3 : (Kn.node xb xk xv l P).cnt < 4611686018427387904 := by simp only [Kn.cnt] at *; omega
          have W1 := W0.mono (R' := fun e w2 => e = .returned (.tuple #[.pointer P.adr, .pointer (some ⟨xb, 0, none⟩)]) ∧ Top w2 b k v l.adr (some ⟨rb, 0, none⟩) ∧ (∃ lo, Top w2 xb xk xv lo xr.adr) ∧ Fr (Kn.node b k v l (.node rb rk rv rl rr)).bs w ((w2.setCell ⟨xb, 2, none⟩ (.pointer l.adr)).setCell ⟨xb, 3, none⟩ (.pointer P.adr)) ∧
              Calls Try.prog 58 #[.pointer (some ⟨xb, 0, none⟩)] ((w2.setCell ⟨xb, 2, none⟩ (.pointer l.adr)).setCell ⟨xb, 3, none⟩ (.pointer P.adr)) fun e w' => e = .returned (.pointer (Kn.even xb xk xv l P).adr) ∧ In w' (Kn.even xb xk xv l P) ∧ Fr (Kn.node xb xk xv l P).bs ((w2.setCell ⟨xb, 2, none⟩ (.pointer l.adr)).setCell ⟨xb, 3, none⟩ (.pointer P.adr)) w') (by
            rintro e w2 ⟨rfl, hi, fr, lo, ht⟩
            have h2 := h1.fr fr nbr
            have il2 := in_fr fr il (fun x hx hm => dj x hx hm)
            have xm : xb ∈ (Kn.node b k v l (.node rb rk rv rl rr)).bs := List.mem_cons_of_mem _ (List.mem_append_right _ (p.mem_iff.1 List.mem_cons_self))
            refine ⟨rfl, h2, ⟨lo, ht⟩, ?_, even_any ((ht.low l.adr).high P.adr) (set_in (set_in il2 nxl 2 _) nxl 3 _) (set_in (set_in hi jl.2 2 _) jl.2 3 _) jn hc3⟩
            exact ((fr.wide (fun x hx => .inl (List.mem_cons_of_mem _ (List.mem_append_right _ hx)))).set (.inl xm) _).set (.inl xm) _)
          clear W0 h1 il ir e
          go_enter Try.func49, Try.ntmps49
          go_wp2_with (first
            | (go_at_call 56; refine (hcmp _).mono ?_; rintro e w1 ⟨rfl, hw⟩; obtain rfl := hw.symm)
            | (go_at_call 59
               refine W1.mono ?_
               clear W1
               rintro e w2 ⟨rfl, h2, ⟨lo, ht2⟩, fr2, W3⟩
               obtain ⟨c20, c21, c22, c23, f21, f22, f23⟩ := h2.cells
               obtain ⟨c30, c31, c32, c33, f31, f32, f33⟩ := ht2.cells)
            | (go_at_call 58
               refine W3.mono ?_
               clear W3
               rintro e w4 ⟨rfl, hi4, fr4⟩))
          go_ret
          refine ⟨rfl, hi4, fr2.trans fr4 (fun x hx => .inl ?_)⟩
          rw [show (Kn.node xb xk xv l P).bs = xb :: (l.bs ++ P.bs) from rfl, List.mem_cons, List.mem_append] at hx
          rcases hx with rfl | hx | hx
          · exact List.mem_cons_of_mem _ (List.mem_append_right _ (p.mem_iff.1 List.mem_cons_self))
          · exact List.mem_cons_of_mem _ (List.mem_append_left _ hx)
          · exact List.mem_cons_of_mem _ (List.mem_append_right _ (p.mem_iff.1 (List.mem_cons_of_mem _ hx)))
end Go.Proofs.Ytdbkjpnejihnhaa.OrdSi
