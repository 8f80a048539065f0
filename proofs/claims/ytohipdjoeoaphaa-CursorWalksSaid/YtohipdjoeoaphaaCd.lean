/- Took: a cursor was told its next chunk. (Its arms laid by a small program.) -/
import Derived.Test.YtohipdjoeoaphaaCc
import Derived.Deep.RegionHeld3
set_option linter.unusedVariables false
set_option linter.unusedSimpArgs false
namespace Go.Proofs.Ytohipdjoeoaphaa.Cur
open Go Go.RowKit Go.Maps Go.Proofs.YtohipdjoeoaphaaW.PrintWords Go.Proofs.YtohipdjoeoaphaaW.PrintLast Go.Proofs.YtohipdjoeoaphaaW.PrintMore Go.Proofs.Ytohipdjoeoaphaa.Own Go.Proofs.Ytohipdjoeoaphaa.Ord Go.Proofs.Ytohipdjoeoaphaa.P
set_option maxHeartbeats 2000000
set_option maxRecDepth 100000
theorem took_none {w : World} {p b n c : Nat} {last : Int} {F : Int → Option X} (h : Tb w p b last n F c) (k : Int) (hk : (Lit.int .i64 k).wf = true) {A : Option Addr} {cl : Nat} {l : List En} (hC : Kd.C P.k39 w A l.length l) (hcap : l.length ≤ cl) (most : Int) (hF : F k = none) :
    Calls Try.prog 9 #[.pointer (some ⟨p, 0, none⟩), .int .i64 k, .slice A l.length cl, .int .i64 most] w fun e w' => e = .returned (.tuple #[.bool false, .int .i64 11]) ∧ Below w.heap.size w w' := by
  have hur := Try.underlying23
  have hux := Try.underlying52
  have hus := Try.underlying50
  have hue := Try.underlying39
  have hfind := find_none h k hk hF
  clear h hC
  go_enter Try.func9, Try.ntmps9
  go_wp2_with (go_at_call 19; refine hfind.mono ?_; clear hfind; rintro e w1 ⟨rfl, hB1⟩; have hBF := below_alloc hB1 (.cells #[.string ⟨#[]⟩, .string ⟨#[]⟩, .bool false] 52))
  go_ret2
  exact ⟨rfl, hBF⟩
theorem took_state {w : World} {p b n c : Nat} {last : Int} {F : Int → Option X} (h : Tb w p b last n F c) (k : Int) (hk : (Lit.int .i64 k).wf = true) {A : Option Addr} {cl : Nat} {l : List En} (hC : Kd.C P.k39 w A l.length l) (hcap : l.length ≤ cl) (most : Int) (f t : ByteArray) (hF : F k = some (f, t, true)) (h1 : 0 < l.length) :
    Calls Try.prog 9 #[.pointer (some ⟨p, 0, none⟩), .int .i64 k, .slice A l.length cl, .int .i64 most] w fun e w' => e = .returned (.tuple #[.bool false, .int .i64 15]) ∧ Below w.heap.size w w' := by
  have hur := Try.underlying23
  have hux := Try.underlying52
  have hus := Try.underlying50
  have hue := Try.underlying39
  have hfind := find_some h k hk f t true hF
  have d1 : decide ((0 : Int) < (l.length : Int)) = true := decide_eq_true (by omega)
  clear h hC
  go_enter Try.func9, Try.ntmps9
  go_wp2_with (go_at_call 19; refine hfind.mono ?_; clear hfind; rintro e w1 ⟨rfl, hB1⟩; have hBF := below_alloc hB1 (.cells #[.string f, .string t, .bool true] 52))
  go_ret2
  exact ⟨rfl, hBF⟩
theorem took_arg_true {w : World} {p b n c : Nat} {last : Int} {F : Int → Option X} (h : Tb w p b last n F c) (k : Int) (hk : (Lit.int .i64 k).wf = true) {A : Option Addr} {cl : Nat} (hC : Kd.C P.k39 w A ([] : List En).length []) (most : Int) (f t : ByteArray) (hF : F k = some (f, t, true)) (h2 : most < 1) :
    Calls Try.prog 9 #[.pointer (some ⟨p, 0, none⟩), .int .i64 k, .slice A 0 cl, .int .i64 most] w fun e w' => e = .returned (.tuple #[.bool false, .int .i64 2]) ∧ Below w.heap.size w w' := by
  have hur := Try.underlying23
  have hux := Try.underlying52
  have hus := Try.underlying50
  have hue := Try.underlying39
  have hfind := find_some h k hk f t true hF
  have d2 : decide (most < 1) = true := decide_eq_true h2
  clear h hC
  go_enter Try.func9, Try.ntmps9
  go_wp2_with (go_at_call 19; refine hfind.mono ?_; clear hfind; rintro e w1 ⟨rfl, hB1⟩; have hBF := below_alloc hB1 (.cells #[.string f, .string t, .bool true] 52))
  go_ret2
  exact ⟨rfl, hBF⟩
theorem took_arg_false {w : World} {p b n c : Nat} {last : Int} {F : Int → Option X} (h : Tb w p b last n F c) (k : Int) (hk : (Lit.int .i64 k).wf = true) {A : Option Addr} {cl : Nat} {l : List En} (hC : Kd.C P.k39 w A l.length l) (hcap : l.length ≤ cl) (most : Int) (f t : ByteArray) (hF : F k = some (f, t, false)) (h2 : most < 1) :
    Calls Try.prog 9 #[.pointer (some ⟨p, 0, none⟩), .int .i64 k, .slice A l.length cl, .int .i64 most] w fun e w' => e = .returned (.tuple #[.bool false, .int .i64 2]) ∧ Below w.heap.size w w' := by
  have hur := Try.underlying23
  have hux := Try.underlying52
  have hus := Try.underlying50
  have hue := Try.underlying39
  have hfind := find_some h k hk f t false hF
  have d2 : decide (most < 1) = true := decide_eq_true h2
  clear h hC
  go_enter Try.func9, Try.ntmps9
  go_wp2_with (go_at_call 19; refine hfind.mono ?_; clear hfind; rintro e w1 ⟨rfl, hB1⟩; have hBF := below_alloc hB1 (.cells #[.string f, .string t, .bool false] 52))
  go_ret2
  exact ⟨rfl, hBF⟩
theorem took_limit_false {w : World} {p b n c : Nat} {last : Int} {F : Int → Option X} (h : Tb w p b last n F c) (k : Int) (hk : (Lit.int .i64 k).wf = true) {A : Option Addr} {cl : Nat} {l : List En} (hC : Kd.C P.k39 w A l.length l) (hcap : l.length ≤ cl) (most : Int) (f t : ByteArray) (hF : F k = some (f, t, false)) (h2 : 1 ≤ most) (h3 : most < l.length) :
    Calls Try.prog 9 #[.pointer (some ⟨p, 0, none⟩), .int .i64 k, .slice A l.length cl, .int .i64 most] w fun e w' => e = .returned (.tuple #[.bool false, .int .i64 4]) ∧ Below w.heap.size w w' := by
  have hur := Try.underlying23
  have hux := Try.underlying52
  have hus := Try.underlying50
  have hue := Try.underlying39
  have hfind := find_some h k hk f t false hF
  have d2 : decide (most < 1) = false := decide_eq_false (by omega)
  have d3 : decide (most < (l.length : Int)) = true := decide_eq_true h3
  clear h hC
  go_enter Try.func9, Try.ntmps9
  go_wp2_with (go_at_call 19; refine hfind.mono ?_; clear hfind; rintro e w1 ⟨rfl, hB1⟩; have hBF := below_alloc hB1 (.cells #[.string f, .string t, .bool false] 52))
  go_ret2
  exact ⟨rfl, hBF⟩
theorem took_rise_false {w : World} {p b n c : Nat} {last : Int} {F : Int → Option X} (h : Tb w p b last n F c) (k : Int) (hk : (Lit.int .i64 k).wf = true) {A : Option Addr} {cl : Nat} {l : List En} (hC : Kd.C P.k39 w A l.length l) (hcap : l.length ≤ cl) (most : Int) (f t : ByteArray) (hF : F k = some (f, t, false)) (h2 : 1 ≤ most) (h3 : l.length ≤ most) (kr : Nat) (hri : fold_Rises.f kr l = some false) :
    Calls Try.prog 9 #[.pointer (some ⟨p, 0, none⟩), .int .i64 k, .slice A l.length cl, .int .i64 most] w fun e w' => e = .returned (.tuple #[.bool false, .int .i64 16]) ∧ Below w.heap.size w w' := by
  have hur := Try.underlying23
  have hux := Try.underlying52
  have hus := Try.underlying50
  have hue := Try.underlying39
  have hfind := find_some h k hk f t false hF
  have d2 : decide (most < 1) = false := decide_eq_false (by omega)
  have d3 : decide (most < (l.length : Int)) = false := decide_eq_false (by omega)
  clear h
  go_enter Try.func9, Try.ntmps9
  go_wp2_with (first
    | (go_at_call 19; refine hfind.mono ?_; clear hfind; rintro e w1 ⟨rfl, hB1⟩; have hBF := below_alloc hB1 (.cells #[.string f, .string t, .bool false] 52))
    | (go_at_call 20; refine (fold_Rises.calls kr A cl l false _ (Kd.C_below hC hBF) hcap hri).mono ?_; rintro e w2 ⟨rfl, hD⟩; have hx2 := blk_below (blk_new w1 (.cells #[.string f, .string t, .bool false] 52)) hD.below; have hB2 := below_step hBF hD.below; clear hBF hB1 hD; have hBF := hB2; clear hB2))
  go_ret2
  exact ⟨rfl, hBF⟩
theorem took_order_false {w : World} {p b n c : Nat} {last : Int} {F : Int → Option X} (h : Tb w p b last n F c) (k : Int) (hk : (Lit.int .i64 k).wf = true) {A : Option Addr} {cl : Nat} {l : List En} (hC : Kd.C P.k39 w A l.length l) (hcap : l.length ≤ cl) (most : Int) (f t : ByteArray) (hF : F k = some (f, t, false)) (h2 : 1 ≤ most) (h3 : l.length ≤ most) (kr : Nat) (hri : fold_Rises.f kr l = some true) (hany : Aside (l.any (fun y => !holdsB f t y.f0) = true)) :
    Calls Try.prog 9 #[.pointer (some ⟨p, 0, none⟩), .int .i64 k, .slice A l.length cl, .int .i64 most] w fun e w' => e = .returned (.tuple #[.bool false, .int .i64 16]) ∧ Below w.heap.size w w' := by
  have hur := Try.underlying23
  have hux := Try.underlying52
  have hus := Try.underlying50
  have hue := Try.underlying39
  have hfind := find_some h k hk f t false hF
  have d2 : decide (most < 1) = false := decide_eq_false (by omega)
  have d3 : decide (most < (l.length : Int)) = false := decide_eq_false (by omega)
  clear h
  go_enter Try.func9, Try.ntmps9
  go_wp2_with (first
    | (go_at_call 19; refine hfind.mono ?_; clear hfind; rintro e w1 ⟨rfl, hB1⟩; have hBF := below_alloc hB1 (.cells #[.string f, .string t, .bool false] 52))
    | (go_at_call 20; refine (fold_Rises.calls kr A cl l true _ (Kd.C_below hC hBF) hcap hri).mono ?_; rintro e w2 ⟨rfl, hD⟩; have hx2 := blk_below (blk_new w1 (.cells #[.string f, .string t, .bool false] 52)) hD.below; have hB2 := below_step hBF hD.below; clear hBF hB1 hD; have hBF := hB2; clear hB2)
    | (go_at_call 21; refine (contains_any hx2 (Kd.C_below hC hBF) hcap).mono ?_; rw [hany.out]; rintro e w3 ⟨rfl, hB3⟩; have hx3 := blk_below hx2 hB3; have hB4 := below_step hBF hB3; clear hBF hB3 hx2; have hBF := hB4; clear hB4))
  go_ret2
  exact ⟨rfl, hBF⟩
end Go.Proofs.Ytohipdjoeoaphaa.Cur
