/- Texts of one claim (laid by shake.py). -/
import Derived.Test.YtljnlnbopohghaaZs10
import Derived.Test.YtljnlnbopohghaaZs11
import Derived.Laws.BitsAllLaws
import Derived.Test.YtljnlnbopohghaaProg
import Derived.Test.YtljnlnbopohghaaZs1
import Derived.LoopN
set_option linter.unusedVariables false
set_option linter.unusedSimpArgs false
section
namespace Go.Proofs.Ytljnlnbopohghaa.P
open Go.RowKit Go.Proofs.YtljnlnbopohghaaW.PrintWords Go.Proofs.YtljnlnbopohghaaW.PrintLast Go.Proofs.YtljnlnbopohghaaW.PrintMore Go.Proofs.Ytljnlnbopohghaa.Own Go.Proofs.Ytljnlnbopohghaa
def eight (n : Int) : List Int := [n / 72057594037927936 % 256, n / 281474976710656 % 256, n / 1099511627776 % 256, n / 4294967296 % 256, n / 16777216 % 256, n / 65536 % 256, n / 256 % 256, n % 256]
def valN (s : ByteArray) : Nat → Int
 | 0 => 0
 | n + 1 => valN s n * 256 + bt s n
theorem valN_range (s : ByteArray) (n : Nat) : 0 ≤ valN s n ∧ valN s n < 256 ^ n := by
 induction n with
 | zero => simp [valN]
 | succ n ih =>
  have := bt_range s n
  simp only [valN, Int.pow_succ]
  omega
theorem pow_le : ∀ n : Nat, n < 8 → (256 : Int) ^ n ≤ 72057594037927936 := by decide
def addV (v : ByteArray) (is : Bool) (d : Int) : ByteArray :=
 if is = true then (if v.size = 8 then strOfNums (eight (IntKind.u64.wrap (valN v 8 + d))) else v) else strOfNums (eight d)
def applyV (k : Int) (vv : ByteArray) (d : Int) (v : ByteArray) (is : Bool) : ByteArray × Bool :=
 if k = 1 then (vv, true) else if k = 3 then (addV v is d, true) else if k = 2 ∨ k = 4 then (e0, false) else if is = true then (v, true) else (e0, false)
end Go.Proofs.Ytljnlnbopohghaa.P
end
section
namespace Go.Proofs.Ytljnlnbopohghaa.Wp
open Go.RowKit Go.Proofs.YtljnlnbopohghaaW.PrintWords Go.Proofs.YtljnlnbopohghaaW.PrintLast Go.Proofs.YtljnlnbopohghaaW.PrintMore
def eight (n : Int) : List Int := [n / 72057594037927936 % 256, n / 281474976710656 % 256, n / 1099511627776 % 256, n / 4294967296 % 256, n / 16777216 % 256, n / 65536 % 256, n / 256 % 256, n % 256]
theorem eight_conv0 (P : Program) (src dst e : TypeId) (hs : P.underlying src = some (.slice e)) (he : P.underlying e = some (.int .u8)) (hd : P.underlying dst = some .string) (t : TypeId) (w : World) (g : Nat) (n : Int)
  (hb : w.heap[g]? = some (.cells ((eight n).map (Value.int .u8)).toArray t (0, 0))) :
  (convert src dst (.slice (some ⟨g, 0, none⟩) 8 8)).run P w = .ok (.string (strOfNums (eight n))) w := by
 refine run_convert_bytes_arg _ src e hs he g 0 8 8 (eight n) rfl (fun i hi => ?_) dst hd
 have h8 : i = 0 ∨ i = 1 ∨ i = 2 ∨ i = 3 ∨ i = 4 ∨ i = 5 ∨ i = 6 ∨ i = 7 := by omega
 rcases h8 with rfl | rfl | rfl | rfl | rfl | rfl | rfl | rfl <;> (unfold World.cell?; simp only [Nat.zero_add, hb]; rfl)
theorem eight_conv (P : Program) (src dst e : TypeId) (hs : P.underlying src = some (.slice e)) (he : P.underlying e = some (.int .u8)) (hd : P.underlying dst = some .string) (t : TypeId) (w : World) (n : Int) :
  (convert src dst (.slice (some ⟨w.heap.size, 0, none⟩) 8 8)).run P (w.alloc (.cells #[.int .u8 (n / 72057594037927936 % 256), .int .u8 (n / 281474976710656 % 256), .int .u8 (n / 1099511627776 % 256), .int .u8 (n / 4294967296 % 256), .int .u8 (n / 16777216 % 256), .int .u8 (n / 65536 % 256), .int .u8 (n / 256 % 256), .int .u8 (n % 256)] t)) =
   .ok (.string (strOfNums (eight n))) (w.alloc (.cells #[.int .u8 (n / 72057594037927936 % 256), .int .u8 (n / 281474976710656 % 256), .int .u8 (n / 1099511627776 % 256), .int .u8 (n / 4294967296 % 256), .int .u8 (n / 16777216 % 256), .int .u8 (n / 65536 % 256), .int .u8 (n / 256 % 256), .int .u8 (n % 256)] t)) :=
 eight_conv0 P src dst e hs he hd t _ _ n (MapKept.heap_alloc w _).1
set_option maxHeartbeats 4000000 in
set_option maxRecDepth 100000 in
theorem put_any (n : Int) (w : World) : Calls Try.prog 120 #[.int .u64 n] w fun e w' => e = .returned (.string (strOfNums (eight n))) ∧ Below w.heap.size w w' := by
 have hcv := fun (W : World) => eight_conv Try.prog 187 9 5 Try.underlying187 Try.underlying5 Try.underlying9 200 W n
 go_enter Try.func120, Try.ntmps120
 go_wp2
 refine wp_loop_rounds 9 ?_
 iterate 9 (rw [rounds_succ]; go_wp2)
 go_ret
 exact ⟨rfl, (Below.refl _ _).alloc (Nat.le_refl _) _⟩
end Go.Proofs.Ytljnlnbopohghaa.Wp
end
