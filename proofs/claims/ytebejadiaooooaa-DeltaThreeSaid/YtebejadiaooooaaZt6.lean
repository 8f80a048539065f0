/- Texts of one claim (laid by shake.py). -/
import Derived.Test.YtebejadiaooooaaProg
import Derived.Test.YtebejadiaooooaaZt2
import Derived.LoopN
section
namespace Go.Proofs.Ytebejadiaooooaa.Wp
open Go.RowKit Go.Proofs.YtebejadiaooooaaW.PrintWords Go.Proofs.YtebejadiaooooaaW.PrintLast Go.Proofs.YtebejadiaooooaaW.PrintMore
def eight (n : Int) : List Int := [n / 72057594037927936 % 256, n / 281474976710656 % 256, n / 1099511627776 % 256, n / 4294967296 % 256, n / 16777216 % 256, n / 65536 % 256, n / 256 % 256, n % 256]
theorem eight_conv0 (P : Program) (src dst e : TypeId) (hs : P.underlying src = some (.slice e)) (he : P.underlying e = some (.int .u8)) (hd : P.underlying dst = some .string) (t : TypeId) (w : World) (g : Nat) (n : Int)
  (hb : w.heap[g]? = some (.cells ((eight n).map (Value.int .u8)).toArray t (0, 0))) :
  (convert src dst (.slice (some ⟨g, 0, none⟩) 8 8)).run P w = .ok (.string (strOfNums (eight n))) w := by
 refine run_convert_bytes_arg _ src e hs he g 0 8 8 (eight n) rfl (fun i hi => ?_) dst hd
 have h8 : i = 0 ∨ i = 1 ∨ i = 2 ∨ i = 3 ∨ i = 4 ∨ i = 5 ∨ i = 6 ∨ i = 7 := by omega
 rcases h8 with rfl | rfl | rfl | rfl | rfl | rfl | rfl | rfl <;> (unfold World.cell?; simp only [Nat.zero_add, hb]; rfl)
theorem eight_conv (P : Program) (src dst e : TypeId) (hs : P.underlying src = some (.slice e)) (he : P.underlying e = some (.int .u8)) (hd : P.underlying dst = some .string) (t : TypeId) (w : World) (n : Int) :
  (convert src dst (.slice (some ⟨w.heap.size, 0, none⟩) 8 8)).run P (w.alloc (.cells #[.int .u8 (n / 72057594037927936 % 256), .int .u8 (n / 281474976710656 % 256), .int .u8 (n / 1099511627776 % 256), .int .u8 (n / 4294967296 % 256), .int .u8 (n / 16777216 % 256), .int .u8 (n / 65536 % 256), .int .u8 (n / 256 % 256), .int .u8 (n % 256)] t)) =
   .ok (.string (strOfNums (eight n))) (w.alloc (.cells #[.int .u8 (n / 72057594037927936 % 256), .int .u8 (n / 281474976710656 % 256), .int .u8 (n / 1099511627776 % 256), .int .u8 (n / 4294967296 % 256), .int .u8 (n / 16777216 % 256), .int .u8 (n / 65536 % 256), .int .u8 (n / 256 % 256), .int .u8 (n % 256)] t)) :=
 eight_conv0 P src dst e hs he hd t _ _ n (MapKept.heap_alloc w _).1
set_option maxHeartbeats 4000000 in
set_option maxRecDepth 100000 in
theorem put_any (n : Int) (w : World) : Calls Try.prog 95 #[.int .u64 n] w fun e w' => e = .returned (.string (strOfNums (eight n))) ∧ Below w.heap.size w w' := by
 have hcv := fun (W : World) => eight_conv Try.prog 135 9 5 Try.underlying135 Try.underlying5 Try.underlying9 134 W n
 go_enter Try.func95, Try.ntmps95
 go_wp2
 refine wp_loop_rounds 9 ?_
 iterate 9 (rw [rounds_succ]; go_wp2)
 go_ret
 exact ⟨rfl, (Below.refl _ _).alloc (Nat.le_refl _) _⟩
end Go.Proofs.Ytebejadiaooooaa.Wp
end
