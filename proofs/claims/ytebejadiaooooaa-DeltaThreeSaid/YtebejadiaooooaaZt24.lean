/- Texts of one claim (laid by shake.py). -/
import Derived.Test.YtebejadiaooooaaProg
import Derived.Test.YtebejadiaooooaaZt2
import Derived.Test.YtebejadiaooooaaZt3
import Derived.WalkKit
import Derived.Below
set_option linter.unusedVariables false
set_option linter.unusedSimpArgs false
section
namespace Go.Proofs.Ytebejadiaooooaa.Wm
open Go.RowKit Go.Proofs.YtebejadiaooooaaW.PrintWords Go.Proofs.YtebejadiaooooaaW.PrintLast Go.Proofs.YtebejadiaooooaaW.PrintMore Go.Proofs.Ytebejadiaooooaa.Own
set_option maxHeartbeats 2000000
set_option maxRecDepth 100000
def rgt (f t : ByteArray) : Bool := if t.toList = [] then true else Op.bytesLess f.toList t.toList
def bfr (a b : ByteArray) : Bool := if a.toList = [] then false else if b.toList = [] then true else Op.bytesLess a.toList b.toList
def gtr (f g : ByteArray) : ByteArray := if Op.bytesLess f.toList g.toList = true then g else f
def lst (t u : ByteArray) : ByteArray := if bfr u t = true then u else t
def meet (f t g u : ByteArray) : ByteArray × ByteArray × Bool :=
 if rgt f t = false then (⟨#[]⟩, ⟨#[]⟩, false) else if rgt g u = false then (⟨#[]⟩, ⟨#[]⟩, false)
 else if rgt (gtr f g) (lst t u) = true then (gtr f g, lst t u, true) else (⟨#[]⟩, ⟨#[]⟩, false)
end Go.Proofs.Ytebejadiaooooaa.Wm
end
