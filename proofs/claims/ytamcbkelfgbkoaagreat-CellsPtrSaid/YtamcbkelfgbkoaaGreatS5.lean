/- The small codes of functions, by program (gen.py, by this workplace's session), each with the proof that it is the function's own. -/
import Derived.Test.YtamcbkelfgbkoaaGreatProg
import Derived.Test.YtamcbkelfgbkoaaGreatB11
namespace Go.Proofs.Tryz.S
open Go Go.Ax Go.Ax.W
open Go.Ax.N (t i b o og k kn)
set_option maxRecDepth 100000

def c9 : SF := ⟨5,[.t 2],(sq [k 1 (.bx 33 (t 0)),B 2 false] (sq [L 3 10 1,k 4 (.ca (.func 10) [(t 3),(i 7)]),m 2 4]
 .ret))⟩
theorem e9 : qD Tryz.prog Tryz.f9 [] = some c9 := by kernel_rfl
end Go.Proofs.Tryz.S
