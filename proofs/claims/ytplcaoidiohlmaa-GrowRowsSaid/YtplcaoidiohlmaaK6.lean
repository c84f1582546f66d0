/- Contract: the page's only one. -/
import Derived.Test.YtplcaoidiohlmaaK5
namespace Go.Proofs.Try.K
open Go Go.Ax Go.Proofs.Try.S
set_option maxRecDepth 100000
set_option linter.unusedSimpArgs false
set_option linter.unusedVariables false
variable (F : Fz) (M : Hp)

def onlyA (v : V) : Value := .tuple #[.int .i64 (v.nextR 0), .bool (decide (0 ≤ v.nextR 0) && decide (v.nextR (v.nextR 0 + 1) < 0))]
theorem k22 (v : V) (hv : v.ok = true) : CallsA Try.prog 22 [v.val] F M (Same F M (onlyA v)) := by
  refine callsA_of hm Try.func22 e22 (Nat.le_of_ble_eq_true rfl) ?_
  have hl := isW_le (ok_isW hv)
  have hn := nextR_le hv 0
  have hm := mostV_pos hl.2
  have e1 : IntKind.i64.wrap (v.nextR 0 + 1) = v.nextR 0 + 1 := w64 (by omega) (by omega)
  simp only [c22, go_sem, reduceCtorEq, reduceIte, Nat.reduceEqDiff, Nat.reduceAdd, Nat.reduceLeDiff, Nat.reduceMul, Int.reduceLT, Int.reduceLE, Int.reduceAdd, Int.reduceSub, Int.reduceMul, Int.reduceNeg, Int.reduceToNat, Int.reduceEq]
  intro r hF hM
  simp only [go_sem, reduceCtorEq, reduceIte, Nat.reduceEqDiff, Nat.reduceAdd, Nat.reduceLeDiff, Nat.reduceMul, Int.reduceLT, Int.reduceLE, Int.reduceAdd, Int.reduceSub, Int.reduceMul, Int.reduceNeg, Int.reduceToNat, Int.reduceEq]
  refine callK_same (k19 F _ v 0 hl.1 hl.2) ?_
  simp only [go_sem, reduceCtorEq, reduceIte, Nat.reduceEqDiff, Nat.reduceAdd, Nat.reduceLeDiff, Nat.reduceMul, Int.reduceLT, Int.reduceLE, Int.reduceAdd, Int.reduceSub, Int.reduceMul, Int.reduceNeg, Int.reduceToNat, Int.reduceEq]
  by_cases h0 : 0 ≤ v.nextR 0
  · simp only [go_sem, reduceCtorEq, reduceIte, Nat.reduceEqDiff, Nat.reduceAdd, Nat.reduceLeDiff, Nat.reduceMul, Int.reduceLT, Int.reduceLE, Int.reduceAdd, Int.reduceSub, Int.reduceMul, Int.reduceNeg, Int.reduceToNat, Int.reduceEq, h0, e1]
    refine callK_same (k19 F _ v (v.nextR 0 + 1) hl.1 hl.2) ?_
    simp only [go_sem, reduceCtorEq, reduceIte, Nat.reduceEqDiff, Nat.reduceAdd, Nat.reduceLeDiff, Nat.reduceMul, Int.reduceLT, Int.reduceLE, Int.reduceAdd, Int.reduceSub, Int.reduceMul, Int.reduceNeg, Int.reduceToNat, Int.reduceEq, h0, e1]
    exact endK_drop hM (endK_same ⟨by simp [onlyA, retV, h0], rfl, rfl⟩)
  · simp only [go_sem, reduceCtorEq, reduceIte, Nat.reduceEqDiff, Nat.reduceAdd, Nat.reduceLeDiff, Nat.reduceMul, Int.reduceLT, Int.reduceLE, Int.reduceAdd, Int.reduceSub, Int.reduceMul, Int.reduceNeg, Int.reduceToNat, Int.reduceEq, h0, e1]
    exact endK_drop hM (endK_same ⟨by simp [onlyA, retV, h0], rfl, rfl⟩)
end Go.Proofs.Try.K
