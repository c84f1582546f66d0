/- Contracts: small words of other laws. -/
import Derived.Test.YtplcaoidiohlmaaK10
namespace Go.Proofs.Try.K
open Go Go.Ax Go.Proofs.Try.S
set_option maxRecDepth 100000
set_option linter.unusedSimpArgs false
set_option linter.unusedVariables false
variable (F : Fz) (M : Hp)

theorem k30 : CallsA Try.prog 30 [.int .i64 3, .int .i64 2] F M (Same F M (.int .i64 1)) := by
  refine callsA_of hm Try.func30 e30 (Nat.le_of_ble_eq_true rfl) ?_
  have e1 : IntKind.u64.wrap 3 = 3 := by decide
  have e2 : IntKind.u64.wrap 2 = 2 := by decide
  have e3 : Int.tmod 3 2 = 1 := by decide
  have e4 : IntKind.i64.wrap 1 = 1 := by decide
  simp only [c30, go_sem, reduceCtorEq, reduceIte, Nat.reduceEqDiff, Nat.reduceAdd, Nat.reduceLeDiff, Nat.reduceMul, Int.reduceLT, Int.reduceLE, Int.reduceAdd, Int.reduceSub, Int.reduceMul, Int.reduceNeg, Int.reduceToNat, Int.reduceEq, e1, e2, e3, e4, not_false_eq_true]
  exact endK_same ⟨rfl, rfl, rfl⟩
theorem k57 : CallsA Try.prog 57 [.slice none 0 0] F M (Same F M (.int .i64 0)) := by
  refine callsA_of hm Try.func57 e57 (Nat.le_of_ble_eq_true rfl) ?_
  simp only [c57, go_sem, reduceCtorEq, reduceIte, Nat.reduceEqDiff, Nat.reduceAdd, Nat.reduceLeDiff, Nat.reduceMul, Int.reduceLT, Int.reduceLE, Int.reduceAdd, Int.reduceSub, Int.reduceMul, Int.reduceNeg, Int.reduceToNat, Int.reduceEq]
  refine loop_of (fun m σ F' M' => F' = F ∧ M' = M ∧ Ax.look σ 0 = some (.slice none 0 0) ∧ Ax.look σ 3 = some (.int .i64 0) ∧ Ax.look σ 4 = some (.int .i64 0)) 0 ?_ ?_
  · exact ⟨rfl, rfl, by simp only [go_sem, reduceCtorEq, reduceIte, Nat.reduceEqDiff, Nat.reduceAdd, Nat.reduceLeDiff, Nat.reduceMul, Int.reduceLT, Int.reduceLE, Int.reduceAdd, Int.reduceSub, Int.reduceMul, Int.reduceNeg, Int.reduceToNat, Int.reduceEq], by simp only [go_sem, reduceCtorEq, reduceIte, Nat.reduceEqDiff, Nat.reduceAdd, Nat.reduceLeDiff, Nat.reduceMul, Int.reduceLT, Int.reduceLE, Int.reduceAdd, Int.reduceSub, Int.reduceMul, Int.reduceNeg, Int.reduceToNat, Int.reduceEq], by simp only [go_sem, reduceCtorEq, reduceIte, Nat.reduceEqDiff, Nat.reduceAdd, Nat.reduceLeDiff, Nat.reduceMul, Int.reduceLT, Int.reduceLE, Int.reduceAdd, Int.reduceSub, Int.reduceMul, Int.reduceNeg, Int.reduceToNat, Int.reduceEq]⟩
  · rintro m σ F' M' ⟨rfl, rfl, h0, h3, h4⟩
    simp only [go_sem, reduceCtorEq, reduceIte, Nat.reduceEqDiff, Nat.reduceAdd, Nat.reduceLeDiff, Nat.reduceMul, Int.reduceLT, Int.reduceLE, Int.reduceAdd, Int.reduceSub, Int.reduceMul, Int.reduceNeg, Int.reduceToNat, Int.reduceEq, h0, h3, h4]
    exact endK_same ⟨rfl, rfl, rfl⟩
theorem k31 : CallsA Try.prog 31 [.agg #[.slice none 0 0, .slice none 0 0, .slice none 0 0]] F M (Same F M (.bool false)) := by
  refine callsA_of hm Try.func31 e31 (Nat.le_of_ble_eq_true rfl) ?_
  simp only [c31, go_sem, reduceCtorEq, reduceIte, Nat.reduceEqDiff, Nat.reduceAdd, Nat.reduceLeDiff, Nat.reduceMul, Int.reduceLT, Int.reduceLE, Int.reduceAdd, Int.reduceSub, Int.reduceMul, Int.reduceNeg, Int.reduceToNat, Int.reduceEq]
  intro r hF hM
  simp only [go_sem, reduceCtorEq, reduceIte, Nat.reduceEqDiff, Nat.reduceAdd, Nat.reduceLeDiff, Nat.reduceMul, Int.reduceLT, Int.reduceLE, Int.reduceAdd, Int.reduceSub, Int.reduceMul, Int.reduceNeg, Int.reduceToNat, Int.reduceEq]
  refine callK_same (k57 F _) ?_
  simp only [go_sem, reduceCtorEq, reduceIte, Nat.reduceEqDiff, Nat.reduceAdd, Nat.reduceLeDiff, Nat.reduceMul, Int.reduceLT, Int.reduceLE, Int.reduceAdd, Int.reduceSub, Int.reduceMul, Int.reduceNeg, Int.reduceToNat, Int.reduceEq]
  exact endK_drop hM (endK_same ⟨rfl, rfl, rfl⟩)
end Go.Proofs.Try.K
