/- Contracts: just one. -/
import Derived.Test.YtplcaoidiohlmaaK9
namespace Go.Proofs.Try.K
open Go Go.Ax Go.Proofs.Try.S
set_option maxRecDepth 100000
set_option linter.unusedSimpArgs false
set_option linter.unusedVariables false
variable (F : Fz) (M : Hp)

def loneA (v : V) : Value := .tuple #[.int .i64 (if v.is1 then v.nextR 0 else 0), .bool v.is1]
theorem k56 (v : V) (hv : v.ok = true) : CallsA Try.prog 56 [v.val] F M (Same F M (loneA v)) := by
  refine callsA_of hm Try.func56 e56 (Nat.le_of_ble_eq_true rfl) ?_
  simp only [c56, go_sem, reduceCtorEq, reduceIte, Nat.reduceEqDiff, Nat.reduceAdd, Nat.reduceLeDiff, Nat.reduceMul, Int.reduceLT, Int.reduceLE, Int.reduceAdd, Int.reduceSub, Int.reduceMul, Int.reduceNeg, Int.reduceToNat, Int.reduceEq]
  intro r hF hM
  simp only [go_sem, reduceCtorEq, reduceIte, Nat.reduceEqDiff, Nat.reduceAdd, Nat.reduceLeDiff, Nat.reduceMul, Int.reduceLT, Int.reduceLE, Int.reduceAdd, Int.reduceSub, Int.reduceMul, Int.reduceNeg, Int.reduceToNat, Int.reduceEq]
  refine callK_of (k71 F _ v 1 hv (by omega)) ?_
  rintro u G M' ⟨hG, ⟨hlen, ⟨hnil, rfl, rfl⟩ | ⟨g, cap, hFg, hMg, rfl, rfl⟩⟩ | ⟨hlen, rfl, rfl⟩⟩ <;> rw [hG] <;> refine ⟨(fun h => by cases h), ?_⟩
  · have e : v.is1 = false := by
      rw [V.members1] at hnil
      split at hnil
      · simp [V.is1]; omega
      · cases hnil
    simp only [go_sem, reduceCtorEq, reduceIte, Nat.reduceEqDiff, Nat.reduceAdd, Nat.reduceLeDiff, Nat.reduceMul, Int.reduceLT, Int.reduceLE, Int.reduceAdd, Int.reduceSub, Int.reduceMul, Int.reduceNeg, Int.reduceToNat, Int.reduceEq]
    exact endK_drop hM (endK_same ⟨by simp [loneA, e], rfl, rfl⟩)
  · by_cases hx : v.nextR 0 < 0
    · have e : v.is1 = false := by simp [V.is1]; omega
      have hm : v.members 1 = [] := by rw [V.members1, if_pos hx]
      simp only [hm, go_sem, reduceCtorEq, reduceIte, Nat.reduceEqDiff, Nat.reduceAdd, Nat.reduceLeDiff, Nat.reduceMul, Int.reduceLT, Int.reduceLE, Int.reduceAdd, Int.reduceSub, Int.reduceMul, Int.reduceNeg, Int.reduceToNat, Int.reduceEq]
      exact endK_drop hMg (endK_drop hM (endK_same ⟨by simp [loneA, e], rfl, rfl⟩))
    · by_cases hy : v.nextR (v.nextR 0 + 1) < 0
      · have e : v.is1 = true := by simp [V.is1, hy]; omega
        have hm : v.members 1 = [v.nextR 0] := by rw [V.members1, if_neg hx, if_pos hy]
        simp only [hm, go_sem, reduceCtorEq, reduceIte, Nat.reduceEqDiff, Nat.reduceAdd, Nat.reduceLeDiff, Nat.reduceMul, Int.reduceLT, Int.reduceLE, Int.reduceAdd, Int.reduceSub, Int.reduceMul, Int.reduceNeg, Int.reduceToNat, Int.reduceEq, List.map_cons, List.map_nil, intV]
        exact endK_drop hMg (endK_drop hM (endK_same ⟨by simp [loneA, e], rfl, rfl⟩))
      · rw [V.members1, if_neg hx, if_neg hy] at hlen
        simp at hlen
  · have e : v.is1 = false := by
      rw [V.members1] at hlen
      split at hlen
      · simp at hlen
      · split at hlen
        · simp at hlen
        · rename_i hy
          simp [V.is1, hy]
    simp only [go_sem, reduceCtorEq, reduceIte, Nat.reduceEqDiff, Nat.reduceAdd, Nat.reduceLeDiff, Nat.reduceMul, Int.reduceLT, Int.reduceLE, Int.reduceAdd, Int.reduceSub, Int.reduceMul, Int.reduceNeg, Int.reduceToNat, Int.reduceEq]
    exact endK_drop hM (endK_same ⟨by simp [loneA, e], rfl, rfl⟩)

def singleA (v : V) : Value := if v.ok then .tuple #[.bool v.is1, .int .i64 (if v.is1 then v.nextR 0 else 0), .int .i64 0] else .tuple #[.bool false, .int .i64 0, .int .i64 1]
theorem k28 (v : V) : CallsA Try.prog 28 [v.val] F M (Same F M (singleA v)) := by
  refine callsA_of hm Try.func28 e28 (Nat.le_of_ble_eq_true rfl) ?_
  simp only [c28, go_sem, reduceCtorEq, reduceIte, Nat.reduceEqDiff, Nat.reduceAdd, Nat.reduceLeDiff, Nat.reduceMul, Int.reduceLT, Int.reduceLE, Int.reduceAdd, Int.reduceSub, Int.reduceMul, Int.reduceNeg, Int.reduceToNat, Int.reduceEq]
  intro r hF hM
  simp only [go_sem, reduceCtorEq, reduceIte, Nat.reduceEqDiff, Nat.reduceAdd, Nat.reduceLeDiff, Nat.reduceMul, Int.reduceLT, Int.reduceLE, Int.reduceAdd, Int.reduceSub, Int.reduceMul, Int.reduceNeg, Int.reduceToNat, Int.reduceEq]
  refine callK_same (k52 F _ v) ?_
  cases hv : v.ok
  · simp only [go_sem, reduceCtorEq, reduceIte, Nat.reduceEqDiff, Nat.reduceAdd, Nat.reduceLeDiff, Nat.reduceMul, Int.reduceLT, Int.reduceLE, Int.reduceAdd, Int.reduceSub, Int.reduceMul, Int.reduceNeg, Int.reduceToNat, Int.reduceEq]
    exact endK_drop hM (endK_same ⟨by simp [singleA, hv], rfl, rfl⟩)
  simp only [go_sem, reduceCtorEq, reduceIte, Nat.reduceEqDiff, Nat.reduceAdd, Nat.reduceLeDiff, Nat.reduceMul, Int.reduceLT, Int.reduceLE, Int.reduceAdd, Int.reduceSub, Int.reduceMul, Int.reduceNeg, Int.reduceToNat, Int.reduceEq]
  refine callK_same (k56 F _ v hv) ?_
  simp only [loneA, go_sem, reduceCtorEq, reduceIte, Nat.reduceEqDiff, Nat.reduceAdd, Nat.reduceLeDiff, Nat.reduceMul, Int.reduceLT, Int.reduceLE, Int.reduceAdd, Int.reduceSub, Int.reduceMul, Int.reduceNeg, Int.reduceToNat, Int.reduceEq]
  exact endK_drop hM (endK_same ⟨by simp [singleA, hv], rfl, rfl⟩)
theorem onlyA_eq (v : V) : onlyA v = .tuple #[.int .i64 (v.nextR 0), .bool v.is1] := rfl
end Go.Proofs.Try.K
