/- Contracts of the words, and of the sets' small functions. -/
import Derived.Test.YtplcaoidiohlmaaS
import Derived.Test.YtplcaoidiohlmaaAx14
namespace Go.Proofs.Try.K
open Go Go.Ax Go.Proofs.Try.S
set_option maxRecDepth 100000
set_option linter.unusedSimpArgs false
set_option linter.unusedVariables false
abbrev Same (F : Fz) (M : Hp) (r : Value) : Value → Fz → Hp → Prop := fun v F' M' => v = r ∧ F' = F ∧ M' = M
theorem hm : Try.prog.follows .mixedOrders = true := by kernel_rfl
variable (F : Fz) (M : Hp)

theorem k44 (w : Int) : CallsA Try.prog 44 [.int .i64 w] F M (Same F M (.bool (isW w))) := by
  refine callsA_of hm Try.func44 e44 (Nat.le_of_ble_eq_true rfl) ?_
  simp only [c44, go_sem, reduceCtorEq, reduceIte, Nat.reduceEqDiff, Nat.reduceAdd, Nat.reduceLeDiff, Nat.reduceMul, Int.reduceLT, Int.reduceLE, Int.reduceAdd, Int.reduceSub, Int.reduceMul, Int.reduceNeg, Int.reduceToNat, Int.reduceEq]
  repeat' (refine gK_of (fun h => ?_) (fun h => ?_) <;> simp only [go_sem, reduceCtorEq, reduceIte, Nat.reduceEqDiff, Nat.reduceAdd, Nat.reduceLeDiff, Nat.reduceMul, Int.reduceLT, Int.reduceLE, Int.reduceAdd, Int.reduceSub, Int.reduceMul, Int.reduceNeg, Int.reduceToNat, Int.reduceEq, h])
  all_goals exact endK_same ⟨by simp_all [isW], rfl, rfl⟩
theorem k16 (w : Int) : CallsA Try.prog 16 [.int .i64 w] F M (Same F M (.bool (isW w))) := by
  refine callsA_of hm Try.func16 e16 (Nat.le_of_ble_eq_true rfl) ?_
  simp only [c16, go_sem, reduceCtorEq, reduceIte, Nat.reduceEqDiff, Nat.reduceAdd, Nat.reduceLeDiff, Nat.reduceMul, Int.reduceLT, Int.reduceLE, Int.reduceAdd, Int.reduceSub, Int.reduceMul, Int.reduceNeg, Int.reduceToNat, Int.reduceEq]
  repeat' (refine gK_of (fun h => ?_) (fun h => ?_) <;> simp only [go_sem, reduceCtorEq, reduceIte, Nat.reduceEqDiff, Nat.reduceAdd, Nat.reduceLeDiff, Nat.reduceMul, Int.reduceLT, Int.reduceLE, Int.reduceAdd, Int.reduceSub, Int.reduceMul, Int.reduceNeg, Int.reduceToNat, Int.reduceEq, h])
  all_goals exact endK_same ⟨by simp_all [isW], rfl, rfl⟩
theorem k17 (n : Int) : CallsA Try.prog 17 [.int .i64 n] F M (Same F M (.int .i64 n)) := by
  refine callsA_of hm Try.func17 e17 (Nat.le_of_ble_eq_true rfl) ?_
  simp only [c17, go_sem, reduceCtorEq, reduceIte, Nat.reduceEqDiff, Nat.reduceAdd, Nat.reduceLeDiff, Nat.reduceMul, Int.reduceLT, Int.reduceLE, Int.reduceAdd, Int.reduceSub, Int.reduceMul, Int.reduceNeg, Int.reduceToNat, Int.reduceEq]
  exact endK_same ⟨rfl, rfl, rfl⟩
theorem k50 (n m : Int) : CallsA Try.prog 50 [.int .i64 n, .int .i64 m] F M (Same F M (.bool (decide (0 ≤ n) && decide (n ≤ m)))) := by
  refine callsA_of hm Try.func50 e50 (Nat.le_of_ble_eq_true rfl) ?_
  simp only [c50, go_sem, reduceCtorEq, reduceIte, Nat.reduceEqDiff, Nat.reduceAdd, Nat.reduceLeDiff, Nat.reduceMul, Int.reduceLT, Int.reduceLE, Int.reduceAdd, Int.reduceSub, Int.reduceMul, Int.reduceNeg, Int.reduceToNat, Int.reduceEq]
  repeat' (refine gK_of (fun h => ?_) (fun h => ?_) <;> simp only [go_sem, reduceCtorEq, reduceIte, Nat.reduceEqDiff, Nat.reduceAdd, Nat.reduceLeDiff, Nat.reduceMul, Int.reduceLT, Int.reduceLE, Int.reduceAdd, Int.reduceSub, Int.reduceMul, Int.reduceNeg, Int.reduceToNat, Int.reduceEq, h])
  all_goals exact endK_same ⟨by simp_all, rfl, rfl⟩
theorem k51 (n l m : Int) : CallsA Try.prog 51 [.int .i64 n, .int .i64 l, .int .i64 m] F M (Same F M (.bool (decide (l ≤ n) && decide (n ≤ m)))) := by
  refine callsA_of hm Try.func51 e51 (Nat.le_of_ble_eq_true rfl) ?_
  simp only [c51, go_sem, reduceCtorEq, reduceIte, Nat.reduceEqDiff, Nat.reduceAdd, Nat.reduceLeDiff, Nat.reduceMul, Int.reduceLT, Int.reduceLE, Int.reduceAdd, Int.reduceSub, Int.reduceMul, Int.reduceNeg, Int.reduceToNat, Int.reduceEq]
  repeat' (refine gK_of (fun h => ?_) (fun h => ?_) <;> simp only [go_sem, reduceCtorEq, reduceIte, Nat.reduceEqDiff, Nat.reduceAdd, Nat.reduceLeDiff, Nat.reduceMul, Int.reduceLT, Int.reduceLE, Int.reduceAdd, Int.reduceSub, Int.reduceMul, Int.reduceNeg, Int.reduceToNat, Int.reduceEq, h])
  all_goals exact endK_same ⟨by simp_all, rfl, rfl⟩
theorem k67 (w : Int) (h0 : 0 ≤ w) (h1 : w ≤ 62) : CallsA Try.prog 67 [.int .i64 w] F M (Same F M (.int .i64 (mostV w))) := by
  refine callsA_of hm Try.func67 e67 (Nat.le_of_ble_eq_true rfl) ?_
  have : ¬ w < 0 := by omega
  simp only [c67, go_sem, reduceCtorEq, reduceIte, Nat.reduceEqDiff, Nat.reduceAdd, Nat.reduceLeDiff, Nat.reduceMul, Int.reduceLT, Int.reduceLE, Int.reduceAdd, Int.reduceSub, Int.reduceMul, Int.reduceNeg, Int.reduceToNat, Int.reduceEq, this, shl1 h0 h1, most_wrap h0 h1]
  exact endK_same ⟨rfl, rfl, rfl⟩
theorem k48 (n w : Int) (h0 : 0 ≤ w) (h1 : w ≤ 62) : CallsA Try.prog 48 [.int .i64 n, .int .i64 w] F M (Same F M (.bool (isN n w))) := by
  refine callsA_of hm Try.func48 e48 (Nat.le_of_ble_eq_true rfl) ?_
  simp only [c48, go_sem, reduceCtorEq, reduceIte, Nat.reduceEqDiff, Nat.reduceAdd, Nat.reduceLeDiff, Nat.reduceMul, Int.reduceLT, Int.reduceLE, Int.reduceAdd, Int.reduceSub, Int.reduceMul, Int.reduceNeg, Int.reduceToNat, Int.reduceEq]
  refine gK_of (fun h => ?_) (fun h => ?_) <;> simp only [go_sem, reduceCtorEq, reduceIte, Nat.reduceEqDiff, Nat.reduceAdd, Nat.reduceLeDiff, Nat.reduceMul, Int.reduceLT, Int.reduceLE, Int.reduceAdd, Int.reduceSub, Int.reduceMul, Int.reduceNeg, Int.reduceToNat, Int.reduceEq, h]
  · refine callK_same (k67 F M w h0 h1) ?_
    simp only [go_sem, reduceCtorEq, reduceIte, Nat.reduceEqDiff, Nat.reduceAdd, Nat.reduceLeDiff, Nat.reduceMul, Int.reduceLT, Int.reduceLE, Int.reduceAdd, Int.reduceSub, Int.reduceMul, Int.reduceNeg, Int.reduceToNat, Int.reduceEq, h]
    exact endK_same ⟨by simp_all [isN], rfl, rfl⟩
  · exact endK_same ⟨by simp_all [isN]; omega, rfl, rfl⟩
theorem k21 (n w : Int) (h0 : 0 ≤ w) (h1 : w ≤ 62) : CallsA Try.prog 21 [.int .i64 n, .int .i64 w] F M (Same F M (.bool (isN n w))) := by
  refine callsA_of hm Try.func21 e21 (Nat.le_of_ble_eq_true rfl) ?_
  have : ¬ w < 0 := by omega
  simp only [c21, go_sem, reduceCtorEq, reduceIte, Nat.reduceEqDiff, Nat.reduceAdd, Nat.reduceLeDiff, Nat.reduceMul, Int.reduceLT, Int.reduceLE, Int.reduceAdd, Int.reduceSub, Int.reduceMul, Int.reduceNeg, Int.reduceToNat, Int.reduceEq, this, shl1 h0 h1, most_wrap h0 h1]
  refine callK_same (k50 F M n (mostV w)) ?_
  simp only [go_sem, reduceCtorEq, reduceIte, Nat.reduceEqDiff, Nat.reduceAdd, Nat.reduceLeDiff, Nat.reduceMul, Int.reduceLT, Int.reduceLE, Int.reduceAdd, Int.reduceSub, Int.reduceMul, Int.reduceNeg, Int.reduceToNat, Int.reduceEq]
  exact endK_same ⟨rfl, rfl, rfl⟩
theorem k46 (w : Int) : CallsA Try.prog 46 [.int .i64 w] F M (Same F M (V.nothing w).val) := by
  refine callsA_of hm Try.func46 e46 (Nat.le_of_ble_eq_true rfl) ?_
  simp only [c46, go_sem, reduceCtorEq, reduceIte, Nat.reduceEqDiff, Nat.reduceAdd, Nat.reduceLeDiff, Nat.reduceMul, Int.reduceLT, Int.reduceLE, Int.reduceAdd, Int.reduceSub, Int.reduceMul, Int.reduceNeg, Int.reduceToNat, Int.reduceEq]
  intro r hF hM
  simp only [go_sem, reduceCtorEq, reduceIte, Nat.reduceEqDiff, Nat.reduceAdd, Nat.reduceLeDiff, Nat.reduceMul, Int.reduceLT, Int.reduceLE, Int.reduceAdd, Int.reduceSub, Int.reduceMul, Int.reduceNeg, Int.reduceToNat, Int.reduceEq]
  exact endK_drop hM (endK_same ⟨rfl, rfl, rfl⟩)
theorem k49 (w n : Int) : CallsA Try.prog 49 [.int .i64 w, .int .i64 n] F M (Same F M (V.just w n).val) := by
  refine callsA_of hm Try.func49 e49 (Nat.le_of_ble_eq_true rfl) ?_
  simp only [c49, go_sem, reduceCtorEq, reduceIte, Nat.reduceEqDiff, Nat.reduceAdd, Nat.reduceLeDiff, Nat.reduceMul, Int.reduceLT, Int.reduceLE, Int.reduceAdd, Int.reduceSub, Int.reduceMul, Int.reduceNeg, Int.reduceToNat, Int.reduceEq]
  intro r hF hM
  simp only [go_sem, reduceCtorEq, reduceIte, Nat.reduceEqDiff, Nat.reduceAdd, Nat.reduceLeDiff, Nat.reduceMul, Int.reduceLT, Int.reduceLE, Int.reduceAdd, Int.reduceSub, Int.reduceMul, Int.reduceNeg, Int.reduceToNat, Int.reduceEq]
  exact endK_drop hM (endK_same ⟨rfl, rfl, rfl⟩)
theorem k45 (w : Int) (h0 : 0 ≤ w) (h1 : w ≤ 62) : CallsA Try.prog 45 [.int .i64 w] F M (Same F M (V.whole w).val) := by
  refine callsA_of hm Try.func45 e45 (Nat.le_of_ble_eq_true rfl) ?_
  simp only [c45, go_sem, reduceCtorEq, reduceIte, Nat.reduceEqDiff, Nat.reduceAdd, Nat.reduceLeDiff, Nat.reduceMul, Int.reduceLT, Int.reduceLE, Int.reduceAdd, Int.reduceSub, Int.reduceMul, Int.reduceNeg, Int.reduceToNat, Int.reduceEq]
  intro r hF hM
  simp only [go_sem, reduceCtorEq, reduceIte, Nat.reduceEqDiff, Nat.reduceAdd, Nat.reduceLeDiff, Nat.reduceMul, Int.reduceLT, Int.reduceLE, Int.reduceAdd, Int.reduceSub, Int.reduceMul, Int.reduceNeg, Int.reduceToNat, Int.reduceEq]
  refine callK_same (k67 F _ w h0 h1) ?_
  simp only [go_sem, reduceCtorEq, reduceIte, Nat.reduceEqDiff, Nat.reduceAdd, Nat.reduceLeDiff, Nat.reduceMul, Int.reduceLT, Int.reduceLE, Int.reduceAdd, Int.reduceSub, Int.reduceMul, Int.reduceNeg, Int.reduceToNat, Int.reduceEq]
  refine callK_same (k67 F _ w h0 h1) ?_
  simp only [go_sem, reduceCtorEq, reduceIte, Nat.reduceEqDiff, Nat.reduceAdd, Nat.reduceLeDiff, Nat.reduceMul, Int.reduceLT, Int.reduceLE, Int.reduceAdd, Int.reduceSub, Int.reduceMul, Int.reduceNeg, Int.reduceToNat, Int.reduceEq]
  exact endK_drop hM (endK_same ⟨rfl, rfl, rfl⟩)
theorem k20 (w n : Int) : CallsA Try.prog 20 [.int .i64 w, .int .i64 n] F M
    (Same F M (if isW w && isN n w then .tuple #[(V.just w n).val, .int .i64 0] else .tuple #[V.zero.val, .int .i64 1])) := by
  refine callsA_of hm Try.func20 e20 (Nat.le_of_ble_eq_true rfl) ?_
  by_cases hw : isW w = true
  · by_cases hn : isN n w = true
    all_goals
      simp only [c20, go_sem, reduceCtorEq, reduceIte, Nat.reduceEqDiff, Nat.reduceAdd, Nat.reduceLeDiff, Nat.reduceMul, Int.reduceLT, Int.reduceLE, Int.reduceAdd, Int.reduceSub, Int.reduceMul, Int.reduceNeg, Int.reduceToNat, Int.reduceEq]
      intro r hF hM
      simp only [go_sem, reduceCtorEq, reduceIte, Nat.reduceEqDiff, Nat.reduceAdd, Nat.reduceLeDiff, Nat.reduceMul, Int.reduceLT, Int.reduceLE, Int.reduceAdd, Int.reduceSub, Int.reduceMul, Int.reduceNeg, Int.reduceToNat, Int.reduceEq]
      refine callK_same (k44 F _ w) ?_
      simp only [go_sem, reduceCtorEq, reduceIte, Nat.reduceEqDiff, Nat.reduceAdd, Nat.reduceLeDiff, Nat.reduceMul, Int.reduceLT, Int.reduceLE, Int.reduceAdd, Int.reduceSub, Int.reduceMul, Int.reduceNeg, Int.reduceToNat, Int.reduceEq, hw]
      refine callK_same (k48 F _ n w (isW_le hw).1 (isW_le hw).2) ?_
      simp only [go_sem, reduceCtorEq, reduceIte, Nat.reduceEqDiff, Nat.reduceAdd, Nat.reduceLeDiff, Nat.reduceMul, Int.reduceLT, Int.reduceLE, Int.reduceAdd, Int.reduceSub, Int.reduceMul, Int.reduceNeg, Int.reduceToNat, Int.reduceEq, hn]
    · refine callK_same (k49 F _ w n) ?_
      simp only [go_sem, reduceCtorEq, reduceIte, Nat.reduceEqDiff, Nat.reduceAdd, Nat.reduceLeDiff, Nat.reduceMul, Int.reduceLT, Int.reduceLE, Int.reduceAdd, Int.reduceSub, Int.reduceMul, Int.reduceNeg, Int.reduceToNat, Int.reduceEq, hn]
      exact endK_drop hM (endK_same ⟨rfl, rfl, rfl⟩)
    · exact endK_drop hM (endK_same ⟨rfl, rfl, rfl⟩)
  · simp only [c20, go_sem, reduceCtorEq, reduceIte, Nat.reduceEqDiff, Nat.reduceAdd, Nat.reduceLeDiff, Nat.reduceMul, Int.reduceLT, Int.reduceLE, Int.reduceAdd, Int.reduceSub, Int.reduceMul, Int.reduceNeg, Int.reduceToNat, Int.reduceEq]
    intro r hF hM
    simp only [go_sem, reduceCtorEq, reduceIte, Nat.reduceEqDiff, Nat.reduceAdd, Nat.reduceLeDiff, Nat.reduceMul, Int.reduceLT, Int.reduceLE, Int.reduceAdd, Int.reduceSub, Int.reduceMul, Int.reduceNeg, Int.reduceToNat, Int.reduceEq]
    refine callK_same (k44 F _ w) ?_
    simp only [go_sem, reduceCtorEq, reduceIte, Nat.reduceEqDiff, Nat.reduceAdd, Nat.reduceLeDiff, Nat.reduceMul, Int.reduceLT, Int.reduceLE, Int.reduceAdd, Int.reduceSub, Int.reduceMul, Int.reduceNeg, Int.reduceToNat, Int.reduceEq, hw]

    exact endK_drop hM (endK_same ⟨rfl, rfl, rfl⟩)
end Go.Proofs.Try.K
