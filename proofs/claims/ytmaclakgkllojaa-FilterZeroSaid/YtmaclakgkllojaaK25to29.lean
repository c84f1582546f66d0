/- Parts K25to29: the machine's runs of small codes, contracts of functions, plain facts. -/
import Derived.Test.YtmaclakgkllojaaK20to24
/- Contracts: kinds of numbers. -/
namespace Go.Proofs.Try.K
open Go Go.Ax Go.Proofs.Try.S
set_option maxRecDepth 100000
set_option linter.unusedSimpArgs false
set_option linter.unusedVariables false
variable (F : Fz) (M : Hp)

theorem k104 (k : Int) : CallsA Try.prog 104 [.int .i64 k] F M (Same F M (.bool (isK k))) := by
  refine callsA_of hm Try.func104 e104 (Nat.le_of_ble_eq_true rfl) ?_
  by_cases h1 : 1 ≤ k
  · by_cases h2 : k ≤ 6
    · simp only [c104, go_sem, reduceCtorEq, reduceIte, Nat.reduceEqDiff, Nat.reduceAdd, Nat.reduceLeDiff, Nat.reduceMul, Int.reduceLT, Int.reduceLE, Int.reduceAdd, Int.reduceSub, Int.reduceMul, Int.reduceNeg, Int.reduceToNat, Int.reduceEq, h1, h2]
      exact endK_same ⟨by simp [isK, h1, h2], rfl, rfl⟩
    · simp only [c104, go_sem, reduceCtorEq, reduceIte, Nat.reduceEqDiff, Nat.reduceAdd, Nat.reduceLeDiff, Nat.reduceMul, Int.reduceLT, Int.reduceLE, Int.reduceAdd, Int.reduceSub, Int.reduceMul, Int.reduceNeg, Int.reduceToNat, Int.reduceEq, h1, h2]
      exact endK_same ⟨by simp [isK, h1, h2], rfl, rfl⟩
  · simp only [c104, go_sem, reduceCtorEq, reduceIte, Nat.reduceEqDiff, Nat.reduceAdd, Nat.reduceLeDiff, Nat.reduceMul, Int.reduceLT, Int.reduceLE, Int.reduceAdd, Int.reduceSub, Int.reduceMul, Int.reduceNeg, Int.reduceToNat, Int.reduceEq, h1]
    exact endK_same ⟨by simp [isK, h1], rfl, rfl⟩
theorem k101 (k : Int) (hk : isK k = true) : CallsA Try.prog 101 [.int .i64 k] F M (Same F M (.int .i64 (ofW k))) := by
  refine callsA_of hm Try.func101 e101 (Nat.le_of_ble_eq_true rfl) ?_
  have q0 : (0 : Int).tdiv 2 = 0 := by decide
  have q1 : (1 : Int).tdiv 2 = 0 := by decide
  have q2 : (2 : Int).tdiv 2 = 1 := by decide
  have q3 : (3 : Int).tdiv 2 = 1 := by decide
  have q4 : (4 : Int).tdiv 2 = 2 := by decide
  have q5 : (5 : Int).tdiv 2 = 2 := by decide
  have w0 : IntKind.i64.wrap 0 = 0 := by decide
  have w1 : IntKind.i64.wrap 1 = 1 := by decide
  have w2 : IntKind.i64.wrap 2 = 2 := by decide
  have w3 : IntKind.i64.wrap 3 = 3 := by decide
  have w4 : IntKind.i64.wrap 4 = 4 := by decide
  have w5 : IntKind.i64.wrap 5 = 5 := by decide
  have s0 : shlv .i64 8 0 = 8 := by decide +kernel
  have s1 : shlv .i64 8 1 = 16 := by decide +kernel
  have s2 : shlv .i64 8 2 = 32 := by decide +kernel
  have n2 : ¬ (2 : Int) = 0 := by decide
  rcases isK_cases hk with rfl | rfl | rfl | rfl | rfl | rfl <;>
    simp only [c101, go_sem, reduceCtorEq, reduceIte, Nat.reduceEqDiff, Nat.reduceAdd, Nat.reduceLeDiff, Nat.reduceMul, Int.reduceLT, Int.reduceLE, Int.reduceAdd, Int.reduceSub, Int.reduceMul, Int.reduceNeg, Int.reduceToNat, Int.reduceEq, w0, w1, w2, w3, w4, w5, q0, q1, q2, q3, q4, q5, s0, s1, s2, n2, not_false_eq_true, Int.sub_self] <;>
    exact endK_same ⟨rfl, rfl, rfl⟩
theorem k157 (k : Int) : CallsA Try.prog 157 [.int .i64 k] F M (Same F M (.bool (sgn k))) := by
  refine callsA_of hm Try.func157 e157 (Nat.le_of_ble_eq_true rfl) ?_
  by_cases h1 : k = 2
  · simp only [c157, go_sem, reduceCtorEq, reduceIte, Nat.reduceEqDiff, Nat.reduceAdd, Nat.reduceLeDiff, Nat.reduceMul, Int.reduceLT, Int.reduceLE, Int.reduceAdd, Int.reduceSub, Int.reduceMul, Int.reduceNeg, Int.reduceToNat, Int.reduceEq, h1]
    exact endK_same ⟨rfl, rfl, rfl⟩
  by_cases h2 : k = 4
  · simp only [c157, go_sem, reduceCtorEq, reduceIte, Nat.reduceEqDiff, Nat.reduceAdd, Nat.reduceLeDiff, Nat.reduceMul, Int.reduceLT, Int.reduceLE, Int.reduceAdd, Int.reduceSub, Int.reduceMul, Int.reduceNeg, Int.reduceToNat, Int.reduceEq, h1, h2]
    exact endK_same ⟨rfl, rfl, rfl⟩
  simp only [c157, go_sem, reduceCtorEq, reduceIte, Nat.reduceEqDiff, Nat.reduceAdd, Nat.reduceLeDiff, Nat.reduceMul, Int.reduceLT, Int.reduceLE, Int.reduceAdd, Int.reduceSub, Int.reduceMul, Int.reduceNeg, Int.reduceToNat, Int.reduceEq, h1, h2]
  exact endK_same ⟨by simp [sgn, h1, h2], rfl, rfl⟩
theorem k87 (k : Int) : CallsA Try.prog 87 [.int .i64 k] F M (Same F M (.bool (sgn k))) := by
  refine callsA_of hm Try.func87 e87 (Nat.le_of_ble_eq_true rfl) ?_
  by_cases h1 : k = 2
  · simp only [c87, go_sem, reduceCtorEq, reduceIte, Nat.reduceEqDiff, Nat.reduceAdd, Nat.reduceLeDiff, Nat.reduceMul, Int.reduceLT, Int.reduceLE, Int.reduceAdd, Int.reduceSub, Int.reduceMul, Int.reduceNeg, Int.reduceToNat, Int.reduceEq, h1]
    exact endK_same ⟨rfl, rfl, rfl⟩
  by_cases h2 : k = 4
  · simp only [c87, go_sem, reduceCtorEq, reduceIte, Nat.reduceEqDiff, Nat.reduceAdd, Nat.reduceLeDiff, Nat.reduceMul, Int.reduceLT, Int.reduceLE, Int.reduceAdd, Int.reduceSub, Int.reduceMul, Int.reduceNeg, Int.reduceToNat, Int.reduceEq, h1, h2]
    exact endK_same ⟨rfl, rfl, rfl⟩
  simp only [c87, go_sem, reduceCtorEq, reduceIte, Nat.reduceEqDiff, Nat.reduceAdd, Nat.reduceLeDiff, Nat.reduceMul, Int.reduceLT, Int.reduceLE, Int.reduceAdd, Int.reduceSub, Int.reduceMul, Int.reduceNeg, Int.reduceToNat, Int.reduceEq, h1, h2]
  exact endK_same ⟨by simp [sgn, h1, h2], rfl, rfl⟩
theorem k46 (k : Int) : CallsA Try.prog 46 [.int .i64 k] F M (Same F M (.int .i64 (wK k))) := by
  refine callsA_of hm Try.func46 e46 (Nat.le_of_ble_eq_true rfl) ?_
  by_cases h : isK k = true
  · rcases isK_cases h with rfl | rfl | rfl | rfl | rfl | rfl <;>
      simp only [c46, go_sem, reduceCtorEq, reduceIte, Nat.reduceEqDiff, Nat.reduceAdd, Nat.reduceLeDiff, Nat.reduceMul, Int.reduceLT, Int.reduceLE, Int.reduceAdd, Int.reduceSub, Int.reduceMul, Int.reduceNeg, Int.reduceToNat, Int.reduceEq] <;>
      exact endK_same ⟨rfl, rfl, rfl⟩
  · have hn : ¬ k = 1 ∧ ¬ k = 2 ∧ ¬ k = 3 ∧ ¬ k = 4 ∧ ¬ k = 5 ∧ ¬ k = 6 := by simp [isK] at h; omega
    simp only [c46, go_sem, reduceCtorEq, reduceIte, Nat.reduceEqDiff, Nat.reduceAdd, Nat.reduceLeDiff, Nat.reduceMul, Int.reduceLT, Int.reduceLE, Int.reduceAdd, Int.reduceSub, Int.reduceMul, Int.reduceNeg, Int.reduceToNat, Int.reduceEq, hn]
    exact endK_same ⟨by simp [wK, h], rfl, rfl⟩
theorem k159 (n w : Int) (hw : isW w = true) (h0 : 0 ≤ n) (h1 : n ≤ mostV w) : CallsA Try.prog 159 [.int .i64 n, .int .i64 w] F M (Same F M (.int .i64 (lookV n w))) := by
  refine callsA_of hm Try.func159 e159 (Nat.le_of_ble_eq_true rfl) ?_
  have lw := isW_le hw
  have hp := pow_w hw
  have w1 : IntKind.i64.wrap (w - 1) = w - 1 := w64 (by omega) (by omega)
  have s0 : ¬ w - 1 < 0 := by omega
  have s1 : ¬ w < 0 := by omega
  have e1 : shlv .i64 1 (w - 1) = halfV w := shl1 (by omega) (by omega)
  have e2 : IntKind.i64.wrap (n - 2 ^ w.toNat) = n - 2 ^ w.toNat := w64 (by omega) (by omega)
  by_cases h : halfV w ≤ n
  · simp only [c159, go_sem, reduceCtorEq, reduceIte, Nat.reduceEqDiff, Nat.reduceAdd, Nat.reduceLeDiff, Nat.reduceMul, Int.reduceLT, Int.reduceLE, Int.reduceAdd, Int.reduceSub, Int.reduceMul, Int.reduceNeg, Int.reduceToNat, Int.reduceEq, w1, s0, s1, e1, shl1 lw.1 lw.2, h, e2, not_false_eq_true]
    exact endK_same ⟨by simp [lookV, h], rfl, rfl⟩
  · simp only [c159, go_sem, reduceCtorEq, reduceIte, Nat.reduceEqDiff, Nat.reduceAdd, Nat.reduceLeDiff, Nat.reduceMul, Int.reduceLT, Int.reduceLE, Int.reduceAdd, Int.reduceSub, Int.reduceMul, Int.reduceNeg, Int.reduceToNat, Int.reduceEq, w1, s0, s1, e1, shl1 lw.1 lw.2, h, not_false_eq_true]
    exact endK_same ⟨by simp [lookV, h], rfl, rfl⟩
theorem k122 (n w : Int) (hw : isW w = true) (h0 : 0 ≤ n) (h1 : n ≤ mostV w) : CallsA Try.prog 122 [.int .i64 n, .int .i64 w] F M (Same F M (.int .i64 (lookV n w))) := by
  refine callsA_of hm Try.func122 e122 (Nat.le_of_ble_eq_true rfl) ?_
  have lw := isW_le hw
  have hp := pow_w hw
  have w1 : IntKind.i64.wrap (w - 1) = w - 1 := w64 (by omega) (by omega)
  have s0 : ¬ w - 1 < 0 := by omega
  have s1 : ¬ w < 0 := by omega
  have e1 : shlv .i64 1 (w - 1) = halfV w := shl1 (by omega) (by omega)
  have e2 : IntKind.i64.wrap (n - 2 ^ w.toNat) = n - 2 ^ w.toNat := w64 (by omega) (by omega)
  by_cases h : halfV w ≤ n
  · simp only [c122, go_sem, reduceCtorEq, reduceIte, Nat.reduceEqDiff, Nat.reduceAdd, Nat.reduceLeDiff, Nat.reduceMul, Int.reduceLT, Int.reduceLE, Int.reduceAdd, Int.reduceSub, Int.reduceMul, Int.reduceNeg, Int.reduceToNat, Int.reduceEq, w1, s0, s1, e1, shl1 lw.1 lw.2, h, e2, not_false_eq_true]
    exact endK_same ⟨by simp [lookV, h], rfl, rfl⟩
  · simp only [c122, go_sem, reduceCtorEq, reduceIte, Nat.reduceEqDiff, Nat.reduceAdd, Nat.reduceLeDiff, Nat.reduceMul, Int.reduceLT, Int.reduceLE, Int.reduceAdd, Int.reduceSub, Int.reduceMul, Int.reduceNeg, Int.reduceToNat, Int.reduceEq, w1, s0, s1, e1, shl1 lw.1 lw.2, h, not_false_eq_true]
    exact endK_same ⟨by simp [lookV, h], rfl, rfl⟩
theorem wK_of {k : Int} (h : isK k = true) : wK k = ofW k := by simp [wK, h]
theorem sgn_isK {k : Int} (h : sgn k = true) : isK k = true := by
  simp [sgn] at h; simp [isK]; omega
theorem k149 (k n : Int) (h0 : 0 ≤ n) (h1 : n ≤ mostV (ofW k)) : CallsA Try.prog 149 [.int .i64 k, .int .i64 n] F M (Same F M (.int .i64 (seenV k n))) := by
  refine callsA_of hm Try.func149 e149 (Nat.le_of_ble_eq_true rfl) ?_
  simp only [c149, go_sem, reduceCtorEq, reduceIte, Nat.reduceEqDiff, Nat.reduceAdd, Nat.reduceLeDiff, Nat.reduceMul, Int.reduceLT, Int.reduceLE, Int.reduceAdd, Int.reduceSub, Int.reduceMul, Int.reduceNeg, Int.reduceToNat, Int.reduceEq]
  refine callK_same (k157 F _ k) ?_
  cases hs : sgn k
  · simp only [go_sem, reduceCtorEq, reduceIte, Nat.reduceEqDiff, Nat.reduceAdd, Nat.reduceLeDiff, Nat.reduceMul, Int.reduceLT, Int.reduceLE, Int.reduceAdd, Int.reduceSub, Int.reduceMul, Int.reduceNeg, Int.reduceToNat, Int.reduceEq]
    exact endK_same ⟨by simp [seenV, hs], rfl, rfl⟩
  · simp only [go_sem, reduceCtorEq, reduceIte, Nat.reduceEqDiff, Nat.reduceAdd, Nat.reduceLeDiff, Nat.reduceMul, Int.reduceLT, Int.reduceLE, Int.reduceAdd, Int.reduceSub, Int.reduceMul, Int.reduceNeg, Int.reduceToNat, Int.reduceEq]
    refine callK_same (k101 F _ k (sgn_isK hs)) ?_
    simp only [go_sem, reduceCtorEq, reduceIte, Nat.reduceEqDiff, Nat.reduceAdd, Nat.reduceLeDiff, Nat.reduceMul, Int.reduceLT, Int.reduceLE, Int.reduceAdd, Int.reduceSub, Int.reduceMul, Int.reduceNeg, Int.reduceToNat, Int.reduceEq]
    refine callK_same (k159 F _ n _ (ofW_isW k) h0 h1) ?_
    simp only [go_sem, reduceCtorEq, reduceIte, Nat.reduceEqDiff, Nat.reduceAdd, Nat.reduceLeDiff, Nat.reduceMul, Int.reduceLT, Int.reduceLE, Int.reduceAdd, Int.reduceSub, Int.reduceMul, Int.reduceNeg, Int.reduceToNat, Int.reduceEq]
    exact endK_same ⟨by simp [seenV, hs], rfl, rfl⟩
theorem k85 (k n : Int) (h0 : 0 ≤ n) (h1 : n ≤ mostV (ofW k)) : CallsA Try.prog 85 [.int .i64 k, .int .i64 n] F M (Same F M (.int .i64 (seenV k n))) := by
  refine callsA_of hm Try.func85 e85 (Nat.le_of_ble_eq_true rfl) ?_
  simp only [c85, go_sem, reduceCtorEq, reduceIte, Nat.reduceEqDiff, Nat.reduceAdd, Nat.reduceLeDiff, Nat.reduceMul, Int.reduceLT, Int.reduceLE, Int.reduceAdd, Int.reduceSub, Int.reduceMul, Int.reduceNeg, Int.reduceToNat, Int.reduceEq]
  refine callK_same (k87 F _ k) ?_
  cases hs : sgn k
  · simp only [go_sem, reduceCtorEq, reduceIte, Nat.reduceEqDiff, Nat.reduceAdd, Nat.reduceLeDiff, Nat.reduceMul, Int.reduceLT, Int.reduceLE, Int.reduceAdd, Int.reduceSub, Int.reduceMul, Int.reduceNeg, Int.reduceToNat, Int.reduceEq]
    exact endK_same ⟨by simp [seenV, hs], rfl, rfl⟩
  · simp only [go_sem, reduceCtorEq, reduceIte, Nat.reduceEqDiff, Nat.reduceAdd, Nat.reduceLeDiff, Nat.reduceMul, Int.reduceLT, Int.reduceLE, Int.reduceAdd, Int.reduceSub, Int.reduceMul, Int.reduceNeg, Int.reduceToNat, Int.reduceEq]
    refine callK_same (k46 F _ k) ?_
    simp only [go_sem, reduceCtorEq, reduceIte, Nat.reduceEqDiff, Nat.reduceAdd, Nat.reduceLeDiff, Nat.reduceMul, Int.reduceLT, Int.reduceLE, Int.reduceAdd, Int.reduceSub, Int.reduceMul, Int.reduceNeg, Int.reduceToNat, Int.reduceEq, wK_of (sgn_isK hs)]
    refine callK_same (k122 F _ n _ (ofW_isW k) h0 h1) ?_
    simp only [go_sem, reduceCtorEq, reduceIte, Nat.reduceEqDiff, Nat.reduceAdd, Nat.reduceLeDiff, Nat.reduceMul, Int.reduceLT, Int.reduceLE, Int.reduceAdd, Int.reduceSub, Int.reduceMul, Int.reduceNeg, Int.reduceToNat, Int.reduceEq]
    exact endK_same ⟨by simp [seenV, hs], rfl, rfl⟩
theorem k146 (k : Int) (hk : isK k = true) : CallsA Try.prog 146 [.int .i64 k] F M (Same F M (.tuple #[.int .i64 (leastK k), .int .i64 (mostK k)])) := by
  refine callsA_of hm Try.func146 e146 (Nat.le_of_ble_eq_true rfl) ?_
  have hw := ofW_isW k
  have lw := isW_le hw
  have hp := pow_w hw
  simp only [c146, go_sem, reduceCtorEq, reduceIte, Nat.reduceEqDiff, Nat.reduceAdd, Nat.reduceLeDiff, Nat.reduceMul, Int.reduceLT, Int.reduceLE, Int.reduceAdd, Int.reduceSub, Int.reduceMul, Int.reduceNeg, Int.reduceToNat, Int.reduceEq]
  refine callK_same (k101 F _ k hk) ?_
  simp only [go_sem, reduceCtorEq, reduceIte, Nat.reduceEqDiff, Nat.reduceAdd, Nat.reduceLeDiff, Nat.reduceMul, Int.reduceLT, Int.reduceLE, Int.reduceAdd, Int.reduceSub, Int.reduceMul, Int.reduceNeg, Int.reduceToNat, Int.reduceEq]
  refine callK_same (k157 F _ k) ?_
  have w1 : IntKind.i64.wrap (ofW k - 1) = ofW k - 1 := w64 (by omega) (by omega)
  have s0 : ¬ ofW k - 1 < 0 := by omega
  have e1 : shlv .i64 1 (ofW k - 1) = halfV (ofW k) := shl1 (by omega) (by omega)
  have e3 : shlv .i64 (-1) (ofW k - 1) = -(halfV (ofW k)) := shlm (by omega) (by omega)
  have e2 : IntKind.i64.wrap (halfV (ofW k) - 1) = halfV (ofW k) - 1 := w64 (by omega) (by omega)
  cases hs : sgn k
  · simp only [go_sem, reduceCtorEq, reduceIte, Nat.reduceEqDiff, Nat.reduceAdd, Nat.reduceLeDiff, Nat.reduceMul, Int.reduceLT, Int.reduceLE, Int.reduceAdd, Int.reduceSub, Int.reduceMul, Int.reduceNeg, Int.reduceToNat, Int.reduceEq]
    refine callK_same (k137 F _ _ lw.1 lw.2) ?_
    simp only [go_sem, reduceCtorEq, reduceIte, Nat.reduceEqDiff, Nat.reduceAdd, Nat.reduceLeDiff, Nat.reduceMul, Int.reduceLT, Int.reduceLE, Int.reduceAdd, Int.reduceSub, Int.reduceMul, Int.reduceNeg, Int.reduceToNat, Int.reduceEq]
    exact endK_same ⟨by simp [leastK, mostK, hs], rfl, rfl⟩
  · simp only [go_sem, reduceCtorEq, reduceIte, Nat.reduceEqDiff, Nat.reduceAdd, Nat.reduceLeDiff, Nat.reduceMul, Int.reduceLT, Int.reduceLE, Int.reduceAdd, Int.reduceSub, Int.reduceMul, Int.reduceNeg, Int.reduceToNat, Int.reduceEq, w1, s0, e1, e2, e3, not_false_eq_true]
    exact endK_same ⟨by simp [leastK, mostK, hs], rfl, rfl⟩
theorem k88 (b : Bool) : CallsA Try.prog 88 [.bool b] F M (Same F M (.int .i64 (if b then 1 else 0))) := by
  refine callsA_of hm Try.func88 e88 (Nat.le_of_ble_eq_true rfl) ?_
  cases b
  · simp only [c88, go_sem, reduceCtorEq, reduceIte, Nat.reduceEqDiff, Nat.reduceAdd, Nat.reduceLeDiff, Nat.reduceMul, Int.reduceLT, Int.reduceLE, Int.reduceAdd, Int.reduceSub, Int.reduceMul, Int.reduceNeg, Int.reduceToNat, Int.reduceEq]
    exact endK_same ⟨rfl, rfl, rfl⟩
  · simp only [c88, go_sem, reduceCtorEq, reduceIte, Nat.reduceEqDiff, Nat.reduceAdd, Nat.reduceLeDiff, Nat.reduceMul, Int.reduceLT, Int.reduceLE, Int.reduceAdd, Int.reduceSub, Int.reduceMul, Int.reduceNeg, Int.reduceToNat, Int.reduceEq]
    exact endK_same ⟨rfl, rfl, rfl⟩
theorem k44q (op k a b : Int) (hop : op = 18 ∨ op = 19) (a0 : 0 ≤ a) (a1 : a ≤ mostV (ofW k)) (b0 : 0 ≤ b) (b1 : b ≤ mostV (ofW k)) :
    CallsA Try.prog 44 [.int .i64 op, .int .i64 k, .int .i64 a, .int .i64 b] F M (Same F M (.tuple #[.int .i64 (if askV op k a b then 1 else 0), .int .i64 0])) := by
  refine callsA_of hm Try.func44 e44 (Nat.le_of_ble_eq_true rfl) ?_
  simp only [c44, go_sem, reduceCtorEq, reduceIte, Nat.reduceEqDiff, Nat.reduceAdd, Nat.reduceLeDiff, Nat.reduceMul, Int.reduceLT, Int.reduceLE, Int.reduceAdd, Int.reduceSub, Int.reduceMul, Int.reduceNeg, Int.reduceToNat, Int.reduceEq]
  refine callK_same (k46 F _ k) ?_
  simp only [go_sem, reduceCtorEq, reduceIte, Nat.reduceEqDiff, Nat.reduceAdd, Nat.reduceLeDiff, Nat.reduceMul, Int.reduceLT, Int.reduceLE, Int.reduceAdd, Int.reduceSub, Int.reduceMul, Int.reduceNeg, Int.reduceToNat, Int.reduceEq]
  refine callK_same (k85 F _ k a a0 a1) ?_
  simp only [go_sem, reduceCtorEq, reduceIte, Nat.reduceEqDiff, Nat.reduceAdd, Nat.reduceLeDiff, Nat.reduceMul, Int.reduceLT, Int.reduceLE, Int.reduceAdd, Int.reduceSub, Int.reduceMul, Int.reduceNeg, Int.reduceToNat, Int.reduceEq]
  refine callK_same (k85 F _ k b b0 b1) ?_
  rcases hop with rfl | rfl
  · simp only [go_sem, reduceCtorEq, reduceIte, Nat.reduceEqDiff, Nat.reduceAdd, Nat.reduceLeDiff, Nat.reduceMul, Int.reduceLT, Int.reduceLE, Int.reduceAdd, Int.reduceSub, Int.reduceMul, Int.reduceNeg, Int.reduceToNat, Int.reduceEq]
    refine callK_same (k88 F _ _) ?_
    simp only [go_sem, reduceCtorEq, reduceIte, Nat.reduceEqDiff, Nat.reduceAdd, Nat.reduceLeDiff, Nat.reduceMul, Int.reduceLT, Int.reduceLE, Int.reduceAdd, Int.reduceSub, Int.reduceMul, Int.reduceNeg, Int.reduceToNat, Int.reduceEq]
    exact endK_same ⟨by simp [askV], rfl, rfl⟩
  · simp only [go_sem, reduceCtorEq, reduceIte, Nat.reduceEqDiff, Nat.reduceAdd, Nat.reduceLeDiff, Nat.reduceMul, Int.reduceLT, Int.reduceLE, Int.reduceAdd, Int.reduceSub, Int.reduceMul, Int.reduceNeg, Int.reduceToNat, Int.reduceEq]
    refine callK_same (k88 F _ _) ?_
    simp only [go_sem, reduceCtorEq, reduceIte, Nat.reduceEqDiff, Nat.reduceAdd, Nat.reduceLeDiff, Nat.reduceMul, Int.reduceLT, Int.reduceLE, Int.reduceAdd, Int.reduceSub, Int.reduceMul, Int.reduceNeg, Int.reduceToNat, Int.reduceEq]
    exact endK_same ⟨by simp [askV], rfl, rfl⟩
theorem k124 (k t a : Int) (ht : isK t = true) (a0 : 0 ≤ a) (a1 : a ≤ mostV (ofW k)) : CallsA Try.prog 124 [.int .i64 k, .int .i64 t, .int .i64 a] F M (Same F M (.int .i64 (seenV k a % 2 ^ (ofW t).toNat))) := by
  refine callsA_of hm Try.func124 e124 (Nat.le_of_ble_eq_true rfl) ?_
  have lw := isW_le (ofW_isW t)
  simp only [c124, go_sem, reduceCtorEq, reduceIte, Nat.reduceEqDiff, Nat.reduceAdd, Nat.reduceLeDiff, Nat.reduceMul, Int.reduceLT, Int.reduceLE, Int.reduceAdd, Int.reduceSub, Int.reduceMul, Int.reduceNeg, Int.reduceToNat, Int.reduceEq]
  refine callK_same (k149 F _ k a a0 a1) ?_
  simp only [go_sem, reduceCtorEq, reduceIte, Nat.reduceEqDiff, Nat.reduceAdd, Nat.reduceLeDiff, Nat.reduceMul, Int.reduceLT, Int.reduceLE, Int.reduceAdd, Int.reduceSub, Int.reduceMul, Int.reduceNeg, Int.reduceToNat, Int.reduceEq]
  refine callK_same (k101 F _ t ht) ?_
  simp only [go_sem, reduceCtorEq, reduceIte, Nat.reduceEqDiff, Nat.reduceAdd, Nat.reduceLeDiff, Nat.reduceMul, Int.reduceLT, Int.reduceLE, Int.reduceAdd, Int.reduceSub, Int.reduceMul, Int.reduceNeg, Int.reduceToNat, Int.reduceEq]
  refine callK_same (k145 F _ _ _ lw.1 lw.2) ?_
  simp only [go_sem, reduceCtorEq, reduceIte, Nat.reduceEqDiff, Nat.reduceAdd, Nat.reduceLeDiff, Nat.reduceMul, Int.reduceLT, Int.reduceLE, Int.reduceAdd, Int.reduceSub, Int.reduceMul, Int.reduceNeg, Int.reduceToNat, Int.reduceEq]
  exact endK_same ⟨rfl, rfl, rfl⟩
theorem k48 (k t a : Int) (ht : isK t = true) (a0 : 0 ≤ a) (a1 : a ≤ mostV (ofW k)) : CallsA Try.prog 48 [.int .i64 k, .int .i64 t, .int .i64 a] F M (Same F M (.int .i64 (seenV k a % 2 ^ (ofW t).toNat))) := by
  refine callsA_of hm Try.func48 e48 (Nat.le_of_ble_eq_true rfl) ?_
  have lw := isW_le (ofW_isW t)
  simp only [c48, go_sem, reduceCtorEq, reduceIte, Nat.reduceEqDiff, Nat.reduceAdd, Nat.reduceLeDiff, Nat.reduceMul, Int.reduceLT, Int.reduceLE, Int.reduceAdd, Int.reduceSub, Int.reduceMul, Int.reduceNeg, Int.reduceToNat, Int.reduceEq]
  refine callK_same (k85 F _ k a a0 a1) ?_
  simp only [go_sem, reduceCtorEq, reduceIte, Nat.reduceEqDiff, Nat.reduceAdd, Nat.reduceLeDiff, Nat.reduceMul, Int.reduceLT, Int.reduceLE, Int.reduceAdd, Int.reduceSub, Int.reduceMul, Int.reduceNeg, Int.reduceToNat, Int.reduceEq]
  refine callK_same (k46 F _ t) ?_
  simp only [go_sem, reduceCtorEq, reduceIte, Nat.reduceEqDiff, Nat.reduceAdd, Nat.reduceLeDiff, Nat.reduceMul, Int.reduceLT, Int.reduceLE, Int.reduceAdd, Int.reduceSub, Int.reduceMul, Int.reduceNeg, Int.reduceToNat, Int.reduceEq, wK_of ht]
  refine callK_same (k57 F _ _ _ lw.1 lw.2) ?_
  simp only [go_sem, reduceCtorEq, reduceIte, Nat.reduceEqDiff, Nat.reduceAdd, Nat.reduceLeDiff, Nat.reduceMul, Int.reduceLT, Int.reduceLE, Int.reduceAdd, Int.reduceSub, Int.reduceMul, Int.reduceNeg, Int.reduceToNat, Int.reduceEq]
  exact endK_same ⟨rfl, rfl, rfl⟩
end Go.Proofs.Try.K

/- Contracts: the least and the greatest that a kind sees in a set. -/
namespace Go.Proofs.Try.K
open Go Go.Ax Go.Proofs.Try.S
set_option maxRecDepth 100000
set_option linter.unusedSimpArgs false
set_option linter.unusedVariables false
variable (F : Fz) (M : Hp)

def laI (v : V) (n : Int) (F0 : Fz) (M0 : Hp) (r2 : Nat) (m : Nat) (σ : Env) (F : Fz) (M : Hp) : Prop :=
  F = F0 ∧ M = M0 ∧ Ax.look σ 1 = some (.int .i64 n) ∧ Ax.look σ 2 = some (.pointer (some ⟨r2, 0, none⟩)) ∧ ∃ lo hi : Int, Ax.look σ 5 = some (.int .i64 lo) ∧ Ax.look σ 6 = some (.int .i64 hi) ∧
  0 ≤ lo ∧ lo ≤ n ∧ v.has lo = true ∧ lo < hi ∧ hi ≤ n + 1 ∧ (∀ y, hi ≤ y → y ≤ n → v.has y = false) ∧ m = (hi - lo).toNat
theorem k158 (v : V) (n : Int) (hv : v.ok = true) (h0 : 0 ≤ n) (h1 : n ≤ mostV v.w) : CallsA Try.prog 158 [v.val, .int .i64 n] F M fun u F' M' => F' = F ∧ M' = M ∧ ∃ z : Int, u = .int .i64 z ∧ LastR v n z := by
  refine callsA_of hm Try.func158 e158 (Nat.le_of_ble_eq_true rfl) ?_
  have hw := (ok_in hv).w
  have hp := pow_w hw
  have e1 : IntKind.i64.wrap (n + 1) = n + 1 := w64 (by omega) (by omega)
  simp only [c158, go_sem, reduceCtorEq, reduceIte, Nat.reduceEqDiff, Nat.reduceAdd, Nat.reduceLeDiff, Nat.reduceMul, Int.reduceLT, Int.reduceLE, Int.reduceAdd, Int.reduceSub, Int.reduceMul, Int.reduceNeg, Int.reduceToNat, Int.reduceEq]
  intro r2 hF2 hM2
  simp only [go_sem, reduceCtorEq, reduceIte, Nat.reduceEqDiff, Nat.reduceAdd, Nat.reduceLeDiff, Nat.reduceMul, Int.reduceLT, Int.reduceLE, Int.reduceAdd, Int.reduceSub, Int.reduceMul, Int.reduceNeg, Int.reduceToNat, Int.reduceEq]
  refine callK_same (k140 F _ v 0 hv) ?_
  have sp := nextR_spec hv (n := 0) (by omega)
  generalize v.nextR 0 = x at *
  by_cases hx : x < 0
  · simp only [go_sem, reduceCtorEq, reduceIte, Nat.reduceEqDiff, Nat.reduceAdd, Nat.reduceLeDiff, Nat.reduceMul, Int.reduceLT, Int.reduceLE, Int.reduceAdd, Int.reduceSub, Int.reduceMul, Int.reduceNeg, Int.reduceToNat, Int.reduceEq, e1, hx]
    refine endK_drop hM2 (endK_same ⟨rfl, rfl, -1, rfl, .inl ⟨rfl, fun y y0 y1 => ?_⟩⟩)
    rcases sp with ⟨k1, _⟩ | ⟨_, k⟩
    · omega
    · exact k y y0 (by omega)
  by_cases hxn : n < x
  · simp only [go_sem, reduceCtorEq, reduceIte, Nat.reduceEqDiff, Nat.reduceAdd, Nat.reduceLeDiff, Nat.reduceMul, Int.reduceLT, Int.reduceLE, Int.reduceAdd, Int.reduceSub, Int.reduceMul, Int.reduceNeg, Int.reduceToNat, Int.reduceEq, e1, hx, hxn]
    refine endK_drop hM2 (endK_same ⟨rfl, rfl, -1, rfl, .inl ⟨rfl, fun y y0 y1 => ?_⟩⟩)
    rcases sp with ⟨k1, k2, k3, k4, k5⟩ | ⟨k, _⟩
    · exact k5 y y0 (by omega)
    · omega
  have hxh : v.has x = true ∧ 0 ≤ x := by
    rcases sp with ⟨k1, k2, k3, k4, k5⟩ | ⟨k, _⟩
    · exact ⟨k4, by omega⟩
    · omega
  simp only [go_sem, reduceCtorEq, reduceIte, Nat.reduceEqDiff, Nat.reduceAdd, Nat.reduceLeDiff, Nat.reduceMul, Int.reduceLT, Int.reduceLE, Int.reduceAdd, Int.reduceSub, Int.reduceMul, Int.reduceNeg, Int.reduceToNat, Int.reduceEq, e1, hx, hxn]
  refine loop_of (laI v n F (M.upd r2 ⟨v.cs, 34, 6⟩) r2) (n + 1 - x).toNat ?_ ?_
  · exact ⟨rfl, rfl, by simp only [go_sem, reduceCtorEq, reduceIte, Nat.reduceEqDiff, Nat.reduceAdd, Nat.reduceLeDiff, Nat.reduceMul, Int.reduceLT, Int.reduceLE, Int.reduceAdd, Int.reduceSub, Int.reduceMul, Int.reduceNeg, Int.reduceToNat, Int.reduceEq], by simp only [go_sem, reduceCtorEq, reduceIte, Nat.reduceEqDiff, Nat.reduceAdd, Nat.reduceLeDiff, Nat.reduceMul, Int.reduceLT, Int.reduceLE, Int.reduceAdd, Int.reduceSub, Int.reduceMul, Int.reduceNeg, Int.reduceToNat, Int.reduceEq], x, n + 1, by simp only [go_sem, reduceCtorEq, reduceIte, Nat.reduceEqDiff, Nat.reduceAdd, Nat.reduceLeDiff, Nat.reduceMul, Int.reduceLT, Int.reduceLE, Int.reduceAdd, Int.reduceSub, Int.reduceMul, Int.reduceNeg, Int.reduceToNat, Int.reduceEq], by simp only [go_sem, reduceCtorEq, reduceIte, Nat.reduceEqDiff, Nat.reduceAdd, Nat.reduceLeDiff, Nat.reduceMul, Int.reduceLT, Int.reduceLE, Int.reduceAdd, Int.reduceSub, Int.reduceMul, Int.reduceNeg, Int.reduceToNat, Int.reduceEq], by omega, by omega, hxh.1, by omega, by omega, fun y y0 y1 => by omega, rfl⟩
  clear hx hxn hxh sp x
  rintro m σ F' M' ⟨rfl, rfl, q1, q2, lo, hi, q5, q6, l0, l1, hl, lh, hn, hnone, rfl⟩
  have e2 : IntKind.i64.wrap (lo + 1) = lo + 1 := w64 (by omega) (by omega)
  by_cases hlh : lo + 1 < hi
  · have e3 : IntKind.i64.wrap (hi - lo) = hi - lo := w64 (by omega) (by omega)
    have e4 : (hi - lo).tdiv 2 = (hi - lo) / 2 := Int.tdiv_eq_ediv_of_nonneg (by omega)
    have e5 : IntKind.i64.wrap ((hi - lo) / 2) = (hi - lo) / 2 := w64 (by omega) (by omega)
    have e6 : IntKind.i64.wrap (lo + (hi - lo) / 2) = lo + (hi - lo) / 2 := w64 (by omega) (by omega)
    have n2 : ¬ (2 : Int) = 0 := by decide
    simp only [go_sem, reduceCtorEq, reduceIte, Nat.reduceEqDiff, Nat.reduceAdd, Nat.reduceLeDiff, Nat.reduceMul, Int.reduceLT, Int.reduceLE, Int.reduceAdd, Int.reduceSub, Int.reduceMul, Int.reduceNeg, Int.reduceToNat, Int.reduceEq, q1, q2, q5, q6, e2, hlh, e3, e4, e5, e6, n2, not_false_eq_true]
    have hm : lo < lo + (hi - lo) / 2 ∧ lo + (hi - lo) / 2 < hi := by omega
    generalize lo + (hi - lo) / 2 = mid at *
    refine callK_same (k140 F' _ v mid hv) ?_
    have sp := nextR_spec hv (n := mid) (by omega)
    generalize v.nextR mid = x at *
    have up : x < 0 ∨ n < x → ∀ y, mid ≤ y → y ≤ n → v.has y = false := by
      intro hx y y0 y1
      rcases sp with ⟨k1, k2, k3, k4, k5⟩ | ⟨k, kk⟩
      · exact k5 y y0 (by omega)
      · exact kk y y0 (by omega)
    by_cases hx0 : 0 ≤ x
    · by_cases hxn : x ≤ n
      · have hxh : v.has x = true ∧ mid ≤ x := by
          rcases sp with ⟨k1, k2, k3, k4, k5⟩ | ⟨k, _⟩
          · exact ⟨k4, k2⟩
          · omega
        have hxhi : x < hi := by
          by_cases h : hi ≤ x
          · have := hnone x h hxn
            rw [hxh.1] at this; cases this
          · omega
        simp only [go_sem, reduceCtorEq, reduceIte, Nat.reduceEqDiff, Nat.reduceAdd, Nat.reduceLeDiff, Nat.reduceMul, Int.reduceLT, Int.reduceLE, Int.reduceAdd, Int.reduceSub, Int.reduceMul, Int.reduceNeg, Int.reduceToNat, Int.reduceEq, q1, q2, q5, q6, hx0, hxn]
        exact ⟨(hi - x).toNat, by omega, rfl, rfl, by simp only [go_sem, reduceCtorEq, reduceIte, Nat.reduceEqDiff, Nat.reduceAdd, Nat.reduceLeDiff, Nat.reduceMul, Int.reduceLT, Int.reduceLE, Int.reduceAdd, Int.reduceSub, Int.reduceMul, Int.reduceNeg, Int.reduceToNat, Int.reduceEq, q1], by simp only [go_sem, reduceCtorEq, reduceIte, Nat.reduceEqDiff, Nat.reduceAdd, Nat.reduceLeDiff, Nat.reduceMul, Int.reduceLT, Int.reduceLE, Int.reduceAdd, Int.reduceSub, Int.reduceMul, Int.reduceNeg, Int.reduceToNat, Int.reduceEq, q2], x, hi, by simp only [go_sem, reduceCtorEq, reduceIte, Nat.reduceEqDiff, Nat.reduceAdd, Nat.reduceLeDiff, Nat.reduceMul, Int.reduceLT, Int.reduceLE, Int.reduceAdd, Int.reduceSub, Int.reduceMul, Int.reduceNeg, Int.reduceToNat, Int.reduceEq], by simp only [go_sem, reduceCtorEq, reduceIte, Nat.reduceEqDiff, Nat.reduceAdd, Nat.reduceLeDiff, Nat.reduceMul, Int.reduceLT, Int.reduceLE, Int.reduceAdd, Int.reduceSub, Int.reduceMul, Int.reduceNeg, Int.reduceToNat, Int.reduceEq, q6], hx0, hxn, hxh.1, hxhi, hn, hnone, rfl⟩
      · simp only [go_sem, reduceCtorEq, reduceIte, Nat.reduceEqDiff, Nat.reduceAdd, Nat.reduceLeDiff, Nat.reduceMul, Int.reduceLT, Int.reduceLE, Int.reduceAdd, Int.reduceSub, Int.reduceMul, Int.reduceNeg, Int.reduceToNat, Int.reduceEq, q1, q2, q5, q6, hx0, hxn]
        exact ⟨(mid - lo).toNat, by omega, rfl, rfl, by simp only [go_sem, reduceCtorEq, reduceIte, Nat.reduceEqDiff, Nat.reduceAdd, Nat.reduceLeDiff, Nat.reduceMul, Int.reduceLT, Int.reduceLE, Int.reduceAdd, Int.reduceSub, Int.reduceMul, Int.reduceNeg, Int.reduceToNat, Int.reduceEq, q1], by simp only [go_sem, reduceCtorEq, reduceIte, Nat.reduceEqDiff, Nat.reduceAdd, Nat.reduceLeDiff, Nat.reduceMul, Int.reduceLT, Int.reduceLE, Int.reduceAdd, Int.reduceSub, Int.reduceMul, Int.reduceNeg, Int.reduceToNat, Int.reduceEq, q2], lo, mid, by simp only [go_sem, reduceCtorEq, reduceIte, Nat.reduceEqDiff, Nat.reduceAdd, Nat.reduceLeDiff, Nat.reduceMul, Int.reduceLT, Int.reduceLE, Int.reduceAdd, Int.reduceSub, Int.reduceMul, Int.reduceNeg, Int.reduceToNat, Int.reduceEq, q5], by simp only [go_sem, reduceCtorEq, reduceIte, Nat.reduceEqDiff, Nat.reduceAdd, Nat.reduceLeDiff, Nat.reduceMul, Int.reduceLT, Int.reduceLE, Int.reduceAdd, Int.reduceSub, Int.reduceMul, Int.reduceNeg, Int.reduceToNat, Int.reduceEq], l0, l1, hl, hm.1, by omega, up (.inr (by omega)), rfl⟩
    · simp only [go_sem, reduceCtorEq, reduceIte, Nat.reduceEqDiff, Nat.reduceAdd, Nat.reduceLeDiff, Nat.reduceMul, Int.reduceLT, Int.reduceLE, Int.reduceAdd, Int.reduceSub, Int.reduceMul, Int.reduceNeg, Int.reduceToNat, Int.reduceEq, q1, q2, q5, q6, hx0]
      exact ⟨(mid - lo).toNat, by omega, rfl, rfl, by simp only [go_sem, reduceCtorEq, reduceIte, Nat.reduceEqDiff, Nat.reduceAdd, Nat.reduceLeDiff, Nat.reduceMul, Int.reduceLT, Int.reduceLE, Int.reduceAdd, Int.reduceSub, Int.reduceMul, Int.reduceNeg, Int.reduceToNat, Int.reduceEq, q1], by simp only [go_sem, reduceCtorEq, reduceIte, Nat.reduceEqDiff, Nat.reduceAdd, Nat.reduceLeDiff, Nat.reduceMul, Int.reduceLT, Int.reduceLE, Int.reduceAdd, Int.reduceSub, Int.reduceMul, Int.reduceNeg, Int.reduceToNat, Int.reduceEq, q2], lo, mid, by simp only [go_sem, reduceCtorEq, reduceIte, Nat.reduceEqDiff, Nat.reduceAdd, Nat.reduceLeDiff, Nat.reduceMul, Int.reduceLT, Int.reduceLE, Int.reduceAdd, Int.reduceSub, Int.reduceMul, Int.reduceNeg, Int.reduceToNat, Int.reduceEq, q5], by simp only [go_sem, reduceCtorEq, reduceIte, Nat.reduceEqDiff, Nat.reduceAdd, Nat.reduceLeDiff, Nat.reduceMul, Int.reduceLT, Int.reduceLE, Int.reduceAdd, Int.reduceSub, Int.reduceMul, Int.reduceNeg, Int.reduceToNat, Int.reduceEq], l0, l1, hl, hm.1, by omega, up (.inl (by omega)), rfl⟩
  · simp only [go_sem, reduceCtorEq, reduceIte, Nat.reduceEqDiff, Nat.reduceAdd, Nat.reduceLeDiff, Nat.reduceMul, Int.reduceLT, Int.reduceLE, Int.reduceAdd, Int.reduceSub, Int.reduceMul, Int.reduceNeg, Int.reduceToNat, Int.reduceEq, q1, q2, q5, q6, e2, hlh]
    exact endK_drop hM2 (endK_same ⟨rfl, rfl, lo, rfl, .inr ⟨l0, l1, hl, fun y y0 y1 => hnone y (by omega) y1⟩⟩)

theorem last_some {v : V} {n z : Int} (h : LastR v n z) {y : Int} (y0 : 0 ≤ y) (y1 : y ≤ n) (hy : v.has y = true) : 0 ≤ z ∧ z ≤ n ∧ v.has z = true ∧ ∀ y, z < y → y ≤ n → v.has y = false := by
  rcases h with ⟨_, h⟩ | h
  · rw [h y y0 y1] at hy; cases hy
  · exact h
theorem k147 (k : Int) (v : V) (hk : isK k = true) (hv : v.ok = true) (hvw : v.w = ofW k) (hne : ¬ v.nextR 0 < 0) :
    CallsA Try.prog 147 [.int .i64 k, v.val] F M fun u F' M' => F' = F ∧ M' = M ∧ ∃ lo hi : Int, u = .tuple #[.int .i64 lo, .int .i64 hi] ∧ SeenR k v lo hi := by
  refine callsA_of hm Try.func147 e147 (Nat.le_of_ble_eq_true rfl) ?_
  have hw := (ok_in hv).w
  have lw := isW_le hw
  have hp := pow_w hw
  obtain ⟨s1, s2, s3⟩ := some_has hv hne
  have sp0 := nextR_spec hv (n := 0) (by omega)
  simp only [c147, go_sem, reduceCtorEq, reduceIte, Nat.reduceEqDiff, Nat.reduceAdd, Nat.reduceLeDiff, Nat.reduceMul, Int.reduceLT, Int.reduceLE, Int.reduceAdd, Int.reduceSub, Int.reduceMul, Int.reduceNeg, Int.reduceToNat, Int.reduceEq]
  intro r3 hF3 hM3
  simp only [go_sem, reduceCtorEq, reduceIte, Nat.reduceEqDiff, Nat.reduceAdd, Nat.reduceLeDiff, Nat.reduceMul, Int.reduceLT, Int.reduceLE, Int.reduceAdd, Int.reduceSub, Int.reduceMul, Int.reduceNeg, Int.reduceToNat, Int.reduceEq]
  refine callK_same (k157 F _ k) ?_
  cases hs : sgn k
  · have es : ∀ n, seenV k n = n := fun n => by simp [seenV, hs]
    simp only [go_sem, reduceCtorEq, reduceIte, Nat.reduceEqDiff, Nat.reduceAdd, Nat.reduceLeDiff, Nat.reduceMul, Int.reduceLT, Int.reduceLE, Int.reduceAdd, Int.reduceSub, Int.reduceMul, Int.reduceNeg, Int.reduceToNat, Int.reduceEq]
    refine callK_same (k140 F _ v 0 hv) ?_
    simp only [go_sem, reduceCtorEq, reduceIte, Nat.reduceEqDiff, Nat.reduceAdd, Nat.reduceLeDiff, Nat.reduceMul, Int.reduceLT, Int.reduceLE, Int.reduceAdd, Int.reduceSub, Int.reduceMul, Int.reduceNeg, Int.reduceToNat, Int.reduceEq]
    refine callK_same (k137 F _ v.w lw.1 lw.2) ?_
    simp only [go_sem, reduceCtorEq, reduceIte, Nat.reduceEqDiff, Nat.reduceAdd, Nat.reduceLeDiff, Nat.reduceMul, Int.reduceLT, Int.reduceLE, Int.reduceAdd, Int.reduceSub, Int.reduceMul, Int.reduceNeg, Int.reduceToNat, Int.reduceEq]
    refine callK_of (k158 F _ v _ hv (by omega) (by omega)) ?_
    rintro u G M' ⟨rfl, rfl, z, rfl, hz⟩
    refine ⟨fun _ => Le.refl _ _, ?_⟩
    simp only [go_sem, reduceCtorEq, reduceIte, Nat.reduceEqDiff, Nat.reduceAdd, Nat.reduceLeDiff, Nat.reduceMul, Int.reduceLT, Int.reduceLE, Int.reduceAdd, Int.reduceSub, Int.reduceMul, Int.reduceNeg, Int.reduceToNat, Int.reduceEq]
    obtain ⟨z1, z2, z3, z4⟩ := last_some hz s1 s2 s3
    refine endK_drop hM3 (endK_same ⟨rfl, rfl, _, _, rfl, ?_, ⟨_, s1, s2, s3, es _⟩, ⟨z, z1, z2, z3, es _⟩⟩)
    intro n n0 n1 hn
    rw [es]
    constructor
    · rcases sp0 with ⟨_, _, _, _, k5⟩ | ⟨k, _⟩
      · by_cases h : v.nextR 0 ≤ n
        · exact h
        · rw [k5 n n0 (by omega)] at hn; cases hn
      · omega
    · by_cases h : n ≤ z
      · exact h
      · rw [z4 n (by omega) n1] at hn; cases hn
  · have es : ∀ n, seenV k n = lookV n v.w := fun n => by simp [seenV, hs, hvw]
    have w1 : IntKind.i64.wrap (v.w - 1) = v.w - 1 := w64 (by omega) (by omega)
    have c0 : ¬ v.w - 1 < 0 := by omega
    have e1 : shlv .i64 1 (v.w - 1) = halfV v.w := shl1 (by omega) (by omega)
    have e2 : IntKind.i64.wrap (halfV v.w - 1) = halfV v.w - 1 := w64 (by omega) (by omega)
    simp only [go_sem, reduceCtorEq, reduceIte, Nat.reduceEqDiff, Nat.reduceAdd, Nat.reduceLeDiff, Nat.reduceMul, Int.reduceLT, Int.reduceLE, Int.reduceAdd, Int.reduceSub, Int.reduceMul, Int.reduceNeg, Int.reduceToNat, Int.reduceEq, w1, c0, e1, e2, not_false_eq_true]
    refine callK_same (k140 F _ v _ hv) ?_
    have sph := nextR_spec hv (n := halfV v.w) (by omega)
    simp only [go_sem, reduceCtorEq, reduceIte, Nat.reduceEqDiff, Nat.reduceAdd, Nat.reduceLeDiff, Nat.reduceMul, Int.reduceLT, Int.reduceLE, Int.reduceAdd, Int.reduceSub, Int.reduceMul, Int.reduceNeg, Int.reduceToNat, Int.reduceEq, w1, c0, e1, e2]
    refine callK_of (k158 F _ v _ hv (by omega) (by omega)) ?_
    rintro u G M' ⟨rfl, rfl, z, rfl, hz⟩
    refine ⟨fun _ => Le.refl _ _, ?_⟩
    -- the least that is seen, and the greatest
    have lowD : ∀ l, (v.nextR (halfV v.w) < 0 ∧ l = v.nextR 0 ∨ ¬ v.nextR (halfV v.w) < 0 ∧ l = v.nextR (halfV v.w)) → 0 ≤ l ∧ l ≤ mostV v.w ∧ v.has l = true ∧ ∀ n, 0 ≤ n → n ≤ mostV v.w → v.has n = true → lookV l v.w ≤ lookV n v.w := by
      intro l hl
      rcases hl with ⟨h1, rfl⟩ | ⟨h1, rfl⟩
      · refine ⟨s1, s2, s3, fun n n0 n1 hn => ?_⟩
        have g1 : n < halfV v.w := by
          by_cases h : n < halfV v.w
          · exact h
          · rcases sph with ⟨k1, _⟩ | ⟨_, kk⟩
            · omega
            · rw [kk n (by omega) n1] at hn; cases hn
        have g2 : v.nextR 0 ≤ n := by
          rcases sp0 with ⟨_, _, _, _, k5⟩ | ⟨k, _⟩
          · by_cases h : v.nextR 0 ≤ n
            · exact h
            · rw [k5 n n0 (by omega)] at hn; cases hn
          · omega
        unfold lookV
        rw [if_neg (by omega), if_neg (by omega)]; exact g2
      · rcases sph with ⟨k1, k2, k3, k4, k5⟩ | ⟨kk, _⟩
        · refine ⟨k1, k3, k4, fun n n0 n1 hn => ?_⟩
          unfold lookV
          rw [if_pos k2]
          split
          · rename_i g
            by_cases h : v.nextR (halfV v.w) ≤ n
            · omega
            · rw [k5 n g (by omega)] at hn; cases hn
          · omega
        · omega
    have highD : ∀ h, (z < 0 ∧ LastR v (mostV v.w) h ∨ ¬ z < 0 ∧ h = z) → 0 ≤ h ∧ h ≤ mostV v.w ∧ v.has h = true ∧ ∀ n, 0 ≤ n → n ≤ mostV v.w → v.has n = true → lookV n v.w ≤ lookV h v.w := by
      intro h hh
      rcases hh with ⟨h1, hz2⟩ | ⟨h1, rfl⟩
      · obtain ⟨a1, a2, a3, a4⟩ := last_some hz2 s1 s2 s3
        have none : ∀ y, 0 ≤ y → y ≤ halfV v.w - 1 → v.has y = false := by
          rcases hz with ⟨_, g⟩ | ⟨g, _⟩
          · exact g
          · omega
        have big : ∀ n, 0 ≤ n → v.has n = true → halfV v.w ≤ n := by
          intro n n0 hn
          by_cases g : halfV v.w ≤ n
          · exact g
          · rw [none n n0 (by omega)] at hn; cases hn
        refine ⟨a1, a2, a3, fun n n0 n1 hn => ?_⟩
        have g1 := big n n0 hn
        have g2 := big h a1 a3
        unfold lookV
        rw [if_pos g1, if_pos g2]
        by_cases g : n ≤ h
        · omega
        · rw [a4 n (by omega) n1] at hn; cases hn
      · rcases hz with ⟨g, _⟩ | ⟨g1, g2, g3, g4⟩
        · omega
        · refine ⟨g1, by omega, g3, fun n n0 n1 hn => ?_⟩
          unfold lookV
          rw [if_neg (by omega : ¬ halfV v.w ≤ h)]
          split
          · omega
          · by_cases g : n ≤ h
            · exact g
            · rw [g4 n (by omega) (by omega)] at hn; cases hn
    have fin : ∀ l h, (v.nextR (halfV v.w) < 0 ∧ l = v.nextR 0 ∨ ¬ v.nextR (halfV v.w) < 0 ∧ l = v.nextR (halfV v.w)) → (z < 0 ∧ LastR v (mostV v.w) h ∨ ¬ z < 0 ∧ h = z) → (0 ≤ l ∧ l ≤ mostV v.w) ∧ (0 ≤ h ∧ h ≤ mostV v.w) ∧ SeenR k v (lookV l v.w) (lookV h v.w) := by
      intro l h hl hh
      obtain ⟨l1, l2, l3, l4⟩ := lowD l hl
      obtain ⟨h1, h2, h3, h4⟩ := highD h hh
      exact ⟨⟨l1, l2⟩, ⟨h1, h2⟩, fun n n0 n1 hn => by rw [es]; exact ⟨l4 n n0 n1 hn, h4 n n0 n1 hn⟩, ⟨l, l1, l2, l3, es l⟩, ⟨h, h1, h2, h3, es h⟩⟩
    by_cases hl : v.nextR (halfV v.w) < 0
    · simp only [go_sem, reduceCtorEq, reduceIte, Nat.reduceEqDiff, Nat.reduceAdd, Nat.reduceLeDiff, Nat.reduceMul, Int.reduceLT, Int.reduceLE, Int.reduceAdd, Int.reduceSub, Int.reduceMul, Int.reduceNeg, Int.reduceToNat, Int.reduceEq, w1, c0, e1, e2, hl]
      refine callK_same (k140 _ _ v 0 hv) ?_
      by_cases hzz : z < 0
      · skip
        simp only [go_sem, reduceCtorEq, reduceIte, Nat.reduceEqDiff, Nat.reduceAdd, Nat.reduceLeDiff, Nat.reduceMul, Int.reduceLT, Int.reduceLE, Int.reduceAdd, Int.reduceSub, Int.reduceMul, Int.reduceNeg, Int.reduceToNat, Int.reduceEq, hzz]
        refine callK_same (k137 _ _ v.w lw.1 lw.2) ?_
        simp only [go_sem, reduceCtorEq, reduceIte, Nat.reduceEqDiff, Nat.reduceAdd, Nat.reduceLeDiff, Nat.reduceMul, Int.reduceLT, Int.reduceLE, Int.reduceAdd, Int.reduceSub, Int.reduceMul, Int.reduceNeg, Int.reduceToNat, Int.reduceEq]
        refine callK_of (k158 _ _ v _ hv (by omega) (by omega)) ?_
        rintro u G M' ⟨rfl, rfl, z2, rfl, hz2⟩
        refine ⟨fun _ => Le.refl _ _, ?_⟩
        obtain ⟨b1, b2, b3⟩ := fin _ z2 (.inl ⟨hl, rfl⟩) (.inl ⟨hzz, hz2⟩)
        simp only [go_sem, reduceCtorEq, reduceIte, Nat.reduceEqDiff, Nat.reduceAdd, Nat.reduceLeDiff, Nat.reduceMul, Int.reduceLT, Int.reduceLE, Int.reduceAdd, Int.reduceSub, Int.reduceMul, Int.reduceNeg, Int.reduceToNat, Int.reduceEq]
        refine callK_same (k159 _ _ _ v.w hw b1.1 b1.2) ?_
        simp only [go_sem, reduceCtorEq, reduceIte, Nat.reduceEqDiff, Nat.reduceAdd, Nat.reduceLeDiff, Nat.reduceMul, Int.reduceLT, Int.reduceLE, Int.reduceAdd, Int.reduceSub, Int.reduceMul, Int.reduceNeg, Int.reduceToNat, Int.reduceEq]
        refine callK_same (k159 _ _ _ v.w hw b2.1 b2.2) ?_
        simp only [go_sem, reduceCtorEq, reduceIte, Nat.reduceEqDiff, Nat.reduceAdd, Nat.reduceLeDiff, Nat.reduceMul, Int.reduceLT, Int.reduceLE, Int.reduceAdd, Int.reduceSub, Int.reduceMul, Int.reduceNeg, Int.reduceToNat, Int.reduceEq]
        exact endK_drop hM3 (endK_same ⟨rfl, rfl, _, _, rfl, b3⟩)
      · obtain ⟨b1, b2, b3⟩ := fin _ z (.inl ⟨hl, rfl⟩) (.inr ⟨hzz, rfl⟩)
        simp only [go_sem, reduceCtorEq, reduceIte, Nat.reduceEqDiff, Nat.reduceAdd, Nat.reduceLeDiff, Nat.reduceMul, Int.reduceLT, Int.reduceLE, Int.reduceAdd, Int.reduceSub, Int.reduceMul, Int.reduceNeg, Int.reduceToNat, Int.reduceEq, hzz]
        refine callK_same (k159 _ _ _ v.w hw b1.1 b1.2) ?_
        simp only [go_sem, reduceCtorEq, reduceIte, Nat.reduceEqDiff, Nat.reduceAdd, Nat.reduceLeDiff, Nat.reduceMul, Int.reduceLT, Int.reduceLE, Int.reduceAdd, Int.reduceSub, Int.reduceMul, Int.reduceNeg, Int.reduceToNat, Int.reduceEq]
        refine callK_same (k159 _ _ _ v.w hw b2.1 b2.2) ?_
        simp only [go_sem, reduceCtorEq, reduceIte, Nat.reduceEqDiff, Nat.reduceAdd, Nat.reduceLeDiff, Nat.reduceMul, Int.reduceLT, Int.reduceLE, Int.reduceAdd, Int.reduceSub, Int.reduceMul, Int.reduceNeg, Int.reduceToNat, Int.reduceEq]
        exact endK_drop hM3 (endK_same ⟨rfl, rfl, _, _, rfl, b3⟩)
    · simp only [go_sem, reduceCtorEq, reduceIte, Nat.reduceEqDiff, Nat.reduceAdd, Nat.reduceLeDiff, Nat.reduceMul, Int.reduceLT, Int.reduceLE, Int.reduceAdd, Int.reduceSub, Int.reduceMul, Int.reduceNeg, Int.reduceToNat, Int.reduceEq, w1, c0, e1, e2, hl]
      by_cases hzz : z < 0
      · skip
        simp only [go_sem, reduceCtorEq, reduceIte, Nat.reduceEqDiff, Nat.reduceAdd, Nat.reduceLeDiff, Nat.reduceMul, Int.reduceLT, Int.reduceLE, Int.reduceAdd, Int.reduceSub, Int.reduceMul, Int.reduceNeg, Int.reduceToNat, Int.reduceEq, hzz]
        refine callK_same (k137 _ _ v.w lw.1 lw.2) ?_
        simp only [go_sem, reduceCtorEq, reduceIte, Nat.reduceEqDiff, Nat.reduceAdd, Nat.reduceLeDiff, Nat.reduceMul, Int.reduceLT, Int.reduceLE, Int.reduceAdd, Int.reduceSub, Int.reduceMul, Int.reduceNeg, Int.reduceToNat, Int.reduceEq]
        refine callK_of (k158 _ _ v _ hv (by omega) (by omega)) ?_
        rintro u G M' ⟨rfl, rfl, z2, rfl, hz2⟩
        refine ⟨fun _ => Le.refl _ _, ?_⟩
        obtain ⟨b1, b2, b3⟩ := fin _ z2 (.inr ⟨hl, rfl⟩) (.inl ⟨hzz, hz2⟩)
        simp only [go_sem, reduceCtorEq, reduceIte, Nat.reduceEqDiff, Nat.reduceAdd, Nat.reduceLeDiff, Nat.reduceMul, Int.reduceLT, Int.reduceLE, Int.reduceAdd, Int.reduceSub, Int.reduceMul, Int.reduceNeg, Int.reduceToNat, Int.reduceEq]
        refine callK_same (k159 _ _ _ v.w hw b1.1 b1.2) ?_
        simp only [go_sem, reduceCtorEq, reduceIte, Nat.reduceEqDiff, Nat.reduceAdd, Nat.reduceLeDiff, Nat.reduceMul, Int.reduceLT, Int.reduceLE, Int.reduceAdd, Int.reduceSub, Int.reduceMul, Int.reduceNeg, Int.reduceToNat, Int.reduceEq]
        refine callK_same (k159 _ _ _ v.w hw b2.1 b2.2) ?_
        simp only [go_sem, reduceCtorEq, reduceIte, Nat.reduceEqDiff, Nat.reduceAdd, Nat.reduceLeDiff, Nat.reduceMul, Int.reduceLT, Int.reduceLE, Int.reduceAdd, Int.reduceSub, Int.reduceMul, Int.reduceNeg, Int.reduceToNat, Int.reduceEq]
        exact endK_drop hM3 (endK_same ⟨rfl, rfl, _, _, rfl, b3⟩)
      · obtain ⟨b1, b2, b3⟩ := fin _ z (.inr ⟨hl, rfl⟩) (.inr ⟨hzz, rfl⟩)
        simp only [go_sem, reduceCtorEq, reduceIte, Nat.reduceEqDiff, Nat.reduceAdd, Nat.reduceLeDiff, Nat.reduceMul, Int.reduceLT, Int.reduceLE, Int.reduceAdd, Int.reduceSub, Int.reduceMul, Int.reduceNeg, Int.reduceToNat, Int.reduceEq, hzz]
        refine callK_same (k159 _ _ _ v.w hw b1.1 b1.2) ?_
        simp only [go_sem, reduceCtorEq, reduceIte, Nat.reduceEqDiff, Nat.reduceAdd, Nat.reduceLeDiff, Nat.reduceMul, Int.reduceLT, Int.reduceLE, Int.reduceAdd, Int.reduceSub, Int.reduceMul, Int.reduceNeg, Int.reduceToNat, Int.reduceEq]
        refine callK_same (k159 _ _ _ v.w hw b2.1 b2.2) ?_
        simp only [go_sem, reduceCtorEq, reduceIte, Nat.reduceEqDiff, Nat.reduceAdd, Nat.reduceLeDiff, Nat.reduceMul, Int.reduceLT, Int.reduceLE, Int.reduceAdd, Int.reduceSub, Int.reduceMul, Int.reduceNeg, Int.reduceToNat, Int.reduceEq]
        exact endK_drop hM3 (endK_same ⟨rfl, rfl, _, _, rfl, b3⟩)
end Go.Proofs.Try.K

/- Contracts: what is left behind a question. -/
namespace Go.Proofs.Try.K
open Go Go.Ax Go.Proofs.Try.S
set_option maxRecDepth 100000
set_option linter.unusedSimpArgs false
set_option linter.unusedVariables false
variable (F : Fz) (M : Hp)

def fitB (k : Int) (v : V) : Bool := isK k && v.ok && decide (v.w = ofW k)
theorem k83 (k : Int) (v : V) : CallsA Try.prog 83 [.int .i64 k, v.val] F M (Same F M (.bool (fitB k v))) := by
  refine callsA_of hm Try.func83 e83 (Nat.le_of_ble_eq_true rfl) ?_
  simp only [c83, go_sem, reduceCtorEq, reduceIte, Nat.reduceEqDiff, Nat.reduceAdd, Nat.reduceLeDiff, Nat.reduceMul, Int.reduceLT, Int.reduceLE, Int.reduceAdd, Int.reduceSub, Int.reduceMul, Int.reduceNeg, Int.reduceToNat, Int.reduceEq]
  intro r hF hM
  simp only [go_sem, reduceCtorEq, reduceIte, Nat.reduceEqDiff, Nat.reduceAdd, Nat.reduceLeDiff, Nat.reduceMul, Int.reduceLT, Int.reduceLE, Int.reduceAdd, Int.reduceSub, Int.reduceMul, Int.reduceNeg, Int.reduceToNat, Int.reduceEq]
  refine callK_same (k104 F _ k) ?_
  cases hk : isK k
  · simp only [go_sem, reduceCtorEq, reduceIte, Nat.reduceEqDiff, Nat.reduceAdd, Nat.reduceLeDiff, Nat.reduceMul, Int.reduceLT, Int.reduceLE, Int.reduceAdd, Int.reduceSub, Int.reduceMul, Int.reduceNeg, Int.reduceToNat, Int.reduceEq]
    exact endK_drop hM (endK_same ⟨by simp [fitB, hk], rfl, rfl⟩)
  simp only [go_sem, reduceCtorEq, reduceIte, Nat.reduceEqDiff, Nat.reduceAdd, Nat.reduceLeDiff, Nat.reduceMul, Int.reduceLT, Int.reduceLE, Int.reduceAdd, Int.reduceSub, Int.reduceMul, Int.reduceNeg, Int.reduceToNat, Int.reduceEq]
  refine callK_same (k74 F _ v) ?_
  cases hv : v.ok
  · simp only [go_sem, reduceCtorEq, reduceIte, Nat.reduceEqDiff, Nat.reduceAdd, Nat.reduceLeDiff, Nat.reduceMul, Int.reduceLT, Int.reduceLE, Int.reduceAdd, Int.reduceSub, Int.reduceMul, Int.reduceNeg, Int.reduceToNat, Int.reduceEq]
    exact endK_drop hM (endK_same ⟨by simp [fitB, hk, hv], rfl, rfl⟩)
  simp only [go_sem, reduceCtorEq, reduceIte, Nat.reduceEqDiff, Nat.reduceAdd, Nat.reduceLeDiff, Nat.reduceMul, Int.reduceLT, Int.reduceLE, Int.reduceAdd, Int.reduceSub, Int.reduceMul, Int.reduceNeg, Int.reduceToNat, Int.reduceEq]
  refine callK_same (k101 F _ k hk) ?_
  simp only [go_sem, reduceCtorEq, reduceIte, Nat.reduceEqDiff, Nat.reduceAdd, Nat.reduceLeDiff, Nat.reduceMul, Int.reduceLT, Int.reduceLE, Int.reduceAdd, Int.reduceSub, Int.reduceMul, Int.reduceNeg, Int.reduceToNat, Int.reduceEq]
  exact endK_drop hM (endK_same ⟨by simp [fitB, hk, hv], rfl, rfl⟩)
theorem k118 (v : V) (n : Int) (hv : v.ok = true) (h0 : 0 ≤ n) (h1 : n ≤ mostV v.w) : CallsA Try.prog 118 [v.val, .int .i64 n] F M fun u F' M' => F' = F ∧ M' = M ∧ ∃ z, u = V.val z ∧ MeetR v (butV v.w n) z := by
  refine callsA_of hm Try.func118 e118 (Nat.le_of_ble_eq_true rfl) ?_
  have hw := (ok_in hv).w
  have lw := isW_le hw
  have hm := mostV_pos lw.2
  have e1 : IntKind.i64.wrap (n + 1) = n + 1 := w64 (by omega) (by omega)
  have e2 : IntKind.i64.wrap (n - 1) = n - 1 := w64 (by omega) (by omega)
  have bo := but_ok (n := n) hw
  simp only [c118, go_sem, reduceCtorEq, reduceIte, Nat.reduceEqDiff, Nat.reduceAdd, Nat.reduceLeDiff, Nat.reduceMul, Int.reduceLT, Int.reduceLE, Int.reduceAdd, Int.reduceSub, Int.reduceMul, Int.reduceNeg, Int.reduceToNat, Int.reduceEq]
  intro r2 hF2 hM2
  simp only [go_sem, reduceCtorEq, reduceIte, Nat.reduceEqDiff, Nat.reduceAdd, Nat.reduceLeDiff, Nat.reduceMul, Int.reduceLT, Int.reduceLE, Int.reduceAdd, Int.reduceSub, Int.reduceMul, Int.reduceNeg, Int.reduceToNat, Int.reduceEq]
  intro r4 hF4 hM4
  have g4 := fresh_of hM4
  simp only [go_sem, reduceCtorEq, reduceIte, Nat.reduceEqDiff, Nat.reduceAdd, Nat.reduceLeDiff, Nat.reduceMul, Int.reduceLT, Int.reduceLE, Int.reduceAdd, Int.reduceSub, Int.reduceMul, Int.reduceNeg, Int.reduceToNat, Int.reduceEq, g4, e1, e2]
  refine callK_same (k145 F _ _ v.w lw.1 lw.2) ?_
  simp only [go_sem, reduceCtorEq, reduceIte, Nat.reduceEqDiff, Nat.reduceAdd, Nat.reduceLeDiff, Nat.reduceMul, Int.reduceLT, Int.reduceLE, Int.reduceAdd, Int.reduceSub, Int.reduceMul, Int.reduceNeg, Int.reduceToNat, Int.reduceEq, g4]
  refine callK_same (k145 F _ _ v.w lw.1 lw.2) ?_
  simp only [go_sem, reduceCtorEq, reduceIte, Nat.reduceEqDiff, Nat.reduceAdd, Nat.reduceLeDiff, Nat.reduceMul, Int.reduceLT, Int.reduceLE, Int.reduceAdd, Int.reduceSub, Int.reduceMul, Int.reduceNeg, Int.reduceToNat, Int.reduceEq, g4]
  refine callK_same (k103 F _ v.w _ _ lw.1 lw.2) ?_
  simp only [go_sem, reduceCtorEq, reduceIte, Nat.reduceEqDiff, Nat.reduceAdd, Nat.reduceLeDiff, Nat.reduceMul, Int.reduceLT, Int.reduceLE, Int.reduceAdd, Int.reduceSub, Int.reduceMul, Int.reduceNeg, Int.reduceToNat, Int.reduceEq, g4]
  have eb : V.span v.w ((n + 1) % 2 ^ v.w.toNat) ((n - 1) % 2 ^ v.w.toNat) = butV v.w n := rfl
  rw [eb]
  refine callK_of (k117 F _ v (butV v.w n) hv bo.1 bo.2) ?_
  rintro u G M' ⟨rfl, rfl, z, rfl, hz⟩
  refine ⟨fun _ => Le.refl _ _, ?_⟩
  simp only [go_sem, reduceCtorEq, reduceIte, Nat.reduceEqDiff, Nat.reduceAdd, Nat.reduceLeDiff, Nat.reduceMul, Int.reduceLT, Int.reduceLE, Int.reduceAdd, Int.reduceSub, Int.reduceMul, Int.reduceNeg, Int.reduceToNat, Int.reduceEq, g4]
  exact endK_keep (M := M) (((Keep.refl M).new hM2).new g4.2.2) ⟨rfl, rfl, z, rfl, hz⟩
theorem k148 (k lo hi : Int) (hk : isK k = true) : CallsA Try.prog 148 [.int .i64 k, .int .i64 lo, .int .i64 hi] F M (Same F M (rangeV k lo hi).val) := by
  refine callsA_of hm Try.func148 e148 (Nat.le_of_ble_eq_true rfl) ?_
  have lw := isW_le (ofW_isW k)
  simp only [c148, go_sem, reduceCtorEq, reduceIte, Nat.reduceEqDiff, Nat.reduceAdd, Nat.reduceLeDiff, Nat.reduceMul, Int.reduceLT, Int.reduceLE, Int.reduceAdd, Int.reduceSub, Int.reduceMul, Int.reduceNeg, Int.reduceToNat, Int.reduceEq]
  intro r hF hM
  simp only [go_sem, reduceCtorEq, reduceIte, Nat.reduceEqDiff, Nat.reduceAdd, Nat.reduceLeDiff, Nat.reduceMul, Int.reduceLT, Int.reduceLE, Int.reduceAdd, Int.reduceSub, Int.reduceMul, Int.reduceNeg, Int.reduceToNat, Int.reduceEq]
  refine callK_same (k101 F _ k hk) ?_
  by_cases h : hi < lo
  · simp only [go_sem, reduceCtorEq, reduceIte, Nat.reduceEqDiff, Nat.reduceAdd, Nat.reduceLeDiff, Nat.reduceMul, Int.reduceLT, Int.reduceLE, Int.reduceAdd, Int.reduceSub, Int.reduceMul, Int.reduceNeg, Int.reduceToNat, Int.reduceEq, h]
    refine callK_same (k115 F _ (ofW k)) ?_
    simp only [go_sem, reduceCtorEq, reduceIte, Nat.reduceEqDiff, Nat.reduceAdd, Nat.reduceLeDiff, Nat.reduceMul, Int.reduceLT, Int.reduceLE, Int.reduceAdd, Int.reduceSub, Int.reduceMul, Int.reduceNeg, Int.reduceToNat, Int.reduceEq]
    exact endK_drop hM (endK_same ⟨by simp [rangeV, h], rfl, rfl⟩)
  · simp only [go_sem, reduceCtorEq, reduceIte, Nat.reduceEqDiff, Nat.reduceAdd, Nat.reduceLeDiff, Nat.reduceMul, Int.reduceLT, Int.reduceLE, Int.reduceAdd, Int.reduceSub, Int.reduceMul, Int.reduceNeg, Int.reduceToNat, Int.reduceEq, h]
    refine callK_same (k145 F _ _ _ lw.1 lw.2) ?_
    simp only [go_sem, reduceCtorEq, reduceIte, Nat.reduceEqDiff, Nat.reduceAdd, Nat.reduceLeDiff, Nat.reduceMul, Int.reduceLT, Int.reduceLE, Int.reduceAdd, Int.reduceSub, Int.reduceMul, Int.reduceNeg, Int.reduceToNat, Int.reduceEq]
    refine callK_same (k145 F _ _ _ lw.1 lw.2) ?_
    simp only [go_sem, reduceCtorEq, reduceIte, Nat.reduceEqDiff, Nat.reduceAdd, Nat.reduceLeDiff, Nat.reduceMul, Int.reduceLT, Int.reduceLE, Int.reduceAdd, Int.reduceSub, Int.reduceMul, Int.reduceNeg, Int.reduceToNat, Int.reduceEq]
    refine callK_same (k103 F _ _ _ _ lw.1 lw.2) ?_
    simp only [go_sem, reduceCtorEq, reduceIte, Nat.reduceEqDiff, Nat.reduceAdd, Nat.reduceLeDiff, Nat.reduceMul, Int.reduceLT, Int.reduceLE, Int.reduceAdd, Int.reduceSub, Int.reduceMul, Int.reduceNeg, Int.reduceToNat, Int.reduceEq]
    exact endK_drop hM (endK_same ⟨by simp [rangeV, h], rfl, rfl⟩)
def pairA (x y : V) : Value := .tuple #[x.val, y.val]
theorem k120 (k : Int) (a b : V) (yes : Bool) (ha : a.ok = true) (hb : b.ok = true) (hw : b.w = a.w) :
    CallsA Try.prog 120 [a.val, b.val, .bool yes] F M fun u F' M' => F' = F ∧ M' = M ∧ ∃ x y, u = pairA x y ∧ PreR 18 k a b yes x y := by
  refine callsA_of hm Try.func120 e120 (Nat.le_of_ble_eq_true rfl) ?_
  simp only [c120, go_sem, reduceCtorEq, reduceIte, Nat.reduceEqDiff, Nat.reduceAdd, Nat.reduceLeDiff, Nat.reduceMul, Int.reduceLT, Int.reduceLE, Int.reduceAdd, Int.reduceSub, Int.reduceMul, Int.reduceNeg, Int.reduceToNat, Int.reduceEq]
  intro r3 hF3 hM3
  simp only [go_sem, reduceCtorEq, reduceIte, Nat.reduceEqDiff, Nat.reduceAdd, Nat.reduceLeDiff, Nat.reduceMul, Int.reduceLT, Int.reduceLE, Int.reduceAdd, Int.reduceSub, Int.reduceMul, Int.reduceNeg, Int.reduceToNat, Int.reduceEq]
  intro r4 hF4 hM4
  have g4 := fresh_of hM4
  simp only [go_sem, reduceCtorEq, reduceIte, Nat.reduceEqDiff, Nat.reduceAdd, Nat.reduceLeDiff, Nat.reduceMul, Int.reduceLT, Int.reduceLE, Int.reduceAdd, Int.reduceSub, Int.reduceMul, Int.reduceNeg, Int.reduceToNat, Int.reduceEq, g4]
  intro r6 hF6 hM6
  have g6 := fresh_of hM6
  have g62 := fresh_of g6.2.2
  simp only [go_sem, reduceCtorEq, reduceIte, Nat.reduceEqDiff, Nat.reduceAdd, Nat.reduceLeDiff, Nat.reduceMul, Int.reduceLT, Int.reduceLE, Int.reduceAdd, Int.reduceSub, Int.reduceMul, Int.reduceNeg, Int.reduceToNat, Int.reduceEq, g4, g6, g62]
  intro r7 hF7 hM7
  have g7 := fresh_of hM7
  have g72 := fresh_of g7.2.2
  have g73 := fresh_of g72.2.2
  simp only [go_sem, reduceCtorEq, reduceIte, Nat.reduceEqDiff, Nat.reduceAdd, Nat.reduceLeDiff, Nat.reduceMul, Int.reduceLT, Int.reduceLE, Int.reduceAdd, Int.reduceSub, Int.reduceMul, Int.reduceNeg, Int.reduceToNat, Int.reduceEq, g4, g6, g62, g7, g72, g73]
  have kz : ∀ e1 e2 e3 e4, Keep M ((((M.upd r3 e1).upd r4 e2).upd r6 e3).upd r7 e4) := fun e1 e2 e3 e4 => ((((Keep.refl M).new hM3).new g4.2.2).new g62.2.2).new g73.2.2
  cases yes
  rotate_left
  · simp only [go_sem, reduceCtorEq, reduceIte, Nat.reduceEqDiff, Nat.reduceAdd, Nat.reduceLeDiff, Nat.reduceMul, Int.reduceLT, Int.reduceLE, Int.reduceAdd, Int.reduceSub, Int.reduceMul, Int.reduceNeg, Int.reduceToNat, Int.reduceEq, g4, g6, g62, g7, g72, g73]
    refine callK_of (k117 F _ a b ha hb hw) ?_
    rintro u G M' ⟨rfl, rfl, x, rfl, hx⟩
    refine ⟨fun _ => Le.refl _ _, ?_⟩
    simp only [go_sem, reduceCtorEq, reduceIte, Nat.reduceEqDiff, Nat.reduceAdd, Nat.reduceLeDiff, Nat.reduceMul, Int.reduceLT, Int.reduceLE, Int.reduceAdd, Int.reduceSub, Int.reduceMul, Int.reduceNeg, Int.reduceToNat, Int.reduceEq, g4, g6, g62, g7, g72, g73]
    refine callK_of (k117 _ _ b a hb ha hw.symm) ?_
    rintro u G M' ⟨rfl, rfl, y, rfl, hy⟩
    refine ⟨fun _ => Le.refl _ _, ?_⟩
    simp only [go_sem, reduceCtorEq, reduceIte, Nat.reduceEqDiff, Nat.reduceAdd, Nat.reduceLeDiff, Nat.reduceMul, Int.reduceLT, Int.reduceLE, Int.reduceAdd, Int.reduceSub, Int.reduceMul, Int.reduceNeg, Int.reduceToNat, Int.reduceEq, g4, g6, g62, g7, g72, g73]
    exact endK_keep (M := M) (kz _ _ _ _) ⟨rfl, rfl, x, y, rfl, pre_eq_yes ha hb hw hx hy⟩
  simp only [go_sem, reduceCtorEq, reduceIte, Nat.reduceEqDiff, Nat.reduceAdd, Nat.reduceLeDiff, Nat.reduceMul, Int.reduceLT, Int.reduceLE, Int.reduceAdd, Int.reduceSub, Int.reduceMul, Int.reduceNeg, Int.reduceToNat, Int.reduceEq, g4, g6, g62, g7, g72, g73]
  intro r8 hF8 hM8
  have g8 := fresh_of hM8
  have g82 := fresh_of g8.2.2
  have g83 := fresh_of g82.2.2
  have g84 := fresh_of g83.2.2
  simp only [go_sem, reduceCtorEq, reduceIte, Nat.reduceEqDiff, Nat.reduceAdd, Nat.reduceLeDiff, Nat.reduceMul, Int.reduceLT, Int.reduceLE, Int.reduceAdd, Int.reduceSub, Int.reduceMul, Int.reduceNeg, Int.reduceToNat, Int.reduceEq, g4, g6, g62, g7, g72, g73, g8, g82, g83, g84]
  intro r9 hF9 hM9
  have g9 := fresh_of hM9
  have g92 := fresh_of g9.2.2
  have g93 := fresh_of g92.2.2
  have g94 := fresh_of g93.2.2
  have g95 := fresh_of g94.2.2
  have kz : ∀ e1 e2 e3 e4 e5 e6, Keep M ((((((M.upd r3 e1).upd r4 e2).upd r6 e3).upd r7 e4).upd r8 e5).upd r9 e6) := fun e1 e2 e3 e4 e5 e6 => ((kz e1 e2 e3 e4).new g84.2.2).new g95.2.2
  simp only [go_sem, reduceCtorEq, reduceIte, Nat.reduceEqDiff, Nat.reduceAdd, Nat.reduceLeDiff, Nat.reduceMul, Int.reduceLT, Int.reduceLE, Int.reduceAdd, Int.reduceSub, Int.reduceMul, Int.reduceNeg, Int.reduceToNat, Int.reduceEq, g4, g6, g62, g7, g72, g73, g8, g82, g83, g84, g9, g92, g93, g94, g95]
  refine callK_same (k110 _ _ b hb) ?_
  cases hb1 : b.is1
  · have hx : NotR a b a := by rw [NotR, if_neg (by rw [hb1]; decide)]
    simp only [loneA, go_sem, reduceCtorEq, reduceIte, Nat.reduceEqDiff, Nat.reduceAdd, Nat.reduceLeDiff, Nat.reduceMul, Int.reduceLT, Int.reduceLE, Int.reduceAdd, Int.reduceSub, Int.reduceMul, Int.reduceNeg, Int.reduceToNat, Int.reduceEq, g4, g6, g62, g7, g72, g73, g8, g82, g83, g84, g9, g92, g93, g94, g95, hb1]
    refine callK_same (k110 _ _ a ha) ?_
    cases ha1 : a.is1
    · simp only [loneA, go_sem, reduceCtorEq, reduceIte, Nat.reduceEqDiff, Nat.reduceAdd, Nat.reduceLeDiff, Nat.reduceMul, Int.reduceLT, Int.reduceLE, Int.reduceAdd, Int.reduceSub, Int.reduceMul, Int.reduceNeg, Int.reduceToNat, Int.reduceEq, g4, g6, g62, g7, g72, g73, g8, g82, g83, g84, g9, g92, g93, g94, g95, ha1]
      exact endK_keep (M := M) (kz _ _ _ _ _ _) ⟨rfl, rfl, _, _, rfl, pre_eq_no ha hb hw hx (by rw [NotR, if_neg (by rw [ha1]; decide)])⟩
    · obtain ⟨a1, a2, _, _⟩ := is1_mem ha ha1
      simp only [loneA, go_sem, reduceCtorEq, reduceIte, Nat.reduceEqDiff, Nat.reduceAdd, Nat.reduceLeDiff, Nat.reduceMul, Int.reduceLT, Int.reduceLE, Int.reduceAdd, Int.reduceSub, Int.reduceMul, Int.reduceNeg, Int.reduceToNat, Int.reduceEq, g4, g6, g62, g7, g72, g73, g8, g82, g83, g84, g9, g92, g93, g94, g95, ha1]
      refine callK_of (k118 _ _ b _ hb a1 (by rw [hw]; exact a2)) ?_
      rintro u G M' ⟨rfl, rfl, y, rfl, hy⟩
      refine ⟨fun _ => Le.refl _ _, ?_⟩
      simp only [go_sem, reduceCtorEq, reduceIte, Nat.reduceEqDiff, Nat.reduceAdd, Nat.reduceLeDiff, Nat.reduceMul, Int.reduceLT, Int.reduceLE, Int.reduceAdd, Int.reduceSub, Int.reduceMul, Int.reduceNeg, Int.reduceToNat, Int.reduceEq, g4, g6, g62, g7, g72, g73, g8, g82, g83, g84, g9, g92, g93, g94, g95]
      exact endK_keep (M := M) (kz _ _ _ _ _ _) ⟨rfl, rfl, _, _, rfl, pre_eq_no ha hb hw hx (by rw [NotR, if_pos ha1]; exact hy)⟩
  · obtain ⟨b1, b2, _, _⟩ := is1_mem hb hb1
    simp only [loneA, go_sem, reduceCtorEq, reduceIte, Nat.reduceEqDiff, Nat.reduceAdd, Nat.reduceLeDiff, Nat.reduceMul, Int.reduceLT, Int.reduceLE, Int.reduceAdd, Int.reduceSub, Int.reduceMul, Int.reduceNeg, Int.reduceToNat, Int.reduceEq, g4, g6, g62, g7, g72, g73, g8, g82, g83, g84, g9, g92, g93, g94, g95, hb1]
    refine callK_of (k118 _ _ a _ ha b1 (by rw [← hw]; exact b2)) ?_
    rintro u G M' ⟨rfl, rfl, x, rfl, hx⟩
    refine ⟨fun _ => Le.refl _ _, ?_⟩
    replace hx : NotR a b x := by rw [NotR, if_pos hb1]; exact hx
    simp only [loneA, go_sem, reduceCtorEq, reduceIte, Nat.reduceEqDiff, Nat.reduceAdd, Nat.reduceLeDiff, Nat.reduceMul, Int.reduceLT, Int.reduceLE, Int.reduceAdd, Int.reduceSub, Int.reduceMul, Int.reduceNeg, Int.reduceToNat, Int.reduceEq, g4, g6, g62, g7, g72, g73, g8, g82, g83, g84, g9, g92, g93, g94, g95, hb1]
    refine callK_same (k110 _ _ a ha) ?_
    cases ha1 : a.is1
    · simp only [loneA, go_sem, reduceCtorEq, reduceIte, Nat.reduceEqDiff, Nat.reduceAdd, Nat.reduceLeDiff, Nat.reduceMul, Int.reduceLT, Int.reduceLE, Int.reduceAdd, Int.reduceSub, Int.reduceMul, Int.reduceNeg, Int.reduceToNat, Int.reduceEq, g4, g6, g62, g7, g72, g73, g8, g82, g83, g84, g9, g92, g93, g94, g95, ha1]
      exact endK_keep (M := M) (kz _ _ _ _ _ _) ⟨rfl, rfl, _, _, rfl, pre_eq_no ha hb hw hx (by rw [NotR, if_neg (by rw [ha1]; decide)])⟩
    · obtain ⟨a1, a2, _, _⟩ := is1_mem ha ha1
      simp only [loneA, go_sem, reduceCtorEq, reduceIte, Nat.reduceEqDiff, Nat.reduceAdd, Nat.reduceLeDiff, Nat.reduceMul, Int.reduceLT, Int.reduceLE, Int.reduceAdd, Int.reduceSub, Int.reduceMul, Int.reduceNeg, Int.reduceToNat, Int.reduceEq, g4, g6, g62, g7, g72, g73, g8, g82, g83, g84, g9, g92, g93, g94, g95, ha1]
      refine callK_of (k118 _ _ b _ hb a1 (by rw [hw]; exact a2)) ?_
      rintro u G M' ⟨rfl, rfl, y, rfl, hy⟩
      refine ⟨fun _ => Le.refl _ _, ?_⟩
      simp only [go_sem, reduceCtorEq, reduceIte, Nat.reduceEqDiff, Nat.reduceAdd, Nat.reduceLeDiff, Nat.reduceMul, Int.reduceLT, Int.reduceLE, Int.reduceAdd, Int.reduceSub, Int.reduceMul, Int.reduceNeg, Int.reduceToNat, Int.reduceEq, g4, g6, g62, g7, g72, g73, g8, g82, g83, g84, g9, g92, g93, g94, g95]
      exact endK_keep (M := M) (kz _ _ _ _ _ _) ⟨rfl, rfl, _, _, rfl, pre_eq_no ha hb hw hx (by rw [NotR, if_pos ha1]; exact hy)⟩
theorem k121 (k : Int) (a b : V) (yes : Bool) (ha : a.ok = true) (hb : b.ok = true) (hk : isK k = true) (wa : a.w = ofW k) (wb : b.w = ofW k) (na : ¬ a.nextR 0 < 0) (nb : ¬ b.nextR 0 < 0) :
    CallsA Try.prog 121 [.int .i64 k, a.val, b.val, .bool yes] F M fun u F' M' => F' = F ∧ M' = M ∧ ∃ x y, u = pairA x y ∧ PreR 19 k a b yes x y := by
  refine callsA_of hm Try.func121 e121 (Nat.le_of_ble_eq_true rfl) ?_
  have hp := pow_w (ofW_isW k)
  simp only [c121, go_sem, reduceCtorEq, reduceIte, Nat.reduceEqDiff, Nat.reduceAdd, Nat.reduceLeDiff, Nat.reduceMul, Int.reduceLT, Int.reduceLE, Int.reduceAdd, Int.reduceSub, Int.reduceMul, Int.reduceNeg, Int.reduceToNat, Int.reduceEq]
  intro r5 hF5 hM5
  simp only [go_sem, reduceCtorEq, reduceIte, Nat.reduceEqDiff, Nat.reduceAdd, Nat.reduceLeDiff, Nat.reduceMul, Int.reduceLT, Int.reduceLE, Int.reduceAdd, Int.reduceSub, Int.reduceMul, Int.reduceNeg, Int.reduceToNat, Int.reduceEq]
  intro r6 hF6 hM6
  have g6 := fresh_of hM6
  simp only [go_sem, reduceCtorEq, reduceIte, Nat.reduceEqDiff, Nat.reduceAdd, Nat.reduceLeDiff, Nat.reduceMul, Int.reduceLT, Int.reduceLE, Int.reduceAdd, Int.reduceSub, Int.reduceMul, Int.reduceNeg, Int.reduceToNat, Int.reduceEq, g6]
  intro r8 hF8 hM8
  have g8 := fresh_of hM8
  have g82 := fresh_of g8.2.2
  simp only [go_sem, reduceCtorEq, reduceIte, Nat.reduceEqDiff, Nat.reduceAdd, Nat.reduceLeDiff, Nat.reduceMul, Int.reduceLT, Int.reduceLE, Int.reduceAdd, Int.reduceSub, Int.reduceMul, Int.reduceNeg, Int.reduceToNat, Int.reduceEq, g6, g8, g82]
  intro r9 hF9 hM9
  have g9 := fresh_of hM9
  have g92 := fresh_of g9.2.2
  have g93 := fresh_of g92.2.2
  have kz : ∀ e1 e2 e3 e4, Keep M ((((M.upd r5 e1).upd r6 e2).upd r8 e3).upd r9 e4) := fun e1 e2 e3 e4 => ((((Keep.refl M).new hM5).new g6.2.2).new g82.2.2).new g93.2.2
  simp only [go_sem, reduceCtorEq, reduceIte, Nat.reduceEqDiff, Nat.reduceAdd, Nat.reduceLeDiff, Nat.reduceMul, Int.reduceLT, Int.reduceLE, Int.reduceAdd, Int.reduceSub, Int.reduceMul, Int.reduceNeg, Int.reduceToNat, Int.reduceEq, g6, g8, g82, g9, g92, g93]
  refine callK_same (k146 _ _ k hk) ?_
  simp only [go_sem, reduceCtorEq, reduceIte, Nat.reduceEqDiff, Nat.reduceAdd, Nat.reduceLeDiff, Nat.reduceMul, Int.reduceLT, Int.reduceLE, Int.reduceAdd, Int.reduceSub, Int.reduceMul, Int.reduceNeg, Int.reduceToNat, Int.reduceEq, g6, g8, g82, g9, g92, g93]
  refine callK_of (k147 _ _ k a hk ha wa na) ?_
  rintro u G M' ⟨rfl, rfl, la, ha', rfl, sa⟩
  refine ⟨fun _ => Le.refl _ _, ?_⟩
  simp only [go_sem, reduceCtorEq, reduceIte, Nat.reduceEqDiff, Nat.reduceAdd, Nat.reduceLeDiff, Nat.reduceMul, Int.reduceLT, Int.reduceLE, Int.reduceAdd, Int.reduceSub, Int.reduceMul, Int.reduceNeg, Int.reduceToNat, Int.reduceEq, g6, g8, g82, g9, g92, g93]
  refine callK_of (k147 _ _ k b hk hb wb nb) ?_
  rintro u G M' ⟨rfl, rfl, lb, hb', rfl, sb⟩
  refine ⟨fun _ => Le.refl _ _, ?_⟩
  have b1 : -4294967296 ≤ hb' ∧ hb' ≤ 4294967296 := by
    obtain ⟨n, n0, n1, _, rfl⟩ := sb.high
    have := seen_range (k := k) n0 (by rw [← wb]; exact n1)
    unfold leastK mostK at this
    cases hs : sgn k <;> simp [hs] at this <;> omega
  have b2 : -4294967296 ≤ la ∧ la ≤ 4294967296 := by
    obtain ⟨n, n0, n1, _, rfl⟩ := sa.low
    have := seen_range (k := k) n0 (by rw [← wa]; exact n1)
    unfold leastK mostK at this
    cases hs : sgn k <;> simp [hs] at this <;> omega
  have e1 : IntKind.i64.wrap (hb' - 1) = hb' - 1 := w64 (by omega) (by omega)
  have e2 : IntKind.i64.wrap (la + 1) = la + 1 := w64 (by omega) (by omega)
  have ro := fun lo hi => range_ok k lo hi
  cases yes
  · simp only [go_sem, reduceCtorEq, reduceIte, Nat.reduceEqDiff, Nat.reduceAdd, Nat.reduceLeDiff, Nat.reduceMul, Int.reduceLT, Int.reduceLE, Int.reduceAdd, Int.reduceSub, Int.reduceMul, Int.reduceNeg, Int.reduceToNat, Int.reduceEq, g6, g8, g82, g9, g92, g93]
    refine callK_same (k148 _ _ k _ _ hk) ?_
    simp only [go_sem, reduceCtorEq, reduceIte, Nat.reduceEqDiff, Nat.reduceAdd, Nat.reduceLeDiff, Nat.reduceMul, Int.reduceLT, Int.reduceLE, Int.reduceAdd, Int.reduceSub, Int.reduceMul, Int.reduceNeg, Int.reduceToNat, Int.reduceEq, g6, g8, g82, g9, g92, g93]
    refine callK_of (k117 _ _ a _ ha (ro _ _).1 (by rw [(ro _ _).2, wa])) ?_
    rintro u G M' ⟨rfl, rfl, x, rfl, hx⟩
    refine ⟨fun _ => Le.refl _ _, ?_⟩
    simp only [go_sem, reduceCtorEq, reduceIte, Nat.reduceEqDiff, Nat.reduceAdd, Nat.reduceLeDiff, Nat.reduceMul, Int.reduceLT, Int.reduceLE, Int.reduceAdd, Int.reduceSub, Int.reduceMul, Int.reduceNeg, Int.reduceToNat, Int.reduceEq, g6, g8, g82, g9, g92, g93]
    refine callK_same (k148 _ _ k _ _ hk) ?_
    simp only [go_sem, reduceCtorEq, reduceIte, Nat.reduceEqDiff, Nat.reduceAdd, Nat.reduceLeDiff, Nat.reduceMul, Int.reduceLT, Int.reduceLE, Int.reduceAdd, Int.reduceSub, Int.reduceMul, Int.reduceNeg, Int.reduceToNat, Int.reduceEq, g6, g8, g82, g9, g92, g93]
    refine callK_of (k117 _ _ b _ hb (ro _ _).1 (by rw [(ro _ _).2, wb])) ?_
    rintro u G M' ⟨rfl, rfl, y, rfl, hy⟩
    refine ⟨fun _ => Le.refl _ _, ?_⟩
    simp only [go_sem, reduceCtorEq, reduceIte, Nat.reduceEqDiff, Nat.reduceAdd, Nat.reduceLeDiff, Nat.reduceMul, Int.reduceLT, Int.reduceLE, Int.reduceAdd, Int.reduceSub, Int.reduceMul, Int.reduceNeg, Int.reduceToNat, Int.reduceEq, g6, g8, g82, g9, g92, g93]
    exact endK_keep (M := M) (kz _ _ _ _) ⟨rfl, rfl, x, y, rfl, pre_less false ha hb hk wa wb sa sb hx hy⟩
  · simp only [go_sem, reduceCtorEq, reduceIte, Nat.reduceEqDiff, Nat.reduceAdd, Nat.reduceLeDiff, Nat.reduceMul, Int.reduceLT, Int.reduceLE, Int.reduceAdd, Int.reduceSub, Int.reduceMul, Int.reduceNeg, Int.reduceToNat, Int.reduceEq, g6, g8, g82, g9, g92, g93, e1, e2]
    refine callK_same (k148 _ _ k _ _ hk) ?_
    simp only [go_sem, reduceCtorEq, reduceIte, Nat.reduceEqDiff, Nat.reduceAdd, Nat.reduceLeDiff, Nat.reduceMul, Int.reduceLT, Int.reduceLE, Int.reduceAdd, Int.reduceSub, Int.reduceMul, Int.reduceNeg, Int.reduceToNat, Int.reduceEq, g6, g8, g82, g9, g92, g93]
    refine callK_of (k117 _ _ a _ ha (ro _ _).1 (by rw [(ro _ _).2, wa])) ?_
    rintro u G M' ⟨rfl, rfl, x, rfl, hx⟩
    refine ⟨fun _ => Le.refl _ _, ?_⟩
    simp only [go_sem, reduceCtorEq, reduceIte, Nat.reduceEqDiff, Nat.reduceAdd, Nat.reduceLeDiff, Nat.reduceMul, Int.reduceLT, Int.reduceLE, Int.reduceAdd, Int.reduceSub, Int.reduceMul, Int.reduceNeg, Int.reduceToNat, Int.reduceEq, g6, g8, g82, g9, g92, g93]
    refine callK_same (k148 _ _ k _ _ hk) ?_
    simp only [go_sem, reduceCtorEq, reduceIte, Nat.reduceEqDiff, Nat.reduceAdd, Nat.reduceLeDiff, Nat.reduceMul, Int.reduceLT, Int.reduceLE, Int.reduceAdd, Int.reduceSub, Int.reduceMul, Int.reduceNeg, Int.reduceToNat, Int.reduceEq, g6, g8, g82, g9, g92, g93]
    refine callK_of (k117 _ _ b _ hb (ro _ _).1 (by rw [(ro _ _).2, wb])) ?_
    rintro u G M' ⟨rfl, rfl, y, rfl, hy⟩
    refine ⟨fun _ => Le.refl _ _, ?_⟩
    simp only [go_sem, reduceCtorEq, reduceIte, Nat.reduceEqDiff, Nat.reduceAdd, Nat.reduceLeDiff, Nat.reduceMul, Int.reduceLT, Int.reduceLE, Int.reduceAdd, Int.reduceSub, Int.reduceMul, Int.reduceNeg, Int.reduceToNat, Int.reduceEq, g6, g8, g82, g9, g92, g93]
    exact endK_keep (M := M) (kz _ _ _ _) ⟨rfl, rfl, x, y, rfl, pre_less true ha hb hk wa wb sa sb hx hy⟩
end Go.Proofs.Try.K

/- Contracts: what is left behind a question, asked. -/
namespace Go.Proofs.Try.K
open Go Go.Ax Go.Proofs.Try.S
set_option maxRecDepth 100000
set_option linter.unusedSimpArgs false
set_option linter.unusedVariables false
variable (F : Fz) (M : Hp)

theorem k84 (op k : Int) (a b : V) (yes : Bool) (hop : op = 18 ∨ op = 19) (ha : a.ok = true) (hb : b.ok = true) (hk : isK k = true) (wa : a.w = ofW k) (wb : b.w = ofW k) :
    CallsA Try.prog 84 [.int .i64 op, .int .i64 k, a.val, b.val, .bool yes] F M fun u F' M' => F' = F ∧ M' = M ∧ ∃ x y, u = pairA x y ∧ TwoR op k a b yes x y := by
  refine callsA_of hm Try.func84 e84 (Nat.le_of_ble_eq_true rfl) ?_
  have hw : b.w = a.w := by rw [wa, wb]
  simp only [c84, go_sem, reduceCtorEq, reduceIte, Nat.reduceEqDiff, Nat.reduceAdd, Nat.reduceLeDiff, Nat.reduceMul, Int.reduceLT, Int.reduceLE, Int.reduceAdd, Int.reduceSub, Int.reduceMul, Int.reduceNeg, Int.reduceToNat, Int.reduceEq]
  intro r7 hF7 hM7
  simp only [go_sem, reduceCtorEq, reduceIte, Nat.reduceEqDiff, Nat.reduceAdd, Nat.reduceLeDiff, Nat.reduceMul, Int.reduceLT, Int.reduceLE, Int.reduceAdd, Int.reduceSub, Int.reduceMul, Int.reduceNeg, Int.reduceToNat, Int.reduceEq]
  intro r8 hF8 hM8
  have g8 := fresh_of hM8
  simp only [go_sem, reduceCtorEq, reduceIte, Nat.reduceEqDiff, Nat.reduceAdd, Nat.reduceLeDiff, Nat.reduceMul, Int.reduceLT, Int.reduceLE, Int.reduceAdd, Int.reduceSub, Int.reduceMul, Int.reduceNeg, Int.reduceToNat, Int.reduceEq, g8]
  intro r10 hF10 hM10
  have g10 := fresh_of hM10
  have g102 := fresh_of g10.2.2
  simp only [go_sem, reduceCtorEq, reduceIte, Nat.reduceEqDiff, Nat.reduceAdd, Nat.reduceLeDiff, Nat.reduceMul, Int.reduceLT, Int.reduceLE, Int.reduceAdd, Int.reduceSub, Int.reduceMul, Int.reduceNeg, Int.reduceToNat, Int.reduceEq, g8, g10, g102]
  intro r11 hF11 hM11
  have g11 := fresh_of hM11
  have g112 := fresh_of g11.2.2
  have g113 := fresh_of g112.2.2
  simp only [go_sem, reduceCtorEq, reduceIte, Nat.reduceEqDiff, Nat.reduceAdd, Nat.reduceLeDiff, Nat.reduceMul, Int.reduceLT, Int.reduceLE, Int.reduceAdd, Int.reduceSub, Int.reduceMul, Int.reduceNeg, Int.reduceToNat, Int.reduceEq, g8, g10, g102, g11, g112, g113]
  refine callK_same (k115 _ _ a.w) ?_
  simp only [go_sem, reduceCtorEq, reduceIte, Nat.reduceEqDiff, Nat.reduceAdd, Nat.reduceLeDiff, Nat.reduceMul, Int.reduceLT, Int.reduceLE, Int.reduceAdd, Int.reduceSub, Int.reduceMul, Int.reduceNeg, Int.reduceToNat, Int.reduceEq, g8, g10, g102, g11, g112, g113]
  intro r12 hF12 hM12
  have g12 := fresh_of hM12
  have g122 := fresh_of g12.2.2
  have g123 := fresh_of g122.2.2
  have g124 := fresh_of g123.2.2
  have kz : ∀ e1 e2 e3 e4 e5, Keep M (((((M.upd r7 e1).upd r8 e2).upd r10 e3).upd r11 e4).upd r12 e5) := fun e1 e2 e3 e4 e5 => (((((Keep.refl M).new hM7).new g8.2.2).new g102.2.2).new g113.2.2).new g124.2.2
  simp only [go_sem, reduceCtorEq, reduceIte, Nat.reduceEqDiff, Nat.reduceAdd, Nat.reduceLeDiff, Nat.reduceMul, Int.reduceLT, Int.reduceLE, Int.reduceAdd, Int.reduceSub, Int.reduceMul, Int.reduceNeg, Int.reduceToNat, Int.reduceEq, g8, g10, g102, g11, g112, g113, g12, g122, g123, g124]
  refine callK_same (k109 _ _ a ha) ?_
  by_cases va : a.nextR 0 < 0
  · simp only [go_sem, reduceCtorEq, reduceIte, Nat.reduceEqDiff, Nat.reduceAdd, Nat.reduceLeDiff, Nat.reduceMul, Int.reduceLT, Int.reduceLE, Int.reduceAdd, Int.reduceSub, Int.reduceMul, Int.reduceNeg, Int.reduceToNat, Int.reduceEq, g8, g10, g102, g11, g112, g113, g12, g122, g123, g124, va]
    exact endK_keep (M := M) (kz _ _ _ _ _) ⟨rfl, rfl, _, _, rfl, two_void ha hb hw (.inl va)⟩
  simp only [go_sem, reduceCtorEq, reduceIte, Nat.reduceEqDiff, Nat.reduceAdd, Nat.reduceLeDiff, Nat.reduceMul, Int.reduceLT, Int.reduceLE, Int.reduceAdd, Int.reduceSub, Int.reduceMul, Int.reduceNeg, Int.reduceToNat, Int.reduceEq, g8, g10, g102, g11, g112, g113, g12, g122, g123, g124, va]
  refine callK_same (k109 _ _ b hb) ?_
  by_cases vb : b.nextR 0 < 0
  · simp only [go_sem, reduceCtorEq, reduceIte, Nat.reduceEqDiff, Nat.reduceAdd, Nat.reduceLeDiff, Nat.reduceMul, Int.reduceLT, Int.reduceLE, Int.reduceAdd, Int.reduceSub, Int.reduceMul, Int.reduceNeg, Int.reduceToNat, Int.reduceEq, g8, g10, g102, g11, g112, g113, g12, g122, g123, g124, va, vb]
    exact endK_keep (M := M) (kz _ _ _ _ _) ⟨rfl, rfl, _, _, rfl, two_void ha hb hw (.inr vb)⟩
  rcases hop with rfl | rfl
  · simp only [go_sem, reduceCtorEq, reduceIte, Nat.reduceEqDiff, Nat.reduceAdd, Nat.reduceLeDiff, Nat.reduceMul, Int.reduceLT, Int.reduceLE, Int.reduceAdd, Int.reduceSub, Int.reduceMul, Int.reduceNeg, Int.reduceToNat, Int.reduceEq, g8, g10, g102, g11, g112, g113, g12, g122, g123, g124, va, vb]
    refine callK_of (k120 _ _ k a b yes ha hb hw) ?_
    rintro u G M' ⟨rfl, rfl, x, y, rfl, p⟩
    refine ⟨fun _ => Le.refl _ _, ?_⟩
    simp only [pairA, go_sem, reduceCtorEq, reduceIte, Nat.reduceEqDiff, Nat.reduceAdd, Nat.reduceLeDiff, Nat.reduceMul, Int.reduceLT, Int.reduceLE, Int.reduceAdd, Int.reduceSub, Int.reduceMul, Int.reduceNeg, Int.reduceToNat, Int.reduceEq, g8, g10, g102, g11, g112, g113, g12, g122, g123, g124]
    refine callK_same (k109 _ _ x p.okx) ?_
    by_cases vx : x.nextR 0 < 0
    · simp only [go_sem, reduceCtorEq, reduceIte, Nat.reduceEqDiff, Nat.reduceAdd, Nat.reduceLeDiff, Nat.reduceMul, Int.reduceLT, Int.reduceLE, Int.reduceAdd, Int.reduceSub, Int.reduceMul, Int.reduceNeg, Int.reduceToNat, Int.reduceEq, g8, g10, g102, g11, g112, g113, g12, g122, g123, g124, vx]
      exact endK_keep (M := M) (kz _ _ _ _ _) ⟨rfl, rfl, _, _, rfl, two_pre ha hb hw p (.inl vx)⟩
    simp only [go_sem, reduceCtorEq, reduceIte, Nat.reduceEqDiff, Nat.reduceAdd, Nat.reduceLeDiff, Nat.reduceMul, Int.reduceLT, Int.reduceLE, Int.reduceAdd, Int.reduceSub, Int.reduceMul, Int.reduceNeg, Int.reduceToNat, Int.reduceEq, g8, g10, g102, g11, g112, g113, g12, g122, g123, g124, vx]
    refine callK_same (k109 _ _ y p.oky) ?_
    by_cases vy : y.nextR 0 < 0
    · simp only [go_sem, reduceCtorEq, reduceIte, Nat.reduceEqDiff, Nat.reduceAdd, Nat.reduceLeDiff, Nat.reduceMul, Int.reduceLT, Int.reduceLE, Int.reduceAdd, Int.reduceSub, Int.reduceMul, Int.reduceNeg, Int.reduceToNat, Int.reduceEq, g8, g10, g102, g11, g112, g113, g12, g122, g123, g124, vx, vy]
      exact endK_keep (M := M) (kz _ _ _ _ _) ⟨rfl, rfl, _, _, rfl, two_pre ha hb hw p (.inr vy)⟩
    simp only [go_sem, reduceCtorEq, reduceIte, Nat.reduceEqDiff, Nat.reduceAdd, Nat.reduceLeDiff, Nat.reduceMul, Int.reduceLT, Int.reduceLE, Int.reduceAdd, Int.reduceSub, Int.reduceMul, Int.reduceNeg, Int.reduceToNat, Int.reduceEq, g8, g10, g102, g11, g112, g113, g12, g122, g123, g124, vx, vy]
    exact endK_keep (M := M) (kz _ _ _ _ _) ⟨rfl, rfl, _, _, rfl, two_some p vx vy⟩
  · simp only [go_sem, reduceCtorEq, reduceIte, Nat.reduceEqDiff, Nat.reduceAdd, Nat.reduceLeDiff, Nat.reduceMul, Int.reduceLT, Int.reduceLE, Int.reduceAdd, Int.reduceSub, Int.reduceMul, Int.reduceNeg, Int.reduceToNat, Int.reduceEq, g8, g10, g102, g11, g112, g113, g12, g122, g123, g124, va, vb]
    refine callK_of (k121 _ _ k a b yes ha hb hk wa wb va vb) ?_
    rintro u G M' ⟨rfl, rfl, x, y, rfl, p⟩
    refine ⟨fun _ => Le.refl _ _, ?_⟩
    simp only [pairA, go_sem, reduceCtorEq, reduceIte, Nat.reduceEqDiff, Nat.reduceAdd, Nat.reduceLeDiff, Nat.reduceMul, Int.reduceLT, Int.reduceLE, Int.reduceAdd, Int.reduceSub, Int.reduceMul, Int.reduceNeg, Int.reduceToNat, Int.reduceEq, g8, g10, g102, g11, g112, g113, g12, g122, g123, g124]
    refine callK_same (k109 _ _ x p.okx) ?_
    by_cases vx : x.nextR 0 < 0
    · simp only [go_sem, reduceCtorEq, reduceIte, Nat.reduceEqDiff, Nat.reduceAdd, Nat.reduceLeDiff, Nat.reduceMul, Int.reduceLT, Int.reduceLE, Int.reduceAdd, Int.reduceSub, Int.reduceMul, Int.reduceNeg, Int.reduceToNat, Int.reduceEq, g8, g10, g102, g11, g112, g113, g12, g122, g123, g124, vx]
      exact endK_keep (M := M) (kz _ _ _ _ _) ⟨rfl, rfl, _, _, rfl, two_pre ha hb hw p (.inl vx)⟩
    simp only [go_sem, reduceCtorEq, reduceIte, Nat.reduceEqDiff, Nat.reduceAdd, Nat.reduceLeDiff, Nat.reduceMul, Int.reduceLT, Int.reduceLE, Int.reduceAdd, Int.reduceSub, Int.reduceMul, Int.reduceNeg, Int.reduceToNat, Int.reduceEq, g8, g10, g102, g11, g112, g113, g12, g122, g123, g124, vx]
    refine callK_same (k109 _ _ y p.oky) ?_
    by_cases vy : y.nextR 0 < 0
    · simp only [go_sem, reduceCtorEq, reduceIte, Nat.reduceEqDiff, Nat.reduceAdd, Nat.reduceLeDiff, Nat.reduceMul, Int.reduceLT, Int.reduceLE, Int.reduceAdd, Int.reduceSub, Int.reduceMul, Int.reduceNeg, Int.reduceToNat, Int.reduceEq, g8, g10, g102, g11, g112, g113, g12, g122, g123, g124, vx, vy]
      exact endK_keep (M := M) (kz _ _ _ _ _) ⟨rfl, rfl, _, _, rfl, two_pre ha hb hw p (.inr vy)⟩
    simp only [go_sem, reduceCtorEq, reduceIte, Nat.reduceEqDiff, Nat.reduceAdd, Nat.reduceLeDiff, Nat.reduceMul, Int.reduceLT, Int.reduceLE, Int.reduceAdd, Int.reduceSub, Int.reduceMul, Int.reduceNeg, Int.reduceToNat, Int.reduceEq, g8, g10, g102, g11, g112, g113, g12, g122, g123, g124, vx, vy]
    exact endK_keep (M := M) (kz _ _ _ _ _) ⟨rfl, rfl, _, _, rfl, two_some p vx vy⟩
/-- May this be asked? -/
def askB (op k : Int) (a b : V) : Bool := (decide (op = 18) || decide (op = 19)) && fitB k a && fitB k b
def twoA (op k : Int) (a b : V) (yes : Bool) (u : Value) : Prop :=
  (askB op k a b = true ∧ ∃ x y, u = .tuple #[x.val, y.val, .int .i64 0] ∧ TwoR op k a b yes x y) ∨ (askB op k a b = false ∧ u = .tuple #[V.zero.val, V.zero.val, .int .i64 1])
theorem k43 (op k : Int) (a b : V) (yes : Bool) :
    CallsA Try.prog 43 [.int .i64 op, .int .i64 k, a.val, b.val, .bool yes] F M fun u F' M' => F' = F ∧ M' = M ∧ twoA op k a b yes u := by
  refine callsA_of hm Try.func43 e43 (Nat.le_of_ble_eq_true rfl) ?_
  simp only [c43, go_sem, reduceCtorEq, reduceIte, Nat.reduceEqDiff, Nat.reduceAdd, Nat.reduceLeDiff, Nat.reduceMul, Int.reduceLT, Int.reduceLE, Int.reduceAdd, Int.reduceSub, Int.reduceMul, Int.reduceNeg, Int.reduceToNat, Int.reduceEq]
  intro r7 hF7 hM7
  simp only [go_sem, reduceCtorEq, reduceIte, Nat.reduceEqDiff, Nat.reduceAdd, Nat.reduceLeDiff, Nat.reduceMul, Int.reduceLT, Int.reduceLE, Int.reduceAdd, Int.reduceSub, Int.reduceMul, Int.reduceNeg, Int.reduceToNat, Int.reduceEq]
  intro r8 hF8 hM8
  have g8 := fresh_of hM8
  simp only [go_sem, reduceCtorEq, reduceIte, Nat.reduceEqDiff, Nat.reduceAdd, Nat.reduceLeDiff, Nat.reduceMul, Int.reduceLT, Int.reduceLE, Int.reduceAdd, Int.reduceSub, Int.reduceMul, Int.reduceNeg, Int.reduceToNat, Int.reduceEq, g8]
  intro r10 hF10 hM10
  have g10 := fresh_of hM10
  have g102 := fresh_of g10.2.2
  simp only [go_sem, reduceCtorEq, reduceIte, Nat.reduceEqDiff, Nat.reduceAdd, Nat.reduceLeDiff, Nat.reduceMul, Int.reduceLT, Int.reduceLE, Int.reduceAdd, Int.reduceSub, Int.reduceMul, Int.reduceNeg, Int.reduceToNat, Int.reduceEq, g8, g10, g102]
  intro r11 hF11 hM11
  have g11 := fresh_of hM11
  have g112 := fresh_of g11.2.2
  have g113 := fresh_of g112.2.2
  have kz : ∀ e1 e2 e3 e4, Keep M ((((M.upd r7 e1).upd r8 e2).upd r10 e3).upd r11 e4) := fun e1 e2 e3 e4 => ((((Keep.refl M).new hM7).new g8.2.2).new g102.2.2).new g113.2.2
  by_cases hop : op = 18 ∨ op = 19
  rotate_left
  · have n1 : ¬ op = 18 := fun h => hop (.inl h)
    have n2 : ¬ op = 19 := fun h => hop (.inr h)
    simp only [go_sem, reduceCtorEq, reduceIte, Nat.reduceEqDiff, Nat.reduceAdd, Nat.reduceLeDiff, Nat.reduceMul, Int.reduceLT, Int.reduceLE, Int.reduceAdd, Int.reduceSub, Int.reduceMul, Int.reduceNeg, Int.reduceToNat, Int.reduceEq, g8, g10, g102, g11, g112, g113, n1, n2]
    exact endK_keep (M := M) (kz _ _ _ _) ⟨rfl, rfl, .inr ⟨by simp [askB, n1, n2], rfl⟩⟩
  have eop : (decide (op = 18) || decide (op = 19)) = true := by simpa using hop
  rcases hop with rfl | rfl
  · simp only [go_sem, reduceCtorEq, reduceIte, Nat.reduceEqDiff, Nat.reduceAdd, Nat.reduceLeDiff, Nat.reduceMul, Int.reduceLT, Int.reduceLE, Int.reduceAdd, Int.reduceSub, Int.reduceMul, Int.reduceNeg, Int.reduceToNat, Int.reduceEq, g8, g10, g102, g11, g112, g113]
    refine callK_same (k83 _ _ k a) ?_
    cases fa : fitB k a
    · simp only [go_sem, reduceCtorEq, reduceIte, Nat.reduceEqDiff, Nat.reduceAdd, Nat.reduceLeDiff, Nat.reduceMul, Int.reduceLT, Int.reduceLE, Int.reduceAdd, Int.reduceSub, Int.reduceMul, Int.reduceNeg, Int.reduceToNat, Int.reduceEq, g8, g10, g102, g11, g112, g113]
      exact endK_keep (M := M) (kz _ _ _ _) ⟨rfl, rfl, .inr ⟨by simp [askB, fa], rfl⟩⟩
    simp only [go_sem, reduceCtorEq, reduceIte, Nat.reduceEqDiff, Nat.reduceAdd, Nat.reduceLeDiff, Nat.reduceMul, Int.reduceLT, Int.reduceLE, Int.reduceAdd, Int.reduceSub, Int.reduceMul, Int.reduceNeg, Int.reduceToNat, Int.reduceEq, g8, g10, g102, g11, g112, g113]
    refine callK_same (k83 _ _ k b) ?_
    cases fb : fitB k b
    · simp only [go_sem, reduceCtorEq, reduceIte, Nat.reduceEqDiff, Nat.reduceAdd, Nat.reduceLeDiff, Nat.reduceMul, Int.reduceLT, Int.reduceLE, Int.reduceAdd, Int.reduceSub, Int.reduceMul, Int.reduceNeg, Int.reduceToNat, Int.reduceEq, g8, g10, g102, g11, g112, g113]
      exact endK_keep (M := M) (kz _ _ _ _) ⟨rfl, rfl, .inr ⟨by simp [askB, fb], rfl⟩⟩
    have fa' := fa
    have fb' := fb
    simp only [fitB, Bool.and_eq_true, decide_eq_true_eq] at fa' fb'
    simp only [go_sem, reduceCtorEq, reduceIte, Nat.reduceEqDiff, Nat.reduceAdd, Nat.reduceLeDiff, Nat.reduceMul, Int.reduceLT, Int.reduceLE, Int.reduceAdd, Int.reduceSub, Int.reduceMul, Int.reduceNeg, Int.reduceToNat, Int.reduceEq, g8, g10, g102, g11, g112, g113]
    refine callK_of (k84 _ _ _ k a b yes (by decide) fa'.1.2 fb'.1.2 fa'.1.1 fa'.2 fb'.2) ?_
    rintro u G M' ⟨rfl, rfl, x, y, rfl, p⟩
    refine ⟨fun _ => Le.refl _ _, ?_⟩
    simp only [pairA, go_sem, reduceCtorEq, reduceIte, Nat.reduceEqDiff, Nat.reduceAdd, Nat.reduceLeDiff, Nat.reduceMul, Int.reduceLT, Int.reduceLE, Int.reduceAdd, Int.reduceSub, Int.reduceMul, Int.reduceNeg, Int.reduceToNat, Int.reduceEq, g8, g10, g102, g11, g112, g113]
    exact endK_keep (M := M) (kz _ _ _ _) ⟨rfl, rfl, .inl ⟨by simp [askB, fa, fb], x, y, rfl, p⟩⟩
  · simp only [go_sem, reduceCtorEq, reduceIte, Nat.reduceEqDiff, Nat.reduceAdd, Nat.reduceLeDiff, Nat.reduceMul, Int.reduceLT, Int.reduceLE, Int.reduceAdd, Int.reduceSub, Int.reduceMul, Int.reduceNeg, Int.reduceToNat, Int.reduceEq, g8, g10, g102, g11, g112, g113]
    refine callK_same (k83 _ _ k a) ?_
    cases fa : fitB k a
    · simp only [go_sem, reduceCtorEq, reduceIte, Nat.reduceEqDiff, Nat.reduceAdd, Nat.reduceLeDiff, Nat.reduceMul, Int.reduceLT, Int.reduceLE, Int.reduceAdd, Int.reduceSub, Int.reduceMul, Int.reduceNeg, Int.reduceToNat, Int.reduceEq, g8, g10, g102, g11, g112, g113]
      exact endK_keep (M := M) (kz _ _ _ _) ⟨rfl, rfl, .inr ⟨by simp [askB, fa], rfl⟩⟩
    simp only [go_sem, reduceCtorEq, reduceIte, Nat.reduceEqDiff, Nat.reduceAdd, Nat.reduceLeDiff, Nat.reduceMul, Int.reduceLT, Int.reduceLE, Int.reduceAdd, Int.reduceSub, Int.reduceMul, Int.reduceNeg, Int.reduceToNat, Int.reduceEq, g8, g10, g102, g11, g112, g113]
    refine callK_same (k83 _ _ k b) ?_
    cases fb : fitB k b
    · simp only [go_sem, reduceCtorEq, reduceIte, Nat.reduceEqDiff, Nat.reduceAdd, Nat.reduceLeDiff, Nat.reduceMul, Int.reduceLT, Int.reduceLE, Int.reduceAdd, Int.reduceSub, Int.reduceMul, Int.reduceNeg, Int.reduceToNat, Int.reduceEq, g8, g10, g102, g11, g112, g113]
      exact endK_keep (M := M) (kz _ _ _ _) ⟨rfl, rfl, .inr ⟨by simp [askB, fb], rfl⟩⟩
    have fa' := fa
    have fb' := fb
    simp only [fitB, Bool.and_eq_true, decide_eq_true_eq] at fa' fb'
    simp only [go_sem, reduceCtorEq, reduceIte, Nat.reduceEqDiff, Nat.reduceAdd, Nat.reduceLeDiff, Nat.reduceMul, Int.reduceLT, Int.reduceLE, Int.reduceAdd, Int.reduceSub, Int.reduceMul, Int.reduceNeg, Int.reduceToNat, Int.reduceEq, g8, g10, g102, g11, g112, g113]
    refine callK_of (k84 _ _ _ k a b yes (by decide) fa'.1.2 fb'.1.2 fa'.1.1 fa'.2 fb'.2) ?_
    rintro u G M' ⟨rfl, rfl, x, y, rfl, p⟩
    refine ⟨fun _ => Le.refl _ _, ?_⟩
    simp only [pairA, go_sem, reduceCtorEq, reduceIte, Nat.reduceEqDiff, Nat.reduceAdd, Nat.reduceLeDiff, Nat.reduceMul, Int.reduceLT, Int.reduceLE, Int.reduceAdd, Int.reduceSub, Int.reduceMul, Int.reduceNeg, Int.reduceToNat, Int.reduceEq, g8, g10, g102, g11, g112, g113]
    exact endK_keep (M := M) (kz _ _ _ _) ⟨rfl, rfl, .inl ⟨by simp [askB, fa, fb], x, y, rfl, p⟩⟩
theorem k75 (a : V) (yes : Bool) (ha : a.ok = true) : CallsA Try.prog 75 [a.val, .bool yes] F M fun u F' M' => F' = F ∧ M' = M ∧ ∃ z, u = V.val z ∧ MeetR a (if yes then V.just a.w 0 else butV a.w 0) z := by
  refine callsA_of hm Try.func75 e75 (Nat.le_of_ble_eq_true rfl) ?_
  have isw := (ok_in ha).w
  have lw := isW_le isw
  have hm := mostV_pos lw.2
  simp only [c75, go_sem, reduceCtorEq, reduceIte, Nat.reduceEqDiff, Nat.reduceAdd, Nat.reduceLeDiff, Nat.reduceMul, Int.reduceLT, Int.reduceLE, Int.reduceAdd, Int.reduceSub, Int.reduceMul, Int.reduceNeg, Int.reduceToNat, Int.reduceEq]
  intro r2 hF2 hM2
  simp only [go_sem, reduceCtorEq, reduceIte, Nat.reduceEqDiff, Nat.reduceAdd, Nat.reduceLeDiff, Nat.reduceMul, Int.reduceLT, Int.reduceLE, Int.reduceAdd, Int.reduceSub, Int.reduceMul, Int.reduceNeg, Int.reduceToNat, Int.reduceEq]
  intro r4 hF4 hM4
  have g4 := fresh_of hM4
  simp only [go_sem, reduceCtorEq, reduceIte, Nat.reduceEqDiff, Nat.reduceAdd, Nat.reduceLeDiff, Nat.reduceMul, Int.reduceLT, Int.reduceLE, Int.reduceAdd, Int.reduceSub, Int.reduceMul, Int.reduceNeg, Int.reduceToNat, Int.reduceEq, g4]
  have kz : ∀ e1 e2, Keep M ((M.upd r2 e1).upd r4 e2) := fun e1 e2 => ((Keep.refl M).new hM2).new g4.2.2
  cases yes
  · simp only [go_sem, reduceCtorEq, reduceIte, Nat.reduceEqDiff, Nat.reduceAdd, Nat.reduceLeDiff, Nat.reduceMul, Int.reduceLT, Int.reduceLE, Int.reduceAdd, Int.reduceSub, Int.reduceMul, Int.reduceNeg, Int.reduceToNat, Int.reduceEq, g4]
    refine callK_of (k118 _ _ a 0 ha (by omega) (by omega)) ?_
    rintro u G M' ⟨rfl, rfl, z, rfl, hz⟩
    refine ⟨fun _ => Le.refl _ _, ?_⟩
    simp only [go_sem, reduceCtorEq, reduceIte, Nat.reduceEqDiff, Nat.reduceAdd, Nat.reduceLeDiff, Nat.reduceMul, Int.reduceLT, Int.reduceLE, Int.reduceAdd, Int.reduceSub, Int.reduceMul, Int.reduceNeg, Int.reduceToNat, Int.reduceEq, g4]
    exact endK_keep (M := M) (kz _ _) ⟨rfl, rfl, z, rfl, hz⟩
  · simp only [go_sem, reduceCtorEq, reduceIte, Nat.reduceEqDiff, Nat.reduceAdd, Nat.reduceLeDiff, Nat.reduceMul, Int.reduceLT, Int.reduceLE, Int.reduceAdd, Int.reduceSub, Int.reduceMul, Int.reduceNeg, Int.reduceToNat, Int.reduceEq, g4]
    refine callK_same (k100 _ _ a.w 0) ?_
    simp only [go_sem, reduceCtorEq, reduceIte, Nat.reduceEqDiff, Nat.reduceAdd, Nat.reduceLeDiff, Nat.reduceMul, Int.reduceLT, Int.reduceLE, Int.reduceAdd, Int.reduceSub, Int.reduceMul, Int.reduceNeg, Int.reduceToNat, Int.reduceEq, g4]
    refine callK_of (k117 _ _ a _ ha (just_ok isw (isN_zero lw.1 lw.2)) rfl) ?_
    rintro u G M' ⟨rfl, rfl, z, rfl, hz⟩
    refine ⟨fun _ => Le.refl _ _, ?_⟩
    simp only [go_sem, reduceCtorEq, reduceIte, Nat.reduceEqDiff, Nat.reduceAdd, Nat.reduceLeDiff, Nat.reduceMul, Int.reduceLT, Int.reduceLE, Int.reduceAdd, Int.reduceSub, Int.reduceMul, Int.reduceNeg, Int.reduceToNat, Int.reduceEq, g4]
    exact endK_keep (M := M) (kz _ _) ⟨rfl, rfl, z, rfl, hz⟩
def zeroA (a : V) (yes : Bool) (u : Value) : Prop := (a.ok = true ∧ ∃ z, u = .tuple #[z.val, .int .i64 0] ∧ MeetR a (if yes then V.just a.w 0 else butV a.w 0) z) ∨ (a.ok = false ∧ u = .tuple #[V.zero.val, .int .i64 1])
theorem k35 (a : V) (yes : Bool) : CallsA Try.prog 35 [a.val, .bool yes] F M fun u F' M' => F' = F ∧ M' = M ∧ zeroA a yes u := by
  refine callsA_of hm Try.func35 e35 (Nat.le_of_ble_eq_true rfl) ?_
  simp only [c35, go_sem, reduceCtorEq, reduceIte, Nat.reduceEqDiff, Nat.reduceAdd, Nat.reduceLeDiff, Nat.reduceMul, Int.reduceLT, Int.reduceLE, Int.reduceAdd, Int.reduceSub, Int.reduceMul, Int.reduceNeg, Int.reduceToNat, Int.reduceEq]
  intro r2 hF2 hM2
  simp only [go_sem, reduceCtorEq, reduceIte, Nat.reduceEqDiff, Nat.reduceAdd, Nat.reduceLeDiff, Nat.reduceMul, Int.reduceLT, Int.reduceLE, Int.reduceAdd, Int.reduceSub, Int.reduceMul, Int.reduceNeg, Int.reduceToNat, Int.reduceEq]
  intro r4 hF4 hM4
  have g4 := fresh_of hM4
  simp only [go_sem, reduceCtorEq, reduceIte, Nat.reduceEqDiff, Nat.reduceAdd, Nat.reduceLeDiff, Nat.reduceMul, Int.reduceLT, Int.reduceLE, Int.reduceAdd, Int.reduceSub, Int.reduceMul, Int.reduceNeg, Int.reduceToNat, Int.reduceEq, g4]
  have kz : ∀ e1 e2, Keep M ((M.upd r2 e1).upd r4 e2) := fun e1 e2 => ((Keep.refl M).new hM2).new g4.2.2
  refine callK_same (k74 _ _ a) ?_
  cases ha : a.ok
  · simp only [go_sem, reduceCtorEq, reduceIte, Nat.reduceEqDiff, Nat.reduceAdd, Nat.reduceLeDiff, Nat.reduceMul, Int.reduceLT, Int.reduceLE, Int.reduceAdd, Int.reduceSub, Int.reduceMul, Int.reduceNeg, Int.reduceToNat, Int.reduceEq, g4]
    exact endK_keep (M := M) (kz _ _) ⟨rfl, rfl, .inr ⟨ha, rfl⟩⟩
  simp only [go_sem, reduceCtorEq, reduceIte, Nat.reduceEqDiff, Nat.reduceAdd, Nat.reduceLeDiff, Nat.reduceMul, Int.reduceLT, Int.reduceLE, Int.reduceAdd, Int.reduceSub, Int.reduceMul, Int.reduceNeg, Int.reduceToNat, Int.reduceEq, g4]
  refine callK_of (k75 _ _ a yes ha) ?_
  rintro u G M' ⟨rfl, rfl, z, rfl, hz⟩
  refine ⟨fun _ => Le.refl _ _, ?_⟩
  simp only [go_sem, reduceCtorEq, reduceIte, Nat.reduceEqDiff, Nat.reduceAdd, Nat.reduceLeDiff, Nat.reduceMul, Int.reduceLT, Int.reduceLE, Int.reduceAdd, Int.reduceSub, Int.reduceMul, Int.reduceNeg, Int.reduceToNat, Int.reduceEq, g4]
  exact endK_keep (M := M) (kz _ _) ⟨rfl, rfl, .inl ⟨ha, z, rfl, hz⟩⟩
end Go.Proofs.Try.K

/- Contracts: small words of layer 5's statements. -/
namespace Go.Proofs.Try.K
open Go Go.Ax Go.Proofs.Try.S
set_option maxRecDepth 100000
set_option linter.unusedSimpArgs false
set_option linter.unusedVariables false
variable (F : Fz) (M : Hp)

theorem k37 (n : Int) : CallsA Try.prog 37 [.int .i64 n] F M (Same F M (.int .i64 n)) := by
  refine callsA_of hm Try.func37 e37 (Nat.le_of_ble_eq_true rfl) ?_
  simp only [c37, go_sem, reduceCtorEq, reduceIte, Nat.reduceEqDiff, Nat.reduceAdd, Nat.reduceLeDiff, Nat.reduceMul, Int.reduceLT, Int.reduceLE, Int.reduceAdd, Int.reduceSub, Int.reduceMul, Int.reduceNeg, Int.reduceToNat, Int.reduceEq]
  exact endK_same ⟨rfl, rfl, rfl⟩
theorem k81 (w : Int) (h0 : 0 ≤ w) (h1 : w ≤ 62) : CallsA Try.prog 81 [.int .i64 w] F M (Same F M (V.whole w).val) := by
  refine callsA_of hm Try.func81 e81 (Nat.le_of_ble_eq_true rfl) ?_
  have w0 : ¬ w < 0 := by omega
  simp only [c81, go_sem, reduceCtorEq, reduceIte, Nat.reduceEqDiff, Nat.reduceAdd, Nat.reduceLeDiff, Nat.reduceMul, Int.reduceLT, Int.reduceLE, Int.reduceAdd, Int.reduceSub, Int.reduceMul, Int.reduceNeg, Int.reduceToNat, Int.reduceEq]
  intro r hF hM
  simp only [go_sem, reduceCtorEq, reduceIte, Nat.reduceEqDiff, Nat.reduceAdd, Nat.reduceLeDiff, Nat.reduceMul, Int.reduceLT, Int.reduceLE, Int.reduceAdd, Int.reduceSub, Int.reduceMul, Int.reduceNeg, Int.reduceToNat, Int.reduceEq, w0, shl1 h0 h1, most_wrap h0 h1, not_false_eq_true]
  exact endK_drop hM (endK_same ⟨rfl, rfl, rfl⟩)
theorem k89 (w : Int) : CallsA Try.prog 89 [.int .i64 w] F M (Same F M (V.nothing w).val) := by
  refine callsA_of hm Try.func89 e89 (Nat.le_of_ble_eq_true rfl) ?_
  simp only [c89, go_sem, reduceCtorEq, reduceIte, Nat.reduceEqDiff, Nat.reduceAdd, Nat.reduceLeDiff, Nat.reduceMul, Int.reduceLT, Int.reduceLE, Int.reduceAdd, Int.reduceSub, Int.reduceMul, Int.reduceNeg, Int.reduceToNat, Int.reduceEq]
  intro r hF hM
  simp only [go_sem, reduceCtorEq, reduceIte, Nat.reduceEqDiff, Nat.reduceAdd, Nat.reduceLeDiff, Nat.reduceMul, Int.reduceLT, Int.reduceLE, Int.reduceAdd, Int.reduceSub, Int.reduceMul, Int.reduceNeg, Int.reduceToNat, Int.reduceEq]
  exact endK_drop hM (endK_same ⟨rfl, rfl, rfl⟩)
theorem k42 : CallsA Try.prog 42 [] F M (Same F M (.bool true)) := by
  refine callsA_of hm Try.func42 e42 (Nat.le_of_ble_eq_true rfl) ?_
  have j3 : (V.just 8 3).ok = true := by decide +kernel
  have j31 : (V.just 8 3).is1 = true := by decide +kernel
  have j3n : (V.just 8 3).nextR 0 = 3 := by decide +kernel
  have j03 : (V.just 8 0).has 3 = false := by decide +kernel
  have w3 : (V.whole 8).has 3 = true := by decide +kernel
  have j33 : (V.just 8 3).has 3 = true := by decide +kernel
  have hask : askB 18 1 (V.whole 8) (V.just 8 3) = true := by decide +kernel
  simp only [c42, go_sem, reduceCtorEq, reduceIte, Nat.reduceEqDiff, Nat.reduceAdd, Nat.reduceLeDiff, Nat.reduceMul, Int.reduceLT, Int.reduceLE, Int.reduceAdd, Int.reduceSub, Int.reduceMul, Int.reduceNeg, Int.reduceToNat, Int.reduceEq]
  refine callK_same (k81 _ _ 8 (by decide) (by decide)) ?_
  simp only [go_sem, reduceCtorEq, reduceIte, Nat.reduceEqDiff, Nat.reduceAdd, Nat.reduceLeDiff, Nat.reduceMul, Int.reduceLT, Int.reduceLE, Int.reduceAdd, Int.reduceSub, Int.reduceMul, Int.reduceNeg, Int.reduceToNat, Int.reduceEq]
  refine callK_same (k82 _ _ 8 3) ?_
  simp only [go_sem, reduceCtorEq, reduceIte, Nat.reduceEqDiff, Nat.reduceAdd, Nat.reduceLeDiff, Nat.reduceMul, Int.reduceLT, Int.reduceLE, Int.reduceAdd, Int.reduceSub, Int.reduceMul, Int.reduceNeg, Int.reduceToNat, Int.reduceEq]
  refine callK_of (k43 _ _ 18 1 (V.whole 8) (V.just 8 3) true) ?_
  rintro u G M' ⟨rfl, rfl, ⟨_, x, y, rfl, p⟩ | ⟨h, _⟩⟩
  rotate_left
  · rw [hask] at h; cases h
  refine ⟨fun _ => Le.refl _ _, ?_⟩
  simp only [go_sem, reduceCtorEq, reduceIte, Nat.reduceEqDiff, Nat.reduceAdd, Nat.reduceLeDiff, Nat.reduceMul, Int.reduceLT, Int.reduceLE, Int.reduceAdd, Int.reduceSub, Int.reduceMul, Int.reduceNeg, Int.reduceToNat, Int.reduceEq]
  intro r1 hF1 hM1
  simp only [go_sem, reduceCtorEq, reduceIte, Nat.reduceEqDiff, Nat.reduceAdd, Nat.reduceLeDiff, Nat.reduceMul, Int.reduceLT, Int.reduceLE, Int.reduceAdd, Int.reduceSub, Int.reduceMul, Int.reduceNeg, Int.reduceToNat, Int.reduceEq]
  intro r2 hF2 hM2
  have g2 := fresh_of hM2
  simp only [go_sem, reduceCtorEq, reduceIte, Nat.reduceEqDiff, Nat.reduceAdd, Nat.reduceLeDiff, Nat.reduceMul, Int.reduceLT, Int.reduceLE, Int.reduceAdd, Int.reduceSub, Int.reduceMul, Int.reduceNeg, Int.reduceToNat, Int.reduceEq, g2]
  refine callK_same (k82 _ _ 8 3) ?_
  simp only [go_sem, reduceCtorEq, reduceIte, Nat.reduceEqDiff, Nat.reduceAdd, Nat.reduceLeDiff, Nat.reduceMul, Int.reduceLT, Int.reduceLE, Int.reduceAdd, Int.reduceSub, Int.reduceMul, Int.reduceNeg, Int.reduceToNat, Int.reduceEq, g2]
  refine callK_of (k35 _ _ (V.just 8 3) true) ?_
  rintro u G M' ⟨rfl, rfl, ⟨_, z, rfl, q⟩ | ⟨h, _⟩⟩
  rotate_left
  · rw [j3] at h; cases h
  refine ⟨fun _ => Le.refl _ _, ?_⟩
  simp only [go_sem, reduceCtorEq, reduceIte, Nat.reduceEqDiff, Nat.reduceAdd, Nat.reduceLeDiff, Nat.reduceMul, Int.reduceLT, Int.reduceLE, Int.reduceAdd, Int.reduceSub, Int.reduceMul, Int.reduceNeg, Int.reduceToNat, Int.reduceEq, g2]
  intro r4 hF4 hM4
  have g4 := fresh_of hM4
  have g42 := fresh_of g4.2.2
  have hx := (p.keep 3 3 (by decide) (by decide) w3 (by decide) (by decide) j33 (by decide +kernel)).1
  have hz := void_one j3 q j31 (by rw [j3n]; exact j03)
  simp only [go_sem, reduceCtorEq, reduceIte, Nat.reduceEqDiff, Nat.reduceAdd, Nat.reduceLeDiff, Nat.reduceMul, Int.reduceLT, Int.reduceLE, Int.reduceAdd, Int.reduceSub, Int.reduceMul, Int.reduceNeg, Int.reduceToNat, Int.reduceEq, g2, g4, g42]
  refine callK_same (k37 _ _ 0) ?_
  simp only [go_sem, reduceCtorEq, reduceIte, Nat.reduceEqDiff, Nat.reduceAdd, Nat.reduceLeDiff, Nat.reduceMul, Int.reduceLT, Int.reduceLE, Int.reduceAdd, Int.reduceSub, Int.reduceMul, Int.reduceNeg, Int.reduceToNat, Int.reduceEq, g2, g4, g42]
  refine callK_same (k37 _ _ 0) ?_
  simp only [go_sem, reduceCtorEq, reduceIte, Nat.reduceEqDiff, Nat.reduceAdd, Nat.reduceLeDiff, Nat.reduceMul, Int.reduceLT, Int.reduceLE, Int.reduceAdd, Int.reduceSub, Int.reduceMul, Int.reduceNeg, Int.reduceToNat, Int.reduceEq, g2, g4, g42]
  refine callK_same (k40 _ _ x 3) ?_
  simp only [go_sem, reduceCtorEq, reduceIte, Nat.reduceEqDiff, Nat.reduceAdd, Nat.reduceLeDiff, Nat.reduceMul, Int.reduceLT, Int.reduceLE, Int.reduceAdd, Int.reduceSub, Int.reduceMul, Int.reduceNeg, Int.reduceToNat, Int.reduceEq, g2, g4, g42, hx]
  have zw := isW_le (ok_in q.ok).w
  refine callK_same (k41 _ _ z 0 zw.1 zw.2) ?_
  simp only [go_sem, reduceCtorEq, reduceIte, Nat.reduceEqDiff, Nat.reduceAdd, Nat.reduceLeDiff, Nat.reduceMul, Int.reduceLT, Int.reduceLE, Int.reduceAdd, Int.reduceSub, Int.reduceMul, Int.reduceNeg, Int.reduceToNat, Int.reduceEq, g2, g4, g42, hz]
  refine callK_same (k36 _ _ z) ?_
  simp only [go_sem, reduceCtorEq, reduceIte, Nat.reduceEqDiff, Nat.reduceAdd, Nat.reduceLeDiff, Nat.reduceMul, Int.reduceLT, Int.reduceLE, Int.reduceAdd, Int.reduceSub, Int.reduceMul, Int.reduceNeg, Int.reduceToNat, Int.reduceEq, g2, g4, g42, q.ok]
  exact endK_keep ((((Keep.refl _).new hM1).new g2.2.2).new g42.2.2) ⟨rfl, rfl, rfl⟩
end Go.Proofs.Try.K
