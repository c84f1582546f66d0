/- Contracts: lengths of ranges, one in another, tidied, told to be in. -/
import Derived.Test.YtplcaoidiohlmaaK10
import Derived.Test.YtplcaoidiohlmaaAx20
namespace Go.Proofs.Try.K
open Go Go.Ax Go.Proofs.Try.S
set_option maxRecDepth 100000
set_option linter.unusedSimpArgs false
set_option linter.unusedVariables false
variable (F : Fz) (M : Hp)

theorem k82 (n w : Int) (h0 : 0 ≤ w) (h1 : w ≤ 62) : CallsA Try.prog 82 [.int .i64 n, .int .i64 w] F M (Same F M (.int .i64 (n % 2 ^ w.toNat))) := by
  refine callsA_of hm Try.func82 e82 (Nat.le_of_ble_eq_true rfl) ?_
  simp only [c82, go_sem, reduceCtorEq, reduceIte, Nat.reduceEqDiff, Nat.reduceAdd, Nat.reduceLeDiff, Nat.reduceMul, Int.reduceLT, Int.reduceLE, Int.reduceAdd, Int.reduceSub, Int.reduceMul, Int.reduceNeg, Int.reduceToNat, Int.reduceEq]
  refine callK_same (k67 F _ w h0 h1) ?_
  simp only [go_sem, reduceCtorEq, reduceIte, Nat.reduceEqDiff, Nat.reduceAdd, Nat.reduceLeDiff, Nat.reduceMul, Int.reduceLT, Int.reduceLE, Int.reduceAdd, Int.reduceSub, Int.reduceMul, Int.reduceNeg, Int.reduceToNat, Int.reduceEq, band_mostV n h1]
  exact endK_same ⟨rfl, rfl, rfl⟩
theorem k83 (v : V) (h : v.In) : CallsA Try.prog 83 [v.val] F M (Same F M (.int .i64 v.len)) := by
  refine callsA_of hm Try.func83 e83 (Nat.le_of_ble_eq_true rfl) ?_
  have hl := isW_le h.w
  have hb := h.big
  have h1 := h.low
  have h2 := h.high
  have e : IntKind.i64.wrap (v.high - v.low) = v.high - v.low := w64 (by omega) (by omega)
  simp only [c83, go_sem, reduceCtorEq, reduceIte, Nat.reduceEqDiff, Nat.reduceAdd, Nat.reduceLeDiff, Nat.reduceMul, Int.reduceLT, Int.reduceLE, Int.reduceAdd, Int.reduceSub, Int.reduceMul, Int.reduceNeg, Int.reduceToNat, Int.reduceEq]
  intro r hF hM
  simp only [go_sem, reduceCtorEq, reduceIte, Nat.reduceEqDiff, Nat.reduceAdd, Nat.reduceLeDiff, Nat.reduceMul, Int.reduceLT, Int.reduceLE, Int.reduceAdd, Int.reduceSub, Int.reduceMul, Int.reduceNeg, Int.reduceToNat, Int.reduceEq, e]
  refine callK_same (k82 F _ _ v.w hl.1 hl.2) ?_
  simp only [go_sem, reduceCtorEq, reduceIte, Nat.reduceEqDiff, Nat.reduceAdd, Nat.reduceLeDiff, Nat.reduceMul, Int.reduceLT, Int.reduceLE, Int.reduceAdd, Int.reduceSub, Int.reduceMul, Int.reduceNeg, Int.reduceToNat, Int.reduceEq]
  exact endK_drop hM (endK_same ⟨rfl, rfl, rfl⟩)
theorem k75 (a b : V) (ha : a.In) (hb : b.In) : CallsA Try.prog 75 [a.val, b.val] F M (Same F M (.bool (a.inside b))) := by
  refine callsA_of hm Try.func75 e75 (Nat.le_of_ble_eq_true rfl) ?_
  have la := isW_le ha.w
  have lb := isW_le hb.w
  have ga := ha.big
  have gb := hb.big
  have a1 := ha.low
  have b1 := hb.low
  have e1 : IntKind.i64.wrap (a.low - b.low) = a.low - b.low := w64 (by omega) (by omega)
  have f0 := Int.emod_nonneg (a.low - b.low) (show (2 : Int) ^ a.w.toNat ≠ 0 by omega)
  have f1 := Int.emod_lt_of_pos (a.low - b.low) (show 0 < (2 : Int) ^ a.w.toNat by omega)
  have l0 := Int.emod_nonneg (b.high - b.low) (show (2 : Int) ^ b.w.toNat ≠ 0 by omega)
  have l1 := Int.emod_lt_of_pos (b.high - b.low) (show 0 < (2 : Int) ^ b.w.toNat by omega)
  have e2 : IntKind.i64.wrap (b.len - a.from b) = b.len - a.from b := by unfold V.len V.from; exact w64 (by omega) (by omega)
  simp only [c75, go_sem, reduceCtorEq, reduceIte, Nat.reduceEqDiff, Nat.reduceAdd, Nat.reduceLeDiff, Nat.reduceMul, Int.reduceLT, Int.reduceLE, Int.reduceAdd, Int.reduceSub, Int.reduceMul, Int.reduceNeg, Int.reduceToNat, Int.reduceEq]
  intro r hF hM
  simp only [go_sem, reduceCtorEq, reduceIte, Nat.reduceEqDiff, Nat.reduceAdd, Nat.reduceLeDiff, Nat.reduceMul, Int.reduceLT, Int.reduceLE, Int.reduceAdd, Int.reduceSub, Int.reduceMul, Int.reduceNeg, Int.reduceToNat, Int.reduceEq]
  intro r1 hF1 hM1
  have g := fresh_of hM1
  simp only [go_sem, reduceCtorEq, reduceIte, Nat.reduceEqDiff, Nat.reduceAdd, Nat.reduceLeDiff, Nat.reduceMul, Int.reduceLT, Int.reduceLE, Int.reduceAdd, Int.reduceSub, Int.reduceMul, Int.reduceNeg, Int.reduceToNat, Int.reduceEq, g, e1]
  refine callK_same (k82 F _ _ a.w la.1 la.2) ?_
  have ef : (a.low - b.low) % 2 ^ a.w.toNat = a.from b := rfl
  simp only [go_sem, reduceCtorEq, reduceIte, Nat.reduceEqDiff, Nat.reduceAdd, Nat.reduceLeDiff, Nat.reduceMul, Int.reduceLT, Int.reduceLE, Int.reduceAdd, Int.reduceSub, Int.reduceMul, Int.reduceNeg, Int.reduceToNat, Int.reduceEq, g, ef]
  refine callK_same (k83 F _ b hb) ?_
  simp only [go_sem, reduceCtorEq, reduceIte, Nat.reduceEqDiff, Nat.reduceAdd, Nat.reduceLeDiff, Nat.reduceMul, Int.reduceLT, Int.reduceLE, Int.reduceAdd, Int.reduceSub, Int.reduceMul, Int.reduceNeg, Int.reduceToNat, Int.reduceEq, g, ef]
  refine callK_same (k67 F _ b.w lb.1 lb.2) ?_
  by_cases c1 : b.len = mostV b.w
  · simp only [go_sem, reduceCtorEq, reduceIte, Nat.reduceEqDiff, Nat.reduceAdd, Nat.reduceLeDiff, Nat.reduceMul, Int.reduceLT, Int.reduceLE, Int.reduceAdd, Int.reduceSub, Int.reduceMul, Int.reduceNeg, Int.reduceToNat, Int.reduceEq, g, ef, c1]
    exact endK_drop hM1 (endK_drop hM (endK_same ⟨by simp [V.inside, c1], rfl, rfl⟩))
  · simp only [go_sem, reduceCtorEq, reduceIte, Nat.reduceEqDiff, Nat.reduceAdd, Nat.reduceLeDiff, Nat.reduceMul, Int.reduceLT, Int.reduceLE, Int.reduceAdd, Int.reduceSub, Int.reduceMul, Int.reduceNeg, Int.reduceToNat, Int.reduceEq, g, ef, c1]
    refine callK_same (k83 F _ b hb) ?_
    by_cases c2 : a.from b ≤ b.len
    · simp only [go_sem, reduceCtorEq, reduceIte, Nat.reduceEqDiff, Nat.reduceAdd, Nat.reduceLeDiff, Nat.reduceMul, Int.reduceLT, Int.reduceLE, Int.reduceAdd, Int.reduceSub, Int.reduceMul, Int.reduceNeg, Int.reduceToNat, Int.reduceEq, g, ef, c1, c2]
      refine callK_same (k83 F _ a ha) ?_
      simp only [go_sem, reduceCtorEq, reduceIte, Nat.reduceEqDiff, Nat.reduceAdd, Nat.reduceLeDiff, Nat.reduceMul, Int.reduceLT, Int.reduceLE, Int.reduceAdd, Int.reduceSub, Int.reduceMul, Int.reduceNeg, Int.reduceToNat, Int.reduceEq, g, ef, c1, c2]
      refine callK_same (k83 F _ b hb) ?_
      simp only [go_sem, reduceCtorEq, reduceIte, Nat.reduceEqDiff, Nat.reduceAdd, Nat.reduceLeDiff, Nat.reduceMul, Int.reduceLT, Int.reduceLE, Int.reduceAdd, Int.reduceSub, Int.reduceMul, Int.reduceNeg, Int.reduceToNat, Int.reduceEq, g, ef, c1, c2, e2]
      exact endK_drop hM1 (endK_drop hM (endK_same ⟨by simp [V.inside, c1, c2], rfl, rfl⟩))
    · simp only [go_sem, reduceCtorEq, reduceIte, Nat.reduceEqDiff, Nat.reduceAdd, Nat.reduceLeDiff, Nat.reduceMul, Int.reduceLT, Int.reduceLE, Int.reduceAdd, Int.reduceSub, Int.reduceMul, Int.reduceNeg, Int.reduceToNat, Int.reduceEq, g, ef, c1, c2]
      exact endK_drop hM1 (endK_drop hM (endK_same ⟨by simp [V.inside, c1, c2], rfl, rfl⟩))

def V.pair (a b : V) : Bool := a.ok && b.ok && decide (a.w = b.w)
theorem k60 (a b : V) : CallsA Try.prog 60 [a.val, b.val] F M (Same F M (.bool (V.pair a b))) := by
  refine callsA_of hm Try.func60 e60 (Nat.le_of_ble_eq_true rfl) ?_
  simp only [c60, go_sem, reduceCtorEq, reduceIte, Nat.reduceEqDiff, Nat.reduceAdd, Nat.reduceLeDiff, Nat.reduceMul, Int.reduceLT, Int.reduceLE, Int.reduceAdd, Int.reduceSub, Int.reduceMul, Int.reduceNeg, Int.reduceToNat, Int.reduceEq]
  intro r hF hM
  simp only [go_sem, reduceCtorEq, reduceIte, Nat.reduceEqDiff, Nat.reduceAdd, Nat.reduceLeDiff, Nat.reduceMul, Int.reduceLT, Int.reduceLE, Int.reduceAdd, Int.reduceSub, Int.reduceMul, Int.reduceNeg, Int.reduceToNat, Int.reduceEq]
  intro r1 hF1 hM1
  have g := fresh_of hM1
  simp only [go_sem, reduceCtorEq, reduceIte, Nat.reduceEqDiff, Nat.reduceAdd, Nat.reduceLeDiff, Nat.reduceMul, Int.reduceLT, Int.reduceLE, Int.reduceAdd, Int.reduceSub, Int.reduceMul, Int.reduceNeg, Int.reduceToNat, Int.reduceEq, g]
  refine callK_same (k52 F _ a) ?_
  cases ha : a.ok
  · simp only [go_sem, reduceCtorEq, reduceIte, Nat.reduceEqDiff, Nat.reduceAdd, Nat.reduceLeDiff, Nat.reduceMul, Int.reduceLT, Int.reduceLE, Int.reduceAdd, Int.reduceSub, Int.reduceMul, Int.reduceNeg, Int.reduceToNat, Int.reduceEq, g]
    exact endK_drop hM1 (endK_drop hM (endK_same ⟨by simp [V.pair, ha], rfl, rfl⟩))
  simp only [go_sem, reduceCtorEq, reduceIte, Nat.reduceEqDiff, Nat.reduceAdd, Nat.reduceLeDiff, Nat.reduceMul, Int.reduceLT, Int.reduceLE, Int.reduceAdd, Int.reduceSub, Int.reduceMul, Int.reduceNeg, Int.reduceToNat, Int.reduceEq, g]
  refine callK_same (k52 F _ b) ?_
  cases hb : b.ok
  all_goals
    simp only [go_sem, reduceCtorEq, reduceIte, Nat.reduceEqDiff, Nat.reduceAdd, Nat.reduceLeDiff, Nat.reduceMul, Int.reduceLT, Int.reduceLE, Int.reduceAdd, Int.reduceSub, Int.reduceMul, Int.reduceNeg, Int.reduceToNat, Int.reduceEq, g]
    exact endK_drop hM1 (endK_drop hM (endK_same ⟨by simp [V.pair, ha, hb], rfl, rfl⟩))

theorem k76 (v : V) (hv : v.ok = true) : CallsA Try.prog 76 [v.val] F M (Same F M v.tidy.val) := by
  refine callsA_of hm Try.func76 e76 (Nat.le_of_ble_eq_true rfl) ?_
  simp only [c76, go_sem, reduceCtorEq, reduceIte, Nat.reduceEqDiff, Nat.reduceAdd, Nat.reduceLeDiff, Nat.reduceMul, Int.reduceLT, Int.reduceLE, Int.reduceAdd, Int.reduceSub, Int.reduceMul, Int.reduceNeg, Int.reduceToNat, Int.reduceEq]
  intro r hF hM
  simp only [go_sem, reduceCtorEq, reduceIte, Nat.reduceEqDiff, Nat.reduceAdd, Nat.reduceLeDiff, Nat.reduceMul, Int.reduceLT, Int.reduceLE, Int.reduceAdd, Int.reduceSub, Int.reduceMul, Int.reduceNeg, Int.reduceToNat, Int.reduceEq]
  intro r1 hF1 hM1
  have gr := fresh_of hM1
  simp only [go_sem, reduceCtorEq, reduceIte, Nat.reduceEqDiff, Nat.reduceAdd, Nat.reduceLeDiff, Nat.reduceMul, Int.reduceLT, Int.reduceLE, Int.reduceAdd, Int.reduceSub, Int.reduceMul, Int.reduceNeg, Int.reduceToNat, Int.reduceEq, gr]
  refine callK_of (k71 F _ v 1 hv (by omega)) ?_
  have m1 := v.members1
  rintro u G M' ⟨hG, ⟨hlen, ⟨hnil, rfl, rfl⟩ | ⟨g, cap, hFg, hMg, rfl, rfl⟩⟩ | ⟨hlen, rfl, rfl⟩⟩ <;> rw [hG] <;> refine ⟨(fun h => by cases h), ?_⟩
  · have e : v.nextR 0 < 0 := by
      rw [m1] at hnil
      split at hnil
      · assumption
      · cases hnil
    simp only [go_sem, reduceCtorEq, reduceIte, Nat.reduceEqDiff, Nat.reduceAdd, Nat.reduceLeDiff, Nat.reduceMul, Int.reduceLT, Int.reduceLE, Int.reduceAdd, Int.reduceSub, Int.reduceMul, Int.reduceNeg, Int.reduceToNat, Int.reduceEq, gr]
    refine callK_same (k46 F _ v.w) ?_
    simp only [go_sem, reduceCtorEq, reduceIte, Nat.reduceEqDiff, Nat.reduceAdd, Nat.reduceLeDiff, Nat.reduceMul, Int.reduceLT, Int.reduceLE, Int.reduceAdd, Int.reduceSub, Int.reduceMul, Int.reduceNeg, Int.reduceToNat, Int.reduceEq, gr]
    exact endK_drop hM1 (endK_drop hM (endK_same ⟨by simp [V.tidy, e], rfl, rfl⟩))
  · have g1 := fresh_of hMg
    have g2 := fresh_of g1.2.2
    by_cases hx : v.nextR 0 < 0
    · have hm : v.members 1 = [] := by rw [m1, if_pos hx]
      simp only [hm, go_sem, reduceCtorEq, reduceIte, Nat.reduceEqDiff, Nat.reduceAdd, Nat.reduceLeDiff, Nat.reduceMul, Int.reduceLT, Int.reduceLE, Int.reduceAdd, Int.reduceSub, Int.reduceMul, Int.reduceNeg, Int.reduceToNat, Int.reduceEq, gr, g1, g2]
      refine callK_same (k46 F _ v.w) ?_
      simp only [go_sem, reduceCtorEq, reduceIte, Nat.reduceEqDiff, Nat.reduceAdd, Nat.reduceLeDiff, Nat.reduceMul, Int.reduceLT, Int.reduceLE, Int.reduceAdd, Int.reduceSub, Int.reduceMul, Int.reduceNeg, Int.reduceToNat, Int.reduceEq, gr, g1, g2]
      refine endK_keep ?_ ⟨by simp [V.tidy, hx], rfl, rfl⟩
      exact (((Keep.refl M).new hM).new gr.2.2).new g2.2.2
    · by_cases hy : v.nextR (v.nextR 0 + 1) < 0
      · have e : v.is1 = true := by simp [V.is1, hy]; omega
        have hm : v.members 1 = [v.nextR 0] := by rw [m1, if_neg hx, if_pos hy]
        simp only [hm, go_sem, reduceCtorEq, reduceIte, Nat.reduceEqDiff, Nat.reduceAdd, Nat.reduceLeDiff, Nat.reduceMul, Int.reduceLT, Int.reduceLE, Int.reduceAdd, Int.reduceSub, Int.reduceMul, Int.reduceNeg, Int.reduceToNat, Int.reduceEq, gr, g1, g2, List.map_cons, List.map_nil, intV]
        refine callK_same (k49 F _ v.w (v.nextR 0)) ?_
        simp only [go_sem, reduceCtorEq, reduceIte, Nat.reduceEqDiff, Nat.reduceAdd, Nat.reduceLeDiff, Nat.reduceMul, Int.reduceLT, Int.reduceLE, Int.reduceAdd, Int.reduceSub, Int.reduceMul, Int.reduceNeg, Int.reduceToNat, Int.reduceEq, gr, g1, g2]
        refine endK_keep ?_ ⟨by simp [V.tidy, hx, e], rfl, rfl⟩
        exact (((Keep.refl M).new hM).new gr.2.2).new g2.2.2
      · rw [m1, if_neg hx, if_neg hy] at hlen
        simp at hlen
  · have e : v.is1 = false ∧ ¬ v.nextR 0 < 0 := by
      rw [m1] at hlen
      split at hlen
      · simp at hlen
      · split at hlen
        · simp at hlen
        · rename_i hx hy
          exact ⟨by simp [V.is1, hy], hx⟩
    simp only [go_sem, reduceCtorEq, reduceIte, Nat.reduceEqDiff, Nat.reduceAdd, Nat.reduceLeDiff, Nat.reduceMul, Int.reduceLT, Int.reduceLE, Int.reduceAdd, Int.reduceSub, Int.reduceMul, Int.reduceNeg, Int.reduceToNat, Int.reduceEq, gr]
    exact endK_drop hM1 (endK_drop hM (endK_same ⟨by simp [V.tidy, e.1, e.2], rfl, rfl⟩))
end Go.Proofs.Try.K
