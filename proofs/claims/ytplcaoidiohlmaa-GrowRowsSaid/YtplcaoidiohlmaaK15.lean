/- Contracts: two sets together. -/
import Derived.Test.YtplcaoidiohlmaaK14
import Derived.Test.YtplcaoidiohlmaaAx21
namespace Go.Proofs.Try.K
open Go Go.Ax Go.Proofs.Try.S
set_option maxRecDepth 100000
set_option linter.unusedSimpArgs false
set_option linter.unusedVariables false
variable (F : Fz) (M : Hp)

theorem k63 (a b : V) (ha : a.ok = true) (hb : b.ok = true) (hw : b.w = a.w) : CallsA Try.prog 63 [a.val, b.val] F M fun u F' M' => F' = F ∧ M' = M ∧ ∃ z, u = V.val z ∧ BothR a b z := by
  refine callsA_of hm Try.func63 e63 (Nat.le_of_ble_eq_true rfl) ?_
  simp only [c63, go_sem, reduceCtorEq, reduceIte, Nat.reduceEqDiff, Nat.reduceAdd, Nat.reduceLeDiff, Nat.reduceMul, Int.reduceLT, Int.reduceLE, Int.reduceAdd, Int.reduceSub, Int.reduceMul, Int.reduceNeg, Int.reduceToNat, Int.reduceEq]
  intro ra hFa hMa
  simp only [go_sem, reduceCtorEq, reduceIte, Nat.reduceEqDiff, Nat.reduceAdd, Nat.reduceLeDiff, Nat.reduceMul, Int.reduceLT, Int.reduceLE, Int.reduceAdd, Int.reduceSub, Int.reduceMul, Int.reduceNeg, Int.reduceToNat, Int.reduceEq]
  intro rb hFb hMb
  have gb := fresh_of hMb
  simp only [go_sem, reduceCtorEq, reduceIte, Nat.reduceEqDiff, Nat.reduceAdd, Nat.reduceLeDiff, Nat.reduceMul, Int.reduceLT, Int.reduceLE, Int.reduceAdd, Int.reduceSub, Int.reduceMul, Int.reduceNeg, Int.reduceToNat, Int.reduceEq, gb]
  intro rz hFz hMz
  have gz := fresh_of hMz
  have gz2 := fresh_of gz.2.2
  simp only [go_sem, reduceCtorEq, reduceIte, Nat.reduceEqDiff, Nat.reduceAdd, Nat.reduceLeDiff, Nat.reduceMul, Int.reduceLT, Int.reduceLE, Int.reduceAdd, Int.reduceSub, Int.reduceMul, Int.reduceNeg, Int.reduceToNat, Int.reduceEq, gb, gz, gz2]
  refine callK_same (k55 F _ a ha) ?_
  by_cases h0 : a.nextR 0 < 0
  · simp only [go_sem, reduceCtorEq, reduceIte, Nat.reduceEqDiff, Nat.reduceAdd, Nat.reduceLeDiff, Nat.reduceMul, Int.reduceLT, Int.reduceLE, Int.reduceAdd, Int.reduceSub, Int.reduceMul, Int.reduceNeg, Int.reduceToNat, Int.reduceEq, gb, gz, gz2, h0]
    refine callK_same (k76 F _ b hb) ?_
    simp only [go_sem, reduceCtorEq, reduceIte, Nat.reduceEqDiff, Nat.reduceAdd, Nat.reduceLeDiff, Nat.reduceMul, Int.reduceLT, Int.reduceLE, Int.reduceAdd, Int.reduceSub, Int.reduceMul, Int.reduceNeg, Int.reduceToNat, Int.reduceEq, gb, gz, gz2]
    exact endK_keep ((((Keep.refl M).new hMa).new gb.2.2).new gz2.2.2) ⟨rfl, rfl, _, rfl, both_void ha hb hw h0⟩
  simp only [go_sem, reduceCtorEq, reduceIte, Nat.reduceEqDiff, Nat.reduceAdd, Nat.reduceLeDiff, Nat.reduceMul, Int.reduceLT, Int.reduceLE, Int.reduceAdd, Int.reduceSub, Int.reduceMul, Int.reduceNeg, Int.reduceToNat, Int.reduceEq, gb, gz, gz2, h0]
  refine callK_same (k55 F _ b hb) ?_
  by_cases h1 : b.nextR 0 < 0
  · simp only [go_sem, reduceCtorEq, reduceIte, Nat.reduceEqDiff, Nat.reduceAdd, Nat.reduceLeDiff, Nat.reduceMul, Int.reduceLT, Int.reduceLE, Int.reduceAdd, Int.reduceSub, Int.reduceMul, Int.reduceNeg, Int.reduceToNat, Int.reduceEq, gb, gz, gz2, h1]
    refine callK_same (k76 F _ a ha) ?_
    simp only [go_sem, reduceCtorEq, reduceIte, Nat.reduceEqDiff, Nat.reduceAdd, Nat.reduceLeDiff, Nat.reduceMul, Int.reduceLT, Int.reduceLE, Int.reduceAdd, Int.reduceSub, Int.reduceMul, Int.reduceNeg, Int.reduceToNat, Int.reduceEq, gb, gz, gz2]
    exact endK_keep ((((Keep.refl M).new hMa).new gb.2.2).new gz2.2.2) ⟨rfl, rfl, _, rfl, both_void' ha hb hw h1⟩
  simp only [go_sem, reduceCtorEq, reduceIte, Nat.reduceEqDiff, Nat.reduceAdd, Nat.reduceLeDiff, Nat.reduceMul, Int.reduceLT, Int.reduceLE, Int.reduceAdd, Int.reduceSub, Int.reduceMul, Int.reduceNeg, Int.reduceToNat, Int.reduceEq, gb, gz, gz2, h1]
  by_cases hab : a = b
  · subst hab
    simp only [go_sem, reduceCtorEq, reduceIte, Nat.reduceEqDiff, Nat.reduceAdd, Nat.reduceLeDiff, Nat.reduceMul, Int.reduceLT, Int.reduceLE, Int.reduceAdd, Int.reduceSub, Int.reduceMul, Int.reduceNeg, Int.reduceToNat, Int.reduceEq, gb, gz, gz2, eq_self]
    exact endK_keep ((((Keep.refl M).new hMa).new gb.2.2).new gz2.2.2) ⟨rfl, rfl, _, rfl, both_same ha⟩
  simp only [go_sem, reduceCtorEq, reduceIte, Nat.reduceEqDiff, Nat.reduceAdd, Nat.reduceLeDiff, Nat.reduceMul, Int.reduceLT, Int.reduceLE, Int.reduceAdd, Int.reduceSub, Int.reduceMul, Int.reduceNeg, Int.reduceToNat, Int.reduceEq, gb, gz, gz2, hab]
  refine callK_same (k76 F _ a ha) ?_
  simp only [go_sem, reduceCtorEq, reduceIte, Nat.reduceEqDiff, Nat.reduceAdd, Nat.reduceLeDiff, Nat.reduceMul, Int.reduceLT, Int.reduceLE, Int.reduceAdd, Int.reduceSub, Int.reduceMul, Int.reduceNeg, Int.reduceToNat, Int.reduceEq, gb, gz, gz2]
  refine callK_same (k76 F _ b hb) ?_
  simp only [go_sem, reduceCtorEq, reduceIte, Nat.reduceEqDiff, Nat.reduceAdd, Nat.reduceLeDiff, Nat.reduceMul, Int.reduceLT, Int.reduceLE, Int.reduceAdd, Int.reduceSub, Int.reduceMul, Int.reduceNeg, Int.reduceToNat, Int.reduceEq, gb, gz, gz2]
  have ta := tidy_spec ha
  have tb := tidy_spec hb
  refine callK_of (k77 F _ a.tidy b.tidy (ok_in ta.ok) (ok_in tb.ok) (by rw [ta.w, tb.w, hw])) ?_
  rintro u G M' ⟨hG, rfl, l, h, rfl, c⟩
  rw [hG]
  refine ⟨(fun h => by cases h), ?_⟩
  have hz := both_mix ha hb hw h0 h1 c
  have em : bor .i64 (bor .i64 a.tidy.free b.tidy.free) (bxor .i64 a.tidy.bits b.tidy.bits) = a.tidy.mix b.tidy := rfl
  simp only [go_sem, reduceCtorEq, reduceIte, Nat.reduceEqDiff, Nat.reduceAdd, Nat.reduceLeDiff, Nat.reduceMul, Int.reduceLT, Int.reduceLE, Int.reduceAdd, Int.reduceSub, Int.reduceMul, Int.reduceNeg, Int.reduceToNat, Int.reduceEq, gb, gz, gz2, em]
  refine callK_same (k76 F _ _ hz.1) ?_
  simp only [go_sem, reduceCtorEq, reduceIte, Nat.reduceEqDiff, Nat.reduceAdd, Nat.reduceLeDiff, Nat.reduceMul, Int.reduceLT, Int.reduceLE, Int.reduceAdd, Int.reduceSub, Int.reduceMul, Int.reduceNeg, Int.reduceToNat, Int.reduceEq, gb, gz, gz2]
  exact endK_keep ((((Keep.refl M).new hMa).new gb.2.2).new gz2.2.2) ⟨rfl, rfl, _, rfl, hz.2⟩

theorem k41 (a b : V) : CallsA Try.prog 41 [a.val, b.val] F M fun u F' M' => F' = F ∧ M' = M ∧ ((V.pair a b = true ∧ ∃ z, u = .tuple #[z.val, .int .i64 0] ∧ BothR a b z) ∨ (V.pair a b = false ∧ u = .tuple #[V.zero.val, .int .i64 1])) := by
  refine callsA_of hm Try.func41 e41 (Nat.le_of_ble_eq_true rfl) ?_
  simp only [c41, go_sem, reduceCtorEq, reduceIte, Nat.reduceEqDiff, Nat.reduceAdd, Nat.reduceLeDiff, Nat.reduceMul, Int.reduceLT, Int.reduceLE, Int.reduceAdd, Int.reduceSub, Int.reduceMul, Int.reduceNeg, Int.reduceToNat, Int.reduceEq]
  intro ra hFa hMa
  simp only [go_sem, reduceCtorEq, reduceIte, Nat.reduceEqDiff, Nat.reduceAdd, Nat.reduceLeDiff, Nat.reduceMul, Int.reduceLT, Int.reduceLE, Int.reduceAdd, Int.reduceSub, Int.reduceMul, Int.reduceNeg, Int.reduceToNat, Int.reduceEq]
  intro rb hFb hMb
  have gb := fresh_of hMb
  simp only [go_sem, reduceCtorEq, reduceIte, Nat.reduceEqDiff, Nat.reduceAdd, Nat.reduceLeDiff, Nat.reduceMul, Int.reduceLT, Int.reduceLE, Int.reduceAdd, Int.reduceSub, Int.reduceMul, Int.reduceNeg, Int.reduceToNat, Int.reduceEq, gb]
  intro rz hFz hMz
  have gz := fresh_of hMz
  have gz2 := fresh_of gz.2.2
  simp only [go_sem, reduceCtorEq, reduceIte, Nat.reduceEqDiff, Nat.reduceAdd, Nat.reduceLeDiff, Nat.reduceMul, Int.reduceLT, Int.reduceLE, Int.reduceAdd, Int.reduceSub, Int.reduceMul, Int.reduceNeg, Int.reduceToNat, Int.reduceEq, gb, gz, gz2]
  refine callK_same (k60 F _ a b) ?_
  cases hp : V.pair a b
  · simp only [go_sem, reduceCtorEq, reduceIte, Nat.reduceEqDiff, Nat.reduceAdd, Nat.reduceLeDiff, Nat.reduceMul, Int.reduceLT, Int.reduceLE, Int.reduceAdd, Int.reduceSub, Int.reduceMul, Int.reduceNeg, Int.reduceToNat, Int.reduceEq, gb, gz, gz2]
    exact endK_keep ((((Keep.refl M).new hMa).new gb.2.2).new gz2.2.2) ⟨rfl, rfl, rfl⟩
  have hp' := hp
  simp [V.pair] at hp'
  simp only [go_sem, reduceCtorEq, reduceIte, Nat.reduceEqDiff, Nat.reduceAdd, Nat.reduceLeDiff, Nat.reduceMul, Int.reduceLT, Int.reduceLE, Int.reduceAdd, Int.reduceSub, Int.reduceMul, Int.reduceNeg, Int.reduceToNat, Int.reduceEq, gb, gz, gz2]
  refine callK_of (k63 F _ a b hp'.1.1 hp'.1.2 hp'.2.symm) ?_
  rintro u G M' ⟨hG, rfl, z, rfl, hz⟩
  rw [hG]
  refine ⟨(fun h => by cases h), ?_⟩
  simp only [go_sem, reduceCtorEq, reduceIte, Nat.reduceEqDiff, Nat.reduceAdd, Nat.reduceLeDiff, Nat.reduceMul, Int.reduceLT, Int.reduceLE, Int.reduceAdd, Int.reduceSub, Int.reduceMul, Int.reduceNeg, Int.reduceToNat, Int.reduceEq, gb, gz, gz2]
  exact endK_keep ((((Keep.refl M).new hMa).new gb.2.2).new gz2.2.2) ⟨rfl, rfl, z, rfl, hz⟩
end Go.Proofs.Try.K
