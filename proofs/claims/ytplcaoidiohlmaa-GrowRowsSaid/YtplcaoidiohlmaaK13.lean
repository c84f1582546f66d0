/- Contracts: told to be in another one. -/
import Derived.Test.YtplcaoidiohlmaaK12
namespace Go.Proofs.Try.K
open Go Go.Ax Go.Proofs.Try.S
set_option maxRecDepth 100000
set_option linter.unusedSimpArgs false
set_option linter.unusedVariables false
variable (F : Fz) (M : Hp)

def underI (b : V) (l : List Int) (cap : Nat) (F0 : Fz) (M0 : Hp) (r1 g : Nat) (m : Nat) (σ : Env) (F' : Fz) (M' : Hp) : Prop :=
  F' = F0 ∧ M' = M0 ∧ Ax.look σ 3 = some (.pointer (some ⟨r1, 0, none⟩)) ∧ Ax.look σ 25 = some (.slice (some ⟨g, 0, none⟩) l.length cap) ∧ Ax.look σ 26 = some (.int .i64 l.length) ∧
  ∃ i : Nat, i + m = l.length ∧ Ax.look σ 27 = some (.int .i64 i) ∧ (l.all b.has = (l.drop i).all b.has)

theorem k61 (a b : V) (ha : a.ok = true) (hb : b.ok = true) : CallsA Try.prog 61 [a.val, b.val] F M (Same F M (.bool (a.under b))) := by
  refine callsA_of hm Try.func61 e61 (Nat.le_of_ble_eq_true rfl) ?_
  have lb := isW_le (ok_in hb).w
  simp only [c61, go_sem, reduceCtorEq, reduceIte, Nat.reduceEqDiff, Nat.reduceAdd, Nat.reduceLeDiff, Nat.reduceMul, Int.reduceLT, Int.reduceLE, Int.reduceAdd, Int.reduceSub, Int.reduceMul, Int.reduceNeg, Int.reduceToNat, Int.reduceEq]
  intro r hF hM
  simp only [go_sem, reduceCtorEq, reduceIte, Nat.reduceEqDiff, Nat.reduceAdd, Nat.reduceLeDiff, Nat.reduceMul, Int.reduceLT, Int.reduceLE, Int.reduceAdd, Int.reduceSub, Int.reduceMul, Int.reduceNeg, Int.reduceToNat, Int.reduceEq]
  intro r1 hF1 hM1
  have gr := fresh_of hM1
  simp only [go_sem, reduceCtorEq, reduceIte, Nat.reduceEqDiff, Nat.reduceAdd, Nat.reduceLeDiff, Nat.reduceMul, Int.reduceLT, Int.reduceLE, Int.reduceAdd, Int.reduceSub, Int.reduceMul, Int.reduceNeg, Int.reduceToNat, Int.reduceEq, gr]
  by_cases c1 : a = b
  · subst c1
    simp only [go_sem, reduceCtorEq, reduceIte, Nat.reduceEqDiff, Nat.reduceAdd, Nat.reduceLeDiff, Nat.reduceMul, Int.reduceLT, Int.reduceLE, Int.reduceAdd, Int.reduceSub, Int.reduceMul, Int.reduceNeg, Int.reduceToNat, Int.reduceEq, gr, eq_self]
    exact endK_drop hM1 (endK_drop hM (endK_same ⟨by simp [V.under], rfl, rfl⟩))
  simp only [go_sem, reduceCtorEq, reduceIte, Nat.reduceEqDiff, Nat.reduceAdd, Nat.reduceLeDiff, Nat.reduceMul, Int.reduceLT, Int.reduceLE, Int.reduceAdd, Int.reduceSub, Int.reduceMul, Int.reduceNeg, Int.reduceToNat, Int.reduceEq, gr, c1]
  refine callK_same (k45 F _ b.w lb.1 lb.2) ?_
  by_cases c2 : b = V.whole b.w
  · have e2 : decide (b = V.whole b.w) = true := by simpa using c2
    simp only [go_sem, reduceCtorEq, reduceIte, Nat.reduceEqDiff, Nat.reduceAdd, Nat.reduceLeDiff, Nat.reduceMul, Int.reduceLT, Int.reduceLE, Int.reduceAdd, Int.reduceSub, Int.reduceMul, Int.reduceNeg, Int.reduceToNat, Int.reduceEq, gr, c1, e2]
    exact endK_drop hM1 (endK_drop hM (endK_same ⟨by simp [V.under, e2], rfl, rfl⟩))
  have e2 : decide (b = V.whole b.w) = false := by simpa using c2
  simp only [go_sem, reduceCtorEq, reduceIte, Nat.reduceEqDiff, Nat.reduceAdd, Nat.reduceLeDiff, Nat.reduceMul, Int.reduceLT, Int.reduceLE, Int.reduceAdd, Int.reduceSub, Int.reduceMul, Int.reduceNeg, Int.reduceToNat, Int.reduceEq, gr, c1, e2]
  refine callK_of (k71 F _ a 16 ha (by omega)) ?_
  rintro u G M' ⟨hG, ⟨hlen, ⟨hnil, rfl, rfl⟩ | ⟨g, cap, hFg, hMg, rfl, rfl⟩⟩ | ⟨hlen, rfl, rfl⟩⟩ <;> rw [hG] <;> refine ⟨(fun h => by cases h), ?_⟩
  · have e : a.under b = true := by simp [V.under, c1, e2, hnil]
    simp only [go_sem, reduceCtorEq, reduceIte, Nat.reduceEqDiff, Nat.reduceAdd, Nat.reduceLeDiff, Nat.reduceMul, Int.reduceLT, Int.reduceLE, Int.reduceAdd, Int.reduceSub, Int.reduceMul, Int.reduceNeg, Int.reduceToNat, Int.reduceEq, gr]
    refine loop_of (fun m σ F' M' => F' = F ∧ M' = (M.upd r ⟨a.cs, 28, 6⟩).upd r1 ⟨b.cs, 28, 6⟩ ∧ Ax.look σ 26 = some (.int .i64 0) ∧ Ax.look σ 27 = some (.int .i64 0)) 0 ?_ ?_
    · exact ⟨rfl, rfl, by simp only [go_sem, reduceCtorEq, reduceIte, Nat.reduceEqDiff, Nat.reduceAdd, Nat.reduceLeDiff, Nat.reduceMul, Int.reduceLT, Int.reduceLE, Int.reduceAdd, Int.reduceSub, Int.reduceMul, Int.reduceNeg, Int.reduceToNat, Int.reduceEq], by simp only [go_sem, reduceCtorEq, reduceIte, Nat.reduceEqDiff, Nat.reduceAdd, Nat.reduceLeDiff, Nat.reduceMul, Int.reduceLT, Int.reduceLE, Int.reduceAdd, Int.reduceSub, Int.reduceMul, Int.reduceNeg, Int.reduceToNat, Int.reduceEq]⟩
    · rintro m σ F' M' ⟨rfl, rfl, h26, h27⟩
      simp only [go_sem, reduceCtorEq, reduceIte, Nat.reduceEqDiff, Nat.reduceAdd, Nat.reduceLeDiff, Nat.reduceMul, Int.reduceLT, Int.reduceLE, Int.reduceAdd, Int.reduceSub, Int.reduceMul, Int.reduceNeg, Int.reduceToNat, Int.reduceEq, h26, h27, Int.lt_irrefl]
      exact endK_drop hM1 (endK_drop hM (endK_same ⟨by rw [e], rfl, rfl⟩))
  · have g1 := fresh_of hMg
    have g2 := fresh_of g1.2.2
    have e : a.under b = (a.members 16).all b.has := by simp [V.under, c1, e2, hlen]
    rw [e]
    generalize a.members 16 = l at *
    simp only [go_sem, reduceCtorEq, reduceIte, Nat.reduceEqDiff, Nat.reduceAdd, Nat.reduceLeDiff, Nat.reduceMul, Int.reduceLT, Int.reduceLE, Int.reduceAdd, Int.reduceSub, Int.reduceMul, Int.reduceNeg, Int.reduceToNat, Int.reduceEq, gr]
    refine loop_of (underI b l cap F (((M.upd r ⟨a.cs, 28, 6⟩).upd r1 ⟨b.cs, 28, 6⟩).upd g ⟨l.map intV, 3, cap * 1⟩) r1 g) l.length ?_ ?_
    · exact ⟨rfl, rfl, by simp only [go_sem, reduceCtorEq, reduceIte, Nat.reduceEqDiff, Nat.reduceAdd, Nat.reduceLeDiff, Nat.reduceMul, Int.reduceLT, Int.reduceLE, Int.reduceAdd, Int.reduceSub, Int.reduceMul, Int.reduceNeg, Int.reduceToNat, Int.reduceEq], by simp only [go_sem, reduceCtorEq, reduceIte, Nat.reduceEqDiff, Nat.reduceAdd, Nat.reduceLeDiff, Nat.reduceMul, Int.reduceLT, Int.reduceLE, Int.reduceAdd, Int.reduceSub, Int.reduceMul, Int.reduceNeg, Int.reduceToNat, Int.reduceEq], by simp only [go_sem, reduceCtorEq, reduceIte, Nat.reduceEqDiff, Nat.reduceAdd, Nat.reduceLeDiff, Nat.reduceMul, Int.reduceLT, Int.reduceLE, Int.reduceAdd, Int.reduceSub, Int.reduceMul, Int.reduceNeg, Int.reduceToNat, Int.reduceEq], 0, by omega, by simp only [go_sem, reduceCtorEq, reduceIte, Nat.reduceEqDiff, Nat.reduceAdd, Nat.reduceLeDiff, Nat.reduceMul, Int.reduceLT, Int.reduceLE, Int.reduceAdd, Int.reduceSub, Int.reduceMul, Int.reduceNeg, Int.reduceToNat, Int.reduceEq] <;> rfl, rfl⟩
    · rintro m σ F' M' ⟨rfl, rfl, h3, h25, h26, i, hi, h27, hall⟩
      by_cases hil : (i : Int) < l.length
      · have hi0 : (0 : Int) ≤ i := by omega
        have hil' : i < l.length := by omega
        have hget := get_ints hil'
        have ei : IntKind.i64.wrap ((i : Int) + 1) = i + 1 := w64 (by omega) (by omega)
        have hd : (l.drop i).all b.has = (b.has l[i] && (l.drop (i + 1)).all b.has) := by rw [List.drop_eq_getElem_cons hil']; rfl
        simp only [go_sem, reduceCtorEq, reduceIte, Nat.reduceEqDiff, Nat.reduceAdd, Nat.reduceLeDiff, Nat.reduceMul, Int.reduceLT, Int.reduceLE, Int.reduceAdd, Int.reduceSub, Int.reduceMul, Int.reduceNeg, Int.reduceToNat, Int.reduceEq, h3, h25, h26, h27, hil, hi0, Int.toNat_natCast, Nat.mul_one, hget, gr, g1, g2]
        refine callK_same (k53 F' _ b l[i]) ?_
        cases hh : b.has l[i]
        · rw [hh, Bool.false_and] at hd
          simp only [go_sem, reduceCtorEq, reduceIte, Nat.reduceEqDiff, Nat.reduceAdd, Nat.reduceLeDiff, Nat.reduceMul, Int.reduceLT, Int.reduceLE, Int.reduceAdd, Int.reduceSub, Int.reduceMul, Int.reduceNeg, Int.reduceToNat, Int.reduceEq, h3, h25, h26, h27]
          exact endK_keep ((((Keep.refl M).new hM).new gr.2.2).new g2.2.2) ⟨by rw [hall, hd], rfl, rfl⟩
        · rw [hh, Bool.true_and] at hd
          simp only [go_sem, reduceCtorEq, reduceIte, Nat.reduceEqDiff, Nat.reduceAdd, Nat.reduceLeDiff, Nat.reduceMul, Int.reduceLT, Int.reduceLE, Int.reduceAdd, Int.reduceSub, Int.reduceMul, Int.reduceNeg, Int.reduceToNat, Int.reduceEq, h3, h25, h26, h27, ei]
          exact ⟨m - 1, by omega, rfl, rfl, by simp only [go_sem, reduceCtorEq, reduceIte, Nat.reduceEqDiff, Nat.reduceAdd, Nat.reduceLeDiff, Nat.reduceMul, Int.reduceLT, Int.reduceLE, Int.reduceAdd, Int.reduceSub, Int.reduceMul, Int.reduceNeg, Int.reduceToNat, Int.reduceEq, h3], by simp only [go_sem, reduceCtorEq, reduceIte, Nat.reduceEqDiff, Nat.reduceAdd, Nat.reduceLeDiff, Nat.reduceMul, Int.reduceLT, Int.reduceLE, Int.reduceAdd, Int.reduceSub, Int.reduceMul, Int.reduceNeg, Int.reduceToNat, Int.reduceEq, h25], by simp only [go_sem, reduceCtorEq, reduceIte, Nat.reduceEqDiff, Nat.reduceAdd, Nat.reduceLeDiff, Nat.reduceMul, Int.reduceLT, Int.reduceLE, Int.reduceAdd, Int.reduceSub, Int.reduceMul, Int.reduceNeg, Int.reduceToNat, Int.reduceEq, h26], i + 1, by omega, by simp only [go_sem, reduceCtorEq, reduceIte, Nat.reduceEqDiff, Nat.reduceAdd, Nat.reduceLeDiff, Nat.reduceMul, Int.reduceLT, Int.reduceLE, Int.reduceAdd, Int.reduceSub, Int.reduceMul, Int.reduceNeg, Int.reduceToNat, Int.reduceEq]; rfl, by rw [hall, hd]⟩
      · simp only [go_sem, reduceCtorEq, reduceIte, Nat.reduceEqDiff, Nat.reduceAdd, Nat.reduceLeDiff, Nat.reduceMul, Int.reduceLT, Int.reduceLE, Int.reduceAdd, Int.reduceSub, Int.reduceMul, Int.reduceNeg, Int.reduceToNat, Int.reduceEq, h3, h25, h26, h27, hil]
        have : l.drop i = [] := List.drop_eq_nil_of_le (by omega)
        rw [this] at hall
        exact endK_keep ((((Keep.refl M).new hM).new gr.2.2).new g2.2.2) ⟨by rw [hall]; rfl, rfl, rfl⟩
  · have hl : ¬ (a.members 16).length ≤ 16 := by omega
    have e : a.under b = (!b.no && a.inside b && decide (bclr .i64 a.free b.free = 0) && decide (bclr .i64 a.bits b.free = b.bits)) := by simp [V.under, c1, e2, hl]
    rw [e]
    simp only [go_sem, reduceCtorEq, reduceIte, Nat.reduceEqDiff, Nat.reduceAdd, Nat.reduceLeDiff, Nat.reduceMul, Int.reduceLT, Int.reduceLE, Int.reduceAdd, Int.reduceSub, Int.reduceMul, Int.reduceNeg, Int.reduceToNat, Int.reduceEq, gr]
    cases hno : b.no
    rotate_left
    · simp only [go_sem, reduceCtorEq, reduceIte, Nat.reduceEqDiff, Nat.reduceAdd, Nat.reduceLeDiff, Nat.reduceMul, Int.reduceLT, Int.reduceLE, Int.reduceAdd, Int.reduceSub, Int.reduceMul, Int.reduceNeg, Int.reduceToNat, Int.reduceEq, gr]
      exact endK_drop hM1 (endK_drop hM (endK_same ⟨rfl, rfl, rfl⟩))
    simp only [go_sem, reduceCtorEq, reduceIte, Nat.reduceEqDiff, Nat.reduceAdd, Nat.reduceLeDiff, Nat.reduceMul, Int.reduceLT, Int.reduceLE, Int.reduceAdd, Int.reduceSub, Int.reduceMul, Int.reduceNeg, Int.reduceToNat, Int.reduceEq, gr]
    refine callK_same (k75 F _ a b (ok_in ha) (ok_in hb)) ?_
    cases hin : a.inside b
    · simp only [go_sem, reduceCtorEq, reduceIte, Nat.reduceEqDiff, Nat.reduceAdd, Nat.reduceLeDiff, Nat.reduceMul, Int.reduceLT, Int.reduceLE, Int.reduceAdd, Int.reduceSub, Int.reduceMul, Int.reduceNeg, Int.reduceToNat, Int.reduceEq, gr]
      exact endK_drop hM1 (endK_drop hM (endK_same ⟨rfl, rfl, rfl⟩))
    by_cases d1 : bclr .i64 a.free b.free = 0
    · simp only [go_sem, reduceCtorEq, reduceIte, Nat.reduceEqDiff, Nat.reduceAdd, Nat.reduceLeDiff, Nat.reduceMul, Int.reduceLT, Int.reduceLE, Int.reduceAdd, Int.reduceSub, Int.reduceMul, Int.reduceNeg, Int.reduceToNat, Int.reduceEq, gr, d1]
      exact endK_drop hM1 (endK_drop hM (endK_same ⟨by simp [d1], rfl, rfl⟩))
    · simp only [go_sem, reduceCtorEq, reduceIte, Nat.reduceEqDiff, Nat.reduceAdd, Nat.reduceLeDiff, Nat.reduceMul, Int.reduceLT, Int.reduceLE, Int.reduceAdd, Int.reduceSub, Int.reduceMul, Int.reduceNeg, Int.reduceToNat, Int.reduceEq, gr, d1]
      exact endK_drop hM1 (endK_drop hM (endK_same ⟨by simp [d1], rfl, rfl⟩))

theorem k38 (a b : V) : CallsA Try.prog 38 [a.val, b.val] F M (Same F M (if V.pair a b then .tuple #[.bool (a.under b), .int .i64 0] else .tuple #[.bool false, .int .i64 1])) := by
  refine callsA_of hm Try.func38 e38 (Nat.le_of_ble_eq_true rfl) ?_
  simp only [c38, go_sem, reduceCtorEq, reduceIte, Nat.reduceEqDiff, Nat.reduceAdd, Nat.reduceLeDiff, Nat.reduceMul, Int.reduceLT, Int.reduceLE, Int.reduceAdd, Int.reduceSub, Int.reduceMul, Int.reduceNeg, Int.reduceToNat, Int.reduceEq]
  intro r hF hM
  simp only [go_sem, reduceCtorEq, reduceIte, Nat.reduceEqDiff, Nat.reduceAdd, Nat.reduceLeDiff, Nat.reduceMul, Int.reduceLT, Int.reduceLE, Int.reduceAdd, Int.reduceSub, Int.reduceMul, Int.reduceNeg, Int.reduceToNat, Int.reduceEq]
  intro r1 hF1 hM1
  have g := fresh_of hM1
  simp only [go_sem, reduceCtorEq, reduceIte, Nat.reduceEqDiff, Nat.reduceAdd, Nat.reduceLeDiff, Nat.reduceMul, Int.reduceLT, Int.reduceLE, Int.reduceAdd, Int.reduceSub, Int.reduceMul, Int.reduceNeg, Int.reduceToNat, Int.reduceEq, g]
  refine callK_same (k60 F _ a b) ?_
  cases hp : V.pair a b
  · simp only [go_sem, reduceCtorEq, reduceIte, Nat.reduceEqDiff, Nat.reduceAdd, Nat.reduceLeDiff, Nat.reduceMul, Int.reduceLT, Int.reduceLE, Int.reduceAdd, Int.reduceSub, Int.reduceMul, Int.reduceNeg, Int.reduceToNat, Int.reduceEq, g]
    exact endK_drop hM1 (endK_drop hM (endK_same ⟨by simp, rfl, rfl⟩))
  have hp' := hp
  simp [V.pair] at hp'
  simp only [go_sem, reduceCtorEq, reduceIte, Nat.reduceEqDiff, Nat.reduceAdd, Nat.reduceLeDiff, Nat.reduceMul, Int.reduceLT, Int.reduceLE, Int.reduceAdd, Int.reduceSub, Int.reduceMul, Int.reduceNeg, Int.reduceToNat, Int.reduceEq, g]
  refine callK_same (k61 F _ a b hp'.1.1 hp'.1.2) ?_
  simp only [go_sem, reduceCtorEq, reduceIte, Nat.reduceEqDiff, Nat.reduceAdd, Nat.reduceLeDiff, Nat.reduceMul, Int.reduceLT, Int.reduceLE, Int.reduceAdd, Int.reduceSub, Int.reduceMul, Int.reduceNeg, Int.reduceToNat, Int.reduceEq, g]
  exact endK_drop hM1 (endK_drop hM (endK_same ⟨by simp, rfl, rfl⟩))
end Go.Proofs.Try.K
