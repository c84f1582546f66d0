/- Contracts: growing by a row, asked; itself. -/
import Derived.Test.YtplcaoidiohlmaaK23
namespace Go.Proofs.Try.K
open Go Go.Ax Go.Proofs.Try.S
set_option maxRecDepth 100000
set_option linter.unusedSimpArgs false
set_option linter.unusedVariables false
variable (F : Fz) (M : Hp)

theorem asked_iff {v0 : V} {l : List V} (h : askedB v0 l = true) : v0.ok = true ∧ ∀ x ∈ l, x.ok = true ∧ x.w = v0.w := by
  unfold askedB at h
  rw [List.all_eq_true] at h
  refine ⟨?_, fun x hx => ?_⟩
  · have := h v0 (by simp)
    simpa using this
  · have := h x (by simp [hx])
    simpa using this
def rowA (l : List V) : Value := match l with
  | [] => .tuple #[V.zero.val, .int .i64 1]
  | v0 :: l => if askedB v0 l then .tuple #[(v0.rows l).1.val, .int .i64 0] else .tuple #[V.zero.val, .int .i64 1]
def stepsA (l : List V) : Value := match l with
  | [] => .tuple #[.int .i64 0, .int .i64 1]
  | v0 :: l => if askedB v0 l then .tuple #[.int .i64 (v0.rows l).2, .int .i64 0] else .tuple #[.int .i64 0, .int .i64 1]
theorem k39 (l : List V) (u : Value) (h : RdV F M u l) : CallsA Try.prog 39 [u] F M (Same F M (rowA l)) := by
  refine callsA_of hm Try.func39 e39 (Nat.le_of_ble_eq_true rfl) ?_
  have h' := h
  obtain ⟨hle, ad, cap, hlc, rfl, _⟩ := h
  simp only [c39, go_sem, reduceCtorEq, reduceIte, Nat.reduceEqDiff, Nat.reduceAdd, Nat.reduceLeDiff, Nat.reduceMul, Int.reduceLT, Int.reduceLE, Int.reduceAdd, Int.reduceSub, Int.reduceMul, Int.reduceNeg, Int.reduceToNat, Int.reduceEq]
  intro r2 hF2 hM2
  have h2 := h'.new (e := ⟨V.zero.cs, 28, 6⟩) hF2 hM2
  cases l with
  | nil =>
    simp only [go_sem, reduceCtorEq, reduceIte, Nat.reduceEqDiff, Nat.reduceAdd, Nat.reduceLeDiff, Nat.reduceMul, Int.reduceLT, Int.reduceLE, Int.reduceAdd, Int.reduceSub, Int.reduceMul, Int.reduceNeg, Int.reduceToNat, Int.reduceEq]
    exact endK_drop hM2 (endK_same ⟨rfl, rfl, rfl⟩)
  | cons v0 l =>
    have e0 : ¬ (l.length : Int) + 1 = 0 := by omega
    simp only [go_sem, reduceCtorEq, reduceIte, Nat.reduceEqDiff, Nat.reduceAdd, Nat.reduceLeDiff, Nat.reduceMul, Int.reduceLT, Int.reduceLE, Int.reduceAdd, Int.reduceSub, Int.reduceMul, Int.reduceNeg, Int.reduceToNat, Int.reduceEq, List.length_cons, Int.natCast_succ, e0]
    refine callK_same (k58 F _ v0 l _ h2) ?_
    cases ha : askedB v0 l
    · simp only [go_sem, reduceCtorEq, reduceIte, Nat.reduceEqDiff, Nat.reduceAdd, Nat.reduceLeDiff, Nat.reduceMul, Int.reduceLT, Int.reduceLE, Int.reduceAdd, Int.reduceSub, Int.reduceMul, Int.reduceNeg, Int.reduceToNat, Int.reduceEq]
      exact endK_drop hM2 (endK_same ⟨by simp [rowA, ha], rfl, rfl⟩)
    obtain ⟨a1, a2⟩ := asked_iff ha
    simp only [go_sem, reduceCtorEq, reduceIte, Nat.reduceEqDiff, Nat.reduceAdd, Nat.reduceLeDiff, Nat.reduceMul, Int.reduceLT, Int.reduceLE, Int.reduceAdd, Int.reduceSub, Int.reduceMul, Int.reduceNeg, Int.reduceToNat, Int.reduceEq, List.length_cons]
    refine callK_same (k62 F _ v0 l _ h2 a1 a2) ?_
    simp only [go_sem, reduceCtorEq, reduceIte, Nat.reduceEqDiff, Nat.reduceAdd, Nat.reduceLeDiff, Nat.reduceMul, Int.reduceLT, Int.reduceLE, Int.reduceAdd, Int.reduceSub, Int.reduceMul, Int.reduceNeg, Int.reduceToNat, Int.reduceEq]
    intro r4 hF4 hM4
    have g4 := fresh_of hM4
    simp only [go_sem, reduceCtorEq, reduceIte, Nat.reduceEqDiff, Nat.reduceAdd, Nat.reduceLeDiff, Nat.reduceMul, Int.reduceLT, Int.reduceLE, Int.reduceAdd, Int.reduceSub, Int.reduceMul, Int.reduceNeg, Int.reduceToNat, Int.reduceEq, g4]
    refine endK_keep (M := M) ?_ ⟨by simp [rowA, ha], rfl, rfl⟩
    exact ((Keep.refl M).new hM2).new g4.2.2
theorem k40 (l : List V) (u : Value) (h : RdV F M u l) : CallsA Try.prog 40 [u] F M (Same F M (stepsA l)) := by
  refine callsA_of hm Try.func40 e40 (Nat.le_of_ble_eq_true rfl) ?_
  have h' := h
  obtain ⟨hle, ad, cap, hlc, rfl, _⟩ := h
  simp only [c40, go_sem, reduceCtorEq, reduceIte, Nat.reduceEqDiff, Nat.reduceAdd, Nat.reduceLeDiff, Nat.reduceMul, Int.reduceLT, Int.reduceLE, Int.reduceAdd, Int.reduceSub, Int.reduceMul, Int.reduceNeg, Int.reduceToNat, Int.reduceEq]
  cases l with
  | nil =>
    simp only [go_sem, reduceCtorEq, reduceIte, Nat.reduceEqDiff, Nat.reduceAdd, Nat.reduceLeDiff, Nat.reduceMul, Int.reduceLT, Int.reduceLE, Int.reduceAdd, Int.reduceSub, Int.reduceMul, Int.reduceNeg, Int.reduceToNat, Int.reduceEq]
    exact (endK_same ⟨rfl, rfl, rfl⟩)
  | cons v0 l =>
    have e0 : ¬ (l.length : Int) + 1 = 0 := by omega
    simp only [go_sem, reduceCtorEq, reduceIte, Nat.reduceEqDiff, Nat.reduceAdd, Nat.reduceLeDiff, Nat.reduceMul, Int.reduceLT, Int.reduceLE, Int.reduceAdd, Int.reduceSub, Int.reduceMul, Int.reduceNeg, Int.reduceToNat, Int.reduceEq, List.length_cons, Int.natCast_succ, e0]
    refine callK_same (k58 F _ v0 l _ h') ?_
    cases ha : askedB v0 l
    · simp only [go_sem, reduceCtorEq, reduceIte, Nat.reduceEqDiff, Nat.reduceAdd, Nat.reduceLeDiff, Nat.reduceMul, Int.reduceLT, Int.reduceLE, Int.reduceAdd, Int.reduceSub, Int.reduceMul, Int.reduceNeg, Int.reduceToNat, Int.reduceEq]
      exact (endK_same ⟨by simp [stepsA, ha], rfl, rfl⟩)
    obtain ⟨a1, a2⟩ := asked_iff ha
    simp only [go_sem, reduceCtorEq, reduceIte, Nat.reduceEqDiff, Nat.reduceAdd, Nat.reduceLeDiff, Nat.reduceMul, Int.reduceLT, Int.reduceLE, Int.reduceAdd, Int.reduceSub, Int.reduceMul, Int.reduceNeg, Int.reduceToNat, Int.reduceEq, List.length_cons]
    refine callK_same (k62 F _ v0 l _ h' a1 a2) ?_
    simp only [go_sem, reduceCtorEq, reduceIte, Nat.reduceEqDiff, Nat.reduceAdd, Nat.reduceLeDiff, Nat.reduceMul, Int.reduceLT, Int.reduceLE, Int.reduceAdd, Int.reduceSub, Int.reduceMul, Int.reduceNeg, Int.reduceToNat, Int.reduceEq]
    intro r4 hF4 hM4
    simp only [go_sem, reduceCtorEq, reduceIte, Nat.reduceEqDiff, Nat.reduceAdd, Nat.reduceLeDiff, Nat.reduceMul, Int.reduceLT, Int.reduceLE, Int.reduceAdd, Int.reduceSub, Int.reduceMul, Int.reduceNeg, Int.reduceToNat, Int.reduceEq]
    exact endK_drop hM4 (endK_same ⟨by simp [stepsA, ha], rfl, rfl⟩)
theorem wide38 : (if V.pair (V.just 8 3) (V.just 8 3) then Value.tuple #[((V.just 8 3).out (V.just 8 3)).val, .int .i64 0] else .tuple #[V.zero.val, .int .i64 1]) = .tuple #[(V.just 8 3).val, .int .i64 0] := by
  have e1 : V.pair (V.just 8 3) (V.just 8 3) = true := by decide +kernel
  have e2 : (V.just 8 3).out (V.just 8 3) = V.just 8 3 := by decide +kernel
  rw [if_pos e1, e2]
theorem steps38 : stepsA [V.just 8 3, V.just 8 3, V.just 8 3] = .tuple #[.int .i64 0, .int .i64 0] := by
  have e1 : askedB (V.just 8 3) [V.just 8 3, V.just 8 3] = true := by decide +kernel
  have e2 : ((V.just 8 3).rows [V.just 8 3, V.just 8 3]).2 = 0 := by decide +kernel
  simp only [stepsA]
  rw [if_pos e1, e2]; rfl
theorem k37 : CallsA Try.prog 37 [] F M (Same F M (.bool true)) := by
  refine callsA_of hm Try.func37 e37 (Nat.le_of_ble_eq_true rfl) ?_
  simp only [c37, go_sem, reduceCtorEq, reduceIte, Nat.reduceEqDiff, Nat.reduceAdd, Nat.reduceLeDiff, Nat.reduceMul, Int.reduceLT, Int.reduceLE, Int.reduceAdd, Int.reduceSub, Int.reduceMul, Int.reduceNeg, Int.reduceToNat, Int.reduceEq]
  refine callK_same (k32 F _ 8 3) ?_
  simp only [go_sem, reduceCtorEq, reduceIte, Nat.reduceEqDiff, Nat.reduceAdd, Nat.reduceLeDiff, Nat.reduceMul, Int.reduceLT, Int.reduceLE, Int.reduceAdd, Int.reduceSub, Int.reduceMul, Int.reduceNeg, Int.reduceToNat, Int.reduceEq]
  intro r1 hF1 hM1
  simp only [go_sem, reduceCtorEq, reduceIte, Nat.reduceEqDiff, Nat.reduceAdd, Nat.reduceLeDiff, Nat.reduceMul, Int.reduceLT, Int.reduceLE, Int.reduceAdd, Int.reduceSub, Int.reduceMul, Int.reduceNeg, Int.reduceToNat, Int.reduceEq]
  refine callK_same (r := .tuple #[(V.just 8 3).val, .int .i64 0]) (by have := k34 F (M.upd r1 ⟨(V.just 8 3).cs, 28, 6⟩) (V.just 8 3) (V.just 8 3); rw [wide38] at this; exact this) ?_
  simp only [go_sem, reduceCtorEq, reduceIte, Nat.reduceEqDiff, Nat.reduceAdd, Nat.reduceLeDiff, Nat.reduceMul, Int.reduceLT, Int.reduceLE, Int.reduceAdd, Int.reduceSub, Int.reduceMul, Int.reduceNeg, Int.reduceToNat, Int.reduceEq]
  intro r2 hF2 hM2
  have g2 := fresh_of hM2
  simp only [go_sem, reduceCtorEq, reduceIte, Nat.reduceEqDiff, Nat.reduceAdd, Nat.reduceLeDiff, Nat.reduceMul, Int.reduceLT, Int.reduceLE, Int.reduceAdd, Int.reduceSub, Int.reduceMul, Int.reduceNeg, Int.reduceToNat, Int.reduceEq, g2]
  simp only [go_sem, reduceCtorEq, reduceIte, Nat.reduceEqDiff, Nat.reduceAdd, Nat.reduceLeDiff, Nat.reduceMul, Int.reduceLT, Int.reduceLE, Int.reduceAdd, Int.reduceSub, Int.reduceMul, Int.reduceNeg, Int.reduceToNat, Int.reduceEq, List.append_assoc, V.drop_app, V.take_app]
  intro rl hFl hMl
  have gl := fresh_of hMl
  have gl2 := fresh_of gl.2.2
  simp only [go_sem, reduceCtorEq, reduceIte, Nat.reduceEqDiff, Nat.reduceAdd, Nat.reduceLeDiff, Nat.reduceMul, Int.reduceLT, Int.reduceLE, Int.reduceAdd, Int.reduceSub, Int.reduceMul, Int.reduceNeg, Int.reduceToNat, Int.reduceEq, g2, gl, gl2]
  refine callK_same (r := .tuple #[.int .i64 0, .int .i64 0]) (by rw [← steps38]; exact k40 F _ _ _ (rdV_flat (cap := 3) (by simp) (by simp) (by rw [blk_upd_same]; simp [V.cs, V.just]))) ?_
  simp only [go_sem, reduceCtorEq, reduceIte, Nat.reduceEqDiff, Nat.reduceAdd, Nat.reduceLeDiff, Nat.reduceMul, Int.reduceLT, Int.reduceLE, Int.reduceAdd, Int.reduceSub, Int.reduceMul, Int.reduceNeg, Int.reduceToNat, Int.reduceEq, g2, gl, gl2]
  refine callK_same (k35 F _ 0) ?_
  simp only [go_sem, reduceCtorEq, reduceIte, Nat.reduceEqDiff, Nat.reduceAdd, Nat.reduceLeDiff, Nat.reduceMul, Int.reduceLT, Int.reduceLE, Int.reduceAdd, Int.reduceSub, Int.reduceMul, Int.reduceNeg, Int.reduceToNat, Int.reduceEq, g2, gl, gl2]
  refine callK_same (k35 F _ 0) ?_
  simp only [go_sem, reduceCtorEq, reduceIte, Nat.reduceEqDiff, Nat.reduceAdd, Nat.reduceLeDiff, Nat.reduceMul, Int.reduceLT, Int.reduceLE, Int.reduceAdd, Int.reduceSub, Int.reduceMul, Int.reduceNeg, Int.reduceToNat, Int.reduceEq, g2, gl, gl2]
  refine endK_keep (M := M) ?_ ⟨by simp, rfl, rfl⟩
  exact (((Keep.refl M).new hM1).new g2.2.2).new gl2.2.2
end Go.Proofs.Try.K
