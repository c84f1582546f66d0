/- Contracts: ranges, the rows that a set grows to. -/
import Derived.Test.YtplcaoidiohlmaaK16
import Derived.Test.YtplcaoidiohlmaaK18
import Derived.Test.YtplcaoidiohlmaaAx26
namespace Go.Proofs.Try.K
open Go Go.Ax Go.Proofs.Try.S
set_option maxRecDepth 100000
set_option linter.unusedSimpArgs false
set_option linter.unusedVariables false
variable (F : Fz) (M : Hp)

theorem k81 (w l h : Int) (h0 : 0 ≤ w) (h1 : w ≤ 62) : CallsA Try.prog 81 [.int .i64 w, .int .i64 l, .int .i64 h] F M (Same F M (V.span w l h).val) := by
  refine callsA_of hm Try.func81 e81 (Nat.le_of_ble_eq_true rfl) ?_
  simp only [c81, go_sem, reduceCtorEq, reduceIte, Nat.reduceEqDiff, Nat.reduceAdd, Nat.reduceLeDiff, Nat.reduceMul, Int.reduceLT, Int.reduceLE, Int.reduceAdd, Int.reduceSub, Int.reduceMul, Int.reduceNeg, Int.reduceToNat, Int.reduceEq]
  intro r hF hM
  by_cases e : l = h
  · subst e
    simp only [go_sem, reduceCtorEq, reduceIte, Nat.reduceEqDiff, Nat.reduceAdd, Nat.reduceLeDiff, Nat.reduceMul, Int.reduceLT, Int.reduceLE, Int.reduceAdd, Int.reduceSub, Int.reduceMul, Int.reduceNeg, Int.reduceToNat, Int.reduceEq]
    refine callK_same (k49 F _ w l) ?_
    simp only [go_sem, reduceCtorEq, reduceIte, Nat.reduceEqDiff, Nat.reduceAdd, Nat.reduceLeDiff, Nat.reduceMul, Int.reduceLT, Int.reduceLE, Int.reduceAdd, Int.reduceSub, Int.reduceMul, Int.reduceNeg, Int.reduceToNat, Int.reduceEq]
    exact endK_drop hM (endK_same ⟨by rw [V.span, if_pos rfl], rfl, rfl⟩)
  · simp only [go_sem, reduceCtorEq, reduceIte, Nat.reduceEqDiff, Nat.reduceAdd, Nat.reduceLeDiff, Nat.reduceMul, Int.reduceLT, Int.reduceLE, Int.reduceAdd, Int.reduceSub, Int.reduceMul, Int.reduceNeg, Int.reduceToNat, Int.reduceEq, e]
    refine callK_same (k67 F _ w h0 h1) ?_
    simp only [go_sem, reduceCtorEq, reduceIte, Nat.reduceEqDiff, Nat.reduceAdd, Nat.reduceLeDiff, Nat.reduceMul, Int.reduceLT, Int.reduceLE, Int.reduceAdd, Int.reduceSub, Int.reduceMul, Int.reduceNeg, Int.reduceToNat, Int.reduceEq]
    exact endK_drop hM (endK_same ⟨by rw [V.span, if_neg e], rfl, rfl⟩)

theorem shlm {j : Int} (h1 : 0 ≤ j) (h2 : j ≤ 62) : shlv .i64 (-1) j = -(2 ^ j.toNat) := by
  have hp := pow_le62 (w := j) h2
  unfold shlv
  have e : min j.toNat IntKind.i64.bits = j.toNat := by simp [IntKind.bits]; omega
  rw [e]
  have e2 : (-1 : Int) * ((2 ^ j.toNat : Int)) = -(2 ^ j.toNat) := by omega
  rw [e2]
  exact w64 (by omega) (by omega)
theorem growNs_lt {i : Nat} (h : i < 7) : 4 ≤ growNs.getD i 0 ∧ growNs.getD i 0 ≤ 32 ∧ growNs[i]? = some (growNs.getD i 0) := by
  have : ∀ i, i < 7 → 4 ≤ growNs.getD i 0 ∧ growNs.getD i 0 ≤ 32 ∧ growNs[i]? = some (growNs.getD i 0) := by decide
  exact this i h
theorem growK_at {w : Int} (h : isW w = true) {i : Nat} (hi : i < 7) (hk : i ≤ growK w) : (w ≤ growNs.getD i 0 → i = growK w) ∧ (growNs.getD i 0 < w → i + 1 ≤ growK w) := by
  have a : ∀ i, i < 7 → i ≤ growK 8 → ((8 : Int) ≤ growNs.getD i 0 → i = growK 8) ∧ (growNs.getD i 0 < 8 → i + 1 ≤ growK 8) := by decide
  have b : ∀ i, i < 7 → i ≤ growK 16 → ((16 : Int) ≤ growNs.getD i 0 → i = growK 16) ∧ (growNs.getD i 0 < 16 → i + 1 ≤ growK 16) := by decide
  have c : ∀ i, i < 7 → i ≤ growK 32 → ((32 : Int) ≤ growNs.getD i 0 → i = growK 32) ∧ (growNs.getD i 0 < 32 → i + 1 ≤ growK 32) := by decide
  rcases isW_cases h with rfl | rfl | rfl
  · exact a i hi hk
  · exact b i hi hk
  · exact c i hi hk
theorem growK_le (w : Int) : growK w ≤ 6 := by unfold growK; split; omega; split <;> omega
theorem growL_len (w : Int) : ∀ k, (growL w k).length = 2 * k
  | 0 => rfl
  | k + 1 => by simp [growL, growL_len w k, stepPair]; omega

def stepsR (w : Int) (F : Fz) (M : Hp) (u : Value) (F' : Fz) (M' : Hp) : Prop :=
  F' = F ∧ ∃ g cap, F g = none ∧ M g = none ∧ u = .slice (some ⟨g, 0, none⟩) (growSteps w).length cap ∧ M' = M.upd g ⟨(growSteps w).flatMap V.cs, 28, cap * 6⟩
def stI (w : Int) (F0 : Fz) (M0 : Hp) (r5 : Nat) (m : Nat) (σ : Env) (F : Fz) (M : Hp) : Prop :=
  F = F0 ∧ Keep M0 M ∧ M0 r5 = none ∧ M r5 = some ⟨growNs.map intV, 3, 7⟩ ∧ Ax.look σ 0 = some (.int .i64 w) ∧ Ax.look σ 5 = some (.slice (some ⟨r5, 0, none⟩) 7 7) ∧ Ax.look σ 6 = some (.int .i64 7) ∧
  ∃ i : Nat, i + m = 7 ∧ Ax.look σ 7 = some (.int .i64 i) ∧ i ≤ growK w ∧ ∃ sl, Ax.look σ 2 = some sl ∧ OwnV 28 F M sl (growL w i) ∧ (∀ g c, sl = .slice (some ⟨g, 0, none⟩) (growL w i).length c → M0 g = none ∧ ¬ r5 = g)
theorem k74 (w : Int) (hw : isW w = true) : CallsA Try.prog 74 [.int .i64 w] F M (stepsR w F M) := by
  refine callsA_of hm Try.func74 e74 (Nat.le_of_ble_eq_true rfl) ?_
  have lw := isW_le hw
  simp only [c74, go_sem, reduceCtorEq, reduceIte, Nat.reduceEqDiff, Nat.reduceAdd, Nat.reduceLeDiff, Nat.reduceMul, Int.reduceLT, Int.reduceLE, Int.reduceAdd, Int.reduceSub, Int.reduceMul, Int.reduceNeg, Int.reduceToNat, Int.reduceEq]
  intro r5 hF5 hM5
  simp only [go_sem, reduceCtorEq, reduceIte, Nat.reduceEqDiff, Nat.reduceAdd, Nat.reduceLeDiff, Nat.reduceMul, Int.reduceLT, Int.reduceLE, Int.reduceAdd, Int.reduceSub, Int.reduceMul, Int.reduceNeg, Int.reduceToNat, Int.reduceEq]
  refine loop_of (stI w F M r5) 7 ?_ ?_
  · exact ⟨rfl, (Keep.refl M).new hM5, hM5, Hp.upd_same _ _ _, by simp only [go_sem, reduceCtorEq, reduceIte, Nat.reduceEqDiff, Nat.reduceAdd, Nat.reduceLeDiff, Nat.reduceMul, Int.reduceLT, Int.reduceLE, Int.reduceAdd, Int.reduceSub, Int.reduceMul, Int.reduceNeg, Int.reduceToNat, Int.reduceEq], by simp only [go_sem, reduceCtorEq, reduceIte, Nat.reduceEqDiff, Nat.reduceAdd, Nat.reduceLeDiff, Nat.reduceMul, Int.reduceLT, Int.reduceLE, Int.reduceAdd, Int.reduceSub, Int.reduceMul, Int.reduceNeg, Int.reduceToNat, Int.reduceEq], by simp only [go_sem, reduceCtorEq, reduceIte, Nat.reduceEqDiff, Nat.reduceAdd, Nat.reduceLeDiff, Nat.reduceMul, Int.reduceLT, Int.reduceLE, Int.reduceAdd, Int.reduceSub, Int.reduceMul, Int.reduceNeg, Int.reduceToNat, Int.reduceEq], 0, by omega, by simp only [go_sem, reduceCtorEq, reduceIte, Nat.reduceEqDiff, Nat.reduceAdd, Nat.reduceLeDiff, Nat.reduceMul, Int.reduceLT, Int.reduceLE, Int.reduceAdd, Int.reduceSub, Int.reduceMul, Int.reduceNeg, Int.reduceToNat, Int.reduceEq] <;> rfl, by omega, _, by simp only [go_sem, reduceCtorEq, reduceIte, Nat.reduceEqDiff, Nat.reduceAdd, Nat.reduceLeDiff, Nat.reduceMul, Int.reduceLT, Int.reduceLE, Int.reduceAdd, Int.reduceSub, Int.reduceMul, Int.reduceNeg, Int.reduceToNat, Int.reduceEq], .inl ⟨rfl, rfl⟩, (fun g c h => by cases h)⟩
  rintro m σ F' M' ⟨rfl, kp, n5, f5, h0, h5, h6, i, hi, h7, hk, sl, h2, own, hg⟩
  have b5 := blk_M (F := F') f5
  have hi7 : i < 7 := by have := growK_le w; omega
  have hi7' : (i : Int) < 7 := by omega
  have hi0 : (0 : Int) ≤ i := by omega
  obtain ⟨n1, n2, n3⟩ := growNs_lt hi7
  have n4 : (growNs.map intV)[i]? = some (.int .i64 (growNs.getD i 0)) := by rw [List.getElem?_map, n3]; rfl
  obtain ⟨k1, k2⟩ := growK_at hw hi7 hk
  generalize hn : growNs.getD i 0 = n at *
  have ei : IntKind.i64.wrap ((i : Int) + 1) = i + 1 := w64 (by omega) (by omega)
  by_cases hnw : w ≤ n
  · have hk' := k1 hnw
    simp only [go_sem, reduceCtorEq, reduceIte, Nat.reduceEqDiff, Nat.reduceAdd, Nat.reduceLeDiff, Nat.reduceMul, Int.reduceLT, Int.reduceLE, Int.reduceAdd, Int.reduceSub, Int.reduceMul, Int.reduceNeg, Int.reduceToNat, Int.reduceEq, h0, h5, h6, h7, h2, hi7', hi0, b5, Int.toNat_natCast, Nat.mul_one, n4, hnw]
    refine callK_same (k45 F' _ w lw.1 lw.2) ?_
    simp only [go_sem, reduceCtorEq, reduceIte, Nat.reduceEqDiff, Nat.reduceAdd, Nat.reduceLeDiff, Nat.reduceMul, Int.reduceLT, Int.reduceLE, Int.reduceAdd, Int.reduceSub, Int.reduceMul, Int.reduceNeg, Int.reduceToNat, Int.reduceEq, h0, h5, h6, h7, h2]
    intro r hF hM
    simp only [go_sem, reduceCtorEq, reduceIte, Nat.reduceEqDiff, Nat.reduceAdd, Nat.reduceLeDiff, Nat.reduceMul, Int.reduceLT, Int.reduceLE, Int.reduceAdd, Int.reduceSub, Int.reduceMul, Int.reduceNeg, Int.reduceToNat, Int.reduceEq, h0, h5, h6, h7, h2]
    have hl := growL_len w i
    have := growK_le w
    refine apV_of (own.new hM) (ys := [V.whole w]) ⟨rfl, .inr ⟨⟨r, 0, none⟩, 1, rfl, .inr ⟨r, 0, _, rfl, blk_upd_same, by simp [V.cs]⟩⟩⟩ (by simp) (by simp; omega) ?_
    rintro g cap M2 hgo rfl own2
    have gF : F' g = none := by
      rcases own2 with ⟨h, _⟩ | ⟨g', cap', h, hF', _⟩
      · cases h
      · cases h; exact hF'
    have gM : M g = none := by
      rcases hgo with h | ⟨c, h⟩
      · exact kp.free (fresh_of h).2.2
      · exact (hg g c h).1
    simp only [go_sem, reduceCtorEq, reduceIte, Nat.reduceEqDiff, Nat.reduceAdd, Nat.reduceLeDiff, Nat.reduceMul, Int.reduceLT, Int.reduceLE, Int.reduceAdd, Int.reduceSub, Int.reduceMul, Int.reduceNeg, Int.reduceToNat, Int.reduceEq, h0, h5, h6, h7, h2]
    subst hk'
    exact endK_keep (M := M.upd g ⟨(growSteps w).flatMap V.cs, 28, cap * 6⟩) ((kp.new (kp.free hM)).both) ⟨rfl, g, cap, gF, gM, by simp [growSteps], rfl⟩
  · have hk' := k2 (by omega)
    have hn0 : ¬ n < 0 := by omega
    have s1 := shl1 (j := n) (by omega) (by omega)
    have s2 := shlm (j := n) (by omega) (by omega)
    have hp := pow_le62 (w := n) (by omega)
    have s3 : IntKind.i64.wrap ((2 : Int) ^ n.toNat - 1) = 2 ^ n.toNat - 1 := w64 (by omega) (by omega)
    simp only [go_sem, reduceCtorEq, reduceIte, Nat.reduceEqDiff, Nat.reduceAdd, Nat.reduceLeDiff, Nat.reduceMul, Int.reduceLT, Int.reduceLE, Int.reduceAdd, Int.reduceSub, Int.reduceMul, Int.reduceNeg, Int.reduceToNat, Int.reduceEq, h0, h5, h6, h7, h2, hi7', hi0, b5, Int.toNat_natCast, Nat.mul_one, n4, hnw, hn0, s1, s2, s3, not_false_eq_true]
    refine callK_same (k81 F' _ w _ _ lw.1 lw.2) ?_
    simp only [go_sem, reduceCtorEq, reduceIte, Nat.reduceEqDiff, Nat.reduceAdd, Nat.reduceLeDiff, Nat.reduceMul, Int.reduceLT, Int.reduceLE, Int.reduceAdd, Int.reduceSub, Int.reduceMul, Int.reduceNeg, Int.reduceToNat, Int.reduceEq, h0, h5, h6, h7, h2]
    refine callK_same (k82 F' _ _ w lw.1 lw.2) ?_
    simp only [go_sem, reduceCtorEq, reduceIte, Nat.reduceEqDiff, Nat.reduceAdd, Nat.reduceLeDiff, Nat.reduceMul, Int.reduceLT, Int.reduceLE, Int.reduceAdd, Int.reduceSub, Int.reduceMul, Int.reduceNeg, Int.reduceToNat, Int.reduceEq, h0, h5, h6, h7, h2]
    refine callK_same (k81 F' _ w _ _ lw.1 lw.2) ?_
    simp only [go_sem, reduceCtorEq, reduceIte, Nat.reduceEqDiff, Nat.reduceAdd, Nat.reduceLeDiff, Nat.reduceMul, Int.reduceLT, Int.reduceLE, Int.reduceAdd, Int.reduceSub, Int.reduceMul, Int.reduceNeg, Int.reduceToNat, Int.reduceEq, h0, h5, h6, h7, h2]
    intro r hF hM
    simp only [go_sem, reduceCtorEq, reduceIte, Nat.reduceEqDiff, Nat.reduceAdd, Nat.reduceLeDiff, Nat.reduceMul, Int.reduceLT, Int.reduceLE, Int.reduceAdd, Int.reduceSub, Int.reduceMul, Int.reduceNeg, Int.reduceToNat, Int.reduceEq, h0, h5, h6, h7, h2]
    have hl := growL_len w i
    have := growK_le w
    refine apV_of (own.new hM) (ys := stepPair w n) ⟨rfl, .inr ⟨⟨r, 0, none⟩, 2, rfl, .inr ⟨r, 0, _, rfl, blk_upd_same, by simp [V.cs, stepPair]⟩⟩⟩ (by simp [stepPair]) (by simp [stepPair]; omega) ?_
    rintro g cap M2 hgo rfl own2
    have gM : M g = none ∧ ¬ r5 = g := by
      rcases hgo with h | ⟨c, h⟩
      · exact ⟨kp.free (fresh_of h).2.2, (ne_of_none (fresh_of h).2.2 f5).1⟩
      · exact hg g c h
    have eL : growL w i ++ stepPair w n = growL w (i + 1) := by rw [growL, hn]
    rw [eL] at own2 ⊢
    simp only [go_sem, reduceCtorEq, reduceIte, Nat.reduceEqDiff, Nat.reduceAdd, Nat.reduceLeDiff, Nat.reduceMul, Int.reduceLT, Int.reduceLE, Int.reduceAdd, Int.reduceSub, Int.reduceMul, Int.reduceNeg, Int.reduceToNat, Int.reduceEq, h0, h5, h6, h7, h2, ei]
    refine ⟨m - 1, by omega, rfl, (kp.new (kp.free hM)).new gM.1, n5, ?_, by simp only [go_sem, reduceCtorEq, reduceIte, Nat.reduceEqDiff, Nat.reduceAdd, Nat.reduceLeDiff, Nat.reduceMul, Int.reduceLT, Int.reduceLE, Int.reduceAdd, Int.reduceSub, Int.reduceMul, Int.reduceNeg, Int.reduceToNat, Int.reduceEq, h0], by simp only [go_sem, reduceCtorEq, reduceIte, Nat.reduceEqDiff, Nat.reduceAdd, Nat.reduceLeDiff, Nat.reduceMul, Int.reduceLT, Int.reduceLE, Int.reduceAdd, Int.reduceSub, Int.reduceMul, Int.reduceNeg, Int.reduceToNat, Int.reduceEq, h5], by simp only [go_sem, reduceCtorEq, reduceIte, Nat.reduceEqDiff, Nat.reduceAdd, Nat.reduceLeDiff, Nat.reduceMul, Int.reduceLT, Int.reduceLE, Int.reduceAdd, Int.reduceSub, Int.reduceMul, Int.reduceNeg, Int.reduceToNat, Int.reduceEq, h6], i + 1, by omega, by simp only [go_sem, reduceCtorEq, reduceIte, Nat.reduceEqDiff, Nat.reduceAdd, Nat.reduceLeDiff, Nat.reduceMul, Int.reduceLT, Int.reduceLE, Int.reduceAdd, Int.reduceSub, Int.reduceMul, Int.reduceNeg, Int.reduceToNat, Int.reduceEq]; rfl, hk', _, by simp only [go_sem, reduceCtorEq, reduceIte, Nat.reduceEqDiff, Nat.reduceAdd, Nat.reduceLeDiff, Nat.reduceMul, Int.reduceLT, Int.reduceLE, Int.reduceAdd, Int.reduceSub, Int.reduceMul, Int.reduceNeg, Int.reduceToNat, Int.reduceEq], own2, ?_⟩
    · rw [Hp.upd_ne' gM.2, Hp.upd_ne' (ne_of_none hM f5).1]; exact f5
    · intro g' c' h; cases h; exact gM
end Go.Proofs.Try.K
