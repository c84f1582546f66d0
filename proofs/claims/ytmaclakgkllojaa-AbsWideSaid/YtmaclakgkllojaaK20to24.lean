/- Parts K20to24: the machine's runs of small codes, contracts of functions, plain facts. -/
import Derived.Test.YtmaclakgkllojaaProg
import Derived.Test.YtmaclakgkllojaaK17to19
namespace Go.Proofs.Try.S
open Go Go.Ax Go.Ax.N
set_option maxRecDepth 100000

/-- cellar/val.Span -/
def c103 : SF := ⟨19, [.c true 6 6], (.seq (.ops [k 6 (.al 34 [.int .i64 0, .bool false, .int .i64 0, .int .i64 0, .int .i64 0, .int .i64 0])])
 (.seq (.seq (.ops [o 7 (.mv (t 1)),
 o 8 (.mv (t 2)),
 o 9 (.bin .eql (t 7) (t 8))])
 (.cond (t 9)
 (.seq (.ops [o 10 (.mv (t 0)),
 o 11 (.mv (t 1)),
 k 12 (.ca (.func 100) [(t 10), (t 11)]),
 kn (.st [] 6 (t 6) (t 12))])
 .ret)
 .skip))
 (.seq (.ops [o 13 (.mv (t 0)),
 o 14 (.mv (t 1)),
 o 15 (.mv (t 2)),
 o 16 (.mv (t 0)),
 k 17 (.ca (.func 137) [(t 16)]),
 o 18 (.bd [.int .i64 0, .bool false, .int .i64 0, .int .i64 0, .int .i64 0, .int .i64 0] [(0, 1, (t 13)), (2, 1, (t 14)), (3, 1, (t 15)), (4, 1, (t 17))]),
 kn (.st [] 6 (t 6) (t 18))])
 .ret)))⟩
theorem e103 : slimF Try.prog Try.f103 [] = some c103 := by kernel_rfl
/-- cellar/grow.Out -/
def c134 : SF := ⟨37, [.c true 6 4], (.seq (.ops [k 2 (.bx 34 (t 0)),
 k 3 (.bx 34 (t 1)),
 k 4 (.al 34 [.int .i64 0, .bool false, .int .i64 0, .int .i64 0, .int .i64 0, .int .i64 0])])
 (.seq (.block 0 (.seq (.ops [o 8 (.ld true 6 (t 3)),
 o 9 (.ld true 6 (t 2)),
 k 10 (.ca (.func 130) [(t 8), (t 9)]),
 o 7 (.mv (t 10))])
 (.cond (t 7)
 (.seq (.ops [o 11 (.ld true 6 (t 2)),
 kn (.st [] 6 (t 4) (t 11))])
 .ret)
 (.seq (.ops [o 13 (.ld true 6 (t 2)),
 k 14 (.ca (.func 109) [(t 13)]),
 o 12 (.mv (t 14))])
 (.cond (t 12)
 (.seq (.ops [o 15 (.ld true 6 (t 3)),
 kn (.st [] 6 (t 4) (t 15))])
 .ret)
 .skip)))))
 (.seq (.seq (.ops [o 16 (.fa 0 (t 2)),
 o 17 (.ld false 1 (t 16)),
 k 18 (.ca (.func 154) [(t 17)]),
 o 19 (.ln (t 18)),
 o 20 (.mv (i 0))])
 (.block 1 (.loop (.seq (.ops [o 21 (.bin .lss (t 20) (t 19))])
 (.seq (.cond (t 21)
 .skip
 (.exit 1))
 (.seq (.block 2 (.seq (.ops [o 22 (.ia 6 (t 18) (t 20)),
 o 23 (.ld true 6 (t 22)),
 k 6 (.al 34 [.int .i64 0, .bool false, .int .i64 0, .int .i64 0, .int .i64 0, .int .i64 0]),
 kn (.st [] 6 (t 6) (t 23))])
 (.seq (.ops [o 24 (.ld true 6 (t 2)),
 o 25 (.ld true 6 (t 6)),
 k 26 (.ca (.func 130) [(t 24), (t 25)]),
 o 27 (.mv (t 26)),
 og 28 27 true (.ld true 6 (t 3)),
 og 29 27 true (.ld true 6 (t 6)),
 ⟨some 30, some (27, true), .ca (.func 130) [(t 28), (t 29)]⟩,
 o 31 (.pick (t 27) (t 30) (b false))])
 (.cond (t 31)
 (.seq (.ops [o 32 (.ld true 6 (t 6)),
 kn (.st [] 6 (t 4) (t 32))])
 .ret)
 .skip))))
 (.ops [o 33 (.bin .add (t 20) (i 1)),
 o 20 (.mv (t 33))])))))))
 (.seq (.ops [o 34 (.fa 0 (t 2)),
 o 35 (.ld false 1 (t 34)),
 k 36 (.ca (.func 102) [(t 35)]),
 kn (.st [] 6 (t 4) (t 36))])
 .ret))))⟩
theorem e134 : slimF Try.prog Try.f134 [] = some c134 := by kernel_rfl
/-- cellar/grow.steps -/
def c154 : SF := ⟨37, [.t 2], (.seq (.ops [o 2 (.mv (.const (.slice none 0 0)))])
 (.seq (.seq (.ops [k 5 (.bs 3 7 [.int .i64 0, .int .i64 0, .int .i64 0, .int .i64 0, .int .i64 0, .int .i64 0, .int .i64 0] [(0, 1, (i 4)), (1, 1, (i 7)), (2, 1, (i 8)), (3, 1, (i 15)), (4, 1, (i 16)), (5, 1, (i 31)), (6, 1, (i 32))]),
 o 6 (.ln (t 5)),
 o 7 (.mv (i 0))])
 (.block 0 (.loop (.seq (.ops [o 8 (.bin .lss (t 7) (t 6))])
 (.seq (.cond (t 8)
 .skip
 (.exit 0))
 (.seq (.block 1 (.seq (.ops [o 9 (.ia 1 (t 5) (t 7)),
 o 10 (.ld false 1 (t 9)),
 o 4 (.mv (t 10))])
 (.seq (.seq (.ops [o 11 (.mv (t 4)),
 o 12 (.mv (t 0)),
 o 13 (.bin .geq (t 11) (t 12))])
 (.cond (t 13)
 (.exit 0)
 .skip))
 (.opq [o 14 (.mv (t 2)),
 o 15 (.mv (t 0)),
 o 16 (.mv (t 4)),
 o 17 (.bin .shl (i 1) (t 16)),
 o 18 (.bin .sub (t 17) (i 1)),
 o 20 (.mv (t 0)),
 o 21 (.mv (t 4)),
 o 22 (.bin .shl (i (-1)) (t 21)),
 o 23 (.mv (t 0)),
 o 25 (.mv (t 4)),
 o 26 (.bin .shl (i 1) (t 25)),
 o 27 (.bin .sub (t 26) (i 1)),
 k 19 (.ca (.func 103) [(t 15), (i 0), (t 18)]),
 k 24 (.ca (.func 145) [(t 22), (t 23)]),
 k 28 (.ca (.func 103) [(t 20), (t 24), (t 27)]),
 k 29 (.bs 34 2 [.int .i64 0, .bool false, .int .i64 0, .int .i64 0, .int .i64 0, .int .i64 0, .int .i64 0, .bool false, .int .i64 0, .int .i64 0, .int .i64 0, .int .i64 0] [(0, 6, (t 19)), (6, 6, (t 28))]),
 k 30 (.ap 34 6 48 (t 14) (t 29)),
 o 2 (.mv (t 30))]))))
 (.ops [o 31 (.bin .add (t 7) (i 1)),
 o 7 (.mv (t 31))])))))))
 (.seq (.ops [o 32 (.mv (t 2)),
 o 33 (.mv (t 0)),
 k 34 (.ca (.func 102) [(t 33)]),
 k 35 (.bs 34 1 [.int .i64 0, .bool false, .int .i64 0, .int .i64 0, .int .i64 0, .int .i64 0] [(0, 6, (t 34))]),
 k 36 (.ap 34 6 48 (t 32) (t 35)),
 o 2 (.mv (t 36))])
 .ret)))⟩
theorem e154 : slimF Try.prog Try.f154 [[(0, []), (1, []), (2, []), (3, []), (4, []), (6, []), (7, []), (8, []), (9, []), (11, []), (12, []), (13, []), (5, []), (10, []), (14, []), (15, []), (16, []), (17, [])]] = some c154 := by kernel_rfl
end Go.Proofs.Try.S
/- Contracts: ranges, the rows that a set grows to. -/
namespace Go.Proofs.Try.K
open Go Go.Ax Go.Proofs.Try.S
set_option maxRecDepth 100000
set_option linter.unusedSimpArgs false
set_option linter.unusedVariables false
variable (F : Fz) (M : Hp)

theorem k103 (w l h : Int) (h0 : 0 ≤ w) (h1 : w ≤ 62) : CallsA Try.prog 103 [.int .i64 w, .int .i64 l, .int .i64 h] F M (Same F M (V.span w l h).val) := by
  refine callsA_of hm Try.func103 e103 (Nat.le_of_ble_eq_true rfl) ?_
  simp only [c103, go_sem, reduceCtorEq, reduceIte, Nat.reduceEqDiff, Nat.reduceAdd, Nat.reduceLeDiff, Nat.reduceMul, Int.reduceLT, Int.reduceLE, Int.reduceAdd, Int.reduceSub, Int.reduceMul, Int.reduceNeg, Int.reduceToNat, Int.reduceEq]
  intro r hF hM
  by_cases e : l = h
  · subst e
    simp only [go_sem, reduceCtorEq, reduceIte, Nat.reduceEqDiff, Nat.reduceAdd, Nat.reduceLeDiff, Nat.reduceMul, Int.reduceLT, Int.reduceLE, Int.reduceAdd, Int.reduceSub, Int.reduceMul, Int.reduceNeg, Int.reduceToNat, Int.reduceEq]
    refine callK_same (k100 F _ w l) ?_
    simp only [go_sem, reduceCtorEq, reduceIte, Nat.reduceEqDiff, Nat.reduceAdd, Nat.reduceLeDiff, Nat.reduceMul, Int.reduceLT, Int.reduceLE, Int.reduceAdd, Int.reduceSub, Int.reduceMul, Int.reduceNeg, Int.reduceToNat, Int.reduceEq]
    exact endK_drop hM (endK_same ⟨by rw [V.span, if_pos rfl], rfl, rfl⟩)
  · simp only [go_sem, reduceCtorEq, reduceIte, Nat.reduceEqDiff, Nat.reduceAdd, Nat.reduceLeDiff, Nat.reduceMul, Int.reduceLT, Int.reduceLE, Int.reduceAdd, Int.reduceSub, Int.reduceMul, Int.reduceNeg, Int.reduceToNat, Int.reduceEq, e]
    refine callK_same (k137 F _ w h0 h1) ?_
    simp only [go_sem, reduceCtorEq, reduceIte, Nat.reduceEqDiff, Nat.reduceAdd, Nat.reduceLeDiff, Nat.reduceMul, Int.reduceLT, Int.reduceLE, Int.reduceAdd, Int.reduceSub, Int.reduceMul, Int.reduceNeg, Int.reduceToNat, Int.reduceEq]
    exact endK_drop hM (endK_same ⟨by rw [V.span, if_neg e], rfl, rfl⟩)

theorem shlm {j : Int} (h1 : 0 ≤ j) (h2 : j ≤ 62) : shlv .i64 (-1) j = -(2 ^ j.toNat) := by
  have hp := pow_le62 (w := j) h2
  unfold shlv
  have e : min j.toNat IntKind.i64.bits = j.toNat := by simp [IntKind.bits]; omega
  rw [e]
  have e2 : (-1 : Int) * ((2 ^ j.toNat : Int)) = -(2 ^ j.toNat) := by omega
  rw [e2]
  exact w64 (by omega) (by omega)
theorem growNs_lt {i : Nat} (h : i < 7) : 4 ≤ growNs.getD i 0 ∧ growNs.getD i 0 ≤ 32 ∧ growNs[i]? = some (growNs.getD i 0) := by
  have : ∀ i, i < 7 → 4 ≤ growNs.getD i 0 ∧ growNs.getD i 0 ≤ 32 ∧ growNs[i]? = some (growNs.getD i 0) := by decide
  exact this i h
theorem growK_at {w : Int} (h : isW w = true) {i : Nat} (hi : i < 7) (hk : i ≤ growK w) : (w ≤ growNs.getD i 0 → i = growK w) ∧ (growNs.getD i 0 < w → i + 1 ≤ growK w) := by
  have a : ∀ i, i < 7 → i ≤ growK 8 → ((8 : Int) ≤ growNs.getD i 0 → i = growK 8) ∧ (growNs.getD i 0 < 8 → i + 1 ≤ growK 8) := by decide
  have b : ∀ i, i < 7 → i ≤ growK 16 → ((16 : Int) ≤ growNs.getD i 0 → i = growK 16) ∧ (growNs.getD i 0 < 16 → i + 1 ≤ growK 16) := by decide
  have c : ∀ i, i < 7 → i ≤ growK 32 → ((32 : Int) ≤ growNs.getD i 0 → i = growK 32) ∧ (growNs.getD i 0 < 32 → i + 1 ≤ growK 32) := by decide
  rcases isW_cases h with rfl | rfl | rfl
  · exact a i hi hk
  · exact b i hi hk
  · exact c i hi hk
theorem growK_le (w : Int) : growK w ≤ 6 := by unfold growK; split; omega; split <;> omega
theorem growL_len (w : Int) : ∀ k, (growL w k).length = 2 * k
  | 0 => rfl
  | k + 1 => by simp [growL, growL_len w k, stepPair]; omega

def stepsR (w : Int) (F : Fz) (M : Hp) (u : Value) (F' : Fz) (M' : Hp) : Prop :=
  F' = F ∧ ∃ g cap, F g = none ∧ M g = none ∧ u = .slice (some ⟨g, 0, none⟩) (growSteps w).length cap ∧ M' = M.upd g ⟨(growSteps w).flatMap V.cs, 34, cap * 6⟩
def stI (w : Int) (F0 : Fz) (M0 : Hp) (r5 : Nat) (m : Nat) (σ : Env) (F : Fz) (M : Hp) : Prop :=
  F = F0 ∧ Keep M0 M ∧ M0 r5 = none ∧ M r5 = some ⟨growNs.map intV, 3, 7⟩ ∧ Ax.look σ 0 = some (.int .i64 w) ∧ Ax.look σ 5 = some (.slice (some ⟨r5, 0, none⟩) 7 7) ∧ Ax.look σ 6 = some (.int .i64 7) ∧
  ∃ i : Nat, i + m = 7 ∧ Ax.look σ 7 = some (.int .i64 i) ∧ i ≤ growK w ∧ ∃ sl, Ax.look σ 2 = some sl ∧ OwnV 34 F M sl (growL w i) ∧ (∀ g c, sl = .slice (some ⟨g, 0, none⟩) (growL w i).length c → M0 g = none ∧ ¬ r5 = g)
theorem k154 (w : Int) (hw : isW w = true) : CallsA Try.prog 154 [.int .i64 w] F M (stepsR w F M) := by
  refine callsA_of hm Try.func154 e154 (Nat.le_of_ble_eq_true rfl) ?_
  have lw := isW_le hw
  simp only [c154, go_sem, reduceCtorEq, reduceIte, Nat.reduceEqDiff, Nat.reduceAdd, Nat.reduceLeDiff, Nat.reduceMul, Int.reduceLT, Int.reduceLE, Int.reduceAdd, Int.reduceSub, Int.reduceMul, Int.reduceNeg, Int.reduceToNat, Int.reduceEq]
  intro r5 hF5 hM5
  simp only [go_sem, reduceCtorEq, reduceIte, Nat.reduceEqDiff, Nat.reduceAdd, Nat.reduceLeDiff, Nat.reduceMul, Int.reduceLT, Int.reduceLE, Int.reduceAdd, Int.reduceSub, Int.reduceMul, Int.reduceNeg, Int.reduceToNat, Int.reduceEq]
  refine loop_of (stI w F M r5) 7 ?_ ?_
  · exact ⟨rfl, (Keep.refl M).new hM5, hM5, Hp.upd_same _ _ _, by simp only [go_sem, reduceCtorEq, reduceIte, Nat.reduceEqDiff], by simp only [go_sem, reduceCtorEq, reduceIte, Nat.reduceEqDiff], by simp only [go_sem, reduceCtorEq, reduceIte, Nat.reduceEqDiff], 0, by omega, by simp only [go_sem, reduceCtorEq, reduceIte, Nat.reduceEqDiff] <;> rfl, by omega, _, by simp only [go_sem, reduceCtorEq, reduceIte, Nat.reduceEqDiff], .inl ⟨rfl, rfl⟩, (fun g c h => by cases h)⟩
  rintro m σ F' M' ⟨rfl, kp, n5, f5, h0, h5, h6, i, hi, h7, hk, sl, h2, own, hg⟩
  have b5 := blk_M (F := F') f5
  have hi7 : i < 7 := by have := growK_le w; omega
  have hi7' : (i : Int) < 7 := by omega
  have hi0 : (0 : Int) ≤ i := by omega
  obtain ⟨n1, n2, n3⟩ := growNs_lt hi7
  have n4 : (growNs.map intV)[i]? = some (.int .i64 (growNs.getD i 0)) := by rw [List.getElem?_map, n3]; rfl
  obtain ⟨k1, k2⟩ := growK_at hw hi7 hk
  generalize hn : growNs.getD i 0 = n at *
  have ei : IntKind.i64.wrap ((i : Int) + 1) = i + 1 := w64 (by omega) (by omega)
  by_cases hnw : w ≤ n
  · have hk' := k1 hnw
    simp only [go_sem, reduceCtorEq, reduceIte, Nat.reduceEqDiff, Nat.reduceAdd, Nat.reduceLeDiff, Nat.reduceMul, Int.reduceLT, Int.reduceLE, Int.reduceAdd, Int.reduceSub, Int.reduceMul, Int.reduceNeg, Int.reduceToNat, Int.reduceEq, h0, h5, h6, h7, h2, hi7', hi0, b5, Int.toNat_natCast, Nat.mul_one, n4, hnw]
    refine callK_same (k102 F' _ w lw.1 lw.2) ?_
    simp only [go_sem, reduceCtorEq, reduceIte, Nat.reduceEqDiff, Nat.reduceAdd, Nat.reduceLeDiff, Nat.reduceMul, Int.reduceLT, Int.reduceLE, Int.reduceAdd, Int.reduceSub, Int.reduceMul, Int.reduceNeg, Int.reduceToNat, Int.reduceEq, h0, h5, h6, h7, h2]
    intro r hF hM
    simp only [go_sem, reduceCtorEq, reduceIte, Nat.reduceEqDiff, Nat.reduceAdd, Nat.reduceLeDiff, Nat.reduceMul, Int.reduceLT, Int.reduceLE, Int.reduceAdd, Int.reduceSub, Int.reduceMul, Int.reduceNeg, Int.reduceToNat, Int.reduceEq, h0, h5, h6, h7, h2]
    have hl := growL_len w i
    have := growK_le w
    refine apV_of (own.new hM) (ys := [V.whole w]) ⟨rfl, .inr ⟨⟨r, 0, none⟩, 1, rfl, .inr ⟨r, 0, _, rfl, blk_upd_same, by simp [V.cs]⟩⟩⟩ (by simp) (by simp; omega) ?_
    rintro g cap M2 hgo rfl own2
    have gF : F' g = none := by
      rcases own2 with ⟨h, _⟩ | ⟨g', cap', h, hF', _⟩
      · cases h
      · cases h; exact hF'
    have gM : M g = none := by
      rcases hgo with h | ⟨c, h⟩
      · exact kp.free (fresh_of h).2.2
      · exact (hg g c h).1
    simp only [go_sem, reduceCtorEq, reduceIte, Nat.reduceEqDiff, Nat.reduceAdd, Nat.reduceLeDiff, Nat.reduceMul, Int.reduceLT, Int.reduceLE, Int.reduceAdd, Int.reduceSub, Int.reduceMul, Int.reduceNeg, Int.reduceToNat, Int.reduceEq, h0, h5, h6, h7, h2]
    subst hk'
    exact endK_keep (M := M.upd g ⟨(growSteps w).flatMap V.cs, 34, cap * 6⟩) ((kp.new (kp.free hM)).both) ⟨rfl, g, cap, gF, gM, by simp [growSteps], rfl⟩
  · have hk' := k2 (by omega)
    have hn0 : ¬ n < 0 := by omega
    have s1 := shl1 (j := n) (by omega) (by omega)
    have s2 := shlm (j := n) (by omega) (by omega)
    have hp := pow_le62 (w := n) (by omega)
    have s3 : IntKind.i64.wrap ((2 : Int) ^ n.toNat - 1) = 2 ^ n.toNat - 1 := w64 (by omega) (by omega)
    simp only [go_sem, reduceCtorEq, reduceIte, Nat.reduceEqDiff, Nat.reduceAdd, Nat.reduceLeDiff, Nat.reduceMul, Int.reduceLT, Int.reduceLE, Int.reduceAdd, Int.reduceSub, Int.reduceMul, Int.reduceNeg, Int.reduceToNat, Int.reduceEq, h0, h5, h6, h7, h2, hi7', hi0, b5, Int.toNat_natCast, Nat.mul_one, n4, hnw, hn0, s1, s2, s3, not_false_eq_true]
    refine callK_same (k103 F' _ w _ _ lw.1 lw.2) ?_
    simp only [go_sem, reduceCtorEq, reduceIte, Nat.reduceEqDiff, Nat.reduceAdd, Nat.reduceLeDiff, Nat.reduceMul, Int.reduceLT, Int.reduceLE, Int.reduceAdd, Int.reduceSub, Int.reduceMul, Int.reduceNeg, Int.reduceToNat, Int.reduceEq, h0, h5, h6, h7, h2]
    refine callK_same (k145 F' _ _ w lw.1 lw.2) ?_
    simp only [go_sem, reduceCtorEq, reduceIte, Nat.reduceEqDiff, Nat.reduceAdd, Nat.reduceLeDiff, Nat.reduceMul, Int.reduceLT, Int.reduceLE, Int.reduceAdd, Int.reduceSub, Int.reduceMul, Int.reduceNeg, Int.reduceToNat, Int.reduceEq, h0, h5, h6, h7, h2]
    refine callK_same (k103 F' _ w _ _ lw.1 lw.2) ?_
    simp only [go_sem, reduceCtorEq, reduceIte, Nat.reduceEqDiff, Nat.reduceAdd, Nat.reduceLeDiff, Nat.reduceMul, Int.reduceLT, Int.reduceLE, Int.reduceAdd, Int.reduceSub, Int.reduceMul, Int.reduceNeg, Int.reduceToNat, Int.reduceEq, h0, h5, h6, h7, h2]
    intro r hF hM
    simp only [go_sem, reduceCtorEq, reduceIte, Nat.reduceEqDiff, Nat.reduceAdd, Nat.reduceLeDiff, Nat.reduceMul, Int.reduceLT, Int.reduceLE, Int.reduceAdd, Int.reduceSub, Int.reduceMul, Int.reduceNeg, Int.reduceToNat, Int.reduceEq, h0, h5, h6, h7, h2]
    have hl := growL_len w i
    have := growK_le w
    refine apV_of (own.new hM) (ys := stepPair w n) ⟨rfl, .inr ⟨⟨r, 0, none⟩, 2, rfl, .inr ⟨r, 0, _, rfl, blk_upd_same, by simp [V.cs, stepPair]⟩⟩⟩ (by simp [stepPair]) (by simp [stepPair]; omega) ?_
    rintro g cap M2 hgo rfl own2
    have gM : M g = none ∧ ¬ r5 = g := by
      rcases hgo with h | ⟨c, h⟩
      · exact ⟨kp.free (fresh_of h).2.2, (ne_of_none (fresh_of h).2.2 f5).1⟩
      · exact hg g c h
    have eL : growL w i ++ stepPair w n = growL w (i + 1) := by rw [growL, hn]
    rw [eL] at own2 ⊢
    simp only [go_sem, reduceCtorEq, reduceIte, Nat.reduceEqDiff, Nat.reduceAdd, Nat.reduceLeDiff, Nat.reduceMul, Int.reduceLT, Int.reduceLE, Int.reduceAdd, Int.reduceSub, Int.reduceMul, Int.reduceNeg, Int.reduceToNat, Int.reduceEq, h0, h5, h6, h7, h2, ei]
    refine ⟨m - 1, by omega, rfl, (kp.new (kp.free hM)).new gM.1, n5, ?_, by simp only [go_sem, reduceCtorEq, reduceIte, Nat.reduceEqDiff, h0], by simp only [go_sem, reduceCtorEq, reduceIte, Nat.reduceEqDiff, h5], by simp only [go_sem, reduceCtorEq, reduceIte, Nat.reduceEqDiff, h6], i + 1, by omega, by simp only [go_sem, reduceCtorEq, reduceIte, Nat.reduceEqDiff]; rfl, hk', _, by simp only [go_sem, reduceCtorEq, reduceIte, Nat.reduceEqDiff], own2, ?_⟩
    · rw [Hp.upd_ne' gM.2, Hp.upd_ne' (ne_of_none hM f5).1]; exact f5
    · intro g' c' h; cases h; exact gM
end Go.Proofs.Try.K

/- Contracts: growing. -/
namespace Go.Proofs.Try.K
open Go Go.Ax Go.Proofs.Try.S
set_option maxRecDepth 100000
set_option linter.unusedSimpArgs false
set_option linter.unusedVariables false
variable (F : Fz) (M : Hp)

def ouI (a b : V) (l : List V) (F0 : Fz) (M0 : Hp) (ra rb rz g cap : Nat) (m : Nat) (σ : Env) (F : Fz) (M : Hp) : Prop :=
  F = F0 ∧ Keep M0 M ∧ M0 rz = none ∧ M ra = some ⟨a.cs, 34, 6⟩ ∧ M rb = some ⟨b.cs, 34, 6⟩ ∧ M rz = some ⟨V.zero.cs, 34, 6⟩ ∧ blk F0 M g = some (l.flatMap V.cs) ∧ M g ≠ none ∧
  Ax.look σ 2 = some (.pointer (some ⟨ra, 0, none⟩)) ∧ Ax.look σ 3 = some (.pointer (some ⟨rb, 0, none⟩)) ∧ Ax.look σ 4 = some (.pointer (some ⟨rz, 0, none⟩)) ∧
  Ax.look σ 18 = some (.slice (some ⟨g, 0, none⟩) l.length cap) ∧ Ax.look σ 19 = some (.int .i64 l.length) ∧
  ∃ i : Nat, i + m = l.length ∧ Ax.look σ 20 = some (.int .i64 i) ∧ (l.find? (fun x => a.under x && b.under x) = (l.drop i).find? (fun x => a.under x && b.under x))
theorem steps_few {w : Int} (h : isW w = true) : (growSteps w).length ≤ 13 := by
  rcases isW_cases h with rfl | rfl | rfl <;> decide +kernel
theorem k134 (a b : V) (ha : a.ok = true) (hb : b.ok = true) : CallsA Try.prog 134 [a.val, b.val] F M (Same F M (a.out b).val) := by
  refine callsA_of hm Try.func134 e134 (Nat.le_of_ble_eq_true rfl) ?_
  have la := isW_le (ok_in ha).w
  have isw := (ok_in ha).w
  simp only [c134, go_sem, reduceCtorEq, reduceIte, Nat.reduceEqDiff, Nat.reduceAdd, Nat.reduceLeDiff, Nat.reduceMul, Int.reduceLT, Int.reduceLE, Int.reduceAdd, Int.reduceSub, Int.reduceMul, Int.reduceNeg, Int.reduceToNat, Int.reduceEq]
  intro ra hFa hMa
  simp only [go_sem, reduceCtorEq, reduceIte, Nat.reduceEqDiff, Nat.reduceAdd, Nat.reduceLeDiff, Nat.reduceMul, Int.reduceLT, Int.reduceLE, Int.reduceAdd, Int.reduceSub, Int.reduceMul, Int.reduceNeg, Int.reduceToNat, Int.reduceEq]
  intro rb hFb hMb
  have gb := fresh_of hMb
  simp only [go_sem, reduceCtorEq, reduceIte, Nat.reduceEqDiff, Nat.reduceAdd, Nat.reduceLeDiff, Nat.reduceMul, Int.reduceLT, Int.reduceLE, Int.reduceAdd, Int.reduceSub, Int.reduceMul, Int.reduceNeg, Int.reduceToNat, Int.reduceEq, gb]
  intro rz hFz hMz
  have gz := fresh_of hMz
  have gz2 := fresh_of gz.2.2
  have kp : Keep M (((M.upd ra ⟨a.cs, 34, 6⟩).upd rb ⟨b.cs, 34, 6⟩).upd rz ⟨V.zero.cs, 34, 6⟩) := (((Keep.refl M).new hMa).new gb.2.2).new gz2.2.2
  have kz : ∀ e, Keep M (((M.upd ra ⟨a.cs, 34, 6⟩).upd rb ⟨b.cs, 34, 6⟩).upd rz e) := fun e => (((Keep.refl M).new hMa).new gb.2.2).new gz2.2.2
  simp only [go_sem, reduceCtorEq, reduceIte, Nat.reduceEqDiff, Nat.reduceAdd, Nat.reduceLeDiff, Nat.reduceMul, Int.reduceLT, Int.reduceLE, Int.reduceAdd, Int.reduceSub, Int.reduceMul, Int.reduceNeg, Int.reduceToNat, Int.reduceEq, gb, gz, gz2]
  refine callK_same (k130 F _ b a hb ha) ?_
  cases h1 : b.under a
  rotate_left
  · simp only [go_sem, reduceCtorEq, reduceIte, Nat.reduceEqDiff, Nat.reduceAdd, Nat.reduceLeDiff, Nat.reduceMul, Int.reduceLT, Int.reduceLE, Int.reduceAdd, Int.reduceSub, Int.reduceMul, Int.reduceNeg, Int.reduceToNat, Int.reduceEq, gb, gz, gz2]
    exact endK_keep (kz _) ⟨by rw [V.out, if_pos h1], rfl, rfl⟩
  simp only [go_sem, reduceCtorEq, reduceIte, Nat.reduceEqDiff, Nat.reduceAdd, Nat.reduceLeDiff, Nat.reduceMul, Int.reduceLT, Int.reduceLE, Int.reduceAdd, Int.reduceSub, Int.reduceMul, Int.reduceNeg, Int.reduceToNat, Int.reduceEq, gb, gz, gz2]
  refine callK_same (k109 F _ a ha) ?_
  by_cases h2 : a.nextR 0 < 0
  · simp only [go_sem, reduceCtorEq, reduceIte, Nat.reduceEqDiff, Nat.reduceAdd, Nat.reduceLeDiff, Nat.reduceMul, Int.reduceLT, Int.reduceLE, Int.reduceAdd, Int.reduceSub, Int.reduceMul, Int.reduceNeg, Int.reduceToNat, Int.reduceEq, gb, gz, gz2, h2]
    exact endK_keep (kz _) ⟨by rw [V.out, if_neg (by simp [h1]), if_pos h2], rfl, rfl⟩
  simp only [go_sem, reduceCtorEq, reduceIte, Nat.reduceEqDiff, Nat.reduceAdd, Nat.reduceLeDiff, Nat.reduceMul, Int.reduceLT, Int.reduceLE, Int.reduceAdd, Int.reduceSub, Int.reduceMul, Int.reduceNeg, Int.reduceToNat, Int.reduceEq, gb, gz, gz2, h2]
  have eo : a.out b = ((growSteps a.w).find? fun x => a.under x && b.under x).getD (V.whole a.w) := by rw [V.out, if_neg (by simp [h1]), if_neg h2]
  refine callK_of (k154 F _ a.w isw) ?_
  rintro u G M' ⟨hG, g, cap, hFg, hMg, rfl, rfl⟩
  rw [hG]
  refine ⟨(fun h => by cases h), ?_⟩
  have g1 := fresh_of hMg
  have g2 := fresh_of g1.2.2
  have g3 := fresh_of g2.2.2
  have hlen := steps_few isw
  have hok := steps_ok isw
  rw [eo]
  clear eo
  generalize growSteps a.w = l at *
  simp only [go_sem, reduceCtorEq, reduceIte, Nat.reduceEqDiff, Nat.reduceAdd, Nat.reduceLeDiff, Nat.reduceMul, Int.reduceLT, Int.reduceLE, Int.reduceAdd, Int.reduceSub, Int.reduceMul, Int.reduceNeg, Int.reduceToNat, Int.reduceEq, gb, gz, gz2]
  refine loop_of (ouI a b l F M ra rb rz g cap) l.length ?_ ?_
  · refine ⟨rfl, kp.new (kp.free hMg), gz2.2.2, ?_, ?_, ?_, blk_upd_same, ?_, by simp only [go_sem, reduceCtorEq, reduceIte, Nat.reduceEqDiff], by simp only [go_sem, reduceCtorEq, reduceIte, Nat.reduceEqDiff], by simp only [go_sem, reduceCtorEq, reduceIte, Nat.reduceEqDiff], by simp only [go_sem, reduceCtorEq, reduceIte, Nat.reduceEqDiff], by simp only [go_sem, reduceCtorEq, reduceIte, Nat.reduceEqDiff], 0, by omega, by simp only [go_sem, reduceCtorEq, reduceIte, Nat.reduceEqDiff] <;> rfl, rfl⟩
    · rw [Hp.upd_ne' g3.2.1, Hp.upd_ne' gz2.2.1, Hp.upd_ne' gb.2.1]; exact Hp.upd_same _ _ _
    · rw [Hp.upd_ne' g2.2.1, Hp.upd_ne' gz.2.1]; exact Hp.upd_same _ _ _
    · rw [Hp.upd_ne' g1.2.1]; exact Hp.upd_same _ _ _
    · rw [Hp.upd_same]; simp
  clear kp kz gb gz gz2 g1 g2 g3 hMg hMz hMb
  rintro m σ F' M' ⟨rfl, kp, nz, fa, fb, fz, bg, ng, h2', h3, h4, h18, h19, i, hi, h20, hf⟩
  have ba := blk_M (F := F') fa
  have bb := blk_M (F := F') fb
  by_cases hil : (i : Int) < l.length
  · have hi0 : (0 : Int) ≤ i := by omega
    have hil' : i < l.length := by omega
    have ei : IntKind.i64.wrap ((i : Int) + 1) = i + 1 := w64 (by omega) (by omega)
    have d1 : i * 6 + 6 ≤ (l.flatMap V.cs).length := by rw [flat_len]; omega
    have d2 := flat_get l i hil'
    obtain ⟨ox, wx⟩ := hok l[i] (List.getElem_mem _)
    rw [List.drop_eq_getElem_cons hil', List.find?_cons] at hf
    simp only [go_sem, reduceCtorEq, reduceIte, Nat.reduceEqDiff, Nat.reduceAdd, Nat.reduceLeDiff, Nat.reduceMul, Int.reduceLT, Int.reduceLE, Int.reduceAdd, Int.reduceSub, Int.reduceMul, Int.reduceNeg, Int.reduceToNat, Int.reduceEq, h2', h3, h4, h18, h19, h20, hil, hi0, Int.toNat_natCast, bg, d1, d2]
    intro rx hFx hMx
    have gx := ne_of_none hMx fa
    have gx2 := ne_of_none hMx fb
    have gx3 := ne_of_none hMx fz
    have gxg : ¬ g = rx := by rintro rfl; exact ng hMx
    simp only [go_sem, reduceCtorEq, reduceIte, Nat.reduceEqDiff, Nat.reduceAdd, Nat.reduceLeDiff, Nat.reduceMul, Int.reduceLT, Int.reduceLE, Int.reduceAdd, Int.reduceSub, Int.reduceMul, Int.reduceNeg, Int.reduceToNat, Int.reduceEq, h2', h3, h4, h18, h19, h20, gx, gx2, gx3, ba, bb]
    refine callK_same (k130 F' _ a _ ha ox) ?_
    have next : ∀ σ, Ax.look σ 2 = some (.pointer (some ⟨ra, 0, none⟩)) → Ax.look σ 3 = some (.pointer (some ⟨rb, 0, none⟩)) → Ax.look σ 4 = some (.pointer (some ⟨rz, 0, none⟩)) →
        Ax.look σ 18 = some (.slice (some ⟨g, 0, none⟩) l.length cap) → Ax.look σ 19 = some (.int .i64 l.length) → Ax.look σ 20 = some (.int .i64 (i + 1)) →
        (a.under l[i] && b.under l[i]) = false → ∃ k, k < m ∧ ouI a b l F' M ra rb rz g cap k σ F' (M'.upd rx ⟨(l[i]).cs, 34, 6⟩) := by
      intro σ q1 q2 q3 q4 q5 q6 q7
      refine ⟨m - 1, by omega, rfl, kp.new (kp.free hMx), nz, ?_, ?_, ?_, ?_, ?_, q1, q2, q3, q4, q5, i + 1, by omega, q6, ?_⟩
      · rw [Hp.upd_ne' gx.1]; exact fa
      · rw [Hp.upd_ne' gx2.1]; exact fb
      · rw [Hp.upd_ne' gx3.1]; exact fz
      · rw [blk_upd_ne gxg]; exact bg
      · rw [Hp.upd_ne' gxg]; exact ng
      · rw [hf, q7]
    cases e1 : a.under l[i]
    · simp only [go_sem, reduceCtorEq, reduceIte, Nat.reduceEqDiff, Nat.reduceAdd, Nat.reduceLeDiff, Nat.reduceMul, Int.reduceLT, Int.reduceLE, Int.reduceAdd, Int.reduceSub, Int.reduceMul, Int.reduceNeg, Int.reduceToNat, Int.reduceEq, h2', h3, h4, h18, h19, h20, gx, gx2, gx3, ba, bb, ei]
      exact next _ (by simp only [go_sem, reduceCtorEq, reduceIte, Nat.reduceEqDiff, h2']) (by simp only [go_sem, reduceCtorEq, reduceIte, Nat.reduceEqDiff, h3]) (by simp only [go_sem, reduceCtorEq, reduceIte, Nat.reduceEqDiff, h4]) (by simp only [go_sem, reduceCtorEq, reduceIte, Nat.reduceEqDiff, h18]) (by simp only [go_sem, reduceCtorEq, reduceIte, Nat.reduceEqDiff, h19]) (by simp only [go_sem, reduceCtorEq, reduceIte, Nat.reduceEqDiff]) (by rw [e1]; rfl)
    simp only [go_sem, reduceCtorEq, reduceIte, Nat.reduceEqDiff, Nat.reduceAdd, Nat.reduceLeDiff, Nat.reduceMul, Int.reduceLT, Int.reduceLE, Int.reduceAdd, Int.reduceSub, Int.reduceMul, Int.reduceNeg, Int.reduceToNat, Int.reduceEq, h2', h3, h4, h18, h19, h20, gx, gx2, gx3, ba, bb]
    refine callK_same (k130 F' _ b _ hb ox) ?_
    cases e2 : b.under l[i]
    · simp only [go_sem, reduceCtorEq, reduceIte, Nat.reduceEqDiff, Nat.reduceAdd, Nat.reduceLeDiff, Nat.reduceMul, Int.reduceLT, Int.reduceLE, Int.reduceAdd, Int.reduceSub, Int.reduceMul, Int.reduceNeg, Int.reduceToNat, Int.reduceEq, h2', h3, h4, h18, h19, h20, gx, gx2, gx3, ba, bb, ei]
      exact next _ (by simp only [go_sem, reduceCtorEq, reduceIte, Nat.reduceEqDiff, h2']) (by simp only [go_sem, reduceCtorEq, reduceIte, Nat.reduceEqDiff, h3]) (by simp only [go_sem, reduceCtorEq, reduceIte, Nat.reduceEqDiff, h4]) (by simp only [go_sem, reduceCtorEq, reduceIte, Nat.reduceEqDiff, h18]) (by simp only [go_sem, reduceCtorEq, reduceIte, Nat.reduceEqDiff, h19]) (by simp only [go_sem, reduceCtorEq, reduceIte, Nat.reduceEqDiff]) (by rw [e1, e2]; rfl)
    rw [e1, e2] at hf
    simp only [go_sem, reduceCtorEq, reduceIte, Nat.reduceEqDiff, Nat.reduceAdd, Nat.reduceLeDiff, Nat.reduceMul, Int.reduceLT, Int.reduceLE, Int.reduceAdd, Int.reduceSub, Int.reduceMul, Int.reduceNeg, Int.reduceToNat, Int.reduceEq, h2', h3, h4, h18, h19, h20, gx, gx2, gx3, ba, bb, fz]
    simp only [setH, go_sem, reduceCtorEq, reduceIte, Nat.reduceEqDiff, Nat.reduceAdd, Nat.reduceLeDiff, Nat.reduceMul, Int.reduceLT, Int.reduceLE, Int.reduceAdd, Int.reduceSub, Int.reduceMul, Int.reduceNeg, Int.reduceToNat, Int.reduceEq]
    refine endK_keep (M := M) ?_ ⟨by rw [hf]; rfl, rfl, rfl⟩
    exact Keep.new (Keep.new kp nz) (kp.free hMx)
  · have : l.drop i = [] := List.drop_eq_nil_of_le (by omega)
    rw [this] at hf
    simp only [go_sem, reduceCtorEq, reduceIte, Nat.reduceEqDiff, Nat.reduceAdd, Nat.reduceLeDiff, Nat.reduceMul, Int.reduceLT, Int.reduceLE, Int.reduceAdd, Int.reduceSub, Int.reduceMul, Int.reduceNeg, Int.reduceToNat, Int.reduceEq, h2', h3, h4, h18, h19, h20, hil, ba, bb]
    refine callK_same (k102 F' _ a.w la.1 la.2) ?_
    simp only [go_sem, reduceCtorEq, reduceIte, Nat.reduceEqDiff, Nat.reduceAdd, Nat.reduceLeDiff, Nat.reduceMul, Int.reduceLT, Int.reduceLE, Int.reduceAdd, Int.reduceSub, Int.reduceMul, Int.reduceNeg, Int.reduceToNat, Int.reduceEq, h2', h3, h4, h18, h19, h20, hil, ba, bb, fz]
    simp only [setH, go_sem, reduceCtorEq, reduceIte, Nat.reduceEqDiff, Nat.reduceAdd, Nat.reduceLeDiff, Nat.reduceMul, Int.reduceLT, Int.reduceLE, Int.reduceAdd, Int.reduceSub, Int.reduceMul, Int.reduceNeg, Int.reduceToNat, Int.reduceEq]
    exact endK_keep (M := M) (Keep.new kp nz) ⟨by rw [hf]; rfl, rfl, rfl⟩
end Go.Proofs.Try.K

/- Contracts: whether rows of sets may be; what a set grows to, asked. -/
namespace Go.Proofs.Try.K
open Go Go.Ax Go.Proofs.Try.S
set_option maxRecDepth 100000
set_option linter.unusedSimpArgs false
set_option linter.unusedVariables false
variable (F : Fz) (M : Hp)

def ixI (l : List V) (p : V → Bool) (u f : Value) (F0 : Fz) (M0 : Hp) (m : Nat) (σ : Env) (F : Fz) (M : Hp) : Prop :=
  F = F0 ∧ M = M0 ∧ Ax.look σ 0 = some u ∧ Ax.look σ 1 = some f ∧ Ax.look σ 7 = some (.int .i64 l.length) ∧ ∃ i : Nat, i + m = l.length ∧ Ax.look σ 8 = some (.int .i64 i) ∧ l.any p = (l.drop i).any p
/-- May a row be, all of one width? -/
def askedB (v0 : V) (l : List V) : Bool := (v0 :: l).all fun v => v.ok && decide (v.w = v0.w)
theorem any_asked (v0 : V) (l : List V) : (!(v0 :: l).any fun v => !v.ok || !decide (v.w = v0.w)) = askedB v0 l := by
  unfold askedB
  rw [List.not_any_eq_all_not]
  congr 1
  funext v
  simp
end Go.Proofs.Try.K

/- Contracts: growing by a row. -/
namespace Go.Proofs.Try.K
open Go Go.Ax Go.Proofs.Try.S
set_option maxRecDepth 100000
set_option linter.unusedSimpArgs false
set_option linter.unusedVariables false
variable (F : Fz) (M : Hp)

def roI (v0 : V) (l : List V) (F0 : Fz) (M0 : Hp) (r2 r4 b cap : Nat) (ad : Option Addr) (cs : List Value) (m : Nat) (σ : Env) (F : Fz) (M : Hp) : Prop :=
  F = F0 ∧ Keep M0 M ∧ M0 r4 = none ∧ M0 r2 = none ∧ ¬ r2 = r4 ∧ ¬ b = r4 ∧ blk F0 M b = some cs ∧ M r2 = some ⟨V.zero.cs, 34, 6⟩ ∧
  Ax.look σ 2 = some (.pointer (some ⟨r2, 0, none⟩)) ∧ Ax.look σ 4 = some (.pointer (some ⟨r4, 0, none⟩)) ∧ Ax.look σ 13 = some (.slice ad l.length cap) ∧ Ax.look σ 14 = some (.int .i64 l.length) ∧
  ∃ (i n : Nat) (v : V), i + m = l.length ∧ Ax.look σ 15 = some (.int .i64 i) ∧ Ax.look σ 5 = some (.int .i64 n) ∧ M r4 = some ⟨v.cs, 34, 6⟩ ∧ v.ok = true ∧ v.w = v0.w ∧ n ≤ i ∧
    v0.rows l = ((v.rows (l.drop i)).1, n + (v.rows (l.drop i)).2)
end Go.Proofs.Try.K

/- Contracts: growing by a row, asked; itself. -/
namespace Go.Proofs.Try.K
open Go Go.Ax Go.Proofs.Try.S
set_option maxRecDepth 100000
set_option linter.unusedSimpArgs false
set_option linter.unusedVariables false
variable (F : Fz) (M : Hp)

theorem asked_iff {v0 : V} {l : List V} (h : askedB v0 l = true) : v0.ok = true ∧ ∀ x ∈ l, x.ok = true ∧ x.w = v0.w := by
  unfold askedB at h
  rw [List.all_eq_true] at h
  refine ⟨?_, fun x hx => ?_⟩
  · have := h v0 (by simp)
    simpa using this
  · have := h x (by simp [hx])
    simpa using this
def rowA (l : List V) : Value := match l with
  | [] => .tuple #[V.zero.val, .int .i64 1]
  | v0 :: l => if askedB v0 l then .tuple #[(v0.rows l).1.val, .int .i64 0] else .tuple #[V.zero.val, .int .i64 1]
def stepsA (l : List V) : Value := match l with
  | [] => .tuple #[.int .i64 0, .int .i64 1]
  | v0 :: l => if askedB v0 l then .tuple #[.int .i64 (v0.rows l).2, .int .i64 0] else .tuple #[.int .i64 0, .int .i64 1]
theorem wide38 : (if V.pair (V.just 8 3) (V.just 8 3) then Value.tuple #[((V.just 8 3).out (V.just 8 3)).val, .int .i64 0] else .tuple #[V.zero.val, .int .i64 1]) = .tuple #[(V.just 8 3).val, .int .i64 0] := by
  have e1 : V.pair (V.just 8 3) (V.just 8 3) = true := by decide +kernel
  have e2 : (V.just 8 3).out (V.just 8 3) = V.just 8 3 := by decide +kernel
  rw [if_pos e1, e2]
theorem steps38 : stepsA [V.just 8 3, V.just 8 3, V.just 8 3] = .tuple #[.int .i64 0, .int .i64 0] := by
  have e1 : askedB (V.just 8 3) [V.just 8 3, V.just 8 3] = true := by decide +kernel
  have e2 : ((V.just 8 3).rows [V.just 8 3, V.just 8 3]).2 = 0 := by decide +kernel
  simp only [stepsA]
  rw [if_pos e1, e2]; rfl
end Go.Proofs.Try.K
