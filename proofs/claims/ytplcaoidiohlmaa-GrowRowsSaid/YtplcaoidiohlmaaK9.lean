/- Contracts: next, empty, members, just one. -/
import Derived.Test.YtplcaoidiohlmaaK8
import Derived.Test.YtplcaoidiohlmaaK6
namespace Go.Proofs.Try.K
open Go Go.Ax Go.Proofs.Try.S
set_option maxRecDepth 100000
set_option linter.unusedSimpArgs false
set_option linter.unusedVariables false
variable (F : Fz) (M : Hp)

def nextA (v : V) (n : Int) : Value := if v.ok && isN n v.w then (if v.nextR n < 0 then .tuple #[.int .i64 0, .int .i64 3] else .tuple #[.int .i64 (v.nextR n), .int .i64 0]) else .tuple #[.int .i64 0, .int .i64 1]
theorem k26 (v : V) (n : Int) : CallsA Try.prog 26 [v.val, .int .i64 n] F M (Same F M (nextA v n)) := by
  refine callsA_of hm Try.func26 e26 (Nat.le_of_ble_eq_true rfl) ?_
  simp only [c26, go_sem, reduceCtorEq, reduceIte, Nat.reduceEqDiff, Nat.reduceAdd, Nat.reduceLeDiff, Nat.reduceMul, Int.reduceLT, Int.reduceLE, Int.reduceAdd, Int.reduceSub, Int.reduceMul, Int.reduceNeg, Int.reduceToNat, Int.reduceEq]
  intro r hF hM
  simp only [go_sem, reduceCtorEq, reduceIte, Nat.reduceEqDiff, Nat.reduceAdd, Nat.reduceLeDiff, Nat.reduceMul, Int.reduceLT, Int.reduceLE, Int.reduceAdd, Int.reduceSub, Int.reduceMul, Int.reduceNeg, Int.reduceToNat, Int.reduceEq]
  refine callK_same (k52 F _ v) ?_
  cases hv : v.ok
  · simp only [go_sem, reduceCtorEq, reduceIte, Nat.reduceEqDiff, Nat.reduceAdd, Nat.reduceLeDiff, Nat.reduceMul, Int.reduceLT, Int.reduceLE, Int.reduceAdd, Int.reduceSub, Int.reduceMul, Int.reduceNeg, Int.reduceToNat, Int.reduceEq]
    exact endK_drop hM (endK_same ⟨by simp [nextA, hv], rfl, rfl⟩)
  have hl := isW_le (ok_isW hv)
  simp only [go_sem, reduceCtorEq, reduceIte, Nat.reduceEqDiff, Nat.reduceAdd, Nat.reduceLeDiff, Nat.reduceMul, Int.reduceLT, Int.reduceLE, Int.reduceAdd, Int.reduceSub, Int.reduceMul, Int.reduceNeg, Int.reduceToNat, Int.reduceEq]
  refine callK_same (k48 F _ n v.w hl.1 hl.2) ?_
  cases hn : isN n v.w
  · simp only [go_sem, reduceCtorEq, reduceIte, Nat.reduceEqDiff, Nat.reduceAdd, Nat.reduceLeDiff, Nat.reduceMul, Int.reduceLT, Int.reduceLE, Int.reduceAdd, Int.reduceSub, Int.reduceMul, Int.reduceNeg, Int.reduceToNat, Int.reduceEq]
    exact endK_drop hM (endK_same ⟨by simp [nextA, hv, hn], rfl, rfl⟩)
  simp only [go_sem, reduceCtorEq, reduceIte, Nat.reduceEqDiff, Nat.reduceAdd, Nat.reduceLeDiff, Nat.reduceMul, Int.reduceLT, Int.reduceLE, Int.reduceAdd, Int.reduceSub, Int.reduceMul, Int.reduceNeg, Int.reduceToNat, Int.reduceEq]
  refine callK_same (k54 F _ v n hv) ?_
  by_cases hx : v.nextR n < 0 <;> simp only [go_sem, reduceCtorEq, reduceIte, Nat.reduceEqDiff, Nat.reduceAdd, Nat.reduceLeDiff, Nat.reduceMul, Int.reduceLT, Int.reduceLE, Int.reduceAdd, Int.reduceSub, Int.reduceMul, Int.reduceNeg, Int.reduceToNat, Int.reduceEq, hx]
  all_goals exact endK_drop hM (endK_same ⟨by simp [nextA, hv, hn, hx], rfl, rfl⟩)

theorem k29 (v : V) : CallsA Try.prog 29 [v.val] F M (Same F M (.int .i64 (if v.ok then 0 else 1))) := by
  refine callsA_of hm Try.func29 e29 (Nat.le_of_ble_eq_true rfl) ?_
  simp only [c29, go_sem, reduceCtorEq, reduceIte, Nat.reduceEqDiff, Nat.reduceAdd, Nat.reduceLeDiff, Nat.reduceMul, Int.reduceLT, Int.reduceLE, Int.reduceAdd, Int.reduceSub, Int.reduceMul, Int.reduceNeg, Int.reduceToNat, Int.reduceEq]
  intro r hF hM
  simp only [go_sem, reduceCtorEq, reduceIte, Nat.reduceEqDiff, Nat.reduceAdd, Nat.reduceLeDiff, Nat.reduceMul, Int.reduceLT, Int.reduceLE, Int.reduceAdd, Int.reduceSub, Int.reduceMul, Int.reduceNeg, Int.reduceToNat, Int.reduceEq]
  refine callK_same (k52 F _ v) ?_
  cases hv : v.ok <;> simp only [go_sem, reduceCtorEq, reduceIte, Nat.reduceEqDiff, Nat.reduceAdd, Nat.reduceLeDiff, Nat.reduceMul, Int.reduceLT, Int.reduceLE, Int.reduceAdd, Int.reduceSub, Int.reduceMul, Int.reduceNeg, Int.reduceToNat, Int.reduceEq]
  all_goals exact endK_drop hM (endK_same ⟨by simp, rfl, rfl⟩)

theorem k55 (v : V) (hv : v.ok = true) : CallsA Try.prog 55 [v.val] F M (Same F M (.bool (decide (v.nextR 0 < 0)))) := by
  refine callsA_of hm Try.func55 e55 (Nat.le_of_ble_eq_true rfl) ?_
  simp only [c55, go_sem, reduceCtorEq, reduceIte, Nat.reduceEqDiff, Nat.reduceAdd, Nat.reduceLeDiff, Nat.reduceMul, Int.reduceLT, Int.reduceLE, Int.reduceAdd, Int.reduceSub, Int.reduceMul, Int.reduceNeg, Int.reduceToNat, Int.reduceEq]
  intro r hF hM
  simp only [go_sem, reduceCtorEq, reduceIte, Nat.reduceEqDiff, Nat.reduceAdd, Nat.reduceLeDiff, Nat.reduceMul, Int.reduceLT, Int.reduceLE, Int.reduceAdd, Int.reduceSub, Int.reduceMul, Int.reduceNeg, Int.reduceToNat, Int.reduceEq]
  refine callK_same (k54 F _ v 0 hv) ?_
  simp only [go_sem, reduceCtorEq, reduceIte, Nat.reduceEqDiff, Nat.reduceAdd, Nat.reduceLeDiff, Nat.reduceMul, Int.reduceLT, Int.reduceLE, Int.reduceAdd, Int.reduceSub, Int.reduceMul, Int.reduceNeg, Int.reduceToNat, Int.reduceEq]
  exact endK_drop hM (endK_same ⟨rfl, rfl, rfl⟩)

theorem k27 (v : V) : CallsA Try.prog 27 [v.val] F M (Same F M (if v.ok then .tuple #[.bool (decide (v.nextR 0 < 0)), .int .i64 0] else .tuple #[.bool false, .int .i64 1])) := by
  refine callsA_of hm Try.func27 e27 (Nat.le_of_ble_eq_true rfl) ?_
  simp only [c27, go_sem, reduceCtorEq, reduceIte, Nat.reduceEqDiff, Nat.reduceAdd, Nat.reduceLeDiff, Nat.reduceMul, Int.reduceLT, Int.reduceLE, Int.reduceAdd, Int.reduceSub, Int.reduceMul, Int.reduceNeg, Int.reduceToNat, Int.reduceEq]
  intro r hF hM
  simp only [go_sem, reduceCtorEq, reduceIte, Nat.reduceEqDiff, Nat.reduceAdd, Nat.reduceLeDiff, Nat.reduceMul, Int.reduceLT, Int.reduceLE, Int.reduceAdd, Int.reduceSub, Int.reduceMul, Int.reduceNeg, Int.reduceToNat, Int.reduceEq]
  refine callK_same (k52 F _ v) ?_
  cases hv : v.ok
  · simp only [go_sem, reduceCtorEq, reduceIte, Nat.reduceEqDiff, Nat.reduceAdd, Nat.reduceLeDiff, Nat.reduceMul, Int.reduceLT, Int.reduceLE, Int.reduceAdd, Int.reduceSub, Int.reduceMul, Int.reduceNeg, Int.reduceToNat, Int.reduceEq]
    exact endK_drop hM (endK_same ⟨by simp, rfl, rfl⟩)
  simp only [go_sem, reduceCtorEq, reduceIte, Nat.reduceEqDiff, Nat.reduceAdd, Nat.reduceLeDiff, Nat.reduceMul, Int.reduceLT, Int.reduceLE, Int.reduceAdd, Int.reduceSub, Int.reduceMul, Int.reduceNeg, Int.reduceToNat, Int.reduceEq]
  refine callK_same (k55 F _ v hv) ?_
  simp only [go_sem, reduceCtorEq, reduceIte, Nat.reduceEqDiff, Nat.reduceAdd, Nat.reduceLeDiff, Nat.reduceMul, Int.reduceLT, Int.reduceLE, Int.reduceAdd, Int.reduceSub, Int.reduceMul, Int.reduceNeg, Int.reduceToNat, Int.reduceEq]
  exact endK_drop hM (endK_same ⟨by simp, rfl, rfl⟩)

def memI (v : V) (most : Nat) (F : Fz) (M : Hp) (r : Nat) (m : Nat) (σ : Env) (F' : Fz) (M' : Hp) : Prop :=
  F' = F ∧ Keep M M' ∧ M' r = some ⟨v.cs, 28, 6⟩ ∧ Ax.look σ 1 = some (.int .i64 most) ∧ Ax.look σ 2 = some (.pointer (some ⟨r, 0, none⟩)) ∧
  ∃ (l : List Int) (p : Int), l.length + m = most + 1 ∧ 0 < m ∧ l ++ v.mem m p = v.members most ∧ Ax.look σ 6 = some (.int .i64 (v.nextR p)) ∧
    (l = [] ∧ Ax.look σ 4 = some (.slice none 0 0) ∨ ∃ g cap, F g = none ∧ M g = none ∧ Ax.look σ 4 = some (.slice (some ⟨g, 0, none⟩) l.length cap) ∧ M' g = some ⟨l.map intV, 3, cap * 1⟩ ∧ l.length ≤ cap ∧ cap ≤ maxLen)

def memR (v : V) (most : Nat) (F : Fz) (M : Hp) (u : Value) (F' : Fz) (M' : Hp) : Prop :=
  F' = F ∧ ((v.members most).length ≤ most ∧ ((v.members most = [] ∧ u = .tuple #[.slice none 0 0, .bool true] ∧ M' = M) ∨
      ∃ g cap, F g = none ∧ M g = none ∧ u = .tuple #[.slice (some ⟨g, 0, none⟩) (v.members most).length cap, .bool true] ∧ M' = M.upd g ⟨(v.members most).map intV, 3, cap * 1⟩) ∨
    (most < (v.members most).length ∧ u = .tuple #[.slice none 0 0, .bool false] ∧ M' = M))

theorem k71 (v : V) (most : Nat) (hv : v.ok = true) (hmost : most ≤ 1000) : CallsA Try.prog 71 [v.val, .int .i64 most] F M (memR v most F M) := by
  refine callsA_of hm Try.func71 e71 (Nat.le_of_ble_eq_true rfl) ?_
  have hl := isW_le (ok_isW hv)
  have hmo := mostV_pos hl.2
  simp only [c71, go_sem, reduceCtorEq, reduceIte, Nat.reduceEqDiff, Nat.reduceAdd, Nat.reduceLeDiff, Nat.reduceMul, Int.reduceLT, Int.reduceLE, Int.reduceAdd, Int.reduceSub, Int.reduceMul, Int.reduceNeg, Int.reduceToNat, Int.reduceEq]
  intro r hF hM
  simp only [go_sem, reduceCtorEq, reduceIte, Nat.reduceEqDiff, Nat.reduceAdd, Nat.reduceLeDiff, Nat.reduceMul, Int.reduceLT, Int.reduceLE, Int.reduceAdd, Int.reduceSub, Int.reduceMul, Int.reduceNeg, Int.reduceToNat, Int.reduceEq]
  refine callK_same (k54 F _ v 0 hv) ?_
  simp only [go_sem, reduceCtorEq, reduceIte, Nat.reduceEqDiff, Nat.reduceAdd, Nat.reduceLeDiff, Nat.reduceMul, Int.reduceLT, Int.reduceLE, Int.reduceAdd, Int.reduceSub, Int.reduceMul, Int.reduceNeg, Int.reduceToNat, Int.reduceEq]
  refine loop_of (memI v most F M r) (most + 1) ?_ ?_
  · exact ⟨rfl, (Keep.refl M).new hM, Hp.upd_same _ _ _, by simp only [go_sem, reduceCtorEq, reduceIte, Nat.reduceEqDiff, Nat.reduceAdd, Nat.reduceLeDiff, Nat.reduceMul, Int.reduceLT, Int.reduceLE, Int.reduceAdd, Int.reduceSub, Int.reduceMul, Int.reduceNeg, Int.reduceToNat, Int.reduceEq], by simp only [go_sem, reduceCtorEq, reduceIte, Nat.reduceEqDiff, Nat.reduceAdd, Nat.reduceLeDiff, Nat.reduceMul, Int.reduceLT, Int.reduceLE, Int.reduceAdd, Int.reduceSub, Int.reduceMul, Int.reduceNeg, Int.reduceToNat, Int.reduceEq], [], 0, by simp, by omega, rfl, by simp only [go_sem, reduceCtorEq, reduceIte, Nat.reduceEqDiff, Nat.reduceAdd, Nat.reduceLeDiff, Nat.reduceMul, Int.reduceLT, Int.reduceLE, Int.reduceAdd, Int.reduceSub, Int.reduceMul, Int.reduceNeg, Int.reduceToNat, Int.reduceEq], .inl ⟨rfl, by simp only [go_sem, reduceCtorEq, reduceIte, Nat.reduceEqDiff, Nat.reduceAdd, Nat.reduceLeDiff, Nat.reduceMul, Int.reduceLT, Int.reduceLE, Int.reduceAdd, Int.reduceSub, Int.reduceMul, Int.reduceNeg, Int.reduceToNat, Int.reduceEq]⟩⟩
  · rintro m σ F' M' ⟨rfl, hk, f1, h1, h2, l, p, hlm, hm0, hlp, h6, h4⟩
    have b1 := blk_M (F := F') f1
    have hp := nextR_le hv p
    obtain ⟨m, rfl⟩ : ∃ k, m = k + 1 := ⟨m - 1, by omega⟩
    by_cases hn : 0 ≤ v.nextR p
    · have hn' : ¬ v.nextR p < 0 := by omega
      have hmem : v.mem (m + 1) p = v.nextR p :: v.mem m (v.nextR p + 1) := by rw [V.mem, if_neg hn']
      have e1 : IntKind.i64.wrap (v.nextR p + 1) = v.nextR p + 1 := w64 (by omega) (by omega)
      rcases h4 with ⟨hl0, h4⟩ | ⟨g, cap, hFg, hMg, h4, f4, hc1, hc2⟩
      · have hll : l.length = 0 := by rw [hl0]; rfl
        by_cases hfull : most = 0
        · subst hfull
          simp only [go_sem, reduceCtorEq, reduceIte, Nat.reduceEqDiff, Nat.reduceAdd, Nat.reduceLeDiff, Nat.reduceMul, Int.reduceLT, Int.reduceLE, Int.reduceAdd, Int.reduceSub, Int.reduceMul, Int.reduceNeg, Int.reduceToNat, Int.reduceEq, h1, h2, h4, h6, hn, Int.cast_ofNat_Int]
          exact endK_keep hk ⟨rfl, .inr ⟨by rw [← hlp, hl0, hmem]; simp, rfl, rfl⟩⟩
        · have hfull : ¬ (0 : Int) = most := by omega
          simp only [go_sem, reduceCtorEq, reduceIte, Nat.reduceEqDiff, Nat.reduceAdd, Nat.reduceLeDiff, Nat.reduceMul, Int.reduceLT, Int.reduceLE, Int.reduceAdd, Int.reduceSub, Int.reduceMul, Int.reduceNeg, Int.reduceToNat, Int.reduceEq, h1, h2, h4, h6, hn, hfull]
          intro r1 hF1 hM1
          have g1 := ne_of_none hM1 f1
          simp only [go_sem, reduceCtorEq, reduceIte, Nat.reduceEqDiff, Nat.reduceAdd, Nat.reduceLeDiff, Nat.reduceMul, Int.reduceLT, Int.reduceLE, Int.reduceAdd, Int.reduceSub, Int.reduceMul, Int.reduceNeg, Int.reduceToNat, Int.reduceEq, h1, h2, h4, h6, hn, g1]
          refine apK_of (n := l.length) (xs := l.map intV) (m := 1) (ys := [v.nextR p].map intV) (by rw [hll, hl0]; exact ⟨rfl, .inl ⟨rfl, rfl⟩⟩) ⟨rfl, .inr ⟨⟨r1, 0, none⟩, 1, rfl, .inr ⟨r1, 0, _, rfl, blk_upd_same, rfl⟩⟩⟩ (plain_ints _) (by simp only [maxLen]; omega) (by omega) ?_
          rintro v' M3 (⟨_, h0, _⟩ | ⟨g', cap', hg', rfl, hc3, hc4, rfl⟩)
          · cases h0
          rw [← List.map_append]
          have hl3 : (l ++ [v.nextR p]).length = l.length + 1 := by simp
          have key : F' g' = none ∧ M g' = none ∧ Keep M ((M'.upd r1 ⟨[.int .i64 (v.nextR p)], 3, 1⟩).upd g' ⟨(l ++ [v.nextR p]).map intV, 3, cap' * 1⟩) ∧ ¬ r = g' := by
            rcases hg' with ⟨c, hx⟩ | ⟨hx, hy⟩
            · cases hx
            · have hz := (fresh_of hy)
              exact ⟨hx, hk.free hz.2.2, (hk.new (hk.free hM1)).new (hk.free hz.2.2), (ne_of_none hz.2.2 f1).1⟩
          have hne := key.2.2.2
          have f3 : ((M'.upd r1 ⟨[.int .i64 (v.nextR p)], 3, 1⟩).upd g' ⟨(l ++ [v.nextR p]).map intV, 3, cap' * 1⟩) r = some ⟨v.cs, 28, 6⟩ := by
            rw [Hp.upd_ne' hne, Hp.upd_ne' g1.1]; exact f1
          have b3 := blk_M (F := F') f3
          simp only [go_sem, reduceCtorEq, reduceIte, Nat.reduceEqDiff, Nat.reduceAdd, Nat.reduceLeDiff, Nat.reduceMul, Int.reduceLT, Int.reduceLE, Int.reduceAdd, Int.reduceSub, Int.reduceMul, Int.reduceNeg, Int.reduceToNat, Int.reduceEq, h1, h2, h4, h6, hn, g1, b3, e1]
          refine callK_same (k54 F' _ v (v.nextR p + 1) hv) ?_
          simp only [go_sem, reduceCtorEq, reduceIte, Nat.reduceEqDiff, Nat.reduceAdd, Nat.reduceLeDiff, Nat.reduceMul, Int.reduceLT, Int.reduceLE, Int.reduceAdd, Int.reduceSub, Int.reduceMul, Int.reduceNeg, Int.reduceToNat, Int.reduceEq, h1, h2, h4, h6, hn, g1, b3, e1]
          have hm1 : 0 < m := by omega
          exact ⟨m, by omega, rfl, key.2.2.1, f3, by simp only [go_sem, reduceCtorEq, reduceIte, Nat.reduceEqDiff, Nat.reduceAdd, Nat.reduceLeDiff, Nat.reduceMul, Int.reduceLT, Int.reduceLE, Int.reduceAdd, Int.reduceSub, Int.reduceMul, Int.reduceNeg, Int.reduceToNat, Int.reduceEq, h1], by simp only [go_sem, reduceCtorEq, reduceIte, Nat.reduceEqDiff, Nat.reduceAdd, Nat.reduceLeDiff, Nat.reduceMul, Int.reduceLT, Int.reduceLE, Int.reduceAdd, Int.reduceSub, Int.reduceMul, Int.reduceNeg, Int.reduceToNat, Int.reduceEq, h2], l ++ [v.nextR p], v.nextR p + 1, by omega, hm1, by rw [List.append_assoc, List.singleton_append, ← hmem]; exact hlp, by simp only [go_sem, reduceCtorEq, reduceIte, Nat.reduceEqDiff, Nat.reduceAdd, Nat.reduceLeDiff, Nat.reduceMul, Int.reduceLT, Int.reduceLE, Int.reduceAdd, Int.reduceSub, Int.reduceMul, Int.reduceNeg, Int.reduceToNat, Int.reduceEq],
            .inr ⟨g', cap', key.1, key.2.1, by simp only [go_sem, reduceCtorEq, reduceIte, Nat.reduceEqDiff, Nat.reduceAdd, Nat.reduceLeDiff, Nat.reduceMul, Int.reduceLT, Int.reduceLE, Int.reduceAdd, Int.reduceSub, Int.reduceMul, Int.reduceNeg, Int.reduceToNat, Int.reduceEq, hl3], Hp.upd_same _ _ _, by omega, hc4⟩⟩
      · by_cases hfull : l.length = most
        · simp only [go_sem, reduceCtorEq, reduceIte, Nat.reduceEqDiff, Nat.reduceAdd, Nat.reduceLeDiff, Nat.reduceMul, Int.reduceLT, Int.reduceLE, Int.reduceAdd, Int.reduceSub, Int.reduceMul, Int.reduceNeg, Int.reduceToNat, Int.reduceEq, h1, h2, h4, h6, hn, hfull]
          exact endK_keep hk ⟨rfl, .inr ⟨by rw [← hlp, hmem]; simp; omega, rfl, rfl⟩⟩
        · have hfull : ¬ (l.length : Int) = most := by omega
          have hrg : ¬ (some ⟨v.cs, 28, 6⟩ : Option Ent) = some ⟨l.map intV, 3, cap * 1⟩ := by
            intro e
            have := congrArg (fun x => x.map (·.elem)) e
            simp at this
          simp only [go_sem, reduceCtorEq, reduceIte, Nat.reduceEqDiff, Nat.reduceAdd, Nat.reduceLeDiff, Nat.reduceMul, Int.reduceLT, Int.reduceLE, Int.reduceAdd, Int.reduceSub, Int.reduceMul, Int.reduceNeg, Int.reduceToNat, Int.reduceEq, h1, h2, h4, h6, hn, hfull]
          intro r1 hF1 hM1
          have g1 := ne_of_none hM1 f1
          simp only [go_sem, reduceCtorEq, reduceIte, Nat.reduceEqDiff, Nat.reduceAdd, Nat.reduceLeDiff, Nat.reduceMul, Int.reduceLT, Int.reduceLE, Int.reduceAdd, Int.reduceSub, Int.reduceMul, Int.reduceNeg, Int.reduceToNat, Int.reduceEq, h1, h2, h4, h6, hn, g1]
          refine apK_of (n := l.length) (xs := l.map intV) (m := 1) (ys := [v.nextR p].map intV) ⟨by simp, .inr ⟨g, cap, rfl, (Hp.upd_ne (ne_of_none hM1 f4).1).trans f4, hc1, hc2⟩⟩ ⟨rfl, .inr ⟨⟨r1, 0, none⟩, 1, rfl, .inr ⟨r1, 0, _, rfl, blk_upd_same, rfl⟩⟩⟩ (plain_ints _) (by simp only [maxLen]; omega) (by omega) ?_
          rintro v' M3 (⟨_, h0, _⟩ | ⟨g', cap', hg', rfl, hc3, hc4, rfl⟩)
          · cases h0
          rw [← List.map_append]
          have hl3 : (l ++ [v.nextR p]).length = l.length + 1 := by simp
          have key : F' g' = none ∧ M g' = none ∧ Keep M ((M'.upd r1 ⟨[.int .i64 (v.nextR p)], 3, 1⟩).upd g' ⟨(l ++ [v.nextR p]).map intV, 3, cap' * 1⟩) ∧ ¬ r = g' := by
            rcases hg' with ⟨c, hx⟩ | ⟨hx, hy⟩
            · cases hx
              refine ⟨hFg, hMg, (hk.new (hk.free hM1)).new hMg, ?_⟩
              rintro rfl
              rw [f1] at f4
              exact hrg f4
            · have hz := (fresh_of hy)
              exact ⟨hx, hk.free hz.2.2, (hk.new (hk.free hM1)).new (hk.free hz.2.2), (ne_of_none hz.2.2 f1).1⟩
          have hne := key.2.2.2
          have f3 : ((M'.upd r1 ⟨[.int .i64 (v.nextR p)], 3, 1⟩).upd g' ⟨(l ++ [v.nextR p]).map intV, 3, cap' * 1⟩) r = some ⟨v.cs, 28, 6⟩ := by
            rw [Hp.upd_ne' hne, Hp.upd_ne' g1.1]; exact f1
          have b3 := blk_M (F := F') f3
          simp only [go_sem, reduceCtorEq, reduceIte, Nat.reduceEqDiff, Nat.reduceAdd, Nat.reduceLeDiff, Nat.reduceMul, Int.reduceLT, Int.reduceLE, Int.reduceAdd, Int.reduceSub, Int.reduceMul, Int.reduceNeg, Int.reduceToNat, Int.reduceEq, h1, h2, h4, h6, hn, g1, b3, e1]
          refine callK_same (k54 F' _ v (v.nextR p + 1) hv) ?_
          simp only [go_sem, reduceCtorEq, reduceIte, Nat.reduceEqDiff, Nat.reduceAdd, Nat.reduceLeDiff, Nat.reduceMul, Int.reduceLT, Int.reduceLE, Int.reduceAdd, Int.reduceSub, Int.reduceMul, Int.reduceNeg, Int.reduceToNat, Int.reduceEq, h1, h2, h4, h6, hn, g1, b3, e1]
          have hm1 : 0 < m := by omega
          exact ⟨m, by omega, rfl, key.2.2.1, f3, by simp only [go_sem, reduceCtorEq, reduceIte, Nat.reduceEqDiff, Nat.reduceAdd, Nat.reduceLeDiff, Nat.reduceMul, Int.reduceLT, Int.reduceLE, Int.reduceAdd, Int.reduceSub, Int.reduceMul, Int.reduceNeg, Int.reduceToNat, Int.reduceEq, h1], by simp only [go_sem, reduceCtorEq, reduceIte, Nat.reduceEqDiff, Nat.reduceAdd, Nat.reduceLeDiff, Nat.reduceMul, Int.reduceLT, Int.reduceLE, Int.reduceAdd, Int.reduceSub, Int.reduceMul, Int.reduceNeg, Int.reduceToNat, Int.reduceEq, h2], l ++ [v.nextR p], v.nextR p + 1, by omega, hm1, by rw [List.append_assoc, List.singleton_append, ← hmem]; exact hlp, by simp only [go_sem, reduceCtorEq, reduceIte, Nat.reduceEqDiff, Nat.reduceAdd, Nat.reduceLeDiff, Nat.reduceMul, Int.reduceLT, Int.reduceLE, Int.reduceAdd, Int.reduceSub, Int.reduceMul, Int.reduceNeg, Int.reduceToNat, Int.reduceEq],
            .inr ⟨g', cap', key.1, key.2.1, by simp only [go_sem, reduceCtorEq, reduceIte, Nat.reduceEqDiff, Nat.reduceAdd, Nat.reduceLeDiff, Nat.reduceMul, Int.reduceLT, Int.reduceLE, Int.reduceAdd, Int.reduceSub, Int.reduceMul, Int.reduceNeg, Int.reduceToNat, Int.reduceEq, hl3], Hp.upd_same _ _ _, by omega, hc4⟩⟩
    · have hn' : v.nextR p < 0 := by omega
      have hmem : v.mem (m + 1) p = [] := by rw [V.mem, if_pos hn']
      rw [hmem, List.append_nil] at hlp
      subst hlp
      rcases h4 with ⟨h0, h4⟩ | ⟨g, cap, hFg, hMg, h4, f4, hc1, hc2⟩
      · simp only [go_sem, reduceCtorEq, reduceIte, Nat.reduceEqDiff, Nat.reduceAdd, Nat.reduceLeDiff, Nat.reduceMul, Int.reduceLT, Int.reduceLE, Int.reduceAdd, Int.reduceSub, Int.reduceMul, Int.reduceNeg, Int.reduceToNat, Int.reduceEq, h1, h2, h4, h6, hn]
        exact endK_keep hk ⟨rfl, .inl ⟨by omega, .inl ⟨h0, rfl, rfl⟩⟩⟩
      · simp only [go_sem, reduceCtorEq, reduceIte, Nat.reduceEqDiff, Nat.reduceAdd, Nat.reduceLeDiff, Nat.reduceMul, Int.reduceLT, Int.reduceLE, Int.reduceAdd, Int.reduceSub, Int.reduceMul, Int.reduceNeg, Int.reduceToNat, Int.reduceEq, h1, h2, h4, h6, hn]
        exact endK_keep (hk.one f4) ⟨rfl, .inl ⟨by omega, .inr ⟨g, cap, hFg, hMg, rfl, rfl⟩⟩⟩
end Go.Proofs.Try.K
