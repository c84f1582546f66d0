/- The law GrowWide, walked: it returns true at every input. -/
import Derived.Test.YtplcaoidiohlmaaK19
import Derived.Test.YtplcaoidiohlmaaK24
namespace Go.Proofs.Ytplcaoidiohlmaa.growWide
open Go Go.Ax Go.Proofs.Try.S Go.Proofs.Try.K
set_option maxRecDepth 100000
set_option linter.unusedSimpArgs false
set_option linter.unusedVariables false
set_option maxHeartbeats 8000000

def oI (F0 : Fz) (vs : Nat) (r : Nat) (ask : List Value) (m : Nat) (σ : Env) (F : Fz) (M : Hp) : Prop :=
  F = F0 ∧ Old F M ∧ M r = some ⟨ask, 25, 2⟩ ∧ Ax.look σ 1 = some (.pointer (some ⟨r, 0, none⟩)) ∧
  ∃ i : Nat, i + m = vs ∧ Ax.look σ 3 = some (.int .i64 i)
def mI (F0 : Fz) (vs : Nat) (r i : Nat) (ask : List Value) (m : Nat) (σ : Env) (F : Fz) (M : Hp) : Prop :=
  F = F0 ∧ Old F M ∧ M r = some ⟨ask, 25, 2⟩ ∧ Ax.look σ 1 = some (.pointer (some ⟨r, 0, none⟩)) ∧ Ax.look σ 3 = some (.int .i64 i) ∧
  ∃ k : Nat, k + m = vs ∧ Ax.look σ 4 = some (.int .i64 k)

theorem call (W : World) (cs : List Value) (h : Rd (fzOf W) (.cons 1 (.slice 6 48 (.cons 1 (.int .i64) (.cons 1 .bool (.cons 1 (.int .i64) (.cons 1 (.int .i64) (.cons 1 (.int .i64) (.cons 1 (.int .i64) .nil))))))) (.cons 1 (.slice 1 8 (.int .i64)) .nil)) cs) :
  CallsA Try.prog 8 [.agg cs.toArray] (fzOf W) noHp fun r _ _ => r = .bool true := by
  obtain ⟨vV, vN, rfl, hV, hN⟩ := rd_ask h
  obtain ⟨aV, cV, lv, rfl, hlV, _, _, _, hcV⟩ := rd_Vs hV
  obtain ⟨a, cap, l, rfl, hl, hmx, hs, hin, h0, hc⟩ := rd_ints hN
  refine callsA_of hm Try.func8 e8 (Nat.le_of_ble_eq_true rfl) ?_
  simp only [c8, go_sem, reduceCtorEq, reduceIte, Nat.reduceEqDiff, Nat.reduceAdd, Nat.reduceLeDiff, Nat.reduceMul, Int.reduceLT, Int.reduceLE, Int.reduceAdd, Int.reduceSub, Int.reduceMul, Int.reduceNeg, Int.reduceToNat, Int.reduceEq]
  intro r hF hM
  simp only [go_sem, reduceCtorEq, reduceIte, Nat.reduceEqDiff, Nat.reduceAdd, Nat.reduceLeDiff, Nat.reduceMul, Int.reduceLT, Int.reduceLE, Int.reduceAdd, Int.reduceSub, Int.reduceMul, Int.reduceNeg, Int.reduceToNat, Int.reduceEq]
  refine callK_same (k13 _ _ aV a lv.length l.length cV cap) ?_
  cases hh : (decide (100 < (lv.length : Int)) || decide (100 < (l.length : Int)))
  rotate_left
  · simp only [go_sem, reduceCtorEq, reduceIte, Nat.reduceEqDiff, Nat.reduceAdd, Nat.reduceLeDiff, Nat.reduceMul, Int.reduceLT, Int.reduceLE, Int.reduceAdd, Int.reduceSub, Int.reduceMul, Int.reduceNeg, Int.reduceToNat, Int.reduceEq]
    exact endK_same rfl
  simp only [go_sem, reduceCtorEq, reduceIte, Nat.reduceEqDiff, Nat.reduceAdd, Nat.reduceLeDiff, Nat.reduceMul, Int.reduceLT, Int.reduceLE, Int.reduceAdd, Int.reduceSub, Int.reduceMul, Int.reduceNeg, Int.reduceToNat, Int.reduceEq]
  refine loop_of (oI (fzOf W) lv.length r [.slice aV lv.length cV, .slice a l.length cap]) lv.length ?_ ?_
  · exact ⟨rfl, (Old.start _).upd hF, Hp.upd_same _ _ _, by simp only [go_sem, reduceCtorEq, reduceIte, Nat.reduceEqDiff, Nat.reduceAdd, Nat.reduceLeDiff, Nat.reduceMul, Int.reduceLT, Int.reduceLE, Int.reduceAdd, Int.reduceSub, Int.reduceMul, Int.reduceNeg, Int.reduceToNat, Int.reduceEq], 0, by omega, by simp only [go_sem, reduceCtorEq, reduceIte, Nat.reduceEqDiff, Nat.reduceAdd, Nat.reduceLeDiff, Nat.reduceMul, Int.reduceLT, Int.reduceLE, Int.reduceAdd, Int.reduceSub, Int.reduceMul, Int.reduceNeg, Int.reduceToNat, Int.reduceEq]⟩
  rintro mo σ F M ⟨rfl, hold, f1, h1, i, hi, h3⟩
  have b1 := blk_M (F := fzOf W) f1
  by_cases hil : (i : Int) < lv.length
  rotate_left
  · simp only [go_sem, reduceCtorEq, reduceIte, Nat.reduceEqDiff, Nat.reduceAdd, Nat.reduceLeDiff, Nat.reduceMul, Int.reduceLT, Int.reduceLE, Int.reduceAdd, Int.reduceSub, Int.reduceMul, Int.reduceNeg, Int.reduceToNat, Int.reduceEq, h1, h3, b1, hil]
    refine callK_same (k37 _ _) ?_
    simp only [go_sem, reduceCtorEq, reduceIte, Nat.reduceEqDiff, Nat.reduceAdd, Nat.reduceLeDiff, Nat.reduceMul, Int.reduceLT, Int.reduceLE, Int.reduceAdd, Int.reduceSub, Int.reduceMul, Int.reduceNeg, Int.reduceToNat, Int.reduceEq]
    exact endK_same rfl
  by_cases hi10 : (i : Int) < 12
  rotate_left
  · simp only [go_sem, reduceCtorEq, reduceIte, Nat.reduceEqDiff, Nat.reduceAdd, Nat.reduceLeDiff, Nat.reduceMul, Int.reduceLT, Int.reduceLE, Int.reduceAdd, Int.reduceSub, Int.reduceMul, Int.reduceNeg, Int.reduceToNat, Int.reduceEq, h1, h3, b1, hil, hi10]
    refine callK_same (k37 _ _) ?_
    simp only [go_sem, reduceCtorEq, reduceIte, Nat.reduceEqDiff, Nat.reduceAdd, Nat.reduceLeDiff, Nat.reduceMul, Int.reduceLT, Int.reduceLE, Int.reduceAdd, Int.reduceSub, Int.reduceMul, Int.reduceNeg, Int.reduceToNat, Int.reduceEq]
    exact endK_same rfl
  have ei : IntKind.i64.wrap ((i : Int) + 1) = i + 1 := w64 (by omega) (by omega)
  simp only [go_sem, reduceCtorEq, reduceIte, Nat.reduceEqDiff, Nat.reduceAdd, Nat.reduceLeDiff, Nat.reduceMul, Int.reduceLT, Int.reduceLE, Int.reduceAdd, Int.reduceSub, Int.reduceMul, Int.reduceNeg, Int.reduceToNat, Int.reduceEq, h1, h3, b1, hil, hi10]
  refine loop_of (mI (fzOf W) lv.length r i [.slice aV lv.length cV, .slice a l.length cap]) lv.length ?_ ?_
  · exact ⟨rfl, hold, f1, by simp only [go_sem, reduceCtorEq, reduceIte, Nat.reduceEqDiff, Nat.reduceAdd, Nat.reduceLeDiff, Nat.reduceMul, Int.reduceLT, Int.reduceLE, Int.reduceAdd, Int.reduceSub, Int.reduceMul, Int.reduceNeg, Int.reduceToNat, Int.reduceEq, h1], by simp only [go_sem, reduceCtorEq, reduceIte, Nat.reduceEqDiff, Nat.reduceAdd, Nat.reduceLeDiff, Nat.reduceMul, Int.reduceLT, Int.reduceLE, Int.reduceAdd, Int.reduceSub, Int.reduceMul, Int.reduceNeg, Int.reduceToNat, Int.reduceEq, h3], 0, by omega, by simp only [go_sem, reduceCtorEq, reduceIte, Nat.reduceEqDiff, Nat.reduceAdd, Nat.reduceLeDiff, Nat.reduceMul, Int.reduceLT, Int.reduceLE, Int.reduceAdd, Int.reduceSub, Int.reduceMul, Int.reduceNeg, Int.reduceToNat, Int.reduceEq]⟩
  clear b1 f1 h1 h3 hold
  rintro mm σ F M ⟨rfl, hold, f1, h1, h3, k, hk, h4⟩
  have b1 := blk_M (F := fzOf W) f1
  by_cases hkl : (k : Int) < lv.length
  rotate_left
  · simp only [go_sem, reduceCtorEq, reduceIte, Nat.reduceEqDiff, Nat.reduceAdd, Nat.reduceLeDiff, Nat.reduceMul, Int.reduceLT, Int.reduceLE, Int.reduceAdd, Int.reduceSub, Int.reduceMul, Int.reduceNeg, Int.reduceToNat, Int.reduceEq, h1, h3, b1, h4, hkl, ei]
    exact ⟨mo - 1, by omega, rfl, hold, f1, by simp only [go_sem, reduceCtorEq, reduceIte, Nat.reduceEqDiff, Nat.reduceAdd, Nat.reduceLeDiff, Nat.reduceMul, Int.reduceLT, Int.reduceLE, Int.reduceAdd, Int.reduceSub, Int.reduceMul, Int.reduceNeg, Int.reduceToNat, Int.reduceEq, h1], i + 1, by omega, by simp only [go_sem, reduceCtorEq, reduceIte, Nat.reduceEqDiff, Nat.reduceAdd, Nat.reduceLeDiff, Nat.reduceMul, Int.reduceLT, Int.reduceLE, Int.reduceAdd, Int.reduceSub, Int.reduceMul, Int.reduceNeg, Int.reduceToNat, Int.reduceEq]; rfl⟩
  by_cases hk10 : (k : Int) < 12
  rotate_left
  · simp only [go_sem, reduceCtorEq, reduceIte, Nat.reduceEqDiff, Nat.reduceAdd, Nat.reduceLeDiff, Nat.reduceMul, Int.reduceLT, Int.reduceLE, Int.reduceAdd, Int.reduceSub, Int.reduceMul, Int.reduceNeg, Int.reduceToNat, Int.reduceEq, h1, h3, b1, h4, hkl, hk10, ei]
    exact ⟨mo - 1, by omega, rfl, hold, f1, by simp only [go_sem, reduceCtorEq, reduceIte, Nat.reduceEqDiff, Nat.reduceAdd, Nat.reduceLeDiff, Nat.reduceMul, Int.reduceLT, Int.reduceLE, Int.reduceAdd, Int.reduceSub, Int.reduceMul, Int.reduceNeg, Int.reduceToNat, Int.reduceEq, h1], i + 1, by omega, by simp only [go_sem, reduceCtorEq, reduceIte, Nat.reduceEqDiff, Nat.reduceAdd, Nat.reduceLeDiff, Nat.reduceMul, Int.reduceLT, Int.reduceLE, Int.reduceAdd, Int.reduceSub, Int.reduceMul, Int.reduceNeg, Int.reduceToNat, Int.reduceEq]; rfl⟩
  have ek : IntKind.i64.wrap ((k : Int) + 1) = k + 1 := w64 (by omega) (by omega)
  have hi0 : (0 : Int) ≤ i := by omega
  have hk0 : (0 : Int) ≤ k := by omega
  have hi' : i < lv.length := by omega
  have hk' : k < lv.length := by omega
  rcases hcV with hcV | ⟨bV, oV, cs, rfl, hbV, hcV⟩
  · rw [hcV] at hi'; simp at hi'
  obtain ⟨d1, d2⟩ := hcV i hi'
  obtain ⟨d3, d4⟩ := hcV k hk'
  generalize lv[i] = va at d2
  generalize lv[k] = vb at d4
  have b0 := hold.blk hbV
  simp only [go_sem, reduceCtorEq, reduceIte, Nat.reduceEqDiff, Nat.reduceAdd, Nat.reduceLeDiff, Nat.reduceMul, Int.reduceLT, Int.reduceLE, Int.reduceAdd, Int.reduceSub, Int.reduceMul, Int.reduceNeg, Int.reduceToNat, Int.reduceEq, h1, h3, b1, h4, hil, hkl, hk10, hi0, hk0, Int.toNat_natCast, b0, d1, d2, d3, d4]
  intro ra hFa hMa
  have ga := ne_of_none hMa f1
  simp only [go_sem, reduceCtorEq, reduceIte, Nat.reduceEqDiff, Nat.reduceAdd, Nat.reduceLeDiff, Nat.reduceMul, Int.reduceLT, Int.reduceLE, Int.reduceAdd, Int.reduceSub, Int.reduceMul, Int.reduceNeg, Int.reduceToNat, Int.reduceEq, h1, h3, b1, h4, ga]
  intro rb hFb hMb
  have gb := fresh_of hMb
  have gb1 := ne_of_none gb.2.2 f1
  have gV : ¬ bV = ra := fun e => by rw [e, hFa] at hbV; cases hbV
  simp only [go_sem, reduceCtorEq, reduceIte, Nat.reduceEqDiff, Nat.reduceAdd, Nat.reduceLeDiff, Nat.reduceMul, Int.reduceLT, Int.reduceLE, Int.reduceAdd, Int.reduceSub, Int.reduceMul, Int.reduceNeg, Int.reduceToNat, Int.reduceEq, h1, h3, b1, h4, ga, gb, gb1, gV, not_false_eq_true]
  have post : ∀ σ M', Old (fzOf W) M' → M' r = some ⟨[.slice (some ⟨bV, oV, none⟩) lv.length cV, .slice a l.length cap], 25, 2⟩ → Ax.look σ 1 = some (.pointer (some ⟨r, 0, none⟩)) → Ax.look σ 3 = some (.int .i64 i) → Ax.look σ 4 = some (.int .i64 (k + 1)) →
      ∃ m, m < mm ∧ mI (fzOf W) lv.length r i [.slice (some ⟨bV, oV, none⟩) lv.length cV, .slice a l.length cap] m σ (fzOf W) M' := by
    intro σ M' q0 q1 q2 q3 q4
    exact ⟨mm - 1, by omega, rfl, q0, q1, q2, q3, k + 1, by omega, q4⟩
  refine callK_same (k34 _ _ va vb) ?_
  cases hp : V.pair va vb
  · simp only [go_sem, reduceCtorEq, reduceIte, Nat.reduceEqDiff, Nat.reduceAdd, Nat.reduceLeDiff, Nat.reduceMul, Int.reduceLT, Int.reduceLE, Int.reduceAdd, Int.reduceSub, Int.reduceMul, Int.reduceNeg, Int.reduceToNat, Int.reduceEq, h1, h3, h4, b1, ga, gb, gb1]
    intro rx hFx hMx
    have gx := fresh_of hMx
    have gx1 := fresh_of gx.2.2
    have gx2 := ne_of_none gx1.2.2 f1
    have hold' := ((hold.upd (e := ⟨va.cs, 28, 6⟩) hFa).upd (e := ⟨vb.cs, 28, 6⟩) hFb).upd (e := ⟨V.zero.cs, 28, 6⟩) hFx
    have hr' : (((M.upd ra ⟨va.cs, 28, 6⟩).upd rb ⟨vb.cs, 28, 6⟩).upd rx ⟨V.zero.cs, 28, 6⟩) r = some ⟨[.slice (some ⟨bV, oV, none⟩) lv.length cV, .slice a l.length cap], 25, 2⟩ := by
      rw [Hp.upd_ne' gx2.1, Hp.upd_ne' gb1.1, Hp.upd_ne' ga.1]; exact f1
    simp only [go_sem, reduceCtorEq, reduceIte, Nat.reduceEqDiff, Nat.reduceAdd, Nat.reduceLeDiff, Nat.reduceMul, Int.reduceLT, Int.reduceLE, Int.reduceAdd, Int.reduceSub, Int.reduceMul, Int.reduceNeg, Int.reduceToNat, Int.reduceEq, h1, h3, h4, b1, ga, gb, gb1, gx, gx1, gx2, ek]
    refine callK_same (k18 _ _ va) ?_
    cases ha : va.ok
    · simp only [go_sem, reduceCtorEq, reduceIte, Nat.reduceEqDiff, Nat.reduceAdd, Nat.reduceLeDiff, Nat.reduceMul, Int.reduceLT, Int.reduceLE, Int.reduceAdd, Int.reduceSub, Int.reduceMul, Int.reduceNeg, Int.reduceToNat, Int.reduceEq, h1, h3, h4, b1, ga, gb, gb1, gx, gx1, gx2, ek]
      refine callK_same (k35 _ _ 1) ?_
      simp only [go_sem, reduceCtorEq, reduceIte, Nat.reduceEqDiff, Nat.reduceAdd, Nat.reduceLeDiff, Nat.reduceMul, Int.reduceLT, Int.reduceLE, Int.reduceAdd, Int.reduceSub, Int.reduceMul, Int.reduceNeg, Int.reduceToNat, Int.reduceEq, h1, h3, h4, b1, ga, gb, gb1, gx, gx1, gx2, ek]
      exact post _ _ hold' hr' (by simp only [go_sem, reduceCtorEq, reduceIte, Nat.reduceEqDiff, Nat.reduceAdd, Nat.reduceLeDiff, Nat.reduceMul, Int.reduceLT, Int.reduceLE, Int.reduceAdd, Int.reduceSub, Int.reduceMul, Int.reduceNeg, Int.reduceToNat, Int.reduceEq, h1]) (by simp only [go_sem, reduceCtorEq, reduceIte, Nat.reduceEqDiff, Nat.reduceAdd, Nat.reduceLeDiff, Nat.reduceMul, Int.reduceLT, Int.reduceLE, Int.reduceAdd, Int.reduceSub, Int.reduceMul, Int.reduceNeg, Int.reduceToNat, Int.reduceEq, h3]) (by simp only [go_sem, reduceCtorEq, reduceIte, Nat.reduceEqDiff, Nat.reduceAdd, Nat.reduceLeDiff, Nat.reduceMul, Int.reduceLT, Int.reduceLE, Int.reduceAdd, Int.reduceSub, Int.reduceMul, Int.reduceNeg, Int.reduceToNat, Int.reduceEq])
    simp only [go_sem, reduceCtorEq, reduceIte, Nat.reduceEqDiff, Nat.reduceAdd, Nat.reduceLeDiff, Nat.reduceMul, Int.reduceLT, Int.reduceLE, Int.reduceAdd, Int.reduceSub, Int.reduceMul, Int.reduceNeg, Int.reduceToNat, Int.reduceEq, h1, h3, h4, b1, ga, gb, gb1, gx, gx1, gx2, ek]
    refine callK_same (k18 _ _ vb) ?_
    cases hb : vb.ok
    · simp only [go_sem, reduceCtorEq, reduceIte, Nat.reduceEqDiff, Nat.reduceAdd, Nat.reduceLeDiff, Nat.reduceMul, Int.reduceLT, Int.reduceLE, Int.reduceAdd, Int.reduceSub, Int.reduceMul, Int.reduceNeg, Int.reduceToNat, Int.reduceEq, h1, h3, h4, b1, ga, gb, gb1, gx, gx1, gx2, ek]
      refine callK_same (k35 _ _ 1) ?_
      simp only [go_sem, reduceCtorEq, reduceIte, Nat.reduceEqDiff, Nat.reduceAdd, Nat.reduceLeDiff, Nat.reduceMul, Int.reduceLT, Int.reduceLE, Int.reduceAdd, Int.reduceSub, Int.reduceMul, Int.reduceNeg, Int.reduceToNat, Int.reduceEq, h1, h3, h4, b1, ga, gb, gb1, gx, gx1, gx2, ek]
      exact post _ _ hold' hr' (by simp only [go_sem, reduceCtorEq, reduceIte, Nat.reduceEqDiff, Nat.reduceAdd, Nat.reduceLeDiff, Nat.reduceMul, Int.reduceLT, Int.reduceLE, Int.reduceAdd, Int.reduceSub, Int.reduceMul, Int.reduceNeg, Int.reduceToNat, Int.reduceEq, h1]) (by simp only [go_sem, reduceCtorEq, reduceIte, Nat.reduceEqDiff, Nat.reduceAdd, Nat.reduceLeDiff, Nat.reduceMul, Int.reduceLT, Int.reduceLE, Int.reduceAdd, Int.reduceSub, Int.reduceMul, Int.reduceNeg, Int.reduceToNat, Int.reduceEq, h3]) (by simp only [go_sem, reduceCtorEq, reduceIte, Nat.reduceEqDiff, Nat.reduceAdd, Nat.reduceLeDiff, Nat.reduceMul, Int.reduceLT, Int.reduceLE, Int.reduceAdd, Int.reduceSub, Int.reduceMul, Int.reduceNeg, Int.reduceToNat, Int.reduceEq])
    have hw : ¬ va.w = vb.w := fun e => by simp [V.pair, ha, hb, e] at hp
    simp only [go_sem, reduceCtorEq, reduceIte, Nat.reduceEqDiff, Nat.reduceAdd, Nat.reduceLeDiff, Nat.reduceMul, Int.reduceLT, Int.reduceLE, Int.reduceAdd, Int.reduceSub, Int.reduceMul, Int.reduceNeg, Int.reduceToNat, Int.reduceEq, h1, h3, h4, b1, ga, gb, gb1, gx, gx1, gx2, ek, hw]
    refine callK_same (k35 _ _ 1) ?_
    simp only [go_sem, reduceCtorEq, reduceIte, Nat.reduceEqDiff, Nat.reduceAdd, Nat.reduceLeDiff, Nat.reduceMul, Int.reduceLT, Int.reduceLE, Int.reduceAdd, Int.reduceSub, Int.reduceMul, Int.reduceNeg, Int.reduceToNat, Int.reduceEq, h1, h3, h4, b1, ga, gb, gb1, gx, gx1, gx2, ek]
    exact post _ _ hold' hr' (by simp only [go_sem, reduceCtorEq, reduceIte, Nat.reduceEqDiff, Nat.reduceAdd, Nat.reduceLeDiff, Nat.reduceMul, Int.reduceLT, Int.reduceLE, Int.reduceAdd, Int.reduceSub, Int.reduceMul, Int.reduceNeg, Int.reduceToNat, Int.reduceEq, h1]) (by simp only [go_sem, reduceCtorEq, reduceIte, Nat.reduceEqDiff, Nat.reduceAdd, Nat.reduceLeDiff, Nat.reduceMul, Int.reduceLT, Int.reduceLE, Int.reduceAdd, Int.reduceSub, Int.reduceMul, Int.reduceNeg, Int.reduceToNat, Int.reduceEq, h3]) (by simp only [go_sem, reduceCtorEq, reduceIte, Nat.reduceEqDiff, Nat.reduceAdd, Nat.reduceLeDiff, Nat.reduceMul, Int.reduceLT, Int.reduceLE, Int.reduceAdd, Int.reduceSub, Int.reduceMul, Int.reduceNeg, Int.reduceToNat, Int.reduceEq])
  have hp' := hp
  simp [V.pair] at hp'
  obtain ⟨⟨ha, hb⟩, hw⟩ := hp'
  have hp2 : V.pair vb va = true := by simp [V.pair, ha, hb, hw]
  have os := out_spec ha hb hw.symm
  have hin : vb.under va = true → va.out vb = va := fun h => by rw [V.out, if_pos h]
  generalize va.out vb = x at *
  simp only [go_sem, reduceCtorEq, reduceIte, Nat.reduceEqDiff, Nat.reduceAdd, Nat.reduceLeDiff, Nat.reduceMul, Int.reduceLT, Int.reduceLE, Int.reduceAdd, Int.reduceSub, Int.reduceMul, Int.reduceNeg, Int.reduceToNat, Int.reduceEq, h1, h3, h4, b1, ga, gb, gb1]
  intro rx hFx hMx
  have gx := fresh_of hMx
  have gx1 := fresh_of gx.2.2
  have gx2 := ne_of_none gx1.2.2 f1
  have hold' := ((hold.upd (e := ⟨va.cs, 28, 6⟩) hFa).upd (e := ⟨vb.cs, 28, 6⟩) hFb).upd (e := ⟨x.cs, 28, 6⟩) hFx
  have hr' : (((M.upd ra ⟨va.cs, 28, 6⟩).upd rb ⟨vb.cs, 28, 6⟩).upd rx ⟨x.cs, 28, 6⟩) r = some ⟨[.slice (some ⟨bV, oV, none⟩) lv.length cV, .slice a l.length cap], 25, 2⟩ := by
    rw [Hp.upd_ne' gx2.1, Hp.upd_ne' gb1.1, Hp.upd_ne' ga.1]; exact f1
  simp only [go_sem, reduceCtorEq, reduceIte, Nat.reduceEqDiff, Nat.reduceAdd, Nat.reduceLeDiff, Nat.reduceMul, Int.reduceLT, Int.reduceLE, Int.reduceAdd, Int.reduceSub, Int.reduceMul, Int.reduceNeg, Int.reduceToNat, Int.reduceEq, h1, h3, h4, b1, ga, gb, gb1, gx, gx1, gx2, ek]
  refine callK_same (k18 _ _ va) ?_
  simp only [go_sem, reduceCtorEq, reduceIte, Nat.reduceEqDiff, Nat.reduceAdd, Nat.reduceLeDiff, Nat.reduceMul, Int.reduceLT, Int.reduceLE, Int.reduceAdd, Int.reduceSub, Int.reduceMul, Int.reduceNeg, Int.reduceToNat, Int.reduceEq, h1, h3, h4, b1, ga, gb, gb1, gx, gx1, gx2, ek, ha]
  refine callK_same (k18 _ _ vb) ?_
  simp only [go_sem, reduceCtorEq, reduceIte, Nat.reduceEqDiff, Nat.reduceAdd, Nat.reduceLeDiff, Nat.reduceMul, Int.reduceLT, Int.reduceLE, Int.reduceAdd, Int.reduceSub, Int.reduceMul, Int.reduceNeg, Int.reduceToNat, Int.reduceEq, h1, h3, h4, b1, ga, gb, gb1, gx, gx1, gx2, ek, hb, hw]
  refine callK_same (k35 _ _ 0) ?_
  simp only [go_sem, reduceCtorEq, reduceIte, Nat.reduceEqDiff, Nat.reduceAdd, Nat.reduceLeDiff, Nat.reduceMul, Int.reduceLT, Int.reduceLE, Int.reduceAdd, Int.reduceSub, Int.reduceMul, Int.reduceNeg, Int.reduceToNat, Int.reduceEq, h1, h3, h4, b1, ga, gb, gb1, gx, gx1, gx2, ek]
  refine callK_same (k38 _ _ vb va) ?_
  simp only [go_sem, reduceCtorEq, reduceIte, Nat.reduceEqDiff, Nat.reduceAdd, Nat.reduceLeDiff, Nat.reduceMul, Int.reduceLT, Int.reduceLE, Int.reduceAdd, Int.reduceSub, Int.reduceMul, Int.reduceNeg, Int.reduceToNat, Int.reduceEq, h1, h3, h4, b1, ga, gb, gb1, gx, gx1, gx2, ek, hp2]
  refine callK_same (k18 _ _ x) ?_
  have xw := os.w
  simp only [go_sem, reduceCtorEq, reduceIte, Nat.reduceEqDiff, Nat.reduceAdd, Nat.reduceLeDiff, Nat.reduceMul, Int.reduceLT, Int.reduceLE, Int.reduceAdd, Int.reduceSub, Int.reduceMul, Int.reduceNeg, Int.reduceToNat, Int.reduceEq, h1, h3, h4, b1, ga, gb, gb1, gx, gx1, gx2, ek, os.ok, xw, eq_self]
  refine callK_same (k36 _ _ va x i ha os.left) ?_
  simp only [go_sem, reduceCtorEq, reduceIte, Nat.reduceEqDiff, Nat.reduceAdd, Nat.reduceLeDiff, Nat.reduceMul, Int.reduceLT, Int.reduceLE, Int.reduceAdd, Int.reduceSub, Int.reduceMul, Int.reduceNeg, Int.reduceToNat, Int.reduceEq, h1, h3, h4, b1, ga, gb, gb1, gx, gx1, gx2, ek]
  refine callK_same (k36 _ _ vb x k hb os.right) ?_
  simp only [go_sem, reduceCtorEq, reduceIte, Nat.reduceEqDiff, Nat.reduceAdd, Nat.reduceLeDiff, Nat.reduceMul, Int.reduceLT, Int.reduceLE, Int.reduceAdd, Int.reduceSub, Int.reduceMul, Int.reduceNeg, Int.reduceToNat, Int.reduceEq, h1, h3, h4, b1, ga, gb, gb1, gx, gx1, gx2, ek]
  refine callK_same (k35 _ _ 0) ?_
  cases hu : vb.under va
  · simp only [go_sem, reduceCtorEq, reduceIte, Nat.reduceEqDiff, Nat.reduceAdd, Nat.reduceLeDiff, Nat.reduceMul, Int.reduceLT, Int.reduceLE, Int.reduceAdd, Int.reduceSub, Int.reduceMul, Int.reduceNeg, Int.reduceToNat, Int.reduceEq, h1, h3, h4, b1, ga, gb, gb1, gx, gx1, gx2, ek]
    exact post _ _ hold' hr' (by simp only [go_sem, reduceCtorEq, reduceIte, Nat.reduceEqDiff, Nat.reduceAdd, Nat.reduceLeDiff, Nat.reduceMul, Int.reduceLT, Int.reduceLE, Int.reduceAdd, Int.reduceSub, Int.reduceMul, Int.reduceNeg, Int.reduceToNat, Int.reduceEq, h1]) (by simp only [go_sem, reduceCtorEq, reduceIte, Nat.reduceEqDiff, Nat.reduceAdd, Nat.reduceLeDiff, Nat.reduceMul, Int.reduceLT, Int.reduceLE, Int.reduceAdd, Int.reduceSub, Int.reduceMul, Int.reduceNeg, Int.reduceToNat, Int.reduceEq, h3]) (by simp only [go_sem, reduceCtorEq, reduceIte, Nat.reduceEqDiff, Nat.reduceAdd, Nat.reduceLeDiff, Nat.reduceMul, Int.reduceLT, Int.reduceLE, Int.reduceAdd, Int.reduceSub, Int.reduceMul, Int.reduceNeg, Int.reduceToNat, Int.reduceEq])
  · have e : decide (x = va) = true := decide_eq_true (hin hu)
    simp only [go_sem, reduceCtorEq, reduceIte, Nat.reduceEqDiff, Nat.reduceAdd, Nat.reduceLeDiff, Nat.reduceMul, Int.reduceLT, Int.reduceLE, Int.reduceAdd, Int.reduceSub, Int.reduceMul, Int.reduceNeg, Int.reduceToNat, Int.reduceEq, h1, h3, h4, b1, ga, gb, gb1, gx, gx1, gx2, ek, e]
    exact post _ _ hold' hr' (by simp only [go_sem, reduceCtorEq, reduceIte, Nat.reduceEqDiff, Nat.reduceAdd, Nat.reduceLeDiff, Nat.reduceMul, Int.reduceLT, Int.reduceLE, Int.reduceAdd, Int.reduceSub, Int.reduceMul, Int.reduceNeg, Int.reduceToNat, Int.reduceEq, h1]) (by simp only [go_sem, reduceCtorEq, reduceIte, Nat.reduceEqDiff, Nat.reduceAdd, Nat.reduceLeDiff, Nat.reduceMul, Int.reduceLT, Int.reduceLE, Int.reduceAdd, Int.reduceSub, Int.reduceMul, Int.reduceNeg, Int.reduceToNat, Int.reduceEq, h3]) (by simp only [go_sem, reduceCtorEq, reduceIte, Nat.reduceEqDiff, Nat.reduceAdd, Nat.reduceLeDiff, Nat.reduceMul, Int.reduceLT, Int.reduceLE, Int.reduceAdd, Int.reduceSub, Int.reduceMul, Int.reduceNeg, Int.reduceToNat, Int.reduceEq])
end Go.Proofs.Ytplcaoidiohlmaa.growWide
