/- The law MathsZero, walked: it returns true at every input. -/
import Derived.Test.YtlcjihpdkdngkabGreatProg
import Derived.Test.YtlcjihpdkdngkabGreatK75to79
namespace Go.Proofs.Tryz.S
open Go Go.Ax Go.Ax.N
set_option maxRecDepth 100000

/-- cellar/cellarlaw4.MathsZero -/
def c6 : SF := ⟨5, [.t 2], (.seq (.ops [k 1 (.bx 25 (t 0)),
 o 2 (.mv (b false))])
 (.seq (.ops [o 3 (.ld true 2 (t 1)),
 k 4 (.ca (.func 9) [(t 3), (i 7)]),
 o 2 (.mv (t 4))])
 .ret))⟩
theorem e6 : slimF Tryz.prog Tryz.f6 [] = some c6 := by kernel_rfl
end Go.Proofs.Tryz.S
namespace Go.Proofs.YtlcjihpdkdngkabGreat.mathsZero
open Go Go.Ax Go.Proofs.Tryz.S Go.Proofs.Tryz.K
set_option maxRecDepth 100000
set_option linter.unusedSimpArgs false
set_option linter.unusedVariables false

theorem call (W : World) (cs : List Value) (h : Rd (fzOf W) (.cons 1 (.slice 6 48 (.cons 1 (.int .i64) (.cons 1 .bool (.cons 1 (.int .i64) (.cons 1 (.int .i64) (.cons 1 (.int .i64) (.cons 1 (.int .i64) .nil))))))) (.cons 1 (.slice 1 8 (.int .i64)) .nil)) cs) :
  CallsA Tryz.prog 6 [.agg cs.toArray] (fzOf W) noHp fun r _ _ => r = .bool true := by
  obtain ⟨vV, vN, rfl, hV, hN⟩ := rd_ask h
  obtain ⟨aV, cV, lv, rfl, hlV, _, hlen, _, hcV⟩ := rd_Vs hV
  obtain ⟨a, cap, l, rfl, hl, hmx, hs, hin, h0, hc⟩ := rd_ints hN
  refine callsA_of hm Tryz.func6 e6 (Nat.le_of_ble_eq_true rfl) ?_
  simp only [c6, go_sem, reduceCtorEq, reduceIte, Nat.reduceEqDiff, Nat.reduceAdd, Nat.reduceLeDiff, Nat.reduceMul, Int.reduceLT, Int.reduceLE, Int.reduceAdd, Int.reduceSub, Int.reduceMul, Int.reduceNeg, Int.reduceToNat, Int.reduceEq]
  intro r hF hM
  have old := (Old.start (fzOf W)).upd (e := ⟨[.slice aV lv.length cV, .slice a l.length cap], 25, 2⟩) hF
  have rV : RdV (fzOf W) (noHp.upd r ⟨[.slice aV lv.length cV, .slice a l.length cap], 25, 2⟩) (.slice aV lv.length cV) lv := by
    refine ⟨by omega, aV, cV, hlV, rfl, ?_⟩
    rcases hcV with h | ⟨b, o, cs, h1, h2, h3⟩
    · exact .inl h
    · exact .inr ⟨b, o, cs, h1, old.blk h2, h3⟩
  have rN : RdI (fzOf W) (noHp.upd r ⟨[.slice aV lv.length cV, .slice a l.length cap], 25, 2⟩) (.slice a l.length cap) l := by
    refine ⟨by omega, a, cap, rfl, ?_⟩
    rcases hc with h | ⟨b, o, cs, h1, h2, h3⟩
    · exact .inl h
    · exact .inr ⟨b, o, cs, h1, old.blk h2, h3⟩
  simp only [go_sem, reduceCtorEq, reduceIte, Nat.reduceEqDiff, Nat.reduceAdd, Nat.reduceLeDiff, Nat.reduceMul, Int.reduceLT, Int.reduceLE, Int.reduceAdd, Int.reduceSub, Int.reduceMul, Int.reduceNeg, Int.reduceToNat, Int.reduceEq]
  refine callK_same (k9 _ _ 7 _ _ lv l old rV rN) ?_
  simp only [go_sem, reduceCtorEq, reduceIte, Nat.reduceEqDiff, Nat.reduceAdd, Nat.reduceLeDiff, Nat.reduceMul, Int.reduceLT, Int.reduceLE, Int.reduceAdd, Int.reduceSub, Int.reduceMul, Int.reduceNeg, Int.reduceToNat, Int.reduceEq]
  exact endK_same rfl
end Go.Proofs.YtlcjihpdkdngkabGreat.mathsZero
