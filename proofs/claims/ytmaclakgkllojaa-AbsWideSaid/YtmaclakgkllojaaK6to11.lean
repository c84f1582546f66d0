/- Parts K6to11: the machine's runs of small codes, contracts of functions, plain facts. -/
import Derived.Test.YtmaclakgkllojaaProg
import Derived.Test.YtmaclakgkllojaaK1to5
namespace Go.Proofs.Try.S
open Go Go.Ax Go.Ax.N
set_option maxRecDepth 100000

/-- cellar/cellarlaw0.Within -/
def c49 : SF := ⟨11, [.t 4], (.seq (.ops [o 4 (.mv (i 0))])
 (.seq (.ops [o 5 (.mv (t 0)),
 o 6 (.cv .u64 (t 5)),
 o 7 (.mv (t 1)),
 o 8 (.cv .u64 (t 7)),
 o 9 (.bin .rem (t 6) (t 8)),
 o 10 (.cv .i64 (t 9)),
 o 4 (.mv (t 10))])
 .ret))⟩
theorem e49 : slimF Try.prog Try.f49 [] = some c49 := by kernel_rfl
/-- cellar/cellarref1.Only -/
def c62 : SF := ⟨17, [.t 2, .t 3], (.seq (.ops [k 1 (.bx 34 (t 0)),
 o 2 (.mv (i 0)),
 o 3 (.mv (b false))])
 (.seq (.ops [o 5 (.ld true 6 (t 1)),
 k 6 (.ca (.func 41) [(t 5), (i 0)]),
 o 4 (.mv (t 6))])
 (.seq (.ops [o 7 (.mv (t 4)),
 o 8 (.mv (t 4)),
 o 9 (.bin .geq (t 8) (i 0)),
 o 10 (.mv (t 9)),
 og 11 10 true (.ld true 6 (t 1)),
 og 12 10 true (.mv (t 4)),
 og 13 10 true (.bin .add (t 12) (i 1)),
 ⟨some 14, some (10, true), .ca (.func 41) [(t 11), (t 13)]⟩,
 og 15 10 true (.bin .lss (t 14) (i 0)),
 o 16 (.pick (t 10) (t 15) (b false)),
 o 2 (.mv (t 7)),
 o 3 (.mv (t 16))])
 .ret)))⟩
theorem e62 : slimF Try.prog Try.f62 [] = some c62 := by kernel_rfl
/-- cellar/val.Void -/
def c109 : SF := ⟨6, [.t 2], (.seq (.ops [k 1 (.bx 34 (t 0)),
 o 2 (.mv (b false))])
 (.seq (.ops [o 3 (.ld true 6 (t 1)),
 k 4 (.ca (.func 140) [(t 3), (i 0)]),
 o 5 (.bin .lss (t 4) (i 0)),
 o 2 (.mv (t 5))])
 .ret))⟩
theorem e109 : slimF Try.prog Try.f109 [] = some c109 := by kernel_rfl
/-- cellar/val.Lone -/
def c110 : SF := ⟨21, [.t 2, .t 3], (.seq (.ops [k 1 (.bx 34 (t 0)),
 o 2 (.mv (i 0)),
 o 3 (.mv (b false))])
 (.seq (.ops [o 7 (.ld true 6 (t 1)),
 k 8 (.ca (.func 123) [(t 7), (i 1)]),
 o 6 (.mv (t 8)),
 o 9 (.ex (t 6) 0),
 o 10 (.ex (t 6) 1),
 o 4 (.mv (t 9)),
 o 5 (.mv (t 10))])
 (.seq (.seq (.ops [o 11 (.mv (t 5)),
 o 12 (.un .not (t 11)),
 o 13 (.mv (t 12)),
 og 14 13 false (.mv (t 4)),
 og 15 13 false (.ln (t 14)),
 og 16 13 false (.bin .eql (t 15) (i 0)),
 o 17 (.pick (t 13) (b true) (t 16))])
 (.cond (t 17)
 (.seq (.ops [o 2 (.mv (i 0)),
 o 3 (.mv (b false))])
 .ret)
 .skip))
 (.seq (.ops [o 18 (.mv (t 4)),
 o 19 (.ia 1 (t 18) (i 0)),
 o 20 (.ld false 1 (t 19)),
 o 2 (.mv (t 20)),
 o 3 (.mv (b true))])
 .ret))))⟩
theorem e110 : slimF Try.prog Try.f110 [] = some c110 := by kernel_rfl
/-- cellar/val.Members -/
def c123 : SF := ⟨24, [.t 4, .t 5], (.seq (.ops [k 2 (.bx 34 (t 0)),
 o 4 (.mv (.const (.slice none 0 0))),
 o 5 (.mv (b false))])
 (.seq (.seq (.ops [o 7 (.ld true 6 (t 2)),
 k 8 (.ca (.func 140) [(t 7), (i 0)]),
 o 6 (.mv (t 8))])
 (.block 0 (.loop (.seq (.seq (.ops [o 9 (.mv (t 6)),
 o 10 (.bin .geq (t 9) (i 0))])
 (.cond (t 10)
 .skip
 (.exit 0)))
 (.seq (.block 1 (.seq (.seq (.ops [o 15 (.mv (t 4)),
 o 16 (.ln (t 15)),
 o 17 (.mv (t 1)),
 o 18 (.bin .eql (t 16) (t 17))])
 (.cond (t 18)
 (.seq (.ops [o 4 (.mv (.const (.slice none 0 0))),
 o 5 (.mv (b false))])
 .ret)
 .skip))
 (.ops [o 19 (.mv (t 4)),
 o 20 (.mv (t 6)),
 k 21 (.bs 3 1 [.int .i64 0] [(0, 1, (t 20))]),
 k 22 (.ap 3 1 8 (t 19) (t 21)),
 o 4 (.mv (t 22))])))
 (.ops [o 11 (.ld true 6 (t 2)),
 o 12 (.mv (t 6)),
 o 13 (.bin .add (t 12) (i 1)),
 k 14 (.ca (.func 140) [(t 11), (t 13)]),
 o 6 (.mv (t 14))]))))))
 (.seq (.ops [o 23 (.mv (t 4)),
 o 4 (.mv (t 23)),
 o 5 (.mv (b true))])
 .ret)))⟩
theorem e123 : slimF Try.prog Try.f123 [] = some c123 := by kernel_rfl
/-- cellar/val.From -/
def c140 : SF := ⟨44, [.t 4], (.seq (.ops [k 2 (.bx 34 (t 0)),
 o 4 (.mv (i 0))])
 (.seq (.seq (.ops [o 8 (.fa 1 (t 2)),
 o 9 (.ld false 1 (t 8)),
 o 10 (.mv (t 9)),
 og 11 10 false (.mv (t 1)),
 og 12 10 false (.fa 0 (t 2)),
 og 13 10 false (.ld false 1 (t 12)),
 ⟨some 14, some (10, false), .ca (.func 137) [(t 13)]⟩,
 og 15 10 false (.bin .gtr (t 11) (t 14)),
 o 16 (.pick (t 10) (b true) (t 15))])
 (.cond (t 16)
 (.seq (.ops [o 4 (.mv (i (-1)))])
 .ret)
 .skip))
 (.seq (.seq (.ops [o 17 (.ld true 6 (t 2)),
 k 18 (.ca (.func 155) [(t 17)]),
 o 19 (.ln (t 18)),
 o 20 (.mv (i 0))])
 (.block 0 (.loop (.seq (.ops [o 21 (.bin .lss (t 20) (t 19))])
 (.seq (.cond (t 21)
 .skip
 (.exit 0))
 (.seq (.block 1 (.seq (.ops [o 22 (.ia 2 (t 18) (t 20)),
 o 23 (.ld true 2 (t 22)),
 k 6 (.al 143 [.int .i64 0, .int .i64 0]),
 kn (.st [] 2 (t 6) (t 23))])
 (.seq (.seq (.ops [o 24 (.mv (t 1)),
 o 25 (.iaa 2 1 (t 6) (i 1)),
 o 26 (.ld false 1 (t 25)),
 o 27 (.bin .gtr (t 24) (t 26))])
 (.cond (t 27)
 (.exit 1)
 .skip))
 (.seq (.ops [o 28 (.ld true 6 (t 2)),
 o 29 (.mv (t 1)),
 o 30 (.iaa 2 1 (t 6) (i 0)),
 o 31 (.ld false 1 (t 30)),
 o 32 (.mx [(t 29), (t 31)]),
 k 33 (.ca (.func 156) [(t 28), (t 32)]),
 o 7 (.mv (t 33))])
 (.seq (.ops [o 34 (.mv (t 7)),
 o 35 (.bin .geq (t 34) (i 0)),
 o 36 (.mv (t 35)),
 og 37 36 true (.mv (t 7)),
 og 38 36 true (.iaa 2 1 (t 6) (i 1)),
 og 39 36 true (.ld false 1 (t 38)),
 og 40 36 true (.bin .leq (t 37) (t 39)),
 o 41 (.pick (t 36) (t 40) (b false))])
 (.cond (t 41)
 (.seq (.ops [o 42 (.mv (t 7)),
 o 4 (.mv (t 42))])
 .ret)
 .skip))))))
 (.ops [o 43 (.bin .add (t 20) (i 1)),
 o 20 (.mv (t 43))])))))))
 (.seq (.ops [o 4 (.mv (i (-1)))])
 .ret))))⟩
theorem e140 : slimF Try.prog Try.f140 [] = some c140 := by kernel_rfl
/-- cellar/val.parts -/
def c155 : SF := ⟨24, [.t 2], (.seq (.ops [k 1 (.bx 34 (t 0)),
 o 2 (.mv (.const (.slice none 0 0)))])
 (.seq (.seq (.ops [o 3 (.fa 2 (t 1)),
 o 4 (.ld false 1 (t 3)),
 o 5 (.fa 3 (t 1)),
 o 6 (.ld false 1 (t 5)),
 o 7 (.bin .leq (t 4) (t 6))])
 (.cond (t 7)
 (.seq (.ops [o 8 (.fa 2 (t 1)),
 o 9 (.ld false 1 (t 8)),
 o 10 (.fa 3 (t 1)),
 o 11 (.ld false 1 (t 10)),
 o 12 (.bd [.int .i64 0, .int .i64 0] [(0, 1, (t 9)), (1, 1, (t 11))]),
 k 13 (.bs 143 1 [.int .i64 0, .int .i64 0] [(0, 2, (t 12))]),
 o 2 (.mv (t 13))])
 .ret)
 .skip))
 (.seq (.opd [o 14 (.fa 3 (t 1)),
 o 15 (.ld false 1 (t 14)),
 o 16 (.bd [.int .i64 0, .int .i64 0] [(0, 1, (i 0)), (1, 1, (t 15))]),
 o 17 (.fa 2 (t 1)),
 o 18 (.ld false 1 (t 17)),
 o 19 (.fa 0 (t 1)),
 o 20 (.ld false 1 (t 19)),
 k 21 (.ca (.func 137) [(t 20)]),
 o 22 (.bd [.int .i64 0, .int .i64 0] [(0, 1, (t 18)), (1, 1, (t 21))]),
 k 23 (.bs 143 2 [.int .i64 0, .int .i64 0, .int .i64 0, .int .i64 0] [(0, 2, (t 16)), (2, 2, (t 22))]),
 o 2 (.mv (t 23))])
 .ret)))⟩
theorem e155 : slimF Try.prog Try.f155 [[(0, []), (1, []), (2, []), (3, []), (4, []), (5, []), (6, []), (7, []), (8, []), (9, []), (10, [])]] = some c155 := by kernel_rfl
/-- cellar/val.fill -/
def c156 : SF := ⟨54, [.t 4], (.seq (.ops [k 2 (.bx 34 (t 0)),
 o 4 (.mv (i 0))])
 (.seq (.seq (.ops [o 8 (.mv (t 1)),
 o 9 (.fa 4 (t 2)),
 o 10 (.ld false 1 (t 9)),
 o 11 (.bin .andNot (t 8) (t 10)),
 o 12 (.fa 5 (t 2)),
 o 13 (.ld false 1 (t 12)),
 o 14 (.bin .eql (t 11) (t 13))])
 (.cond (t 14)
 (.seq (.ops [o 15 (.mv (t 1)),
 o 4 (.mv (t 15))])
 .ret)
 .skip))
 (.seq (.seq (.ops [o 16 (.fa 0 (t 2)),
 o 17 (.ld false 1 (t 16)),
 o 18 (.mv (i 0))])
 (.block 0 (.loop (.seq (.ops [o 19 (.bin .lss (t 18) (t 17))])
 (.seq (.cond (t 19)
 .skip
 (.exit 0))
 (.seq (.block 1 (.seq (.ops [o 20 (.mv (t 18)),
 o 5 (.mv (t 20))])
 (.seq (.ops [o 21 (.mv (t 5)),
 o 22 (.bin .shl (i 1) (t 21)),
 o 6 (.mv (t 22))])
 (.seq (.seq (.ops [o 23 (.mv (t 1)),
 o 24 (.mv (t 6)),
 o 25 (.bin .and (t 23) (t 24)),
 o 26 (.bin .neq (t 25) (i 0))])
 (.cond (t 26)
 (.exit 1)
 .skip))
 (.seq (.ops [o 27 (.mv (t 1)),
 o 28 (.mv (t 6)),
 o 29 (.bin .sub (t 28) (i 1)),
 o 30 (.bin .andNot (t 27) (t 29)),
 o 31 (.mv (t 6)),
 o 32 (.bin .or (t 30) (t 31)),
 o 7 (.mv (t 32))])
 (.seq (.ops [o 33 (.mv (t 7)),
 o 34 (.fa 4 (t 2)),
 o 35 (.ld false 1 (t 34)),
 o 36 (.bin .andNot (t 33) (t 35)),
 o 37 (.mv (t 6)),
 o 38 (.bin .sub (t 37) (i 1)),
 o 39 (.bin .andNot (t 36) (t 38)),
 o 40 (.fa 5 (t 2)),
 o 41 (.ld false 1 (t 40)),
 o 42 (.mv (t 6)),
 o 43 (.bin .sub (t 42) (i 1)),
 o 44 (.bin .andNot (t 41) (t 43)),
 o 45 (.bin .eql (t 39) (t 44))])
 (.cond (t 45)
 (.seq (.ops [o 46 (.mv (t 7)),
 o 47 (.fa 5 (t 2)),
 o 48 (.ld false 1 (t 47)),
 o 49 (.mv (t 6)),
 o 50 (.bin .sub (t 49) (i 1)),
 o 51 (.bin .and (t 48) (t 50)),
 o 52 (.bin .or (t 46) (t 51)),
 o 4 (.mv (t 52))])
 .ret)
 .skip)))))))
 (.ops [o 53 (.bin .add (t 18) (i 1)),
 o 18 (.mv (t 53))])))))))
 (.seq (.ops [o 4 (.mv (i (-1)))])
 .ret))))⟩
theorem e156 : slimF Try.prog Try.f156 [] = some c156 := by kernel_rfl
end Go.Proofs.Try.S
/- Contract: the page's only one. -/
namespace Go.Proofs.Try.K
open Go Go.Ax Go.Proofs.Try.S
set_option maxRecDepth 100000
set_option linter.unusedSimpArgs false
set_option linter.unusedVariables false
variable (F : Fz) (M : Hp)

def onlyA (v : V) : Value := .tuple #[.int .i64 (v.nextR 0), .bool (decide (0 ≤ v.nextR 0) && decide (v.nextR (v.nextR 0 + 1) < 0))]
theorem k62 (v : V) (hv : v.ok = true) : CallsA Try.prog 62 [v.val] F M (Same F M (onlyA v)) := by
  refine callsA_of hm Try.func62 e62 (Nat.le_of_ble_eq_true rfl) ?_
  have hl := isW_le (ok_isW hv)
  have hn := nextR_le hv 0
  have hm := mostV_pos hl.2
  have e1 : IntKind.i64.wrap (v.nextR 0 + 1) = v.nextR 0 + 1 := w64 (by omega) (by omega)
  simp only [c62, go_sem, reduceCtorEq, reduceIte, Nat.reduceEqDiff, Nat.reduceAdd, Nat.reduceLeDiff, Nat.reduceMul, Int.reduceLT, Int.reduceLE, Int.reduceAdd, Int.reduceSub, Int.reduceMul, Int.reduceNeg, Int.reduceToNat, Int.reduceEq]
  intro r hF hM
  simp only [go_sem, reduceCtorEq, reduceIte, Nat.reduceEqDiff, Nat.reduceAdd, Nat.reduceLeDiff, Nat.reduceMul, Int.reduceLT, Int.reduceLE, Int.reduceAdd, Int.reduceSub, Int.reduceMul, Int.reduceNeg, Int.reduceToNat, Int.reduceEq]
  refine callK_same (k41 F _ v 0 hl.1 hl.2) ?_
  simp only [go_sem, reduceCtorEq, reduceIte, Nat.reduceEqDiff, Nat.reduceAdd, Nat.reduceLeDiff, Nat.reduceMul, Int.reduceLT, Int.reduceLE, Int.reduceAdd, Int.reduceSub, Int.reduceMul, Int.reduceNeg, Int.reduceToNat, Int.reduceEq]
  by_cases h0 : 0 ≤ v.nextR 0
  · simp only [go_sem, reduceCtorEq, reduceIte, Nat.reduceEqDiff, Nat.reduceAdd, Nat.reduceLeDiff, Nat.reduceMul, Int.reduceLT, Int.reduceLE, Int.reduceAdd, Int.reduceSub, Int.reduceMul, Int.reduceNeg, Int.reduceToNat, Int.reduceEq, h0, e1]
    refine callK_same (k41 F _ v (v.nextR 0 + 1) hl.1 hl.2) ?_
    simp only [go_sem, reduceCtorEq, reduceIte, Nat.reduceEqDiff, Nat.reduceAdd, Nat.reduceLeDiff, Nat.reduceMul, Int.reduceLT, Int.reduceLE, Int.reduceAdd, Int.reduceSub, Int.reduceMul, Int.reduceNeg, Int.reduceToNat, Int.reduceEq, h0, e1]
    exact endK_drop hM (endK_same ⟨by simp [onlyA, retV, h0], rfl, rfl⟩)
  · simp only [go_sem, reduceCtorEq, reduceIte, Nat.reduceEqDiff, Nat.reduceAdd, Nat.reduceLeDiff, Nat.reduceMul, Int.reduceLT, Int.reduceLE, Int.reduceAdd, Int.reduceSub, Int.reduceMul, Int.reduceNeg, Int.reduceToNat, Int.reduceEq, h0, e1]
    exact endK_drop hM (endK_same ⟨by simp [onlyA, retV, h0], rfl, rfl⟩)
end Go.Proofs.Try.K

/- Contract: the program's own least number that fits. -/
namespace Go.Proofs.Try.K
open Go Go.Ax Go.Proofs.Try.S
set_option maxRecDepth 100000
set_option linter.unusedSimpArgs false
set_option linter.unusedVariables false
variable (F : Fz) (M : Hp)

def fillI (v : V) (n : Int) (F : Fz) (M : Hp) (r : Nat) (m : Nat) (σ : Env) (F' : Fz) (M' : Hp) : Prop :=
  F' = F ∧ M' = M.upd r ⟨v.cs, 34, 6⟩ ∧ ∃ j : Nat, j + m = v.w.toNat ∧ Ax.look σ 1 = some (.int .i64 n) ∧ Ax.look σ 2 = some (.pointer (some ⟨r, 0, none⟩)) ∧ Ax.look σ 17 = some (.int .i64 v.w) ∧ Ax.look σ 18 = some (.int .i64 j) ∧ v.fillGo n m j = v.fillF n

theorem k156 (v : V) (n : Int) (hw : v.w ≤ 62) : CallsA Try.prog 156 [v.val, .int .i64 n] F M (Same F M (.int .i64 (v.fillF n))) := by
  refine callsA_of hm Try.func156 e156 (Nat.le_of_ble_eq_true rfl) ?_
  simp only [c156, go_sem, reduceCtorEq, reduceIte, Nat.reduceEqDiff, Nat.reduceAdd, Nat.reduceLeDiff, Nat.reduceMul, Int.reduceLT, Int.reduceLE, Int.reduceAdd, Int.reduceSub, Int.reduceMul, Int.reduceNeg, Int.reduceToNat, Int.reduceEq]
  intro r hF hM
  simp only [go_sem, reduceCtorEq, reduceIte, Nat.reduceEqDiff, Nat.reduceAdd, Nat.reduceLeDiff, Nat.reduceMul, Int.reduceLT, Int.reduceLE, Int.reduceAdd, Int.reduceSub, Int.reduceMul, Int.reduceNeg, Int.reduceToNat, Int.reduceEq]
  by_cases hb : bclr .i64 n v.free = v.bits
  · simp only [go_sem, reduceCtorEq, reduceIte, Nat.reduceEqDiff, Nat.reduceAdd, Nat.reduceLeDiff, Nat.reduceMul, Int.reduceLT, Int.reduceLE, Int.reduceAdd, Int.reduceSub, Int.reduceMul, Int.reduceNeg, Int.reduceToNat, Int.reduceEq, hb]
    exact endK_drop hM (endK_same ⟨by simp [V.fillF, hb], rfl, rfl⟩)
  simp only [go_sem, reduceCtorEq, reduceIte, Nat.reduceEqDiff, Nat.reduceAdd, Nat.reduceLeDiff, Nat.reduceMul, Int.reduceLT, Int.reduceLE, Int.reduceAdd, Int.reduceSub, Int.reduceMul, Int.reduceNeg, Int.reduceToNat, Int.reduceEq, hb]
  refine loop_of (fillI v n F M r) v.w.toNat ?_ ?_
  · exact ⟨rfl, rfl, 0, by omega, by simp only [go_sem, reduceCtorEq, reduceIte, Nat.reduceEqDiff], by simp only [go_sem, reduceCtorEq, reduceIte, Nat.reduceEqDiff], by simp only [go_sem, reduceCtorEq, reduceIte, Nat.reduceEqDiff], by simp only [go_sem, reduceCtorEq, reduceIte, Nat.reduceEqDiff], by simp [V.fillF, hb]⟩
  · rintro m σ F' M' ⟨rfl, rfl, j, hj, h1, h2, h6, h5, hg⟩
    by_cases hjw : (j : Int) < v.w
    · obtain ⟨f, rfl⟩ : ∃ f, m = f + 1 := ⟨m - 1, by omega⟩
      have e1 : IntKind.i64.wrap ((j : Int) + 1) = j + 1 := w64 (by omega) (by omega)
      have e2 : ¬ ((j : Int) + 1 < 0) := by omega
      have e3 : ¬ ((j : Int) < 0) := by omega
      have e4 : shlv .i64 1 (j : Int) = 2 ^ j := by rw [shl1 (by omega) (by omega)]; simp
      have e5 : IntKind.i64.wrap ((2 : Int) ^ j - 1) = 2 ^ j - 1 := by
        have := most_wrap (w := (j : Int)) (by omega) (by omega)
        simpa [mostV] using this
      simp only [go_sem, reduceCtorEq, reduceIte, Nat.reduceEqDiff, Nat.reduceAdd, Nat.reduceLeDiff, Nat.reduceMul, Int.reduceLT, Int.reduceLE, Int.reduceAdd, Int.reduceSub, Int.reduceMul, Int.reduceNeg, Int.reduceToNat, Int.reduceEq, e1, e2, e3, e4, e5, h1, h2, h5, h6, hjw]
      simp only [V.fillGo] at hg
      by_cases a1 : band .i64 n (2 ^ j) = 0
      · simp only [go_sem, reduceCtorEq, reduceIte, Nat.reduceEqDiff, Nat.reduceAdd, Nat.reduceLeDiff, Nat.reduceMul, Int.reduceLT, Int.reduceLE, Int.reduceAdd, Int.reduceSub, Int.reduceMul, Int.reduceNeg, Int.reduceToNat, Int.reduceEq, e1, e2, e3, e4, e5, h1, h2, h5, h6, a1]
        by_cases a2 : bclr .i64 (bclr .i64 (bor .i64 (bclr .i64 n (2 ^ j - 1)) (2 ^ j)) v.free) (2 ^ j - 1) = bclr .i64 v.bits (2 ^ j - 1)
        · simp only [go_sem, reduceCtorEq, reduceIte, Nat.reduceEqDiff, Nat.reduceAdd, Nat.reduceLeDiff, Nat.reduceMul, Int.reduceLT, Int.reduceLE, Int.reduceAdd, Int.reduceSub, Int.reduceMul, Int.reduceNeg, Int.reduceToNat, Int.reduceEq, e1, e2, e3, e4, e5, h1, h2, h5, h6, a2]
          exact endK_drop hM (endK_same ⟨by rw [← hg, V.fillStep, if_pos ⟨a1, a2⟩], rfl, rfl⟩)
        · simp only [go_sem, reduceCtorEq, reduceIte, Nat.reduceEqDiff, Nat.reduceAdd, Nat.reduceLeDiff, Nat.reduceMul, Int.reduceLT, Int.reduceLE, Int.reduceAdd, Int.reduceSub, Int.reduceMul, Int.reduceNeg, Int.reduceToNat, Int.reduceEq, e1, e2, e3, e4, e5, h1, h2, h5, h6, a2]
          exact ⟨f, by omega, rfl, rfl, j + 1, by omega, by simp only [go_sem, reduceCtorEq, reduceIte, Nat.reduceEqDiff, h1], by simp only [go_sem, reduceCtorEq, reduceIte, Nat.reduceEqDiff, h2], by simp only [go_sem, reduceCtorEq, reduceIte, Nat.reduceEqDiff, h6], by simp only [go_sem, reduceCtorEq, reduceIte, Nat.reduceEqDiff]; rfl, by rw [← hg, V.fillStep, if_neg (by simp [a2])]⟩
      · simp only [go_sem, reduceCtorEq, reduceIte, Nat.reduceEqDiff, Nat.reduceAdd, Nat.reduceLeDiff, Nat.reduceMul, Int.reduceLT, Int.reduceLE, Int.reduceAdd, Int.reduceSub, Int.reduceMul, Int.reduceNeg, Int.reduceToNat, Int.reduceEq, e1, e2, e3, e4, e5, h1, h2, h5, h6, a1]
        exact ⟨f, by omega, rfl, rfl, j + 1, by omega, by simp only [go_sem, reduceCtorEq, reduceIte, Nat.reduceEqDiff, h1], by simp only [go_sem, reduceCtorEq, reduceIte, Nat.reduceEqDiff, h2], by simp only [go_sem, reduceCtorEq, reduceIte, Nat.reduceEqDiff, h6], by simp only [go_sem, reduceCtorEq, reduceIte, Nat.reduceEqDiff]; rfl, by rw [← hg, V.fillStep, if_neg (by simp [a1])]⟩
    · simp only [go_sem, reduceCtorEq, reduceIte, Nat.reduceEqDiff, Nat.reduceAdd, Nat.reduceLeDiff, Nat.reduceMul, Int.reduceLT, Int.reduceLE, Int.reduceAdd, Int.reduceSub, Int.reduceMul, Int.reduceNeg, Int.reduceToNat, Int.reduceEq, h1, h2, h5, h6, hjw]
      obtain rfl : m = 0 := by omega
      exact endK_drop hM (endK_same ⟨by rw [← hg]; rfl, rfl, rfl⟩)
end Go.Proofs.Try.K

/- Contracts: the program's own parts of a set, and the next member from a number on. -/
namespace Go.Proofs.Try.K
open Go Go.Ax Go.Proofs.Try.S
set_option maxRecDepth 100000
set_option linter.unusedSimpArgs false
set_option linter.unusedVariables false
variable (F : Fz) (M : Hp)

theorem k155 (v : V) (h0 : 0 ≤ v.w) (hw : v.w ≤ 62) : CallsA Try.prog 155 [v.val] F M fun u F' M' => F' = F ∧ ∃ r, F r = none ∧ M r = none ∧
    ((v.low ≤ v.high ∧ u = .slice (some ⟨r, 0, none⟩) 1 1 ∧ M' = M.upd r ⟨[.int .i64 v.low, .int .i64 v.high], 143, 2⟩) ∨
     (¬ v.low ≤ v.high ∧ u = .slice (some ⟨r, 0, none⟩) 2 2 ∧ M' = M.upd r ⟨[.int .i64 0, .int .i64 v.high, .int .i64 v.low, .int .i64 (mostV v.w)], 143, 4⟩)) := by
  refine callsA_of hm Try.func155 e155 (Nat.le_of_ble_eq_true rfl) ?_
  simp only [c155, go_sem, reduceCtorEq, reduceIte, Nat.reduceEqDiff, Nat.reduceAdd, Nat.reduceLeDiff, Nat.reduceMul, Int.reduceLT, Int.reduceLE, Int.reduceAdd, Int.reduceSub, Int.reduceMul, Int.reduceNeg, Int.reduceToNat, Int.reduceEq]
  intro r hF hM
  simp only [go_sem, reduceCtorEq, reduceIte, Nat.reduceEqDiff, Nat.reduceAdd, Nat.reduceLeDiff, Nat.reduceMul, Int.reduceLT, Int.reduceLE, Int.reduceAdd, Int.reduceSub, Int.reduceMul, Int.reduceNeg, Int.reduceToNat, Int.reduceEq]
  by_cases hlh : v.low ≤ v.high
  · simp only [go_sem, reduceCtorEq, reduceIte, Nat.reduceEqDiff, Nat.reduceAdd, Nat.reduceLeDiff, Nat.reduceMul, Int.reduceLT, Int.reduceLE, Int.reduceAdd, Int.reduceSub, Int.reduceMul, Int.reduceNeg, Int.reduceToNat, Int.reduceEq, hlh]
    intro r1 hF1 hM1
    have g := fresh_of hM1
    simp only [go_sem, reduceCtorEq, reduceIte, Nat.reduceEqDiff, Nat.reduceAdd, Nat.reduceLeDiff, Nat.reduceMul, Int.reduceLT, Int.reduceLE, Int.reduceAdd, Int.reduceSub, Int.reduceMul, Int.reduceNeg, Int.reduceToNat, Int.reduceEq]
    refine endK_comm g.2.1 (endK_drop (by rw [upd_none]; exact ⟨g.2.1, hM⟩) (endK_same ⟨rfl, r1, hF1, g.2.2, .inl ⟨rfl, rfl⟩⟩))
  · simp only [go_sem, reduceCtorEq, reduceIte, Nat.reduceEqDiff, Nat.reduceAdd, Nat.reduceLeDiff, Nat.reduceMul, Int.reduceLT, Int.reduceLE, Int.reduceAdd, Int.reduceSub, Int.reduceMul, Int.reduceNeg, Int.reduceToNat, Int.reduceEq, hlh]
    refine callK_same (k137 F _ v.w h0 hw) ?_
    simp only [go_sem, reduceCtorEq, reduceIte, Nat.reduceEqDiff, Nat.reduceAdd, Nat.reduceLeDiff, Nat.reduceMul, Int.reduceLT, Int.reduceLE, Int.reduceAdd, Int.reduceSub, Int.reduceMul, Int.reduceNeg, Int.reduceToNat, Int.reduceEq]
    intro r1 hF1 hM1
    have g := fresh_of hM1
    simp only [go_sem, reduceCtorEq, reduceIte, Nat.reduceEqDiff, Nat.reduceAdd, Nat.reduceLeDiff, Nat.reduceMul, Int.reduceLT, Int.reduceLE, Int.reduceAdd, Int.reduceSub, Int.reduceMul, Int.reduceNeg, Int.reduceToNat, Int.reduceEq]
    refine endK_comm g.2.1 (endK_drop (by rw [upd_none]; exact ⟨g.2.1, hM⟩) (endK_same ⟨rfl, r1, hF1, g.2.2, rfl, rfl⟩))

def fromI (v : V) (n : Int) (F : Fz) (M : Hp) (r r1 len : Nat) (cells : List Value) (m : Nat) (σ : Env) (F' : Fz) (M' : Hp) : Prop :=
  F' = F ∧ M' r = some ⟨v.cs, 34, 6⟩ ∧ M' r1 = some ⟨cells, 143, cells.length⟩ ∧ Wk F M' F M ∧ Ax.look σ 1 = some (.int .i64 n) ∧ Ax.look σ 2 = some (.pointer (some ⟨r, 0, none⟩)) ∧
    Ax.look σ 18 = some (.slice (some ⟨r1, 0, none⟩) len len) ∧ Ax.look σ 19 = some (.int .i64 len) ∧
    (m = len ∧ Ax.look σ 20 = some (.int .i64 0) ∨ m + 1 = len ∧ Ax.look σ 20 = some (.int .i64 1) ∧ v.tryP n v.p0 = none ∨ len = 2 ∧ m = 0 ∧ Ax.look σ 20 = some (.int .i64 2) ∧ v.tryP n v.p0 = none ∧ v.tryP n v.p1 = none)

theorem k140 (v : V) (n : Int) (hv : v.ok = true) : CallsA Try.prog 140 [v.val, .int .i64 n] F M (Same F M (.int .i64 (v.nextR n))) := by
  refine callsA_of hm Try.func140 e140 (Nat.le_of_ble_eq_true rfl) ?_
  have hl := isW_le (ok_isW hv)
  simp only [c140, go_sem, reduceCtorEq, reduceIte, Nat.reduceEqDiff, Nat.reduceAdd, Nat.reduceLeDiff, Nat.reduceMul, Int.reduceLT, Int.reduceLE, Int.reduceAdd, Int.reduceSub, Int.reduceMul, Int.reduceNeg, Int.reduceToNat, Int.reduceEq]
  intro r hF hM
  simp only [go_sem, reduceCtorEq, reduceIte, Nat.reduceEqDiff, Nat.reduceAdd, Nat.reduceLeDiff, Nat.reduceMul, Int.reduceLT, Int.reduceLE, Int.reduceAdd, Int.reduceSub, Int.reduceMul, Int.reduceNeg, Int.reduceToNat, Int.reduceEq]
  cases hno : v.no
  rotate_left
  · simp only [go_sem, reduceCtorEq, reduceIte, Nat.reduceEqDiff, Nat.reduceAdd, Nat.reduceLeDiff, Nat.reduceMul, Int.reduceLT, Int.reduceLE, Int.reduceAdd, Int.reduceSub, Int.reduceMul, Int.reduceNeg, Int.reduceToNat, Int.reduceEq]
    exact endK_drop hM (endK_same ⟨by simp [V.nextR, hno], rfl, rfl⟩)
  simp only [go_sem, reduceCtorEq, reduceIte, Nat.reduceEqDiff, Nat.reduceAdd, Nat.reduceLeDiff, Nat.reduceMul, Int.reduceLT, Int.reduceLE, Int.reduceAdd, Int.reduceSub, Int.reduceMul, Int.reduceNeg, Int.reduceToNat, Int.reduceEq]
  refine callK_same (k137 F _ v.w hl.1 hl.2) ?_
  by_cases hbig : mostV v.w < n
  · simp only [go_sem, reduceCtorEq, reduceIte, Nat.reduceEqDiff, Nat.reduceAdd, Nat.reduceLeDiff, Nat.reduceMul, Int.reduceLT, Int.reduceLE, Int.reduceAdd, Int.reduceSub, Int.reduceMul, Int.reduceNeg, Int.reduceToNat, Int.reduceEq, hbig]
    exact endK_drop hM (endK_same ⟨by rw [V.nextR, if_pos (.inr (by unfold mostV at hbig; omega))], rfl, rfl⟩)
  have hc : ¬ (v.no = true ∨ 2 ^ v.w.toNat ≤ n) := by unfold mostV at hbig; simp [hno]; omega
  obtain ⟨hp0, hp1, hq0, hq1⟩ := parts_in hv hno
  simp only [go_sem, reduceCtorEq, reduceIte, Nat.reduceEqDiff, Nat.reduceAdd, Nat.reduceLeDiff, Nat.reduceMul, Int.reduceLT, Int.reduceLE, Int.reduceAdd, Int.reduceSub, Int.reduceMul, Int.reduceNeg, Int.reduceToNat, Int.reduceEq, hbig]
  refine callK_of (k155 F _ v hl.1 hl.2) ?_
  rintro u G' M' ⟨hG, r1, hF1, hM1, ⟨hlh, rfl, rfl⟩ | ⟨hlh, rfl, rfl⟩⟩ <;> rw [hG]
  · have g1 := fresh_of hM1
    refine ⟨(fun h => by cases h), ?_⟩
    simp only [go_sem, reduceCtorEq, reduceIte, Nat.reduceEqDiff, Nat.reduceAdd, Nat.reduceLeDiff, Nat.reduceMul, Int.reduceLT, Int.reduceLE, Int.reduceAdd, Int.reduceSub, Int.reduceMul, Int.reduceNeg, Int.reduceToNat, Int.reduceEq]
    refine loop_of (fromI v n F M r r1 1 [.int .i64 v.p0.1, .int .i64 v.p0.2]) 1 ?_ ?_
    · exact ⟨rfl, by rw [Hp.upd_ne' g1.2.1]; exact Hp.upd_same _ _ _, (Hp.upd_same _ _ _).trans (by simp [V.p0, V.p1, hlh]), (Wk.drop hM1).trans (Wk.drop hM), by simp only [go_sem, reduceCtorEq, reduceIte, Nat.reduceEqDiff], by simp only [go_sem, reduceCtorEq, reduceIte, Nat.reduceEqDiff], by simp only [go_sem, reduceCtorEq, reduceIte, Nat.reduceEqDiff], by simp only [go_sem, reduceCtorEq, reduceIte, Nat.reduceEqDiff], .inl ⟨rfl, by simp only [go_sem, reduceCtorEq, reduceIte, Nat.reduceEqDiff]⟩⟩
    rintro m σ F' M' ⟨rfl, f1, f2, hk, h1, h2, h18, h19, h20⟩
    have b1 := blk_M (F := F') f1
    have b2 := blk_M (F := F') f2
    rcases h20 with ⟨rfl, h20⟩ | ⟨hm1, h20, t0⟩ | ⟨hcf, _⟩
    · simp only [go_sem, reduceCtorEq, reduceIte, Nat.reduceEqDiff, Nat.reduceAdd, Nat.reduceLeDiff, Nat.reduceMul, Int.reduceLT, Int.reduceLE, Int.reduceAdd, Int.reduceSub, Int.reduceMul, Int.reduceNeg, Int.reduceToNat, Int.reduceEq, h1, h2, h18, h19, b1, b2, h20]
      intro rp hFp hMp
      have g2 := ne_of_none hMp f1
      have g3 := ne_of_none hMp f2
      simp only [go_sem, reduceCtorEq, reduceIte, Nat.reduceEqDiff, Nat.reduceAdd, Nat.reduceLeDiff, Nat.reduceMul, Int.reduceLT, Int.reduceLE, Int.reduceAdd, Int.reduceSub, Int.reduceMul, Int.reduceNeg, Int.reduceToNat, Int.reduceEq, h1, h2, h18, h19, b1, b2, h20, g2, g3]
      by_cases a1 : v.p0.2 < n
      · simp only [go_sem, reduceCtorEq, reduceIte, Nat.reduceEqDiff, Nat.reduceAdd, Nat.reduceLeDiff, Nat.reduceMul, Int.reduceLT, Int.reduceLE, Int.reduceAdd, Int.reduceSub, Int.reduceMul, Int.reduceNeg, Int.reduceToNat, Int.reduceEq, h1, h2, h18, h19, b1, b2, h20, g2, g3, a1]
        have t0 : v.tryP n v.p0 = none := tryP_out (.inl a1)
        exact ⟨0, by omega, rfl, by rw [Hp.upd_ne' g2.1]; exact f1, by rw [Hp.upd_ne' g3.1]; exact f2, (Wk.drop hMp).trans hk, by simp only [go_sem, reduceCtorEq, reduceIte, Nat.reduceEqDiff, h1], by simp only [go_sem, reduceCtorEq, reduceIte, Nat.reduceEqDiff, h2], by simp only [go_sem, reduceCtorEq, reduceIte, Nat.reduceEqDiff, h18], by simp only [go_sem, reduceCtorEq, reduceIte, Nat.reduceEqDiff, h19], .inr (.inl ⟨rfl, by simp only [go_sem, reduceCtorEq, reduceIte, Nat.reduceEqDiff], t0⟩)⟩
      · have hle : v.p0.1 ≤ v.p0.2 := hp0
        have hmx := mx_in (n := n) (p := v.p0) a1 hle
        have hfm := fillF_eq hv hno (n := mx n v.p0.1) (by have := hq0; omega) (by have := hq0; omega)
        simp only [go_sem, reduceCtorEq, reduceIte, Nat.reduceEqDiff, Nat.reduceAdd, Nat.reduceLeDiff, Nat.reduceMul, Int.reduceLT, Int.reduceLE, Int.reduceAdd, Int.reduceSub, Int.reduceMul, Int.reduceNeg, Int.reduceToNat, Int.reduceEq, h1, h2, h18, h19, b1, b2, h20, g2, g3, a1]
        refine callK_same (k156 _ _ v (mx n v.p0.1) hl.2) ?_
        rw [hfm]
        by_cases a2 : 0 ≤ v.matchF (mx n v.p0.1)
        · simp only [go_sem, reduceCtorEq, reduceIte, Nat.reduceEqDiff, Nat.reduceAdd, Nat.reduceLeDiff, Nat.reduceMul, Int.reduceLT, Int.reduceLE, Int.reduceAdd, Int.reduceSub, Int.reduceMul, Int.reduceNeg, Int.reduceToNat, Int.reduceEq, h1, h2, h18, h19, b1, b2, h20, g2, g3, a1, a2]
          by_cases a3 : v.matchF (mx n v.p0.1) ≤ v.p0.2
          · simp only [go_sem, reduceCtorEq, reduceIte, Nat.reduceEqDiff, Nat.reduceAdd, Nat.reduceLeDiff, Nat.reduceMul, Int.reduceLT, Int.reduceLE, Int.reduceAdd, Int.reduceSub, Int.reduceMul, Int.reduceNeg, Int.reduceToNat, Int.reduceEq, h1, h2, h18, h19, b1, b2, h20, g2, g3, a1, a2, a3]
            have q : v.tryP n v.p0 = some (v.matchF (mx n v.p0.1)) := tryP_hit hmx.2 a2 a3
            exact ⟨_, _, (Wk.drop hMp).trans hk, by simp [V.nextR, hc, q], rfl, rfl⟩
          · simp only [go_sem, reduceCtorEq, reduceIte, Nat.reduceEqDiff, Nat.reduceAdd, Nat.reduceLeDiff, Nat.reduceMul, Int.reduceLT, Int.reduceLE, Int.reduceAdd, Int.reduceSub, Int.reduceMul, Int.reduceNeg, Int.reduceToNat, Int.reduceEq, h1, h2, h18, h19, b1, b2, h20, g2, g3, a1, a2, a3]
            have t0 : v.tryP n v.p0 = none := tryP_out (.inr (.inr a3))
            exact ⟨0, by omega, rfl, by rw [Hp.upd_ne' g2.1]; exact f1, by rw [Hp.upd_ne' g3.1]; exact f2, (Wk.drop hMp).trans hk, by simp only [go_sem, reduceCtorEq, reduceIte, Nat.reduceEqDiff, h1], by simp only [go_sem, reduceCtorEq, reduceIte, Nat.reduceEqDiff, h2], by simp only [go_sem, reduceCtorEq, reduceIte, Nat.reduceEqDiff, h18], by simp only [go_sem, reduceCtorEq, reduceIte, Nat.reduceEqDiff, h19], .inr (.inl ⟨rfl, by simp only [go_sem, reduceCtorEq, reduceIte, Nat.reduceEqDiff], t0⟩)⟩
        · simp only [go_sem, reduceCtorEq, reduceIte, Nat.reduceEqDiff, Nat.reduceAdd, Nat.reduceLeDiff, Nat.reduceMul, Int.reduceLT, Int.reduceLE, Int.reduceAdd, Int.reduceSub, Int.reduceMul, Int.reduceNeg, Int.reduceToNat, Int.reduceEq, h1, h2, h18, h19, b1, b2, h20, g2, g3, a1, a2]
          have t0 : v.tryP n v.p0 = none := tryP_out (.inr (.inl a2))
          exact ⟨0, by omega, rfl, by rw [Hp.upd_ne' g2.1]; exact f1, by rw [Hp.upd_ne' g3.1]; exact f2, (Wk.drop hMp).trans hk, by simp only [go_sem, reduceCtorEq, reduceIte, Nat.reduceEqDiff, h1], by simp only [go_sem, reduceCtorEq, reduceIte, Nat.reduceEqDiff, h2], by simp only [go_sem, reduceCtorEq, reduceIte, Nat.reduceEqDiff, h18], by simp only [go_sem, reduceCtorEq, reduceIte, Nat.reduceEqDiff, h19], .inr (.inl ⟨rfl, by simp only [go_sem, reduceCtorEq, reduceIte, Nat.reduceEqDiff], t0⟩)⟩
    · obtain rfl : m = 0 := by omega
      simp only [go_sem, reduceCtorEq, reduceIte, Nat.reduceEqDiff, Nat.reduceAdd, Nat.reduceLeDiff, Nat.reduceMul, Int.reduceLT, Int.reduceLE, Int.reduceAdd, Int.reduceSub, Int.reduceMul, Int.reduceNeg, Int.reduceToNat, Int.reduceEq, h1, h2, h18, h19, b1, b2, h20]
      have t1 : v.tryP n v.p1 = none := by rw [show v.p1 = (0, -1) by simp [V.p1, hlh]]; exact tryP_void
      exact ⟨_, _, hk, by simp [V.nextR, hc, t0, t1], rfl, rfl⟩
    · simp at hcf
  · have g1 := fresh_of hM1
    refine ⟨(fun h => by cases h), ?_⟩
    simp only [go_sem, reduceCtorEq, reduceIte, Nat.reduceEqDiff, Nat.reduceAdd, Nat.reduceLeDiff, Nat.reduceMul, Int.reduceLT, Int.reduceLE, Int.reduceAdd, Int.reduceSub, Int.reduceMul, Int.reduceNeg, Int.reduceToNat, Int.reduceEq]
    refine loop_of (fromI v n F M r r1 2 [.int .i64 v.p0.1, .int .i64 v.p0.2, .int .i64 v.p1.1, .int .i64 v.p1.2]) 2 ?_ ?_
    · exact ⟨rfl, by rw [Hp.upd_ne' g1.2.1]; exact Hp.upd_same _ _ _, (Hp.upd_same _ _ _).trans (by simp [V.p0, V.p1, hlh]), (Wk.drop hM1).trans (Wk.drop hM), by simp only [go_sem, reduceCtorEq, reduceIte, Nat.reduceEqDiff], by simp only [go_sem, reduceCtorEq, reduceIte, Nat.reduceEqDiff], by simp only [go_sem, reduceCtorEq, reduceIte, Nat.reduceEqDiff], by simp only [go_sem, reduceCtorEq, reduceIte, Nat.reduceEqDiff], .inl ⟨rfl, by simp only [go_sem, reduceCtorEq, reduceIte, Nat.reduceEqDiff]⟩⟩
    rintro m σ F' M' ⟨rfl, f1, f2, hk, h1, h2, h18, h19, h20⟩
    have b1 := blk_M (F := F') f1
    have b2 := blk_M (F := F') f2
    rcases h20 with ⟨rfl, h20⟩ | ⟨hm1, h20, t0⟩ | ⟨_, rfl, h20, t0, t1⟩
    · simp only [go_sem, reduceCtorEq, reduceIte, Nat.reduceEqDiff, Nat.reduceAdd, Nat.reduceLeDiff, Nat.reduceMul, Int.reduceLT, Int.reduceLE, Int.reduceAdd, Int.reduceSub, Int.reduceMul, Int.reduceNeg, Int.reduceToNat, Int.reduceEq, h1, h2, h18, h19, b1, b2, h20]
      intro rp hFp hMp
      have g2 := ne_of_none hMp f1
      have g3 := ne_of_none hMp f2
      simp only [go_sem, reduceCtorEq, reduceIte, Nat.reduceEqDiff, Nat.reduceAdd, Nat.reduceLeDiff, Nat.reduceMul, Int.reduceLT, Int.reduceLE, Int.reduceAdd, Int.reduceSub, Int.reduceMul, Int.reduceNeg, Int.reduceToNat, Int.reduceEq, h1, h2, h18, h19, b1, b2, h20, g2, g3]
      by_cases a1 : v.p0.2 < n
      · simp only [go_sem, reduceCtorEq, reduceIte, Nat.reduceEqDiff, Nat.reduceAdd, Nat.reduceLeDiff, Nat.reduceMul, Int.reduceLT, Int.reduceLE, Int.reduceAdd, Int.reduceSub, Int.reduceMul, Int.reduceNeg, Int.reduceToNat, Int.reduceEq, h1, h2, h18, h19, b1, b2, h20, g2, g3, a1]
        have t0 : v.tryP n v.p0 = none := tryP_out (.inl a1)
        exact ⟨1, by omega, rfl, by rw [Hp.upd_ne' g2.1]; exact f1, by rw [Hp.upd_ne' g3.1]; exact f2, (Wk.drop hMp).trans hk, by simp only [go_sem, reduceCtorEq, reduceIte, Nat.reduceEqDiff, h1], by simp only [go_sem, reduceCtorEq, reduceIte, Nat.reduceEqDiff, h2], by simp only [go_sem, reduceCtorEq, reduceIte, Nat.reduceEqDiff, h18], by simp only [go_sem, reduceCtorEq, reduceIte, Nat.reduceEqDiff, h19], .inr (.inl ⟨rfl, by simp only [go_sem, reduceCtorEq, reduceIte, Nat.reduceEqDiff], t0⟩)⟩
      · have hle : v.p0.1 ≤ v.p0.2 := hp0
        have hmx := mx_in (n := n) (p := v.p0) a1 hle
        have hfm := fillF_eq hv hno (n := mx n v.p0.1) (by have := hq0; omega) (by have := hq0; omega)
        simp only [go_sem, reduceCtorEq, reduceIte, Nat.reduceEqDiff, Nat.reduceAdd, Nat.reduceLeDiff, Nat.reduceMul, Int.reduceLT, Int.reduceLE, Int.reduceAdd, Int.reduceSub, Int.reduceMul, Int.reduceNeg, Int.reduceToNat, Int.reduceEq, h1, h2, h18, h19, b1, b2, h20, g2, g3, a1]
        refine callK_same (k156 _ _ v (mx n v.p0.1) hl.2) ?_
        rw [hfm]
        by_cases a2 : 0 ≤ v.matchF (mx n v.p0.1)
        · simp only [go_sem, reduceCtorEq, reduceIte, Nat.reduceEqDiff, Nat.reduceAdd, Nat.reduceLeDiff, Nat.reduceMul, Int.reduceLT, Int.reduceLE, Int.reduceAdd, Int.reduceSub, Int.reduceMul, Int.reduceNeg, Int.reduceToNat, Int.reduceEq, h1, h2, h18, h19, b1, b2, h20, g2, g3, a1, a2]
          by_cases a3 : v.matchF (mx n v.p0.1) ≤ v.p0.2
          · simp only [go_sem, reduceCtorEq, reduceIte, Nat.reduceEqDiff, Nat.reduceAdd, Nat.reduceLeDiff, Nat.reduceMul, Int.reduceLT, Int.reduceLE, Int.reduceAdd, Int.reduceSub, Int.reduceMul, Int.reduceNeg, Int.reduceToNat, Int.reduceEq, h1, h2, h18, h19, b1, b2, h20, g2, g3, a1, a2, a3]
            have q : v.tryP n v.p0 = some (v.matchF (mx n v.p0.1)) := tryP_hit hmx.2 a2 a3
            exact ⟨_, _, (Wk.drop hMp).trans hk, by simp [V.nextR, hc, q], rfl, rfl⟩
          · simp only [go_sem, reduceCtorEq, reduceIte, Nat.reduceEqDiff, Nat.reduceAdd, Nat.reduceLeDiff, Nat.reduceMul, Int.reduceLT, Int.reduceLE, Int.reduceAdd, Int.reduceSub, Int.reduceMul, Int.reduceNeg, Int.reduceToNat, Int.reduceEq, h1, h2, h18, h19, b1, b2, h20, g2, g3, a1, a2, a3]
            have t0 : v.tryP n v.p0 = none := tryP_out (.inr (.inr a3))
            exact ⟨1, by omega, rfl, by rw [Hp.upd_ne' g2.1]; exact f1, by rw [Hp.upd_ne' g3.1]; exact f2, (Wk.drop hMp).trans hk, by simp only [go_sem, reduceCtorEq, reduceIte, Nat.reduceEqDiff, h1], by simp only [go_sem, reduceCtorEq, reduceIte, Nat.reduceEqDiff, h2], by simp only [go_sem, reduceCtorEq, reduceIte, Nat.reduceEqDiff, h18], by simp only [go_sem, reduceCtorEq, reduceIte, Nat.reduceEqDiff, h19], .inr (.inl ⟨rfl, by simp only [go_sem, reduceCtorEq, reduceIte, Nat.reduceEqDiff], t0⟩)⟩
        · simp only [go_sem, reduceCtorEq, reduceIte, Nat.reduceEqDiff, Nat.reduceAdd, Nat.reduceLeDiff, Nat.reduceMul, Int.reduceLT, Int.reduceLE, Int.reduceAdd, Int.reduceSub, Int.reduceMul, Int.reduceNeg, Int.reduceToNat, Int.reduceEq, h1, h2, h18, h19, b1, b2, h20, g2, g3, a1, a2]
          have t0 : v.tryP n v.p0 = none := tryP_out (.inr (.inl a2))
          exact ⟨1, by omega, rfl, by rw [Hp.upd_ne' g2.1]; exact f1, by rw [Hp.upd_ne' g3.1]; exact f2, (Wk.drop hMp).trans hk, by simp only [go_sem, reduceCtorEq, reduceIte, Nat.reduceEqDiff, h1], by simp only [go_sem, reduceCtorEq, reduceIte, Nat.reduceEqDiff, h2], by simp only [go_sem, reduceCtorEq, reduceIte, Nat.reduceEqDiff, h18], by simp only [go_sem, reduceCtorEq, reduceIte, Nat.reduceEqDiff, h19], .inr (.inl ⟨rfl, by simp only [go_sem, reduceCtorEq, reduceIte, Nat.reduceEqDiff], t0⟩)⟩
    · obtain rfl : m = 1 := by omega
      simp only [go_sem, reduceCtorEq, reduceIte, Nat.reduceEqDiff, Nat.reduceAdd, Nat.reduceLeDiff, Nat.reduceMul, Int.reduceLT, Int.reduceLE, Int.reduceAdd, Int.reduceSub, Int.reduceMul, Int.reduceNeg, Int.reduceToNat, Int.reduceEq, h1, h2, h18, h19, b1, b2, h20]
      intro rp hFp hMp
      have g2 := ne_of_none hMp f1
      have g3 := ne_of_none hMp f2
      simp only [go_sem, reduceCtorEq, reduceIte, Nat.reduceEqDiff, Nat.reduceAdd, Nat.reduceLeDiff, Nat.reduceMul, Int.reduceLT, Int.reduceLE, Int.reduceAdd, Int.reduceSub, Int.reduceMul, Int.reduceNeg, Int.reduceToNat, Int.reduceEq, h1, h2, h18, h19, b1, b2, h20, g2, g3]
      by_cases a1 : v.p1.2 < n
      · simp only [go_sem, reduceCtorEq, reduceIte, Nat.reduceEqDiff, Nat.reduceAdd, Nat.reduceLeDiff, Nat.reduceMul, Int.reduceLT, Int.reduceLE, Int.reduceAdd, Int.reduceSub, Int.reduceMul, Int.reduceNeg, Int.reduceToNat, Int.reduceEq, h1, h2, h18, h19, b1, b2, h20, g2, g3, a1]
        have t1 : v.tryP n v.p1 = none := tryP_out (.inl a1)
        exact ⟨0, by omega, rfl, by rw [Hp.upd_ne' g2.1]; exact f1, by rw [Hp.upd_ne' g3.1]; exact f2, (Wk.drop hMp).trans hk, by simp only [go_sem, reduceCtorEq, reduceIte, Nat.reduceEqDiff, h1], by simp only [go_sem, reduceCtorEq, reduceIte, Nat.reduceEqDiff, h2], by simp only [go_sem, reduceCtorEq, reduceIte, Nat.reduceEqDiff, h18], by simp only [go_sem, reduceCtorEq, reduceIte, Nat.reduceEqDiff, h19], .inr (.inr ⟨rfl, rfl, by simp only [go_sem, reduceCtorEq, reduceIte, Nat.reduceEqDiff], t0, t1⟩)⟩
      · have hle : v.p1.1 ≤ v.p1.2 := hp1 hlh
        have hmx := mx_in (n := n) (p := v.p1) a1 hle
        have hfm := fillF_eq hv hno (n := mx n v.p1.1) (by have := hq1; omega) (by have := hq1; omega)
        simp only [go_sem, reduceCtorEq, reduceIte, Nat.reduceEqDiff, Nat.reduceAdd, Nat.reduceLeDiff, Nat.reduceMul, Int.reduceLT, Int.reduceLE, Int.reduceAdd, Int.reduceSub, Int.reduceMul, Int.reduceNeg, Int.reduceToNat, Int.reduceEq, h1, h2, h18, h19, b1, b2, h20, g2, g3, a1]
        refine callK_same (k156 _ _ v (mx n v.p1.1) hl.2) ?_
        rw [hfm]
        by_cases a2 : 0 ≤ v.matchF (mx n v.p1.1)
        · simp only [go_sem, reduceCtorEq, reduceIte, Nat.reduceEqDiff, Nat.reduceAdd, Nat.reduceLeDiff, Nat.reduceMul, Int.reduceLT, Int.reduceLE, Int.reduceAdd, Int.reduceSub, Int.reduceMul, Int.reduceNeg, Int.reduceToNat, Int.reduceEq, h1, h2, h18, h19, b1, b2, h20, g2, g3, a1, a2]
          by_cases a3 : v.matchF (mx n v.p1.1) ≤ v.p1.2
          · simp only [go_sem, reduceCtorEq, reduceIte, Nat.reduceEqDiff, Nat.reduceAdd, Nat.reduceLeDiff, Nat.reduceMul, Int.reduceLT, Int.reduceLE, Int.reduceAdd, Int.reduceSub, Int.reduceMul, Int.reduceNeg, Int.reduceToNat, Int.reduceEq, h1, h2, h18, h19, b1, b2, h20, g2, g3, a1, a2, a3]
            have q : v.tryP n v.p1 = some (v.matchF (mx n v.p1.1)) := tryP_hit hmx.2 a2 a3
            exact ⟨_, _, (Wk.drop hMp).trans hk, by simp [V.nextR, hc, q, t0], rfl, rfl⟩
          · simp only [go_sem, reduceCtorEq, reduceIte, Nat.reduceEqDiff, Nat.reduceAdd, Nat.reduceLeDiff, Nat.reduceMul, Int.reduceLT, Int.reduceLE, Int.reduceAdd, Int.reduceSub, Int.reduceMul, Int.reduceNeg, Int.reduceToNat, Int.reduceEq, h1, h2, h18, h19, b1, b2, h20, g2, g3, a1, a2, a3]
            have t1 : v.tryP n v.p1 = none := tryP_out (.inr (.inr a3))
            exact ⟨0, by omega, rfl, by rw [Hp.upd_ne' g2.1]; exact f1, by rw [Hp.upd_ne' g3.1]; exact f2, (Wk.drop hMp).trans hk, by simp only [go_sem, reduceCtorEq, reduceIte, Nat.reduceEqDiff, h1], by simp only [go_sem, reduceCtorEq, reduceIte, Nat.reduceEqDiff, h2], by simp only [go_sem, reduceCtorEq, reduceIte, Nat.reduceEqDiff, h18], by simp only [go_sem, reduceCtorEq, reduceIte, Nat.reduceEqDiff, h19], .inr (.inr ⟨rfl, rfl, by simp only [go_sem, reduceCtorEq, reduceIte, Nat.reduceEqDiff], t0, t1⟩)⟩
        · simp only [go_sem, reduceCtorEq, reduceIte, Nat.reduceEqDiff, Nat.reduceAdd, Nat.reduceLeDiff, Nat.reduceMul, Int.reduceLT, Int.reduceLE, Int.reduceAdd, Int.reduceSub, Int.reduceMul, Int.reduceNeg, Int.reduceToNat, Int.reduceEq, h1, h2, h18, h19, b1, b2, h20, g2, g3, a1, a2]
          have t1 : v.tryP n v.p1 = none := tryP_out (.inr (.inl a2))
          exact ⟨0, by omega, rfl, by rw [Hp.upd_ne' g2.1]; exact f1, by rw [Hp.upd_ne' g3.1]; exact f2, (Wk.drop hMp).trans hk, by simp only [go_sem, reduceCtorEq, reduceIte, Nat.reduceEqDiff, h1], by simp only [go_sem, reduceCtorEq, reduceIte, Nat.reduceEqDiff, h2], by simp only [go_sem, reduceCtorEq, reduceIte, Nat.reduceEqDiff, h18], by simp only [go_sem, reduceCtorEq, reduceIte, Nat.reduceEqDiff, h19], .inr (.inr ⟨rfl, rfl, by simp only [go_sem, reduceCtorEq, reduceIte, Nat.reduceEqDiff], t0, t1⟩)⟩
    · simp only [go_sem, reduceCtorEq, reduceIte, Nat.reduceEqDiff, Nat.reduceAdd, Nat.reduceLeDiff, Nat.reduceMul, Int.reduceLT, Int.reduceLE, Int.reduceAdd, Int.reduceSub, Int.reduceMul, Int.reduceNeg, Int.reduceToNat, Int.reduceEq, h1, h2, h18, h19, b1, b2, h20]
      exact ⟨_, _, hk, by simp [V.nextR, hc, t0, t1], rfl, rfl⟩
end Go.Proofs.Try.K

/- Contracts: next, empty, members, just one. -/
namespace Go.Proofs.Try.K
open Go Go.Ax Go.Proofs.Try.S
set_option maxRecDepth 100000
set_option linter.unusedSimpArgs false
set_option linter.unusedVariables false
variable (F : Fz) (M : Hp)

def nextA (v : V) (n : Int) : Value := if v.ok && isN n v.w then (if v.nextR n < 0 then .tuple #[.int .i64 0, .int .i64 3] else .tuple #[.int .i64 (v.nextR n), .int .i64 0]) else .tuple #[.int .i64 0, .int .i64 1]
theorem k109 (v : V) (hv : v.ok = true) : CallsA Try.prog 109 [v.val] F M (Same F M (.bool (decide (v.nextR 0 < 0)))) := by
  refine callsA_of hm Try.func109 e109 (Nat.le_of_ble_eq_true rfl) ?_
  simp only [c109, go_sem, reduceCtorEq, reduceIte, Nat.reduceEqDiff, Nat.reduceAdd, Nat.reduceLeDiff, Nat.reduceMul, Int.reduceLT, Int.reduceLE, Int.reduceAdd, Int.reduceSub, Int.reduceMul, Int.reduceNeg, Int.reduceToNat, Int.reduceEq]
  intro r hF hM
  simp only [go_sem, reduceCtorEq, reduceIte, Nat.reduceEqDiff, Nat.reduceAdd, Nat.reduceLeDiff, Nat.reduceMul, Int.reduceLT, Int.reduceLE, Int.reduceAdd, Int.reduceSub, Int.reduceMul, Int.reduceNeg, Int.reduceToNat, Int.reduceEq]
  refine callK_same (k140 F _ v 0 hv) ?_
  simp only [go_sem, reduceCtorEq, reduceIte, Nat.reduceEqDiff, Nat.reduceAdd, Nat.reduceLeDiff, Nat.reduceMul, Int.reduceLT, Int.reduceLE, Int.reduceAdd, Int.reduceSub, Int.reduceMul, Int.reduceNeg, Int.reduceToNat, Int.reduceEq]
  exact endK_drop hM (endK_same ⟨rfl, rfl, rfl⟩)

def memI (v : V) (most : Nat) (F : Fz) (M : Hp) (r : Nat) (m : Nat) (σ : Env) (F' : Fz) (M' : Hp) : Prop :=
  F' = F ∧ Keep M M' ∧ M' r = some ⟨v.cs, 34, 6⟩ ∧ Ax.look σ 1 = some (.int .i64 most) ∧ Ax.look σ 2 = some (.pointer (some ⟨r, 0, none⟩)) ∧
  ∃ (l : List Int) (p : Int), l.length + m = most + 1 ∧ 0 < m ∧ l ++ v.mem m p = v.members most ∧ Ax.look σ 6 = some (.int .i64 (v.nextR p)) ∧
    (l = [] ∧ Ax.look σ 4 = some (.slice none 0 0) ∨ ∃ g cap, F g = none ∧ M g = none ∧ Ax.look σ 4 = some (.slice (some ⟨g, 0, none⟩) l.length cap) ∧ M' g = some ⟨l.map intV, 3, cap * 1⟩ ∧ l.length ≤ cap ∧ cap ≤ maxLen)

def memR (v : V) (most : Nat) (F : Fz) (M : Hp) (u : Value) (F' : Fz) (M' : Hp) : Prop :=
  F' = F ∧ ((v.members most).length ≤ most ∧ ((v.members most = [] ∧ u = .tuple #[.slice none 0 0, .bool true] ∧ M' = M) ∨
      ∃ g cap, F g = none ∧ M g = none ∧ u = .tuple #[.slice (some ⟨g, 0, none⟩) (v.members most).length cap, .bool true] ∧ M' = M.upd g ⟨(v.members most).map intV, 3, cap * 1⟩) ∨
    (most < (v.members most).length ∧ u = .tuple #[.slice none 0 0, .bool false] ∧ M' = M))

theorem k123 (v : V) (most : Nat) (hv : v.ok = true) (hmost : most ≤ 1000) : CallsA Try.prog 123 [v.val, .int .i64 most] F M (memR v most F M) := by
  refine callsA_of hm Try.func123 e123 (Nat.le_of_ble_eq_true rfl) ?_
  have hl := isW_le (ok_isW hv)
  have hmo := mostV_pos hl.2
  simp only [c123, go_sem, reduceCtorEq, reduceIte, Nat.reduceEqDiff, Nat.reduceAdd, Nat.reduceLeDiff, Nat.reduceMul, Int.reduceLT, Int.reduceLE, Int.reduceAdd, Int.reduceSub, Int.reduceMul, Int.reduceNeg, Int.reduceToNat, Int.reduceEq]
  intro r hF hM
  simp only [go_sem, reduceCtorEq, reduceIte, Nat.reduceEqDiff, Nat.reduceAdd, Nat.reduceLeDiff, Nat.reduceMul, Int.reduceLT, Int.reduceLE, Int.reduceAdd, Int.reduceSub, Int.reduceMul, Int.reduceNeg, Int.reduceToNat, Int.reduceEq]
  refine callK_same (k140 F _ v 0 hv) ?_
  simp only [go_sem, reduceCtorEq, reduceIte, Nat.reduceEqDiff, Nat.reduceAdd, Nat.reduceLeDiff, Nat.reduceMul, Int.reduceLT, Int.reduceLE, Int.reduceAdd, Int.reduceSub, Int.reduceMul, Int.reduceNeg, Int.reduceToNat, Int.reduceEq]
  refine loop_of (memI v most F M r) (most + 1) ?_ ?_
  · exact ⟨rfl, (Keep.refl M).new hM, Hp.upd_same _ _ _, by simp only [go_sem, reduceCtorEq, reduceIte, Nat.reduceEqDiff], by simp only [go_sem, reduceCtorEq, reduceIte, Nat.reduceEqDiff], [], 0, by simp, by omega, rfl, by simp only [go_sem, reduceCtorEq, reduceIte, Nat.reduceEqDiff], .inl ⟨rfl, by simp only [go_sem, reduceCtorEq, reduceIte, Nat.reduceEqDiff]⟩⟩
  · rintro m σ F' M' ⟨rfl, hk, f1, h1, h2, l, p, hlm, hm0, hlp, h6, h4⟩
    have b1 := blk_M (F := F') f1
    have hp := nextR_le hv p
    obtain ⟨m, rfl⟩ : ∃ k, m = k + 1 := ⟨m - 1, by omega⟩
    by_cases hn : 0 ≤ v.nextR p
    · have hn' : ¬ v.nextR p < 0 := by omega
      have hmem : v.mem (m + 1) p = v.nextR p :: v.mem m (v.nextR p + 1) := by rw [V.mem, if_neg hn']
      have e1 : IntKind.i64.wrap (v.nextR p + 1) = v.nextR p + 1 := w64 (by omega) (by omega)
      rcases h4 with ⟨hl0, h4⟩ | ⟨g, cap, hFg, hMg, h4, f4, hc1, hc2⟩
      · have hll : l.length = 0 := by rw [hl0]; rfl
        by_cases hfull : most = 0
        · subst hfull
          simp only [go_sem, reduceCtorEq, reduceIte, Nat.reduceEqDiff, Nat.reduceAdd, Nat.reduceLeDiff, Nat.reduceMul, Int.reduceLT, Int.reduceLE, Int.reduceAdd, Int.reduceSub, Int.reduceMul, Int.reduceNeg, Int.reduceToNat, Int.reduceEq, h1, h2, h4, h6, hn, Int.cast_ofNat_Int]
          exact endK_keep hk ⟨rfl, .inr ⟨by rw [← hlp, hl0, hmem]; simp, rfl, rfl⟩⟩
        · have hfull : ¬ (0 : Int) = most := by omega
          simp only [go_sem, reduceCtorEq, reduceIte, Nat.reduceEqDiff, Nat.reduceAdd, Nat.reduceLeDiff, Nat.reduceMul, Int.reduceLT, Int.reduceLE, Int.reduceAdd, Int.reduceSub, Int.reduceMul, Int.reduceNeg, Int.reduceToNat, Int.reduceEq, h1, h2, h4, h6, hn, hfull]
          intro r1 hF1 hM1
          have g1 := ne_of_none hM1 f1
          simp only [go_sem, reduceCtorEq, reduceIte, Nat.reduceEqDiff, Nat.reduceAdd, Nat.reduceLeDiff, Nat.reduceMul, Int.reduceLT, Int.reduceLE, Int.reduceAdd, Int.reduceSub, Int.reduceMul, Int.reduceNeg, Int.reduceToNat, Int.reduceEq, h1, h2, h4, h6, hn, g1]
          refine apK_of (n := l.length) (xs := l.map intV) (m := 1) (ys := [v.nextR p].map intV) (by rw [hll, hl0]; exact ⟨rfl, .inl ⟨rfl, rfl⟩⟩) ⟨rfl, .inr ⟨⟨r1, 0, none⟩, 1, rfl, .inr ⟨r1, 0, _, rfl, blk_upd_same, rfl⟩⟩⟩ (plain_ints _) (by simp only [maxLen]; omega) (by omega) ?_
          rintro v' M3 (⟨_, h0, _⟩ | ⟨g', cap', hg', rfl, hc3, hc4, rfl⟩)
          · cases h0
          rw [← List.map_append]
          have hl3 : (l ++ [v.nextR p]).length = l.length + 1 := by simp
          have key : F' g' = none ∧ M g' = none ∧ Keep M ((M'.upd r1 ⟨[.int .i64 (v.nextR p)], 3, 1⟩).upd g' ⟨(l ++ [v.nextR p]).map intV, 3, cap' * 1⟩) ∧ ¬ r = g' := by
            rcases hg' with ⟨c, hx⟩ | ⟨hx, hy⟩
            · cases hx
            · have hz := (fresh_of hy)
              exact ⟨hx, hk.free hz.2.2, (hk.new (hk.free hM1)).new (hk.free hz.2.2), (ne_of_none hz.2.2 f1).1⟩
          have hne := key.2.2.2
          have f3 : ((M'.upd r1 ⟨[.int .i64 (v.nextR p)], 3, 1⟩).upd g' ⟨(l ++ [v.nextR p]).map intV, 3, cap' * 1⟩) r = some ⟨v.cs, 34, 6⟩ := by
            rw [Hp.upd_ne' hne, Hp.upd_ne' g1.1]; exact f1
          have b3 := blk_M (F := F') f3
          simp only [go_sem, reduceCtorEq, reduceIte, Nat.reduceEqDiff, Nat.reduceAdd, Nat.reduceLeDiff, Nat.reduceMul, Int.reduceLT, Int.reduceLE, Int.reduceAdd, Int.reduceSub, Int.reduceMul, Int.reduceNeg, Int.reduceToNat, Int.reduceEq, h1, h2, h4, h6, hn, g1, b3, e1]
          refine callK_same (k140 F' _ v (v.nextR p + 1) hv) ?_
          simp only [go_sem, reduceCtorEq, reduceIte, Nat.reduceEqDiff, Nat.reduceAdd, Nat.reduceLeDiff, Nat.reduceMul, Int.reduceLT, Int.reduceLE, Int.reduceAdd, Int.reduceSub, Int.reduceMul, Int.reduceNeg, Int.reduceToNat, Int.reduceEq, h1, h2, h4, h6, hn, g1, b3, e1]
          have hm1 : 0 < m := by omega
          exact ⟨m, by omega, rfl, key.2.2.1, f3, by simp only [go_sem, reduceCtorEq, reduceIte, Nat.reduceEqDiff, h1], by simp only [go_sem, reduceCtorEq, reduceIte, Nat.reduceEqDiff, h2], l ++ [v.nextR p], v.nextR p + 1, by omega, hm1, by rw [List.append_assoc, List.singleton_append, ← hmem]; exact hlp, by simp only [go_sem, reduceCtorEq, reduceIte, Nat.reduceEqDiff],
            .inr ⟨g', cap', key.1, key.2.1, by simp only [go_sem, reduceCtorEq, reduceIte, Nat.reduceEqDiff, hl3], Hp.upd_same _ _ _, by omega, hc4⟩⟩
      · by_cases hfull : l.length = most
        · simp only [go_sem, reduceCtorEq, reduceIte, Nat.reduceEqDiff, Nat.reduceAdd, Nat.reduceLeDiff, Nat.reduceMul, Int.reduceLT, Int.reduceLE, Int.reduceAdd, Int.reduceSub, Int.reduceMul, Int.reduceNeg, Int.reduceToNat, Int.reduceEq, h1, h2, h4, h6, hn, hfull]
          exact endK_keep hk ⟨rfl, .inr ⟨by rw [← hlp, hmem]; simp; omega, rfl, rfl⟩⟩
        · have hfull : ¬ (l.length : Int) = most := by omega
          have hrg : ¬ (some ⟨v.cs, 34, 6⟩ : Option Ent) = some ⟨l.map intV, 3, cap * 1⟩ := by
            intro e
            have := congrArg (fun x => x.map (·.elem)) e
            simp at this
          simp only [go_sem, reduceCtorEq, reduceIte, Nat.reduceEqDiff, Nat.reduceAdd, Nat.reduceLeDiff, Nat.reduceMul, Int.reduceLT, Int.reduceLE, Int.reduceAdd, Int.reduceSub, Int.reduceMul, Int.reduceNeg, Int.reduceToNat, Int.reduceEq, h1, h2, h4, h6, hn, hfull]
          intro r1 hF1 hM1
          have g1 := ne_of_none hM1 f1
          simp only [go_sem, reduceCtorEq, reduceIte, Nat.reduceEqDiff, Nat.reduceAdd, Nat.reduceLeDiff, Nat.reduceMul, Int.reduceLT, Int.reduceLE, Int.reduceAdd, Int.reduceSub, Int.reduceMul, Int.reduceNeg, Int.reduceToNat, Int.reduceEq, h1, h2, h4, h6, hn, g1]
          refine apK_of (n := l.length) (xs := l.map intV) (m := 1) (ys := [v.nextR p].map intV) ⟨by simp, .inr ⟨g, cap, rfl, (Hp.upd_ne (ne_of_none hM1 f4).1).trans f4, hc1, hc2⟩⟩ ⟨rfl, .inr ⟨⟨r1, 0, none⟩, 1, rfl, .inr ⟨r1, 0, _, rfl, blk_upd_same, rfl⟩⟩⟩ (plain_ints _) (by simp only [maxLen]; omega) (by omega) ?_
          rintro v' M3 (⟨_, h0, _⟩ | ⟨g', cap', hg', rfl, hc3, hc4, rfl⟩)
          · cases h0
          rw [← List.map_append]
          have hl3 : (l ++ [v.nextR p]).length = l.length + 1 := by simp
          have key : F' g' = none ∧ M g' = none ∧ Keep M ((M'.upd r1 ⟨[.int .i64 (v.nextR p)], 3, 1⟩).upd g' ⟨(l ++ [v.nextR p]).map intV, 3, cap' * 1⟩) ∧ ¬ r = g' := by
            rcases hg' with ⟨c, hx⟩ | ⟨hx, hy⟩
            · cases hx
              refine ⟨hFg, hMg, (hk.new (hk.free hM1)).new hMg, ?_⟩
              rintro rfl
              rw [f1] at f4
              exact hrg f4
            · have hz := (fresh_of hy)
              exact ⟨hx, hk.free hz.2.2, (hk.new (hk.free hM1)).new (hk.free hz.2.2), (ne_of_none hz.2.2 f1).1⟩
          have hne := key.2.2.2
          have f3 : ((M'.upd r1 ⟨[.int .i64 (v.nextR p)], 3, 1⟩).upd g' ⟨(l ++ [v.nextR p]).map intV, 3, cap' * 1⟩) r = some ⟨v.cs, 34, 6⟩ := by
            rw [Hp.upd_ne' hne, Hp.upd_ne' g1.1]; exact f1
          have b3 := blk_M (F := F') f3
          simp only [go_sem, reduceCtorEq, reduceIte, Nat.reduceEqDiff, Nat.reduceAdd, Nat.reduceLeDiff, Nat.reduceMul, Int.reduceLT, Int.reduceLE, Int.reduceAdd, Int.reduceSub, Int.reduceMul, Int.reduceNeg, Int.reduceToNat, Int.reduceEq, h1, h2, h4, h6, hn, g1, b3, e1]
          refine callK_same (k140 F' _ v (v.nextR p + 1) hv) ?_
          simp only [go_sem, reduceCtorEq, reduceIte, Nat.reduceEqDiff, Nat.reduceAdd, Nat.reduceLeDiff, Nat.reduceMul, Int.reduceLT, Int.reduceLE, Int.reduceAdd, Int.reduceSub, Int.reduceMul, Int.reduceNeg, Int.reduceToNat, Int.reduceEq, h1, h2, h4, h6, hn, g1, b3, e1]
          have hm1 : 0 < m := by omega
          exact ⟨m, by omega, rfl, key.2.2.1, f3, by simp only [go_sem, reduceCtorEq, reduceIte, Nat.reduceEqDiff, h1], by simp only [go_sem, reduceCtorEq, reduceIte, Nat.reduceEqDiff, h2], l ++ [v.nextR p], v.nextR p + 1, by omega, hm1, by rw [List.append_assoc, List.singleton_append, ← hmem]; exact hlp, by simp only [go_sem, reduceCtorEq, reduceIte, Nat.reduceEqDiff],
            .inr ⟨g', cap', key.1, key.2.1, by simp only [go_sem, reduceCtorEq, reduceIte, Nat.reduceEqDiff, hl3], Hp.upd_same _ _ _, by omega, hc4⟩⟩
    · have hn' : v.nextR p < 0 := by omega
      have hmem : v.mem (m + 1) p = [] := by rw [V.mem, if_pos hn']
      rw [hmem, List.append_nil] at hlp
      subst hlp
      rcases h4 with ⟨h0, h4⟩ | ⟨g, cap, hFg, hMg, h4, f4, hc1, hc2⟩
      · simp only [go_sem, reduceCtorEq, reduceIte, Nat.reduceEqDiff, Nat.reduceAdd, Nat.reduceLeDiff, Nat.reduceMul, Int.reduceLT, Int.reduceLE, Int.reduceAdd, Int.reduceSub, Int.reduceMul, Int.reduceNeg, Int.reduceToNat, Int.reduceEq, h1, h2, h4, h6, hn]
        exact endK_keep hk ⟨rfl, .inl ⟨by omega, .inl ⟨h0, rfl, rfl⟩⟩⟩
      · simp only [go_sem, reduceCtorEq, reduceIte, Nat.reduceEqDiff, Nat.reduceAdd, Nat.reduceLeDiff, Nat.reduceMul, Int.reduceLT, Int.reduceLE, Int.reduceAdd, Int.reduceSub, Int.reduceMul, Int.reduceNeg, Int.reduceToNat, Int.reduceEq, h1, h2, h4, h6, hn]
        exact endK_keep (hk.one f4) ⟨rfl, .inl ⟨by omega, .inr ⟨g, cap, hFg, hMg, rfl, rfl⟩⟩⟩
end Go.Proofs.Try.K

/- Contracts: just one. -/
namespace Go.Proofs.Try.K
open Go Go.Ax Go.Proofs.Try.S
set_option maxRecDepth 100000
set_option linter.unusedSimpArgs false
set_option linter.unusedVariables false
variable (F : Fz) (M : Hp)

def loneA (v : V) : Value := .tuple #[.int .i64 (if v.is1 then v.nextR 0 else 0), .bool v.is1]
theorem k110 (v : V) (hv : v.ok = true) : CallsA Try.prog 110 [v.val] F M (Same F M (loneA v)) := by
  refine callsA_of hm Try.func110 e110 (Nat.le_of_ble_eq_true rfl) ?_
  simp only [c110, go_sem, reduceCtorEq, reduceIte, Nat.reduceEqDiff, Nat.reduceAdd, Nat.reduceLeDiff, Nat.reduceMul, Int.reduceLT, Int.reduceLE, Int.reduceAdd, Int.reduceSub, Int.reduceMul, Int.reduceNeg, Int.reduceToNat, Int.reduceEq]
  intro r hF hM
  simp only [go_sem, reduceCtorEq, reduceIte, Nat.reduceEqDiff, Nat.reduceAdd, Nat.reduceLeDiff, Nat.reduceMul, Int.reduceLT, Int.reduceLE, Int.reduceAdd, Int.reduceSub, Int.reduceMul, Int.reduceNeg, Int.reduceToNat, Int.reduceEq]
  refine callK_of (k123 F _ v 1 hv (by omega)) ?_
  rintro u G M' ⟨hG, ⟨hlen, ⟨hnil, rfl, rfl⟩ | ⟨g, cap, hFg, hMg, rfl, rfl⟩⟩ | ⟨hlen, rfl, rfl⟩⟩ <;> rw [hG] <;> refine ⟨(fun h => by cases h), ?_⟩
  · have e : v.is1 = false := by
      rw [V.members1] at hnil
      split at hnil
      · simp [V.is1]; omega
      · cases hnil
    simp only [go_sem, reduceCtorEq, reduceIte, Nat.reduceEqDiff, Nat.reduceAdd, Nat.reduceLeDiff, Nat.reduceMul, Int.reduceLT, Int.reduceLE, Int.reduceAdd, Int.reduceSub, Int.reduceMul, Int.reduceNeg, Int.reduceToNat, Int.reduceEq]
    exact endK_drop hM (endK_same ⟨by simp [loneA, e], rfl, rfl⟩)
  · by_cases hx : v.nextR 0 < 0
    · have e : v.is1 = false := by simp [V.is1]; omega
      have hm : v.members 1 = [] := by rw [V.members1, if_pos hx]
      simp only [hm, go_sem, reduceCtorEq, reduceIte, Nat.reduceEqDiff, Nat.reduceAdd, Nat.reduceLeDiff, Nat.reduceMul, Int.reduceLT, Int.reduceLE, Int.reduceAdd, Int.reduceSub, Int.reduceMul, Int.reduceNeg, Int.reduceToNat, Int.reduceEq]
      exact endK_drop hMg (endK_drop hM (endK_same ⟨by simp [loneA, e], rfl, rfl⟩))
    · by_cases hy : v.nextR (v.nextR 0 + 1) < 0
      · have e : v.is1 = true := by simp [V.is1, hy]; omega
        have hm : v.members 1 = [v.nextR 0] := by rw [V.members1, if_neg hx, if_pos hy]
        simp only [hm, go_sem, reduceCtorEq, reduceIte, Nat.reduceEqDiff, Nat.reduceAdd, Nat.reduceLeDiff, Nat.reduceMul, Int.reduceLT, Int.reduceLE, Int.reduceAdd, Int.reduceSub, Int.reduceMul, Int.reduceNeg, Int.reduceToNat, Int.reduceEq, List.map_cons, List.map_nil, intV]
        exact endK_drop hMg (endK_drop hM (endK_same ⟨by simp [loneA, e], rfl, rfl⟩))
      · rw [V.members1, if_neg hx, if_neg hy] at hlen
        simp at hlen
  · have e : v.is1 = false := by
      rw [V.members1] at hlen
      split at hlen
      · simp at hlen
      · split at hlen
        · simp at hlen
        · rename_i hy
          simp [V.is1, hy]
    simp only [go_sem, reduceCtorEq, reduceIte, Nat.reduceEqDiff, Nat.reduceAdd, Nat.reduceLeDiff, Nat.reduceMul, Int.reduceLT, Int.reduceLE, Int.reduceAdd, Int.reduceSub, Int.reduceMul, Int.reduceNeg, Int.reduceToNat, Int.reduceEq]
    exact endK_drop hM (endK_same ⟨by simp [loneA, e], rfl, rfl⟩)

def singleA (v : V) : Value := if v.ok then .tuple #[.bool v.is1, .int .i64 (if v.is1 then v.nextR 0 else 0), .int .i64 0] else .tuple #[.bool false, .int .i64 0, .int .i64 1]
theorem onlyA_eq (v : V) : onlyA v = .tuple #[.int .i64 (v.nextR 0), .bool v.is1] := rfl
end Go.Proofs.Try.K

/- Contracts: small words of other laws. -/
namespace Go.Proofs.Try.K
open Go Go.Ax Go.Proofs.Try.S
set_option maxRecDepth 100000
set_option linter.unusedSimpArgs false
set_option linter.unusedVariables false
variable (F : Fz) (M : Hp)

theorem k49 : CallsA Try.prog 49 [.int .i64 3, .int .i64 2] F M (Same F M (.int .i64 1)) := by
  refine callsA_of hm Try.func49 e49 (Nat.le_of_ble_eq_true rfl) ?_
  have e1 : IntKind.u64.wrap 3 = 3 := by decide
  have e2 : IntKind.u64.wrap 2 = 2 := by decide
  have e3 : Int.tmod 3 2 = 1 := by decide
  have e4 : IntKind.i64.wrap 1 = 1 := by decide
  simp only [c49, go_sem, reduceCtorEq, reduceIte, Nat.reduceEqDiff, Nat.reduceAdd, Nat.reduceLeDiff, Nat.reduceMul, Int.reduceLT, Int.reduceLE, Int.reduceAdd, Int.reduceSub, Int.reduceMul, Int.reduceNeg, Int.reduceToNat, Int.reduceEq, e1, e2, e3, e4, not_false_eq_true]
  exact endK_same ⟨rfl, rfl, rfl⟩
end Go.Proofs.Try.K
