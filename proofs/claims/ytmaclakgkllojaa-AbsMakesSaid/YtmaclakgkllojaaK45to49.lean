/- Parts K45to49: the machine's runs of small codes, contracts of functions, plain facts. -/
import Derived.Test.YtmaclakgkllojaaProg
import Derived.Test.YtmaclakgkllojaaK40to44
namespace Go.Proofs.Try.S
open Go Go.Ax Go.Ax.N
set_option maxRecDepth 100000

/-- cellar/cellarlaw15.Heavy -/
def c14 : SF := ⟨34, [.t 2], (.seq (.ops [k 1 (.bx 29 (t 0)),
 o 2 (.mv (b false))])
 (.seq (.ops [o 5 (.fa 1 (t 1)),
 o 6 (.ld false 1 (t 5)),
 o 7 (.ln (t 6)),
 o 3 (.mv (t 7))])
 (.seq (.seq (.ops [o 4 (.mv (i 0))])
 (.block 0 (.loop (.seq (.seq (.ops [o 8 (.mv (t 4)),
 o 9 (.fa 0 (t 1)),
 o 10 (.ld false 1 (t 9)),
 o 11 (.ln (t 10)),
 o 12 (.bin .lss (t 8) (t 11)),
 o 13 (.mv (t 12)),
 og 14 13 true (.mv (t 3)),
 og 15 13 true (.bin .lss (t 14) (i 1048576)),
 o 16 (.pick (t 13) (t 15) (b false))])
 (.cond (t 16)
 .skip
 (.exit 0)))
 (.seq (.block 1 (.ops [o 19 (.mv (t 3)),
 o 20 (.fa 0 (t 1)),
 o 21 (.ld false 1 (t 20)),
 o 22 (.mv (t 4)),
 o 23 (.ia 7 (t 21) (t 22)),
 o 24 (.ld true 7 (t 23)),
 k 25 (.ca (.func 59) [(t 24)]),
 o 26 (.bin .add (t 19) (t 25)),
 o 3 (.mv (t 26))]))
 (.ops [o 17 (.mv (t 4)),
 o 18 (.bin .add (t 17) (i 1)),
 o 4 (.mv (t 18))]))))))
 (.seq (.ops [o 27 (.mv (t 3)),
 o 28 (.bin .gtr (t 27) (i 400)),
 o 29 (.mv (t 28)),
 og 30 29 false (.fa 2 (t 1)),
 og 31 29 false (.ld true 2 (t 30)),
 ⟨some 32, some (29, false), .ca (.func 34) [(t 31)]⟩,
 o 33 (.pick (t 29) (b true) (t 32)),
 o 2 (.mv (t 33))])
 .ret))))⟩
theorem e14 : slimF Try.prog Try.f14 [] = some c14 := by kernel_rfl
/-- cellar/cellarlaw15.wakes -/
def c24 : SF := ⟨48, [.t 0], (.seq (.ops [o 0 (.mv (b false))])
 (.seq (.ops [o 8 (.bd [.bool false, .int .i64 0, .int .i64 0, .int .i64 0] [(0, 1, (b true))]),
 k 9 (.ca (.func 15) [(i 7), (t 8)]),
 o 7 (.mv (t 9)),
 o 10 (.ex (t 7) 0),
 o 11 (.ex (t 7) 1),
 k 1 (.al 37 [.int .i64 0, .bool false, .int .i64 0, .int .i64 0, .int .i64 0, .int .i64 0, .slice none 0 0]),
 kn (.st [] 7 (t 1) (t 10)),
 o 2 (.mv (t 11))])
 (.seq (.ops [o 13 (.ld true 7 (t 1)),
 o 14 (.bd [.bool false, .int .i64 0, .int .i64 0, .int .i64 0] [(0, 1, (b true))]),
 k 15 (.ca (.func 31) [(i 7), (t 13), (t 14)]),
 o 12 (.mv (t 15)),
 o 16 (.ex (t 12) 0),
 o 17 (.ex (t 12) 1),
 o 3 (.mv (t 16)),
 o 4 (.mv (t 17))])
 (.seq (.ops [o 19 (.ld true 7 (t 1)),
 o 20 (.bd [.bool false, .int .i64 0, .int .i64 0, .int .i64 0] [(0, 1, (b true)), (2, 1, (i 1))]),
 k 21 (.ca (.func 31) [(i 7), (t 19), (t 20)]),
 o 18 (.mv (t 21)),
 o 22 (.ex (t 18) 0),
 o 23 (.ex (t 18) 1),
 o 5 (.mv (t 22)),
 o 6 (.mv (t 23))])
 (.seq (.ops [o 24 (.mv (t 2)),
 k 25 (.ca (.func 17) [(t 24)]),
 o 26 (.bin .eql (t 25) (i 0)),
 o 27 (.mv (t 26)),
 og 28 27 true (.mv (t 4)),
 ⟨some 29, some (27, true), .ca (.func 17) [(t 28)]⟩,
 og 30 27 true (.bin .eql (t 29) (i 0)),
 o 31 (.pick (t 27) (t 30) (b false)),
 o 32 (.mv (t 31)),
 og 33 32 true (.mv (t 6)),
 ⟨some 34, some (32, true), .ca (.func 17) [(t 33)]⟩,
 og 35 32 true (.bin .eql (t 34) (i 0)),
 o 36 (.pick (t 32) (t 35) (b false)),
 o 37 (.mv (t 36)),
 og 38 37 true (.mv (t 3)),
 o 39 (.pick (t 37) (t 38) (b false)),
 o 40 (.mv (t 39)),
 og 41 40 true (.mv (t 5)),
 og 42 40 true (.un .not (t 41)),
 o 43 (.pick (t 40) (t 42) (b false)),
 o 44 (.mv (t 43)),
 og 45 44 true (.ld true 7 (t 1)),
 ⟨some 46, some (44, true), .ca (.func 19) [(i 7), (t 45)]⟩,
 o 47 (.pick (t 44) (t 46) (b false)),
 o 0 (.mv (t 47))])
 .ret)))))⟩
theorem e24 : slimF Try.prog Try.f24 [] = some c24 := by kernel_rfl
/-- cellar/abs.Has -/
def c31 : SF := ⟨22, [.t 6, .t 7], (.seq (.ops [k 4 (.bx 37 (t 1)),
 k 5 (.bx 32 (t 2)),
 o 6 (.mv (b false)),
 o 7 (.mv (i 0))])
 (.seq (.seq (.ops [o 8 (.mv (t 0)),
 o 9 (.ld true 7 (t 4)),
 k 10 (.ca (.func 69) [(t 8), (t 9)]),
 o 11 (.un .not (t 10)),
 o 12 (.mv (t 11)),
 og 13 12 false (.mv (t 0)),
 og 14 12 false (.ld true 4 (t 5)),
 ⟨some 15, some (12, false), .ca (.func 60) [(t 13), (t 14)]⟩,
 og 16 12 false (.un .not (t 15)),
 o 17 (.pick (t 12) (b true) (t 16))])
 (.cond (t 17)
 (.seq (.ops [o 6 (.mv (b false)),
 o 7 (.mv (i 1))])
 .ret)
 .skip))
 (.seq (.ops [o 18 (.mv (t 0)),
 o 19 (.ld true 7 (t 4)),
 o 20 (.ld true 4 (t 5)),
 k 21 (.ca (.func 72) [(t 18), (t 19), (t 20)]),
 o 6 (.mv (t 21)),
 o 7 (.mv (i 0))])
 .ret)))⟩
theorem e31 : slimF Try.prog Try.f31 [] = some c31 := by kernel_rfl
/-- cellar/cellarlaw0.AbsWeight -/
def c59 : SF := ⟨7, [.t 2], (.seq (.ops [k 1 (.bx 37 (t 0)),
 o 2 (.mv (i 0))])
 (.seq (.ops [o 3 (.fa 6 (t 1)),
 o 4 (.ld false 1 (t 3)),
 o 5 (.ln (t 4)),
 o 6 (.bin .add (i 1) (t 5)),
 o 2 (.mv (t 6))])
 .ret))⟩
theorem e59 : slimF Try.prog Try.f59 [] = some c59 := by kernel_rfl
/-- cellar/abs.May -/
def c69 : SF := ⟨37, [.t 4], (.seq (.ops [k 3 (.bx 37 (t 1)),
 o 4 (.mv (b false))])
 (.seq (.block 0 (.seq (.ops [o 6 (.mv (t 0)),
 k 7 (.ca (.func 104) [(t 6)]),
 o 5 (.mv (t 7))])
 (.cond (t 5)
 (.seq (.opd [o 8 (.fa 0 (t 3)),
 o 9 (.ld true 6 (t 8)),
 k 10 (.ca (.func 74) [(t 9)]),
 o 11 (.mv (t 10)),
 og 12 11 true (.fa 0 (t 3)),
 og 13 11 true (.fa 0 (t 12)),
 og 14 11 true (.ld false 1 (t 13)),
 og 15 11 true (.mv (t 0)),
 ⟨some 16, some (11, true), .ca (.func 101) [(t 15)]⟩,
 og 17 11 true (.bin .eql (t 14) (t 16)),
 o 18 (.pick (t 11) (t 17) (b false)),
 o 19 (.mv (t 18)),
 og 20 19 true (.fa 6 (t 3)),
 og 21 19 true (.ld false 1 (t 20)),
 og 22 19 true (.ln (t 21)),
 og 23 19 true (.bin .eql (t 22) (i 0)),
 o 24 (.pick (t 19) (t 23) (b false)),
 o 4 (.mv (t 24))])
 .ret)
 (.seq (.ops [o 26 (.mv (t 0)),
 o 27 (.bin .eql (t 26) (i 7)),
 o 25 (.mv (t 27))])
 (.cond (t 25)
 (.seq (.ops [o 28 (.fa 0 (t 3)),
 o 29 (.ld true 6 (t 28)),
 o 30 (.bd [.int .i64 0, .bool false, .int .i64 0, .int .i64 0, .int .i64 0, .int .i64 0] []),
 o 31 (.eqs (.st [(false, 0, 1, .i), (false, 1, 1, .b), (false, 2, 1, .i), (false, 3, 1, .i), (false, 4, 1, .i), (false, 5, 1, .i)]) false (t 29) (t 30)),
 o 32 (.mv (t 31)),
 og 33 32 true (.fa 6 (t 3)),
 og 34 32 true (.ld false 1 (t 33)),
 ⟨some 35, some (32, true), .ca (.func 105) [(t 34)]⟩,
 o 36 (.pick (t 32) (t 35) (b false)),
 o 4 (.mv (t 36))])
 .ret)
 .skip)))))
 (.seq (.ops [o 4 (.mv (b false))])
 .ret)))⟩
theorem e69 : slimF Try.prog Try.f69 [[(0, []), (1, []), (2, []), (3, []), (4, []), (5, []), (6, []), (7, []), (8, []), (9, []), (10, []), (11, []), (12, []), (13, []), (14, []), (15, []), (16, []), (17, [])]] = some c69 := by kernel_rfl
/-- cellar/abs.MayPtrs -/
def c105 : SF := ⟨31, [.t 2], (.seq (.ops [o 2 (.mv (b false))])
 (.seq (.seq (.ops [o 5 (.mv (t 0)),
 o 6 (.ln (t 5)),
 o 7 (.mv (i 0))])
 (.block 0 (.loop (.seq (.ops [o 8 (.bin .lss (t 7) (t 6))])
 (.seq (.cond (t 8)
 .skip
 (.exit 0))
 (.seq (.block 1 (.seq (.ops [o 9 (.mv (t 7)),
 o 10 (.ia 7 (t 5) (t 7)),
 o 11 (.ld true 7 (t 10)),
 k 4 (.al 87 [.int .i64 0, .int .i64 0, .bool false, .int .i64 0, .int .i64 0, .int .i64 0, .int .i64 0]),
 o 3 (.mv (t 9)),
 kn (.st [] 7 (t 4) (t 11))])
 (.seq (.opq [o 12 (.ld true 7 (t 4)),
 k 13 (.ca (.func 138) [(t 12)]),
 o 14 (.un .not (t 13)),
 o 15 (.mv (t 14)),
 og 16 15 false (.mv (t 3)),
 og 17 15 false (.bin .gtr (t 16) (i 0)),
 og 18 15 false (.mv (t 17)),
 og 19 18 true (.fa 0 (t 4)),
 og 20 18 true (.ld false 1 (t 19)),
 og 21 18 true (.mv (t 0)),
 og 22 18 true (.mv (t 3)),
 og 23 18 true (.bin .sub (t 22) (i 1)),
 og 24 18 true (.ia 7 (t 21) (t 23)),
 og 25 18 true (.fa 0 (t 24)),
 og 26 18 true (.ld false 1 (t 25)),
 og 27 18 true (.bin .leq (t 20) (t 26)),
 og 28 15 false (.pick (t 18) (t 27) (b false)),
 o 29 (.pick (t 15) (b true) (t 28))])
 (.cond (t 29)
 (.seq (.ops [o 2 (.mv (b false))])
 .ret)
 .skip))))
 (.ops [o 30 (.bin .add (t 7) (i 1)),
 o 7 (.mv (t 30))])))))))
 (.seq (.ops [o 2 (.mv (b true))])
 .ret)))⟩
theorem e105 : slimF Try.prog Try.f105 [[(0, []), (1, []), (2, []), (3, []), (4, []), (5, []), (6, []), (7, []), (8, []), (9, []), (10, []), (11, []), (12, []), (13, []), (14, []), (15, []), (16, []), (17, [])]] = some c105 := by kernel_rfl
end Go.Proofs.Try.S
/- Contracts: whether sets of scalars may be, asked of the program; what layer 15's statements weigh. -/
namespace Go.Proofs.Try.K
open Go Go.Ax Go.Proofs.Try.S
set_option maxRecDepth 100000
set_option linter.unusedSimpArgs false
set_option linter.unusedVariables false
variable (F : Fz) (M : Hp)

def mpI (l : List Ba) (u : Value) (F0 : Fz) (M0 : Hp) (m : Nat) (σ : Env) (F : Fz) (M : Hp) : Prop :=
  F = F0 ∧ Keep M0 M ∧ Old' F0 M0 M ∧ Ax.look σ 0 = some u ∧ Ax.look σ 5 = some u ∧ Ax.look σ 6 = some (.int .i64 l.length) ∧ ∃ i : Nat, i + m = l.length ∧ Ax.look σ 7 = some (.int .i64 i) ∧ ∀ j, j < i → okAt l j = true
theorem k105 (u : Value) (l : List Ba) (h : RdG 7 Ba.cs F M u l) : CallsA Try.prog 105 [u] F M (Same F M (.bool (ptrsB l))) := by
  refine callsA_of hm Try.func105 e105 (Nat.le_of_ble_eq_true rfl) ?_
  have h' := h
  obtain ⟨hl, ad, cap, hlc, rfl, _⟩ := h
  simp only [c105, go_sem, reduceCtorEq, reduceIte, Nat.reduceEqDiff, Nat.reduceAdd, Nat.reduceLeDiff, Nat.reduceMul, Int.reduceLT, Int.reduceLE, Int.reduceAdd, Int.reduceSub, Int.reduceMul, Int.reduceNeg, Int.reduceToNat, Int.reduceEq]
  refine loop_of (mpI l (.slice ad l.length cap) F M) l.length ?_ ?_
  · exact ⟨rfl, Keep.refl _, fun h => h, by simp only [go_sem, reduceCtorEq, reduceIte, Nat.reduceEqDiff, Nat.reduceAdd, Nat.reduceLeDiff, Nat.reduceMul, Int.reduceLT, Int.reduceLE, Int.reduceAdd, Int.reduceSub, Int.reduceMul, Int.reduceNeg, Int.reduceToNat, Int.reduceEq], by simp only [go_sem, reduceCtorEq, reduceIte, Nat.reduceEqDiff, Nat.reduceAdd, Nat.reduceLeDiff, Nat.reduceMul, Int.reduceLT, Int.reduceLE, Int.reduceAdd, Int.reduceSub, Int.reduceMul, Int.reduceNeg, Int.reduceToNat, Int.reduceEq], by simp only [go_sem, reduceCtorEq, reduceIte, Nat.reduceEqDiff, Nat.reduceAdd, Nat.reduceLeDiff, Nat.reduceMul, Int.reduceLT, Int.reduceLE, Int.reduceAdd, Int.reduceSub, Int.reduceMul, Int.reduceNeg, Int.reduceToNat, Int.reduceEq], 0, by omega, by simp only [go_sem, reduceCtorEq, reduceIte, Nat.reduceEqDiff, Nat.reduceAdd, Nat.reduceLeDiff, Nat.reduceMul, Int.reduceLT, Int.reduceLE, Int.reduceAdd, Int.reduceSub, Int.reduceMul, Int.reduceNeg, Int.reduceToNat, Int.reduceEq] <;> rfl, by omega⟩
  rintro m σ F' M' ⟨rfl, kp, ro, h0, h5, h6, i, hi, h7, hok⟩
  by_cases hil : (i : Int) < l.length
  rotate_left
  · simp only [go_sem, reduceCtorEq, reduceIte, Nat.reduceEqDiff, Nat.reduceAdd, Nat.reduceLeDiff, Nat.reduceMul, Int.reduceLT, Int.reduceLE, Int.reduceAdd, Int.reduceSub, Int.reduceMul, Int.reduceNeg, Int.reduceToNat, Int.reduceEq, h0, h5, h6, h7, hil]
    exact endK_keep kp ⟨by rw [ptrs_all (fun j hj => hok j (by omega))], rfl, rfl⟩
  have hi0 : (0 : Int) ≤ i := by omega
  have hil' : i < l.length := by omega
  have ei : IntKind.i64.wrap ((i : Int) + 1) = i + 1 := w64 (by omega) (by omega)
  have ei1 : IntKind.i64.wrap ((i : Int) - 1) = i - 1 := w64 (by omega) (by omega)
  obtain ⟨_, _, _, _, eu, hrd⟩ := ro h'
  cases eu
  rcases hrd with h | ⟨g, p, cs, rfl, hb, hc⟩
  · rw [h] at hil'; simp at hil'
  obtain ⟨d1, d2⟩ := hc i hil'
  have hget : l[i]? = some l[i] := by simp
  simp only [go_sem, reduceCtorEq, reduceIte, Nat.reduceEqDiff, Nat.reduceAdd, Nat.reduceLeDiff, Nat.reduceMul, Int.reduceLT, Int.reduceLE, Int.reduceAdd, Int.reduceSub, Int.reduceMul, Int.reduceNeg, Int.reduceToNat, Int.reduceEq, h0, h5, h6, h7, hil, hi0, Int.toNat_natCast, hb, d1, d2]
  intro r hF hM
  have bg := blk_ne hb hF hM
  have no : okAt l i = false → ptrsB l = false := fun h => ptrs_no hil' h
  have kp2 : ∀ e, Keep M (M'.upd r e) := fun e => kp.new (kp.free hM)
  have ok1 : okAt l i = (baseB l[i] && (decide (i = 0) || match l[i - 1]? with | none => true | some y => decide (y.b < l[i].b))) := by
    unfold okAt; rw [hget]; rfl
  have prev : (0 : Int) < i → ∃ y, l[i - 1]? = some y ∧ cs[p + (i - 1) * 7]? = some (.int .i64 y.b) := by
    intro hi1
    obtain ⟨e1, e2⟩ := hc (i - 1) (by omega)
    exact ⟨l[i - 1], List.getElem?_eq_getElem (by omega), (ba_row e1 e2).1⟩
  have nxt : ∀ σ' e, Ax.look σ' 0 = some (.slice (some ⟨g, p, none⟩) l.length cap) → Ax.look σ' 5 = some (.slice (some ⟨g, p, none⟩) l.length cap) → Ax.look σ' 6 = some (.int .i64 l.length) → Ax.look σ' 7 = some (.int .i64 (i + 1)) → okAt l i = true → ∃ m', m' < m ∧ mpI l (.slice (some ⟨g, p, none⟩) l.length cap) F' M m' σ' F' (M'.upd r e) := by
    intro σ' e q0 q5 q6 q7 hk
    refine ⟨m - 1, by omega, rfl, kp2 e, fun h => (ro h).new hF hM, q0, q5, q6, i + 1, by omega, q7, fun j hj => ?_⟩
    rcases Nat.lt_or_ge j i with h | h
    · exact hok j h
    · have : j = i := by omega
      rw [this]; exact hk
  generalize l[i] = x at *
  simp only [go_sem, reduceCtorEq, reduceIte, Nat.reduceEqDiff, Nat.reduceAdd, Nat.reduceLeDiff, Nat.reduceMul, Int.reduceLT, Int.reduceLE, Int.reduceAdd, Int.reduceSub, Int.reduceMul, Int.reduceNeg, Int.reduceToNat, Int.reduceEq, h0, h5, h6, h7]
  refine callK_same (k138 _ _ x) ?_
  cases hbx : baseB x
  · have hno : ptrsB l = false := no (by rw [ok1, hbx]; rfl)
    simp only [go_sem, reduceCtorEq, reduceIte, Nat.reduceEqDiff, Nat.reduceAdd, Nat.reduceLeDiff, Nat.reduceMul, Int.reduceLT, Int.reduceLE, Int.reduceAdd, Int.reduceSub, Int.reduceMul, Int.reduceNeg, Int.reduceToNat, Int.reduceEq, h0, h5, h6, h7]
    exact endK_keep (kp2 _) ⟨by rw [hno], rfl, rfl⟩
  rw [hbx, Bool.true_and] at ok1
  by_cases hi1 : (0 : Int) < i
  · obtain ⟨y, y1, y2⟩ := prev hi1
    have i1 : (0 : Int) ≤ (i : Int) - 1 := by omega
    have i2 : (i : Int) - 1 < l.length := by omega
    have i3 : ((i : Int) - 1).toNat = i - 1 := by omega
    have hi0' : ¬ i = 0 := by omega
    rw [y1] at ok1
    by_cases hyx : x.b ≤ y.b
    · have hno : ptrsB l = false := no (by rw [ok1]; simp [hi0']; omega)
      simp only [go_sem, reduceCtorEq, reduceIte, Nat.reduceEqDiff, Nat.reduceAdd, Nat.reduceLeDiff, Nat.reduceMul, Int.reduceLT, Int.reduceLE, Int.reduceAdd, Int.reduceSub, Int.reduceMul, Int.reduceNeg, Int.reduceToNat, Int.reduceEq, h0, h5, h6, h7, hi1, ei1, i1, i2, i3, bg, hb, y2, Nat.add_zero, hyx]
      exact endK_keep (kp2 _) ⟨by rw [hno], rfl, rfl⟩
    · simp only [go_sem, reduceCtorEq, reduceIte, Nat.reduceEqDiff, Nat.reduceAdd, Nat.reduceLeDiff, Nat.reduceMul, Int.reduceLT, Int.reduceLE, Int.reduceAdd, Int.reduceSub, Int.reduceMul, Int.reduceNeg, Int.reduceToNat, Int.reduceEq, h0, h5, h6, h7, hi1, ei1, i1, i2, i3, bg, hb, y2, Nat.add_zero, hyx, ei]
      exact nxt _ _ (by simp only [go_sem, reduceCtorEq, reduceIte, Nat.reduceEqDiff, Nat.reduceAdd, Nat.reduceLeDiff, Nat.reduceMul, Int.reduceLT, Int.reduceLE, Int.reduceAdd, Int.reduceSub, Int.reduceMul, Int.reduceNeg, Int.reduceToNat, Int.reduceEq, h0]) (by simp only [go_sem, reduceCtorEq, reduceIte, Nat.reduceEqDiff, Nat.reduceAdd, Nat.reduceLeDiff, Nat.reduceMul, Int.reduceLT, Int.reduceLE, Int.reduceAdd, Int.reduceSub, Int.reduceMul, Int.reduceNeg, Int.reduceToNat, Int.reduceEq, h5]) (by simp only [go_sem, reduceCtorEq, reduceIte, Nat.reduceEqDiff, Nat.reduceAdd, Nat.reduceLeDiff, Nat.reduceMul, Int.reduceLT, Int.reduceLE, Int.reduceAdd, Int.reduceSub, Int.reduceMul, Int.reduceNeg, Int.reduceToNat, Int.reduceEq, h6]) (by simp only [go_sem, reduceCtorEq, reduceIte, Nat.reduceEqDiff, Nat.reduceAdd, Nat.reduceLeDiff, Nat.reduceMul, Int.reduceLT, Int.reduceLE, Int.reduceAdd, Int.reduceSub, Int.reduceMul, Int.reduceNeg, Int.reduceToNat, Int.reduceEq]) (by rw [ok1]; simp; omega)
  · have hi0' : i = 0 := by omega
    simp only [go_sem, reduceCtorEq, reduceIte, Nat.reduceEqDiff, Nat.reduceAdd, Nat.reduceLeDiff, Nat.reduceMul, Int.reduceLT, Int.reduceLE, Int.reduceAdd, Int.reduceSub, Int.reduceMul, Int.reduceNeg, Int.reduceToNat, Int.reduceEq, h0, h5, h6, h7, hi1, ei]
    exact nxt _ _ (by simp only [go_sem, reduceCtorEq, reduceIte, Nat.reduceEqDiff, Nat.reduceAdd, Nat.reduceLeDiff, Nat.reduceMul, Int.reduceLT, Int.reduceLE, Int.reduceAdd, Int.reduceSub, Int.reduceMul, Int.reduceNeg, Int.reduceToNat, Int.reduceEq, h0]) (by simp only [go_sem, reduceCtorEq, reduceIte, Nat.reduceEqDiff, Nat.reduceAdd, Nat.reduceLeDiff, Nat.reduceMul, Int.reduceLT, Int.reduceLE, Int.reduceAdd, Int.reduceSub, Int.reduceMul, Int.reduceNeg, Int.reduceToNat, Int.reduceEq, h5]) (by simp only [go_sem, reduceCtorEq, reduceIte, Nat.reduceEqDiff, Nat.reduceAdd, Nat.reduceLeDiff, Nat.reduceMul, Int.reduceLT, Int.reduceLE, Int.reduceAdd, Int.reduceSub, Int.reduceMul, Int.reduceNeg, Int.reduceToNat, Int.reduceEq, h6]) (by simp only [go_sem, reduceCtorEq, reduceIte, Nat.reduceEqDiff, Nat.reduceAdd, Nat.reduceLeDiff, Nat.reduceMul, Int.reduceLT, Int.reduceLE, Int.reduceAdd, Int.reduceSub, Int.reduceMul, Int.reduceNeg, Int.reduceToNat, Int.reduceEq]) (by rw [ok1]; simp [hi0'])
theorem k69 (k : Int) (v : V) (u : Value) (l : List Ba) (h : RdG 7 Ba.cs F M u l) : CallsA Try.prog 69 [.int .i64 k, abV v u] F M (Same F M (.bool (absB k v l))) := by
  refine callsA_of hm Try.func69 e69 (Nat.le_of_ble_eq_true rfl) ?_
  have h' := h
  obtain ⟨hl, ad, cap, _, rfl, _⟩ := h
  simp only [c69, go_sem, reduceCtorEq, reduceIte, Nat.reduceEqDiff, Nat.reduceAdd, Nat.reduceLeDiff, Nat.reduceMul, Int.reduceLT, Int.reduceLE, Int.reduceAdd, Int.reduceSub, Int.reduceMul, Int.reduceNeg, Int.reduceToNat, Int.reduceEq]
  intro r3 hF3 hM3
  have h2 := h'.new hF3 hM3 (e := ⟨abCs v (.slice ad l.length cap), 37, 7⟩)
  simp only [go_sem, reduceCtorEq, reduceIte, Nat.reduceEqDiff, Nat.reduceAdd, Nat.reduceLeDiff, Nat.reduceMul, Int.reduceLT, Int.reduceLE, Int.reduceAdd, Int.reduceSub, Int.reduceMul, Int.reduceNeg, Int.reduceToNat, Int.reduceEq]
  refine callK_same (k104 _ _ k) ?_
  cases hk : isK k
  · have hw0 : ¬ 0 < wK k := by simp [wK, hk]
    by_cases h7 : k = 7
    · simp only [go_sem, reduceCtorEq, reduceIte, Nat.reduceEqDiff, Nat.reduceAdd, Nat.reduceLeDiff, Nat.reduceMul, Int.reduceLT, Int.reduceLE, Int.reduceAdd, Int.reduceSub, Int.reduceMul, Int.reduceNeg, Int.reduceToNat, Int.reduceEq, h7]
      cases hv : decide (v = V.zero)
      · simp only [go_sem, reduceCtorEq, reduceIte, Nat.reduceEqDiff, Nat.reduceAdd, Nat.reduceLeDiff, Nat.reduceMul, Int.reduceLT, Int.reduceLE, Int.reduceAdd, Int.reduceSub, Int.reduceMul, Int.reduceNeg, Int.reduceToNat, Int.reduceEq]
        exact endK_drop hM3 (endK_same ⟨by simp only [absB, hv]; simp, rfl, rfl⟩)
      simp only [go_sem, reduceCtorEq, reduceIte, Nat.reduceEqDiff, Nat.reduceAdd, Nat.reduceLeDiff, Nat.reduceMul, Int.reduceLT, Int.reduceLE, Int.reduceAdd, Int.reduceSub, Int.reduceMul, Int.reduceNeg, Int.reduceToNat, Int.reduceEq]
      refine callK_same (k105 _ _ _ l h2) ?_
      simp only [go_sem, reduceCtorEq, reduceIte, Nat.reduceEqDiff, Nat.reduceAdd, Nat.reduceLeDiff, Nat.reduceMul, Int.reduceLT, Int.reduceLE, Int.reduceAdd, Int.reduceSub, Int.reduceMul, Int.reduceNeg, Int.reduceToNat, Int.reduceEq]
      exact endK_drop hM3 (endK_same ⟨by simp only [absB, hv]; simp, rfl, rfl⟩)
    · simp only [go_sem, reduceCtorEq, reduceIte, Nat.reduceEqDiff, Nat.reduceAdd, Nat.reduceLeDiff, Nat.reduceMul, Int.reduceLT, Int.reduceLE, Int.reduceAdd, Int.reduceSub, Int.reduceMul, Int.reduceNeg, Int.reduceToNat, Int.reduceEq, h7]
      exact endK_drop hM3 (endK_same ⟨by unfold absB; rw [if_neg h7]; simp [hw0], rfl, rfl⟩)
  · have h7 : ¬ k = 7 := by rintro rfl; rw [not_isK7] at hk; cases hk
    have e0 : wK k = ofW k := wK_of hk
    have hpw := pow_w (ofW_isW k)
    have e1 : (0 : Int) < ofW k := by omega
    simp only [go_sem, reduceCtorEq, reduceIte, Nat.reduceEqDiff, Nat.reduceAdd, Nat.reduceLeDiff, Nat.reduceMul, Int.reduceLT, Int.reduceLE, Int.reduceAdd, Int.reduceSub, Int.reduceMul, Int.reduceNeg, Int.reduceToNat, Int.reduceEq]
    refine callK_same (k74 _ _ v) ?_
    cases hv : v.ok
    · simp only [go_sem, reduceCtorEq, reduceIte, Nat.reduceEqDiff, Nat.reduceAdd, Nat.reduceLeDiff, Nat.reduceMul, Int.reduceLT, Int.reduceLE, Int.reduceAdd, Int.reduceSub, Int.reduceMul, Int.reduceNeg, Int.reduceToNat, Int.reduceEq]
      exact endK_drop hM3 (endK_same ⟨by simp [absB, h7, hv], rfl, rfl⟩)
    simp only [go_sem, reduceCtorEq, reduceIte, Nat.reduceEqDiff, Nat.reduceAdd, Nat.reduceLeDiff, Nat.reduceMul, Int.reduceLT, Int.reduceLE, Int.reduceAdd, Int.reduceSub, Int.reduceMul, Int.reduceNeg, Int.reduceToNat, Int.reduceEq]
    refine callK_same (k101 _ _ k hk) ?_
    by_cases hvw : v.w = ofW k
    rotate_left
    · simp only [go_sem, reduceCtorEq, reduceIte, Nat.reduceEqDiff, Nat.reduceAdd, Nat.reduceLeDiff, Nat.reduceMul, Int.reduceLT, Int.reduceLE, Int.reduceAdd, Int.reduceSub, Int.reduceMul, Int.reduceNeg, Int.reduceToNat, Int.reduceEq, hvw]
      exact endK_drop hM3 (endK_same ⟨by simp [absB, h7, e0, hvw], rfl, rfl⟩)
    by_cases hl0 : (l.length : Int) = 0
    · simp only [go_sem, reduceCtorEq, reduceIte, Nat.reduceEqDiff, Nat.reduceAdd, Nat.reduceLeDiff, Nat.reduceMul, Int.reduceLT, Int.reduceLE, Int.reduceAdd, Int.reduceSub, Int.reduceMul, Int.reduceNeg, Int.reduceToNat, Int.reduceEq, hvw, hl0]
      have hd : decide (l.length = 0) = true := by rw [decide_eq_true_eq]; omega
      exact endK_drop hM3 (endK_same ⟨by unfold absB; rw [if_neg h7, hv, hd, e0]; simp [e1, hvw], rfl, rfl⟩)
    · simp only [go_sem, reduceCtorEq, reduceIte, Nat.reduceEqDiff, Nat.reduceAdd, Nat.reduceLeDiff, Nat.reduceMul, Int.reduceLT, Int.reduceLE, Int.reduceAdd, Int.reduceSub, Int.reduceMul, Int.reduceNeg, Int.reduceToNat, Int.reduceEq, hvw, hl0]
      have hd : decide (l.length = 0) = false := by rw [decide_eq_false_iff_not]; omega
      exact endK_drop hM3 (endK_same ⟨by unfold absB; rw [if_neg h7, hv, hd]; simp, rfl, rfl⟩)
theorem k31 (k : Int) (v : V) (u : Value) (l : List Ba) (s : Sc) (h : RdG 7 Ba.cs F M u l) : CallsA Try.prog 31 [.int .i64 k, abV v u, s.val] F M
    (Same F M (if absB k v l && sc6B k s then .tuple #[.bool (holdsB k v l s), .int .i64 0] else .tuple #[.bool false, .int .i64 1])) := by
  refine callsA_of hm Try.func31 e31 (Nat.le_of_ble_eq_true rfl) ?_
  have h' := h
  obtain ⟨_, ad, cap, _, rfl, _⟩ := h
  simp only [c31, go_sem, reduceCtorEq, reduceIte, Nat.reduceEqDiff, Nat.reduceAdd, Nat.reduceLeDiff, Nat.reduceMul, Int.reduceLT, Int.reduceLE, Int.reduceAdd, Int.reduceSub, Int.reduceMul, Int.reduceNeg, Int.reduceToNat, Int.reduceEq]
  intro r4 hF4 hM4
  simp only [go_sem, reduceCtorEq, reduceIte, Nat.reduceEqDiff, Nat.reduceAdd, Nat.reduceLeDiff, Nat.reduceMul, Int.reduceLT, Int.reduceLE, Int.reduceAdd, Int.reduceSub, Int.reduceMul, Int.reduceNeg, Int.reduceToNat, Int.reduceEq]
  intro r5 hF5 hM5
  have g5 := fresh_of hM5
  have h2 := (h'.new hF4 hM4 (e := ⟨abCs v (.slice ad l.length cap), 37, 7⟩)).new hF5 hM5 (e := ⟨s.cs, 32, 4⟩)
  simp only [go_sem, reduceCtorEq, reduceIte, Nat.reduceEqDiff, Nat.reduceAdd, Nat.reduceLeDiff, Nat.reduceMul, Int.reduceLT, Int.reduceLE, Int.reduceAdd, Int.reduceSub, Int.reduceMul, Int.reduceNeg, Int.reduceToNat, Int.reduceEq, g5]
  refine callK_same (k69 _ _ k v _ l h2) ?_
  cases ha : absB k v l
  · simp only [go_sem, reduceCtorEq, reduceIte, Nat.reduceEqDiff, Nat.reduceAdd, Nat.reduceLeDiff, Nat.reduceMul, Int.reduceLT, Int.reduceLE, Int.reduceAdd, Int.reduceSub, Int.reduceMul, Int.reduceNeg, Int.reduceToNat, Int.reduceEq, g5]
    exact endK_drop hM5 (endK_drop hM4 (endK_same ⟨by simp, rfl, rfl⟩))
  simp only [go_sem, reduceCtorEq, reduceIte, Nat.reduceEqDiff, Nat.reduceAdd, Nat.reduceLeDiff, Nat.reduceMul, Int.reduceLT, Int.reduceLE, Int.reduceAdd, Int.reduceSub, Int.reduceMul, Int.reduceNeg, Int.reduceToNat, Int.reduceEq, g5]
  refine callK_same (k60 _ _ k s) ?_
  cases hs : sc6B k s
  · simp only [go_sem, reduceCtorEq, reduceIte, Nat.reduceEqDiff, Nat.reduceAdd, Nat.reduceLeDiff, Nat.reduceMul, Int.reduceLT, Int.reduceLE, Int.reduceAdd, Int.reduceSub, Int.reduceMul, Int.reduceNeg, Int.reduceToNat, Int.reduceEq, g5]
    exact endK_drop hM5 (endK_drop hM4 (endK_same ⟨by simp, rfl, rfl⟩))
  simp only [go_sem, reduceCtorEq, reduceIte, Nat.reduceEqDiff, Nat.reduceAdd, Nat.reduceLeDiff, Nat.reduceMul, Int.reduceLT, Int.reduceLE, Int.reduceAdd, Int.reduceSub, Int.reduceMul, Int.reduceNeg, Int.reduceToNat, Int.reduceEq, g5]
  refine callK_same (k72 _ _ k v _ l s h2) ?_
  simp only [go_sem, reduceCtorEq, reduceIte, Nat.reduceEqDiff, Nat.reduceAdd, Nat.reduceLeDiff, Nat.reduceMul, Int.reduceLT, Int.reduceLE, Int.reduceAdd, Int.reduceSub, Int.reduceMul, Int.reduceNeg, Int.reduceToNat, Int.reduceEq, g5]
  exact endK_drop hM5 (endK_drop hM4 (endK_same ⟨by simp, rfl, rfl⟩))
theorem k24 : CallsA Try.prog 24 [] F M (Same F M (.bool true)) := by
  refine callsA_of hm Try.func24 e24 (Nat.le_of_ble_eq_true rfl) ?_
  have w1 : sc6B 7 ⟨true, 0, 0, 0⟩ = true := by decide +kernel
  have w2 : absB 7 V.zero [⟨0, V.just 8 0⟩] = true := by decide +kernel
  have w3 : sc6B 7 ⟨true, 0, 1, 0⟩ = true := by decide +kernel
  have w4 : holdsB 7 V.zero [⟨0, V.just 8 0⟩] ⟨true, 0, 0, 0⟩ = true := by decide +kernel
  have w5 : holdsB 7 V.zero [⟨0, V.just 8 0⟩] ⟨true, 0, 1, 0⟩ = false := by decide +kernel
  simp only [c24, go_sem, reduceCtorEq, reduceIte, Nat.reduceEqDiff, Nat.reduceAdd, Nat.reduceLeDiff, Nat.reduceMul, Int.reduceLT, Int.reduceLE, Int.reduceAdd, Int.reduceSub, Int.reduceMul, Int.reduceNeg, Int.reduceToNat, Int.reduceEq]
  refine callK_of (k15 _ _ 7 ⟨true, 0, 0, 0⟩) ?_
  rintro u G M' (⟨_, w, rfl, ha⟩ | ⟨h, _⟩)
  rotate_left
  · rw [w1] at h; cases h
  have ha : abR 87 V.zero [⟨0, V.just 8 0⟩] F M w G M' := ha
  obtain ⟨hG, le, kp, ho, a, n, c, rfl, hrd⟩ := ha.le
  subst hG
  have rd := hrd (by decide)
  refine ⟨fun _ => le, ?_⟩
  simp only [go_sem, reduceCtorEq, reduceIte, Nat.reduceEqDiff, Nat.reduceAdd, Nat.reduceLeDiff, Nat.reduceMul, Int.reduceLT, Int.reduceLE, Int.reduceAdd, Int.reduceSub, Int.reduceMul, Int.reduceNeg, Int.reduceToNat, Int.reduceEq]
  intro r1 hF1 hM1
  have rd2 := rd.new hF1 hM1 (e := ⟨abCs V.zero (.slice a n c), 37, 7⟩)
  simp only [go_sem, reduceCtorEq, reduceIte, Nat.reduceEqDiff, Nat.reduceAdd, Nat.reduceLeDiff, Nat.reduceMul, Int.reduceLT, Int.reduceLE, Int.reduceAdd, Int.reduceSub, Int.reduceMul, Int.reduceNeg, Int.reduceToNat, Int.reduceEq]
  have h1 := k31 G (M'.upd r1 ⟨abCs V.zero (.slice a n c), 37, 7⟩) 7 V.zero _ _ ⟨true, 0, 0, 0⟩ rd2
  rw [w2, w1, w4] at h1
  refine callK_same h1 ?_
  simp only [go_sem, reduceCtorEq, reduceIte, Nat.reduceEqDiff, Nat.reduceAdd, Nat.reduceLeDiff, Nat.reduceMul, Int.reduceLT, Int.reduceLE, Int.reduceAdd, Int.reduceSub, Int.reduceMul, Int.reduceNeg, Int.reduceToNat, Int.reduceEq, Bool.and_self, if_true]
  have h2 := k31 G (M'.upd r1 ⟨abCs V.zero (.slice a n c), 37, 7⟩) 7 V.zero _ _ ⟨true, 0, 1, 0⟩ rd2
  rw [w2, w3, w5] at h2
  refine callK_same h2 ?_
  simp only [go_sem, reduceCtorEq, reduceIte, Nat.reduceEqDiff, Nat.reduceAdd, Nat.reduceLeDiff, Nat.reduceMul, Int.reduceLT, Int.reduceLE, Int.reduceAdd, Int.reduceSub, Int.reduceMul, Int.reduceNeg, Int.reduceToNat, Int.reduceEq, Bool.and_self, if_true]
  refine callK_same (k17 _ _ 0) ?_
  simp only [go_sem, reduceCtorEq, reduceIte, Nat.reduceEqDiff, Nat.reduceAdd, Nat.reduceLeDiff, Nat.reduceMul, Int.reduceLT, Int.reduceLE, Int.reduceAdd, Int.reduceSub, Int.reduceMul, Int.reduceNeg, Int.reduceToNat, Int.reduceEq]
  refine callK_same (k17 _ _ 0) ?_
  simp only [go_sem, reduceCtorEq, reduceIte, Nat.reduceEqDiff, Nat.reduceAdd, Nat.reduceLeDiff, Nat.reduceMul, Int.reduceLT, Int.reduceLE, Int.reduceAdd, Int.reduceSub, Int.reduceMul, Int.reduceNeg, Int.reduceToNat, Int.reduceEq]
  refine callK_same (k17 _ _ 0) ?_
  simp only [go_sem, reduceCtorEq, reduceIte, Nat.reduceEqDiff, Nat.reduceAdd, Nat.reduceLeDiff, Nat.reduceMul, Int.reduceLT, Int.reduceLE, Int.reduceAdd, Int.reduceSub, Int.reduceMul, Int.reduceNeg, Int.reduceToNat, Int.reduceEq]
  refine callK_same (k19 _ _ 7 V.zero _ _ rd2) ?_
  simp only [go_sem, reduceCtorEq, reduceIte, Nat.reduceEqDiff, Nat.reduceAdd, Nat.reduceLeDiff, Nat.reduceMul, Int.reduceLT, Int.reduceLE, Int.reduceAdd, Int.reduceSub, Int.reduceMul, Int.reduceNeg, Int.reduceToNat, Int.reduceEq, w2]
  exact endK_keep (kp.new (kp.free hM1)) ⟨rfl, rfl, rfl⟩
end Go.Proofs.Try.K

/- Contracts: what an input of layer 15's statements weighs. -/
namespace Go.Proofs.Try.K
open Go Go.Ax Go.Proofs.Try.S
set_option maxRecDepth 100000
set_option linter.unusedSimpArgs false
set_option linter.unusedVariables false
variable (F : Fz) (M : Hp)

theorem k59 (v : V) (a : Option Addr) (n c : Nat) (hn : n ≤ 140737488351232) : CallsA Try.prog 59 [abV v (.slice a n c)] F M (Same F M (.int .i64 (1 + n))) := by
  refine callsA_of hm Try.func59 e59 (Nat.le_of_ble_eq_true rfl) ?_
  have e1 : IntKind.i64.wrap (1 + (n : Int)) = 1 + n := w64 (by omega) (by omega)
  simp only [c59, go_sem, reduceCtorEq, reduceIte, Nat.reduceEqDiff, Nat.reduceAdd, Nat.reduceLeDiff, Nat.reduceMul, Int.reduceLT, Int.reduceLE, Int.reduceAdd, Int.reduceSub, Int.reduceMul, Int.reduceNeg, Int.reduceToNat, Int.reduceEq]
  intro r hF hM
  simp only [go_sem, reduceCtorEq, reduceIte, Nat.reduceEqDiff, Nat.reduceAdd, Nat.reduceLeDiff, Nat.reduceMul, Int.reduceLT, Int.reduceLE, Int.reduceAdd, Int.reduceSub, Int.reduceMul, Int.reduceNeg, Int.reduceToNat, Int.reduceEq, e1]
  exact endK_drop hM (endK_same ⟨rfl, rfl, rfl⟩)
def heI (X : List Ab) (uX uS uV uN : Value) (nS : Nat) (F0 : Fz) (M0 : Hp) (r : Nat) (m : Nat) (σ : Env) (F : Fz) (M : Hp) : Prop :=
  F = F0 ∧ M = M0 ∧ Ax.look σ 1 = some (.pointer (some ⟨r, 0, none⟩)) ∧ ∃ (i n : Nat), i + m = X.length ∧ Ax.look σ 4 = some (.int .i64 i) ∧ Ax.look σ 3 = some (.int .i64 n) ∧ nS + i ≤ n ∧ n ≤ 300000000000000
/-- Too heavy, or it is known how light. -/
def heavyR (nX nS nV nN : Nat) (F : Fz) (M : Hp) (u : Value) (F' : Fz) (M' : Hp) : Prop :=
  F' = F ∧ M' = M ∧ ∃ b : Bool, u = .bool b ∧ (b = false → nX ≤ 400 ∧ nS ≤ 400 ∧ nV ≤ 100 ∧ nN ≤ 100)
theorem k14 (X : List Ab) (uX : Value) (aS aV aN : Option Addr) (nS cS nV cV nN cN : Nat) (hX : RdG 7 Ab.cs F M uX X) (hXl : X.length ≤ 140737488351232) (hr : ∀ x ∈ X, x.n ≤ 140737488351232) (hS : nS ≤ 140737488351232) :
    CallsA Try.prog 14 [.agg #[uX, .slice aS nS cS, .slice aV nV cV, .slice aN nN cN]] F M (heavyR X.length nS nV nN F M) := by
  refine callsA_of hm Try.func14 e14 (Nat.le_of_ble_eq_true rfl) ?_
  have hX0 := hX
  obtain ⟨_, ad, cap, _, rfl, hrd⟩ := hX
  simp only [c14, go_sem, reduceCtorEq, reduceIte, Nat.reduceEqDiff, Nat.reduceAdd, Nat.reduceLeDiff, Nat.reduceMul, Int.reduceLT, Int.reduceLE, Int.reduceAdd, Int.reduceSub, Int.reduceMul, Int.reduceNeg, Int.reduceToNat, Int.reduceEq]
  intro r hF hM
  simp only [go_sem, reduceCtorEq, reduceIte, Nat.reduceEqDiff, Nat.reduceAdd, Nat.reduceLeDiff, Nat.reduceMul, Int.reduceLT, Int.reduceLE, Int.reduceAdd, Int.reduceSub, Int.reduceMul, Int.reduceNeg, Int.reduceToNat, Int.reduceEq]
  refine loop_of (heI X (.slice ad X.length cap) (.slice aS nS cS) (.slice aV nV cV) (.slice aN nN cN) nS F (M.upd r ⟨[.slice ad X.length cap, .slice aS nS cS, .slice aV nV cV, .slice aN nN cN], 29, 4⟩) r) X.length ?_ ?_
  · exact ⟨rfl, rfl, by simp only [go_sem, reduceCtorEq, reduceIte, Nat.reduceEqDiff, Nat.reduceAdd, Nat.reduceLeDiff, Nat.reduceMul, Int.reduceLT, Int.reduceLE, Int.reduceAdd, Int.reduceSub, Int.reduceMul, Int.reduceNeg, Int.reduceToNat, Int.reduceEq], 0, nS, by omega, by simp only [go_sem, reduceCtorEq, reduceIte, Nat.reduceEqDiff, Nat.reduceAdd, Nat.reduceLeDiff, Nat.reduceMul, Int.reduceLT, Int.reduceLE, Int.reduceAdd, Int.reduceSub, Int.reduceMul, Int.reduceNeg, Int.reduceToNat, Int.reduceEq] <;> rfl, by simp only [go_sem, reduceCtorEq, reduceIte, Nat.reduceEqDiff, Nat.reduceAdd, Nat.reduceLeDiff, Nat.reduceMul, Int.reduceLT, Int.reduceLE, Int.reduceAdd, Int.reduceSub, Int.reduceMul, Int.reduceNeg, Int.reduceToNat, Int.reduceEq], by omega, by omega⟩
  rintro m σ F' M' ⟨rfl, rfl, h1, i, n, hi, h4, h3, hn1, hn2⟩
  have fin : ∀ (hend : 400 < (n : Int) ∨ X.length ≤ i), True := fun _ => trivial
  by_cases hil : (i : Int) < X.length
  · by_cases hn : (n : Int) < 1048576
    · have hi0 : (0 : Int) ≤ i := by omega
      have hil' : i < X.length := by omega
      have ei : IntKind.i64.wrap ((i : Int) + 1) = i + 1 := w64 (by omega) (by omega)
      rcases hrd with h | ⟨b, o, cs, rfl, hb, hc⟩
      · rw [h] at hil'; simp at hil'
      obtain ⟨d1, d2⟩ := hc i hil'
      have hx := hr X[i] (List.getElem_mem _)
      have br := blk_ne hb hF hM
      generalize X[i] = x at *
      have d3 : (cs.drop (o + i * 7)).take 7 = abCs x.v (.slice x.a x.n x.c) := d2
      have e2 : IntKind.i64.wrap ((n : Int) + (1 + x.n)) = ((n + (1 + x.n) : Nat) : Int) := w64 (by omega) (by omega)
      simp only [go_sem, reduceCtorEq, reduceIte, Nat.reduceEqDiff, Nat.reduceAdd, Nat.reduceLeDiff, Nat.reduceMul, Int.reduceLT, Int.reduceLE, Int.reduceAdd, Int.reduceSub, Int.reduceMul, Int.reduceNeg, Int.reduceToNat, Int.reduceEq, h1, h3, h4, hil, hn, hi0, Int.toNat_natCast, br, hb, d1, d3]
      refine callK_same (k59 _ _ x.v x.a x.n x.c hx) ?_
      simp only [go_sem, reduceCtorEq, reduceIte, Nat.reduceEqDiff, Nat.reduceAdd, Nat.reduceLeDiff, Nat.reduceMul, Int.reduceLT, Int.reduceLE, Int.reduceAdd, Int.reduceSub, Int.reduceMul, Int.reduceNeg, Int.reduceToNat, Int.reduceEq, h1, h3, h4, ei, e2]
      exact ⟨m - 1, by omega, rfl, rfl, by simp only [go_sem, reduceCtorEq, reduceIte, Nat.reduceEqDiff, Nat.reduceAdd, Nat.reduceLeDiff, Nat.reduceMul, Int.reduceLT, Int.reduceLE, Int.reduceAdd, Int.reduceSub, Int.reduceMul, Int.reduceNeg, Int.reduceToNat, Int.reduceEq, h1], i + 1, n + (1 + x.n), by omega, by simp only [go_sem, reduceCtorEq, reduceIte, Nat.reduceEqDiff, Nat.reduceAdd, Nat.reduceLeDiff, Nat.reduceMul, Int.reduceLT, Int.reduceLE, Int.reduceAdd, Int.reduceSub, Int.reduceMul, Int.reduceNeg, Int.reduceToNat, Int.reduceEq]; rfl, by simp only [go_sem, reduceCtorEq, reduceIte, Nat.reduceEqDiff, Nat.reduceAdd, Nat.reduceLeDiff, Nat.reduceMul, Int.reduceLT, Int.reduceLE, Int.reduceAdd, Int.reduceSub, Int.reduceMul, Int.reduceNeg, Int.reduceToNat, Int.reduceEq], by omega, by omega⟩
    · have h400 : (400 : Int) < n := by omega
      simp only [go_sem, reduceCtorEq, reduceIte, Nat.reduceEqDiff, Nat.reduceAdd, Nat.reduceLeDiff, Nat.reduceMul, Int.reduceLT, Int.reduceLE, Int.reduceAdd, Int.reduceSub, Int.reduceMul, Int.reduceNeg, Int.reduceToNat, Int.reduceEq, h1, h3, h4, hil, hn, h400]
      exact endK_drop hM (endK_same ⟨rfl, rfl, true, rfl, fun h => by cases h⟩)
  · by_cases h400 : (400 : Int) < n
    · simp only [go_sem, reduceCtorEq, reduceIte, Nat.reduceEqDiff, Nat.reduceAdd, Nat.reduceLeDiff, Nat.reduceMul, Int.reduceLT, Int.reduceLE, Int.reduceAdd, Int.reduceSub, Int.reduceMul, Int.reduceNeg, Int.reduceToNat, Int.reduceEq, h1, h3, h4, hil, h400]
      exact endK_drop hM (endK_same ⟨rfl, rfl, true, rfl, fun h => by cases h⟩)
    · simp only [go_sem, reduceCtorEq, reduceIte, Nat.reduceEqDiff, Nat.reduceAdd, Nat.reduceLeDiff, Nat.reduceMul, Int.reduceLT, Int.reduceLE, Int.reduceAdd, Int.reduceSub, Int.reduceMul, Int.reduceNeg, Int.reduceToNat, Int.reduceEq, h1, h3, h4, hil, h400]
      refine callK_same (k34 _ _ aV aN nV nN cV cN) ?_
      simp only [go_sem, reduceCtorEq, reduceIte, Nat.reduceEqDiff, Nat.reduceAdd, Nat.reduceLeDiff, Nat.reduceMul, Int.reduceLT, Int.reduceLE, Int.reduceAdd, Int.reduceSub, Int.reduceMul, Int.reduceNeg, Int.reduceToNat, Int.reduceEq]
      refine endK_drop hM (endK_same ⟨rfl, rfl, _, rfl, fun h => ?_⟩)
      simp only [Bool.or_eq_false_iff, decide_eq_false_iff_not] at h
      omega
end Go.Proofs.Try.K
