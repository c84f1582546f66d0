/- The law AbsPointers, walked: it returns true at every input. -/
import Derived.Test.YtmaclakgkllojaaProg
import Derived.Test.YtmaclakgkllojaaK50to59
namespace Go.Proofs.Try.S
open Go Go.Ax Go.Ax.N
set_option maxRecDepth 100000

/-- cellar/cellarlaw15.AbsPointers -/
def c11 : SF := ⟨143, [.t 2], (.seq (.ops [k 1 (.bx 29 (t 0)),
 o 2 (.mv (b false))])
 (.seq (.ops [o 3 (.mv (i 6))])
 (.seq (.ops [o 22 (.bd [.bool false, .int .i64 0, .int .i64 0, .int .i64 0] [(0, 1, (b true))]),
 k 23 (.ca (.func 15) [(i 7), (t 22)]),
 o 21 (.mv (t 23)),
 o 24 (.ex (t 21) 0),
 o 25 (.ex (t 21) 1),
 k 4 (.al 37 [.int .i64 0, .bool false, .int .i64 0, .int .i64 0, .int .i64 0, .int .i64 0, .slice none 0 0]),
 kn (.st [] 7 (t 4) (t 24)),
 o 5 (.mv (t 25))])
 (.seq (.seq (.ops [o 26 (.mv (t 5)),
 k 27 (.ca (.func 17) [(t 26)]),
 o 28 (.bin .neq (t 27) (i 0))])
 (.cond (t 28)
 (.seq (.ops [o 2 (.mv (b false))])
 .ret)
 .skip))
 (.seq (.seq (.ops [o 6 (.mv (i 1))])
 (.block 0 (.loop (.seq (.seq (.ops [o 29 (.mv (t 6)),
 o 30 (.mv (t 3)),
 o 31 (.bin .leq (t 29) (t 30))])
 (.cond (t 31)
 .skip
 (.exit 0)))
 (.seq (.block 1 (.seq (.ops [o 35 (.mv (t 6)),
 o 36 (.mv (t 6)),
 o 37 (.bin .mul (t 36) (i 5)),
 o 38 (.fa 1 (t 1)),
 o 39 (.ld false 1 (t 38)),
 o 40 (.ln (t 39)),
 o 41 (.bin .add (t 37) (t 40)),
 o 42 (.bin .rem (t 41) (i 30)),
 o 43 (.bd [.bool false, .int .i64 0, .int .i64 0, .int .i64 0] [(0, 1, (b true)), (2, 1, (t 35)), (3, 1, (t 42))]),
 k 44 (.ca (.func 15) [(i 7), (t 43)]),
 o 34 (.mv (t 44)),
 o 45 (.ex (t 34) 0),
 o 46 (.ex (t 34) 1),
 k 7 (.al 37 [.int .i64 0, .bool false, .int .i64 0, .int .i64 0, .int .i64 0, .int .i64 0, .slice none 0 0]),
 kn (.st [] 7 (t 7) (t 45)),
 o 8 (.mv (t 46))])
 (.seq (.ops [o 48 (.ld true 7 (t 4)),
 o 49 (.ld true 7 (t 7)),
 k 50 (.ca (.func 50) [(i 7), (t 48), (t 49)]),
 o 47 (.mv (t 50)),
 o 51 (.ex (t 47) 0),
 o 52 (.ex (t 47) 1),
 k 9 (.al 37 [.int .i64 0, .bool false, .int .i64 0, .int .i64 0, .int .i64 0, .int .i64 0, .slice none 0 0]),
 kn (.st [] 7 (t 9) (t 51)),
 o 10 (.mv (t 52))])
 (.seq (.seq (.ops [o 53 (.mv (t 8)),
 k 54 (.ca (.func 17) [(t 53)]),
 o 55 (.bin .neq (t 54) (i 0)),
 o 56 (.mv (t 55)),
 og 57 56 false (.mv (t 10)),
 ⟨some 58, some (56, false), .ca (.func 17) [(t 57)]⟩,
 og 59 56 false (.bin .neq (t 58) (i 0)),
 o 60 (.pick (t 56) (b true) (t 59)),
 o 61 (.mv (t 60)),
 og 62 61 false (.ld true 7 (t 9)),
 ⟨some 63, some (61, false), .ca (.func 19) [(i 7), (t 62)]⟩,
 og 64 61 false (.un .not (t 63)),
 o 65 (.pick (t 61) (b true) (t 64))])
 (.cond (t 65)
 (.seq (.ops [o 2 (.mv (b false))])
 .ret)
 .skip))
 (.seq (.seq (.ops [o 11 (.mv (i 0))])
 (.block 2 (.loop (.seq (.seq (.ops [o 66 (.mv (t 11)),
 o 67 (.mv (t 6)),
 o 68 (.bin .leq (t 66) (t 67))])
 (.cond (t 68)
 .skip
 (.exit 2)))
 (.seq (.block 3 (.seq (.ops [o 71 (.mv (t 11)),
 o 72 (.mv (t 11)),
 o 73 (.bin .mul (t 72) (i 5)),
 o 74 (.fa 1 (t 1)),
 o 75 (.ld false 1 (t 74)),
 o 76 (.ln (t 75)),
 o 77 (.bin .add (t 73) (t 76)),
 o 78 (.bin .rem (t 77) (i 30)),
 o 79 (.bd [.bool false, .int .i64 0, .int .i64 0, .int .i64 0] [(0, 1, (b true)), (2, 1, (t 71)), (3, 1, (t 78))]),
 k 12 (.al 32 [.bool false, .int .i64 0, .int .i64 0, .int .i64 0]),
 kn (.st [] 4 (t 12) (t 79))])
 (.seq (.seq (.ops [o 80 (.mv (t 11)),
 o 81 (.bin .eql (t 80) (i 0))])
 (.cond (t 81)
 (.ops [o 82 (.fa 3 (t 12)),
 kn (.st [] 1 (t 82) (i 0))])
 .skip))
 (.seq (.ops [o 84 (.ld true 7 (t 9)),
 o 85 (.ld true 4 (t 12)),
 k 86 (.ca (.func 31) [(i 7), (t 84), (t 85)]),
 o 83 (.mv (t 86)),
 o 87 (.ex (t 83) 0),
 o 88 (.ex (t 83) 1),
 o 13 (.mv (t 87)),
 o 14 (.mv (t 88))])
 (.seq (.ops [o 89 (.mv (t 14)),
 k 90 (.ca (.func 17) [(t 89)]),
 o 91 (.bin .neq (t 90) (i 0)),
 o 92 (.mv (t 91)),
 og 93 92 false (.mv (t 13)),
 og 94 92 false (.un .not (t 93)),
 o 95 (.pick (t 92) (b true) (t 94))])
 (.cond (t 95)
 (.seq (.ops [o 2 (.mv (b false))])
 .ret)
 .skip))))))
 (.ops [o 69 (.mv (t 11)),
 o 70 (.bin .add (t 69) (i 1)),
 o 11 (.mv (t 70))]))))))
 (.ops [o 96 (.ld true 7 (t 9)),
 kn (.st [] 7 (t 4) (t 96))]))))))
 (.ops [o 32 (.mv (t 6)),
 o 33 (.bin .add (t 32) (i 1)),
 o 6 (.mv (t 33))]))))))
 (.seq (.ops [o 98 (.mv (t 3)),
 k 99 (.ca (.func 20) [(i 7), (t 98)]),
 o 97 (.mv (t 99)),
 o 100 (.ex (t 97) 0),
 o 101 (.ex (t 97) 1),
 k 15 (.al 37 [.int .i64 0, .bool false, .int .i64 0, .int .i64 0, .int .i64 0, .int .i64 0, .slice none 0 0]),
 kn (.st [] 7 (t 15) (t 100)),
 o 16 (.mv (t 101))])
 (.seq (.ops [o 103 (.ld true 7 (t 4)),
 o 104 (.ld true 7 (t 15)),
 k 105 (.ca (.func 51) [(i 7), (t 103), (t 104)]),
 o 102 (.mv (t 105)),
 o 106 (.ex (t 102) 0),
 o 107 (.ex (t 102) 1),
 k 17 (.al 37 [.int .i64 0, .bool false, .int .i64 0, .int .i64 0, .int .i64 0, .int .i64 0, .slice none 0 0]),
 kn (.st [] 7 (t 17) (t 106)),
 o 18 (.mv (t 107))])
 (.seq (.seq (.ops [o 108 (.mv (t 16)),
 k 109 (.ca (.func 17) [(t 108)]),
 o 110 (.bin .neq (t 109) (i 0)),
 o 111 (.mv (t 110)),
 og 112 111 false (.mv (t 18)),
 ⟨some 113, some (111, false), .ca (.func 17) [(t 112)]⟩,
 og 114 111 false (.bin .neq (t 113) (i 0)),
 o 115 (.pick (t 111) (b true) (t 114)),
 o 116 (.mv (t 115)),
 og 117 116 false (.ld true 7 (t 17)),
 ⟨some 118, some (116, false), .ca (.func 19) [(i 7), (t 117)]⟩,
 og 119 116 false (.un .not (t 118)),
 o 120 (.pick (t 116) (b true) (t 119)),
 o 121 (.mv (t 120)),
 og 122 121 false (.ld true 7 (t 4)),
 og 123 121 false (.ld true 7 (t 17)),
 ⟨some 124, some (121, false), .ca (.func 52) [(i 7), (t 122), (t 123), (i 3)]⟩,
 og 125 121 false (.un .not (t 124)),
 o 126 (.pick (t 121) (b true) (t 125)),
 o 127 (.mv (t 126)),
 og 128 127 false (.ld true 7 (t 4)),
 og 129 127 false (.ld true 7 (t 15)),
 ⟨some 130, some (127, false), .ca (.func 52) [(i 7), (t 128), (t 129), (i 5)]⟩,
 og 131 127 false (.un .not (t 130)),
 o 132 (.pick (t 127) (b true) (t 131))])
 (.cond (t 132)
 (.seq (.ops [o 2 (.mv (b false))])
 .ret)
 .skip))
 (.seq (.ops [o 134 (.ld true 7 (t 17)),
 k 135 (.ca (.func 18) [(i 7), (t 134)]),
 o 133 (.mv (t 135)),
 o 136 (.ex (t 133) 0),
 o 137 (.ex (t 133) 1),
 k 19 (.al 32 [.bool false, .int .i64 0, .int .i64 0, .int .i64 0]),
 kn (.st [] 4 (t 19) (t 136)),
 o 20 (.mv (t 137))])
 (.seq (.ops [o 138 (.mv (t 20)),
 o 139 (.un .not (t 138)),
 o 140 (.mv (t 139)),
 ⟨some 141, some (140, true), .ca (.func 24) []⟩,
 o 142 (.pick (t 140) (t 141) (b false)),
 o 2 (.mv (t 142))])
 .ret))))))))))⟩
theorem e11 : slimF Try.prog Try.f11 [] = some c11 := by kernel_rfl
end Go.Proofs.Try.S
namespace Go.Proofs.Ytmaclakgkllojaa.absPointers
open Go Go.Ax Go.Proofs.Try.S Go.Proofs.Try.K
set_option maxRecDepth 100000
set_option linter.unusedSimpArgs false
set_option linter.unusedVariables false
set_option maxHeartbeats 4000000

structure Q0 (F0 : Fz) (ask : List Value) (r : Nat) (σ : Env) (F : Fz) (M : Hp) : Prop where
  ff : F = F0
  old : Old F0 M
  fr : M r = some ⟨ask, 29, 4⟩
  h1 : Ax.look σ 1 = some (.pointer (some ⟨r, 0, none⟩))
  h3 : Ax.look σ 3 = some (.int .i64 6)
/-- The pointers so far. -/
structure Xs (n b : Nat) (lx : List Ba) : Prop where
  may : absB 7 V.zero lx = true
  has : ∀ k : Nat, k < b → hasB 7 V.zero lx (ptP n k) = true
structure Q1 (F0 : Fz) (ask : List Value) (r : Nat) (n b : Nat) (lx : List Ba) (σ : Env) (F : Fz) (M : Hp) : Prop extends Q0 F0 ask r σ F M where
  h6 : Ax.look σ 6 = some (.int .i64 b)
  s4 : SetAt F0 4 V.zero lx σ M
  xs : Xs n b lx
structure Q2 (F0 : Fz) (ask : List Value) (r : Nat) (n b : Nat) (lx : List Ba) (lw : List Ba) (σ : Env) (F : Fz) (M : Hp) : Prop extends Q1 F0 ask r n b lx σ F M where
  s9 : SetAt F0 9 V.zero lw σ M
  ws : Xs n (b + 1) lw
section
variable {F0 : Fz} {ask : List Value} {r n b : Nat} {lx lw : List Ba} {σ σ' : Env} {F : Fz} {M M' : Hp}
theorem Q0.ext (s : Q0 F0 ask r σ F M) (e1 : Ax.look σ' 1 = Ax.look σ 1) (e3 : Ax.look σ' 3 = Ax.look σ 3) : Q0 F0 ask r σ' F M := ⟨s.ff, s.old, s.fr, e1.trans s.h1, e3.trans s.h3⟩
theorem Q0.grow (s : Q0 F0 ask r σ F M) (kp : Keep M M') (o : Old F0 M') : Q0 F0 ask r σ F M' := ⟨s.ff, o, kp _ _ s.fr, s.h1, s.h3⟩
theorem Q1.ext (s : Q1 F0 ask r n b lx σ F M) (e1 : Ax.look σ' 1 = Ax.look σ 1) (e3 : Ax.look σ' 3 = Ax.look σ 3) (e4 : Ax.look σ' 4 = Ax.look σ 4) (e6 : Ax.look σ' 6 = Ax.look σ 6) : Q1 F0 ask r n b lx σ' F M := ⟨s.toQ0.ext e1 e3, e6.trans s.h6, s.s4.ext e4, s.xs⟩
theorem Q1.grow (s : Q1 F0 ask r n b lx σ F M) (kp : Keep M M') (o : Old F0 M') : Q1 F0 ask r n b lx σ F M' := ⟨s.toQ0.grow kp o, s.h6, s.s4.grow kp o, s.xs⟩
theorem Q2.ext (s : Q2 F0 ask r n b lx lw σ F M) (e1 : Ax.look σ' 1 = Ax.look σ 1) (e3 : Ax.look σ' 3 = Ax.look σ 3) (e4 : Ax.look σ' 4 = Ax.look σ 4) (e6 : Ax.look σ' 6 = Ax.look σ 6) (e9 : Ax.look σ' 9 = Ax.look σ 9) : Q2 F0 ask r n b lx lw σ' F M := ⟨s.toQ1.ext e1 e3 e4 e6, s.s9.ext e9, s.ws⟩
theorem Q2.grow (s : Q2 F0 ask r n b lx lw σ F M) (kp : Keep M M') (o : Old F0 M') : Q2 F0 ask r n b lx lw σ F M' := ⟨s.toQ1.grow kp o, s.s9.grow kp o, s.ws⟩
end
def bI (F0 : Fz) (ask : List Value) (r : Nat) (n : Nat) (m : Nat) (σ : Env) (F : Fz) (M : Hp) : Prop := ∃ (b : Nat) (lx : List Ba), Q1 F0 ask r n b lx σ F M ∧ b + m = 7 ∧ 1 ≤ b
def T1 (F0 : Fz) (ask : List Value) (r : Nat) (n b : Nat) (lx : List Ba) (σ : Env) (F : Fz) (M : Hp) : Prop := Q1 F0 ask r n b lx σ F M ∧ SetAt F0 7 V.zero (oneL 7 (ptP n b)) σ M ∧ Ax.look σ 8 = some (.int .i64 0)
def T2 (F0 : Fz) (ask : List Value) (r : Nat) (n b : Nat) (lx : List Ba) (σ : Env) (F : Fz) (M : Hp) : Prop := ∃ lw, Q2 F0 ask r n b lx lw σ F M ∧ Ax.look σ 8 = some (.int .i64 0) ∧ Ax.look σ 10 = some (.int .i64 0)
def kI (F0 : Fz) (ask : List Value) (r : Nat) (n b : Nat) (lx lw : List Ba) (m : Nat) (σ : Env) (F : Fz) (M : Hp) : Prop := Q2 F0 ask r n b lx lw σ F M ∧ ∃ k : Nat, k + m = b + 1 ∧ Ax.look σ 11 = some (.int .i64 k)
def Qn (F0 : Fz) (ask : List Value) (r : Nat) (n b : Nat) (σ : Env) (F : Fz) (M : Hp) : Prop := ∃ lw, Q0 F0 ask r σ F M ∧ Ax.look σ 6 = some (.int .i64 b) ∧ SetAt F0 4 V.zero lw σ M ∧ Xs n (b + 1) lw
def kJ (F0 : Fz) (ask : List Value) (r : Nat) (n b : Nat) (lx lw : List Ba) (k : Nat) (σ : Env) (F : Fz) (M : Hp) : Prop := Q2 F0 ask r n b lx lw σ F M ∧ Ax.look σ 11 = some (.int .i64 k)
def kS (F0 : Fz) (ask : List Value) (r : Nat) (n b : Nat) (lx lw : List Ba) (k : Nat) (σ : Env) (F : Fz) (M : Hp) : Prop := Q2 F0 ask r n b lx lw σ F M ∧ Ax.look σ 11 = some (.int .i64 k) ∧ ∃ r12, Ax.look σ 12 = some (.pointer (some ⟨r12, 0, none⟩)) ∧ M r12 = some ⟨(ptP n k).cs, 32, 4⟩
structure Q3 (F0 : Fz) (ask : List Value) (r : Nat) (n : Nat) (lx : List Ba) (σ : Env) (F : Fz) (M : Hp) : Prop extends Q0 F0 ask r σ F M where
  s4 : SetAt F0 4 V.zero lx σ M
  xs : Xs n 7 lx
  s15 : SetAt F0 15 V.zero (allL 7 6) σ M
  h16 : Ax.look σ 16 = some (.int .i64 0)

theorem call (W : World) (cs : List Value) (h : Rd (fzOf W) shAsk15 cs) :
  CallsA Try.prog 11 [.agg cs.toArray] (fzOf W) noHp fun r _ _ => r = .bool true := by
  obtain ⟨vX, vS, vV, vN, rfl, hX, hS, hV, hN⟩ := rd_ask15 h
  obtain ⟨aX, cX, lX, rfl, hlX, hrX, hXr⟩ := rd_Xs hX
  obtain ⟨aS, cS, lS, rfl, hlS, hSr⟩ := rd_Ss hS
  obtain ⟨aV, cV, lv, rfl, hlV, _, hlen, _, hcV⟩ := rd_Vs hV
  obtain ⟨aN, cN, ln, rfl, hl, hmx, hs, hin, h0, hc⟩ := rd_ints hN
  refine callsA_of hm Try.func11 e11 (Nat.le_of_ble_eq_true rfl) ?_
  clear hX hS hV hN h hXr hSr hcV hc hrX hin
  obtain ⟨ask, hask⟩ : ∃ ask, ask = [Value.slice aX lX.length cX, .slice aS lS.length cS, .slice aV lv.length cV, .slice aN ln.length cN] := ⟨_, rfl⟩
  have null_may : absB 7 (oneV 7 ⟨true, 0, 0, 0⟩) (oneL 7 ⟨true, 0, 0, 0⟩) = true := by decide +kernel
  simp only [c11, go_sem, reduceCtorEq, reduceIte, Nat.reduceEqDiff, Nat.reduceAdd, Nat.reduceLeDiff, Nat.reduceMul, Int.reduceLT, Int.reduceLE, Int.reduceAdd, Int.reduceSub, Int.reduceMul, Int.reduceNeg, Int.reduceToNat, Int.reduceEq]
  intro r hF hM
  have old1 := (Old.start (fzOf W)).upd (e := ⟨[.slice aX lX.length cX, .slice aS lS.length cS, .slice aV lv.length cV, .slice aN ln.length cN], 29, 4⟩) hF
  simp only [go_sem, reduceCtorEq, reduceIte, Nat.reduceEqDiff, Nat.reduceAdd, Nat.reduceLeDiff, Nat.reduceMul, Int.reduceLT, Int.reduceLE, Int.reduceAdd, Int.reduceSub, Int.reduceMul, Int.reduceNeg, Int.reduceToNat, Int.reduceEq]
  refine callK_of (k15 _ _ 7 ⟨true, 0, 0, 0⟩) ?_
  rintro w G M1 hw
  obtain ⟨hG, le, kq, oq, a4, n4, c4, rfl, rd4⟩ := oneLe hw (by decide +kernel)
  rw [hG]
  refine ⟨(fun h => by cases h), ?_⟩
  simp only [go_sem, reduceCtorEq, reduceIte, Nat.reduceEqDiff, Nat.reduceAdd, Nat.reduceLeDiff, Nat.reduceMul, Int.reduceLT, Int.reduceLE, Int.reduceAdd, Int.reduceSub, Int.reduceMul, Int.reduceNeg, Int.reduceToNat, Int.reduceEq]
  intro r4 hF4 hM4
  have kp := kq.trans ((Keep.refl M1).new hM4 (e := ⟨abCs V.zero (.slice a4 n4 c4), 37, 7⟩))
  have old4 := (oq old1).upd (e := ⟨abCs V.zero (.slice a4 n4 c4), 37, 7⟩) hF4
  simp only [go_sem, reduceCtorEq, reduceIte, Nat.reduceEqDiff, Nat.reduceAdd, Nat.reduceLeDiff, Nat.reduceMul, Int.reduceLT, Int.reduceLE, Int.reduceAdd, Int.reduceSub, Int.reduceMul, Int.reduceNeg, Int.reduceToNat, Int.reduceEq]
  refine callK_same (k17 _ _ 0) ?_
  simp only [go_sem, reduceCtorEq, reduceIte, Nat.reduceEqDiff, Nat.reduceAdd, Nat.reduceLeDiff, Nat.reduceMul, Int.reduceLT, Int.reduceLE, Int.reduceAdd, Int.reduceSub, Int.reduceMul, Int.reduceNeg, Int.reduceToNat, Int.reduceEq]
  refine loop_of (bI (fzOf W) ask r lS.length) 6 ?_ ?_
  · refine ⟨1, oneL 7 ⟨true, 0, 0, 0⟩, ⟨⟨rfl, old4, ?_, by simp only [go_sem, reduceCtorEq, reduceIte, Nat.reduceEqDiff, Nat.reduceAdd, Nat.reduceLeDiff, Nat.reduceMul, Int.reduceLT, Int.reduceLE, Int.reduceAdd, Int.reduceSub, Int.reduceMul, Int.reduceNeg, Int.reduceToNat, Int.reduceEq], by simp only [go_sem, reduceCtorEq, reduceIte, Nat.reduceEqDiff, Nat.reduceAdd, Nat.reduceLeDiff, Nat.reduceMul, Int.reduceLT, Int.reduceLE, Int.reduceAdd, Int.reduceSub, Int.reduceMul, Int.reduceNeg, Int.reduceToNat, Int.reduceEq]⟩, by simp only [go_sem, reduceCtorEq, reduceIte, Nat.reduceEqDiff, Nat.reduceAdd, Nat.reduceLeDiff, Nat.reduceMul, Int.reduceLT, Int.reduceLE, Int.reduceAdd, Int.reduceSub, Int.reduceMul, Int.reduceNeg, Int.reduceToNat, Int.reduceEq] <;> rfl, ⟨r4, a4, n4, c4, by simp only [go_sem, reduceCtorEq, reduceIte, Nat.reduceEqDiff, Nat.reduceAdd, Nat.reduceLeDiff, Nat.reduceMul, Int.reduceLT, Int.reduceLE, Int.reduceAdd, Int.reduceSub, Int.reduceMul, Int.reduceNeg, Int.reduceToNat, Int.reduceEq], Hp.upd_same _ _ _, rd4.new hF4 hM4⟩, null_may, fun k hk => ?_⟩, by omega, by omega⟩
    · rw [hask]; exact kp _ _ (Hp.upd_same _ _ _)
    · have : k = 0 := by omega
      subst this
      exact null_one
  clear kp old4 rd4 hM4 hF4 kq oq le hw hG old1 hM hF
  clear M1 a4 n4 c4 r4
  rintro mb σ F M ⟨b, lx, s, hb, hb1⟩
  obtain rfl := s.ff
  by_cases hb6 : (b : Int) ≤ 6
  rotate_left
  · have hb7 : b = 7 := by omega
    subst hb7
    obtain ⟨r4, a4, n4, c4, h4, f4, rd4⟩ := s.s4
    simp only [go_sem, reduceCtorEq, reduceIte, Nat.reduceEqDiff, Nat.reduceAdd, Nat.reduceLeDiff, Nat.reduceMul, Int.reduceLT, Int.reduceLE, Int.reduceAdd, Int.reduceSub, Int.reduceMul, Int.reduceNeg, Int.reduceToNat, Int.reduceEq, s.h1, s.h3, s.h6, h4]
    refine callK_of (k20 _ _ 7 6) ?_
    rintro w G M1 hw
    obtain ⟨hG, le, kq, oq, a15, n15, c15, rfl, rd15⟩ := allLe hw (by decide)
    have hv : allV 7 = V.zero := rfl
    rw [hv] at *
    rw [hG]
    refine ⟨(fun h => by cases h), ?_⟩
    simp only [go_sem, reduceCtorEq, reduceIte, Nat.reduceEqDiff, Nat.reduceAdd, Nat.reduceLeDiff, Nat.reduceMul, Int.reduceLT, Int.reduceLE, Int.reduceAdd, Int.reduceSub, Int.reduceMul, Int.reduceNeg, Int.reduceToNat, Int.reduceEq, s.h1, s.h3, s.h6, h4]
    intro r15 hF15 hM15
    have old15 := (oq s.old).upd (e := ⟨abCs V.zero (.slice a15 n15 c15), 37, 7⟩) hF15
    have kp15 := kq.trans ((Keep.refl M1).new hM15 (e := ⟨abCs V.zero (.slice a15 n15 c15), 37, 7⟩))
    have rd15 := rd15.new hF15 hM15 (e := ⟨abCs V.zero (.slice a15 n15 c15), 37, 7⟩)
    have f15 : (M1.upd r15 ⟨abCs V.zero (.slice a15 n15 c15), 37, 7⟩) r15 = some ⟨abCs V.zero (.slice a15 n15 c15), 37, 7⟩ := Hp.upd_same _ _ _
    simp only [go_sem, reduceCtorEq, reduceIte, Nat.reduceEqDiff, Nat.reduceAdd, Nat.reduceLeDiff, Nat.reduceMul, Int.reduceLT, Int.reduceLE, Int.reduceAdd, Int.reduceSub, Int.reduceMul, Int.reduceNeg, Int.reduceToNat, Int.reduceEq, s.h1, s.h3, s.h6, h4]
    generalize M1.upd r15 ⟨abCs V.zero (.slice a15 n15 c15), 37, 7⟩ = M2 at *
    have f4 := kp15 _ _ f4
    have rd4 := rd4.keep kp15 old15
    have b4 := blk_M (F := fzOf W) f4
    have b15 := blk_M (F := fzOf W) f15
    simp only [go_sem, reduceCtorEq, reduceIte, Nat.reduceEqDiff, Nat.reduceAdd, Nat.reduceLeDiff, Nat.reduceMul, Int.reduceLT, Int.reduceLE, Int.reduceAdd, Int.reduceSub, Int.reduceMul, Int.reduceNeg, Int.reduceToNat, Int.reduceEq, s.h1, s.h3, s.h6, h4, b4, b15]
    have may15 : absB 7 V.zero (allL 7 6) = true := all_abs (by decide) (by decide)
    refine callK_of (k51 _ _ 7 V.zero V.zero _ _ lx (allL 7 6) rd4 rd15 old15) ?_
    rintro w G M3 hw
    obtain ⟨hG, le, kq2, oq2, v17, l17, a17, n17, c17, rfl, rd17, hx⟩ := meetLe hw (by rw [s.xs.may, may15]; rfl)
    obtain rfl : v17 = V.zero := by
      have := hx.may
      simp only [absB, if_true, Bool.and_eq_true, decide_eq_true_eq] at this
      exact this.1
    rw [hG]
    refine ⟨(fun h => by cases h), ?_⟩
    simp only [go_sem, reduceCtorEq, reduceIte, Nat.reduceEqDiff, Nat.reduceAdd, Nat.reduceLeDiff, Nat.reduceMul, Int.reduceLT, Int.reduceLE, Int.reduceAdd, Int.reduceSub, Int.reduceMul, Int.reduceNeg, Int.reduceToNat, Int.reduceEq, s.h1, s.h3, s.h6, h4]
    intro r17 hF17 hM17
    have old17 := (oq2 old15).upd (e := ⟨abCs V.zero (.slice a17 n17 c17), 37, 7⟩) hF17
    have kp17 := kq2.trans ((Keep.refl M3).new hM17 (e := ⟨abCs V.zero (.slice a17 n17 c17), 37, 7⟩))
    have rd17 := rd17.new hF17 hM17 (e := ⟨abCs V.zero (.slice a17 n17 c17), 37, 7⟩)
    have f17 : (M3.upd r17 ⟨abCs V.zero (.slice a17 n17 c17), 37, 7⟩) r17 = some ⟨abCs V.zero (.slice a17 n17 c17), 37, 7⟩ := Hp.upd_same _ _ _
    simp only [go_sem, reduceCtorEq, reduceIte, Nat.reduceEqDiff, Nat.reduceAdd, Nat.reduceLeDiff, Nat.reduceMul, Int.reduceLT, Int.reduceLE, Int.reduceAdd, Int.reduceSub, Int.reduceMul, Int.reduceNeg, Int.reduceToNat, Int.reduceEq, s.h1, s.h3, s.h6, h4]
    generalize M3.upd r17 ⟨abCs V.zero (.slice a17 n17 c17), 37, 7⟩ = M4 at *
    have f4 := kp17 _ _ f4
    have f15 := kp17 _ _ f15
    have rd4 := rd4.keep kp17 old17
    have rd15 := rd15.keep kp17 old17
    have b4 := blk_M (F := fzOf W) f4
    have b15 := blk_M (F := fzOf W) f15
    have b17 := blk_M (F := fzOf W) f17
    clear kp15 kp17 old15 hF15 hM15 hF17 hM17
    have mem : ∀ k : Nat, k < 7 → memOf 7 V.zero l17 (ptP lS.length k) := fun k hk => by
      have m := ptP_mem (by omega) (s.xs.has k hk)
      exact ptP_mem (by omega) (hx.both _ m (mem_allP s.xs.may m))
    have hon := two_not_only hx.may (mem 0 (by omega)) (mem 1 (by omega))
    have hpre := abs_pre hx.may
    try simp only [go_sem, reduceCtorEq, reduceIte, Nat.reduceEqDiff, Nat.reduceAdd, Nat.reduceLeDiff, Nat.reduceMul, Int.reduceLT, Int.reduceLE, Int.reduceAdd, Int.reduceSub, Int.reduceMul, Int.reduceNeg, Int.reduceToNat, Int.reduceEq, s.h1, s.h3, s.h6, h4, b4, b15, b17]
    refine callK_same (k17 _ _ 0) ?_
    simp only [go_sem, reduceCtorEq, reduceIte, Nat.reduceEqDiff, Nat.reduceAdd, Nat.reduceLeDiff, Nat.reduceMul, Int.reduceLT, Int.reduceLE, Int.reduceAdd, Int.reduceSub, Int.reduceMul, Int.reduceNeg, Int.reduceToNat, Int.reduceEq, h4, b4, b15, b17]
    refine callK_same (k17 _ _ 0) ?_
    simp only [go_sem, reduceCtorEq, reduceIte, Nat.reduceEqDiff, Nat.reduceAdd, Nat.reduceLeDiff, Nat.reduceMul, Int.reduceLT, Int.reduceLE, Int.reduceAdd, Int.reduceSub, Int.reduceMul, Int.reduceNeg, Int.reduceToNat, Int.reduceEq, h4, b4, b15, b17]
    refine callK_same (k19 _ _ 7 V.zero _ l17 rd17) ?_
    rw [hx.may]
    simp only [go_sem, reduceCtorEq, reduceIte, Nat.reduceEqDiff, Nat.reduceAdd, Nat.reduceLeDiff, Nat.reduceMul, Int.reduceLT, Int.reduceLE, Int.reduceAdd, Int.reduceSub, Int.reduceMul, Int.reduceNeg, Int.reduceToNat, Int.reduceEq, h4, b4, b15, b17]
    refine callK_same (k52 _ _ 7 V.zero V.zero _ _ lx l17 3 rd4 rd17 old17 s.xs.may (fun t ht => hx.both t ht (mem_allP s.xs.may ht))) ?_
    simp only [go_sem, reduceCtorEq, reduceIte, Nat.reduceEqDiff, Nat.reduceAdd, Nat.reduceLeDiff, Nat.reduceMul, Int.reduceLT, Int.reduceLE, Int.reduceAdd, Int.reduceSub, Int.reduceMul, Int.reduceNeg, Int.reduceToNat, Int.reduceEq, h4, b4, b15, b17]
    refine callK_same (k52 _ _ 7 V.zero V.zero _ _ lx (allL 7 6) 5 rd4 rd15 old17 s.xs.may (fun t ht => mem_allP s.xs.may ht)) ?_
    simp only [go_sem, reduceCtorEq, reduceIte, Nat.reduceEqDiff, Nat.reduceAdd, Nat.reduceLeDiff, Nat.reduceMul, Int.reduceLT, Int.reduceLE, Int.reduceAdd, Int.reduceSub, Int.reduceMul, Int.reduceNeg, Int.reduceToNat, Int.reduceEq, h4, b4, b15, b17]
    refine callK_same (k18 _ _ 7 V.zero _ l17 rd17 (by omega) (fun h => (hpre.2.1 h).1) (fun t ht => ⟨(hpre.2.2 t ht).1, (hpre.2.2 t ht).2.1, (hpre.2.2 t ht).2.2.1⟩)) ?_
    rw [hon]
    simp only [go_sem, reduceCtorEq, reduceIte, Nat.reduceEqDiff, Nat.reduceAdd, Nat.reduceLeDiff, Nat.reduceMul, Int.reduceLT, Int.reduceLE, Int.reduceAdd, Int.reduceSub, Int.reduceMul, Int.reduceNeg, Int.reduceToNat, Int.reduceEq]
    intro r19 hF19 hM19
    simp only [go_sem, reduceCtorEq, reduceIte, Nat.reduceEqDiff, Nat.reduceAdd, Nat.reduceLeDiff, Nat.reduceMul, Int.reduceLT, Int.reduceLE, Int.reduceAdd, Int.reduceSub, Int.reduceMul, Int.reduceNeg, Int.reduceToNat, Int.reduceEq]
    refine callK_same (k24 _ _) ?_
    simp only [go_sem, reduceCtorEq, reduceIte, Nat.reduceEqDiff, Nat.reduceAdd, Nat.reduceLeDiff, Nat.reduceMul, Int.reduceLT, Int.reduceLE, Int.reduceAdd, Int.reduceSub, Int.reduceMul, Int.reduceNeg, Int.reduceToNat, Int.reduceEq]
    exact endK_drop hM19 (endK_same rfl)
  have eb : IntKind.i64.wrap ((b : Int) + 1) = b + 1 := w64 (by omega) (by omega)
  refine cut (Q1 (fzOf W) ask r lS.length b lx) ?_ ?_
  · simp only [go_sem, reduceCtorEq, reduceIte, Nat.reduceEqDiff, Nat.reduceAdd, Nat.reduceLeDiff, Nat.reduceMul, Int.reduceLT, Int.reduceLE, Int.reduceAdd, Int.reduceSub, Int.reduceMul, Int.reduceNeg, Int.reduceToNat, Int.reduceEq, s.h1, s.h3, s.h6, hb6]
    exact s.ext (by simp only [go_sem, reduceCtorEq, reduceIte, Nat.reduceEqDiff, Nat.reduceAdd, Nat.reduceLeDiff, Nat.reduceMul, Int.reduceLT, Int.reduceLE, Int.reduceAdd, Int.reduceSub, Int.reduceMul, Int.reduceNeg, Int.reduceToNat, Int.reduceEq]) (by simp only [go_sem, reduceCtorEq, reduceIte, Nat.reduceEqDiff, Nat.reduceAdd, Nat.reduceLeDiff, Nat.reduceMul, Int.reduceLT, Int.reduceLE, Int.reduceAdd, Int.reduceSub, Int.reduceMul, Int.reduceNeg, Int.reduceToNat, Int.reduceEq]) (by simp only [go_sem, reduceCtorEq, reduceIte, Nat.reduceEqDiff, Nat.reduceAdd, Nat.reduceLeDiff, Nat.reduceMul, Int.reduceLT, Int.reduceLE, Int.reduceAdd, Int.reduceSub, Int.reduceMul, Int.reduceNeg, Int.reduceToNat, Int.reduceEq]) (by simp only [go_sem, reduceCtorEq, reduceIte, Nat.reduceEqDiff, Nat.reduceAdd, Nat.reduceLeDiff, Nat.reduceMul, Int.reduceLT, Int.reduceLE, Int.reduceAdd, Int.reduceSub, Int.reduceMul, Int.reduceNeg, Int.reduceToNat, Int.reduceEq])
  clear s
  rintro σ F M s
  obtain rfl := s.ff
  refine cut (Qn (fzOf W) ask r lS.length b) ?_ ?_
  rotate_left
  · rintro σ F M ⟨lw, s, h6, s4, ws⟩
    obtain rfl := s.ff
    simp only [go_sem, reduceCtorEq, reduceIte, Nat.reduceEqDiff, Nat.reduceAdd, Nat.reduceLeDiff, Nat.reduceMul, Int.reduceLT, Int.reduceLE, Int.reduceAdd, Int.reduceSub, Int.reduceMul, Int.reduceNeg, Int.reduceToNat, Int.reduceEq, s.h1, s.h3, h6, eb]
    exact ⟨mb - 1, by omega, b + 1, lw, ⟨s.ext (by simp only [go_sem, reduceCtorEq, reduceIte, Nat.reduceEqDiff, Nat.reduceAdd, Nat.reduceLeDiff, Nat.reduceMul, Int.reduceLT, Int.reduceLE, Int.reduceAdd, Int.reduceSub, Int.reduceMul, Int.reduceNeg, Int.reduceToNat, Int.reduceEq, s.h1]) (by simp only [go_sem, reduceCtorEq, reduceIte, Nat.reduceEqDiff, Nat.reduceAdd, Nat.reduceLeDiff, Nat.reduceMul, Int.reduceLT, Int.reduceLE, Int.reduceAdd, Int.reduceSub, Int.reduceMul, Int.reduceNeg, Int.reduceToNat, Int.reduceEq, s.h3]), by simp only [go_sem, reduceCtorEq, reduceIte, Nat.reduceEqDiff, Nat.reduceAdd, Nat.reduceLeDiff, Nat.reduceMul, Int.reduceLT, Int.reduceLE, Int.reduceAdd, Int.reduceSub, Int.reduceMul, Int.reduceNeg, Int.reduceToNat, Int.reduceEq]; rfl, s4.ext (by simp only [go_sem, reduceCtorEq, reduceIte, Nat.reduceEqDiff, Nat.reduceAdd, Nat.reduceLeDiff, Nat.reduceMul, Int.reduceLT, Int.reduceLE, Int.reduceAdd, Int.reduceSub, Int.reduceMul, Int.reduceNeg, Int.reduceToNat, Int.reduceEq]), ws⟩, by omega, by omega⟩
  rw [W_block]
  have hb6' : b ≤ 6 := by omega
  have e5 : IntKind.i64.wrap ((b : Int) * 5) = b * 5 := w64 (by omega) (by omega)
  have e55 : IntKind.i64.wrap ((b : Int) * 5 + lS.length) = b * 5 + lS.length := w64 (by omega) (by omega)
  have ep : ptP lS.length b = ⟨true, 0, b, offP lS.length b⟩ := by
    have : ¬ b = 0 := by omega
    simp [ptP, this]
  refine cut (T1 (fzOf W) ask r lS.length b lx) ?_ ?_
  · obtain ⟨r4, a4, n4, c4, h4, f4, rd4⟩ := s.s4
    have bk := blk_M (F := fzOf W) s.fr
    rw [hask] at bk
    simp only [go_sem, reduceCtorEq, reduceIte, Nat.reduceEqDiff, Nat.reduceAdd, Nat.reduceLeDiff, Nat.reduceMul, Int.reduceLT, Int.reduceLE, Int.reduceAdd, Int.reduceSub, Int.reduceMul, Int.reduceNeg, Int.reduceToNat, Int.reduceEq, s.h1, s.h3, s.h6, h4, bk, e5, e55, offP_rem]
    refine callK_of (k15 _ _ 7 ⟨true, 0, b, offP lS.length b⟩) ?_
    rintro w G M1 hw
    have hok : sc6B 7 ⟨true, 0, b, offP lS.length b⟩ = true := by rw [← ep]; exact ptP_ok hb6'
    obtain ⟨hG, le, kq, oq, a7, n7, c7, rfl, rd7⟩ := oneLe hw hok
    rw [← ep] at rd7
    rw [hG]
    refine ⟨(fun h => by cases h), ?_⟩
    simp only [go_sem, reduceCtorEq, reduceIte, Nat.reduceEqDiff, Nat.reduceAdd, Nat.reduceLeDiff, Nat.reduceMul, Int.reduceLT, Int.reduceLE, Int.reduceAdd, Int.reduceSub, Int.reduceMul, Int.reduceNeg, Int.reduceToNat, Int.reduceEq, s.h1, s.h3, s.h6, h4]
    intro r7 hF7 hM7
    have hv : oneV 7 ⟨true, 0, b, offP lS.length b⟩ = V.zero := rfl
    rw [hv]
    have old7 := (oq s.old).upd (e := ⟨abCs V.zero (.slice a7 n7 c7), 37, 7⟩) hF7
    have kp7 := kq.trans ((Keep.refl M1).new hM7 (e := ⟨abCs V.zero (.slice a7 n7 c7), 37, 7⟩))
    simp only [go_sem, reduceCtorEq, reduceIte, Nat.reduceEqDiff, Nat.reduceAdd, Nat.reduceLeDiff, Nat.reduceMul, Int.reduceLT, Int.reduceLE, Int.reduceAdd, Int.reduceSub, Int.reduceMul, Int.reduceNeg, Int.reduceToNat, Int.reduceEq, s.h1, s.h3, s.h6, h4]
    exact ⟨(s.grow kp7 old7).ext (by simp only [go_sem, reduceCtorEq, reduceIte, Nat.reduceEqDiff, Nat.reduceAdd, Nat.reduceLeDiff, Nat.reduceMul, Int.reduceLT, Int.reduceLE, Int.reduceAdd, Int.reduceSub, Int.reduceMul, Int.reduceNeg, Int.reduceToNat, Int.reduceEq]) (by simp only [go_sem, reduceCtorEq, reduceIte, Nat.reduceEqDiff, Nat.reduceAdd, Nat.reduceLeDiff, Nat.reduceMul, Int.reduceLT, Int.reduceLE, Int.reduceAdd, Int.reduceSub, Int.reduceMul, Int.reduceNeg, Int.reduceToNat, Int.reduceEq]) (by simp only [go_sem, reduceCtorEq, reduceIte, Nat.reduceEqDiff, Nat.reduceAdd, Nat.reduceLeDiff, Nat.reduceMul, Int.reduceLT, Int.reduceLE, Int.reduceAdd, Int.reduceSub, Int.reduceMul, Int.reduceNeg, Int.reduceToNat, Int.reduceEq, h4]) (by simp only [go_sem, reduceCtorEq, reduceIte, Nat.reduceEqDiff, Nat.reduceAdd, Nat.reduceLeDiff, Nat.reduceMul, Int.reduceLT, Int.reduceLE, Int.reduceAdd, Int.reduceSub, Int.reduceMul, Int.reduceNeg, Int.reduceToNat, Int.reduceEq]), ⟨r7, a7, n7, c7, by simp only [go_sem, reduceCtorEq, reduceIte, Nat.reduceEqDiff, Nat.reduceAdd, Nat.reduceLeDiff, Nat.reduceMul, Int.reduceLT, Int.reduceLE, Int.reduceAdd, Int.reduceSub, Int.reduceMul, Int.reduceNeg, Int.reduceToNat, Int.reduceEq], Hp.upd_same _ _ _, rd7.new hF7 hM7⟩, by simp only [go_sem, reduceCtorEq, reduceIte, Nat.reduceEqDiff, Nat.reduceAdd, Nat.reduceLeDiff, Nat.reduceMul, Int.reduceLT, Int.reduceLE, Int.reduceAdd, Int.reduceSub, Int.reduceMul, Int.reduceNeg, Int.reduceToNat, Int.reduceEq]⟩
  clear s
  rintro σ F M ⟨s, s7, h8⟩
  obtain rfl := s.ff
  have may7 : absB 7 V.zero (oneL 7 (ptP lS.length b)) = true := one_may hb6'
  refine cut (T2 (fzOf W) ask r lS.length b lx) ?_ ?_
  · obtain ⟨r4, a4, n4, c4, h4, f4, rd4⟩ := s.s4
    obtain ⟨r7, a7, n7, c7, h7, f7, rd7⟩ := s7
    have b4 := blk_M (F := fzOf W) f4
    have b7 := blk_M (F := fzOf W) f7
    simp only [go_sem, reduceCtorEq, reduceIte, Nat.reduceEqDiff, Nat.reduceAdd, Nat.reduceLeDiff, Nat.reduceMul, Int.reduceLT, Int.reduceLE, Int.reduceAdd, Int.reduceSub, Int.reduceMul, Int.reduceNeg, Int.reduceToNat, Int.reduceEq, s.h1, s.h3, s.h6, h4, h7, h8, b4, b7]
    refine callK_of (k50 _ _ 7 V.zero V.zero _ _ lx (oneL 7 (ptP lS.length b)) rd4 rd7 s.old) ?_
    rintro w G M1 hq
    obtain ⟨hG, le, kq, oq, v9, l9, a9, n9, c9, rfl, rd9, hboth⟩ := joinLe hq (by rw [s.xs.may, may7]; rfl)
    obtain rfl : v9 = V.zero := by
      have := hboth.may
      simp only [absB, if_true, Bool.and_eq_true, decide_eq_true_eq] at this
      exact this.1
    rw [hG]
    refine ⟨(fun h => by cases h), ?_⟩
    simp only [go_sem, reduceCtorEq, reduceIte, Nat.reduceEqDiff, Nat.reduceAdd, Nat.reduceLeDiff, Nat.reduceMul, Int.reduceLT, Int.reduceLE, Int.reduceAdd, Int.reduceSub, Int.reduceMul, Int.reduceNeg, Int.reduceToNat, Int.reduceEq, s.h1, s.h3, s.h6, h4, h7, h8]
    intro r9 hF9 hM9
    have old9 := (oq s.old).upd (e := ⟨abCs V.zero (.slice a9 n9 c9), 37, 7⟩) hF9
    have kp9 := kq.trans ((Keep.refl M1).new hM9 (e := ⟨abCs V.zero (.slice a9 n9 c9), 37, 7⟩))
    simp only [go_sem, reduceCtorEq, reduceIte, Nat.reduceEqDiff, Nat.reduceAdd, Nat.reduceLeDiff, Nat.reduceMul, Int.reduceLT, Int.reduceLE, Int.reduceAdd, Int.reduceSub, Int.reduceMul, Int.reduceNeg, Int.reduceToNat, Int.reduceEq, s.h1, s.h3, s.h6, h4, h7, h8]
    refine ⟨l9, ⟨(s.grow kp9 old9).ext (by simp only [go_sem, reduceCtorEq, reduceIte, Nat.reduceEqDiff, Nat.reduceAdd, Nat.reduceLeDiff, Nat.reduceMul, Int.reduceLT, Int.reduceLE, Int.reduceAdd, Int.reduceSub, Int.reduceMul, Int.reduceNeg, Int.reduceToNat, Int.reduceEq]) (by simp only [go_sem, reduceCtorEq, reduceIte, Nat.reduceEqDiff, Nat.reduceAdd, Nat.reduceLeDiff, Nat.reduceMul, Int.reduceLT, Int.reduceLE, Int.reduceAdd, Int.reduceSub, Int.reduceMul, Int.reduceNeg, Int.reduceToNat, Int.reduceEq]) (by simp only [go_sem, reduceCtorEq, reduceIte, Nat.reduceEqDiff, Nat.reduceAdd, Nat.reduceLeDiff, Nat.reduceMul, Int.reduceLT, Int.reduceLE, Int.reduceAdd, Int.reduceSub, Int.reduceMul, Int.reduceNeg, Int.reduceToNat, Int.reduceEq, h4]) (by simp only [go_sem, reduceCtorEq, reduceIte, Nat.reduceEqDiff, Nat.reduceAdd, Nat.reduceLeDiff, Nat.reduceMul, Int.reduceLT, Int.reduceLE, Int.reduceAdd, Int.reduceSub, Int.reduceMul, Int.reduceNeg, Int.reduceToNat, Int.reduceEq]), ⟨r9, a9, n9, c9, by simp only [go_sem, reduceCtorEq, reduceIte, Nat.reduceEqDiff, Nat.reduceAdd, Nat.reduceLeDiff, Nat.reduceMul, Int.reduceLT, Int.reduceLE, Int.reduceAdd, Int.reduceSub, Int.reduceMul, Int.reduceNeg, Int.reduceToNat, Int.reduceEq], Hp.upd_same _ _ _, rd9.new hF9 hM9⟩, hboth.may, fun k hk => ?_⟩, by simp only [go_sem, reduceCtorEq, reduceIte, Nat.reduceEqDiff, Nat.reduceAdd, Nat.reduceLeDiff, Nat.reduceMul, Int.reduceLT, Int.reduceLE, Int.reduceAdd, Int.reduceSub, Int.reduceMul, Int.reduceNeg, Int.reduceToNat, Int.reduceEq, h8], by simp only [go_sem, reduceCtorEq, reduceIte, Nat.reduceEqDiff, Nat.reduceAdd, Nat.reduceLeDiff, Nat.reduceMul, Int.reduceLT, Int.reduceLE, Int.reduceAdd, Int.reduceSub, Int.reduceMul, Int.reduceNeg, Int.reduceToNat, Int.reduceEq]⟩
    by_cases hkb : k < b
    · exact hboth.left _ (ptP_mem (by omega) (s.xs.has k hkb))
    · have : k = b := by omega
      subst this
      exact hboth.right _ (ptP_mem hb6' (ptP_one hb6'))
  clear s7 h8
  clear s
  rintro σ F M ⟨lw, s, h8, h10⟩
  obtain rfl := s.ff
  refine cut (Q2 (fzOf W) ask r lS.length b lx lw) ?_ ?_
  · obtain ⟨r9, a9, n9, c9, h9, f9, rd9⟩ := s.s9
    have b9 := blk_M (F := fzOf W) f9
    simp only [go_sem, reduceCtorEq, reduceIte, Nat.reduceEqDiff, Nat.reduceAdd, Nat.reduceLeDiff, Nat.reduceMul, Int.reduceLT, Int.reduceLE, Int.reduceAdd, Int.reduceSub, Int.reduceMul, Int.reduceNeg, Int.reduceToNat, Int.reduceEq, s.h1, s.h3, s.h6, h8, h9, h10, b9]
    refine callK_same (k17 _ _ 0) ?_
    simp only [go_sem, reduceCtorEq, reduceIte, Nat.reduceEqDiff, Nat.reduceAdd, Nat.reduceLeDiff, Nat.reduceMul, Int.reduceLT, Int.reduceLE, Int.reduceAdd, Int.reduceSub, Int.reduceMul, Int.reduceNeg, Int.reduceToNat, Int.reduceEq, s.h1, s.h3, s.h6, h8, h9, h10, b9]
    refine callK_same (k17 _ _ 0) ?_
    simp only [go_sem, reduceCtorEq, reduceIte, Nat.reduceEqDiff, Nat.reduceAdd, Nat.reduceLeDiff, Nat.reduceMul, Int.reduceLT, Int.reduceLE, Int.reduceAdd, Int.reduceSub, Int.reduceMul, Int.reduceNeg, Int.reduceToNat, Int.reduceEq, s.h1, s.h3, s.h6, h8, h9, h10, b9]
    refine callK_same (k19 _ _ 7 V.zero _ lw rd9) ?_
    rw [s.ws.may]
    simp only [go_sem, reduceCtorEq, reduceIte, Nat.reduceEqDiff, Nat.reduceAdd, Nat.reduceLeDiff, Nat.reduceMul, Int.reduceLT, Int.reduceLE, Int.reduceAdd, Int.reduceSub, Int.reduceMul, Int.reduceNeg, Int.reduceToNat, Int.reduceEq, s.h1, s.h3, s.h6, h8, h9, h10]
    exact s.ext (by simp only [go_sem, reduceCtorEq, reduceIte, Nat.reduceEqDiff, Nat.reduceAdd, Nat.reduceLeDiff, Nat.reduceMul, Int.reduceLT, Int.reduceLE, Int.reduceAdd, Int.reduceSub, Int.reduceMul, Int.reduceNeg, Int.reduceToNat, Int.reduceEq]) (by simp only [go_sem, reduceCtorEq, reduceIte, Nat.reduceEqDiff, Nat.reduceAdd, Nat.reduceLeDiff, Nat.reduceMul, Int.reduceLT, Int.reduceLE, Int.reduceAdd, Int.reduceSub, Int.reduceMul, Int.reduceNeg, Int.reduceToNat, Int.reduceEq]) (by simp only [go_sem, reduceCtorEq, reduceIte, Nat.reduceEqDiff, Nat.reduceAdd, Nat.reduceLeDiff, Nat.reduceMul, Int.reduceLT, Int.reduceLE, Int.reduceAdd, Int.reduceSub, Int.reduceMul, Int.reduceNeg, Int.reduceToNat, Int.reduceEq]) (by simp only [go_sem, reduceCtorEq, reduceIte, Nat.reduceEqDiff, Nat.reduceAdd, Nat.reduceLeDiff, Nat.reduceMul, Int.reduceLT, Int.reduceLE, Int.reduceAdd, Int.reduceSub, Int.reduceMul, Int.reduceNeg, Int.reduceToNat, Int.reduceEq]) (by simp only [go_sem, reduceCtorEq, reduceIte, Nat.reduceEqDiff, Nat.reduceAdd, Nat.reduceLeDiff, Nat.reduceMul, Int.reduceLT, Int.reduceLE, Int.reduceAdd, Int.reduceSub, Int.reduceMul, Int.reduceNeg, Int.reduceToNat, Int.reduceEq, h9])
  clear h8 h10
  clear s
  rintro σ F M s
  obtain rfl := s.ff
  refine cut (Q2 (fzOf W) ask r lS.length b lx lw) ?_ ?_
  rotate_left
  · rintro σ F M s
    obtain rfl := s.ff
    obtain ⟨r4, a4, n4, c4, h4, f4, rd4⟩ := s.s4
    obtain ⟨r9, a9, n9, c9, h9, f9, rd9⟩ := s.s9
    have b4 := blk_M (F := fzOf W) f4
    have b9 := blk_M (F := fzOf W) f9
    have ne : ¬ r = r4 := by
      rintro rfl
      have := s.fr
      rw [f4] at this
      cases this
    simp only [go_sem, reduceCtorEq, reduceIte, Nat.reduceEqDiff, Nat.reduceAdd, Nat.reduceLeDiff, Nat.reduceMul, Int.reduceLT, Int.reduceLE, Int.reduceAdd, Int.reduceSub, Int.reduceMul, Int.reduceNeg, Int.reduceToNat, Int.reduceEq, s.h1, s.h3, s.h6, h4, h9, b4, b9, f4]
    simp only [setH, go_sem, reduceCtorEq, reduceIte, Nat.reduceEqDiff, Nat.reduceAdd, Nat.reduceLeDiff, Nat.reduceMul, Int.reduceLT, Int.reduceLE, Int.reduceAdd, Int.reduceSub, Int.reduceMul, Int.reduceNeg, Int.reduceToNat, Int.reduceEq]
    exact ⟨lw, ⟨rfl, s.old.upd (s.old.free f4), by rw [Hp.upd_ne' ne]; exact s.fr, by simp only [go_sem, reduceCtorEq, reduceIte, Nat.reduceEqDiff, Nat.reduceAdd, Nat.reduceLeDiff, Nat.reduceMul, Int.reduceLT, Int.reduceLE, Int.reduceAdd, Int.reduceSub, Int.reduceMul, Int.reduceNeg, Int.reduceToNat, Int.reduceEq, s.h1], by simp only [go_sem, reduceCtorEq, reduceIte, Nat.reduceEqDiff, Nat.reduceAdd, Nat.reduceLeDiff, Nat.reduceMul, Int.reduceLT, Int.reduceLE, Int.reduceAdd, Int.reduceSub, Int.reduceMul, Int.reduceNeg, Int.reduceToNat, Int.reduceEq, s.h3]⟩, by simp only [go_sem, reduceCtorEq, reduceIte, Nat.reduceEqDiff, Nat.reduceAdd, Nat.reduceLeDiff, Nat.reduceMul, Int.reduceLT, Int.reduceLE, Int.reduceAdd, Int.reduceSub, Int.reduceMul, Int.reduceNeg, Int.reduceToNat, Int.reduceEq, s.h6], ⟨r4, a9, n9, c9, by simp only [go_sem, reduceCtorEq, reduceIte, Nat.reduceEqDiff, Nat.reduceAdd, Nat.reduceLeDiff, Nat.reduceMul, Int.reduceLT, Int.reduceLE, Int.reduceAdd, Int.reduceSub, Int.reduceMul, Int.reduceNeg, Int.reduceToNat, Int.reduceEq, h4], Hp.upd_same _ _ _, rd9.store f4⟩, s.ws⟩
  simp only [go_sem, reduceCtorEq, reduceIte, Nat.reduceEqDiff, Nat.reduceAdd, Nat.reduceLeDiff, Nat.reduceMul, Int.reduceLT, Int.reduceLE, Int.reduceAdd, Int.reduceSub, Int.reduceMul, Int.reduceNeg, Int.reduceToNat, Int.reduceEq, s.h1, s.h3, s.h6]
  refine loop_of (kI (fzOf W) ask r lS.length b lx lw) (b + 1) ?_ ?_
  · exact ⟨s.ext (by simp only [go_sem, reduceCtorEq, reduceIte, Nat.reduceEqDiff, Nat.reduceAdd, Nat.reduceLeDiff, Nat.reduceMul, Int.reduceLT, Int.reduceLE, Int.reduceAdd, Int.reduceSub, Int.reduceMul, Int.reduceNeg, Int.reduceToNat, Int.reduceEq]) (by simp only [go_sem, reduceCtorEq, reduceIte, Nat.reduceEqDiff, Nat.reduceAdd, Nat.reduceLeDiff, Nat.reduceMul, Int.reduceLT, Int.reduceLE, Int.reduceAdd, Int.reduceSub, Int.reduceMul, Int.reduceNeg, Int.reduceToNat, Int.reduceEq]) (by simp only [go_sem, reduceCtorEq, reduceIte, Nat.reduceEqDiff, Nat.reduceAdd, Nat.reduceLeDiff, Nat.reduceMul, Int.reduceLT, Int.reduceLE, Int.reduceAdd, Int.reduceSub, Int.reduceMul, Int.reduceNeg, Int.reduceToNat, Int.reduceEq]) (by simp only [go_sem, reduceCtorEq, reduceIte, Nat.reduceEqDiff, Nat.reduceAdd, Nat.reduceLeDiff, Nat.reduceMul, Int.reduceLT, Int.reduceLE, Int.reduceAdd, Int.reduceSub, Int.reduceMul, Int.reduceNeg, Int.reduceToNat, Int.reduceEq]) (by simp only [go_sem, reduceCtorEq, reduceIte, Nat.reduceEqDiff, Nat.reduceAdd, Nat.reduceLeDiff, Nat.reduceMul, Int.reduceLT, Int.reduceLE, Int.reduceAdd, Int.reduceSub, Int.reduceMul, Int.reduceNeg, Int.reduceToNat, Int.reduceEq]), 0, by omega, by simp only [go_sem, reduceCtorEq, reduceIte, Nat.reduceEqDiff, Nat.reduceAdd, Nat.reduceLeDiff, Nat.reduceMul, Int.reduceLT, Int.reduceLE, Int.reduceAdd, Int.reduceSub, Int.reduceMul, Int.reduceNeg, Int.reduceToNat, Int.reduceEq] <;> rfl⟩
  clear s
  rintro mk σ F M ⟨s, k, hk, h11⟩
  obtain rfl := s.ff
  by_cases hkb : (k : Int) ≤ b
  rotate_left
  · simp only [go_sem, reduceCtorEq, reduceIte, Nat.reduceEqDiff, Nat.reduceAdd, Nat.reduceLeDiff, Nat.reduceMul, Int.reduceLT, Int.reduceLE, Int.reduceAdd, Int.reduceSub, Int.reduceMul, Int.reduceNeg, Int.reduceToNat, Int.reduceEq, s.h1, s.h3, s.h6, h11, hkb]
    exact s.ext (by simp only [go_sem, reduceCtorEq, reduceIte, Nat.reduceEqDiff, Nat.reduceAdd, Nat.reduceLeDiff, Nat.reduceMul, Int.reduceLT, Int.reduceLE, Int.reduceAdd, Int.reduceSub, Int.reduceMul, Int.reduceNeg, Int.reduceToNat, Int.reduceEq]) (by simp only [go_sem, reduceCtorEq, reduceIte, Nat.reduceEqDiff, Nat.reduceAdd, Nat.reduceLeDiff, Nat.reduceMul, Int.reduceLT, Int.reduceLE, Int.reduceAdd, Int.reduceSub, Int.reduceMul, Int.reduceNeg, Int.reduceToNat, Int.reduceEq]) (by simp only [go_sem, reduceCtorEq, reduceIte, Nat.reduceEqDiff, Nat.reduceAdd, Nat.reduceLeDiff, Nat.reduceMul, Int.reduceLT, Int.reduceLE, Int.reduceAdd, Int.reduceSub, Int.reduceMul, Int.reduceNeg, Int.reduceToNat, Int.reduceEq]) (by simp only [go_sem, reduceCtorEq, reduceIte, Nat.reduceEqDiff, Nat.reduceAdd, Nat.reduceLeDiff, Nat.reduceMul, Int.reduceLT, Int.reduceLE, Int.reduceAdd, Int.reduceSub, Int.reduceMul, Int.reduceNeg, Int.reduceToNat, Int.reduceEq]) (by simp only [go_sem, reduceCtorEq, reduceIte, Nat.reduceEqDiff, Nat.reduceAdd, Nat.reduceLeDiff, Nat.reduceMul, Int.reduceLT, Int.reduceLE, Int.reduceAdd, Int.reduceSub, Int.reduceMul, Int.reduceNeg, Int.reduceToNat, Int.reduceEq])
  have ek : IntKind.i64.wrap ((k : Int) + 1) = k + 1 := w64 (by omega) (by omega)
  refine cut (kJ (fzOf W) ask r lS.length b lx lw k) ?_ ?_
  · simp only [go_sem, reduceCtorEq, reduceIte, Nat.reduceEqDiff, Nat.reduceAdd, Nat.reduceLeDiff, Nat.reduceMul, Int.reduceLT, Int.reduceLE, Int.reduceAdd, Int.reduceSub, Int.reduceMul, Int.reduceNeg, Int.reduceToNat, Int.reduceEq, s.h1, s.h3, s.h6, h11, hkb]
    exact ⟨s.ext (by simp only [go_sem, reduceCtorEq, reduceIte, Nat.reduceEqDiff, Nat.reduceAdd, Nat.reduceLeDiff, Nat.reduceMul, Int.reduceLT, Int.reduceLE, Int.reduceAdd, Int.reduceSub, Int.reduceMul, Int.reduceNeg, Int.reduceToNat, Int.reduceEq]) (by simp only [go_sem, reduceCtorEq, reduceIte, Nat.reduceEqDiff, Nat.reduceAdd, Nat.reduceLeDiff, Nat.reduceMul, Int.reduceLT, Int.reduceLE, Int.reduceAdd, Int.reduceSub, Int.reduceMul, Int.reduceNeg, Int.reduceToNat, Int.reduceEq]) (by simp only [go_sem, reduceCtorEq, reduceIte, Nat.reduceEqDiff, Nat.reduceAdd, Nat.reduceLeDiff, Nat.reduceMul, Int.reduceLT, Int.reduceLE, Int.reduceAdd, Int.reduceSub, Int.reduceMul, Int.reduceNeg, Int.reduceToNat, Int.reduceEq]) (by simp only [go_sem, reduceCtorEq, reduceIte, Nat.reduceEqDiff, Nat.reduceAdd, Nat.reduceLeDiff, Nat.reduceMul, Int.reduceLT, Int.reduceLE, Int.reduceAdd, Int.reduceSub, Int.reduceMul, Int.reduceNeg, Int.reduceToNat, Int.reduceEq]) (by simp only [go_sem, reduceCtorEq, reduceIte, Nat.reduceEqDiff, Nat.reduceAdd, Nat.reduceLeDiff, Nat.reduceMul, Int.reduceLT, Int.reduceLE, Int.reduceAdd, Int.reduceSub, Int.reduceMul, Int.reduceNeg, Int.reduceToNat, Int.reduceEq]), by simp only [go_sem, reduceCtorEq, reduceIte, Nat.reduceEqDiff, Nat.reduceAdd, Nat.reduceLeDiff, Nat.reduceMul, Int.reduceLT, Int.reduceLE, Int.reduceAdd, Int.reduceSub, Int.reduceMul, Int.reduceNeg, Int.reduceToNat, Int.reduceEq, h11]⟩
  clear h11
  clear s
  rintro σ F M ⟨s, h11⟩
  obtain rfl := s.ff
  refine cut (kJ (fzOf W) ask r lS.length b lx lw k) ?_ ?_
  rotate_left
  · rintro σ F M ⟨s, h11⟩
    obtain rfl := s.ff
    simp only [go_sem, reduceCtorEq, reduceIte, Nat.reduceEqDiff, Nat.reduceAdd, Nat.reduceLeDiff, Nat.reduceMul, Int.reduceLT, Int.reduceLE, Int.reduceAdd, Int.reduceSub, Int.reduceMul, Int.reduceNeg, Int.reduceToNat, Int.reduceEq, s.h1, s.h3, s.h6, h11, ek]
    exact ⟨mk - 1, by omega, s.ext (by simp only [go_sem, reduceCtorEq, reduceIte, Nat.reduceEqDiff, Nat.reduceAdd, Nat.reduceLeDiff, Nat.reduceMul, Int.reduceLT, Int.reduceLE, Int.reduceAdd, Int.reduceSub, Int.reduceMul, Int.reduceNeg, Int.reduceToNat, Int.reduceEq, s.h1]) (by simp only [go_sem, reduceCtorEq, reduceIte, Nat.reduceEqDiff, Nat.reduceAdd, Nat.reduceLeDiff, Nat.reduceMul, Int.reduceLT, Int.reduceLE, Int.reduceAdd, Int.reduceSub, Int.reduceMul, Int.reduceNeg, Int.reduceToNat, Int.reduceEq, s.h3]) (by simp only [go_sem, reduceCtorEq, reduceIte, Nat.reduceEqDiff, Nat.reduceAdd, Nat.reduceLeDiff, Nat.reduceMul, Int.reduceLT, Int.reduceLE, Int.reduceAdd, Int.reduceSub, Int.reduceMul, Int.reduceNeg, Int.reduceToNat, Int.reduceEq]) (by simp only [go_sem, reduceCtorEq, reduceIte, Nat.reduceEqDiff, Nat.reduceAdd, Nat.reduceLeDiff, Nat.reduceMul, Int.reduceLT, Int.reduceLE, Int.reduceAdd, Int.reduceSub, Int.reduceMul, Int.reduceNeg, Int.reduceToNat, Int.reduceEq, s.h6]) (by simp only [go_sem, reduceCtorEq, reduceIte, Nat.reduceEqDiff, Nat.reduceAdd, Nat.reduceLeDiff, Nat.reduceMul, Int.reduceLT, Int.reduceLE, Int.reduceAdd, Int.reduceSub, Int.reduceMul, Int.reduceNeg, Int.reduceToNat, Int.reduceEq]), k + 1, by omega, by simp only [go_sem, reduceCtorEq, reduceIte, Nat.reduceEqDiff, Nat.reduceAdd, Nat.reduceLeDiff, Nat.reduceMul, Int.reduceLT, Int.reduceLE, Int.reduceAdd, Int.reduceSub, Int.reduceMul, Int.reduceNeg, Int.reduceToNat, Int.reduceEq]; rfl⟩
  rw [W_block]
  have hkb' : k ≤ b := by omega
  have e5 : IntKind.i64.wrap ((k : Int) * 5) = k * 5 := w64 (by omega) (by omega)
  have e55 : IntKind.i64.wrap ((k : Int) * 5 + lS.length) = k * 5 + lS.length := w64 (by omega) (by omega)
  rw [Go.Ax.seq_assoc]
  refine cut (kS (fzOf W) ask r lS.length b lx lw k) ?_ ?_
  · have bk := blk_M (F := fzOf W) s.fr
    rw [hask] at bk
    simp only [go_sem, reduceCtorEq, reduceIte, Nat.reduceEqDiff, Nat.reduceAdd, Nat.reduceLeDiff, Nat.reduceMul, Int.reduceLT, Int.reduceLE, Int.reduceAdd, Int.reduceSub, Int.reduceMul, Int.reduceNeg, Int.reduceToNat, Int.reduceEq, s.h1, s.h3, s.h6, h11, bk, e5, e55, offP_rem]
    intro r12 hF12 hM12
    have old12 := fun e => s.old.upd (e := e) hF12
    have kp12 := fun e => (Keep.refl M).new hM12 (e := e)
    by_cases hk0 : k = 0
    · have hk0' : (k : Int) = 0 := by omega
      have ep : ptP lS.length k = ⟨true, 0, 0, 0⟩ := by subst hk0; rfl
      simp only [go_sem, reduceCtorEq, reduceIte, Nat.reduceEqDiff, Nat.reduceAdd, Nat.reduceLeDiff, Nat.reduceMul, Int.reduceLT, Int.reduceLE, Int.reduceAdd, Int.reduceSub, Int.reduceMul, Int.reduceNeg, Int.reduceToNat, Int.reduceEq, s.h1, s.h3, s.h6, h11, hk0']
      refine ⟨(s.grow (kp12 _) (old12 _)).ext (by simp only [go_sem, reduceCtorEq, reduceIte, Nat.reduceEqDiff, Nat.reduceAdd, Nat.reduceLeDiff, Nat.reduceMul, Int.reduceLT, Int.reduceLE, Int.reduceAdd, Int.reduceSub, Int.reduceMul, Int.reduceNeg, Int.reduceToNat, Int.reduceEq]) (by simp only [go_sem, reduceCtorEq, reduceIte, Nat.reduceEqDiff, Nat.reduceAdd, Nat.reduceLeDiff, Nat.reduceMul, Int.reduceLT, Int.reduceLE, Int.reduceAdd, Int.reduceSub, Int.reduceMul, Int.reduceNeg, Int.reduceToNat, Int.reduceEq]) (by simp only [go_sem, reduceCtorEq, reduceIte, Nat.reduceEqDiff, Nat.reduceAdd, Nat.reduceLeDiff, Nat.reduceMul, Int.reduceLT, Int.reduceLE, Int.reduceAdd, Int.reduceSub, Int.reduceMul, Int.reduceNeg, Int.reduceToNat, Int.reduceEq]) (by simp only [go_sem, reduceCtorEq, reduceIte, Nat.reduceEqDiff, Nat.reduceAdd, Nat.reduceLeDiff, Nat.reduceMul, Int.reduceLT, Int.reduceLE, Int.reduceAdd, Int.reduceSub, Int.reduceMul, Int.reduceNeg, Int.reduceToNat, Int.reduceEq]) (by simp only [go_sem, reduceCtorEq, reduceIte, Nat.reduceEqDiff, Nat.reduceAdd, Nat.reduceLeDiff, Nat.reduceMul, Int.reduceLT, Int.reduceLE, Int.reduceAdd, Int.reduceSub, Int.reduceMul, Int.reduceNeg, Int.reduceToNat, Int.reduceEq]), by simp only [go_sem, reduceCtorEq, reduceIte, Nat.reduceEqDiff, Nat.reduceAdd, Nat.reduceLeDiff, Nat.reduceMul, Int.reduceLT, Int.reduceLE, Int.reduceAdd, Int.reduceSub, Int.reduceMul, Int.reduceNeg, Int.reduceToNat, Int.reduceEq, hk0', h11], r12, by simp only [go_sem, reduceCtorEq, reduceIte, Nat.reduceEqDiff, Nat.reduceAdd, Nat.reduceLeDiff, Nat.reduceMul, Int.reduceLT, Int.reduceLE, Int.reduceAdd, Int.reduceSub, Int.reduceMul, Int.reduceNeg, Int.reduceToNat, Int.reduceEq], ?_⟩
      rw [ep]
      exact Hp.upd_same _ _ _
    · have hk0' : ¬ (k : Int) = 0 := by omega
      have ep : ptP lS.length k = ⟨true, 0, k, offP lS.length k⟩ := by simp [ptP, hk0]
      simp only [go_sem, reduceCtorEq, reduceIte, Nat.reduceEqDiff, Nat.reduceAdd, Nat.reduceLeDiff, Nat.reduceMul, Int.reduceLT, Int.reduceLE, Int.reduceAdd, Int.reduceSub, Int.reduceMul, Int.reduceNeg, Int.reduceToNat, Int.reduceEq, s.h1, s.h3, s.h6, h11, hk0']
      refine ⟨(s.grow (kp12 _) (old12 _)).ext (by simp only [go_sem, reduceCtorEq, reduceIte, Nat.reduceEqDiff, Nat.reduceAdd, Nat.reduceLeDiff, Nat.reduceMul, Int.reduceLT, Int.reduceLE, Int.reduceAdd, Int.reduceSub, Int.reduceMul, Int.reduceNeg, Int.reduceToNat, Int.reduceEq]) (by simp only [go_sem, reduceCtorEq, reduceIte, Nat.reduceEqDiff, Nat.reduceAdd, Nat.reduceLeDiff, Nat.reduceMul, Int.reduceLT, Int.reduceLE, Int.reduceAdd, Int.reduceSub, Int.reduceMul, Int.reduceNeg, Int.reduceToNat, Int.reduceEq]) (by simp only [go_sem, reduceCtorEq, reduceIte, Nat.reduceEqDiff, Nat.reduceAdd, Nat.reduceLeDiff, Nat.reduceMul, Int.reduceLT, Int.reduceLE, Int.reduceAdd, Int.reduceSub, Int.reduceMul, Int.reduceNeg, Int.reduceToNat, Int.reduceEq]) (by simp only [go_sem, reduceCtorEq, reduceIte, Nat.reduceEqDiff, Nat.reduceAdd, Nat.reduceLeDiff, Nat.reduceMul, Int.reduceLT, Int.reduceLE, Int.reduceAdd, Int.reduceSub, Int.reduceMul, Int.reduceNeg, Int.reduceToNat, Int.reduceEq]) (by simp only [go_sem, reduceCtorEq, reduceIte, Nat.reduceEqDiff, Nat.reduceAdd, Nat.reduceLeDiff, Nat.reduceMul, Int.reduceLT, Int.reduceLE, Int.reduceAdd, Int.reduceSub, Int.reduceMul, Int.reduceNeg, Int.reduceToNat, Int.reduceEq]), by simp only [go_sem, reduceCtorEq, reduceIte, Nat.reduceEqDiff, Nat.reduceAdd, Nat.reduceLeDiff, Nat.reduceMul, Int.reduceLT, Int.reduceLE, Int.reduceAdd, Int.reduceSub, Int.reduceMul, Int.reduceNeg, Int.reduceToNat, Int.reduceEq, h11], r12, by simp only [go_sem, reduceCtorEq, reduceIte, Nat.reduceEqDiff, Nat.reduceAdd, Nat.reduceLeDiff, Nat.reduceMul, Int.reduceLT, Int.reduceLE, Int.reduceAdd, Int.reduceSub, Int.reduceMul, Int.reduceNeg, Int.reduceToNat, Int.reduceEq], ?_⟩
      rw [ep]
      exact Hp.upd_same _ _ _
  clear h11
  clear s
  rintro σ F M ⟨s, h11, r12, h12, f12⟩
  obtain rfl := s.ff
  obtain ⟨r9, a9, n9, c9, h9, f9, rd9⟩ := s.s9
  have b9 := blk_M (F := fzOf W) f9
  have b12 := blk_M (F := fzOf W) f12
  have hin := s.ws.has k (by omega)
  have hq : sc6B 7 (ptP lS.length k) = true := ptP_ok (by omega)
  simp only [go_sem, reduceCtorEq, reduceIte, Nat.reduceEqDiff, Nat.reduceAdd, Nat.reduceLeDiff, Nat.reduceMul, Int.reduceLT, Int.reduceLE, Int.reduceAdd, Int.reduceSub, Int.reduceMul, Int.reduceNeg, Int.reduceToNat, Int.reduceEq, s.h1, s.h3, s.h6, h9, h11, h12, b9, b12]
  refine callK_same (k31 _ _ 7 V.zero _ lw (ptP lS.length k) rd9) ?_
  rw [s.ws.may, hq]
  simp only [go_sem, reduceCtorEq, reduceIte, Nat.reduceEqDiff, Nat.reduceAdd, Nat.reduceLeDiff, Nat.reduceMul, Int.reduceLT, Int.reduceLE, Int.reduceAdd, Int.reduceSub, Int.reduceMul, Int.reduceNeg, Int.reduceToNat, Int.reduceEq, s.h1, s.h3, s.h6, h9, h11, h12, if_true]
  refine callK_same (k17 _ _ 0) ?_
  have hho : holdsB 7 V.zero lw (ptP lS.length k) = true := by
    have := holds_pts hq (pointsB lw (ptP lS.length k).b (ptP lS.length k).o)
    simp only [if_true] at this
    simp only [hasB, if_true] at hin
    simp only [holdsB, if_true]
    rw [this]; exact hin
  simp only [go_sem, reduceCtorEq, reduceIte, Nat.reduceEqDiff, Nat.reduceAdd, Nat.reduceLeDiff, Nat.reduceMul, Int.reduceLT, Int.reduceLE, Int.reduceAdd, Int.reduceSub, Int.reduceMul, Int.reduceNeg, Int.reduceToNat, Int.reduceEq, s.h1, s.h3, s.h6, h9, h11, h12, hho]
  exact ⟨s.ext (by simp only [go_sem, reduceCtorEq, reduceIte, Nat.reduceEqDiff, Nat.reduceAdd, Nat.reduceLeDiff, Nat.reduceMul, Int.reduceLT, Int.reduceLE, Int.reduceAdd, Int.reduceSub, Int.reduceMul, Int.reduceNeg, Int.reduceToNat, Int.reduceEq]) (by simp only [go_sem, reduceCtorEq, reduceIte, Nat.reduceEqDiff, Nat.reduceAdd, Nat.reduceLeDiff, Nat.reduceMul, Int.reduceLT, Int.reduceLE, Int.reduceAdd, Int.reduceSub, Int.reduceMul, Int.reduceNeg, Int.reduceToNat, Int.reduceEq]) (by simp only [go_sem, reduceCtorEq, reduceIte, Nat.reduceEqDiff, Nat.reduceAdd, Nat.reduceLeDiff, Nat.reduceMul, Int.reduceLT, Int.reduceLE, Int.reduceAdd, Int.reduceSub, Int.reduceMul, Int.reduceNeg, Int.reduceToNat, Int.reduceEq]) (by simp only [go_sem, reduceCtorEq, reduceIte, Nat.reduceEqDiff, Nat.reduceAdd, Nat.reduceLeDiff, Nat.reduceMul, Int.reduceLT, Int.reduceLE, Int.reduceAdd, Int.reduceSub, Int.reduceMul, Int.reduceNeg, Int.reduceToNat, Int.reduceEq]) (by simp only [go_sem, reduceCtorEq, reduceIte, Nat.reduceEqDiff, Nat.reduceAdd, Nat.reduceLeDiff, Nat.reduceMul, Int.reduceLT, Int.reduceLE, Int.reduceAdd, Int.reduceSub, Int.reduceMul, Int.reduceNeg, Int.reduceToNat, Int.reduceEq, h9]), by simp only [go_sem, reduceCtorEq, reduceIte, Nat.reduceEqDiff, Nat.reduceAdd, Nat.reduceLeDiff, Nat.reduceMul, Int.reduceLT, Int.reduceLE, Int.reduceAdd, Int.reduceSub, Int.reduceMul, Int.reduceNeg, Int.reduceToNat, Int.reduceEq, h11]⟩
end Go.Proofs.Ytmaclakgkllojaa.absPointers
