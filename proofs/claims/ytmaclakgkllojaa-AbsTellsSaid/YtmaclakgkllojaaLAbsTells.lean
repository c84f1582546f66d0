/- The law AbsTells, walked: it returns true at every input. -/
import Derived.Test.YtmaclakgkllojaaProg
import Derived.Test.YtmaclakgkllojaaK45to49
namespace Go.Proofs.Try.S
open Go Go.Ax Go.Ax.N
set_option maxRecDepth 100000

/-- cellar/cellarlaw15.AbsTells -/
def c4 : SF := ⟨168, [.t 2], (.seq (.ops [k 1 (.bx 29 (t 0)),
 o 2 (.mv (b false))])
 (.seq (.seq (.ops [o 25 (.ld true 4 (t 1)),
 k 26 (.ca (.func 14) [(t 25)])])
 (.cond (t 26)
 (.seq (.ops [o 2 (.mv (b true))])
 .ret)
 .skip))
 (.seq (.ops [o 27 (.bd [.bool false, .int .i64 0, .int .i64 0, .int .i64 0] []),
 o 28 (.bd [.bool false, .int .i64 0, .int .i64 0, .int .i64 0] [(1, 1, (i 7))]),
 o 29 (.bd [.bool false, .int .i64 0, .int .i64 0, .int .i64 0] [(0, 1, (b true))]),
 o 30 (.bd [.bool false, .int .i64 0, .int .i64 0, .int .i64 0] [(0, 1, (b true)), (2, 1, (i 1)), (3, 1, (i 4))]),
 o 31 (.bd [.bool false, .int .i64 0, .int .i64 0, .int .i64 0] [(0, 1, (b true)), (2, 1, (i 30))]),
 k 32 (.bs 32 5 [.bool false, .int .i64 0, .int .i64 0, .int .i64 0, .bool false, .int .i64 0, .int .i64 0, .int .i64 0, .bool false, .int .i64 0, .int .i64 0, .int .i64 0, .bool false, .int .i64 0, .int .i64 0, .int .i64 0, .bool false, .int .i64 0, .int .i64 0, .int .i64 0] [(0, 4, (t 27)), (4, 4, (t 28)), (8, 4, (t 29)), (12, 4, (t 30)), (16, 4, (t 31))]),
 o 33 (.fa 1 (t 1)),
 o 34 (.ld false 1 (t 33)),
 k 35 (.ap 32 4 32 (t 32) (t 34)),
 o 3 (.mv (t 35))])
 (.seq (.ops [o 36 (.ld true 4 (t 1)),
 k 37 (.ca (.func 25) [(t 36)]),
 o 4 (.mv (t 37))])
 (.seq (.seq (.ops [o 5 (.mv (i 0))])
 (.block 0 (.loop (.seq (.seq (.ops [o 38 (.mv (t 5)),
 o 39 (.mv (t 4)),
 o 40 (.ln (t 39)),
 o 41 (.bin .lss (t 38) (t 40))])
 (.cond (t 41)
 .skip
 (.exit 0)))
 (.seq (.block 1 (.seq (.ops [o 6 (.mv (i (-1)))])
 (.block 2 (.loop (.seq (.seq (.ops [o 44 (.mv (t 6)),
 o 45 (.bin .leq (t 44) (i 11))])
 (.cond (t 45)
 .skip
 (.exit 2)))
 (.seq (.block 3 (.seq (.ops [o 48 (.mv (t 4)),
 o 49 (.mv (t 5)),
 o 50 (.ia 7 (t 48) (t 49)),
 o 51 (.ld true 7 (t 50)),
 k 52 (.ca (.func 26) [(t 51)]),
 k 7 (.al 37 [.int .i64 0, .bool false, .int .i64 0, .int .i64 0, .int .i64 0, .int .i64 0, .slice none 0 0]),
 kn (.st [] 7 (t 7) (t 52))])
 (.seq (.ops [o 53 (.mv (t 6)),
 o 54 (.ld true 7 (t 7)),
 k 55 (.ca (.func 19) [(t 53), (t 54)]),
 o 8 (.mv (t 55))])
 (.seq (.ops [o 57 (.mv (t 6)),
 o 58 (.ld true 7 (t 7)),
 k 59 (.ca (.func 27) [(t 57), (t 58)]),
 o 56 (.mv (t 59)),
 o 60 (.ex (t 56) 0),
 o 61 (.ex (t 56) 1),
 o 9 (.mv (t 60)),
 o 10 (.mv (t 61))])
 (.seq (.ops [o 63 (.mv (t 6)),
 o 64 (.ld true 7 (t 7)),
 k 65 (.ca (.func 28) [(t 63), (t 64)]),
 o 62 (.mv (t 65)),
 o 66 (.ex (t 62) 0),
 o 67 (.ex (t 62) 1),
 o 68 (.ex (t 62) 2),
 k 12 (.al 32 [.bool false, .int .i64 0, .int .i64 0, .int .i64 0]),
 o 11 (.mv (t 66)),
 kn (.st [] 4 (t 12) (t 67)),
 o 13 (.mv (t 68))])
 (.seq (.ops [o 14 (.mv (i 1)),
 o 15 (.mv (b false)),
 o 16 (.mv (b false))])
 (.seq (.ops [o 69 (.bd [.bool false, .int .i64 0, .int .i64 0, .int .i64 0] []),
 k 17 (.al 32 [.bool false, .int .i64 0, .int .i64 0, .int .i64 0]),
 kn (.st [] 4 (t 17) (t 69))])
 (.seq (.seq (.ops [o 70 (.mv (t 8))])
 (.cond (t 70)
 (.seq (.ops [o 71 (.mv (t 6)),
 o 72 (.ld true 7 (t 7)),
 k 73 (.ca (.func 29) [(t 71), (t 72)]),
 o 14 (.mv (i 0)),
 o 15 (.mv (t 73))])
 (.seq (.ops [o 75 (.mv (t 6)),
 o 76 (.ld true 7 (t 7)),
 k 77 (.ca (.func 18) [(t 75), (t 76)]),
 o 74 (.mv (t 77)),
 o 78 (.ex (t 74) 0),
 o 79 (.ex (t 74) 1),
 k 18 (.al 32 [.bool false, .int .i64 0, .int .i64 0, .int .i64 0]),
 kn (.st [] 4 (t 18) (t 78)),
 o 19 (.mv (t 79))])
 (.seq (.ops [o 80 (.mv (t 19))])
 (.cond (t 80)
 (.opq [o 81 (.ld true 4 (t 18)),
 o 16 (.mv (b true)),
 kn (.st [] 4 (t 17) (t 81))])
 .skip))))
 .skip))
 (.seq (.seq (.ops [o 82 (.mv (t 6)),
 o 83 (.ld true 7 (t 7)),
 k 84 (.ca (.func 30) [(t 82), (t 83)]),
 k 85 (.ca (.func 17) [(t 84)]),
 o 86 (.mv (t 14)),
 o 87 (.bin .neq (t 85) (t 86)),
 o 88 (.mv (t 87)),
 og 89 88 false (.mv (t 10)),
 ⟨some 90, some (88, false), .ca (.func 17) [(t 89)]⟩,
 og 91 88 false (.mv (t 14)),
 og 92 88 false (.bin .neq (t 90) (t 91)),
 o 93 (.pick (t 88) (b true) (t 92)),
 o 94 (.mv (t 93)),
 og 95 94 false (.mv (t 9)),
 og 96 94 false (.mv (t 15)),
 og 97 94 false (.eqb true (t 95) (t 96)),
 o 98 (.pick (t 94) (b true) (t 97)),
 o 99 (.mv (t 98)),
 og 100 99 false (.mv (t 13)),
 ⟨some 101, some (99, false), .ca (.func 17) [(t 100)]⟩,
 og 102 99 false (.mv (t 14)),
 og 103 99 false (.bin .neq (t 101) (t 102)),
 o 104 (.pick (t 99) (b true) (t 103)),
 o 105 (.mv (t 104)),
 og 106 105 false (.mv (t 11)),
 og 107 105 false (.mv (t 16)),
 og 108 105 false (.eqb true (t 106) (t 107)),
 o 109 (.pick (t 105) (b true) (t 108)),
 o 110 (.mv (t 109)),
 og 111 110 false (.ld true 4 (t 12)),
 og 112 110 false (.ld true 4 (t 17)),
 og 113 110 false (.eqs (.st [(false, 0, 1, .b), (false, 1, 1, .i), (false, 2, 1, .i), (false, 3, 1, .i)]) true (t 111) (t 112)),
 o 114 (.pick (t 110) (b true) (t 113))])
 (.cond (t 114)
 (.seq (.ops [o 2 (.mv (b false))])
 .ret)
 .skip))
 (.seq (.seq (.ops [o 20 (.mv (i 0))])
 (.block 4 (.loop (.seq (.seq (.ops [o 115 (.mv (t 20)),
 o 116 (.mv (t 3)),
 o 117 (.ln (t 116)),
 o 118 (.bin .lss (t 115) (t 117)),
 o 119 (.mv (t 118)),
 og 120 119 true (.mv (t 20)),
 og 121 119 true (.bin .lss (t 120) (i 10)),
 o 122 (.pick (t 119) (t 121) (b false))])
 (.cond (t 122)
 .skip
 (.exit 4)))
 (.seq (.block 5 (.seq (.opq [o 126 (.mv (t 6)),
 o 127 (.ld true 7 (t 7)),
 o 128 (.mv (t 3)),
 o 129 (.mv (t 20)),
 o 130 (.ia 4 (t 128) (t 129)),
 o 131 (.ld true 4 (t 130)),
 k 132 (.ca (.func 31) [(t 126), (t 127), (t 131)]),
 o 125 (.mv (t 132)),
 o 133 (.ex (t 125) 0),
 o 134 (.ex (t 125) 1),
 o 21 (.mv (t 133)),
 o 22 (.mv (t 134))])
 (.seq (.ops [o 23 (.mv (i 1)),
 o 24 (.mv (b false))])
 (.seq (.seq (.ops [o 135 (.mv (t 8)),
 o 136 (.mv (t 135)),
 og 137 136 true (.mv (t 6)),
 og 138 136 true (.mv (t 3)),
 og 139 136 true (.mv (t 20)),
 og 140 136 true (.ia 4 (t 138) (t 139)),
 og 141 136 true (.ld true 4 (t 140)),
 ⟨some 142, some (136, true), .ca (.func 16) [(t 137), (t 141)]⟩,
 o 143 (.pick (t 136) (t 142) (b false))])
 (.cond (t 143)
 (.opq [o 144 (.mv (t 6)),
 o 145 (.ld true 7 (t 7)),
 o 146 (.mv (t 3)),
 o 147 (.mv (t 20)),
 o 148 (.ia 4 (t 146) (t 147)),
 o 149 (.ld true 4 (t 148)),
 k 150 (.ca (.func 23) [(t 144), (t 145), (t 149)]),
 o 23 (.mv (i 0)),
 o 24 (.mv (t 150))])
 .skip))
 (.seq (.ops [o 151 (.mv (t 22)),
 k 152 (.ca (.func 17) [(t 151)]),
 o 153 (.mv (t 23)),
 o 154 (.bin .neq (t 152) (t 153)),
 o 155 (.mv (t 154)),
 og 156 155 false (.mv (t 21)),
 og 157 155 false (.mv (t 24)),
 og 158 155 false (.eqb true (t 156) (t 157)),
 o 159 (.pick (t 155) (b true) (t 158))])
 (.cond (t 159)
 (.seq (.ops [o 2 (.mv (b false))])
 .ret)
 .skip))))))
 (.ops [o 123 (.mv (t 20)),
 o 124 (.bin .add (t 123) (i 1)),
 o 20 (.mv (t 124))]))))))
 (.seq (.opq [o 160 (.ld true 7 (t 7)),
 o 161 (.mv (t 4)),
 o 162 (.mv (t 5)),
 o 163 (.ia 7 (t 161) (t 162)),
 o 164 (.ld true 7 (t 163)),
 k 165 (.ca (.func 32) [(t 160), (t 164)]),
 o 166 (.un .not (t 165))])
 (.cond (t 166)
 (.seq (.ops [o 2 (.mv (b false))])
 .ret)
 .skip))))))))))))
 (.ops [o 46 (.mv (t 6)),
 o 47 (.bin .add (t 46) (i 1)),
 o 6 (.mv (t 47))])))))))
 (.ops [o 42 (.mv (t 5)),
 o 43 (.bin .add (t 42) (i 1)),
 o 5 (.mv (t 43))]))))))
 (.seq (.ops [k 167 (.ca (.func 24) []),
 o 2 (.mv (t 167))])
 .ret))))))⟩
theorem e4 : slimF Try.prog Try.f4 [[(0, []), (1, []), (2, [])], [(0, []), (1, []), (2, []), (3, []), (4, []), (5, []), (6, []), (7, []), (8, []), (9, []), (10, []), (11, [])], [(0, []), (1, []), (2, []), (3, []), (4, []), (5, []), (6, []), (7, []), (8, [])], [(0, []), (1, []), (2, []), (3, []), (4, []), (5, []), (6, [])]] = some c4 := by kernel_rfl
end Go.Proofs.Try.S
namespace Go.Proofs.Ytmaclakgkllojaa.absTells
open Go Go.Ax Go.Proofs.Try.S Go.Proofs.Try.K
set_option maxRecDepth 100000
set_option linter.unusedSimpArgs false
set_option linter.unusedVariables false
set_option maxHeartbeats 4000000

structure Q0 (F0 : Fz) (su : Value) (L : List Sc) (sx : Value) (X : List Ab) (σ : Env) (F : Fz) (M : Hp) : Prop where
  ff : F = F0
  old : Old F0 M
  h3 : Ax.look σ 3 = some su
  h4 : Ax.look σ 4 = some sx
  rd : RdG 4 Sc.cs F0 M su L
  rx : RdG 7 Ab.cs F0 M sx X
structure Q2 (F0 : Fz) (su : Value) (L : List Sc) (sx : Value) (X : List Ab) (i : Nat) (k : Int) (σ : Env) (F : Fz) (M : Hp) : Prop extends Q0 F0 su L sx X σ F M where
  h5 : Ax.look σ 5 = some (.int .i64 i)
  h6 : Ax.look σ 6 = some (.int .i64 k)
structure Q3 (F0 : Fz) (su : Value) (L : List Sc) (sx : Value) (X : List Ab) (i : Nat) (k : Int) (v : V) (l : List Ba) (r7 : Nat) (a : Option Addr) (n c : Nat) (σ : Env) (F : Fz) (M : Hp) : Prop extends Q2 F0 su L sx X i k σ F M where
  h7 : Ax.look σ 7 = some (.pointer (some ⟨r7, 0, none⟩))
  f7 : M r7 = some ⟨abCs v (.slice a n c), 37, 7⟩
  rl : RdG 7 Ba.cs F0 M (.slice a n c) l
section
variable {F0 : Fz} {su : Value} {L : List Sc} {sx : Value} {X : List Ab} {i : Nat} {k : Int} {v : V} {l : List Ba} {r7 : Nat} {a : Option Addr} {n c : Nat} {σ σ' : Env} {F : Fz} {M M' : Hp}
theorem Q0.ext (s : Q0 F0 su L sx X σ F M) (e3 : Ax.look σ' 3 = Ax.look σ 3) (e4 : Ax.look σ' 4 = Ax.look σ 4) : Q0 F0 su L sx X σ' F M := ⟨s.ff, s.old, e3.trans s.h3, e4.trans s.h4, s.rd, s.rx⟩
theorem Q0.grow (s : Q0 F0 su L sx X σ F M) (kp : Keep M M') (o : Old F0 M') : Q0 F0 su L sx X σ F M' := ⟨s.ff, o, s.h3, s.h4, s.rd.keep kp o, s.rx.keep kp o⟩
theorem Q2.ext (s : Q2 F0 su L sx X i k σ F M) (e3 : Ax.look σ' 3 = Ax.look σ 3) (e4 : Ax.look σ' 4 = Ax.look σ 4) (e5 : Ax.look σ' 5 = Ax.look σ 5) (e6 : Ax.look σ' 6 = Ax.look σ 6) : Q2 F0 su L sx X i k σ' F M := ⟨s.toQ0.ext e3 e4, e5.trans s.h5, e6.trans s.h6⟩
theorem Q2.grow (s : Q2 F0 su L sx X i k σ F M) (kp : Keep M M') (o : Old F0 M') : Q2 F0 su L sx X i k σ F M' := ⟨s.toQ0.grow kp o, s.h5, s.h6⟩
theorem Q3.ext (s : Q3 F0 su L sx X i k v l r7 a n c σ F M) (e3 : Ax.look σ' 3 = Ax.look σ 3) (e4 : Ax.look σ' 4 = Ax.look σ 4) (e5 : Ax.look σ' 5 = Ax.look σ 5) (e6 : Ax.look σ' 6 = Ax.look σ 6) (e7 : Ax.look σ' 7 = Ax.look σ 7) : Q3 F0 su L sx X i k v l r7 a n c σ' F M := ⟨s.toQ2.ext e3 e4 e5 e6, e7.trans s.h7, s.f7, s.rl⟩
theorem Q3.grow (s : Q3 F0 su L sx X i k v l r7 a n c σ F M) (kp : Keep M M') (o : Old F0 M') : Q3 F0 su L sx X i k v l r7 a n c σ F M' := ⟨s.toQ2.grow kp o, s.h7, kp _ _ s.f7, s.rl.keep kp o⟩
end
def iI (F0 : Fz) (su : Value) (L : List Sc) (sx : Value) (X : List Ab) (m : Nat) (σ : Env) (F : Fz) (M : Hp) : Prop := Q0 F0 su L sx X σ F M ∧ ∃ i : Nat, i + m = X.length ∧ Ax.look σ 5 = some (.int .i64 i)
def iB (F0 : Fz) (su : Value) (L : List Sc) (sx : Value) (X : List Ab) (i : Nat) (σ : Env) (F : Fz) (M : Hp) : Prop := Q0 F0 su L sx X σ F M ∧ Ax.look σ 5 = some (.int .i64 i)
def kI (F0 : Fz) (su : Value) (L : List Sc) (sx : Value) (X : List Ab) (i : Nat) (m : Nat) (σ : Env) (F : Fz) (M : Hp) : Prop := ∃ k : Int, Q2 F0 su L sx X i k σ F M ∧ k + m = 12 ∧ -1 ≤ k
def T1 (F0 : Fz) (su : Value) (L : List Sc) (sx : Value) (X : List Ab) (i : Nat) (k : Int) (v : V) (l : List Ba) (σ : Env) (F : Fz) (M : Hp) : Prop := ∃ (r7 : Nat) (a : Option Addr) (n c : Nat), Q3 F0 su L sx X i k v l r7 a n c σ F M
def T2 (F0 : Fz) (su : Value) (L : List Sc) (sx : Value) (X : List Ab) (i : Nat) (k : Int) (v : V) (l : List Ba) (r7 : Nat) (a : Option Addr) (n c : Nat) (σ : Env) (F : Fz) (M : Hp) : Prop := Q3 F0 su L sx X i k v l r7 a n c σ F M ∧ Ax.look σ 8 = some (.bool (absB k v l))
def jI (F0 : Fz) (su : Value) (L : List Sc) (sx : Value) (X : List Ab) (i : Nat) (k : Int) (v : V) (l : List Ba) (r7 : Nat) (a : Option Addr) (n c : Nat) (m : Nat) (σ : Env) (F : Fz) (M : Hp) : Prop := T2 F0 su L sx X i k v l r7 a n c σ F M ∧ ∃ j : Nat, j + m = L.length ∧ Ax.look σ 20 = some (.int .i64 j)
def jB (F0 : Fz) (su : Value) (L : List Sc) (sx : Value) (X : List Ab) (i : Nat) (k : Int) (v : V) (l : List Ba) (r7 : Nat) (a : Option Addr) (n c : Nat) (j : Nat) (σ : Env) (F : Fz) (M : Hp) : Prop := T2 F0 su L sx X i k v l r7 a n c σ F M ∧ Ax.look σ 20 = some (.int .i64 j)

theorem call (W : World) (cs : List Value) (h : Rd (fzOf W) shAsk15 cs) :
  CallsA Try.prog 4 [.agg cs.toArray] (fzOf W) noHp fun r _ _ => r = .bool true := by
  obtain ⟨vX, vS, vV, vN, rfl, hX, hS, hV, hN⟩ := rd_ask15 h
  obtain ⟨aX, cX, lX, rfl, hlX, hrX, hXr⟩ := rd_Xs hX
  have hX0 := rd_slice0 hX
  obtain ⟨aS, cS, lS, rfl, hlS, hSr⟩ := rd_Ss hS
  have hS0 := rd_slice0 hS
  obtain ⟨aV, cV, lv, rfl, hlV, _, hlen, _, hcV⟩ := rd_Vs hV
  obtain ⟨aN, cN, ln, rfl, hl, hmx, hs, hin, h0, hc⟩ := rd_ints hN
  refine callsA_of hm Try.func4 e4 (Nat.le_of_ble_eq_true rfl) ?_
  have rS : ∀ M, Old (fzOf W) M → RdG 4 Sc.cs (fzOf W) M (.slice aS lS.length cS) lS := fun M old => hSr _ _ fun b c hb => old.blk hb
  have rX : ∀ M, Old (fzOf W) M → RdG 7 Ab.cs (fzOf W) M (.slice aX lX.length cX) lX := fun M old => hXr _ _ fun b c hb => old.blk hb
  have rV : ∀ M, Old (fzOf W) M → RdV (fzOf W) M (.slice aV lv.length cV) lv := by
    intro M old
    refine ⟨by omega, aV, cV, hlV, rfl, ?_⟩
    rcases hcV with h | ⟨b, o, cs, h1, h2, h3⟩
    · exact .inl h
    · exact .inr ⟨b, o, cs, h1, old.blk h2, h3⟩
  have hXn : ∀ x ∈ lX, x.n ≤ 140737488351232 := fun x hx => by
    obtain ⟨l, h1, h2, _⟩ := hrX x hx
    omega
  simp only [c4, go_sem, reduceCtorEq, reduceIte, Nat.reduceEqDiff, Nat.reduceAdd, Nat.reduceLeDiff, Nat.reduceMul, Int.reduceLT, Int.reduceLE, Int.reduceAdd, Int.reduceSub, Int.reduceMul, Int.reduceNeg, Int.reduceToNat, Int.reduceEq]
  intro r hF hM
  have old1 := (Old.start (fzOf W)).upd (e := ⟨[.slice aX lX.length cX, .slice aS lS.length cS, .slice aV lv.length cV, .slice aN ln.length cN], 29, 4⟩) hF
  simp only [go_sem, reduceCtorEq, reduceIte, Nat.reduceEqDiff, Nat.reduceAdd, Nat.reduceLeDiff, Nat.reduceMul, Int.reduceLT, Int.reduceLE, Int.reduceAdd, Int.reduceSub, Int.reduceMul, Int.reduceNeg, Int.reduceToNat, Int.reduceEq]
  refine callK_of (k14 _ _ lX _ aS aV aN lS.length cS lv.length cV ln.length cN (rX _ old1) hlX hXn hlS) ?_
  rintro u G M2 ⟨hG, hM2, b, rfl, hb⟩
  rw [hG, hM2]
  refine ⟨fun _ => Le.refl _ _, ?_⟩
  cases b
  rotate_left
  · simp only [go_sem, reduceCtorEq, reduceIte, Nat.reduceEqDiff, Nat.reduceAdd, Nat.reduceLeDiff, Nat.reduceMul, Int.reduceLT, Int.reduceLE, Int.reduceAdd, Int.reduceSub, Int.reduceMul, Int.reduceNeg, Int.reduceToNat, Int.reduceEq]
    exact endK_same rfl
  obtain ⟨hX4, hS4, -, -, hx4⟩ := hb rfl
  have hgood : ∀ x, (x ∈ lX ∨ ∃ v, x = ⟨v, none, 0, 0⟩) → ∃ l, l.length ≤ 400 ∧ ∀ M, Old (fzOf W) M → x.is (fzOf W) M l := by
    rintro x (hx | ⟨v, rfl⟩)
    · obtain ⟨l, h1, _, h3⟩ := hrX x hx
      have := hx4 x hx
      exact ⟨l, by omega, fun M old => ⟨h1.symm, h3 _ _ fun b c hb => old.blk hb⟩⟩
    · exact ⟨[], by simp, fun M old => ⟨rfl, rdG_nil⟩⟩
  simp only [go_sem, reduceCtorEq, reduceIte, Nat.reduceEqDiff, Nat.reduceAdd, Nat.reduceLeDiff, Nat.reduceMul, Int.reduceLT, Int.reduceLE, Int.reduceAdd, Int.reduceSub, Int.reduceMul, Int.reduceNeg, Int.reduceToNat, Int.reduceEq]
  simp only [go_sem, reduceCtorEq, reduceIte, Nat.reduceEqDiff, Nat.reduceAdd, Nat.reduceLeDiff, Nat.reduceMul, Int.reduceLT, Int.reduceLE, Int.reduceAdd, Int.reduceSub, Int.reduceMul, Int.reduceNeg, Int.reduceToNat, Int.reduceEq, List.append_assoc, Sc.drop_app, Sc.take_app]
  intro g hFg hMg
  have gg := fresh_of hMg
  simp only [go_sem, reduceCtorEq, reduceIte, Nat.reduceEqDiff, Nat.reduceAdd, Nat.reduceLeDiff, Nat.reduceMul, Int.reduceLT, Int.reduceLE, Int.reduceAdd, Int.reduceSub, Int.reduceMul, Int.reduceNeg, Int.reduceToNat, Int.reduceEq, gg]
  have old2 : Old (fzOf W) ((noHp.upd r ⟨[.slice aX lX.length cX, .slice aS lS.length cS, .slice aV lv.length cV, .slice aN ln.length cN], 29, 4⟩).upd g ⟨(Sc.mk false 0 0 0).cs ++ ((Sc.mk false 7 0 0).cs ++ ((Sc.mk true 0 0 0).cs ++ ((Sc.mk true 0 1 4).cs ++ (Sc.mk true 0 30 0).cs))), 32, 20⟩) := old1.upd hFg
  have f2 : ((noHp.upd r ⟨[.slice aX lX.length cX, .slice aS lS.length cS, .slice aV lv.length cV, .slice aN ln.length cN], 29, 4⟩).upd g ⟨(Sc.mk false 0 0 0).cs ++ ((Sc.mk false 7 0 0).cs ++ ((Sc.mk true 0 0 0).cs ++ ((Sc.mk true 0 1 4).cs ++ (Sc.mk true 0 30 0).cs))), 32, 20⟩) g = some ⟨five.flatMap Sc.cs, 32, 5 * 4⟩ := Hp.upd_same _ _ _
  have f1 : ((noHp.upd r ⟨[.slice aX lX.length cX, .slice aS lS.length cS, .slice aV lv.length cV, .slice aN ln.length cN], 29, 4⟩).upd g ⟨(Sc.mk false 0 0 0).cs ++ ((Sc.mk false 7 0 0).cs ++ ((Sc.mk true 0 0 0).cs ++ ((Sc.mk true 0 1 4).cs ++ (Sc.mk true 0 30 0).cs))), 32, 20⟩) r = some ⟨[.slice aX lX.length cX, .slice aS lS.length cS, .slice aV lv.length cV, .slice aN ln.length cN], 29, 4⟩ := by
    rw [Hp.upd_ne' gg.2.1]; exact Hp.upd_same _ _ _
  generalize (noHp.upd r ⟨[.slice aX lX.length cX, .slice aS lS.length cS, .slice aV lv.length cV, .slice aN ln.length cN], 29, 4⟩).upd g ⟨(Sc.mk false 0 0 0).cs ++ ((Sc.mk false 7 0 0).cs ++ ((Sc.mk true 0 0 0).cs ++ ((Sc.mk true 0 1 4).cs ++ (Sc.mk true 0 30 0).cs))), 32, 20⟩ = M2a at *
  refine apG_any (xs := five) (ys := lS) (fun x => rfl) Sc.plain (by decide) (.inr ⟨g, 5, rfl, hFg, f2, by decide, by decide⟩) (RdG.src (fun x => rfl) (rS _ old2) hS0) (by decide) (by simp [five]; omega) ?_
  rintro g' cap M3 hgo hF' hM3 own
  have old3 : Old (fzOf W) M3 := by rw [hM3]; exact old2.upd hF'
  have hL7 : (five ++ lS).length ≤ 405 := by simp [five]; omega
  have rd3 := own.rd (f := Sc.cs) (fun x => rfl) (by omega)
  have f13 : M3 r = some ⟨[.slice aX lX.length cX, .slice aS lS.length cS, .slice aV lv.length cV, .slice aN ln.length cN], 29, 4⟩ := by
    have : ¬ r = g' := by
      rcases hgo with h | ⟨c, h⟩
      · exact (ne_of_none h f1).1
      · cases h; exact gg.2.1
    rw [hM3, Hp.upd_ne' this]; exact f1
  generalize five ++ lS = L at *
  clear own hgo hF' gg hFg hMg old1 old2 f2 f1 rS hb hG hM2 hF hM hM3
  obtain ⟨su, hsu⟩ : ∃ su, su = Value.slice (some ⟨g', 0, none⟩) L.length cap := ⟨_, rfl⟩
  rw [← hsu] at rd3 ⊢
  have b13 := blk_M (F := fzOf W) f13
  simp only [go_sem, reduceCtorEq, reduceIte, Nat.reduceEqDiff, Nat.reduceAdd, Nat.reduceLeDiff, Nat.reduceMul, Int.reduceLT, Int.reduceLE, Int.reduceAdd, Int.reduceSub, Int.reduceMul, Int.reduceNeg, Int.reduceToNat, Int.reduceEq, b13]
  refine callK_of (k25 _ _ lX lv aX cX _ _ _ old3 (rX _ old3) hX0 hX4 (rV _ old3)) ?_
  rintro sx G M4 ⟨X, hX10, hXm, hr⟩
  obtain ⟨hG, le, kq, oq, ax, cx, rfl, rdx⟩ := hr.le Ab.len (by omega)
  rw [hG]
  refine ⟨(fun h => by cases h), ?_⟩
  have old4 := oq old3
  have rd4 := rd3.keep kq old4
  have hXg : ∀ x ∈ X, ∃ l, l.length ≤ 400 ∧ ∀ M, Old (fzOf W) M → x.is (fzOf W) M l := fun x hx => hgood x (hXm x hx)
  obtain ⟨sx, hsx⟩ : ∃ sx, sx = Value.slice ax X.length cx := ⟨_, rfl⟩
  rw [← hsx] at rdx ⊢
  clear hr le kq oq hXm hgood hcV hc rX rV hrX hXr f13 b13 hG rd3 old3 hX4 hx4 hin
  simp only [go_sem, reduceCtorEq, reduceIte, Nat.reduceEqDiff, Nat.reduceAdd, Nat.reduceLeDiff, Nat.reduceMul, Int.reduceLT, Int.reduceLE, Int.reduceAdd, Int.reduceSub, Int.reduceMul, Int.reduceNeg, Int.reduceToNat, Int.reduceEq]
  refine loop_of (iI (fzOf W) su L sx X) X.length ?_ ?_
  · exact ⟨⟨rfl, old4, by simp only [go_sem, reduceCtorEq, reduceIte, Nat.reduceEqDiff, Nat.reduceAdd, Nat.reduceLeDiff, Nat.reduceMul, Int.reduceLT, Int.reduceLE, Int.reduceAdd, Int.reduceSub, Int.reduceMul, Int.reduceNeg, Int.reduceToNat, Int.reduceEq], by simp only [go_sem, reduceCtorEq, reduceIte, Nat.reduceEqDiff, Nat.reduceAdd, Nat.reduceLeDiff, Nat.reduceMul, Int.reduceLT, Int.reduceLE, Int.reduceAdd, Int.reduceSub, Int.reduceMul, Int.reduceNeg, Int.reduceToNat, Int.reduceEq], rd4, rdx⟩, 0, by omega, by simp only [go_sem, reduceCtorEq, reduceIte, Nat.reduceEqDiff, Nat.reduceAdd, Nat.reduceLeDiff, Nat.reduceMul, Int.reduceLT, Int.reduceLE, Int.reduceAdd, Int.reduceSub, Int.reduceMul, Int.reduceNeg, Int.reduceToNat, Int.reduceEq] <;> rfl⟩
  clear old4 rd4 rdx
  clear M4 M3
  rintro mi σ F M ⟨s, i, hi, h5⟩
  obtain rfl := s.ff
  have h4 := s.h4
  rw [hsx] at h4
  by_cases hil : (i : Int) < X.length
  rotate_left
  · simp only [go_sem, reduceCtorEq, reduceIte, Nat.reduceEqDiff, Nat.reduceAdd, Nat.reduceLeDiff, Nat.reduceMul, Int.reduceLT, Int.reduceLE, Int.reduceAdd, Int.reduceSub, Int.reduceMul, Int.reduceNeg, Int.reduceToNat, Int.reduceEq, s.h3, h4, h5, hil]
    refine callK_same (k24 _ _) ?_
    simp only [go_sem, reduceCtorEq, reduceIte, Nat.reduceEqDiff, Nat.reduceAdd, Nat.reduceLeDiff, Nat.reduceMul, Int.reduceLT, Int.reduceLE, Int.reduceAdd, Int.reduceSub, Int.reduceMul, Int.reduceNeg, Int.reduceToNat, Int.reduceEq]
    exact endK_same rfl
  have ei : IntKind.i64.wrap ((i : Int) + 1) = i + 1 := w64 (by omega) (by omega)
  have hi0 : (0 : Int) ≤ i := by omega
  have hil' : i < X.length := by omega
  refine cut (iB (fzOf W) su L sx X i) ?_ ?_
  · simp only [go_sem, reduceCtorEq, reduceIte, Nat.reduceEqDiff, Nat.reduceAdd, Nat.reduceLeDiff, Nat.reduceMul, Int.reduceLT, Int.reduceLE, Int.reduceAdd, Int.reduceSub, Int.reduceMul, Int.reduceNeg, Int.reduceToNat, Int.reduceEq, s.h3, h4, h5, hil]
    exact ⟨s.ext (by simp only [go_sem, reduceCtorEq, reduceIte, Nat.reduceEqDiff, Nat.reduceAdd, Nat.reduceLeDiff, Nat.reduceMul, Int.reduceLT, Int.reduceLE, Int.reduceAdd, Int.reduceSub, Int.reduceMul, Int.reduceNeg, Int.reduceToNat, Int.reduceEq]) (by simp only [go_sem, reduceCtorEq, reduceIte, Nat.reduceEqDiff, Nat.reduceAdd, Nat.reduceLeDiff, Nat.reduceMul, Int.reduceLT, Int.reduceLE, Int.reduceAdd, Int.reduceSub, Int.reduceMul, Int.reduceNeg, Int.reduceToNat, Int.reduceEq, s.h4, hsx]), by simp only [go_sem, reduceCtorEq, reduceIte, Nat.reduceEqDiff, Nat.reduceAdd, Nat.reduceLeDiff, Nat.reduceMul, Int.reduceLT, Int.reduceLE, Int.reduceAdd, Int.reduceSub, Int.reduceMul, Int.reduceNeg, Int.reduceToNat, Int.reduceEq, h5]⟩
  clear h4 h5
  clear s
  rintro σ F M ⟨s, h5⟩
  obtain rfl := s.ff
  refine cut (iB (fzOf W) su L sx X i) ?_ ?_
  rotate_left
  · rintro σ F M ⟨s, h5⟩
    obtain rfl := s.ff
    simp only [go_sem, reduceCtorEq, reduceIte, Nat.reduceEqDiff, Nat.reduceAdd, Nat.reduceLeDiff, Nat.reduceMul, Int.reduceLT, Int.reduceLE, Int.reduceAdd, Int.reduceSub, Int.reduceMul, Int.reduceNeg, Int.reduceToNat, Int.reduceEq, s.h3, s.h4, h5, ei]
    exact ⟨mi - 1, by omega, s.ext (by simp only [go_sem, reduceCtorEq, reduceIte, Nat.reduceEqDiff, Nat.reduceAdd, Nat.reduceLeDiff, Nat.reduceMul, Int.reduceLT, Int.reduceLE, Int.reduceAdd, Int.reduceSub, Int.reduceMul, Int.reduceNeg, Int.reduceToNat, Int.reduceEq]) (by simp only [go_sem, reduceCtorEq, reduceIte, Nat.reduceEqDiff, Nat.reduceAdd, Nat.reduceLeDiff, Nat.reduceMul, Int.reduceLT, Int.reduceLE, Int.reduceAdd, Int.reduceSub, Int.reduceMul, Int.reduceNeg, Int.reduceToNat, Int.reduceEq]), i + 1, by omega, by simp only [go_sem, reduceCtorEq, reduceIte, Nat.reduceEqDiff, Nat.reduceAdd, Nat.reduceLeDiff, Nat.reduceMul, Int.reduceLT, Int.reduceLE, Int.reduceAdd, Int.reduceSub, Int.reduceMul, Int.reduceNeg, Int.reduceToNat, Int.reduceEq]; rfl⟩
  simp only [go_sem, reduceCtorEq, reduceIte, Nat.reduceEqDiff, Nat.reduceAdd, Nat.reduceLeDiff, Nat.reduceMul, Int.reduceLT, Int.reduceLE, Int.reduceAdd, Int.reduceSub, Int.reduceMul, Int.reduceNeg, Int.reduceToNat, Int.reduceEq, s.h3, s.h4, h5]
  refine loop_of (kI (fzOf W) su L sx X i) 13 ?_ ?_
  · exact ⟨-1, ⟨s.ext (by simp only [go_sem, reduceCtorEq, reduceIte, Nat.reduceEqDiff, Nat.reduceAdd, Nat.reduceLeDiff, Nat.reduceMul, Int.reduceLT, Int.reduceLE, Int.reduceAdd, Int.reduceSub, Int.reduceMul, Int.reduceNeg, Int.reduceToNat, Int.reduceEq]) (by simp only [go_sem, reduceCtorEq, reduceIte, Nat.reduceEqDiff, Nat.reduceAdd, Nat.reduceLeDiff, Nat.reduceMul, Int.reduceLT, Int.reduceLE, Int.reduceAdd, Int.reduceSub, Int.reduceMul, Int.reduceNeg, Int.reduceToNat, Int.reduceEq]), by simp only [go_sem, reduceCtorEq, reduceIte, Nat.reduceEqDiff, Nat.reduceAdd, Nat.reduceLeDiff, Nat.reduceMul, Int.reduceLT, Int.reduceLE, Int.reduceAdd, Int.reduceSub, Int.reduceMul, Int.reduceNeg, Int.reduceToNat, Int.reduceEq, h5], by simp only [go_sem, reduceCtorEq, reduceIte, Nat.reduceEqDiff, Nat.reduceAdd, Nat.reduceLeDiff, Nat.reduceMul, Int.reduceLT, Int.reduceLE, Int.reduceAdd, Int.reduceSub, Int.reduceMul, Int.reduceNeg, Int.reduceToNat, Int.reduceEq]⟩, by omega, by omega⟩
  clear h5
  clear s
  rintro mk σ F M ⟨k, s, hk, hk1⟩
  obtain rfl := s.ff
  by_cases hk11 : k ≤ 11
  rotate_left
  · simp only [go_sem, reduceCtorEq, reduceIte, Nat.reduceEqDiff, Nat.reduceAdd, Nat.reduceLeDiff, Nat.reduceMul, Int.reduceLT, Int.reduceLE, Int.reduceAdd, Int.reduceSub, Int.reduceMul, Int.reduceNeg, Int.reduceToNat, Int.reduceEq, s.h3, s.h4, s.h5, s.h6, hk11]
    exact ⟨s.toQ0.ext (by simp only [go_sem, reduceCtorEq, reduceIte, Nat.reduceEqDiff, Nat.reduceAdd, Nat.reduceLeDiff, Nat.reduceMul, Int.reduceLT, Int.reduceLE, Int.reduceAdd, Int.reduceSub, Int.reduceMul, Int.reduceNeg, Int.reduceToNat, Int.reduceEq]) (by simp only [go_sem, reduceCtorEq, reduceIte, Nat.reduceEqDiff, Nat.reduceAdd, Nat.reduceLeDiff, Nat.reduceMul, Int.reduceLT, Int.reduceLE, Int.reduceAdd, Int.reduceSub, Int.reduceMul, Int.reduceNeg, Int.reduceToNat, Int.reduceEq]), by simp only [go_sem, reduceCtorEq, reduceIte, Nat.reduceEqDiff, Nat.reduceAdd, Nat.reduceLeDiff, Nat.reduceMul, Int.reduceLT, Int.reduceLE, Int.reduceAdd, Int.reduceSub, Int.reduceMul, Int.reduceNeg, Int.reduceToNat, Int.reduceEq, s.h5]⟩
  have ek : IntKind.i64.wrap (k + 1) = k + 1 := w64 (by omega) (by omega)
  refine cut (Q2 (fzOf W) su L sx X i k) ?_ ?_
  · simp only [go_sem, reduceCtorEq, reduceIte, Nat.reduceEqDiff, Nat.reduceAdd, Nat.reduceLeDiff, Nat.reduceMul, Int.reduceLT, Int.reduceLE, Int.reduceAdd, Int.reduceSub, Int.reduceMul, Int.reduceNeg, Int.reduceToNat, Int.reduceEq, s.h3, s.h4, s.h5, s.h6, hk11]
    exact s.ext (by simp only [go_sem, reduceCtorEq, reduceIte, Nat.reduceEqDiff, Nat.reduceAdd, Nat.reduceLeDiff, Nat.reduceMul, Int.reduceLT, Int.reduceLE, Int.reduceAdd, Int.reduceSub, Int.reduceMul, Int.reduceNeg, Int.reduceToNat, Int.reduceEq]) (by simp only [go_sem, reduceCtorEq, reduceIte, Nat.reduceEqDiff, Nat.reduceAdd, Nat.reduceLeDiff, Nat.reduceMul, Int.reduceLT, Int.reduceLE, Int.reduceAdd, Int.reduceSub, Int.reduceMul, Int.reduceNeg, Int.reduceToNat, Int.reduceEq]) (by simp only [go_sem, reduceCtorEq, reduceIte, Nat.reduceEqDiff, Nat.reduceAdd, Nat.reduceLeDiff, Nat.reduceMul, Int.reduceLT, Int.reduceLE, Int.reduceAdd, Int.reduceSub, Int.reduceMul, Int.reduceNeg, Int.reduceToNat, Int.reduceEq]) (by simp only [go_sem, reduceCtorEq, reduceIte, Nat.reduceEqDiff, Nat.reduceAdd, Nat.reduceLeDiff, Nat.reduceMul, Int.reduceLT, Int.reduceLE, Int.reduceAdd, Int.reduceSub, Int.reduceMul, Int.reduceNeg, Int.reduceToNat, Int.reduceEq])
  clear s
  rintro σ F M s
  obtain rfl := s.ff
  refine cut (Q2 (fzOf W) su L sx X i k) ?_ ?_
  rotate_left
  · rintro σ F M s
    obtain rfl := s.ff
    simp only [go_sem, reduceCtorEq, reduceIte, Nat.reduceEqDiff, Nat.reduceAdd, Nat.reduceLeDiff, Nat.reduceMul, Int.reduceLT, Int.reduceLE, Int.reduceAdd, Int.reduceSub, Int.reduceMul, Int.reduceNeg, Int.reduceToNat, Int.reduceEq, s.h3, s.h4, s.h5, s.h6, ek]
    exact ⟨mk - 1, by omega, k + 1, ⟨s.toQ0.ext (by simp only [go_sem, reduceCtorEq, reduceIte, Nat.reduceEqDiff, Nat.reduceAdd, Nat.reduceLeDiff, Nat.reduceMul, Int.reduceLT, Int.reduceLE, Int.reduceAdd, Int.reduceSub, Int.reduceMul, Int.reduceNeg, Int.reduceToNat, Int.reduceEq]) (by simp only [go_sem, reduceCtorEq, reduceIte, Nat.reduceEqDiff, Nat.reduceAdd, Nat.reduceLeDiff, Nat.reduceMul, Int.reduceLT, Int.reduceLE, Int.reduceAdd, Int.reduceSub, Int.reduceMul, Int.reduceNeg, Int.reduceToNat, Int.reduceEq]), by simp only [go_sem, reduceCtorEq, reduceIte, Nat.reduceEqDiff, Nat.reduceAdd, Nat.reduceLeDiff, Nat.reduceMul, Int.reduceLT, Int.reduceLE, Int.reduceAdd, Int.reduceSub, Int.reduceMul, Int.reduceNeg, Int.reduceToNat, Int.reduceEq, s.h5], by simp only [go_sem, reduceCtorEq, reduceIte, Nat.reduceEqDiff, Nat.reduceAdd, Nat.reduceLeDiff, Nat.reduceMul, Int.reduceLT, Int.reduceLE, Int.reduceAdd, Int.reduceSub, Int.reduceMul, Int.reduceNeg, Int.reduceToNat, Int.reduceEq]⟩, by omega, by omega⟩
  rw [W_block]
  obtain ⟨l, hl400, hlg⟩ := hXg X[i] (List.getElem_mem _)
  have hxe : ∀ {M : Hp}, RdG 7 Ab.cs (fzOf W) M sx X → ∃ b o cs, sx = .slice (some ⟨b, o, none⟩) X.length cx ∧ blk (fzOf W) M b = some cs ∧ o + i * 7 + 7 ≤ cs.length ∧ (cs.drop (o + i * 7)).take 7 = abCs X[i].v X[i].u := by
    intro M hr
    obtain ⟨b, o, cap, cs, e, h⟩ := ab_at hr hil'
    rw [e] at hsx
    cases hsx
    exact ⟨b, o, cs, e, h⟩
  generalize X[i] = x at *
  have hxu : x.u = .slice x.a l.length x.c := (hlg _ (Old.start _)).u_eq
  refine cut (T1 (fzOf W) su L sx X i k x.v l) ?_ ?_
  · obtain ⟨b, o, cs, e, hb, d1, d2⟩ := hxe s.rx
    have h4 := s.h4
    rw [e] at h4
    rw [hxu] at d2
    have hxr := (hlg _ s.old).2
    rw [hxu] at hxr
    simp only [go_sem, reduceCtorEq, reduceIte, Nat.reduceEqDiff, Nat.reduceAdd, Nat.reduceLeDiff, Nat.reduceMul, Int.reduceLT, Int.reduceLE, Int.reduceAdd, Int.reduceSub, Int.reduceMul, Int.reduceNeg, Int.reduceToNat, Int.reduceEq, s.h3, h4, s.h5, s.h6, hil, hi0, Int.toNat_natCast, hb, d1, d2]
    refine callK_of (k26 _ _ x.v _ l hxr s.old (by omega)) ?_
    rintro w G M1 ⟨w, rfl, hr⟩
    obtain ⟨hG, le, kq, oq, a, c, rfl, rdl⟩ := hr.le (f := Ba.cs) (fun x => rfl) (by omega)
    rw [hG]
    refine ⟨(fun h => by cases h), ?_⟩
    simp only [go_sem, reduceCtorEq, reduceIte, Nat.reduceEqDiff, Nat.reduceAdd, Nat.reduceLeDiff, Nat.reduceMul, Int.reduceLT, Int.reduceLE, Int.reduceAdd, Int.reduceSub, Int.reduceMul, Int.reduceNeg, Int.reduceToNat, Int.reduceEq, s.h3, h4, s.h5, s.h6]
    intro r7 hF7 hM7
    simp only [go_sem, reduceCtorEq, reduceIte, Nat.reduceEqDiff, Nat.reduceAdd, Nat.reduceLeDiff, Nat.reduceMul, Int.reduceLT, Int.reduceLE, Int.reduceAdd, Int.reduceSub, Int.reduceMul, Int.reduceNeg, Int.reduceToNat, Int.reduceEq, s.h3, h4, s.h5, s.h6]
    exact ⟨r7, a, l.length, c, (s.grow (kq.new (kq.free hM7)) ((oq s.old).upd hF7)).ext (by simp only [go_sem, reduceCtorEq, reduceIte, Nat.reduceEqDiff, Nat.reduceAdd, Nat.reduceLeDiff, Nat.reduceMul, Int.reduceLT, Int.reduceLE, Int.reduceAdd, Int.reduceSub, Int.reduceMul, Int.reduceNeg, Int.reduceToNat, Int.reduceEq, s.h3]) (by simp only [go_sem, reduceCtorEq, reduceIte, Nat.reduceEqDiff, Nat.reduceAdd, Nat.reduceLeDiff, Nat.reduceMul, Int.reduceLT, Int.reduceLE, Int.reduceAdd, Int.reduceSub, Int.reduceMul, Int.reduceNeg, Int.reduceToNat, Int.reduceEq, s.h4, e]) (by simp only [go_sem, reduceCtorEq, reduceIte, Nat.reduceEqDiff, Nat.reduceAdd, Nat.reduceLeDiff, Nat.reduceMul, Int.reduceLT, Int.reduceLE, Int.reduceAdd, Int.reduceSub, Int.reduceMul, Int.reduceNeg, Int.reduceToNat, Int.reduceEq, s.h5]) (by simp only [go_sem, reduceCtorEq, reduceIte, Nat.reduceEqDiff, Nat.reduceAdd, Nat.reduceLeDiff, Nat.reduceMul, Int.reduceLT, Int.reduceLE, Int.reduceAdd, Int.reduceSub, Int.reduceMul, Int.reduceNeg, Int.reduceToNat, Int.reduceEq, s.h6]), by simp only [go_sem, reduceCtorEq, reduceIte, Nat.reduceEqDiff, Nat.reduceAdd, Nat.reduceLeDiff, Nat.reduceMul, Int.reduceLT, Int.reduceLE, Int.reduceAdd, Int.reduceSub, Int.reduceMul, Int.reduceNeg, Int.reduceToNat, Int.reduceEq], Hp.upd_same _ _ _, rdl.new hF7 hM7⟩
  clear s
  rintro σ F M ⟨r7, a, n, c, s⟩
  obtain rfl := s.ff
  refine cut (T2 (fzOf W) su L sx X i k x.v l r7 a n c) ?_ ?_
  · have b7 := blk_M (F := fzOf W) s.f7
    simp only [go_sem, reduceCtorEq, reduceIte, Nat.reduceEqDiff, Nat.reduceAdd, Nat.reduceLeDiff, Nat.reduceMul, Int.reduceLT, Int.reduceLE, Int.reduceAdd, Int.reduceSub, Int.reduceMul, Int.reduceNeg, Int.reduceToNat, Int.reduceEq, s.h3, s.h4, s.h5, s.h6, s.h7, b7]
    refine callK_same (k19 _ _ k _ _ _ s.rl) ?_
    simp only [go_sem, reduceCtorEq, reduceIte, Nat.reduceEqDiff, Nat.reduceAdd, Nat.reduceLeDiff, Nat.reduceMul, Int.reduceLT, Int.reduceLE, Int.reduceAdd, Int.reduceSub, Int.reduceMul, Int.reduceNeg, Int.reduceToNat, Int.reduceEq, s.h3, s.h4, s.h5, s.h6, s.h7]
    exact ⟨s.ext (by simp only [go_sem, reduceCtorEq, reduceIte, Nat.reduceEqDiff, Nat.reduceAdd, Nat.reduceLeDiff, Nat.reduceMul, Int.reduceLT, Int.reduceLE, Int.reduceAdd, Int.reduceSub, Int.reduceMul, Int.reduceNeg, Int.reduceToNat, Int.reduceEq]) (by simp only [go_sem, reduceCtorEq, reduceIte, Nat.reduceEqDiff, Nat.reduceAdd, Nat.reduceLeDiff, Nat.reduceMul, Int.reduceLT, Int.reduceLE, Int.reduceAdd, Int.reduceSub, Int.reduceMul, Int.reduceNeg, Int.reduceToNat, Int.reduceEq]) (by simp only [go_sem, reduceCtorEq, reduceIte, Nat.reduceEqDiff, Nat.reduceAdd, Nat.reduceLeDiff, Nat.reduceMul, Int.reduceLT, Int.reduceLE, Int.reduceAdd, Int.reduceSub, Int.reduceMul, Int.reduceNeg, Int.reduceToNat, Int.reduceEq]) (by simp only [go_sem, reduceCtorEq, reduceIte, Nat.reduceEqDiff, Nat.reduceAdd, Nat.reduceLeDiff, Nat.reduceMul, Int.reduceLT, Int.reduceLE, Int.reduceAdd, Int.reduceSub, Int.reduceMul, Int.reduceNeg, Int.reduceToNat, Int.reduceEq]) (by simp only [go_sem, reduceCtorEq, reduceIte, Nat.reduceEqDiff, Nat.reduceAdd, Nat.reduceLeDiff, Nat.reduceMul, Int.reduceLT, Int.reduceLE, Int.reduceAdd, Int.reduceSub, Int.reduceMul, Int.reduceNeg, Int.reduceToNat, Int.reduceEq]), by simp only [go_sem, reduceCtorEq, reduceIte, Nat.reduceEqDiff, Nat.reduceAdd, Nat.reduceLeDiff, Nat.reduceMul, Int.reduceLT, Int.reduceLE, Int.reduceAdd, Int.reduceSub, Int.reduceMul, Int.reduceNeg, Int.reduceToNat, Int.reduceEq]⟩
  clear s
  rintro σ F M ⟨s, h8⟩
  obtain rfl := s.ff
  rw [seq_assoc, seq_assoc, seq_assoc, seq_assoc, seq_assoc]
  refine cut (T2 (fzOf W) su L sx X i k x.v l r7 a n c) ?_ ?_
  · have b7 := blk_M (F := fzOf W) s.f7
    have fin : ∀ σ' M', Keep M M' → Old (fzOf W) M' → Ax.look σ' 3 = Ax.look σ 3 → Ax.look σ' 4 = Ax.look σ 4 → Ax.look σ' 5 = Ax.look σ 5 → Ax.look σ' 6 = Ax.look σ 6 → Ax.look σ' 7 = Ax.look σ 7 → Ax.look σ' 8 = Ax.look σ 8 → T2 (fzOf W) su L sx X i k x.v l r7 a n c σ' (fzOf W) M' := fun σ' M' kp o e3 e4 e5 e6 e7 e8 => ⟨(s.grow kp o).ext e3 e4 e5 e6 e7, e8.trans h8⟩
    simp only [go_sem, reduceCtorEq, reduceIte, Nat.reduceEqDiff, Nat.reduceAdd, Nat.reduceLeDiff, Nat.reduceMul, Int.reduceLT, Int.reduceLE, Int.reduceAdd, Int.reduceSub, Int.reduceMul, Int.reduceNeg, Int.reduceToNat, Int.reduceEq, s.h3, s.h4, s.h5, s.h6, s.h7, h8, b7]
    refine callK_same (k27 _ _ k x.v _ l s.rl) ?_
    cases ha : absB k x.v l
    · rw [ha] at h8
      simp only [go_sem, reduceCtorEq, reduceIte, Nat.reduceEqDiff, Nat.reduceAdd, Nat.reduceLeDiff, Nat.reduceMul, Int.reduceLT, Int.reduceLE, Int.reduceAdd, Int.reduceSub, Int.reduceMul, Int.reduceNeg, Int.reduceToNat, Int.reduceEq, s.h3, s.h4, s.h5, s.h6, s.h7, h8, b7, Bool.false_eq_true, if_false]
      refine callK_same (k28 _ _ k x.v _ l s.rl s.old) ?_
      rw [ha]
      simp only [go_sem, reduceCtorEq, reduceIte, Nat.reduceEqDiff, Nat.reduceAdd, Nat.reduceLeDiff, Nat.reduceMul, Int.reduceLT, Int.reduceLE, Int.reduceAdd, Int.reduceSub, Int.reduceMul, Int.reduceNeg, Int.reduceToNat, Int.reduceEq, s.h3, s.h4, s.h5, s.h6, s.h7, h8, b7, Bool.false_eq_true, if_false]
      intro r12 hF12 hM12
      simp only [go_sem, reduceCtorEq, reduceIte, Nat.reduceEqDiff, Nat.reduceAdd, Nat.reduceLeDiff, Nat.reduceMul, Int.reduceLT, Int.reduceLE, Int.reduceAdd, Int.reduceSub, Int.reduceMul, Int.reduceNeg, Int.reduceToNat, Int.reduceEq, s.h3, s.h4, s.h5, s.h6, s.h7, h8]
      intro r17 hF17 hM17
      have g17 := fresh_of hM17
      have n712 := ne_of_none hM12 s.f7
      have n717 := ne_of_none g17.2.2 s.f7
      have q := (s.rl.new hF12 hM12 (e := ⟨(Sc.mk false 0 0 0).cs, 32, 4⟩)).new hF17 hM17 (e := ⟨(Sc.mk false 0 0 0).cs, 32, 4⟩)
      have bb7 := blk_M (F := fzOf W) (M := (M.upd r12 ⟨(Sc.mk false 0 0 0).cs, 32, 4⟩).upd r17 ⟨(Sc.mk false 0 0 0).cs, 32, 4⟩) (by rw [Hp.upd_ne' n717.1, Hp.upd_ne' n712.1]; exact s.f7)
      simp only [go_sem, reduceCtorEq, reduceIte, Nat.reduceEqDiff, Nat.reduceAdd, Nat.reduceLeDiff, Nat.reduceMul, Int.reduceLT, Int.reduceLE, Int.reduceAdd, Int.reduceSub, Int.reduceMul, Int.reduceNeg, Int.reduceToNat, Int.reduceEq, s.h3, s.h4, s.h5, s.h6, s.h7, h8, g17, n712, n717, b7, bb7]
      refine callK_same (k30 _ _ k x.v _ l q) ?_
      rw [ha]
      simp only [go_sem, reduceCtorEq, reduceIte, Nat.reduceEqDiff, Nat.reduceAdd, Nat.reduceLeDiff, Nat.reduceMul, Int.reduceLT, Int.reduceLE, Int.reduceAdd, Int.reduceSub, Int.reduceMul, Int.reduceNeg, Int.reduceToNat, Int.reduceEq, s.h3, s.h4, s.h5, s.h6, s.h7, h8, Bool.false_eq_true, if_false]
      refine callK_same (k17 _ _ 1) ?_
      simp only [go_sem, reduceCtorEq, reduceIte, Nat.reduceEqDiff, Nat.reduceAdd, Nat.reduceLeDiff, Nat.reduceMul, Int.reduceLT, Int.reduceLE, Int.reduceAdd, Int.reduceSub, Int.reduceMul, Int.reduceNeg, Int.reduceToNat, Int.reduceEq, s.h3, s.h4, s.h5, s.h6, s.h7, h8]
      refine callK_same (k17 _ _ 1) ?_
      simp only [go_sem, reduceCtorEq, reduceIte, Nat.reduceEqDiff, Nat.reduceAdd, Nat.reduceLeDiff, Nat.reduceMul, Int.reduceLT, Int.reduceLE, Int.reduceAdd, Int.reduceSub, Int.reduceMul, Int.reduceNeg, Int.reduceToNat, Int.reduceEq, s.h3, s.h4, s.h5, s.h6, s.h7, h8]
      refine callK_same (k17 _ _ 1) ?_
      simp only [go_sem, reduceCtorEq, reduceIte, Nat.reduceEqDiff, Nat.reduceAdd, Nat.reduceLeDiff, Nat.reduceMul, Int.reduceLT, Int.reduceLE, Int.reduceAdd, Int.reduceSub, Int.reduceMul, Int.reduceNeg, Int.reduceToNat, Int.reduceEq, s.h3, s.h4, s.h5, s.h6, s.h7, h8, g17]
      exact fin _ _ (((Keep.refl _).new hM12).new g17.2.2) ((s.old.upd hF12).upd hF17) (by simp only [go_sem, reduceCtorEq, reduceIte, Nat.reduceEqDiff, Nat.reduceAdd, Nat.reduceLeDiff, Nat.reduceMul, Int.reduceLT, Int.reduceLE, Int.reduceAdd, Int.reduceSub, Int.reduceMul, Int.reduceNeg, Int.reduceToNat, Int.reduceEq]) (by simp only [go_sem, reduceCtorEq, reduceIte, Nat.reduceEqDiff, Nat.reduceAdd, Nat.reduceLeDiff, Nat.reduceMul, Int.reduceLT, Int.reduceLE, Int.reduceAdd, Int.reduceSub, Int.reduceMul, Int.reduceNeg, Int.reduceToNat, Int.reduceEq]) (by simp only [go_sem, reduceCtorEq, reduceIte, Nat.reduceEqDiff, Nat.reduceAdd, Nat.reduceLeDiff, Nat.reduceMul, Int.reduceLT, Int.reduceLE, Int.reduceAdd, Int.reduceSub, Int.reduceMul, Int.reduceNeg, Int.reduceToNat, Int.reduceEq]) (by simp only [go_sem, reduceCtorEq, reduceIte, Nat.reduceEqDiff, Nat.reduceAdd, Nat.reduceLeDiff, Nat.reduceMul, Int.reduceLT, Int.reduceLE, Int.reduceAdd, Int.reduceSub, Int.reduceMul, Int.reduceNeg, Int.reduceToNat, Int.reduceEq]) (by simp only [go_sem, reduceCtorEq, reduceIte, Nat.reduceEqDiff, Nat.reduceAdd, Nat.reduceLeDiff, Nat.reduceMul, Int.reduceLT, Int.reduceLE, Int.reduceAdd, Int.reduceSub, Int.reduceMul, Int.reduceNeg, Int.reduceToNat, Int.reduceEq]) (by simp only [go_sem, reduceCtorEq, reduceIte, Nat.reduceEqDiff, Nat.reduceAdd, Nat.reduceLeDiff, Nat.reduceMul, Int.reduceLT, Int.reduceLE, Int.reduceAdd, Int.reduceSub, Int.reduceMul, Int.reduceNeg, Int.reduceToNat, Int.reduceEq, h8])
    · rw [ha] at h8
      have hpre := abs_pre ha
      simp only [go_sem, reduceCtorEq, reduceIte, Nat.reduceEqDiff, Nat.reduceAdd, Nat.reduceLeDiff, Nat.reduceMul, Int.reduceLT, Int.reduceLE, Int.reduceAdd, Int.reduceSub, Int.reduceMul, Int.reduceNeg, Int.reduceToNat, Int.reduceEq, s.h3, s.h4, s.h5, s.h6, s.h7, h8, b7, if_true]
      refine callK_same (k28 _ _ k x.v _ l s.rl s.old) ?_
      rw [ha]
      simp only [go_sem, reduceCtorEq, reduceIte, Nat.reduceEqDiff, Nat.reduceAdd, Nat.reduceLeDiff, Nat.reduceMul, Int.reduceLT, Int.reduceLE, Int.reduceAdd, Int.reduceSub, Int.reduceMul, Int.reduceNeg, Int.reduceToNat, Int.reduceEq, s.h3, s.h4, s.h5, s.h6, s.h7, h8, b7, if_true]
      intro r12 hF12 hM12
      simp only [go_sem, reduceCtorEq, reduceIte, Nat.reduceEqDiff, Nat.reduceAdd, Nat.reduceLeDiff, Nat.reduceMul, Int.reduceLT, Int.reduceLE, Int.reduceAdd, Int.reduceSub, Int.reduceMul, Int.reduceNeg, Int.reduceToNat, Int.reduceEq, s.h3, s.h4, s.h5, s.h6, s.h7, h8]
      intro r17 hF17 hM17
      have g17 := fresh_of hM17
      have n712 := ne_of_none hM12 s.f7
      have n717 := ne_of_none g17.2.2 s.f7
      have q := (s.rl.new hF12 hM12 (e := ⟨(lone2 k x.v l).1.cs, 32, 4⟩)).new hF17 hM17 (e := ⟨(Sc.mk false 0 0 0).cs, 32, 4⟩)
      have bb7 := blk_M (F := fzOf W) (M := (M.upd r12 ⟨(lone2 k x.v l).1.cs, 32, 4⟩).upd r17 ⟨(Sc.mk false 0 0 0).cs, 32, 4⟩) (by rw [Hp.upd_ne' n717.1, Hp.upd_ne' n712.1]; exact s.f7)
      simp only [go_sem, reduceCtorEq, reduceIte, Nat.reduceEqDiff, Nat.reduceAdd, Nat.reduceLeDiff, Nat.reduceMul, Int.reduceLT, Int.reduceLE, Int.reduceAdd, Int.reduceSub, Int.reduceMul, Int.reduceNeg, Int.reduceToNat, Int.reduceEq, s.h3, s.h4, s.h5, s.h6, s.h7, h8, g17, n712, n717, b7, bb7]
      refine callK_same (k29 _ _ k x.v _ l q ha) ?_
      simp only [go_sem, reduceCtorEq, reduceIte, Nat.reduceEqDiff, Nat.reduceAdd, Nat.reduceLeDiff, Nat.reduceMul, Int.reduceLT, Int.reduceLE, Int.reduceAdd, Int.reduceSub, Int.reduceMul, Int.reduceNeg, Int.reduceToNat, Int.reduceEq, s.h3, s.h4, s.h5, s.h6, s.h7, h8, g17, n712, n717, b7, bb7]
      refine callK_same (k18 _ _ k x.v _ l q (by omega) (fun h => (hpre.2.1 h).1) (fun y hy => ⟨(hpre.2.2 y hy).1, (hpre.2.2 y hy).2.1, (hpre.2.2 y hy).2.2.1⟩)) ?_
      simp only [go_sem, reduceCtorEq, reduceIte, Nat.reduceEqDiff, Nat.reduceAdd, Nat.reduceLeDiff, Nat.reduceMul, Int.reduceLT, Int.reduceLE, Int.reduceAdd, Int.reduceSub, Int.reduceMul, Int.reduceNeg, Int.reduceToNat, Int.reduceEq, s.h3, s.h4, s.h5, s.h6, s.h7, h8, g17, n712, n717, b7, bb7]
      intro r18 hF18 hM18
      have g18 := fresh_of hM18
      have g18b := fresh_of g18.2.2
      have n718 := ne_of_none g18b.2.2 s.f7
      have q2 := q.new hF18 hM18 (e := ⟨(onlyB k x.v l).1.cs, 32, 4⟩)
      have kp18 : ∀ e e' e'', Keep M (((M.upd r12 e).upd r17 e').upd r18 e'') := fun e e' e'' => (((Keep.refl M).new hM12).new g17.2.2).new g18b.2.2
      have old18 : ∀ e e' e'', Old (fzOf W) (((M.upd r12 e).upd r17 e').upd r18 e'') := fun e e' e'' => ((s.old.upd hF12).upd hF17).upd hF18
      have rl18 : ∀ e e' e'', RdG 7 Ba.cs (fzOf W) (((M.upd r12 e).upd r17 e').upd r18 e'') (.slice a n c) l := fun e e' e'' => s.rl.keep (kp18 _ _ _) (old18 _ _ _)
      have bb7 : ∀ e e' e'', blk (fzOf W) (((M.upd r12 e).upd r17 e').upd r18 e'') r7 = some (abCs x.v (.slice a n c)) := fun e e' e'' => blk_M (kp18 e e' e'' _ _ s.f7)
      cases ho : (onlyB k x.v l).2
      · have hlo : lone2 k x.v l = (⟨false, 0, 0, 0⟩, false) := by unfold lone2; rw [ho]; rfl
        rw [hlo]
        simp only [go_sem, reduceCtorEq, reduceIte, Nat.reduceEqDiff, Nat.reduceAdd, Nat.reduceLeDiff, Nat.reduceMul, Int.reduceLT, Int.reduceLE, Int.reduceAdd, Int.reduceSub, Int.reduceMul, Int.reduceNeg, Int.reduceToNat, Int.reduceEq, s.h3, s.h4, s.h5, s.h6, s.h7, h8, g17, g18, g18b, n712, n717, n718, b7, bb7]
        refine callK_same (k30 _ _ k x.v _ l (rl18 _ _ _)) ?_
        rw [ha]
        simp only [go_sem, reduceCtorEq, reduceIte, Nat.reduceEqDiff, Nat.reduceAdd, Nat.reduceLeDiff, Nat.reduceMul, Int.reduceLT, Int.reduceLE, Int.reduceAdd, Int.reduceSub, Int.reduceMul, Int.reduceNeg, Int.reduceToNat, Int.reduceEq, s.h3, s.h4, s.h5, s.h6, s.h7, h8, if_true]
        refine callK_same (k17 _ _ 0) ?_
        simp only [go_sem, reduceCtorEq, reduceIte, Nat.reduceEqDiff, Nat.reduceAdd, Nat.reduceLeDiff, Nat.reduceMul, Int.reduceLT, Int.reduceLE, Int.reduceAdd, Int.reduceSub, Int.reduceMul, Int.reduceNeg, Int.reduceToNat, Int.reduceEq, s.h3, s.h4, s.h5, s.h6, s.h7, h8]
        refine callK_same (k17 _ _ 0) ?_
        simp only [go_sem, reduceCtorEq, reduceIte, Nat.reduceEqDiff, Nat.reduceAdd, Nat.reduceLeDiff, Nat.reduceMul, Int.reduceLT, Int.reduceLE, Int.reduceAdd, Int.reduceSub, Int.reduceMul, Int.reduceNeg, Int.reduceToNat, Int.reduceEq, s.h3, s.h4, s.h5, s.h6, s.h7, h8]
        refine callK_same (k17 _ _ 0) ?_
        simp only [go_sem, reduceCtorEq, reduceIte, Nat.reduceEqDiff, Nat.reduceAdd, Nat.reduceLeDiff, Nat.reduceMul, Int.reduceLT, Int.reduceLE, Int.reduceAdd, Int.reduceSub, Int.reduceMul, Int.reduceNeg, Int.reduceToNat, Int.reduceEq, s.h3, s.h4, s.h5, s.h6, s.h7, h8, g17, g18, g18b]
        exact fin _ _ (kp18 _ _ _) (old18 _ _ _) (by simp only [go_sem, reduceCtorEq, reduceIte, Nat.reduceEqDiff, Nat.reduceAdd, Nat.reduceLeDiff, Nat.reduceMul, Int.reduceLT, Int.reduceLE, Int.reduceAdd, Int.reduceSub, Int.reduceMul, Int.reduceNeg, Int.reduceToNat, Int.reduceEq]) (by simp only [go_sem, reduceCtorEq, reduceIte, Nat.reduceEqDiff, Nat.reduceAdd, Nat.reduceLeDiff, Nat.reduceMul, Int.reduceLT, Int.reduceLE, Int.reduceAdd, Int.reduceSub, Int.reduceMul, Int.reduceNeg, Int.reduceToNat, Int.reduceEq]) (by simp only [go_sem, reduceCtorEq, reduceIte, Nat.reduceEqDiff, Nat.reduceAdd, Nat.reduceLeDiff, Nat.reduceMul, Int.reduceLT, Int.reduceLE, Int.reduceAdd, Int.reduceSub, Int.reduceMul, Int.reduceNeg, Int.reduceToNat, Int.reduceEq]) (by simp only [go_sem, reduceCtorEq, reduceIte, Nat.reduceEqDiff, Nat.reduceAdd, Nat.reduceLeDiff, Nat.reduceMul, Int.reduceLT, Int.reduceLE, Int.reduceAdd, Int.reduceSub, Int.reduceMul, Int.reduceNeg, Int.reduceToNat, Int.reduceEq]) (by simp only [go_sem, reduceCtorEq, reduceIte, Nat.reduceEqDiff, Nat.reduceAdd, Nat.reduceLeDiff, Nat.reduceMul, Int.reduceLT, Int.reduceLE, Int.reduceAdd, Int.reduceSub, Int.reduceMul, Int.reduceNeg, Int.reduceToNat, Int.reduceEq]) (by simp only [go_sem, reduceCtorEq, reduceIte, Nat.reduceEqDiff, Nat.reduceAdd, Nat.reduceLeDiff, Nat.reduceMul, Int.reduceLT, Int.reduceLE, Int.reduceAdd, Int.reduceSub, Int.reduceMul, Int.reduceNeg, Int.reduceToNat, Int.reduceEq, h8])
      · have hlo : lone2 k x.v l = ((onlyB k x.v l).1, true) := by unfold lone2; rw [ho]; rfl
        rw [hlo]
        simp only [go_sem, reduceCtorEq, reduceIte, Nat.reduceEqDiff, Nat.reduceAdd, Nat.reduceLeDiff, Nat.reduceMul, Int.reduceLT, Int.reduceLE, Int.reduceAdd, Int.reduceSub, Int.reduceMul, Int.reduceNeg, Int.reduceToNat, Int.reduceEq, s.h3, s.h4, s.h5, s.h6, s.h7, h8, g17, g18, g18b, n712, n717, n718, b7, bb7]
        refine callK_same (k30 _ _ k x.v _ l (rl18 _ _ _)) ?_
        rw [ha]
        simp only [go_sem, reduceCtorEq, reduceIte, Nat.reduceEqDiff, Nat.reduceAdd, Nat.reduceLeDiff, Nat.reduceMul, Int.reduceLT, Int.reduceLE, Int.reduceAdd, Int.reduceSub, Int.reduceMul, Int.reduceNeg, Int.reduceToNat, Int.reduceEq, s.h3, s.h4, s.h5, s.h6, s.h7, h8, if_true]
        refine callK_same (k17 _ _ 0) ?_
        simp only [go_sem, reduceCtorEq, reduceIte, Nat.reduceEqDiff, Nat.reduceAdd, Nat.reduceLeDiff, Nat.reduceMul, Int.reduceLT, Int.reduceLE, Int.reduceAdd, Int.reduceSub, Int.reduceMul, Int.reduceNeg, Int.reduceToNat, Int.reduceEq, s.h3, s.h4, s.h5, s.h6, s.h7, h8]
        refine callK_same (k17 _ _ 0) ?_
        simp only [go_sem, reduceCtorEq, reduceIte, Nat.reduceEqDiff, Nat.reduceAdd, Nat.reduceLeDiff, Nat.reduceMul, Int.reduceLT, Int.reduceLE, Int.reduceAdd, Int.reduceSub, Int.reduceMul, Int.reduceNeg, Int.reduceToNat, Int.reduceEq, s.h3, s.h4, s.h5, s.h6, s.h7, h8]
        refine callK_same (k17 _ _ 0) ?_
        simp only [go_sem, reduceCtorEq, reduceIte, Nat.reduceEqDiff, Nat.reduceAdd, Nat.reduceLeDiff, Nat.reduceMul, Int.reduceLT, Int.reduceLE, Int.reduceAdd, Int.reduceSub, Int.reduceMul, Int.reduceNeg, Int.reduceToNat, Int.reduceEq, s.h3, s.h4, s.h5, s.h6, s.h7, h8, g17, g18, g18b]
        exact fin _ _ (kp18 _ _ _) (old18 _ _ _) (by simp only [go_sem, reduceCtorEq, reduceIte, Nat.reduceEqDiff, Nat.reduceAdd, Nat.reduceLeDiff, Nat.reduceMul, Int.reduceLT, Int.reduceLE, Int.reduceAdd, Int.reduceSub, Int.reduceMul, Int.reduceNeg, Int.reduceToNat, Int.reduceEq]) (by simp only [go_sem, reduceCtorEq, reduceIte, Nat.reduceEqDiff, Nat.reduceAdd, Nat.reduceLeDiff, Nat.reduceMul, Int.reduceLT, Int.reduceLE, Int.reduceAdd, Int.reduceSub, Int.reduceMul, Int.reduceNeg, Int.reduceToNat, Int.reduceEq]) (by simp only [go_sem, reduceCtorEq, reduceIte, Nat.reduceEqDiff, Nat.reduceAdd, Nat.reduceLeDiff, Nat.reduceMul, Int.reduceLT, Int.reduceLE, Int.reduceAdd, Int.reduceSub, Int.reduceMul, Int.reduceNeg, Int.reduceToNat, Int.reduceEq]) (by simp only [go_sem, reduceCtorEq, reduceIte, Nat.reduceEqDiff, Nat.reduceAdd, Nat.reduceLeDiff, Nat.reduceMul, Int.reduceLT, Int.reduceLE, Int.reduceAdd, Int.reduceSub, Int.reduceMul, Int.reduceNeg, Int.reduceToNat, Int.reduceEq]) (by simp only [go_sem, reduceCtorEq, reduceIte, Nat.reduceEqDiff, Nat.reduceAdd, Nat.reduceLeDiff, Nat.reduceMul, Int.reduceLT, Int.reduceLE, Int.reduceAdd, Int.reduceSub, Int.reduceMul, Int.reduceNeg, Int.reduceToNat, Int.reduceEq]) (by simp only [go_sem, reduceCtorEq, reduceIte, Nat.reduceEqDiff, Nat.reduceAdd, Nat.reduceLeDiff, Nat.reduceMul, Int.reduceLT, Int.reduceLE, Int.reduceAdd, Int.reduceSub, Int.reduceMul, Int.reduceNeg, Int.reduceToNat, Int.reduceEq, h8])
  clear h8
  clear s
  rintro σ F M ⟨s, h8⟩
  obtain rfl := s.ff
  refine cut (T2 (fzOf W) su L sx X i k x.v l r7 a n c) ?_ ?_
  rotate_left
  · clear h8
    clear s
    rintro σ F M ⟨s, h8⟩
    obtain rfl := s.ff
    obtain ⟨b, o, cs, e, hb, d1, d2⟩ := hxe s.rx
    have h4 := s.h4
    rw [e] at h4
    rw [hxu] at d2
    have hxr := (hlg _ s.old).2
    rw [hxu] at hxr
    have b7 := blk_M (F := fzOf W) s.f7
    simp only [go_sem, reduceCtorEq, reduceIte, Nat.reduceEqDiff, Nat.reduceAdd, Nat.reduceLeDiff, Nat.reduceMul, Int.reduceLT, Int.reduceLE, Int.reduceAdd, Int.reduceSub, Int.reduceMul, Int.reduceNeg, Int.reduceToNat, Int.reduceEq, s.h3, h4, s.h5, s.h6, s.h7, h8, hil, hi0, Int.toNat_natCast, hb, d1, d2, b7]
    refine callK_same (k32 _ _ x.v x.v _ _ l l s.rl hxr) ?_
    simp only [go_sem, reduceCtorEq, reduceIte, Nat.reduceEqDiff, Nat.reduceAdd, Nat.reduceLeDiff, Nat.reduceMul, Int.reduceLT, Int.reduceLE, Int.reduceAdd, Int.reduceSub, Int.reduceMul, Int.reduceNeg, Int.reduceToNat, Int.reduceEq, s.h3, h4, s.h5, s.h6, s.h7, h8]
    exact s.toQ2.ext (by simp only [go_sem, reduceCtorEq, reduceIte, Nat.reduceEqDiff, Nat.reduceAdd, Nat.reduceLeDiff, Nat.reduceMul, Int.reduceLT, Int.reduceLE, Int.reduceAdd, Int.reduceSub, Int.reduceMul, Int.reduceNeg, Int.reduceToNat, Int.reduceEq, s.h3]) (by simp only [go_sem, reduceCtorEq, reduceIte, Nat.reduceEqDiff, Nat.reduceAdd, Nat.reduceLeDiff, Nat.reduceMul, Int.reduceLT, Int.reduceLE, Int.reduceAdd, Int.reduceSub, Int.reduceMul, Int.reduceNeg, Int.reduceToNat, Int.reduceEq, s.h4, e]) (by simp only [go_sem, reduceCtorEq, reduceIte, Nat.reduceEqDiff, Nat.reduceAdd, Nat.reduceLeDiff, Nat.reduceMul, Int.reduceLT, Int.reduceLE, Int.reduceAdd, Int.reduceSub, Int.reduceMul, Int.reduceNeg, Int.reduceToNat, Int.reduceEq, s.h5]) (by simp only [go_sem, reduceCtorEq, reduceIte, Nat.reduceEqDiff, Nat.reduceAdd, Nat.reduceLeDiff, Nat.reduceMul, Int.reduceLT, Int.reduceLE, Int.reduceAdd, Int.reduceSub, Int.reduceMul, Int.reduceNeg, Int.reduceToNat, Int.reduceEq, s.h6])
  simp only [go_sem, reduceCtorEq, reduceIte, Nat.reduceEqDiff, Nat.reduceAdd, Nat.reduceLeDiff, Nat.reduceMul, Int.reduceLT, Int.reduceLE, Int.reduceAdd, Int.reduceSub, Int.reduceMul, Int.reduceNeg, Int.reduceToNat, Int.reduceEq, s.h3, s.h4, s.h5, s.h6, s.h7, h8]
  refine loop_of (jI (fzOf W) su L sx X i k x.v l r7 a n c) L.length ?_ ?_
  · exact ⟨⟨s.ext (by simp only [go_sem, reduceCtorEq, reduceIte, Nat.reduceEqDiff, Nat.reduceAdd, Nat.reduceLeDiff, Nat.reduceMul, Int.reduceLT, Int.reduceLE, Int.reduceAdd, Int.reduceSub, Int.reduceMul, Int.reduceNeg, Int.reduceToNat, Int.reduceEq]) (by simp only [go_sem, reduceCtorEq, reduceIte, Nat.reduceEqDiff, Nat.reduceAdd, Nat.reduceLeDiff, Nat.reduceMul, Int.reduceLT, Int.reduceLE, Int.reduceAdd, Int.reduceSub, Int.reduceMul, Int.reduceNeg, Int.reduceToNat, Int.reduceEq]) (by simp only [go_sem, reduceCtorEq, reduceIte, Nat.reduceEqDiff, Nat.reduceAdd, Nat.reduceLeDiff, Nat.reduceMul, Int.reduceLT, Int.reduceLE, Int.reduceAdd, Int.reduceSub, Int.reduceMul, Int.reduceNeg, Int.reduceToNat, Int.reduceEq]) (by simp only [go_sem, reduceCtorEq, reduceIte, Nat.reduceEqDiff, Nat.reduceAdd, Nat.reduceLeDiff, Nat.reduceMul, Int.reduceLT, Int.reduceLE, Int.reduceAdd, Int.reduceSub, Int.reduceMul, Int.reduceNeg, Int.reduceToNat, Int.reduceEq]) (by simp only [go_sem, reduceCtorEq, reduceIte, Nat.reduceEqDiff, Nat.reduceAdd, Nat.reduceLeDiff, Nat.reduceMul, Int.reduceLT, Int.reduceLE, Int.reduceAdd, Int.reduceSub, Int.reduceMul, Int.reduceNeg, Int.reduceToNat, Int.reduceEq]), by simp only [go_sem, reduceCtorEq, reduceIte, Nat.reduceEqDiff, Nat.reduceAdd, Nat.reduceLeDiff, Nat.reduceMul, Int.reduceLT, Int.reduceLE, Int.reduceAdd, Int.reduceSub, Int.reduceMul, Int.reduceNeg, Int.reduceToNat, Int.reduceEq, h8]⟩, 0, by omega, by simp only [go_sem, reduceCtorEq, reduceIte, Nat.reduceEqDiff, Nat.reduceAdd, Nat.reduceLeDiff, Nat.reduceMul, Int.reduceLT, Int.reduceLE, Int.reduceAdd, Int.reduceSub, Int.reduceMul, Int.reduceNeg, Int.reduceToNat, Int.reduceEq] <;> rfl⟩
  clear h8
  clear s
  rintro mj σ F M ⟨⟨s, h8⟩, j, hj, h20⟩
  obtain rfl := s.ff
  have h3 := s.h3
  rw [hsu] at h3
  have fin : ∀ σ', Ax.look σ' 3 = Ax.look σ 3 → Ax.look σ' 4 = Ax.look σ 4 → Ax.look σ' 5 = Ax.look σ 5 → Ax.look σ' 6 = Ax.look σ 6 → Ax.look σ' 7 = Ax.look σ 7 → Ax.look σ' 8 = Ax.look σ 8 → T2 (fzOf W) su L sx X i k x.v l r7 a n c σ' (fzOf W) M := fun σ' e3 e4 e5 e6 e7 e8 => ⟨s.ext e3 e4 e5 e6 e7, e8.trans h8⟩
  by_cases hjl : (j : Int) < L.length
  rotate_left
  · simp only [go_sem, reduceCtorEq, reduceIte, Nat.reduceEqDiff, Nat.reduceAdd, Nat.reduceLeDiff, Nat.reduceMul, Int.reduceLT, Int.reduceLE, Int.reduceAdd, Int.reduceSub, Int.reduceMul, Int.reduceNeg, Int.reduceToNat, Int.reduceEq, h3, s.h4, s.h5, s.h6, s.h7, h8, h20, hjl]
    exact fin _ (by simp only [go_sem, reduceCtorEq, reduceIte, Nat.reduceEqDiff, Nat.reduceAdd, Nat.reduceLeDiff, Nat.reduceMul, Int.reduceLT, Int.reduceLE, Int.reduceAdd, Int.reduceSub, Int.reduceMul, Int.reduceNeg, Int.reduceToNat, Int.reduceEq, s.h3]) (by simp only [go_sem, reduceCtorEq, reduceIte, Nat.reduceEqDiff, Nat.reduceAdd, Nat.reduceLeDiff, Nat.reduceMul, Int.reduceLT, Int.reduceLE, Int.reduceAdd, Int.reduceSub, Int.reduceMul, Int.reduceNeg, Int.reduceToNat, Int.reduceEq]) (by simp only [go_sem, reduceCtorEq, reduceIte, Nat.reduceEqDiff, Nat.reduceAdd, Nat.reduceLeDiff, Nat.reduceMul, Int.reduceLT, Int.reduceLE, Int.reduceAdd, Int.reduceSub, Int.reduceMul, Int.reduceNeg, Int.reduceToNat, Int.reduceEq]) (by simp only [go_sem, reduceCtorEq, reduceIte, Nat.reduceEqDiff, Nat.reduceAdd, Nat.reduceLeDiff, Nat.reduceMul, Int.reduceLT, Int.reduceLE, Int.reduceAdd, Int.reduceSub, Int.reduceMul, Int.reduceNeg, Int.reduceToNat, Int.reduceEq]) (by simp only [go_sem, reduceCtorEq, reduceIte, Nat.reduceEqDiff, Nat.reduceAdd, Nat.reduceLeDiff, Nat.reduceMul, Int.reduceLT, Int.reduceLE, Int.reduceAdd, Int.reduceSub, Int.reduceMul, Int.reduceNeg, Int.reduceToNat, Int.reduceEq]) (by simp only [go_sem, reduceCtorEq, reduceIte, Nat.reduceEqDiff, Nat.reduceAdd, Nat.reduceLeDiff, Nat.reduceMul, Int.reduceLT, Int.reduceLE, Int.reduceAdd, Int.reduceSub, Int.reduceMul, Int.reduceNeg, Int.reduceToNat, Int.reduceEq])
  by_cases hj10 : (j : Int) < 10
  rotate_left
  · simp only [go_sem, reduceCtorEq, reduceIte, Nat.reduceEqDiff, Nat.reduceAdd, Nat.reduceLeDiff, Nat.reduceMul, Int.reduceLT, Int.reduceLE, Int.reduceAdd, Int.reduceSub, Int.reduceMul, Int.reduceNeg, Int.reduceToNat, Int.reduceEq, h3, s.h4, s.h5, s.h6, s.h7, h8, h20, hjl, hj10]
    exact fin _ (by simp only [go_sem, reduceCtorEq, reduceIte, Nat.reduceEqDiff, Nat.reduceAdd, Nat.reduceLeDiff, Nat.reduceMul, Int.reduceLT, Int.reduceLE, Int.reduceAdd, Int.reduceSub, Int.reduceMul, Int.reduceNeg, Int.reduceToNat, Int.reduceEq, s.h3]) (by simp only [go_sem, reduceCtorEq, reduceIte, Nat.reduceEqDiff, Nat.reduceAdd, Nat.reduceLeDiff, Nat.reduceMul, Int.reduceLT, Int.reduceLE, Int.reduceAdd, Int.reduceSub, Int.reduceMul, Int.reduceNeg, Int.reduceToNat, Int.reduceEq]) (by simp only [go_sem, reduceCtorEq, reduceIte, Nat.reduceEqDiff, Nat.reduceAdd, Nat.reduceLeDiff, Nat.reduceMul, Int.reduceLT, Int.reduceLE, Int.reduceAdd, Int.reduceSub, Int.reduceMul, Int.reduceNeg, Int.reduceToNat, Int.reduceEq]) (by simp only [go_sem, reduceCtorEq, reduceIte, Nat.reduceEqDiff, Nat.reduceAdd, Nat.reduceLeDiff, Nat.reduceMul, Int.reduceLT, Int.reduceLE, Int.reduceAdd, Int.reduceSub, Int.reduceMul, Int.reduceNeg, Int.reduceToNat, Int.reduceEq]) (by simp only [go_sem, reduceCtorEq, reduceIte, Nat.reduceEqDiff, Nat.reduceAdd, Nat.reduceLeDiff, Nat.reduceMul, Int.reduceLT, Int.reduceLE, Int.reduceAdd, Int.reduceSub, Int.reduceMul, Int.reduceNeg, Int.reduceToNat, Int.reduceEq]) (by simp only [go_sem, reduceCtorEq, reduceIte, Nat.reduceEqDiff, Nat.reduceAdd, Nat.reduceLeDiff, Nat.reduceMul, Int.reduceLT, Int.reduceLE, Int.reduceAdd, Int.reduceSub, Int.reduceMul, Int.reduceNeg, Int.reduceToNat, Int.reduceEq])
  have ej : IntKind.i64.wrap ((j : Int) + 1) = j + 1 := w64 (by omega) (by omega)
  refine cut (jB (fzOf W) su L sx X i k x.v l r7 a n c j) ?_ ?_
  · simp only [go_sem, reduceCtorEq, reduceIte, Nat.reduceEqDiff, Nat.reduceAdd, Nat.reduceLeDiff, Nat.reduceMul, Int.reduceLT, Int.reduceLE, Int.reduceAdd, Int.reduceSub, Int.reduceMul, Int.reduceNeg, Int.reduceToNat, Int.reduceEq, h3, s.h4, s.h5, s.h6, s.h7, h8, h20, hjl, hj10]
    exact ⟨fin _ (by simp only [go_sem, reduceCtorEq, reduceIte, Nat.reduceEqDiff, Nat.reduceAdd, Nat.reduceLeDiff, Nat.reduceMul, Int.reduceLT, Int.reduceLE, Int.reduceAdd, Int.reduceSub, Int.reduceMul, Int.reduceNeg, Int.reduceToNat, Int.reduceEq, s.h3]) (by simp only [go_sem, reduceCtorEq, reduceIte, Nat.reduceEqDiff, Nat.reduceAdd, Nat.reduceLeDiff, Nat.reduceMul, Int.reduceLT, Int.reduceLE, Int.reduceAdd, Int.reduceSub, Int.reduceMul, Int.reduceNeg, Int.reduceToNat, Int.reduceEq]) (by simp only [go_sem, reduceCtorEq, reduceIte, Nat.reduceEqDiff, Nat.reduceAdd, Nat.reduceLeDiff, Nat.reduceMul, Int.reduceLT, Int.reduceLE, Int.reduceAdd, Int.reduceSub, Int.reduceMul, Int.reduceNeg, Int.reduceToNat, Int.reduceEq]) (by simp only [go_sem, reduceCtorEq, reduceIte, Nat.reduceEqDiff, Nat.reduceAdd, Nat.reduceLeDiff, Nat.reduceMul, Int.reduceLT, Int.reduceLE, Int.reduceAdd, Int.reduceSub, Int.reduceMul, Int.reduceNeg, Int.reduceToNat, Int.reduceEq]) (by simp only [go_sem, reduceCtorEq, reduceIte, Nat.reduceEqDiff, Nat.reduceAdd, Nat.reduceLeDiff, Nat.reduceMul, Int.reduceLT, Int.reduceLE, Int.reduceAdd, Int.reduceSub, Int.reduceMul, Int.reduceNeg, Int.reduceToNat, Int.reduceEq]) (by simp only [go_sem, reduceCtorEq, reduceIte, Nat.reduceEqDiff, Nat.reduceAdd, Nat.reduceLeDiff, Nat.reduceMul, Int.reduceLT, Int.reduceLE, Int.reduceAdd, Int.reduceSub, Int.reduceMul, Int.reduceNeg, Int.reduceToNat, Int.reduceEq]), by simp only [go_sem, reduceCtorEq, reduceIte, Nat.reduceEqDiff, Nat.reduceAdd, Nat.reduceLeDiff, Nat.reduceMul, Int.reduceLT, Int.reduceLE, Int.reduceAdd, Int.reduceSub, Int.reduceMul, Int.reduceNeg, Int.reduceToNat, Int.reduceEq, h20]⟩
  clear fin h3 h8 h20
  clear s
  rintro σ F M ⟨⟨s, h8⟩, h20⟩
  obtain rfl := s.ff
  refine cut (jB (fzOf W) su L sx X i k x.v l r7 a n c j) ?_ ?_
  rotate_left
  · rintro σ F M ⟨⟨s, h8⟩, h20⟩
    obtain rfl := s.ff
    simp only [go_sem, reduceCtorEq, reduceIte, Nat.reduceEqDiff, Nat.reduceAdd, Nat.reduceLeDiff, Nat.reduceMul, Int.reduceLT, Int.reduceLE, Int.reduceAdd, Int.reduceSub, Int.reduceMul, Int.reduceNeg, Int.reduceToNat, Int.reduceEq, s.h3, s.h4, s.h5, s.h6, s.h7, h8, h20, ej]
    exact ⟨mj - 1, by omega, ⟨s.ext (by simp only [go_sem, reduceCtorEq, reduceIte, Nat.reduceEqDiff, Nat.reduceAdd, Nat.reduceLeDiff, Nat.reduceMul, Int.reduceLT, Int.reduceLE, Int.reduceAdd, Int.reduceSub, Int.reduceMul, Int.reduceNeg, Int.reduceToNat, Int.reduceEq]) (by simp only [go_sem, reduceCtorEq, reduceIte, Nat.reduceEqDiff, Nat.reduceAdd, Nat.reduceLeDiff, Nat.reduceMul, Int.reduceLT, Int.reduceLE, Int.reduceAdd, Int.reduceSub, Int.reduceMul, Int.reduceNeg, Int.reduceToNat, Int.reduceEq]) (by simp only [go_sem, reduceCtorEq, reduceIte, Nat.reduceEqDiff, Nat.reduceAdd, Nat.reduceLeDiff, Nat.reduceMul, Int.reduceLT, Int.reduceLE, Int.reduceAdd, Int.reduceSub, Int.reduceMul, Int.reduceNeg, Int.reduceToNat, Int.reduceEq]) (by simp only [go_sem, reduceCtorEq, reduceIte, Nat.reduceEqDiff, Nat.reduceAdd, Nat.reduceLeDiff, Nat.reduceMul, Int.reduceLT, Int.reduceLE, Int.reduceAdd, Int.reduceSub, Int.reduceMul, Int.reduceNeg, Int.reduceToNat, Int.reduceEq]) (by simp only [go_sem, reduceCtorEq, reduceIte, Nat.reduceEqDiff, Nat.reduceAdd, Nat.reduceLeDiff, Nat.reduceMul, Int.reduceLT, Int.reduceLE, Int.reduceAdd, Int.reduceSub, Int.reduceMul, Int.reduceNeg, Int.reduceToNat, Int.reduceEq]), by simp only [go_sem, reduceCtorEq, reduceIte, Nat.reduceEqDiff, Nat.reduceAdd, Nat.reduceLeDiff, Nat.reduceMul, Int.reduceLT, Int.reduceLE, Int.reduceAdd, Int.reduceSub, Int.reduceMul, Int.reduceNeg, Int.reduceToNat, Int.reduceEq, h8]⟩, j + 1, by omega, by simp only [go_sem, reduceCtorEq, reduceIte, Nat.reduceEqDiff, Nat.reduceAdd, Nat.reduceLeDiff, Nat.reduceMul, Int.reduceLT, Int.reduceLE, Int.reduceAdd, Int.reduceSub, Int.reduceMul, Int.reduceNeg, Int.reduceToNat, Int.reduceEq]; rfl⟩
  rw [W_block]
  have hj' : j < L.length := by omega
  have hj0 : (0 : Int) ≤ j := by omega
  have fin : ∀ σ', Ax.look σ' 3 = Ax.look σ 3 → Ax.look σ' 4 = Ax.look σ 4 → Ax.look σ' 5 = Ax.look σ 5 → Ax.look σ' 6 = Ax.look σ 6 → Ax.look σ' 7 = Ax.look σ 7 → Ax.look σ' 8 = Ax.look σ 8 → Ax.look σ' 20 = Ax.look σ 20 → jB (fzOf W) su L sx X i k x.v l r7 a n c j σ' (fzOf W) M := fun σ' e3 e4 e5 e6 e7 e8 e20 => ⟨⟨s.ext e3 e4 e5 e6 e7, e8.trans h8⟩, e20.trans h20⟩
  obtain ⟨b, o, cap', cs, eu, hb, d1, d2, _⟩ := sc_at s.rd hj'
  have h3 := s.h3
  rw [eu] at h3
  generalize L[j] = y at *
  have b7 := blk_M (F := fzOf W) s.f7
  have e3' : ∀ σ', Ax.look σ' 3 = some (.slice (some ⟨b, o, none⟩) L.length cap') → Ax.look σ' 3 = Ax.look σ 3 := fun σ' h => h.trans h3.symm
  simp only [go_sem, reduceCtorEq, reduceIte, Nat.reduceEqDiff, Nat.reduceAdd, Nat.reduceLeDiff, Nat.reduceMul, Int.reduceLT, Int.reduceLE, Int.reduceAdd, Int.reduceSub, Int.reduceMul, Int.reduceNeg, Int.reduceToNat, Int.reduceEq, h3, s.h4, s.h5, s.h6, s.h7, h8, h20, hjl, hj0, Int.toNat_natCast, hb, d1, d2, b7]
  refine callK_same (k31 _ _ k x.v _ l y s.rl) ?_
  cases ha : absB k x.v l
  · rw [ha] at h8
    simp only [go_sem, reduceCtorEq, reduceIte, Nat.reduceEqDiff, Nat.reduceAdd, Nat.reduceLeDiff, Nat.reduceMul, Int.reduceLT, Int.reduceLE, Int.reduceAdd, Int.reduceSub, Int.reduceMul, Int.reduceNeg, Int.reduceToNat, Int.reduceEq, h3, s.h4, s.h5, s.h6, s.h7, h8, h20, Bool.false_and, Bool.false_eq_true, if_false]
    refine callK_same (k17 _ _ 1) ?_
    simp only [go_sem, reduceCtorEq, reduceIte, Nat.reduceEqDiff, Nat.reduceAdd, Nat.reduceLeDiff, Nat.reduceMul, Int.reduceLT, Int.reduceLE, Int.reduceAdd, Int.reduceSub, Int.reduceMul, Int.reduceNeg, Int.reduceToNat, Int.reduceEq, h3, s.h4, s.h5, s.h6, s.h7, h8, h20]
    exact fin _ (e3' _ (by simp only [go_sem, reduceCtorEq, reduceIte, Nat.reduceEqDiff, Nat.reduceAdd, Nat.reduceLeDiff, Nat.reduceMul, Int.reduceLT, Int.reduceLE, Int.reduceAdd, Int.reduceSub, Int.reduceMul, Int.reduceNeg, Int.reduceToNat, Int.reduceEq, h3])) (by simp only [go_sem, reduceCtorEq, reduceIte, Nat.reduceEqDiff, Nat.reduceAdd, Nat.reduceLeDiff, Nat.reduceMul, Int.reduceLT, Int.reduceLE, Int.reduceAdd, Int.reduceSub, Int.reduceMul, Int.reduceNeg, Int.reduceToNat, Int.reduceEq]) (by simp only [go_sem, reduceCtorEq, reduceIte, Nat.reduceEqDiff, Nat.reduceAdd, Nat.reduceLeDiff, Nat.reduceMul, Int.reduceLT, Int.reduceLE, Int.reduceAdd, Int.reduceSub, Int.reduceMul, Int.reduceNeg, Int.reduceToNat, Int.reduceEq]) (by simp only [go_sem, reduceCtorEq, reduceIte, Nat.reduceEqDiff, Nat.reduceAdd, Nat.reduceLeDiff, Nat.reduceMul, Int.reduceLT, Int.reduceLE, Int.reduceAdd, Int.reduceSub, Int.reduceMul, Int.reduceNeg, Int.reduceToNat, Int.reduceEq]) (by simp only [go_sem, reduceCtorEq, reduceIte, Nat.reduceEqDiff, Nat.reduceAdd, Nat.reduceLeDiff, Nat.reduceMul, Int.reduceLT, Int.reduceLE, Int.reduceAdd, Int.reduceSub, Int.reduceMul, Int.reduceNeg, Int.reduceToNat, Int.reduceEq]) (by simp only [go_sem, reduceCtorEq, reduceIte, Nat.reduceEqDiff, Nat.reduceAdd, Nat.reduceLeDiff, Nat.reduceMul, Int.reduceLT, Int.reduceLE, Int.reduceAdd, Int.reduceSub, Int.reduceMul, Int.reduceNeg, Int.reduceToNat, Int.reduceEq, h8]) (by simp only [go_sem, reduceCtorEq, reduceIte, Nat.reduceEqDiff, Nat.reduceAdd, Nat.reduceLeDiff, Nat.reduceMul, Int.reduceLT, Int.reduceLE, Int.reduceAdd, Int.reduceSub, Int.reduceMul, Int.reduceNeg, Int.reduceToNat, Int.reduceEq])
  rw [ha] at h8
  cases hy : sc6B k y
  · simp only [go_sem, reduceCtorEq, reduceIte, Nat.reduceEqDiff, Nat.reduceAdd, Nat.reduceLeDiff, Nat.reduceMul, Int.reduceLT, Int.reduceLE, Int.reduceAdd, Int.reduceSub, Int.reduceMul, Int.reduceNeg, Int.reduceToNat, Int.reduceEq, h3, s.h4, s.h5, s.h6, s.h7, h8, h20, hjl, hj0, Int.toNat_natCast, hb, d1, d2, Bool.and_false, Bool.false_eq_true, if_false]
    refine callK_same (k16 _ _ k y) ?_
    rw [hy]
    simp only [go_sem, reduceCtorEq, reduceIte, Nat.reduceEqDiff, Nat.reduceAdd, Nat.reduceLeDiff, Nat.reduceMul, Int.reduceLT, Int.reduceLE, Int.reduceAdd, Int.reduceSub, Int.reduceMul, Int.reduceNeg, Int.reduceToNat, Int.reduceEq, h3, s.h4, s.h5, s.h6, s.h7, h8, h20]
    refine callK_same (k17 _ _ 1) ?_
    simp only [go_sem, reduceCtorEq, reduceIte, Nat.reduceEqDiff, Nat.reduceAdd, Nat.reduceLeDiff, Nat.reduceMul, Int.reduceLT, Int.reduceLE, Int.reduceAdd, Int.reduceSub, Int.reduceMul, Int.reduceNeg, Int.reduceToNat, Int.reduceEq, h3, s.h4, s.h5, s.h6, s.h7, h8, h20]
    exact fin _ (e3' _ (by simp only [go_sem, reduceCtorEq, reduceIte, Nat.reduceEqDiff, Nat.reduceAdd, Nat.reduceLeDiff, Nat.reduceMul, Int.reduceLT, Int.reduceLE, Int.reduceAdd, Int.reduceSub, Int.reduceMul, Int.reduceNeg, Int.reduceToNat, Int.reduceEq, h3])) (by simp only [go_sem, reduceCtorEq, reduceIte, Nat.reduceEqDiff, Nat.reduceAdd, Nat.reduceLeDiff, Nat.reduceMul, Int.reduceLT, Int.reduceLE, Int.reduceAdd, Int.reduceSub, Int.reduceMul, Int.reduceNeg, Int.reduceToNat, Int.reduceEq]) (by simp only [go_sem, reduceCtorEq, reduceIte, Nat.reduceEqDiff, Nat.reduceAdd, Nat.reduceLeDiff, Nat.reduceMul, Int.reduceLT, Int.reduceLE, Int.reduceAdd, Int.reduceSub, Int.reduceMul, Int.reduceNeg, Int.reduceToNat, Int.reduceEq]) (by simp only [go_sem, reduceCtorEq, reduceIte, Nat.reduceEqDiff, Nat.reduceAdd, Nat.reduceLeDiff, Nat.reduceMul, Int.reduceLT, Int.reduceLE, Int.reduceAdd, Int.reduceSub, Int.reduceMul, Int.reduceNeg, Int.reduceToNat, Int.reduceEq]) (by simp only [go_sem, reduceCtorEq, reduceIte, Nat.reduceEqDiff, Nat.reduceAdd, Nat.reduceLeDiff, Nat.reduceMul, Int.reduceLT, Int.reduceLE, Int.reduceAdd, Int.reduceSub, Int.reduceMul, Int.reduceNeg, Int.reduceToNat, Int.reduceEq]) (by simp only [go_sem, reduceCtorEq, reduceIte, Nat.reduceEqDiff, Nat.reduceAdd, Nat.reduceLeDiff, Nat.reduceMul, Int.reduceLT, Int.reduceLE, Int.reduceAdd, Int.reduceSub, Int.reduceMul, Int.reduceNeg, Int.reduceToNat, Int.reduceEq, h8]) (by simp only [go_sem, reduceCtorEq, reduceIte, Nat.reduceEqDiff, Nat.reduceAdd, Nat.reduceLeDiff, Nat.reduceMul, Int.reduceLT, Int.reduceLE, Int.reduceAdd, Int.reduceSub, Int.reduceMul, Int.reduceNeg, Int.reduceToNat, Int.reduceEq])
  · have ehh : holdsB k x.v l y = hasB k x.v l y := by
      have := holds_pts hy (pointsB l y.b y.o)
      unfold holdsB hasB
      by_cases h7 : k = 7
      · rw [if_pos h7] at this ⊢
        rw [if_pos h7]; exact this
      · rw [if_neg h7, if_neg h7]
    rw [ehh]
    simp only [go_sem, reduceCtorEq, reduceIte, Nat.reduceEqDiff, Nat.reduceAdd, Nat.reduceLeDiff, Nat.reduceMul, Int.reduceLT, Int.reduceLE, Int.reduceAdd, Int.reduceSub, Int.reduceMul, Int.reduceNeg, Int.reduceToNat, Int.reduceEq, h3, s.h4, s.h5, s.h6, s.h7, h8, h20, hjl, hj0, Int.toNat_natCast, hb, d1, d2, Bool.and_self, if_true]
    refine callK_same (k16 _ _ k y) ?_
    rw [hy]
    simp only [go_sem, reduceCtorEq, reduceIte, Nat.reduceEqDiff, Nat.reduceAdd, Nat.reduceLeDiff, Nat.reduceMul, Int.reduceLT, Int.reduceLE, Int.reduceAdd, Int.reduceSub, Int.reduceMul, Int.reduceNeg, Int.reduceToNat, Int.reduceEq, h3, s.h4, s.h5, s.h6, s.h7, h8, h20, hjl, hj0, Int.toNat_natCast, hb, d1, d2, b7]
    refine callK_same (k23 _ _ k x.v _ l y s.rl) ?_
    simp only [go_sem, reduceCtorEq, reduceIte, Nat.reduceEqDiff, Nat.reduceAdd, Nat.reduceLeDiff, Nat.reduceMul, Int.reduceLT, Int.reduceLE, Int.reduceAdd, Int.reduceSub, Int.reduceMul, Int.reduceNeg, Int.reduceToNat, Int.reduceEq, h3, s.h4, s.h5, s.h6, s.h7, h8, h20]
    refine callK_same (k17 _ _ 0) ?_
    simp only [go_sem, reduceCtorEq, reduceIte, Nat.reduceEqDiff, Nat.reduceAdd, Nat.reduceLeDiff, Nat.reduceMul, Int.reduceLT, Int.reduceLE, Int.reduceAdd, Int.reduceSub, Int.reduceMul, Int.reduceNeg, Int.reduceToNat, Int.reduceEq, h3, s.h4, s.h5, s.h6, s.h7, h8, h20]
    exact fin _ (e3' _ (by simp only [go_sem, reduceCtorEq, reduceIte, Nat.reduceEqDiff, Nat.reduceAdd, Nat.reduceLeDiff, Nat.reduceMul, Int.reduceLT, Int.reduceLE, Int.reduceAdd, Int.reduceSub, Int.reduceMul, Int.reduceNeg, Int.reduceToNat, Int.reduceEq, h3])) (by simp only [go_sem, reduceCtorEq, reduceIte, Nat.reduceEqDiff, Nat.reduceAdd, Nat.reduceLeDiff, Nat.reduceMul, Int.reduceLT, Int.reduceLE, Int.reduceAdd, Int.reduceSub, Int.reduceMul, Int.reduceNeg, Int.reduceToNat, Int.reduceEq]) (by simp only [go_sem, reduceCtorEq, reduceIte, Nat.reduceEqDiff, Nat.reduceAdd, Nat.reduceLeDiff, Nat.reduceMul, Int.reduceLT, Int.reduceLE, Int.reduceAdd, Int.reduceSub, Int.reduceMul, Int.reduceNeg, Int.reduceToNat, Int.reduceEq]) (by simp only [go_sem, reduceCtorEq, reduceIte, Nat.reduceEqDiff, Nat.reduceAdd, Nat.reduceLeDiff, Nat.reduceMul, Int.reduceLT, Int.reduceLE, Int.reduceAdd, Int.reduceSub, Int.reduceMul, Int.reduceNeg, Int.reduceToNat, Int.reduceEq]) (by simp only [go_sem, reduceCtorEq, reduceIte, Nat.reduceEqDiff, Nat.reduceAdd, Nat.reduceLeDiff, Nat.reduceMul, Int.reduceLT, Int.reduceLE, Int.reduceAdd, Int.reduceSub, Int.reduceMul, Int.reduceNeg, Int.reduceToNat, Int.reduceEq]) (by simp only [go_sem, reduceCtorEq, reduceIte, Nat.reduceEqDiff, Nat.reduceAdd, Nat.reduceLeDiff, Nat.reduceMul, Int.reduceLT, Int.reduceLE, Int.reduceAdd, Int.reduceSub, Int.reduceMul, Int.reduceNeg, Int.reduceToNat, Int.reduceEq, h8]) (by simp only [go_sem, reduceCtorEq, reduceIte, Nat.reduceEqDiff, Nat.reduceAdd, Nat.reduceLeDiff, Nat.reduceMul, Int.reduceLT, Int.reduceLE, Int.reduceAdd, Int.reduceSub, Int.reduceMul, Int.reduceNeg, Int.reduceToNat, Int.reduceEq])
end Go.Proofs.Ytmaclakgkllojaa.absTells
