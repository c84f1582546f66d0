/- The law MathsCast, walked: it returns true at every input. -/
import Derived.Test.YtlcjihpdkdngkabGreatProg
import Derived.Test.YtlcjihpdkdngkabGreatK75to79
namespace Go.Proofs.Tryz.S
open Go Go.Ax Go.Ax.N
set_option maxRecDepth 100000

/-- cellar/cellarlaw4.MathsCast -/
def c7 : SF := ⟨130, [.t 2], (.seq (.ops [k 1 (.bx 25 (t 0)),
 o 2 (.mv (b false))])
 (.seq (.seq (.ops [o 16 (.ld true 2 (t 1)),
 k 17 (.ca (.func 10) [(t 16)])])
 (.cond (t 17)
 (.seq (.ops [o 2 (.mv (b true))])
 .ret)
 .skip))
 (.seq (.seq (.ops [o 3 (.mv (i 0))])
 (.block 0 (.loop (.seq (.seq (.ops [o 18 (.mv (t 3)),
 o 19 (.bin .leq (t 18) (i 7))])
 (.cond (t 19)
 .skip
 (.exit 0)))
 (.seq (.block 1 (.seq (.ops [o 22 (.ld true 2 (t 1)),
 o 23 (.mv (t 3)),
 k 24 (.ca (.func 11) [(t 22), (t 23)]),
 o 4 (.mv (t 24))])
 (.seq (.ops [o 5 (.mv (i 0))])
 (.block 2 (.loop (.seq (.seq (.ops [o 25 (.mv (t 5)),
 o 26 (.bin .leq (t 25) (i 7))])
 (.cond (t 26)
 .skip
 (.exit 2)))
 (.seq (.block 3 (.seq (.ops [o 6 (.mv (i 0))])
 (.block 4 (.loop (.seq (.seq (.ops [o 29 (.mv (t 6)),
 o 30 (.mv (t 4)),
 o 31 (.ln (t 30)),
 o 32 (.bin .lss (t 29) (t 31))])
 (.cond (t 32)
 .skip
 (.exit 4)))
 (.seq (.block 5 (.seq (.ops [o 35 (.mv (t 4)),
 o 36 (.mv (t 6)),
 o 37 (.ia 6 (t 35) (t 36)),
 o 38 (.ld true 6 (t 37)),
 k 7 (.al 30 [.int .i64 0, .bool false, .int .i64 0, .int .i64 0, .int .i64 0, .int .i64 0]),
 kn (.st [] 6 (t 7) (t 38))])
 (.seq (.ops [o 40 (.mv (t 3)),
 o 41 (.mv (t 5)),
 o 42 (.ld true 6 (t 7)),
 k 43 (.ca (.func 12) [(t 40), (t 41), (t 42)]),
 o 39 (.mv (t 43)),
 o 44 (.ex (t 39) 0),
 o 45 (.ex (t 39) 1),
 k 8 (.al 30 [.int .i64 0, .bool false, .int .i64 0, .int .i64 0, .int .i64 0, .int .i64 0]),
 kn (.st [] 6 (t 8) (t 44)),
 o 9 (.mv (t 45))])
 (.seq (.ops [o 10 (.mv (i 1))])
 (.seq (.seq (.opd [o 46 (.mv (t 3)),
 k 47 (.ca (.func 13) [(t 46)]),
 o 48 (.bin .gtr (t 47) (i 0)),
 o 49 (.mv (t 48)),
 og 50 49 true (.mv (t 5)),
 ⟨some 51, some (49, true), .ca (.func 13) [(t 50)]⟩,
 og 52 49 true (.bin .gtr (t 51) (i 0)),
 o 53 (.pick (t 49) (t 52) (b false)),
 o 54 (.mv (t 53)),
 og 55 54 true (.ld true 6 (t 7)),
 ⟨some 56, some (54, true), .ca (.func 14) [(t 55)]⟩,
 o 57 (.pick (t 54) (t 56) (b false)),
 o 58 (.mv (t 57)),
 og 59 58 true (.fa 0 (t 7)),
 og 60 58 true (.ld false 1 (t 59)),
 og 61 58 true (.mv (t 3)),
 ⟨some 62, some (58, true), .ca (.func 13) [(t 61)]⟩,
 og 63 58 true (.bin .eql (t 60) (t 62)),
 o 64 (.pick (t 58) (t 63) (b false))])
 (.cond (t 64)
 (.ops [o 10 (.mv (i 0))])
 .skip))
 (.seq (.seq (.ops [o 65 (.mv (t 9)),
 k 66 (.ca (.func 15) [(t 65)]),
 o 67 (.mv (t 10)),
 o 68 (.bin .neq (t 66) (t 67))])
 (.cond (t 68)
 (.seq (.ops [o 2 (.mv (b false))])
 .ret)
 .skip))
 (.seq (.seq (.ops [o 69 (.mv (t 10)),
 o 70 (.bin .neq (t 69) (i 0))])
 (.cond (t 70)
 (.exit 5)
 .skip))
 (.seq (.ops [o 71 (.ld true 6 (t 7)),
 o 72 (.mv (t 6)),
 o 73 (.mv (t 5)),
 o 74 (.bin .add (t 72) (t 73)),
 k 75 (.ca (.func 16) [(t 71), (i 30), (t 74)]),
 o 11 (.mv (t 75))])
 (.seq (.seq (.opd [o 76 (.ld true 6 (t 8)),
 k 77 (.ca (.func 14) [(t 76)]),
 o 78 (.un .not (t 77)),
 o 79 (.mv (t 78)),
 og 80 79 false (.fa 0 (t 8)),
 og 81 79 false (.ld false 1 (t 80)),
 og 82 79 false (.mv (t 5)),
 ⟨some 83, some (79, false), .ca (.func 13) [(t 82)]⟩,
 og 84 79 false (.bin .neq (t 81) (t 83)),
 o 85 (.pick (t 79) (b true) (t 84)),
 o 86 (.mv (t 85)),
 og 87 86 false (.mv (t 11)),
 og 88 86 false (.ln (t 87)),
 og 89 86 false (.bin .eql (t 88) (i 0)),
 og 90 86 false (.mv (t 89)),
 og 91 90 true (.ld true 6 (t 8)),
 ⟨some 92, some (90, true), .ca (.func 17) [(t 91), (i 0)]⟩,
 og 93 90 true (.bin .geq (t 92) (i 0)),
 og 94 86 false (.pick (t 90) (t 93) (b false)),
 o 95 (.pick (t 86) (b true) (t 94))])
 (.cond (t 95)
 (.seq (.ops [o 2 (.mv (b false))])
 .ret)
 .skip))
 (.seq (.ops [o 12 (.mv (i 0))])
 (.block 6 (.loop (.seq (.seq (.ops [o 96 (.mv (t 12)),
 o 97 (.mv (t 11)),
 o 98 (.ln (t 97)),
 o 99 (.bin .lss (t 96) (t 98))])
 (.cond (t 99)
 .skip
 (.exit 6)))
 (.seq (.block 7 (.seq (.ops [o 102 (.mv (t 3)),
 o 103 (.mv (t 5)),
 o 104 (.mv (t 11)),
 o 105 (.mv (t 12)),
 o 106 (.ia 1 (t 104) (t 105)),
 o 107 (.ld false 1 (t 106)),
 k 108 (.ca (.func 18) [(t 102), (t 103), (t 107)]),
 o 13 (.mv (t 108))])
 (.seq (.seq (.ops [o 109 (.ld true 6 (t 8)),
 o 110 (.mv (t 13)),
 k 111 (.ca (.func 19) [(t 109), (t 110)]),
 o 112 (.un .not (t 111))])
 (.cond (t 112)
 (.seq (.ops [o 2 (.mv (b false))])
 .ret)
 .skip))
 (.seq (.ops [o 114 (.ld true 6 (t 7)),
 k 115 (.ca (.func 20) [(t 114)]),
 o 113 (.mv (t 115)),
 o 116 (.ex (t 113) 0),
 o 117 (.ex (t 113) 1),
 o 14 (.mv (t 116)),
 o 15 (.mv (t 117))])
 (.seq (.ops [o 118 (.mv (t 15)),
 o 119 (.mv (t 118)),
 og 120 119 true (.ld true 6 (t 8)),
 og 121 119 true (.mv (t 13)),
 ⟨some 122, some (119, true), .ca (.func 21) [(t 120), (.const (.slice none 0 0)), (t 121), (i 0)]⟩,
 og 123 119 true (.un .not (t 122)),
 o 124 (.pick (t 119) (t 123) (b false))])
 (.cond (t 124)
 (.seq (.ops [o 2 (.mv (b false))])
 .ret)
 .skip))))))
 (.ops [o 100 (.mv (t 12)),
 o 101 (.bin .add (t 100) (i 1)),
 o 12 (.mv (t 101))])))))))))))))))
 (.ops [o 33 (.mv (t 6)),
 o 34 (.bin .add (t 33) (i 1)),
 o 6 (.mv (t 34))])))))))
 (.ops [o 27 (.mv (t 5)),
 o 28 (.bin .add (t 27) (i 1)),
 o 5 (.mv (t 28))]))))))))
 (.ops [o 20 (.mv (t 3)),
 o 21 (.bin .add (t 20) (i 1)),
 o 3 (.mv (t 21))]))))))
 (.seq (.ops [k 125 (.ca (.func 22) [(i 3), (i 2)]),
 o 126 (.bin .eql (t 125) (i 1)),
 o 127 (.mv (t 126)),
 ⟨some 128, some (127, true), .ca (.func 23) []⟩,
 o 129 (.pick (t 127) (t 128) (b false)),
 o 2 (.mv (t 129))])
 .ret))))⟩
theorem e7 : slimF Tryz.prog Tryz.f7 [[(0, []), (1, []), (2, []), (3, []), (4, []), (5, []), (6, []), (7, []), (8, []), (9, []), (10, []), (11, []), (12, []), (13, []), (14, []), (15, []), (16, []), (17, []), (18, [])], [(0, []), (1, []), (2, []), (3, []), (4, []), (5, []), (6, []), (7, []), (8, []), (9, []), (10, []), (11, []), (12, []), (13, []), (14, []), (15, []), (16, []), (17, []), (18, []), (19, [])]] = some c7 := by kernel_rfl
end Go.Proofs.Tryz.S
namespace Go.Proofs.YtlcjihpdkdngkabGreat.mathsCast
open Go Go.Ax Go.Proofs.Tryz.S Go.Proofs.Tryz.K
set_option maxRecDepth 100000
set_option linter.unusedSimpArgs false
set_option linter.unusedVariables false
set_option maxHeartbeats 4000000

structure C0 (F0 : Fz) (M0 : Hp) (r : Nat) (ask : List Value) (σ : Env) (F : Fz) (M : Hp) : Prop where
  f : F = F0
  kp : Keep M0 M
  old : Old F0 M
  fr : M r = some ⟨ask, 25, 2⟩
  h1 : Ax.look σ 1 = some (.pointer (some ⟨r, 0, none⟩))
structure C1 (F0 : Fz) (M0 : Hp) (r : Nat) (ask : List Value) (k : Nat) (sl : Value) (L : List V) (σ : Env) (F : Fz) (M : Hp) : Prop extends C0 F0 M0 r ask σ F M where
  h3 : Ax.look σ 3 = some (.int .i64 k)
  h4 : Ax.look σ 4 = some sl
  rd : RdV F0 M sl L
structure C2 (F0 : Fz) (M0 : Hp) (r : Nat) (ask : List Value) (k : Nat) (sl : Value) (L : List V) (t : Nat) (σ : Env) (F : Fz) (M : Hp) : Prop extends C1 F0 M0 r ask k sl L σ F M where
  h5 : Ax.look σ 5 = some (.int .i64 t)
structure C3 (F0 : Fz) (M0 : Hp) (r : Nat) (ask : List Value) (k : Nat) (sl : Value) (L : List V) (t i : Nat) (σ : Env) (F : Fz) (M : Hp) : Prop extends C2 F0 M0 r ask k sl L t σ F M where
  h6 : Ax.look σ 6 = some (.int .i64 i)
structure C4 (F0 : Fz) (M0 : Hp) (r : Nat) (ask : List Value) (k : Nat) (sl : Value) (L : List V) (t i : Nat) (a : V) (σ : Env) (F : Fz) (M : Hp) : Prop extends C3 F0 M0 r ask k sl L t i σ F M where
  h7 : ∃ r7, Ax.look σ 7 = some (.pointer (some ⟨r7, 0, none⟩)) ∧ M r7 = some ⟨a.cs, 30, 6⟩
structure C5 (F0 : Fz) (M0 : Hp) (r : Nat) (ask : List Value) (k : Nat) (sl : Value) (L : List V) (t i : Nat) (a z : V) (σ : Env) (F : Fz) (M : Hp) : Prop extends C4 F0 M0 r ask k sl L t i a σ F M where
  h8 : ∃ r8, Ax.look σ 8 = some (.pointer (some ⟨r8, 0, none⟩)) ∧ M r8 = some ⟨z.cs, 30, 6⟩
structure C6 (F0 : Fz) (M0 : Hp) (r : Nat) (ask : List Value) (k : Nat) (sl : Value) (L : List V) (t i : Nat) (a z : V) (lu : List Int) (σ : Env) (F : Fz) (M : Hp) : Prop extends C5 F0 M0 r ask k sl L t i a z σ F M where
  h11 : ∃ q, Ax.look σ 11 = some q ∧ RowI M q lu
section
variable {F0 : Fz} {M0 : Hp} {r : Nat} {ask : List Value} {k : Nat} {sl : Value} {L : List V} {t i : Nat} {a z : V} {lu : List Int} {σ σ' : Env} {F : Fz} {M M' : Hp}
theorem C0.ext (s : C0 F0 M0 r ask σ F M) (e1 : Ax.look σ' 1 = Ax.look σ 1) : C0 F0 M0 r ask σ' F M := ⟨s.f, s.kp, s.old, s.fr, e1.trans s.h1⟩
theorem C1.ext (s : C1 F0 M0 r ask k sl L σ F M) (e1 : Ax.look σ' 1 = Ax.look σ 1) (e3 : Ax.look σ' 3 = Ax.look σ 3) (e4 : Ax.look σ' 4 = Ax.look σ 4) : C1 F0 M0 r ask k sl L σ' F M := ⟨s.toC0.ext e1, e3.trans s.h3, e4.trans s.h4, s.rd⟩
theorem C2.ext (s : C2 F0 M0 r ask k sl L t σ F M) (e1 : Ax.look σ' 1 = Ax.look σ 1) (e3 : Ax.look σ' 3 = Ax.look σ 3) (e4 : Ax.look σ' 4 = Ax.look σ 4) (e5 : Ax.look σ' 5 = Ax.look σ 5) : C2 F0 M0 r ask k sl L t σ' F M := ⟨s.toC1.ext e1 e3 e4, e5.trans s.h5⟩
theorem C3.ext (s : C3 F0 M0 r ask k sl L t i σ F M) (e1 : Ax.look σ' 1 = Ax.look σ 1) (e3 : Ax.look σ' 3 = Ax.look σ 3) (e4 : Ax.look σ' 4 = Ax.look σ 4) (e5 : Ax.look σ' 5 = Ax.look σ 5) (e6 : Ax.look σ' 6 = Ax.look σ 6) : C3 F0 M0 r ask k sl L t i σ' F M := ⟨s.toC2.ext e1 e3 e4 e5, e6.trans s.h6⟩
theorem C3.grow (s : C3 F0 M0 r ask k sl L t i σ F M) (kp : Keep M M') (o : Old F0 M') : C3 F0 M0 r ask k sl L t i σ F M' := ⟨⟨⟨⟨s.f, s.kp.trans kp, o, kp _ _ s.fr, s.h1⟩, s.h3, s.h4, s.rd.keep kp o⟩, s.h5⟩, s.h6⟩
theorem C4.ext (s : C4 F0 M0 r ask k sl L t i a σ F M) (e1 : Ax.look σ' 1 = Ax.look σ 1) (e3 : Ax.look σ' 3 = Ax.look σ 3) (e4 : Ax.look σ' 4 = Ax.look σ 4) (e5 : Ax.look σ' 5 = Ax.look σ 5) (e6 : Ax.look σ' 6 = Ax.look σ 6) (e7 : Ax.look σ' 7 = Ax.look σ 7) : C4 F0 M0 r ask k sl L t i a σ' F M := by
  obtain ⟨r7, h7, f7⟩ := s.h7
  exact ⟨s.toC3.ext e1 e3 e4 e5 e6, r7, e7.trans h7, f7⟩
theorem C4.grow (s : C4 F0 M0 r ask k sl L t i a σ F M) (kp : Keep M M') (o : Old F0 M') : C4 F0 M0 r ask k sl L t i a σ F M' := by
  obtain ⟨r7, h7, f7⟩ := s.h7
  exact ⟨s.toC3.grow kp o, r7, h7, kp _ _ f7⟩
theorem C5.ext (s : C5 F0 M0 r ask k sl L t i a z σ F M) (e1 : Ax.look σ' 1 = Ax.look σ 1) (e3 : Ax.look σ' 3 = Ax.look σ 3) (e4 : Ax.look σ' 4 = Ax.look σ 4) (e5 : Ax.look σ' 5 = Ax.look σ 5) (e6 : Ax.look σ' 6 = Ax.look σ 6) (e7 : Ax.look σ' 7 = Ax.look σ 7) (e8 : Ax.look σ' 8 = Ax.look σ 8) : C5 F0 M0 r ask k sl L t i a z σ' F M := by
  obtain ⟨r8, h8, f8⟩ := s.h8
  exact ⟨s.toC4.ext e1 e3 e4 e5 e6 e7, r8, e8.trans h8, f8⟩
theorem C5.grow (s : C5 F0 M0 r ask k sl L t i a z σ F M) (kp : Keep M M') (o : Old F0 M') : C5 F0 M0 r ask k sl L t i a z σ F M' := by
  obtain ⟨r8, h8, f8⟩ := s.h8
  exact ⟨s.toC4.grow kp o, r8, h8, kp _ _ f8⟩
theorem C6.ext (s : C6 F0 M0 r ask k sl L t i a z lu σ F M) (e1 : Ax.look σ' 1 = Ax.look σ 1) (e3 : Ax.look σ' 3 = Ax.look σ 3) (e4 : Ax.look σ' 4 = Ax.look σ 4) (e5 : Ax.look σ' 5 = Ax.look σ 5) (e6 : Ax.look σ' 6 = Ax.look σ 6) (e7 : Ax.look σ' 7 = Ax.look σ 7) (e8 : Ax.look σ' 8 = Ax.look σ 8) (e11 : Ax.look σ' 11 = Ax.look σ 11) : C6 F0 M0 r ask k sl L t i a z lu σ' F M := by
  obtain ⟨q, h11, f11⟩ := s.h11
  exact ⟨s.toC5.ext e1 e3 e4 e5 e6 e7 e8, q, e11.trans h11, f11⟩
end
def kI (F0 : Fz) (M0 : Hp) (r : Nat) (ask : List Value) (m : Nat) (σ : Env) (F : Fz) (M : Hp) : Prop := C0 F0 M0 r ask σ F M ∧ ∃ k : Nat, k + m = 8 ∧ Ax.look σ 3 = some (.int .i64 k)
def tI (F0 : Fz) (M0 : Hp) (r : Nat) (ask : List Value) (k : Nat) (sl : Value) (L : List V) (m : Nat) (σ : Env) (F : Fz) (M : Hp) : Prop := ∃ t : Nat, C2 F0 M0 r ask k sl L t σ F M ∧ t + m = 8
def iI (F0 : Fz) (M0 : Hp) (r : Nat) (ask : List Value) (k : Nat) (sl : Value) (L : List V) (t : Nat) (m : Nat) (σ : Env) (F : Fz) (M : Hp) : Prop := ∃ i : Nat, C3 F0 M0 r ask k sl L t i σ F M ∧ i + m = L.length
def C4e (F0 : Fz) (M0 : Hp) (r : Nat) (ask : List Value) (k : Nat) (sl : Value) (L : List V) (t i : Nat) (σ : Env) (F : Fz) (M : Hp) : Prop := ∃ a, C4 F0 M0 r ask k sl L t i a σ F M
def C5e (F0 : Fz) (M0 : Hp) (r : Nat) (ask : List Value) (k : Nat) (sl : Value) (L : List V) (t i : Nat) (a : V) (σ : Env) (F : Fz) (M : Hp) : Prop :=
  ∃ z, C5 F0 M0 r ask k sl L t i a z σ F M ∧ ((okC k t a = true ∧ Ax.look σ 9 = some (.int .i64 0) ∧ TurnR k t a z) ∨ (okC k t a = false ∧ Ax.look σ 9 = some (.int .i64 1)))
def C5b (F0 : Fz) (M0 : Hp) (r : Nat) (ask : List Value) (k : Nat) (sl : Value) (L : List V) (t i : Nat) (a z : V) (σ : Env) (F : Fz) (M : Hp) : Prop :=
  C5 F0 M0 r ask k sl L t i a z σ F M ∧ Ax.look σ 9 = some (.int .i64 (if okC k t a then 0 else 1)) ∧ Ax.look σ 10 = some (.int .i64 (if okC k t a then 0 else 1))
def C6e (F0 : Fz) (M0 : Hp) (r : Nat) (ask : List Value) (k : Nat) (sl : Value) (L : List V) (t i : Nat) (a z : V) (σ : Env) (F : Fz) (M : Hp) : Prop :=
  ∃ lu, C6 F0 M0 r ask k sl L t i a z lu σ F M ∧ lu.length ≤ 1000 ∧ (lu = [] → a.nextR 0 < 0) ∧ (∀ y ∈ lu, 0 ≤ y ∧ y ≤ mostV a.w ∧ a.has y = true)
def sI (F0 : Fz) (M0 : Hp) (r : Nat) (ask : List Value) (k : Nat) (sl : Value) (L : List V) (t i : Nat) (a z : V) (lu : List Int) (m : Nat) (σ : Env) (F : Fz) (M : Hp) : Prop :=
  C6 F0 M0 r ask k sl L t i a z lu σ F M ∧ ∃ s : Nat, s + m = lu.length ∧ Ax.look σ 12 = some (.int .i64 s)

theorem call (W : World) (cs : List Value) (h : Rd (fzOf W) (.cons 1 (.slice 6 48 (.cons 1 (.int .i64) (.cons 1 .bool (.cons 1 (.int .i64) (.cons 1 (.int .i64) (.cons 1 (.int .i64) (.cons 1 (.int .i64) .nil))))))) (.cons 1 (.slice 1 8 (.int .i64)) .nil)) cs) :
  CallsA Tryz.prog 7 [.agg cs.toArray] (fzOf W) noHp fun r _ _ => r = .bool true := by
  obtain ⟨vV, vN, rfl, hV, hN⟩ := rd_ask h
  obtain ⟨aV, cV, lv, rfl, hlV, _, hlen, _, hcV⟩ := rd_Vs hV
  obtain ⟨aN, cN, ln, rfl, hl, hmx, hs, hin, h0, hc⟩ := rd_ints hN
  refine callsA_of hm Tryz.func7 e7 (Nat.le_of_ble_eq_true rfl) ?_
  simp only [c7, go_sem, reduceCtorEq, reduceIte, Nat.reduceEqDiff, Nat.reduceAdd, Nat.reduceLeDiff, Nat.reduceMul, Int.reduceLT, Int.reduceLE, Int.reduceAdd, Int.reduceSub, Int.reduceMul, Int.reduceNeg, Int.reduceToNat, Int.reduceEq]
  intro r hF hM
  have old := (Old.start (fzOf W)).upd (e := ⟨[.slice aV lv.length cV, .slice aN ln.length cN], 25, 2⟩) hF
  have rV : RdV (fzOf W) (noHp.upd r ⟨[.slice aV lv.length cV, .slice aN ln.length cN], 25, 2⟩) (.slice aV lv.length cV) lv := by
    refine ⟨by omega, aV, cV, hlV, rfl, ?_⟩
    rcases hcV with h | ⟨b, o, cs, h1, h2, h3⟩
    · exact .inl h
    · exact .inr ⟨b, o, cs, h1, old.blk h2, h3⟩
  have rN : RdI (fzOf W) (noHp.upd r ⟨[.slice aV lv.length cV, .slice aN ln.length cN], 25, 2⟩) (.slice aN ln.length cN) ln := by
    refine ⟨by omega, aN, cN, rfl, ?_⟩
    rcases hc with h | ⟨b, o, cs, h1, h2, h3⟩
    · exact .inl h
    · exact .inr ⟨b, o, cs, h1, old.blk h2, h3⟩
  have fr0 : (noHp.upd r ⟨[.slice aV lv.length cV, .slice aN ln.length cN], 25, 2⟩) r = some ⟨[.slice aV lv.length cV, .slice aN ln.length cN], 25, 2⟩ := Hp.upd_same _ _ _
  simp only [go_sem, reduceCtorEq, reduceIte, Nat.reduceEqDiff, Nat.reduceAdd, Nat.reduceLeDiff, Nat.reduceMul, Int.reduceLT, Int.reduceLE, Int.reduceAdd, Int.reduceSub, Int.reduceMul, Int.reduceNeg, Int.reduceToNat, Int.reduceEq]
  refine callK_same (k10 _ _ aV aN lv.length ln.length cV cN) ?_
  cases hh : (decide (100 < (lv.length : Int)) || decide (100 < (ln.length : Int)))
  rotate_left
  · simp only [go_sem, reduceCtorEq, reduceIte, Nat.reduceEqDiff, Nat.reduceAdd, Nat.reduceLeDiff, Nat.reduceMul, Int.reduceLT, Int.reduceLE, Int.reduceAdd, Int.reduceSub, Int.reduceMul, Int.reduceNeg, Int.reduceToNat, Int.reduceEq]
    exact endK_same rfl
  simp only [go_sem, reduceCtorEq, reduceIte, Nat.reduceEqDiff, Nat.reduceAdd, Nat.reduceLeDiff, Nat.reduceMul, Int.reduceLT, Int.reduceLE, Int.reduceAdd, Int.reduceSub, Int.reduceMul, Int.reduceNeg, Int.reduceToNat, Int.reduceEq]
  generalize noHp.upd r ⟨[.slice aV lv.length cV, .slice aN ln.length cN], 25, 2⟩ = M0 at *
  refine loop_of (kI (fzOf W) M0 r [.slice aV lv.length cV, .slice aN ln.length cN]) 8 ?_ ?_
  · exact ⟨⟨rfl, Keep.refl _, old, fr0, by simp only [go_sem, reduceCtorEq, reduceIte, Nat.reduceEqDiff]⟩, 0, by omega, by simp only [go_sem, reduceCtorEq, reduceIte, Nat.reduceEqDiff] <;> rfl⟩
  rintro mk σ F M ⟨s, k, hk, h3⟩
  obtain rfl := s.f
  by_cases hk7 : (k : Int) ≤ 7
  rotate_left
  · simp only [go_sem, reduceCtorEq, reduceIte, Nat.reduceEqDiff, Nat.reduceAdd, Nat.reduceLeDiff, Nat.reduceMul, Int.reduceLT, Int.reduceLE, Int.reduceAdd, Int.reduceSub, Int.reduceMul, Int.reduceNeg, Int.reduceToNat, Int.reduceEq, s.h1, h3, hk7]
    refine callK_same (k22 _ _) ?_
    simp only [go_sem, reduceCtorEq, reduceIte, Nat.reduceEqDiff, Nat.reduceAdd, Nat.reduceLeDiff, Nat.reduceMul, Int.reduceLT, Int.reduceLE, Int.reduceAdd, Int.reduceSub, Int.reduceMul, Int.reduceNeg, Int.reduceToNat, Int.reduceEq]
    refine callK_same (k23 _ _ s.old) ?_
    simp only [go_sem, reduceCtorEq, reduceIte, Nat.reduceEqDiff, Nat.reduceAdd, Nat.reduceLeDiff, Nat.reduceMul, Int.reduceLT, Int.reduceLE, Int.reduceAdd, Int.reduceSub, Int.reduceMul, Int.reduceNeg, Int.reduceToNat, Int.reduceEq]
    exact endK_same rfl
  have ek : IntKind.i64.wrap ((k : Int) + 1) = k + 1 := w64 (by omega) (by omega)
  have br := blk_M (F := fzOf W) s.fr
  simp only [go_sem, reduceCtorEq, reduceIte, Nat.reduceEqDiff, Nat.reduceAdd, Nat.reduceLeDiff, Nat.reduceMul, Int.reduceLT, Int.reduceLE, Int.reduceAdd, Int.reduceSub, Int.reduceMul, Int.reduceNeg, Int.reduceToNat, Int.reduceEq, s.h1, h3, hk7, br]
  refine callK_of (k11 _ _ k _ _ lv ln s.old (rV.keep s.kp s.old) (rN.keep s.kp s.old)) ?_
  rintro u G M2 ⟨hG, L, g, cap, hL, hLc, rfl, hFg, hMg, hM2'⟩
  rw [hG, hM2']
  refine ⟨fun _ => Le.upd hFg hMg, ?_⟩
  have gg := ne_of_none hMg s.fr
  have kp2 := s.kp.new (s.kp.free hMg) (e := ⟨L.flatMap V.cs, 30, cap * 6⟩)
  have old2 := s.old.upd (e := ⟨L.flatMap V.cs, 30, cap * 6⟩) hFg
  have fr2 : (M.upd g ⟨L.flatMap V.cs, 30, cap * 6⟩) r = some ⟨[.slice aV lv.length cV, .slice aN ln.length cN], 25, 2⟩ := by rw [Hp.upd_ne' gg.1]; exact s.fr
  have rd2 : RdV (fzOf W) (M.upd g ⟨L.flatMap V.cs, 30, cap * 6⟩) (.slice (some ⟨g, 0, none⟩) L.length cap) L := rdV_flat (by omega) hLc blk_upd_same
  simp only [go_sem, reduceCtorEq, reduceIte, Nat.reduceEqDiff, Nat.reduceAdd, Nat.reduceLeDiff, Nat.reduceMul, Int.reduceLT, Int.reduceLE, Int.reduceAdd, Int.reduceSub, Int.reduceMul, Int.reduceNeg, Int.reduceToNat, Int.reduceEq, s.h1, h3]
  refine loop_of (tI (fzOf W) M0 r [.slice aV lv.length cV, .slice aN ln.length cN] k (.slice (some ⟨g, 0, none⟩) L.length cap) L) 8 ?_ ?_
  · exact ⟨0, ⟨⟨⟨rfl, kp2, old2, fr2, by simp only [go_sem, reduceCtorEq, reduceIte, Nat.reduceEqDiff, s.h1]⟩, by simp only [go_sem, reduceCtorEq, reduceIte, Nat.reduceEqDiff, h3], by simp only [go_sem, reduceCtorEq, reduceIte, Nat.reduceEqDiff], rd2⟩, by simp only [go_sem, reduceCtorEq, reduceIte, Nat.reduceEqDiff] <;> rfl⟩, by omega⟩
  generalize hsl : Value.slice (some ⟨g, 0, none⟩) L.length cap = sl at *
  generalize hask : [Value.slice aV lv.length cV, .slice aN ln.length cN] = ask at *
  clear kp2 old2 fr2 rd2 gg s br h3 hM2' hG hMg hFg
  rintro mt σ F M ⟨t, s, ht⟩
  obtain rfl := s.f
  by_cases ht7 : (t : Int) ≤ 7
  rotate_left
  · simp only [go_sem, reduceCtorEq, reduceIte, Nat.reduceEqDiff, Nat.reduceAdd, Nat.reduceLeDiff, Nat.reduceMul, Int.reduceLT, Int.reduceLE, Int.reduceAdd, Int.reduceSub, Int.reduceMul, Int.reduceNeg, Int.reduceToNat, Int.reduceEq, s.h1, s.h3, s.h4, s.h5, ht7, ek]
    exact ⟨mk - 1, by omega, s.toC0.ext (by simp only [go_sem, reduceCtorEq, reduceIte, Nat.reduceEqDiff]), k + 1, by omega, by simp only [go_sem, reduceCtorEq, reduceIte, Nat.reduceEqDiff]; rfl⟩
  have et : IntKind.i64.wrap ((t : Int) + 1) = t + 1 := w64 (by omega) (by omega)
  simp only [go_sem, reduceCtorEq, reduceIte, Nat.reduceEqDiff, Nat.reduceAdd, Nat.reduceLeDiff, Nat.reduceMul, Int.reduceLT, Int.reduceLE, Int.reduceAdd, Int.reduceSub, Int.reduceMul, Int.reduceNeg, Int.reduceToNat, Int.reduceEq, s.h1, s.h3, s.h4, s.h5, ht7]
  refine loop_of (iI (fzOf W) M0 r ask k sl L t) L.length ?_ ?_
  · exact ⟨0, ⟨s.ext (by simp only [go_sem, reduceCtorEq, reduceIte, Nat.reduceEqDiff]) (by simp only [go_sem, reduceCtorEq, reduceIte, Nat.reduceEqDiff]) (by simp only [go_sem, reduceCtorEq, reduceIte, Nat.reduceEqDiff]) (by simp only [go_sem, reduceCtorEq, reduceIte, Nat.reduceEqDiff]), by simp only [go_sem, reduceCtorEq, reduceIte, Nat.reduceEqDiff] <;> rfl⟩, by omega⟩
  clear s
  rintro mi σ F M ⟨i, s, hi⟩
  obtain rfl := s.f
  have h4 := s.h4
  rw [← hsl] at h4
  by_cases hil : (i : Int) < L.length
  rotate_left
  · simp only [go_sem, reduceCtorEq, reduceIte, Nat.reduceEqDiff, Nat.reduceAdd, Nat.reduceLeDiff, Nat.reduceMul, Int.reduceLT, Int.reduceLE, Int.reduceAdd, Int.reduceSub, Int.reduceMul, Int.reduceNeg, Int.reduceToNat, Int.reduceEq, s.h1, s.h3, h4, s.h5, s.h6, hil, et]
    exact ⟨mt - 1, by omega, t + 1, ⟨s.toC1.ext (by simp only [go_sem, reduceCtorEq, reduceIte, Nat.reduceEqDiff]) (by simp only [go_sem, reduceCtorEq, reduceIte, Nat.reduceEqDiff]) (by simp only [go_sem, reduceCtorEq, reduceIte, Nat.reduceEqDiff, h4, s.h4]), by simp only [go_sem, reduceCtorEq, reduceIte, Nat.reduceEqDiff]; rfl⟩, by omega⟩
  have ei : IntKind.i64.wrap ((i : Int) + 1) = i + 1 := w64 (by omega) (by omega)
  refine cut (C3 (fzOf W) M0 r ask k sl L t i) ?_ ?_
  · simp only [go_sem, reduceCtorEq, reduceIte, Nat.reduceEqDiff, Nat.reduceAdd, Nat.reduceLeDiff, Nat.reduceMul, Int.reduceLT, Int.reduceLE, Int.reduceAdd, Int.reduceSub, Int.reduceMul, Int.reduceNeg, Int.reduceToNat, Int.reduceEq, s.h1, s.h3, h4, s.h5, s.h6, hil]
    exact s.ext (by simp only [go_sem, reduceCtorEq, reduceIte, Nat.reduceEqDiff]) (by simp only [go_sem, reduceCtorEq, reduceIte, Nat.reduceEqDiff]) (by simp only [go_sem, reduceCtorEq, reduceIte, Nat.reduceEqDiff, h4, s.h4]) (by simp only [go_sem, reduceCtorEq, reduceIte, Nat.reduceEqDiff]) (by simp only [go_sem, reduceCtorEq, reduceIte, Nat.reduceEqDiff])
  clear s h4
  rintro σ F M s
  obtain rfl := s.f
  refine cut (C3 (fzOf W) M0 r ask k sl L t i) ?_ ?_
  rotate_left
  · rintro σ F M s
    obtain rfl := s.f
    simp only [go_sem, reduceCtorEq, reduceIte, Nat.reduceEqDiff, Nat.reduceAdd, Nat.reduceLeDiff, Nat.reduceMul, Int.reduceLT, Int.reduceLE, Int.reduceAdd, Int.reduceSub, Int.reduceMul, Int.reduceNeg, Int.reduceToNat, Int.reduceEq, s.h1, s.h3, s.h4, s.h5, s.h6, ei]
    exact ⟨mi - 1, by omega, i + 1, ⟨s.toC2.ext (by simp only [go_sem, reduceCtorEq, reduceIte, Nat.reduceEqDiff]) (by simp only [go_sem, reduceCtorEq, reduceIte, Nat.reduceEqDiff]) (by simp only [go_sem, reduceCtorEq, reduceIte, Nat.reduceEqDiff, s.h4]) (by simp only [go_sem, reduceCtorEq, reduceIte, Nat.reduceEqDiff]), by simp only [go_sem, reduceCtorEq, reduceIte, Nat.reduceEqDiff]; rfl⟩, by omega⟩
  rw [W_block]
  refine cut (C4e (fzOf W) M0 r ask k sl L t i) ?_ ?_
  · have h4 := s.h4
    rw [← hsl] at h4
    obtain ⟨_, ad', cap', _, esl, hread⟩ := s.rd
    rw [← hsl] at esl
    cases esl
    rcases hread with h | ⟨b, o, cs, eb, hb, hc⟩
    · rw [h] at hil; simp at hil; omega
    cases eb
    have hi0 : (0 : Int) ≤ i := by omega
    have hi' : i < L.length := by omega
    obtain ⟨d1, d2⟩ := hc i hi'
    generalize L[i] = va at *
    simp only [Nat.zero_add] at d1 d2
    simp only [go_sem, reduceCtorEq, reduceIte, Nat.reduceEqDiff, Nat.reduceAdd, Nat.reduceLeDiff, Nat.reduceMul, Int.reduceLT, Int.reduceLE, Int.reduceAdd, Int.reduceSub, Int.reduceMul, Int.reduceNeg, Int.reduceToNat, Int.reduceEq, s.h1, s.h3, h4, s.h5, s.h6, hil, hi0, Int.toNat_natCast, Nat.zero_add, hb, d1, d2]
    intro r7 hF7 hM7
    have kp := (Keep.refl M).new hM7 (e := ⟨va.cs, 30, 6⟩)
    have oo := s.old.upd hF7 (e := ⟨va.cs, 30, 6⟩)
    simp only [go_sem, reduceCtorEq, reduceIte, Nat.reduceEqDiff, Nat.reduceAdd, Nat.reduceLeDiff, Nat.reduceMul, Int.reduceLT, Int.reduceLE, Int.reduceAdd, Int.reduceSub, Int.reduceMul, Int.reduceNeg, Int.reduceToNat, Int.reduceEq, s.h1, s.h3, h4, s.h5, s.h6]
    exact ⟨va, (s.grow kp oo).ext (by simp only [go_sem, reduceCtorEq, reduceIte, Nat.reduceEqDiff]) (by simp only [go_sem, reduceCtorEq, reduceIte, Nat.reduceEqDiff]) (by simp only [go_sem, reduceCtorEq, reduceIte, Nat.reduceEqDiff, h4, s.h4]) (by simp only [go_sem, reduceCtorEq, reduceIte, Nat.reduceEqDiff]) (by simp only [go_sem, reduceCtorEq, reduceIte, Nat.reduceEqDiff]), r7, by simp only [go_sem, reduceCtorEq, reduceIte, Nat.reduceEqDiff], Hp.upd_same _ _ _⟩
  clear s
  rintro σ F M ⟨a, s⟩
  obtain rfl := s.f
  refine cut (C5e (fzOf W) M0 r ask k sl L t i a) ?_ ?_
  · obtain ⟨r7, h7, f7⟩ := s.h7
    have b7 := blk_M (F := fzOf W) f7
    simp only [go_sem, reduceCtorEq, reduceIte, Nat.reduceEqDiff, Nat.reduceAdd, Nat.reduceLeDiff, Nat.reduceMul, Int.reduceLT, Int.reduceLE, Int.reduceAdd, Int.reduceSub, Int.reduceMul, Int.reduceNeg, Int.reduceToNat, Int.reduceEq, s.h1, s.h3, s.h4, s.h5, s.h6, h7, b7]
    refine callK_of (k12 _ _ k t a s.old) ?_
    rintro w G M6 ⟨hG, rfl, hw⟩
    rw [hG]
    refine ⟨(fun h => by cases h), ?_⟩
    rcases hw with ⟨hok, z, rfl, hz⟩ | ⟨hok, rfl⟩
    · simp only [go_sem, reduceCtorEq, reduceIte, Nat.reduceEqDiff, Nat.reduceAdd, Nat.reduceLeDiff, Nat.reduceMul, Int.reduceLT, Int.reduceLE, Int.reduceAdd, Int.reduceSub, Int.reduceMul, Int.reduceNeg, Int.reduceToNat, Int.reduceEq, s.h1, s.h3, s.h4, s.h5, s.h6, h7]
      intro r8 hF8 hM8
      have kp := (Keep.refl M6).new hM8 (e := ⟨z.cs, 30, 6⟩)
      have oo := s.old.upd hF8 (e := ⟨z.cs, 30, 6⟩)
      simp only [go_sem, reduceCtorEq, reduceIte, Nat.reduceEqDiff, Nat.reduceAdd, Nat.reduceLeDiff, Nat.reduceMul, Int.reduceLT, Int.reduceLE, Int.reduceAdd, Int.reduceSub, Int.reduceMul, Int.reduceNeg, Int.reduceToNat, Int.reduceEq, s.h1, s.h3, s.h4, s.h5, s.h6, h7]
      exact ⟨z, ⟨(s.grow kp oo).ext (by simp only [go_sem, reduceCtorEq, reduceIte, Nat.reduceEqDiff]) (by simp only [go_sem, reduceCtorEq, reduceIte, Nat.reduceEqDiff]) (by simp only [go_sem, reduceCtorEq, reduceIte, Nat.reduceEqDiff]) (by simp only [go_sem, reduceCtorEq, reduceIte, Nat.reduceEqDiff]) (by simp only [go_sem, reduceCtorEq, reduceIte, Nat.reduceEqDiff]) (by simp only [go_sem, reduceCtorEq, reduceIte, Nat.reduceEqDiff, h7]), r8, by simp only [go_sem, reduceCtorEq, reduceIte, Nat.reduceEqDiff], Hp.upd_same _ _ _⟩, .inl ⟨hok, by simp only [go_sem, reduceCtorEq, reduceIte, Nat.reduceEqDiff], hz⟩⟩
    · simp only [go_sem, reduceCtorEq, reduceIte, Nat.reduceEqDiff, Nat.reduceAdd, Nat.reduceLeDiff, Nat.reduceMul, Int.reduceLT, Int.reduceLE, Int.reduceAdd, Int.reduceSub, Int.reduceMul, Int.reduceNeg, Int.reduceToNat, Int.reduceEq, s.h1, s.h3, s.h4, s.h5, s.h6, h7]
      intro r8 hF8 hM8
      have kp := (Keep.refl M6).new hM8 (e := ⟨V.zero.cs, 30, 6⟩)
      have oo := s.old.upd hF8 (e := ⟨V.zero.cs, 30, 6⟩)
      simp only [go_sem, reduceCtorEq, reduceIte, Nat.reduceEqDiff, Nat.reduceAdd, Nat.reduceLeDiff, Nat.reduceMul, Int.reduceLT, Int.reduceLE, Int.reduceAdd, Int.reduceSub, Int.reduceMul, Int.reduceNeg, Int.reduceToNat, Int.reduceEq, s.h1, s.h3, s.h4, s.h5, s.h6, h7]
      exact ⟨V.zero, ⟨(s.grow kp oo).ext (by simp only [go_sem, reduceCtorEq, reduceIte, Nat.reduceEqDiff]) (by simp only [go_sem, reduceCtorEq, reduceIte, Nat.reduceEqDiff]) (by simp only [go_sem, reduceCtorEq, reduceIte, Nat.reduceEqDiff]) (by simp only [go_sem, reduceCtorEq, reduceIte, Nat.reduceEqDiff]) (by simp only [go_sem, reduceCtorEq, reduceIte, Nat.reduceEqDiff]) (by simp only [go_sem, reduceCtorEq, reduceIte, Nat.reduceEqDiff, h7]), r8, by simp only [go_sem, reduceCtorEq, reduceIte, Nat.reduceEqDiff], Hp.upd_same _ _ _⟩, .inr ⟨hok, by simp only [go_sem, reduceCtorEq, reduceIte, Nat.reduceEqDiff]⟩⟩
  clear s
  rintro σ F M ⟨z, s, hw⟩
  obtain rfl := s.f
  have h9 : Ax.look σ 9 = some (.int .i64 (if okC k t a then 0 else 1)) := by
    rcases hw with ⟨h1, h2, _⟩ | ⟨h1, h2⟩
    · rw [h2, h1]; rfl
    · rw [h2, h1]; rfl
  replace hw : okC k t a = true → TurnR k t a z := fun h => by
    rcases hw with ⟨_, _, h3⟩ | ⟨h1, _⟩
    · exact h3
    · rw [h] at h1; cases h1
  rw [Go.Ax.seq_assoc]
  refine cut (C5b (fzOf W) M0 r ask k sl L t i a z) ?_ ?_
  · obtain ⟨r7, h7, f7⟩ := s.h7
    obtain ⟨r8, h8, f8⟩ := s.h8
    have b7 := blk_M (F := fzOf W) f7
    have ofp : ∀ x, (0 : Int) < ofW x := fun x => by have := ofW_most x; omega
    have fin : ∀ {σ' : Env} {n : Int}, n = (if okC k t a then 0 else 1) → Ax.look σ' 1 = Ax.look σ 1 → Ax.look σ' 3 = Ax.look σ 3 → Ax.look σ' 4 = Ax.look σ 4 → Ax.look σ' 5 = Ax.look σ 5 → Ax.look σ' 6 = Ax.look σ 6 → Ax.look σ' 7 = Ax.look σ 7 → Ax.look σ' 8 = Ax.look σ 8 → Ax.look σ' 9 = Ax.look σ 9 → Ax.look σ' 10 = some (.int .i64 n) → C5b (fzOf W) M0 r ask k sl L t i a z σ' (fzOf W) M :=
      fun {σ' n} hn e1 e3 e4 e5 e6 e7 e8 e9 e10 => ⟨s.ext e1 e3 e4 e5 e6 e7 e8, e9.trans h9, by rw [e10, hn]⟩
    simp only [go_sem, reduceCtorEq, reduceIte, Nat.reduceEqDiff, Nat.reduceAdd, Nat.reduceLeDiff, Nat.reduceMul, Int.reduceLT, Int.reduceLE, Int.reduceAdd, Int.reduceSub, Int.reduceMul, Int.reduceNeg, Int.reduceToNat, Int.reduceEq, s.h1, s.h3, s.h4, s.h5, s.h6, h7, h8, b7]
    refine callK_same (k13 _ _ k) ?_
    cases c1 : isK k
    · have hn : okC k t a = false := by simp [okC, fitB, c1]
      have hw0 : wK k = 0 := by simp [wK, c1]
      simp only [go_sem, reduceCtorEq, reduceIte, Nat.reduceEqDiff, Nat.reduceAdd, Nat.reduceLeDiff, Nat.reduceMul, Int.reduceLT, Int.reduceLE, Int.reduceAdd, Int.reduceSub, Int.reduceMul, Int.reduceNeg, Int.reduceToNat, Int.reduceEq, s.h1, s.h3, s.h4, s.h5, s.h6, h7, h8, hw0]
      exact fin (n := 1) (by simp [hn]) (by simp only [go_sem, reduceCtorEq, reduceIte, Nat.reduceEqDiff]) (by simp only [go_sem, reduceCtorEq, reduceIte, Nat.reduceEqDiff]) (by simp only [go_sem, reduceCtorEq, reduceIte, Nat.reduceEqDiff]) (by simp only [go_sem, reduceCtorEq, reduceIte, Nat.reduceEqDiff]) (by simp only [go_sem, reduceCtorEq, reduceIte, Nat.reduceEqDiff]) (by simp only [go_sem, reduceCtorEq, reduceIte, Nat.reduceEqDiff, h7]) (by simp only [go_sem, reduceCtorEq, reduceIte, Nat.reduceEqDiff, h8]) (by simp only [go_sem, reduceCtorEq, reduceIte, Nat.reduceEqDiff]) (by simp only [go_sem, reduceCtorEq, reduceIte, Nat.reduceEqDiff])
    have o1 := ofp k
    rw [wK_of c1]
    simp only [go_sem, reduceCtorEq, reduceIte, Nat.reduceEqDiff, Nat.reduceAdd, Nat.reduceLeDiff, Nat.reduceMul, Int.reduceLT, Int.reduceLE, Int.reduceAdd, Int.reduceSub, Int.reduceMul, Int.reduceNeg, Int.reduceToNat, Int.reduceEq, s.h1, s.h3, s.h4, s.h5, s.h6, h7, h8, b7, o1]
    refine callK_same (k13 _ _ t) ?_
    cases c2 : isK t
    · have hn : okC k t a = false := by simp [okC, c2]
      have hw0 : wK t = 0 := by simp [wK, c2]
      simp only [go_sem, reduceCtorEq, reduceIte, Nat.reduceEqDiff, Nat.reduceAdd, Nat.reduceLeDiff, Nat.reduceMul, Int.reduceLT, Int.reduceLE, Int.reduceAdd, Int.reduceSub, Int.reduceMul, Int.reduceNeg, Int.reduceToNat, Int.reduceEq, s.h1, s.h3, s.h4, s.h5, s.h6, h7, h8, hw0]
      exact fin (n := 1) (by simp [hn]) (by simp only [go_sem, reduceCtorEq, reduceIte, Nat.reduceEqDiff]) (by simp only [go_sem, reduceCtorEq, reduceIte, Nat.reduceEqDiff]) (by simp only [go_sem, reduceCtorEq, reduceIte, Nat.reduceEqDiff]) (by simp only [go_sem, reduceCtorEq, reduceIte, Nat.reduceEqDiff]) (by simp only [go_sem, reduceCtorEq, reduceIte, Nat.reduceEqDiff]) (by simp only [go_sem, reduceCtorEq, reduceIte, Nat.reduceEqDiff, h7]) (by simp only [go_sem, reduceCtorEq, reduceIte, Nat.reduceEqDiff, h8]) (by simp only [go_sem, reduceCtorEq, reduceIte, Nat.reduceEqDiff]) (by simp only [go_sem, reduceCtorEq, reduceIte, Nat.reduceEqDiff])
    have o2 := ofp t
    rw [wK_of c2]
    simp only [go_sem, reduceCtorEq, reduceIte, Nat.reduceEqDiff, Nat.reduceAdd, Nat.reduceLeDiff, Nat.reduceMul, Int.reduceLT, Int.reduceLE, Int.reduceAdd, Int.reduceSub, Int.reduceMul, Int.reduceNeg, Int.reduceToNat, Int.reduceEq, s.h1, s.h3, s.h4, s.h5, s.h6, h7, h8, b7, o2]
    refine callK_same (k14 _ _ a) ?_
    cases c3 : a.ok
    · have hn : okC k t a = false := by simp [okC, fitB, c3]
      simp only [go_sem, reduceCtorEq, reduceIte, Nat.reduceEqDiff, Nat.reduceAdd, Nat.reduceLeDiff, Nat.reduceMul, Int.reduceLT, Int.reduceLE, Int.reduceAdd, Int.reduceSub, Int.reduceMul, Int.reduceNeg, Int.reduceToNat, Int.reduceEq, s.h1, s.h3, s.h4, s.h5, s.h6, h7, h8]
      exact fin (n := 1) (by simp [hn]) (by simp only [go_sem, reduceCtorEq, reduceIte, Nat.reduceEqDiff]) (by simp only [go_sem, reduceCtorEq, reduceIte, Nat.reduceEqDiff]) (by simp only [go_sem, reduceCtorEq, reduceIte, Nat.reduceEqDiff]) (by simp only [go_sem, reduceCtorEq, reduceIte, Nat.reduceEqDiff]) (by simp only [go_sem, reduceCtorEq, reduceIte, Nat.reduceEqDiff]) (by simp only [go_sem, reduceCtorEq, reduceIte, Nat.reduceEqDiff, h7]) (by simp only [go_sem, reduceCtorEq, reduceIte, Nat.reduceEqDiff, h8]) (by simp only [go_sem, reduceCtorEq, reduceIte, Nat.reduceEqDiff]) (by simp only [go_sem, reduceCtorEq, reduceIte, Nat.reduceEqDiff])
    simp only [go_sem, reduceCtorEq, reduceIte, Nat.reduceEqDiff, Nat.reduceAdd, Nat.reduceLeDiff, Nat.reduceMul, Int.reduceLT, Int.reduceLE, Int.reduceAdd, Int.reduceSub, Int.reduceMul, Int.reduceNeg, Int.reduceToNat, Int.reduceEq, s.h1, s.h3, s.h4, s.h5, s.h6, h7, h8, b7]
    refine callK_same (k13 _ _ k) ?_
    rw [wK_of c1]
    by_cases c4 : a.w = ofW k
    · have hn : okC k t a = true := by simp [okC, fitB, c1, c2, c3, c4]
      simp only [go_sem, reduceCtorEq, reduceIte, Nat.reduceEqDiff, Nat.reduceAdd, Nat.reduceLeDiff, Nat.reduceMul, Int.reduceLT, Int.reduceLE, Int.reduceAdd, Int.reduceSub, Int.reduceMul, Int.reduceNeg, Int.reduceToNat, Int.reduceEq, s.h1, s.h3, s.h4, s.h5, s.h6, h7, h8, c4]
      exact fin (n := 0) (by simp [hn]) (by simp only [go_sem, reduceCtorEq, reduceIte, Nat.reduceEqDiff]) (by simp only [go_sem, reduceCtorEq, reduceIte, Nat.reduceEqDiff]) (by simp only [go_sem, reduceCtorEq, reduceIte, Nat.reduceEqDiff]) (by simp only [go_sem, reduceCtorEq, reduceIte, Nat.reduceEqDiff]) (by simp only [go_sem, reduceCtorEq, reduceIte, Nat.reduceEqDiff]) (by simp only [go_sem, reduceCtorEq, reduceIte, Nat.reduceEqDiff, h7]) (by simp only [go_sem, reduceCtorEq, reduceIte, Nat.reduceEqDiff, h8]) (by simp only [go_sem, reduceCtorEq, reduceIte, Nat.reduceEqDiff]) (by simp only [go_sem, reduceCtorEq, reduceIte, Nat.reduceEqDiff])
    · have hn : okC k t a = false := by simp [okC, fitB, c4]
      simp only [go_sem, reduceCtorEq, reduceIte, Nat.reduceEqDiff, Nat.reduceAdd, Nat.reduceLeDiff, Nat.reduceMul, Int.reduceLT, Int.reduceLE, Int.reduceAdd, Int.reduceSub, Int.reduceMul, Int.reduceNeg, Int.reduceToNat, Int.reduceEq, s.h1, s.h3, s.h4, s.h5, s.h6, h7, h8, c4]
      exact fin (n := 1) (by simp [hn]) (by simp only [go_sem, reduceCtorEq, reduceIte, Nat.reduceEqDiff]) (by simp only [go_sem, reduceCtorEq, reduceIte, Nat.reduceEqDiff]) (by simp only [go_sem, reduceCtorEq, reduceIte, Nat.reduceEqDiff]) (by simp only [go_sem, reduceCtorEq, reduceIte, Nat.reduceEqDiff]) (by simp only [go_sem, reduceCtorEq, reduceIte, Nat.reduceEqDiff]) (by simp only [go_sem, reduceCtorEq, reduceIte, Nat.reduceEqDiff, h7]) (by simp only [go_sem, reduceCtorEq, reduceIte, Nat.reduceEqDiff, h8]) (by simp only [go_sem, reduceCtorEq, reduceIte, Nat.reduceEqDiff]) (by simp only [go_sem, reduceCtorEq, reduceIte, Nat.reduceEqDiff])
  clear s h9
  rintro σ F M ⟨s, h9, h10⟩
  obtain rfl := s.f
  cases hok : okC k t a
  · rw [hok] at h9 h10
    simp only [Bool.false_eq_true, if_false] at h9 h10
    simp only [go_sem, reduceCtorEq, reduceIte, Nat.reduceEqDiff, Nat.reduceAdd, Nat.reduceLeDiff, Nat.reduceMul, Int.reduceLT, Int.reduceLE, Int.reduceAdd, Int.reduceSub, Int.reduceMul, Int.reduceNeg, Int.reduceToNat, Int.reduceEq, s.h1, s.h3, s.h4, s.h5, s.h6, h9, h10]
    refine callK_same (k15 _ _ 1) ?_
    simp only [go_sem, reduceCtorEq, reduceIte, Nat.reduceEqDiff, Nat.reduceAdd, Nat.reduceLeDiff, Nat.reduceMul, Int.reduceLT, Int.reduceLE, Int.reduceAdd, Int.reduceSub, Int.reduceMul, Int.reduceNeg, Int.reduceToNat, Int.reduceEq, s.h1, s.h3, s.h4, s.h5, s.h6, h9, h10]
    exact s.toC3.ext (by simp only [go_sem, reduceCtorEq, reduceIte, Nat.reduceEqDiff]) (by simp only [go_sem, reduceCtorEq, reduceIte, Nat.reduceEqDiff]) (by simp only [go_sem, reduceCtorEq, reduceIte, Nat.reduceEqDiff]) (by simp only [go_sem, reduceCtorEq, reduceIte, Nat.reduceEqDiff]) (by simp only [go_sem, reduceCtorEq, reduceIte, Nat.reduceEqDiff])
  have hz := hw hok
  rw [hok] at h9 h10
  simp only [if_true] at h9 h10
  have hok' := hok
  simp only [okC, Bool.and_eq_true] at hok'
  obtain ⟨hfa, htk⟩ := hok'
  obtain ⟨hkk, ha, wa⟩ := fitB_of hfa
  rw [Go.Ax.seq_assoc, Go.Ax.seq_assoc]
  refine cut (C6e (fzOf W) M0 r ask k sl L t i a z) ?_ ?_
  · obtain ⟨r7, h7, f7⟩ := s.h7
    obtain ⟨r8, h8, f8⟩ := s.h8
    have b7 := blk_M (F := fzOf W) f7
    have eit : IntKind.i64.wrap ((i : Int) + t) = i + t := w64 (by omega) (by omega)
    simp only [go_sem, reduceCtorEq, reduceIte, Nat.reduceEqDiff, Nat.reduceAdd, Nat.reduceLeDiff, Nat.reduceMul, Int.reduceLT, Int.reduceLE, Int.reduceAdd, Int.reduceSub, Int.reduceMul, Int.reduceNeg, Int.reduceToNat, Int.reduceEq, s.h1, s.h3, s.h4, s.h5, s.h6, h7, h8, h9, h10]
    refine callK_same (k15 _ _ 0) ?_
    simp only [go_sem, reduceCtorEq, reduceIte, Nat.reduceEqDiff, Nat.reduceAdd, Nat.reduceLeDiff, Nat.reduceMul, Int.reduceLT, Int.reduceLE, Int.reduceAdd, Int.reduceSub, Int.reduceMul, Int.reduceNeg, Int.reduceToNat, Int.reduceEq, s.h1, s.h3, s.h4, s.h5, s.h6, h7, h8, h9, h10, b7, eit]
    refine callK_of (k16_genN _ _ a (i + t) 30 10 15 (by decide) (by decide) (by decide) (by decide) (by decide) ha) ?_
    rintro w G M6 hsu
    obtain ⟨hG, le1, k1, o1, lu, hlu, hnu, hmu, ru⟩ := hsu.row
    rw [hG]
    refine ⟨(fun h => by cases h), ?_⟩
    simp only [go_sem, reduceCtorEq, reduceIte, Nat.reduceEqDiff, Nat.reduceAdd, Nat.reduceLeDiff, Nat.reduceMul, Int.reduceLT, Int.reduceLE, Int.reduceAdd, Int.reduceSub, Int.reduceMul, Int.reduceNeg, Int.reduceToNat, Int.reduceEq, s.h1, s.h3, s.h4, s.h5, s.h6, h7, h8]
    exact ⟨lu, ⟨(s.grow k1 (o1 s.old)).ext (by simp only [go_sem, reduceCtorEq, reduceIte, Nat.reduceEqDiff]) (by simp only [go_sem, reduceCtorEq, reduceIte, Nat.reduceEqDiff]) (by simp only [go_sem, reduceCtorEq, reduceIte, Nat.reduceEqDiff]) (by simp only [go_sem, reduceCtorEq, reduceIte, Nat.reduceEqDiff]) (by simp only [go_sem, reduceCtorEq, reduceIte, Nat.reduceEqDiff]) (by simp only [go_sem, reduceCtorEq, reduceIte, Nat.reduceEqDiff, h7]) (by simp only [go_sem, reduceCtorEq, reduceIte, Nat.reduceEqDiff, h8]), w, by simp only [go_sem, reduceCtorEq, reduceIte, Nat.reduceEqDiff], ru⟩, hlu, hnu, hmu⟩
  clear s h9 h10
  rintro σ F M ⟨lu, s, hlu, hnu, hmu⟩
  obtain rfl := s.f
  refine cut (C6 (fzOf W) M0 r ask k sl L t i a z lu) ?_ ?_
  · obtain ⟨r7, h7, f7⟩ := s.h7
    obtain ⟨r8, h8, f8⟩ := s.h8
    obtain ⟨q, h11, f11⟩ := s.h11
    obtain ⟨a11, c11, e11⟩ := f11.shape
    have h11' := h11
    rw [e11] at h11'
    have b8 := blk_M (F := fzOf W) f8
    have lwz := isW_le (ok_in hz.ok).w
    have hzw := hz.w
    simp only [go_sem, reduceCtorEq, reduceIte, Nat.reduceEqDiff, Nat.reduceAdd, Nat.reduceLeDiff, Nat.reduceMul, Int.reduceLT, Int.reduceLE, Int.reduceAdd, Int.reduceSub, Int.reduceMul, Int.reduceNeg, Int.reduceToNat, Int.reduceEq, s.h1, s.h3, s.h4, s.h5, s.h6, h7, h8, h11', b8]
    refine callK_same (k14 _ _ z) ?_
    rw [hz.ok]
    simp only [go_sem, reduceCtorEq, reduceIte, Nat.reduceEqDiff, Nat.reduceAdd, Nat.reduceLeDiff, Nat.reduceMul, Int.reduceLT, Int.reduceLE, Int.reduceAdd, Int.reduceSub, Int.reduceMul, Int.reduceNeg, Int.reduceToNat, Int.reduceEq, s.h1, s.h3, s.h4, s.h5, s.h6, h7, h8, h11', b8]
    refine callK_same (k13 _ _ t) ?_
    rw [wK_of htk]
    by_cases hu0 : lu = []
    · have hv1 := hz.void (hnu hu0)
      have hv1' : ¬ 0 ≤ z.nextR 0 := by omega
      have hz0 : (lu.length : Int) = 0 := by rw [hu0]; rfl
      simp only [go_sem, reduceCtorEq, reduceIte, Nat.reduceEqDiff, Nat.reduceAdd, Nat.reduceLeDiff, Nat.reduceMul, Int.reduceLT, Int.reduceLE, Int.reduceAdd, Int.reduceSub, Int.reduceMul, Int.reduceNeg, Int.reduceToNat, Int.reduceEq, s.h1, s.h3, s.h4, s.h5, s.h6, h7, h8, h11', b8, hzw, hz0]
      refine callK_same (k17 _ _ z 0 lwz.1 lwz.2) ?_
      simp only [go_sem, reduceCtorEq, reduceIte, Nat.reduceEqDiff, Nat.reduceAdd, Nat.reduceLeDiff, Nat.reduceMul, Int.reduceLT, Int.reduceLE, Int.reduceAdd, Int.reduceSub, Int.reduceMul, Int.reduceNeg, Int.reduceToNat, Int.reduceEq, s.h1, s.h3, s.h4, s.h5, s.h6, h7, h8, h11', hv1']
      exact s.ext (by simp only [go_sem, reduceCtorEq, reduceIte, Nat.reduceEqDiff]) (by simp only [go_sem, reduceCtorEq, reduceIte, Nat.reduceEqDiff]) (by simp only [go_sem, reduceCtorEq, reduceIte, Nat.reduceEqDiff]) (by simp only [go_sem, reduceCtorEq, reduceIte, Nat.reduceEqDiff]) (by simp only [go_sem, reduceCtorEq, reduceIte, Nat.reduceEqDiff]) (by simp only [go_sem, reduceCtorEq, reduceIte, Nat.reduceEqDiff, h7]) (by simp only [go_sem, reduceCtorEq, reduceIte, Nat.reduceEqDiff, h8]) (by simp only [go_sem, reduceCtorEq, reduceIte, Nat.reduceEqDiff, h11', h11, e11])
    · have hu1 : ¬ (lu.length : Int) = 0 := by
        intro h
        exact hu0 (List.length_eq_zero_iff.1 (by omega))
      simp only [go_sem, reduceCtorEq, reduceIte, Nat.reduceEqDiff, Nat.reduceAdd, Nat.reduceLeDiff, Nat.reduceMul, Int.reduceLT, Int.reduceLE, Int.reduceAdd, Int.reduceSub, Int.reduceMul, Int.reduceNeg, Int.reduceToNat, Int.reduceEq, s.h1, s.h3, s.h4, s.h5, s.h6, h7, h8, h11', b8, hzw, hu1]
      exact s.ext (by simp only [go_sem, reduceCtorEq, reduceIte, Nat.reduceEqDiff]) (by simp only [go_sem, reduceCtorEq, reduceIte, Nat.reduceEqDiff]) (by simp only [go_sem, reduceCtorEq, reduceIte, Nat.reduceEqDiff]) (by simp only [go_sem, reduceCtorEq, reduceIte, Nat.reduceEqDiff]) (by simp only [go_sem, reduceCtorEq, reduceIte, Nat.reduceEqDiff]) (by simp only [go_sem, reduceCtorEq, reduceIte, Nat.reduceEqDiff, h7]) (by simp only [go_sem, reduceCtorEq, reduceIte, Nat.reduceEqDiff, h8]) (by simp only [go_sem, reduceCtorEq, reduceIte, Nat.reduceEqDiff, h11', h11, e11])
  clear s
  rintro σ F M s
  obtain rfl := s.f
  obtain ⟨r7, h7, f7⟩ := s.h7
  obtain ⟨r8, h8, f8⟩ := s.h8
  obtain ⟨q, h11, f11⟩ := s.h11
  obtain ⟨a11, c11, e11⟩ := f11.shape
  have h11' := h11
  rw [e11] at h11'
  simp only [go_sem, reduceCtorEq, reduceIte, Nat.reduceEqDiff, Nat.reduceAdd, Nat.reduceLeDiff, Nat.reduceMul, Int.reduceLT, Int.reduceLE, Int.reduceAdd, Int.reduceSub, Int.reduceMul, Int.reduceNeg, Int.reduceToNat, Int.reduceEq, s.h1, s.h3, s.h4, s.h5, s.h6, h7, h8, h11']
  refine loop_of (sI (fzOf W) M0 r ask k sl L t i a z lu) lu.length ?_ ?_
  · exact ⟨s.ext (by simp only [go_sem, reduceCtorEq, reduceIte, Nat.reduceEqDiff]) (by simp only [go_sem, reduceCtorEq, reduceIte, Nat.reduceEqDiff]) (by simp only [go_sem, reduceCtorEq, reduceIte, Nat.reduceEqDiff]) (by simp only [go_sem, reduceCtorEq, reduceIte, Nat.reduceEqDiff]) (by simp only [go_sem, reduceCtorEq, reduceIte, Nat.reduceEqDiff]) (by simp only [go_sem, reduceCtorEq, reduceIte, Nat.reduceEqDiff, h7]) (by simp only [go_sem, reduceCtorEq, reduceIte, Nat.reduceEqDiff, h8]) (by simp only [go_sem, reduceCtorEq, reduceIte, Nat.reduceEqDiff, h11', h11, e11]), 0, by omega, by simp only [go_sem, reduceCtorEq, reduceIte, Nat.reduceEqDiff] <;> rfl⟩
  clear h7 h8 h11 h11' f7 f8 f11 e11
  clear s r7 r8 q
  rintro ms σ F M ⟨s, ns, hns, h12⟩
  obtain rfl := s.f
  obtain ⟨r7, h7, f7⟩ := s.h7
  obtain ⟨r8, h8, f8⟩ := s.h8
  obtain ⟨q, h11, f11⟩ := s.h11
  obtain ⟨a11, c11, e11⟩ := f11.shape
  have h11' := h11
  rw [e11] at h11'
  by_cases hnl : (ns : Int) < lu.length
  rotate_left
  · simp only [go_sem, reduceCtorEq, reduceIte, Nat.reduceEqDiff, Nat.reduceAdd, Nat.reduceLeDiff, Nat.reduceMul, Int.reduceLT, Int.reduceLE, Int.reduceAdd, Int.reduceSub, Int.reduceMul, Int.reduceNeg, Int.reduceToNat, Int.reduceEq, s.h1, s.h3, s.h4, s.h5, s.h6, h7, h8, h11', h12, hnl]
    exact s.toC3.ext (by simp only [go_sem, reduceCtorEq, reduceIte, Nat.reduceEqDiff]) (by simp only [go_sem, reduceCtorEq, reduceIte, Nat.reduceEqDiff]) (by simp only [go_sem, reduceCtorEq, reduceIte, Nat.reduceEqDiff]) (by simp only [go_sem, reduceCtorEq, reduceIte, Nat.reduceEqDiff]) (by simp only [go_sem, reduceCtorEq, reduceIte, Nat.reduceEqDiff])
  have ens : IntKind.i64.wrap ((ns : Int) + 1) = ns + 1 := w64 (by omega) (by omega)
  have hns0 : (0 : Int) ≤ ns := by omega
  have hns' : ns < lu.length := by omega
  obtain ⟨gu, cu, eu, bu, du⟩ := f11.get (F := fzOf W) hns'
  have h11'' := h11
  rw [eu] at h11''
  obtain ⟨u1, u2, u3⟩ := hmu lu[ns] (List.getElem_mem _)
  generalize lu[ns] = pu at *
  have b7 := blk_M (F := fzOf W) f7
  have b8 := blk_M (F := fzOf W) f8
  have hall := hz.all pu u1 u2 u3
  have hO1 : onlyA a = .tuple #[.int .i64 (a.nextR 0), .bool a.is1] := rfl
  simp only [go_sem, reduceCtorEq, reduceIte, Nat.reduceEqDiff, Nat.reduceAdd, Nat.reduceLeDiff, Nat.reduceMul, Int.reduceLT, Int.reduceLE, Int.reduceAdd, Int.reduceSub, Int.reduceMul, Int.reduceNeg, Int.reduceToNat, Int.reduceEq, s.h1, s.h3, s.h4, s.h5, s.h6, h7, h8, h11'', h12, hnl, hns0, Int.toNat_natCast, Nat.mul_one, Nat.zero_add, bu, du, b7, b8]
  refine callK_same (k18 _ _ k t pu htk u1 (by rw [← wa]; exact u2)) ?_
  simp only [go_sem, reduceCtorEq, reduceIte, Nat.reduceEqDiff, Nat.reduceAdd, Nat.reduceLeDiff, Nat.reduceMul, Int.reduceLT, Int.reduceLE, Int.reduceAdd, Int.reduceSub, Int.reduceMul, Int.reduceNeg, Int.reduceToNat, Int.reduceEq, s.h1, s.h3, s.h4, s.h5, s.h6, h7, h8, h11'', h12, b7, b8]
  refine callK_same (k19 _ _ z _) ?_
  have hall' : z.has (seenV k pu % 2 ^ (ofW t).toNat) = true := hall
  rw [hall']
  simp only [go_sem, reduceCtorEq, reduceIte, Nat.reduceEqDiff, Nat.reduceAdd, Nat.reduceLeDiff, Nat.reduceMul, Int.reduceLT, Int.reduceLE, Int.reduceAdd, Int.reduceSub, Int.reduceMul, Int.reduceNeg, Int.reduceToNat, Int.reduceEq, s.h1, s.h3, s.h4, s.h5, s.h6, h7, h8, h11'', h12, b7, b8]
  refine callK_same (k20 _ _ a ha) ?_
  cases i1 : a.is1
  · simp only [hO1, go_sem, reduceCtorEq, reduceIte, Nat.reduceEqDiff, Nat.reduceAdd, Nat.reduceLeDiff, Nat.reduceMul, Int.reduceLT, Int.reduceLE, Int.reduceAdd, Int.reduceSub, Int.reduceMul, Int.reduceNeg, Int.reduceToNat, Int.reduceEq, s.h1, s.h3, s.h4, s.h5, s.h6, h7, h8, h11'', h12, b7, b8, i1, ens]
    exact ⟨ms - 1, by omega, s.ext (by simp only [go_sem, reduceCtorEq, reduceIte, Nat.reduceEqDiff]) (by simp only [go_sem, reduceCtorEq, reduceIte, Nat.reduceEqDiff]) (by simp only [go_sem, reduceCtorEq, reduceIte, Nat.reduceEqDiff]) (by simp only [go_sem, reduceCtorEq, reduceIte, Nat.reduceEqDiff]) (by simp only [go_sem, reduceCtorEq, reduceIte, Nat.reduceEqDiff]) (by simp only [go_sem, reduceCtorEq, reduceIte, Nat.reduceEqDiff, h7]) (by simp only [go_sem, reduceCtorEq, reduceIte, Nat.reduceEqDiff, h8]) (by simp only [go_sem, reduceCtorEq, reduceIte, Nat.reduceEqDiff, h11'', h11, eu]), ns + 1, by omega, by simp only [go_sem, reduceCtorEq, reduceIte, Nat.reduceEqDiff]; rfl⟩
  have hma := is1_mem ha i1
  have ep : pu = a.nextR 0 := hma.2.2.2 _ u1 u2 u3
  obtain ⟨o1, o2⟩ := hz.one i1
  rw [← ep] at o1
  simp only [hO1, go_sem, reduceCtorEq, reduceIte, Nat.reduceEqDiff, Nat.reduceAdd, Nat.reduceLeDiff, Nat.reduceMul, Int.reduceLT, Int.reduceLE, Int.reduceAdd, Int.reduceSub, Int.reduceMul, Int.reduceNeg, Int.reduceToNat, Int.reduceEq, s.h1, s.h3, s.h4, s.h5, s.h6, h7, h8, h11'', h12, b7, b8, i1]
  refine callK_same (k21 _ _ z (.slice none 0 0) [] (seenV k pu % 2 ^ (ofW t).toNat, 0) hz.ok (.inl ⟨rfl, rfl⟩) (by rw [if_pos rfl]; exact ⟨o1, o2, rfl⟩)) ?_
  simp only [go_sem, reduceCtorEq, reduceIte, Nat.reduceEqDiff, Nat.reduceAdd, Nat.reduceLeDiff, Nat.reduceMul, Int.reduceLT, Int.reduceLE, Int.reduceAdd, Int.reduceSub, Int.reduceMul, Int.reduceNeg, Int.reduceToNat, Int.reduceEq, s.h1, s.h3, s.h4, s.h5, s.h6, h7, h8, h11'', h12, ens]
  exact ⟨ms - 1, by omega, s.ext (by simp only [go_sem, reduceCtorEq, reduceIte, Nat.reduceEqDiff]) (by simp only [go_sem, reduceCtorEq, reduceIte, Nat.reduceEqDiff]) (by simp only [go_sem, reduceCtorEq, reduceIte, Nat.reduceEqDiff]) (by simp only [go_sem, reduceCtorEq, reduceIte, Nat.reduceEqDiff]) (by simp only [go_sem, reduceCtorEq, reduceIte, Nat.reduceEqDiff]) (by simp only [go_sem, reduceCtorEq, reduceIte, Nat.reduceEqDiff, h7]) (by simp only [go_sem, reduceCtorEq, reduceIte, Nat.reduceEqDiff, h8]) (by simp only [go_sem, reduceCtorEq, reduceIte, Nat.reduceEqDiff, h11'', h11, eu]), ns + 1, by omega, by simp only [go_sem, reduceCtorEq, reduceIte, Nat.reduceEqDiff]; rfl⟩
end Go.Proofs.YtlcjihpdkdngkabGreat.mathsCast
